/- My texts L5, joined: a claim takes at most 60 files. -/
import Derived.Test.YtohlillcaadidaaW5

/- The walk of WindMore. -/
namespace Go.Proofs.Ytohlillcaadidaa
open Go Go.Eng

/-! More. -/
abbrev wideR (r : Rg) (x : Int) : Rg := { r with radius := r.radius + x }
abbrev fineR (r : Rg) : Rg := { r with clicks := r.clicks + 1 }
theorem wide_right {r : Rg} (hr : r.Right) (x : Int) (h : 0 ≤ r.radius + x ∧ r.radius + x ≤ 200) : (wideR r x).Right := by
  obtain ⟨g1, g2, odd, d1, d2, first, next, rows, radius, unit, clicks, total, drift, weight, chance, chances, gsum, fsum, nsum⟩ := hr
  constructor <;> assumption
theorem fine_right {r : Rg} (hr : r.Right) (h : r.clicks ≤ 5) : (fineR r).Right := by
  obtain ⟨g1, g2, odd, d1, d2, first, next, rows, radius, unit, clicks, total, drift, weight, chance, chances, gsum, fsum, nsum⟩ := hr
  constructor <;> try assumption
  show 0 ≤ r.clicks + 1 ∧ r.clicks + 1 ≤ 6
  omega
theorem exp_fine {r : Rg} (hr : r.Right) (h : r.clicks ≤ 5) (c : Int) : (expP (fineR r) c 5).1 = (expP r c 5).1 :=
  Int.le_antisymm (exp_mono (r' := fineR r) hr rfl rfl rfl rfl c (fun _ _ => Int.le_refl _) 5 (Nat.le_refl _)).1 (exp_mono (r' := r) (r := fineR r) (fine_right hr h) rfl rfl rfl rfl c (fun _ _ => Int.le_refl _) 5 (Nat.le_refl _)).1
theorem expV_fineR {r : Rg} (hr : r.Right) (h : r.clicks ≤ 5) (c : Int) : expV (fineR r) c = expV r c := by
  unfold expV
  rw [exp_fine hr h]
theorem sim_wide {r : Rg} (hr : r.Right) (x : Int) (hx : 0 ≤ x) {p p2 : Ru} {e : Nat} (h1 : 0 ≤ p2.miss ∧ p2.miss ≤ p.miss) (h2 : p2.click ≤ p.click) (h3 : p2.wait ≤ p.wait) (h4 : p.waits + e ≤ p2.waits) : SimR r (wideR r x) p p2 e :=
  ⟨rfl, rfl, rfl, rfl, Int.le_refl _, fun st c _ => miss_wide (r' := wideR r x) hr rfl rfl (show r.radius ≤ r.radius + x by omega) _ _, h1, h2, h3, h4⟩
theorem sim_fine {r : Rg} {p : Ru} (hp : p.Right) : SimR r (fineR r) p p 0 :=
  ⟨rfl, rfl, rfl, rfl, show r.clicks ≤ r.clicks + 1 by omega, fun _ _ _ => Int.le_refl _, ⟨hp.miss.1, Int.le_refl _⟩, Int.le_refl _, Int.le_refl _, by omega⟩
/-- Winds that are wider by up to 2. -/
def WiderW (ws l : List (Int × Int)) (i : Nat) : Prop := l.length = 5 ∧ ∀ j, j < 5 → (j < i → (ws.getD j (0, 0)).1 - 2 ≤ (l.getD j (0, 0)).1 ∧ (l.getD j (0, 0)).1 ≤ (ws.getD j (0, 0)).1 ∧ (ws.getD j (0, 0)).2 ≤ (l.getD j (0, 0)).2 ∧ (l.getD j (0, 0)).2 ≤ (ws.getD j (0, 0)).2 + 2) ∧ (i ≤ j → l.getD j (0, 0) = ws.getD j (0, 0))
theorem WiderW.step {ws l : List (Int × Int)} {i : Nat} (h : WiderW ws l i) (hi : i < 5) (x y : Int) (hx : 0 ≤ x ∧ x ≤ 2) (hy : 0 ≤ y ∧ y ≤ 2) (z : Int × Int) (hz : z = ((ws.getD i (0, 0)).1 - x, (ws.getD i (0, 0)).2 + y)) : WiderW ws (l.set i z) (i + 1) := by
  obtain ⟨h1, h2⟩ := h
  refine ⟨by simp [h1], fun j hj => ?_⟩
  by_cases hij : j = i
  · subst hij
    have e : (l.set j z).getD j (0, 0) = z := by rw [List.getD_eq_getElem?_getD, List.getElem?_set_self (by omega)]; rfl
    rw [e, hz]
    simp only
    refine ⟨fun _ => by omega, fun h => by omega⟩
  · have e : (l.set i z).getD j (0, 0) = l.getD j (0, 0) := by simp [List.getD_eq_getElem?_getD, List.getElem?_set_ne (Ne.symm hij)]
    rw [e]
    have := h2 j hj
    exact ⟨fun h => this.1 (by omega), fun h => this.2 (by omega)⟩
theorem WiderW.ok {ws l : List (Int × Int)} (hws : BlownW ws) (h : WiderW ws l 5) : WindOk l := by
  refine ⟨h.1, fun s hs => ?_⟩
  obtain ⟨j, hj, rfl⟩ := List.getElem_of_mem hs
  have hj5 : j < 5 := by rw [h.1] at hj; exact hj
  have h1 := (h.2 j hj5).1 hj5
  have hw := hws.2 _ (ws_mem (ws := ws) (i := j) (by rw [hws.1]; exact hj5))
  have e : l.getD j (0, 0) = l[j] := by simp [List.getD_eq_getElem?_getD, hj]
  rw [e] at h1
  omega
theorem WiderW.wide {ws l : List (Int × Int)} (h : WiderW ws l 5) : ∀ i, i < 5 → (l.getD i (0, 0)).1 ≤ (ws.getD i (0, 0)).1 ∧ (ws.getD i (0, 0)).2 ≤ (l.getD i (0, 0)).2 := fun i hi => by
  have := (h.2 i hi).1 hi
  omega

set_option maxRecDepth 40000 in
set_option maxHeartbeats 16000000 in
theorem windMore_ca (w : World) (a : Option Addr) (n c : Nat) (a2 : Option Addr) (n2 c2 : Nat) (click : Int) (hbyb1 : DkB w 0 w.heap.size (.slice a n c)) (hbyb2 : DkB w 0 w.heap.size (.slice a2 n2 c2)) :
    Ca Try.prog 12 [.slice a n c, .slice a2 n2 c2, .int .i64 click] w fun r w' => r = .bool true ∧ Chg [] w w' := by
  refine q_of (Sat.nil w M0) Try.func12 rfl (by simp [Try.ntmps12]) ?_
  (refine q_seq ?_; refine q_region ?_; refine ql_pure tabOk rfl rfl ?_; refine q_nil ?_; refine q_seq ?_; refine q_region ?_; refine ql_pure tabOk rfl rfl ?_)
  refine ql_call (β := Nat) tabOk [] _ M0 rfl rfl rfl rfl (Sp.refl _) (fun _ h => h.elim) (fun w' hs => of_ca w' a n c) ?_
  rintro b1 _ rfl
  (refine ql_pure tabOk rfl rfl ?_)
  refine ql_call (β := Nat) tabOk [] _ M0 rfl rfl rfl rfl (Sp.refl _) (fun _ h => h.elim) (fun w' hs => of_ca w' a2 n2 c2) ?_
  rintro b2 _ rfl
  ((iterate 2 refine ql_pure tabOk rfl rfl ?_); refine q_nil ?_; refine q_seq ?_; refine q_region ?_; refine ql_pure tabOk rfl rfl ?_)
  refine ql_call (β := List Ck × List Value × Rg) (ψ := fun x v => v = .agg x.2.1.toArray ∧ OwnR x.1 x.2.1 x.2.2 ∧ MadeR 3 3 3 x.2.2) (L' := fun x => [un x.1, dkP (.slice a n c) b1 (0 + 100)]) tabOk [dkP (.slice a n c) b1 (0)] _ (fun x => x = b1) rfl rfl rfl rfl (Sp.cons (by repeat constructor) (Sp.refl _)) (fun x hx => ⟨_, .head _, hx⟩) (fun w' hs => made0 (states := 3) (clicks := 3) (side := 3) hbyb1 hs (by omega) (by omega) (by omega) (by omega) (by omega)) ?_; rintro ⟨Lr, csr, r⟩ _ ⟨rfl, ownr, mader⟩; refine ql_fact (fun w hs => ownr.form2 mader.right hs (by repeat first | exact .head _ | refine .tail _ ?_)) ?_; rintro ⟨bgr, ogr, cgr, bdr, odr, cdr, bfr, ofr, cfr, bnr, onr, cnr, hcsr⟩; dsimp only at hcsr; subst hcsr; dsimp only at ownr mader ⊢
  have hR := mader.right
  have hC := hR.clicks
  have hC3 := mader.clicks
  have hlow := mader.low' (by omega)
  have hG := hR.gsum
  skip
  refine ql_alloc zero25 rfl (fun b9 => ?_)
  (refine ql_setA tabOk rfl rfl rfl rfl rfl (by repeat constructor) rfl ?_; refine q_nil ?_; refine q_seq ?_; refine q_region ?_; refine ql_pure tabOk rfl rfl ?_)
  refine ql_call (β := Ru) (ψ := fun p v => v = .agg #[.int .i64 p.miss, .int .i64 p.click, .int .i64 p.wait, .int .i64 p.waits] ∧ (0 ≤ p.miss ∧ p.miss ≤ 390) ∧ (0 ≤ p.click ∧ p.click ≤ 59) ∧ (0 ≤ p.wait ∧ p.wait ≤ 79) ∧ 0 ≤ p.waits ∧ p.waits ≤ 2) (L' := fun _ => [dkP (.slice a n c) b1 (0 + 100 + 4)]) tabOk [dkP (.slice a n c) b1 (0 + 100)] _ (fun x => x = b1) rfl rfl rfl rfl (Sp.cons (by repeat constructor) (Sp.refl _)) (fun x hx => ⟨_, .head _, hx⟩) (fun w' hs => ruled0 (W := 2) (by omega) hbyb1 hs (by omega)) ?_; rintro p _ ⟨rfl, hpm, hpc, hpw, hpn⟩
  have hp : p.Right := Ru.mk_right hpm hpc hpw (by omega)
  skip
  refine ql_alloc zero27 rfl (fun b10 => ?_)
  (refine ql_setA tabOk rfl rfl rfl rfl rfl (by repeat constructor) rfl ?_; refine q_nil ?_; refine q_seq ?_; refine q_region ?_; refine ql_pure tabOk rfl rfl ?_)
  refine ql_call (β := Value × List (Int × Int)) (ψ := fun x v => v = x.1 ∧ BlownW x.2) (L' := fun x => [.ow x.1 64 2 5 (spC x.2), dkP (.slice a n c) b1 (0 + 100 + 4 + 10)]) tabOk [dkP (.slice a n c) b1 (0 + 100 + 4)] _ (fun x => x = b1) rfl rfl rfl rfl (Sp.cons (by repeat constructor) (Sp.refl _)) (fun x hx => ⟨_, .head _, hx⟩) (fun w' hs => blown0 hbyb1 hs (by omega)) ?_; rintro ⟨_, ws⟩ vw ⟨rfl, hws⟩
  dsimp only at hws ⊢
  (refine ql_pure tabOk rfl rfl ?_; refine q_nil ?_; refine q_seq ?_)
  refine q_draw _ [] (Sp.refl _) (by kernel_rfl) (by kernel_rfl) ?_
  ((iterate 2 refine qf_pure tabOk rfl rfl rfl ?_); refine qf_loadB tabOk rfl rfl rfl (by repeat first | exact .head _ | refine .tail _ ?_) (by rfl) ?_; (iterate 2 refine qf_ar tabOk rfl rfl rfl rfl (by omega) (by omega) ?_))
  refine qf_call (β := Int) (ψ := fun x v => v = .int .i64 x ∧ 0 ≤ x ∧ x < 2 * r.clicks + 1) (L' := fun _ => []) tabOk [] _ M0 rfl rfl rfl rfl (Sp.refl _) (fun _ h => h.elim) (fun w' hs => fold0 (click) (2 * r.clicks + 1) w' (by omega) (by omega)) ?_; rintro cc _ ⟨rfl, hcc⟩
  (refine qf_pure tabOk rfl rfl rfl ?_; refine qf_loadB tabOk rfl rfl rfl (by repeat first | exact .head _ | refine .tail _ ?_) (by rfl) ?_; refine qf_ar tabOk rfl rfl rfl rfl (by omega) (by omega) ?_; refine qf_pure tabOk rfl rfl rfl ?_; refine qf_nil ?_; refine q_seq ?_)
  have hcr : -r.clicks ≤ cc - r.clicks ∧ cc - r.clicks ≤ r.clicks := by omega
  obtain ⟨ck, hck⟩ : ∃ z, z = cc - r.clicks := ⟨_, rfl⟩
  rw [← hck] at hcr ⊢
  clear hcc hck
  refine q_keep [(8, .pointer (some ⟨b2, 0, none⟩)), (9, .pointer (some ⟨b9, 0, none⟩)), (10, .pointer (some ⟨b10, 0, none⟩)), (11, vw), (12, .int .i64 ck)] [.pt b9 [.int .i64 r.radius, .int .i64 r.unit, .int .i64 r.clicks, .int .i64 r.total, .slice (some ⟨bgr, ogr, none⟩) r.group.length cgr, .slice (some ⟨bdr, odr, none⟩) r.drifts.length cdr, .slice (some ⟨bfr, ofr, none⟩) r.first.length cfr, .slice (some ⟨bnr, onr, none⟩) r.next.length cnr] 25, .pt b10 [.int .i64 p.miss, .int .i64 p.click, .int .i64 p.wait, .int .i64 p.waits] 27, un Lr, .ow vw 64 2 5 (spC ws), dkP (.slice a2 n2 c2) b2 0] ⟨rfl, rfl, rfl, rfl, rfl, trivial⟩ (by repeat (first | exact Sp.nil | exact Sp.refl _ | refine Sp.cons (by repeat constructor) ?_)) ?_
  refine q_cut (σ := Nat × Nat × Nat × Cp r × Cp r × Value) (fun ⟨b13, b14, b15, x1, x2, vy⟩ => [(8, .pointer (some ⟨b2, 0, none⟩)), (9, .pointer (some ⟨b9, 0, none⟩)), (10, .pointer (some ⟨b10, 0, none⟩)), (11, vw), (12, .int .i64 ck), (13, .pointer (some ⟨b13, 0, none⟩)), (14, .pointer (some ⟨b14, 0, none⟩)), (15, .pointer (some ⟨b15, 0, none⟩)), (16, vy)]) (fun ⟨b13, b14, b15, x1, x2, vy⟩ => [.pt b13 [.int .i64 r.radius, .int .i64 r.unit, .int .i64 r.clicks, .int .i64 r.total, .slice x1.a1 r.group.length x1.c1, .slice x1.a2 r.drifts.length x1.c2, .slice x1.a3 r.first.length x1.c3, .slice x1.a4 r.next.length x1.c4] 25, .pt b14 [.int .i64 r.radius, .int .i64 r.unit, .int .i64 r.clicks, .int .i64 r.total, .slice x2.a1 r.group.length x2.c1, .slice x2.a2 r.drifts.length x2.c2, .slice x2.a3 r.first.length x2.c3, .slice x2.a4 r.next.length x2.c4] 25, .pt b15 [.int .i64 p.miss, .int .i64 p.click, .int .i64 p.wait, .int .i64 p.waits] 27, un x1.K, un x2.K, .ow vy 64 2 5 (spC ws), .pt b9 [.int .i64 r.radius, .int .i64 r.unit, .int .i64 r.clicks, .int .i64 r.total, .slice (some ⟨bgr, ogr, none⟩) r.group.length cgr, .slice (some ⟨bdr, odr, none⟩) r.drifts.length cdr, .slice (some ⟨bfr, ofr, none⟩) r.first.length cfr, .slice (some ⟨bnr, onr, none⟩) r.next.length cnr] 25, .pt b10 [.int .i64 p.miss, .int .i64 p.click, .int .i64 p.wait, .int .i64 p.waits] 27, un Lr, .ow vw 64 2 5 (spC ws), dkP (.slice a2 n2 c2) b2 0]) ?_ (fun K2 hK2 => ?_)
  rotate_left
  · skip
    refine q_drawT (.alt (chainT [0, 1] (.alt (chainT [2, 3] (.alt (chainT [4, 5, 6] (.alt (chainT [7] (.alt (chainT [8] (chainT [9] (chainT [10] (chainT [11] (chainT [12, 13] (.nil)))))) (chainT [9] (chainT [8] (chainT [10] (chainT [11] (chainT [12, 13] (.nil)))))))) (.alt (chainT [8] (.alt (chainT [7] (chainT [9] (chainT [10] (chainT [11] (chainT [12, 13] (.nil)))))) (chainT [9] (chainT [7] (chainT [10] (chainT [11] (chainT [12, 13] (.nil)))))))) (chainT [9] (.alt (chainT [7] (chainT [8] (chainT [10] (chainT [11] (chainT [12, 13] (.nil)))))) (chainT [8] (chainT [7] (chainT [10] (chainT [11] (chainT [12, 13] (.nil))))))))))) (.alt (chainT [7] (.alt (chainT [4, 5, 6] (.alt (chainT [8] (chainT [9] (chainT [10] (chainT [11] (chainT [12, 13] (.nil)))))) (chainT [9] (chainT [8] (chainT [10] (chainT [11] (chainT [12, 13] (.nil)))))))) (.alt (chainT [8] (.alt (chainT [4, 5, 6] (chainT [9] (chainT [10] (chainT [11] (chainT [12, 13] (.nil)))))) (chainT [9] (chainT [4, 5, 6] (chainT [10] (chainT [11] (chainT [12, 13] (.nil)))))))) (chainT [9] (.alt (chainT [4, 5, 6] (chainT [8] (chainT [10] (chainT [11] (chainT [12, 13] (.nil)))))) (chainT [8] (chainT [4, 5, 6] (chainT [10] (chainT [11] (chainT [12, 13] (.nil))))))))))) (.alt (chainT [8] (.alt (chainT [4, 5, 6] (.alt (chainT [7] (chainT [9] (chainT [10] (chainT [11] (chainT [12, 13] (.nil)))))) (chainT [9] (chainT [7] (chainT [10] (chainT [11] (chainT [12, 13] (.nil)))))))) (.alt (chainT [7] (.alt (chainT [4, 5, 6] (chainT [9] (chainT [10] (chainT [11] (chainT [12, 13] (.nil)))))) (chainT [9] (chainT [4, 5, 6] (chainT [10] (chainT [11] (chainT [12, 13] (.nil)))))))) (chainT [9] (.alt (chainT [4, 5, 6] (chainT [7] (chainT [10] (chainT [11] (chainT [12, 13] (.nil)))))) (chainT [7] (chainT [4, 5, 6] (chainT [10] (chainT [11] (chainT [12, 13] (.nil))))))))))) (chainT [9] (.alt (chainT [4, 5, 6] (.alt (chainT [7] (chainT [8] (chainT [10] (chainT [11] (chainT [12, 13] (.nil)))))) (chainT [8] (chainT [7] (chainT [10] (chainT [11] (chainT [12, 13] (.nil)))))))) (.alt (chainT [7] (.alt (chainT [4, 5, 6] (chainT [8] (chainT [10] (chainT [11] (chainT [12, 13] (.nil)))))) (chainT [8] (chainT [4, 5, 6] (chainT [10] (chainT [11] (chainT [12, 13] (.nil)))))))) (chainT [8] (.alt (chainT [4, 5, 6] (chainT [7] (chainT [10] (chainT [11] (chainT [12, 13] (.nil)))))) (chainT [7] (chainT [4, 5, 6] (chainT [10] (chainT [11] (chainT [12, 13] (.nil))))))))))))))) (.alt (chainT [7] (.alt (chainT [2, 3] (.alt (chainT [4, 5, 6] (.alt (chainT [8] (chainT [9] (chainT [10] (chainT [11] (chainT [12, 13] (.nil)))))) (chainT [9] (chainT [8] (chainT [10] (chainT [11] (chainT [12, 13] (.nil)))))))) (.alt (chainT [8] (.alt (chainT [4, 5, 6] (chainT [9] (chainT [10] (chainT [11] (chainT [12, 13] (.nil)))))) (chainT [9] (chainT [4, 5, 6] (chainT [10] (chainT [11] (chainT [12, 13] (.nil)))))))) (chainT [9] (.alt (chainT [4, 5, 6] (chainT [8] (chainT [10] (chainT [11] (chainT [12, 13] (.nil)))))) (chainT [8] (chainT [4, 5, 6] (chainT [10] (chainT [11] (chainT [12, 13] (.nil))))))))))) (.alt (chainT [8] (.alt (chainT [2, 3] (.alt (chainT [4, 5, 6] (chainT [9] (chainT [10] (chainT [11] (chainT [12, 13] (.nil)))))) (chainT [9] (chainT [4, 5, 6] (chainT [10] (chainT [11] (chainT [12, 13] (.nil)))))))) (chainT [9] (chainT [2, 3] (chainT [4, 5, 6] (chainT [10] (chainT [11] (chainT [12, 13] (.nil))))))))) (chainT [9] (.alt (chainT [2, 3] (.alt (chainT [4, 5, 6] (chainT [8] (chainT [10] (chainT [11] (chainT [12, 13] (.nil)))))) (chainT [8] (chainT [4, 5, 6] (chainT [10] (chainT [11] (chainT [12, 13] (.nil)))))))) (chainT [8] (chainT [2, 3] (chainT [4, 5, 6] (chainT [10] (chainT [11] (chainT [12, 13] (.nil)))))))))))) (.alt (chainT [8] (.alt (chainT [2, 3] (.alt (chainT [4, 5, 6] (.alt (chainT [7] (chainT [9] (chainT [10] (chainT [11] (chainT [12, 13] (.nil)))))) (chainT [9] (chainT [7] (chainT [10] (chainT [11] (chainT [12, 13] (.nil)))))))) (.alt (chainT [7] (.alt (chainT [4, 5, 6] (chainT [9] (chainT [10] (chainT [11] (chainT [12, 13] (.nil)))))) (chainT [9] (chainT [4, 5, 6] (chainT [10] (chainT [11] (chainT [12, 13] (.nil)))))))) (chainT [9] (.alt (chainT [4, 5, 6] (chainT [7] (chainT [10] (chainT [11] (chainT [12, 13] (.nil)))))) (chainT [7] (chainT [4, 5, 6] (chainT [10] (chainT [11] (chainT [12, 13] (.nil))))))))))) (.alt (chainT [7] (.alt (chainT [2, 3] (.alt (chainT [4, 5, 6] (chainT [9] (chainT [10] (chainT [11] (chainT [12, 13] (.nil)))))) (chainT [9] (chainT [4, 5, 6] (chainT [10] (chainT [11] (chainT [12, 13] (.nil)))))))) (chainT [9] (chainT [2, 3] (chainT [4, 5, 6] (chainT [10] (chainT [11] (chainT [12, 13] (.nil))))))))) (chainT [9] (.alt (chainT [2, 3] (.alt (chainT [4, 5, 6] (chainT [7] (chainT [10] (chainT [11] (chainT [12, 13] (.nil)))))) (chainT [7] (chainT [4, 5, 6] (chainT [10] (chainT [11] (chainT [12, 13] (.nil)))))))) (chainT [7] (chainT [2, 3] (chainT [4, 5, 6] (chainT [10] (chainT [11] (chainT [12, 13] (.nil)))))))))))) (chainT [9] (.alt (chainT [2, 3] (.alt (chainT [4, 5, 6] (.alt (chainT [7] (chainT [8] (chainT [10] (chainT [11] (chainT [12, 13] (.nil)))))) (chainT [8] (chainT [7] (chainT [10] (chainT [11] (chainT [12, 13] (.nil)))))))) (.alt (chainT [7] (.alt (chainT [4, 5, 6] (chainT [8] (chainT [10] (chainT [11] (chainT [12, 13] (.nil)))))) (chainT [8] (chainT [4, 5, 6] (chainT [10] (chainT [11] (chainT [12, 13] (.nil)))))))) (chainT [8] (.alt (chainT [4, 5, 6] (chainT [7] (chainT [10] (chainT [11] (chainT [12, 13] (.nil)))))) (chainT [7] (chainT [4, 5, 6] (chainT [10] (chainT [11] (chainT [12, 13] (.nil))))))))))) (.alt (chainT [7] (.alt (chainT [2, 3] (.alt (chainT [4, 5, 6] (chainT [8] (chainT [10] (chainT [11] (chainT [12, 13] (.nil)))))) (chainT [8] (chainT [4, 5, 6] (chainT [10] (chainT [11] (chainT [12, 13] (.nil)))))))) (chainT [8] (chainT [2, 3] (chainT [4, 5, 6] (chainT [10] (chainT [11] (chainT [12, 13] (.nil))))))))) (chainT [8] (.alt (chainT [2, 3] (.alt (chainT [4, 5, 6] (chainT [7] (chainT [10] (chainT [11] (chainT [12, 13] (.nil)))))) (chainT [7] (chainT [4, 5, 6] (chainT [10] (chainT [11] (chainT [12, 13] (.nil)))))))) (chainT [7] (chainT [2, 3] (chainT [4, 5, 6] (chainT [10] (chainT [11] (chainT [12, 13] (.nil)))))))))))))))) (.alt (chainT [7] (.alt (chainT [0, 1] (.alt (chainT [2, 3] (.alt (chainT [4, 5, 6] (.alt (chainT [8] (chainT [9] (chainT [10] (chainT [11] (chainT [12, 13] (.nil)))))) (chainT [9] (chainT [8] (chainT [10] (chainT [11] (chainT [12, 13] (.nil)))))))) (.alt (chainT [8] (.alt (chainT [4, 5, 6] (chainT [9] (chainT [10] (chainT [11] (chainT [12, 13] (.nil)))))) (chainT [9] (chainT [4, 5, 6] (chainT [10] (chainT [11] (chainT [12, 13] (.nil)))))))) (chainT [9] (.alt (chainT [4, 5, 6] (chainT [8] (chainT [10] (chainT [11] (chainT [12, 13] (.nil)))))) (chainT [8] (chainT [4, 5, 6] (chainT [10] (chainT [11] (chainT [12, 13] (.nil))))))))))) (.alt (chainT [8] (.alt (chainT [2, 3] (.alt (chainT [4, 5, 6] (chainT [9] (chainT [10] (chainT [11] (chainT [12, 13] (.nil)))))) (chainT [9] (chainT [4, 5, 6] (chainT [10] (chainT [11] (chainT [12, 13] (.nil)))))))) (chainT [9] (chainT [2, 3] (chainT [4, 5, 6] (chainT [10] (chainT [11] (chainT [12, 13] (.nil))))))))) (chainT [9] (.alt (chainT [2, 3] (.alt (chainT [4, 5, 6] (chainT [8] (chainT [10] (chainT [11] (chainT [12, 13] (.nil)))))) (chainT [8] (chainT [4, 5, 6] (chainT [10] (chainT [11] (chainT [12, 13] (.nil)))))))) (chainT [8] (chainT [2, 3] (chainT [4, 5, 6] (chainT [10] (chainT [11] (chainT [12, 13] (.nil)))))))))))) (.alt (chainT [8] (.alt (chainT [0, 1] (.alt (chainT [2, 3] (.alt (chainT [4, 5, 6] (chainT [9] (chainT [10] (chainT [11] (chainT [12, 13] (.nil)))))) (chainT [9] (chainT [4, 5, 6] (chainT [10] (chainT [11] (chainT [12, 13] (.nil)))))))) (chainT [9] (chainT [2, 3] (chainT [4, 5, 6] (chainT [10] (chainT [11] (chainT [12, 13] (.nil))))))))) (chainT [9] (chainT [0, 1] (chainT [2, 3] (chainT [4, 5, 6] (chainT [10] (chainT [11] (chainT [12, 13] (.nil)))))))))) (chainT [9] (.alt (chainT [0, 1] (.alt (chainT [2, 3] (.alt (chainT [4, 5, 6] (chainT [8] (chainT [10] (chainT [11] (chainT [12, 13] (.nil)))))) (chainT [8] (chainT [4, 5, 6] (chainT [10] (chainT [11] (chainT [12, 13] (.nil)))))))) (chainT [8] (chainT [2, 3] (chainT [4, 5, 6] (chainT [10] (chainT [11] (chainT [12, 13] (.nil))))))))) (chainT [8] (chainT [0, 1] (chainT [2, 3] (chainT [4, 5, 6] (chainT [10] (chainT [11] (chainT [12, 13] (.nil))))))))))))) (.alt (chainT [8] (.alt (chainT [0, 1] (.alt (chainT [2, 3] (.alt (chainT [4, 5, 6] (.alt (chainT [7] (chainT [9] (chainT [10] (chainT [11] (chainT [12, 13] (.nil)))))) (chainT [9] (chainT [7] (chainT [10] (chainT [11] (chainT [12, 13] (.nil)))))))) (.alt (chainT [7] (.alt (chainT [4, 5, 6] (chainT [9] (chainT [10] (chainT [11] (chainT [12, 13] (.nil)))))) (chainT [9] (chainT [4, 5, 6] (chainT [10] (chainT [11] (chainT [12, 13] (.nil)))))))) (chainT [9] (.alt (chainT [4, 5, 6] (chainT [7] (chainT [10] (chainT [11] (chainT [12, 13] (.nil)))))) (chainT [7] (chainT [4, 5, 6] (chainT [10] (chainT [11] (chainT [12, 13] (.nil))))))))))) (.alt (chainT [7] (.alt (chainT [2, 3] (.alt (chainT [4, 5, 6] (chainT [9] (chainT [10] (chainT [11] (chainT [12, 13] (.nil)))))) (chainT [9] (chainT [4, 5, 6] (chainT [10] (chainT [11] (chainT [12, 13] (.nil)))))))) (chainT [9] (chainT [2, 3] (chainT [4, 5, 6] (chainT [10] (chainT [11] (chainT [12, 13] (.nil))))))))) (chainT [9] (.alt (chainT [2, 3] (.alt (chainT [4, 5, 6] (chainT [7] (chainT [10] (chainT [11] (chainT [12, 13] (.nil)))))) (chainT [7] (chainT [4, 5, 6] (chainT [10] (chainT [11] (chainT [12, 13] (.nil)))))))) (chainT [7] (chainT [2, 3] (chainT [4, 5, 6] (chainT [10] (chainT [11] (chainT [12, 13] (.nil)))))))))))) (.alt (chainT [7] (.alt (chainT [0, 1] (.alt (chainT [2, 3] (.alt (chainT [4, 5, 6] (chainT [9] (chainT [10] (chainT [11] (chainT [12, 13] (.nil)))))) (chainT [9] (chainT [4, 5, 6] (chainT [10] (chainT [11] (chainT [12, 13] (.nil)))))))) (chainT [9] (chainT [2, 3] (chainT [4, 5, 6] (chainT [10] (chainT [11] (chainT [12, 13] (.nil))))))))) (chainT [9] (chainT [0, 1] (chainT [2, 3] (chainT [4, 5, 6] (chainT [10] (chainT [11] (chainT [12, 13] (.nil)))))))))) (chainT [9] (.alt (chainT [0, 1] (.alt (chainT [2, 3] (.alt (chainT [4, 5, 6] (chainT [7] (chainT [10] (chainT [11] (chainT [12, 13] (.nil)))))) (chainT [7] (chainT [4, 5, 6] (chainT [10] (chainT [11] (chainT [12, 13] (.nil)))))))) (chainT [7] (chainT [2, 3] (chainT [4, 5, 6] (chainT [10] (chainT [11] (chainT [12, 13] (.nil))))))))) (chainT [7] (chainT [0, 1] (chainT [2, 3] (chainT [4, 5, 6] (chainT [10] (chainT [11] (chainT [12, 13] (.nil))))))))))))) (chainT [9] (.alt (chainT [0, 1] (.alt (chainT [2, 3] (.alt (chainT [4, 5, 6] (.alt (chainT [7] (chainT [8] (chainT [10] (chainT [11] (chainT [12, 13] (.nil)))))) (chainT [8] (chainT [7] (chainT [10] (chainT [11] (chainT [12, 13] (.nil)))))))) (.alt (chainT [7] (.alt (chainT [4, 5, 6] (chainT [8] (chainT [10] (chainT [11] (chainT [12, 13] (.nil)))))) (chainT [8] (chainT [4, 5, 6] (chainT [10] (chainT [11] (chainT [12, 13] (.nil)))))))) (chainT [8] (.alt (chainT [4, 5, 6] (chainT [7] (chainT [10] (chainT [11] (chainT [12, 13] (.nil)))))) (chainT [7] (chainT [4, 5, 6] (chainT [10] (chainT [11] (chainT [12, 13] (.nil))))))))))) (.alt (chainT [7] (.alt (chainT [2, 3] (.alt (chainT [4, 5, 6] (chainT [8] (chainT [10] (chainT [11] (chainT [12, 13] (.nil)))))) (chainT [8] (chainT [4, 5, 6] (chainT [10] (chainT [11] (chainT [12, 13] (.nil)))))))) (chainT [8] (chainT [2, 3] (chainT [4, 5, 6] (chainT [10] (chainT [11] (chainT [12, 13] (.nil))))))))) (chainT [8] (.alt (chainT [2, 3] (.alt (chainT [4, 5, 6] (chainT [7] (chainT [10] (chainT [11] (chainT [12, 13] (.nil)))))) (chainT [7] (chainT [4, 5, 6] (chainT [10] (chainT [11] (chainT [12, 13] (.nil)))))))) (chainT [7] (chainT [2, 3] (chainT [4, 5, 6] (chainT [10] (chainT [11] (chainT [12, 13] (.nil)))))))))))) (.alt (chainT [7] (.alt (chainT [0, 1] (.alt (chainT [2, 3] (.alt (chainT [4, 5, 6] (chainT [8] (chainT [10] (chainT [11] (chainT [12, 13] (.nil)))))) (chainT [8] (chainT [4, 5, 6] (chainT [10] (chainT [11] (chainT [12, 13] (.nil)))))))) (chainT [8] (chainT [2, 3] (chainT [4, 5, 6] (chainT [10] (chainT [11] (chainT [12, 13] (.nil))))))))) (chainT [8] (chainT [0, 1] (chainT [2, 3] (chainT [4, 5, 6] (chainT [10] (chainT [11] (chainT [12, 13] (.nil)))))))))) (chainT [8] (.alt (chainT [0, 1] (.alt (chainT [2, 3] (.alt (chainT [4, 5, 6] (chainT [7] (chainT [10] (chainT [11] (chainT [12, 13] (.nil)))))) (chainT [7] (chainT [4, 5, 6] (chainT [10] (chainT [11] (chainT [12, 13] (.nil)))))))) (chainT [7] (chainT [2, 3] (chainT [4, 5, 6] (chainT [10] (chainT [11] (chainT [12, 13] (.nil))))))))) (chainT [7] (chainT [0, 1] (chainT [2, 3] (chainT [4, 5, 6] (chainT [10] (chainT [11] (chainT [12, 13] (.nil)))))))))))))))) _ [] (Sp.refl _) (by kernel_rfl) (by kernel_rfl) ?_
    refine qt_let (σ := Cp r × Cp r × Value × Nat × Nat × Nat × Unit) (.nil) (fun ⟨x1, x2, vy, b13, b14, b15, ()⟩ => [(8, .pointer (some ⟨b2, 0, none⟩)), (9, .pointer (some ⟨b9, 0, none⟩)), (10, .pointer (some ⟨b10, 0, none⟩)), (11, vw), (12, .int .i64 ck), (60, .agg #[.int .i64 r.radius, .int .i64 r.unit, .int .i64 r.clicks, .int .i64 r.total, .slice x1.a1 r.group.length x1.c1, .slice x1.a2 r.drifts.length x1.c2, .slice x1.a3 r.first.length x1.c3, .slice x1.a4 r.next.length x1.c4]), (62, .agg #[.int .i64 r.radius, .int .i64 r.unit, .int .i64 r.clicks, .int .i64 r.total, .slice x2.a1 r.group.length x2.c1, .slice x2.a2 r.drifts.length x2.c2, .slice x2.a3 r.first.length x2.c3, .slice x2.a4 r.next.length x2.c4]), (63, .agg #[.int .i64 p.miss, .int .i64 p.click, .int .i64 p.wait, .int .i64 p.waits]), (65, vy), (13, .pointer (some ⟨b13, 0, none⟩)), (14, .pointer (some ⟨b14, 0, none⟩)), (15, .pointer (some ⟨b15, 0, none⟩)), (16, vy)]) (fun ⟨x1, x2, vy, b13, b14, b15, ()⟩ => [un x1.K, un x2.K, .ow vy 64 2 5 (spC ws), .pt b13 [.int .i64 r.radius, .int .i64 r.unit, .int .i64 r.clicks, .int .i64 r.total, .slice x1.a1 r.group.length x1.c1, .slice x1.a2 r.drifts.length x1.c2, .slice x1.a3 r.first.length x1.c3, .slice x1.a4 r.next.length x1.c4] 25, .pt b14 [.int .i64 r.radius, .int .i64 r.unit, .int .i64 r.clicks, .int .i64 r.total, .slice x2.a1 r.group.length x2.c1, .slice x2.a2 r.drifts.length x2.c2, .slice x2.a3 r.first.length x2.c3, .slice x2.a4 r.next.length x2.c4] 25, .pt b15 [.int .i64 p.miss, .int .i64 p.click, .int .i64 p.wait, .int .i64 p.waits] 27]) ?_ (fun hS1_3_6_7_8_9_10_11_12 => ?_)
    · rintro ⟨x1, x2, vy, b13, b14, b15, _⟩
      exact qt_nil (hK2 (b13, b14, b15, x1, x2, vy) _ _ ⟨rfl, rfl, rfl, rfl, rfl, rfl, rfl, rfl, rfl, trivial⟩ (by repeat (first | exact Sp.nil | exact Sp.refl _ | refine Sp.cons (by repeat constructor) ?_)))
    refine qt_let (σ := Cp r × Cp r × Value × Nat × Nat × Nat × Unit) (chainT [12, 13] (.nil)) (fun ⟨x1, x2, vy, b13, b14, b15, ()⟩ => [(8, .pointer (some ⟨b2, 0, none⟩)), (9, .pointer (some ⟨b9, 0, none⟩)), (10, .pointer (some ⟨b10, 0, none⟩)), (11, vw), (12, .int .i64 ck), (60, .agg #[.int .i64 r.radius, .int .i64 r.unit, .int .i64 r.clicks, .int .i64 r.total, .slice x1.a1 r.group.length x1.c1, .slice x1.a2 r.drifts.length x1.c2, .slice x1.a3 r.first.length x1.c3, .slice x1.a4 r.next.length x1.c4]), (62, .agg #[.int .i64 r.radius, .int .i64 r.unit, .int .i64 r.clicks, .int .i64 r.total, .slice x2.a1 r.group.length x2.c1, .slice x2.a2 r.drifts.length x2.c2, .slice x2.a3 r.first.length x2.c3, .slice x2.a4 r.next.length x2.c4]), (63, .agg #[.int .i64 p.miss, .int .i64 p.click, .int .i64 p.wait, .int .i64 p.waits]), (65, vy), (13, .pointer (some ⟨b13, 0, none⟩)), (14, .pointer (some ⟨b14, 0, none⟩)), (15, .pointer (some ⟨b15, 0, none⟩))]) (fun ⟨x1, x2, vy, b13, b14, b15, ()⟩ => [un x1.K, un x2.K, .ow vy 64 2 5 (spC ws), .pt b13 [.int .i64 r.radius, .int .i64 r.unit, .int .i64 r.clicks, .int .i64 r.total, .slice x1.a1 r.group.length x1.c1, .slice x1.a2 r.drifts.length x1.c2, .slice x1.a3 r.first.length x1.c3, .slice x1.a4 r.next.length x1.c4] 25, .pt b14 [.int .i64 r.radius, .int .i64 r.unit, .int .i64 r.clicks, .int .i64 r.total, .slice x2.a1 r.group.length x2.c1, .slice x2.a2 r.drifts.length x2.c2, .slice x2.a3 r.first.length x2.c3, .slice x2.a4 r.next.length x2.c4] 25, .pt b15 [.int .i64 0, .int .i64 0, .int .i64 0, .int .i64 0] 27]) ?_ (fun hS1_3_6_7_8_9_10_11 => ?_)
    · rintro ⟨x1, x2, vy, b13, b14, b15, _⟩
      refine qt_seg (by repeat (first | exact PickL.nil | (apply PickL.cons; rfl))) fun K1 hK1 => ?_
      (refine qf_setA tabOk rfl rfl rfl rfl rfl (by repeat constructor) rfl ?_; refine qf_pure tabOk rfl rfl rfl ?_; refine qf_nil ?_)
      skip
      exact hK1 _ _ (hS1_3_6_7_8_9_10_11_12 ⟨x1, x2, vy, b13, b14, b15, ()⟩ _ _ ⟨rfl, rfl, rfl, rfl, rfl, rfl, rfl, rfl, rfl, rfl, rfl, rfl, rfl, trivial⟩ (by repeat (first | exact Sp.nil | exact Sp.refl _ | refine Sp.cons (by repeat constructor) ?_)))
    refine qt_let (σ := Cp r × Cp r × Value × Nat × Nat × Nat × Unit) (chainT [11] (chainT [12, 13] (.nil))) (fun ⟨x1, x2, vy, b13, b14, b15, ()⟩ => [(8, .pointer (some ⟨b2, 0, none⟩)), (9, .pointer (some ⟨b9, 0, none⟩)), (10, .pointer (some ⟨b10, 0, none⟩)), (11, vw), (12, .int .i64 ck), (60, .agg #[.int .i64 r.radius, .int .i64 r.unit, .int .i64 r.clicks, .int .i64 r.total, .slice x1.a1 r.group.length x1.c1, .slice x1.a2 r.drifts.length x1.c2, .slice x1.a3 r.first.length x1.c3, .slice x1.a4 r.next.length x1.c4]), (62, .agg #[.int .i64 r.radius, .int .i64 r.unit, .int .i64 r.clicks, .int .i64 r.total, .slice x2.a1 r.group.length x2.c1, .slice x2.a2 r.drifts.length x2.c2, .slice x2.a3 r.first.length x2.c3, .slice x2.a4 r.next.length x2.c4]), (63, .agg #[.int .i64 p.miss, .int .i64 p.click, .int .i64 p.wait, .int .i64 p.waits]), (65, vy), (13, .pointer (some ⟨b13, 0, none⟩)), (14, .pointer (some ⟨b14, 0, none⟩)), (15, .pointer (some ⟨b15, 0, none⟩))]) (fun ⟨x1, x2, vy, b13, b14, b15, ()⟩ => [un x1.K, un x2.K, .ow vy 64 2 5 (spC ws), .pt b13 [.int .i64 r.radius, .int .i64 r.unit, .int .i64 r.clicks, .int .i64 r.total, .slice x1.a1 r.group.length x1.c1, .slice x1.a2 r.drifts.length x1.c2, .slice x1.a3 r.first.length x1.c3, .slice x1.a4 r.next.length x1.c4] 25, .pt b14 [.int .i64 0, .int .i64 0, .int .i64 0, .int .i64 0, .slice none 0 0, .slice none 0 0, .slice none 0 0, .slice none 0 0] 25, .pt b15 [.int .i64 0, .int .i64 0, .int .i64 0, .int .i64 0] 27]) ?_ (fun hS1_3_6_7_8_9_10 => ?_)
    · rintro ⟨x1, x2, vy, b13, b14, b15, _⟩
      refine qt_seg (by repeat (first | exact PickL.nil | (apply PickL.cons; rfl))) fun K1 hK1 => ?_
      (refine qf_setA tabOk rfl rfl rfl rfl rfl (by repeat constructor) rfl ?_; refine qf_nil ?_)
      skip
      exact hK1 _ _ (hS1_3_6_7_8_9_10_11 ⟨x1, x2, vy, b13, b14, b15, ()⟩ _ _ ⟨rfl, rfl, rfl, rfl, rfl, rfl, rfl, rfl, rfl, rfl, rfl, rfl, trivial⟩ (by repeat (first | exact Sp.nil | exact Sp.refl _ | refine Sp.cons (by repeat constructor) ?_)))
    refine qt_let (σ := Cp r × Cp r × Value × Nat × Nat × Nat × Unit) (chainT [10] (chainT [11] (chainT [12, 13] (.nil)))) (fun ⟨x1, x2, vy, b13, b14, b15, ()⟩ => [(8, .pointer (some ⟨b2, 0, none⟩)), (9, .pointer (some ⟨b9, 0, none⟩)), (10, .pointer (some ⟨b10, 0, none⟩)), (11, vw), (12, .int .i64 ck), (60, .agg #[.int .i64 r.radius, .int .i64 r.unit, .int .i64 r.clicks, .int .i64 r.total, .slice x1.a1 r.group.length x1.c1, .slice x1.a2 r.drifts.length x1.c2, .slice x1.a3 r.first.length x1.c3, .slice x1.a4 r.next.length x1.c4]), (62, .agg #[.int .i64 r.radius, .int .i64 r.unit, .int .i64 r.clicks, .int .i64 r.total, .slice x2.a1 r.group.length x2.c1, .slice x2.a2 r.drifts.length x2.c2, .slice x2.a3 r.first.length x2.c3, .slice x2.a4 r.next.length x2.c4]), (63, .agg #[.int .i64 p.miss, .int .i64 p.click, .int .i64 p.wait, .int .i64 p.waits]), (65, vy), (13, .pointer (some ⟨b13, 0, none⟩)), (14, .pointer (some ⟨b14, 0, none⟩)), (15, .pointer (some ⟨b15, 0, none⟩))]) (fun ⟨x1, x2, vy, b13, b14, b15, ()⟩ => [un x1.K, un x2.K, .ow vy 64 2 5 (spC ws), .pt b13 [.int .i64 0, .int .i64 0, .int .i64 0, .int .i64 0, .slice none 0 0, .slice none 0 0, .slice none 0 0, .slice none 0 0] 25, .pt b14 [.int .i64 0, .int .i64 0, .int .i64 0, .int .i64 0, .slice none 0 0, .slice none 0 0, .slice none 0 0, .slice none 0 0] 25, .pt b15 [.int .i64 0, .int .i64 0, .int .i64 0, .int .i64 0] 27]) ?_ (fun hS1_3_6_7_8_9 => ?_)
    · rintro ⟨x1, x2, vy, b13, b14, b15, _⟩
      refine qt_seg (by repeat (first | exact PickL.nil | (apply PickL.cons; rfl))) fun K1 hK1 => ?_
      (refine qf_setA tabOk rfl rfl rfl rfl rfl (by repeat constructor) rfl ?_; refine qf_nil ?_)
      skip
      exact hK1 _ _ (hS1_3_6_7_8_9_10 ⟨x1, x2, vy, b13, b14, b15, ()⟩ _ _ ⟨rfl, rfl, rfl, rfl, rfl, rfl, rfl, rfl, rfl, rfl, rfl, rfl, trivial⟩ (by repeat (first | exact Sp.nil | exact Sp.refl _ | refine Sp.cons (by repeat constructor) ?_)))
    refine qt_let (σ := Cp r × Cp r × Value × Nat × Nat × Unit) (chainT [9] (chainT [10] (chainT [11] (chainT [12, 13] (.nil))))) (fun ⟨x1, x2, vy, b13, b14, ()⟩ => [(8, .pointer (some ⟨b2, 0, none⟩)), (9, .pointer (some ⟨b9, 0, none⟩)), (10, .pointer (some ⟨b10, 0, none⟩)), (11, vw), (12, .int .i64 ck), (60, .agg #[.int .i64 r.radius, .int .i64 r.unit, .int .i64 r.clicks, .int .i64 r.total, .slice x1.a1 r.group.length x1.c1, .slice x1.a2 r.drifts.length x1.c2, .slice x1.a3 r.first.length x1.c3, .slice x1.a4 r.next.length x1.c4]), (62, .agg #[.int .i64 r.radius, .int .i64 r.unit, .int .i64 r.clicks, .int .i64 r.total, .slice x2.a1 r.group.length x2.c1, .slice x2.a2 r.drifts.length x2.c2, .slice x2.a3 r.first.length x2.c3, .slice x2.a4 r.next.length x2.c4]), (63, .agg #[.int .i64 p.miss, .int .i64 p.click, .int .i64 p.wait, .int .i64 p.waits]), (65, vy), (13, .pointer (some ⟨b13, 0, none⟩)), (14, .pointer (some ⟨b14, 0, none⟩))]) (fun ⟨x1, x2, vy, b13, b14, ()⟩ => [un x1.K, un x2.K, .ow vy 64 2 5 (spC ws), .pt b13 [.int .i64 0, .int .i64 0, .int .i64 0, .int .i64 0, .slice none 0 0, .slice none 0 0, .slice none 0 0, .slice none 0 0] 25, .pt b14 [.int .i64 0, .int .i64 0, .int .i64 0, .int .i64 0, .slice none 0 0, .slice none 0 0, .slice none 0 0, .slice none 0 0] 25]) ?_ (fun hS1_3_6_7_8 => ?_)
    · rintro ⟨x1, x2, vy, b13, b14, _⟩
      refine qt_seg (by repeat (first | exact PickL.nil | (apply PickL.cons; rfl))) fun K1 hK1 => ?_
      skip
      refine qf_alloc zero27 rfl (fun b15 => ?_)
      (refine qf_nil ?_)
      exact hK1 _ _ (hS1_3_6_7_8_9 ⟨x1, x2, vy, b13, b14, b15, ()⟩ _ _ ⟨rfl, rfl, rfl, rfl, rfl, rfl, rfl, rfl, rfl, rfl, rfl, rfl, trivial⟩ (by repeat (first | exact Sp.nil | exact Sp.refl _ | refine Sp.cons (by repeat constructor) ?_)))
    refine qt_let (σ := Cp r × Cp r × Value × Nat × Nat × Unit) (chainT [8] (chainT [10] (chainT [11] (chainT [12, 13] (.nil))))) (fun ⟨x1, x2, vy, b13, b15, ()⟩ => [(8, .pointer (some ⟨b2, 0, none⟩)), (9, .pointer (some ⟨b9, 0, none⟩)), (10, .pointer (some ⟨b10, 0, none⟩)), (11, vw), (12, .int .i64 ck), (60, .agg #[.int .i64 r.radius, .int .i64 r.unit, .int .i64 r.clicks, .int .i64 r.total, .slice x1.a1 r.group.length x1.c1, .slice x1.a2 r.drifts.length x1.c2, .slice x1.a3 r.first.length x1.c3, .slice x1.a4 r.next.length x1.c4]), (62, .agg #[.int .i64 r.radius, .int .i64 r.unit, .int .i64 r.clicks, .int .i64 r.total, .slice x2.a1 r.group.length x2.c1, .slice x2.a2 r.drifts.length x2.c2, .slice x2.a3 r.first.length x2.c3, .slice x2.a4 r.next.length x2.c4]), (63, .agg #[.int .i64 p.miss, .int .i64 p.click, .int .i64 p.wait, .int .i64 p.waits]), (65, vy), (13, .pointer (some ⟨b13, 0, none⟩)), (15, .pointer (some ⟨b15, 0, none⟩))]) (fun ⟨x1, x2, vy, b13, b15, ()⟩ => [un x1.K, un x2.K, .ow vy 64 2 5 (spC ws), .pt b13 [.int .i64 0, .int .i64 0, .int .i64 0, .int .i64 0, .slice none 0 0, .slice none 0 0, .slice none 0 0, .slice none 0 0] 25, .pt b15 [.int .i64 0, .int .i64 0, .int .i64 0, .int .i64 0] 27]) ?_ (fun hS1_3_6_7_9 => ?_)
    · rintro ⟨x1, x2, vy, b13, b15, _⟩
      refine qt_seg (by repeat (first | exact PickL.nil | (apply PickL.cons; rfl))) fun K1 hK1 => ?_
      skip
      refine qf_alloc zero25 rfl (fun b14 => ?_)
      (refine qf_nil ?_)
      exact hK1 _ _ (hS1_3_6_7_8_9 ⟨x1, x2, vy, b13, b14, b15, ()⟩ _ _ ⟨rfl, rfl, rfl, rfl, rfl, rfl, rfl, rfl, rfl, rfl, rfl, rfl, trivial⟩ (by repeat (first | exact Sp.nil | exact Sp.refl _ | refine Sp.cons (by repeat constructor) ?_)))
    refine qt_let (σ := Cp r × Cp r × Value × Nat × Nat × Unit) (chainT [7] (chainT [10] (chainT [11] (chainT [12, 13] (.nil))))) (fun ⟨x1, x2, vy, b14, b15, ()⟩ => [(8, .pointer (some ⟨b2, 0, none⟩)), (9, .pointer (some ⟨b9, 0, none⟩)), (10, .pointer (some ⟨b10, 0, none⟩)), (11, vw), (12, .int .i64 ck), (60, .agg #[.int .i64 r.radius, .int .i64 r.unit, .int .i64 r.clicks, .int .i64 r.total, .slice x1.a1 r.group.length x1.c1, .slice x1.a2 r.drifts.length x1.c2, .slice x1.a3 r.first.length x1.c3, .slice x1.a4 r.next.length x1.c4]), (62, .agg #[.int .i64 r.radius, .int .i64 r.unit, .int .i64 r.clicks, .int .i64 r.total, .slice x2.a1 r.group.length x2.c1, .slice x2.a2 r.drifts.length x2.c2, .slice x2.a3 r.first.length x2.c3, .slice x2.a4 r.next.length x2.c4]), (63, .agg #[.int .i64 p.miss, .int .i64 p.click, .int .i64 p.wait, .int .i64 p.waits]), (65, vy), (14, .pointer (some ⟨b14, 0, none⟩)), (15, .pointer (some ⟨b15, 0, none⟩))]) (fun ⟨x1, x2, vy, b14, b15, ()⟩ => [un x1.K, un x2.K, .ow vy 64 2 5 (spC ws), .pt b14 [.int .i64 0, .int .i64 0, .int .i64 0, .int .i64 0, .slice none 0 0, .slice none 0 0, .slice none 0 0, .slice none 0 0] 25, .pt b15 [.int .i64 0, .int .i64 0, .int .i64 0, .int .i64 0] 27]) ?_ (fun hS1_3_6_8_9 => ?_)
    · rintro ⟨x1, x2, vy, b14, b15, _⟩
      refine qt_seg (by repeat (first | exact PickL.nil | (apply PickL.cons; rfl))) fun K1 hK1 => ?_
      skip
      refine qf_alloc zero25 rfl (fun b13 => ?_)
      (refine qf_nil ?_)
      exact hK1 _ _ (hS1_3_6_7_8_9 ⟨x1, x2, vy, b13, b14, b15, ()⟩ _ _ ⟨rfl, rfl, rfl, rfl, rfl, rfl, rfl, rfl, rfl, rfl, rfl, rfl, trivial⟩ (by repeat (first | exact Sp.nil | exact Sp.refl _ | refine Sp.cons (by repeat constructor) ?_)))
    refine qt_let (σ := Cp r × Cp r × Nat × Nat × Nat × Unit) (chainT [4, 5, 6] (chainT [10] (chainT [11] (chainT [12, 13] (.nil))))) (fun ⟨x1, x2, b13, b14, b15, ()⟩ => [(8, .pointer (some ⟨b2, 0, none⟩)), (9, .pointer (some ⟨b9, 0, none⟩)), (10, .pointer (some ⟨b10, 0, none⟩)), (11, vw), (12, .int .i64 ck), (60, .agg #[.int .i64 r.radius, .int .i64 r.unit, .int .i64 r.clicks, .int .i64 r.total, .slice x1.a1 r.group.length x1.c1, .slice x1.a2 r.drifts.length x1.c2, .slice x1.a3 r.first.length x1.c3, .slice x1.a4 r.next.length x1.c4]), (62, .agg #[.int .i64 r.radius, .int .i64 r.unit, .int .i64 r.clicks, .int .i64 r.total, .slice x2.a1 r.group.length x2.c1, .slice x2.a2 r.drifts.length x2.c2, .slice x2.a3 r.first.length x2.c3, .slice x2.a4 r.next.length x2.c4]), (13, .pointer (some ⟨b13, 0, none⟩)), (14, .pointer (some ⟨b14, 0, none⟩)), (15, .pointer (some ⟨b15, 0, none⟩))]) (fun ⟨x1, x2, b13, b14, b15, ()⟩ => [un x1.K, un x2.K, .pt b13 [.int .i64 0, .int .i64 0, .int .i64 0, .int .i64 0, .slice none 0 0, .slice none 0 0, .slice none 0 0, .slice none 0 0] 25, .pt b14 [.int .i64 0, .int .i64 0, .int .i64 0, .int .i64 0, .slice none 0 0, .slice none 0 0, .slice none 0 0, .slice none 0 0] 25, .pt b15 [.int .i64 0, .int .i64 0, .int .i64 0, .int .i64 0] 27]) ?_ (fun hS1_3_7_8_9 => ?_)
    · rintro ⟨x1, x2, b13, b14, b15, _⟩
      refine qt_seg (by repeat (first | exact PickL.nil | (apply PickL.cons; rfl))) fun K1 hK1 => ?_
      (refine qf_loadAB tabOk rfl rfl rfl (by repeat first | exact .head _ | refine .tail _ ?_) (by rfl) (by rfl) ?_; refine qf_pure tabOk rfl rfl rfl ?_)
      refine qf_call (β := Value) (ψ := fun x v => v = x) (L' := fun x => [.ow x 64 2 5 (spC ws)]) tabOk [] _ M0 rfl rfl rfl rfl (Sp.refl _) (fun _ h => h.elim) (fun w' hs => by have := cloneS_ca w' 0 w'.heap.size vw ws (Sat.rdSp hs (t := 64) (k := 5) (by repeat first | exact .head _ | refine .tail _ ?_) hws.1.symm) (by rw [hws.1]; omega); rw [hws.1] at this; exact this) ?_
      rintro _ vy rfl
      (refine qf_nil ?_)
      exact hK1 _ _ (hS1_3_6_7_8_9 ⟨x1, x2, vy, b13, b14, b15, ()⟩ _ _ ⟨rfl, rfl, rfl, rfl, rfl, rfl, rfl, rfl, rfl, rfl, rfl, rfl, trivial⟩ (by repeat (first | exact Sp.nil | exact Sp.refl _ | refine Sp.cons (by repeat constructor) ?_)))
    refine qt_let (σ := Cp r × Cp r × Value × Nat × Unit) (.alt (chainT [8] (chainT [9] (chainT [10] (chainT [11] (chainT [12, 13] (.nil)))))) (chainT [9] (chainT [8] (chainT [10] (chainT [11] (chainT [12, 13] (.nil))))))) (fun ⟨x1, x2, vy, b13, ()⟩ => [(8, .pointer (some ⟨b2, 0, none⟩)), (9, .pointer (some ⟨b9, 0, none⟩)), (10, .pointer (some ⟨b10, 0, none⟩)), (11, vw), (12, .int .i64 ck), (60, .agg #[.int .i64 r.radius, .int .i64 r.unit, .int .i64 r.clicks, .int .i64 r.total, .slice x1.a1 r.group.length x1.c1, .slice x1.a2 r.drifts.length x1.c2, .slice x1.a3 r.first.length x1.c3, .slice x1.a4 r.next.length x1.c4]), (62, .agg #[.int .i64 r.radius, .int .i64 r.unit, .int .i64 r.clicks, .int .i64 r.total, .slice x2.a1 r.group.length x2.c1, .slice x2.a2 r.drifts.length x2.c2, .slice x2.a3 r.first.length x2.c3, .slice x2.a4 r.next.length x2.c4]), (63, .agg #[.int .i64 p.miss, .int .i64 p.click, .int .i64 p.wait, .int .i64 p.waits]), (65, vy), (13, .pointer (some ⟨b13, 0, none⟩))]) (fun ⟨x1, x2, vy, b13, ()⟩ => [un x1.K, un x2.K, .ow vy 64 2 5 (spC ws), .pt b13 [.int .i64 0, .int .i64 0, .int .i64 0, .int .i64 0, .slice none 0 0, .slice none 0 0, .slice none 0 0, .slice none 0 0] 25]) ?_ (fun hS1_3_6_7 => ?_)
    · rintro ⟨x1, x2, vy, b13, _⟩
      refine qt_alt ?_ ?_
      · skip
        refine qt_seg (by repeat (first | exact PickL.nil | (apply PickL.cons; rfl))) fun K1 hK1 => ?_
        skip
        refine qf_alloc zero25 rfl (fun b14 => ?_)
        (refine qf_nil ?_)
        exact hK1 _ _ (hS1_3_6_7_8 ⟨x1, x2, vy, b13, b14, ()⟩ _ _ ⟨rfl, rfl, rfl, rfl, rfl, rfl, rfl, rfl, rfl, rfl, rfl, trivial⟩ (by repeat (first | exact Sp.nil | exact Sp.refl _ | refine Sp.cons (by repeat constructor) ?_)))
      · skip
        refine qt_seg (by repeat (first | exact PickL.nil | (apply PickL.cons; rfl))) fun K1 hK1 => ?_
        skip
        refine qf_alloc zero27 rfl (fun b15 => ?_)
        (refine qf_nil ?_)
        exact hK1 _ _ (hS1_3_6_7_9 ⟨x1, x2, vy, b13, b15, ()⟩ _ _ ⟨rfl, rfl, rfl, rfl, rfl, rfl, rfl, rfl, rfl, rfl, rfl, trivial⟩ (by repeat (first | exact Sp.nil | exact Sp.refl _ | refine Sp.cons (by repeat constructor) ?_)))
    refine qt_let (σ := Cp r × Cp r × Value × Nat × Unit) (.alt (chainT [7] (chainT [9] (chainT [10] (chainT [11] (chainT [12, 13] (.nil)))))) (chainT [9] (chainT [7] (chainT [10] (chainT [11] (chainT [12, 13] (.nil))))))) (fun ⟨x1, x2, vy, b14, ()⟩ => [(8, .pointer (some ⟨b2, 0, none⟩)), (9, .pointer (some ⟨b9, 0, none⟩)), (10, .pointer (some ⟨b10, 0, none⟩)), (11, vw), (12, .int .i64 ck), (60, .agg #[.int .i64 r.radius, .int .i64 r.unit, .int .i64 r.clicks, .int .i64 r.total, .slice x1.a1 r.group.length x1.c1, .slice x1.a2 r.drifts.length x1.c2, .slice x1.a3 r.first.length x1.c3, .slice x1.a4 r.next.length x1.c4]), (62, .agg #[.int .i64 r.radius, .int .i64 r.unit, .int .i64 r.clicks, .int .i64 r.total, .slice x2.a1 r.group.length x2.c1, .slice x2.a2 r.drifts.length x2.c2, .slice x2.a3 r.first.length x2.c3, .slice x2.a4 r.next.length x2.c4]), (63, .agg #[.int .i64 p.miss, .int .i64 p.click, .int .i64 p.wait, .int .i64 p.waits]), (65, vy), (14, .pointer (some ⟨b14, 0, none⟩))]) (fun ⟨x1, x2, vy, b14, ()⟩ => [un x1.K, un x2.K, .ow vy 64 2 5 (spC ws), .pt b14 [.int .i64 0, .int .i64 0, .int .i64 0, .int .i64 0, .slice none 0 0, .slice none 0 0, .slice none 0 0, .slice none 0 0] 25]) ?_ (fun hS1_3_6_8 => ?_)
    · rintro ⟨x1, x2, vy, b14, _⟩
      refine qt_alt ?_ ?_
      · skip
        refine qt_seg (by repeat (first | exact PickL.nil | (apply PickL.cons; rfl))) fun K1 hK1 => ?_
        skip
        refine qf_alloc zero25 rfl (fun b13 => ?_)
        (refine qf_nil ?_)
        exact hK1 _ _ (hS1_3_6_7_8 ⟨x1, x2, vy, b13, b14, ()⟩ _ _ ⟨rfl, rfl, rfl, rfl, rfl, rfl, rfl, rfl, rfl, rfl, rfl, trivial⟩ (by repeat (first | exact Sp.nil | exact Sp.refl _ | refine Sp.cons (by repeat constructor) ?_)))
      · skip
        refine qt_seg (by repeat (first | exact PickL.nil | (apply PickL.cons; rfl))) fun K1 hK1 => ?_
        skip
        refine qf_alloc zero27 rfl (fun b15 => ?_)
        (refine qf_nil ?_)
        exact hK1 _ _ (hS1_3_6_8_9 ⟨x1, x2, vy, b14, b15, ()⟩ _ _ ⟨rfl, rfl, rfl, rfl, rfl, rfl, rfl, rfl, rfl, rfl, rfl, trivial⟩ (by repeat (first | exact Sp.nil | exact Sp.refl _ | refine Sp.cons (by repeat constructor) ?_)))
    refine qt_let (σ := Cp r × Cp r × Value × Nat × Unit) (.alt (chainT [7] (chainT [8] (chainT [10] (chainT [11] (chainT [12, 13] (.nil)))))) (chainT [8] (chainT [7] (chainT [10] (chainT [11] (chainT [12, 13] (.nil))))))) (fun ⟨x1, x2, vy, b15, ()⟩ => [(8, .pointer (some ⟨b2, 0, none⟩)), (9, .pointer (some ⟨b9, 0, none⟩)), (10, .pointer (some ⟨b10, 0, none⟩)), (11, vw), (12, .int .i64 ck), (60, .agg #[.int .i64 r.radius, .int .i64 r.unit, .int .i64 r.clicks, .int .i64 r.total, .slice x1.a1 r.group.length x1.c1, .slice x1.a2 r.drifts.length x1.c2, .slice x1.a3 r.first.length x1.c3, .slice x1.a4 r.next.length x1.c4]), (62, .agg #[.int .i64 r.radius, .int .i64 r.unit, .int .i64 r.clicks, .int .i64 r.total, .slice x2.a1 r.group.length x2.c1, .slice x2.a2 r.drifts.length x2.c2, .slice x2.a3 r.first.length x2.c3, .slice x2.a4 r.next.length x2.c4]), (63, .agg #[.int .i64 p.miss, .int .i64 p.click, .int .i64 p.wait, .int .i64 p.waits]), (65, vy), (15, .pointer (some ⟨b15, 0, none⟩))]) (fun ⟨x1, x2, vy, b15, ()⟩ => [un x1.K, un x2.K, .ow vy 64 2 5 (spC ws), .pt b15 [.int .i64 0, .int .i64 0, .int .i64 0, .int .i64 0] 27]) ?_ (fun hS1_3_6_9 => ?_)
    · rintro ⟨x1, x2, vy, b15, _⟩
      refine qt_alt ?_ ?_
      · skip
        refine qt_seg (by repeat (first | exact PickL.nil | (apply PickL.cons; rfl))) fun K1 hK1 => ?_
        skip
        refine qf_alloc zero25 rfl (fun b13 => ?_)
        (refine qf_nil ?_)
        exact hK1 _ _ (hS1_3_6_7_9 ⟨x1, x2, vy, b13, b15, ()⟩ _ _ ⟨rfl, rfl, rfl, rfl, rfl, rfl, rfl, rfl, rfl, rfl, rfl, trivial⟩ (by repeat (first | exact Sp.nil | exact Sp.refl _ | refine Sp.cons (by repeat constructor) ?_)))
      · skip
        refine qt_seg (by repeat (first | exact PickL.nil | (apply PickL.cons; rfl))) fun K1 hK1 => ?_
        skip
        refine qf_alloc zero25 rfl (fun b14 => ?_)
        (refine qf_nil ?_)
        exact hK1 _ _ (hS1_3_6_8_9 ⟨x1, x2, vy, b14, b15, ()⟩ _ _ ⟨rfl, rfl, rfl, rfl, rfl, rfl, rfl, rfl, rfl, rfl, rfl, trivial⟩ (by repeat (first | exact Sp.nil | exact Sp.refl _ | refine Sp.cons (by repeat constructor) ?_)))
    refine qt_let (σ := Cp r × Cp r × Nat × Nat × Unit) (.alt (chainT [4, 5, 6] (chainT [9] (chainT [10] (chainT [11] (chainT [12, 13] (.nil)))))) (chainT [9] (chainT [4, 5, 6] (chainT [10] (chainT [11] (chainT [12, 13] (.nil))))))) (fun ⟨x1, x2, b13, b14, ()⟩ => [(8, .pointer (some ⟨b2, 0, none⟩)), (9, .pointer (some ⟨b9, 0, none⟩)), (10, .pointer (some ⟨b10, 0, none⟩)), (11, vw), (12, .int .i64 ck), (60, .agg #[.int .i64 r.radius, .int .i64 r.unit, .int .i64 r.clicks, .int .i64 r.total, .slice x1.a1 r.group.length x1.c1, .slice x1.a2 r.drifts.length x1.c2, .slice x1.a3 r.first.length x1.c3, .slice x1.a4 r.next.length x1.c4]), (62, .agg #[.int .i64 r.radius, .int .i64 r.unit, .int .i64 r.clicks, .int .i64 r.total, .slice x2.a1 r.group.length x2.c1, .slice x2.a2 r.drifts.length x2.c2, .slice x2.a3 r.first.length x2.c3, .slice x2.a4 r.next.length x2.c4]), (13, .pointer (some ⟨b13, 0, none⟩)), (14, .pointer (some ⟨b14, 0, none⟩))]) (fun ⟨x1, x2, b13, b14, ()⟩ => [un x1.K, un x2.K, .pt b13 [.int .i64 0, .int .i64 0, .int .i64 0, .int .i64 0, .slice none 0 0, .slice none 0 0, .slice none 0 0, .slice none 0 0] 25, .pt b14 [.int .i64 0, .int .i64 0, .int .i64 0, .int .i64 0, .slice none 0 0, .slice none 0 0, .slice none 0 0, .slice none 0 0] 25]) ?_ (fun hS1_3_7_8 => ?_)
    · rintro ⟨x1, x2, b13, b14, _⟩
      refine qt_alt ?_ ?_
      · skip
        refine qt_seg (by repeat (first | exact PickL.nil | (apply PickL.cons; rfl))) fun K1 hK1 => ?_
        (refine qf_loadAB tabOk rfl rfl rfl (by repeat first | exact .head _ | refine .tail _ ?_) (by rfl) (by rfl) ?_; refine qf_pure tabOk rfl rfl rfl ?_)
        refine qf_call (β := Value) (ψ := fun x v => v = x) (L' := fun x => [.ow x 64 2 5 (spC ws)]) tabOk [] _ M0 rfl rfl rfl rfl (Sp.refl _) (fun _ h => h.elim) (fun w' hs => by have := cloneS_ca w' 0 w'.heap.size vw ws (Sat.rdSp hs (t := 64) (k := 5) (by repeat first | exact .head _ | refine .tail _ ?_) hws.1.symm) (by rw [hws.1]; omega); rw [hws.1] at this; exact this) ?_
        rintro _ vy rfl
        (refine qf_nil ?_)
        exact hK1 _ _ (hS1_3_6_7_8 ⟨x1, x2, vy, b13, b14, ()⟩ _ _ ⟨rfl, rfl, rfl, rfl, rfl, rfl, rfl, rfl, rfl, rfl, rfl, trivial⟩ (by repeat (first | exact Sp.nil | exact Sp.refl _ | refine Sp.cons (by repeat constructor) ?_)))
      · skip
        refine qt_seg (by repeat (first | exact PickL.nil | (apply PickL.cons; rfl))) fun K1 hK1 => ?_
        skip
        refine qf_alloc zero27 rfl (fun b15 => ?_)
        (refine qf_nil ?_)
        exact hK1 _ _ (hS1_3_7_8_9 ⟨x1, x2, b13, b14, b15, ()⟩ _ _ ⟨rfl, rfl, rfl, rfl, rfl, rfl, rfl, rfl, rfl, rfl, trivial⟩ (by repeat (first | exact Sp.nil | exact Sp.refl _ | refine Sp.cons (by repeat constructor) ?_)))
    refine qt_let (σ := Cp r × Cp r × Nat × Nat × Unit) (.alt (chainT [4, 5, 6] (chainT [8] (chainT [10] (chainT [11] (chainT [12, 13] (.nil)))))) (chainT [8] (chainT [4, 5, 6] (chainT [10] (chainT [11] (chainT [12, 13] (.nil))))))) (fun ⟨x1, x2, b13, b15, ()⟩ => [(8, .pointer (some ⟨b2, 0, none⟩)), (9, .pointer (some ⟨b9, 0, none⟩)), (10, .pointer (some ⟨b10, 0, none⟩)), (11, vw), (12, .int .i64 ck), (60, .agg #[.int .i64 r.radius, .int .i64 r.unit, .int .i64 r.clicks, .int .i64 r.total, .slice x1.a1 r.group.length x1.c1, .slice x1.a2 r.drifts.length x1.c2, .slice x1.a3 r.first.length x1.c3, .slice x1.a4 r.next.length x1.c4]), (62, .agg #[.int .i64 r.radius, .int .i64 r.unit, .int .i64 r.clicks, .int .i64 r.total, .slice x2.a1 r.group.length x2.c1, .slice x2.a2 r.drifts.length x2.c2, .slice x2.a3 r.first.length x2.c3, .slice x2.a4 r.next.length x2.c4]), (13, .pointer (some ⟨b13, 0, none⟩)), (15, .pointer (some ⟨b15, 0, none⟩))]) (fun ⟨x1, x2, b13, b15, ()⟩ => [un x1.K, un x2.K, .pt b13 [.int .i64 0, .int .i64 0, .int .i64 0, .int .i64 0, .slice none 0 0, .slice none 0 0, .slice none 0 0, .slice none 0 0] 25, .pt b15 [.int .i64 0, .int .i64 0, .int .i64 0, .int .i64 0] 27]) ?_ (fun hS1_3_7_9 => ?_)
    · rintro ⟨x1, x2, b13, b15, _⟩
      refine qt_alt ?_ ?_
      · skip
        refine qt_seg (by repeat (first | exact PickL.nil | (apply PickL.cons; rfl))) fun K1 hK1 => ?_
        (refine qf_loadAB tabOk rfl rfl rfl (by repeat first | exact .head _ | refine .tail _ ?_) (by rfl) (by rfl) ?_; refine qf_pure tabOk rfl rfl rfl ?_)
        refine qf_call (β := Value) (ψ := fun x v => v = x) (L' := fun x => [.ow x 64 2 5 (spC ws)]) tabOk [] _ M0 rfl rfl rfl rfl (Sp.refl _) (fun _ h => h.elim) (fun w' hs => by have := cloneS_ca w' 0 w'.heap.size vw ws (Sat.rdSp hs (t := 64) (k := 5) (by repeat first | exact .head _ | refine .tail _ ?_) hws.1.symm) (by rw [hws.1]; omega); rw [hws.1] at this; exact this) ?_
        rintro _ vy rfl
        (refine qf_nil ?_)
        exact hK1 _ _ (hS1_3_6_7_9 ⟨x1, x2, vy, b13, b15, ()⟩ _ _ ⟨rfl, rfl, rfl, rfl, rfl, rfl, rfl, rfl, rfl, rfl, rfl, trivial⟩ (by repeat (first | exact Sp.nil | exact Sp.refl _ | refine Sp.cons (by repeat constructor) ?_)))
      · skip
        refine qt_seg (by repeat (first | exact PickL.nil | (apply PickL.cons; rfl))) fun K1 hK1 => ?_
        skip
        refine qf_alloc zero25 rfl (fun b14 => ?_)
        (refine qf_nil ?_)
        exact hK1 _ _ (hS1_3_7_8_9 ⟨x1, x2, b13, b14, b15, ()⟩ _ _ ⟨rfl, rfl, rfl, rfl, rfl, rfl, rfl, rfl, rfl, rfl, trivial⟩ (by repeat (first | exact Sp.nil | exact Sp.refl _ | refine Sp.cons (by repeat constructor) ?_)))
    refine qt_let (σ := Cp r × Cp r × Nat × Nat × Unit) (.alt (chainT [4, 5, 6] (chainT [7] (chainT [10] (chainT [11] (chainT [12, 13] (.nil)))))) (chainT [7] (chainT [4, 5, 6] (chainT [10] (chainT [11] (chainT [12, 13] (.nil))))))) (fun ⟨x1, x2, b14, b15, ()⟩ => [(8, .pointer (some ⟨b2, 0, none⟩)), (9, .pointer (some ⟨b9, 0, none⟩)), (10, .pointer (some ⟨b10, 0, none⟩)), (11, vw), (12, .int .i64 ck), (60, .agg #[.int .i64 r.radius, .int .i64 r.unit, .int .i64 r.clicks, .int .i64 r.total, .slice x1.a1 r.group.length x1.c1, .slice x1.a2 r.drifts.length x1.c2, .slice x1.a3 r.first.length x1.c3, .slice x1.a4 r.next.length x1.c4]), (62, .agg #[.int .i64 r.radius, .int .i64 r.unit, .int .i64 r.clicks, .int .i64 r.total, .slice x2.a1 r.group.length x2.c1, .slice x2.a2 r.drifts.length x2.c2, .slice x2.a3 r.first.length x2.c3, .slice x2.a4 r.next.length x2.c4]), (14, .pointer (some ⟨b14, 0, none⟩)), (15, .pointer (some ⟨b15, 0, none⟩))]) (fun ⟨x1, x2, b14, b15, ()⟩ => [un x1.K, un x2.K, .pt b14 [.int .i64 0, .int .i64 0, .int .i64 0, .int .i64 0, .slice none 0 0, .slice none 0 0, .slice none 0 0, .slice none 0 0] 25, .pt b15 [.int .i64 0, .int .i64 0, .int .i64 0, .int .i64 0] 27]) ?_ (fun hS1_3_8_9 => ?_)
    · rintro ⟨x1, x2, b14, b15, _⟩
      refine qt_alt ?_ ?_
      · skip
        refine qt_seg (by repeat (first | exact PickL.nil | (apply PickL.cons; rfl))) fun K1 hK1 => ?_
        (refine qf_loadAB tabOk rfl rfl rfl (by repeat first | exact .head _ | refine .tail _ ?_) (by rfl) (by rfl) ?_; refine qf_pure tabOk rfl rfl rfl ?_)
        refine qf_call (β := Value) (ψ := fun x v => v = x) (L' := fun x => [.ow x 64 2 5 (spC ws)]) tabOk [] _ M0 rfl rfl rfl rfl (Sp.refl _) (fun _ h => h.elim) (fun w' hs => by have := cloneS_ca w' 0 w'.heap.size vw ws (Sat.rdSp hs (t := 64) (k := 5) (by repeat first | exact .head _ | refine .tail _ ?_) hws.1.symm) (by rw [hws.1]; omega); rw [hws.1] at this; exact this) ?_
        rintro _ vy rfl
        (refine qf_nil ?_)
        exact hK1 _ _ (hS1_3_6_8_9 ⟨x1, x2, vy, b14, b15, ()⟩ _ _ ⟨rfl, rfl, rfl, rfl, rfl, rfl, rfl, rfl, rfl, rfl, rfl, trivial⟩ (by repeat (first | exact Sp.nil | exact Sp.refl _ | refine Sp.cons (by repeat constructor) ?_)))
      · skip
        refine qt_seg (by repeat (first | exact PickL.nil | (apply PickL.cons; rfl))) fun K1 hK1 => ?_
        skip
        refine qf_alloc zero25 rfl (fun b13 => ?_)
        (refine qf_nil ?_)
        exact hK1 _ _ (hS1_3_7_8_9 ⟨x1, x2, b13, b14, b15, ()⟩ _ _ ⟨rfl, rfl, rfl, rfl, rfl, rfl, rfl, rfl, rfl, rfl, trivial⟩ (by repeat (first | exact Sp.nil | exact Sp.refl _ | refine Sp.cons (by repeat constructor) ?_)))
    refine qt_let (σ := Cp r × Nat × Nat × Nat × Unit) (chainT [2, 3] (chainT [4, 5, 6] (chainT [10] (chainT [11] (chainT [12, 13] (.nil)))))) (fun ⟨x1, b13, b14, b15, ()⟩ => [(8, .pointer (some ⟨b2, 0, none⟩)), (9, .pointer (some ⟨b9, 0, none⟩)), (10, .pointer (some ⟨b10, 0, none⟩)), (11, vw), (12, .int .i64 ck), (60, .agg #[.int .i64 r.radius, .int .i64 r.unit, .int .i64 r.clicks, .int .i64 r.total, .slice x1.a1 r.group.length x1.c1, .slice x1.a2 r.drifts.length x1.c2, .slice x1.a3 r.first.length x1.c3, .slice x1.a4 r.next.length x1.c4]), (13, .pointer (some ⟨b13, 0, none⟩)), (14, .pointer (some ⟨b14, 0, none⟩)), (15, .pointer (some ⟨b15, 0, none⟩))]) (fun ⟨x1, b13, b14, b15, ()⟩ => [un x1.K, .pt b13 [.int .i64 0, .int .i64 0, .int .i64 0, .int .i64 0, .slice none 0 0, .slice none 0 0, .slice none 0 0, .slice none 0 0] 25, .pt b14 [.int .i64 0, .int .i64 0, .int .i64 0, .int .i64 0, .slice none 0 0, .slice none 0 0, .slice none 0 0, .slice none 0 0] 25, .pt b15 [.int .i64 0, .int .i64 0, .int .i64 0, .int .i64 0] 27]) ?_ (fun hS1_7_8_9 => ?_)
    · rintro ⟨x1, b13, b14, b15, _⟩
      refine qt_seg (by repeat (first | exact PickL.nil | (apply PickL.cons; rfl))) fun K1 hK1 => ?_
      (refine qf_loadAB tabOk rfl rfl rfl (by repeat first | exact .head _ | refine .tail _ ?_) (by rfl) (by rfl) ?_)
      refine qf_call (β := Cp r) tabOk [] _ M0 rfl rfl rfl rfl (Sp.refl _) (fun _ h => h.elim) (fun w' hs => cloneR_cp w' [.int .i64 r.radius, .int .i64 r.unit, .int .i64 r.clicks, .int .i64 r.total, .slice (some ⟨bgr, ogr, none⟩) r.group.length cgr, .slice (some ⟨bdr, odr, none⟩) r.drifts.length cdr, .slice (some ⟨bfr, ofr, none⟩) r.first.length cfr, .slice (some ⟨bnr, onr, none⟩) r.next.length cnr] r (ownr.at hs (by repeat first | exact .head _ | refine .tail _ ?_)) mader.small) ?_
      rintro x2 _ rfl
      (refine qf_nil ?_)
      exact hK1 _ _ (hS1_3_7_8_9 ⟨x1, x2, b13, b14, b15, ()⟩ _ _ ⟨rfl, rfl, rfl, rfl, rfl, rfl, rfl, rfl, rfl, rfl, trivial⟩ (by repeat (first | exact Sp.nil | exact Sp.refl _ | refine Sp.cons (by repeat constructor) ?_)))
    refine qt_let (σ := Cp r × Cp r × Value × Unit) (.alt (chainT [7] (.alt (chainT [8] (chainT [9] (chainT [10] (chainT [11] (chainT [12, 13] (.nil)))))) (chainT [9] (chainT [8] (chainT [10] (chainT [11] (chainT [12, 13] (.nil)))))))) (.alt (chainT [8] (.alt (chainT [7] (chainT [9] (chainT [10] (chainT [11] (chainT [12, 13] (.nil)))))) (chainT [9] (chainT [7] (chainT [10] (chainT [11] (chainT [12, 13] (.nil)))))))) (chainT [9] (.alt (chainT [7] (chainT [8] (chainT [10] (chainT [11] (chainT [12, 13] (.nil)))))) (chainT [8] (chainT [7] (chainT [10] (chainT [11] (chainT [12, 13] (.nil)))))))))) (fun ⟨x1, x2, vy, ()⟩ => [(8, .pointer (some ⟨b2, 0, none⟩)), (9, .pointer (some ⟨b9, 0, none⟩)), (10, .pointer (some ⟨b10, 0, none⟩)), (11, vw), (12, .int .i64 ck), (60, .agg #[.int .i64 r.radius, .int .i64 r.unit, .int .i64 r.clicks, .int .i64 r.total, .slice x1.a1 r.group.length x1.c1, .slice x1.a2 r.drifts.length x1.c2, .slice x1.a3 r.first.length x1.c3, .slice x1.a4 r.next.length x1.c4]), (62, .agg #[.int .i64 r.radius, .int .i64 r.unit, .int .i64 r.clicks, .int .i64 r.total, .slice x2.a1 r.group.length x2.c1, .slice x2.a2 r.drifts.length x2.c2, .slice x2.a3 r.first.length x2.c3, .slice x2.a4 r.next.length x2.c4]), (63, .agg #[.int .i64 p.miss, .int .i64 p.click, .int .i64 p.wait, .int .i64 p.waits]), (65, vy)]) (fun ⟨x1, x2, vy, ()⟩ => [un x1.K, un x2.K, .ow vy 64 2 5 (spC ws)]) ?_ (fun hS1_3_6 => ?_)
    · rintro ⟨x1, x2, vy, _⟩
      refine qt_alt ?_ (qt_alt ?_ ?_)
      · skip
        refine qt_seg (by repeat (first | exact PickL.nil | (apply PickL.cons; rfl))) fun K1 hK1 => ?_
        skip
        refine qf_alloc zero25 rfl (fun b13 => ?_)
        (refine qf_nil ?_)
        exact hK1 _ _ (hS1_3_6_7 ⟨x1, x2, vy, b13, ()⟩ _ _ ⟨rfl, rfl, rfl, rfl, rfl, rfl, rfl, rfl, rfl, rfl, trivial⟩ (by repeat (first | exact Sp.nil | exact Sp.refl _ | refine Sp.cons (by repeat constructor) ?_)))
      · skip
        refine qt_seg (by repeat (first | exact PickL.nil | (apply PickL.cons; rfl))) fun K1 hK1 => ?_
        skip
        refine qf_alloc zero25 rfl (fun b14 => ?_)
        (refine qf_nil ?_)
        exact hK1 _ _ (hS1_3_6_8 ⟨x1, x2, vy, b14, ()⟩ _ _ ⟨rfl, rfl, rfl, rfl, rfl, rfl, rfl, rfl, rfl, rfl, trivial⟩ (by repeat (first | exact Sp.nil | exact Sp.refl _ | refine Sp.cons (by repeat constructor) ?_)))
      · skip
        refine qt_seg (by repeat (first | exact PickL.nil | (apply PickL.cons; rfl))) fun K1 hK1 => ?_
        skip
        refine qf_alloc zero27 rfl (fun b15 => ?_)
        (refine qf_nil ?_)
        exact hK1 _ _ (hS1_3_6_9 ⟨x1, x2, vy, b15, ()⟩ _ _ ⟨rfl, rfl, rfl, rfl, rfl, rfl, rfl, rfl, rfl, rfl, trivial⟩ (by repeat (first | exact Sp.nil | exact Sp.refl _ | refine Sp.cons (by repeat constructor) ?_)))
    refine qt_let (σ := Cp r × Cp r × Nat × Unit) (.alt (chainT [4, 5, 6] (.alt (chainT [8] (chainT [9] (chainT [10] (chainT [11] (chainT [12, 13] (.nil)))))) (chainT [9] (chainT [8] (chainT [10] (chainT [11] (chainT [12, 13] (.nil)))))))) (.alt (chainT [8] (.alt (chainT [4, 5, 6] (chainT [9] (chainT [10] (chainT [11] (chainT [12, 13] (.nil)))))) (chainT [9] (chainT [4, 5, 6] (chainT [10] (chainT [11] (chainT [12, 13] (.nil)))))))) (chainT [9] (.alt (chainT [4, 5, 6] (chainT [8] (chainT [10] (chainT [11] (chainT [12, 13] (.nil)))))) (chainT [8] (chainT [4, 5, 6] (chainT [10] (chainT [11] (chainT [12, 13] (.nil)))))))))) (fun ⟨x1, x2, b13, ()⟩ => [(8, .pointer (some ⟨b2, 0, none⟩)), (9, .pointer (some ⟨b9, 0, none⟩)), (10, .pointer (some ⟨b10, 0, none⟩)), (11, vw), (12, .int .i64 ck), (60, .agg #[.int .i64 r.radius, .int .i64 r.unit, .int .i64 r.clicks, .int .i64 r.total, .slice x1.a1 r.group.length x1.c1, .slice x1.a2 r.drifts.length x1.c2, .slice x1.a3 r.first.length x1.c3, .slice x1.a4 r.next.length x1.c4]), (62, .agg #[.int .i64 r.radius, .int .i64 r.unit, .int .i64 r.clicks, .int .i64 r.total, .slice x2.a1 r.group.length x2.c1, .slice x2.a2 r.drifts.length x2.c2, .slice x2.a3 r.first.length x2.c3, .slice x2.a4 r.next.length x2.c4]), (13, .pointer (some ⟨b13, 0, none⟩))]) (fun ⟨x1, x2, b13, ()⟩ => [un x1.K, un x2.K, .pt b13 [.int .i64 0, .int .i64 0, .int .i64 0, .int .i64 0, .slice none 0 0, .slice none 0 0, .slice none 0 0, .slice none 0 0] 25]) ?_ (fun hS1_3_7 => ?_)
    · rintro ⟨x1, x2, b13, _⟩
      refine qt_alt ?_ (qt_alt ?_ ?_)
      · skip
        refine qt_seg (by repeat (first | exact PickL.nil | (apply PickL.cons; rfl))) fun K1 hK1 => ?_
        (refine qf_loadAB tabOk rfl rfl rfl (by repeat first | exact .head _ | refine .tail _ ?_) (by rfl) (by rfl) ?_; refine qf_pure tabOk rfl rfl rfl ?_)
        refine qf_call (β := Value) (ψ := fun x v => v = x) (L' := fun x => [.ow x 64 2 5 (spC ws)]) tabOk [] _ M0 rfl rfl rfl rfl (Sp.refl _) (fun _ h => h.elim) (fun w' hs => by have := cloneS_ca w' 0 w'.heap.size vw ws (Sat.rdSp hs (t := 64) (k := 5) (by repeat first | exact .head _ | refine .tail _ ?_) hws.1.symm) (by rw [hws.1]; omega); rw [hws.1] at this; exact this) ?_
        rintro _ vy rfl
        (refine qf_nil ?_)
        exact hK1 _ _ (hS1_3_6_7 ⟨x1, x2, vy, b13, ()⟩ _ _ ⟨rfl, rfl, rfl, rfl, rfl, rfl, rfl, rfl, rfl, rfl, trivial⟩ (by repeat (first | exact Sp.nil | exact Sp.refl _ | refine Sp.cons (by repeat constructor) ?_)))
      · skip
        refine qt_seg (by repeat (first | exact PickL.nil | (apply PickL.cons; rfl))) fun K1 hK1 => ?_
        skip
        refine qf_alloc zero25 rfl (fun b14 => ?_)
        (refine qf_nil ?_)
        exact hK1 _ _ (hS1_3_7_8 ⟨x1, x2, b13, b14, ()⟩ _ _ ⟨rfl, rfl, rfl, rfl, rfl, rfl, rfl, rfl, rfl, trivial⟩ (by repeat (first | exact Sp.nil | exact Sp.refl _ | refine Sp.cons (by repeat constructor) ?_)))
      · skip
        refine qt_seg (by repeat (first | exact PickL.nil | (apply PickL.cons; rfl))) fun K1 hK1 => ?_
        skip
        refine qf_alloc zero27 rfl (fun b15 => ?_)
        (refine qf_nil ?_)
        exact hK1 _ _ (hS1_3_7_9 ⟨x1, x2, b13, b15, ()⟩ _ _ ⟨rfl, rfl, rfl, rfl, rfl, rfl, rfl, rfl, rfl, trivial⟩ (by repeat (first | exact Sp.nil | exact Sp.refl _ | refine Sp.cons (by repeat constructor) ?_)))
    refine qt_let (σ := Cp r × Cp r × Nat × Unit) (.alt (chainT [4, 5, 6] (.alt (chainT [7] (chainT [9] (chainT [10] (chainT [11] (chainT [12, 13] (.nil)))))) (chainT [9] (chainT [7] (chainT [10] (chainT [11] (chainT [12, 13] (.nil)))))))) (.alt (chainT [7] (.alt (chainT [4, 5, 6] (chainT [9] (chainT [10] (chainT [11] (chainT [12, 13] (.nil)))))) (chainT [9] (chainT [4, 5, 6] (chainT [10] (chainT [11] (chainT [12, 13] (.nil)))))))) (chainT [9] (.alt (chainT [4, 5, 6] (chainT [7] (chainT [10] (chainT [11] (chainT [12, 13] (.nil)))))) (chainT [7] (chainT [4, 5, 6] (chainT [10] (chainT [11] (chainT [12, 13] (.nil)))))))))) (fun ⟨x1, x2, b14, ()⟩ => [(8, .pointer (some ⟨b2, 0, none⟩)), (9, .pointer (some ⟨b9, 0, none⟩)), (10, .pointer (some ⟨b10, 0, none⟩)), (11, vw), (12, .int .i64 ck), (60, .agg #[.int .i64 r.radius, .int .i64 r.unit, .int .i64 r.clicks, .int .i64 r.total, .slice x1.a1 r.group.length x1.c1, .slice x1.a2 r.drifts.length x1.c2, .slice x1.a3 r.first.length x1.c3, .slice x1.a4 r.next.length x1.c4]), (62, .agg #[.int .i64 r.radius, .int .i64 r.unit, .int .i64 r.clicks, .int .i64 r.total, .slice x2.a1 r.group.length x2.c1, .slice x2.a2 r.drifts.length x2.c2, .slice x2.a3 r.first.length x2.c3, .slice x2.a4 r.next.length x2.c4]), (14, .pointer (some ⟨b14, 0, none⟩))]) (fun ⟨x1, x2, b14, ()⟩ => [un x1.K, un x2.K, .pt b14 [.int .i64 0, .int .i64 0, .int .i64 0, .int .i64 0, .slice none 0 0, .slice none 0 0, .slice none 0 0, .slice none 0 0] 25]) ?_ (fun hS1_3_8 => ?_)
    · rintro ⟨x1, x2, b14, _⟩
      refine qt_alt ?_ (qt_alt ?_ ?_)
      · skip
        refine qt_seg (by repeat (first | exact PickL.nil | (apply PickL.cons; rfl))) fun K1 hK1 => ?_
        (refine qf_loadAB tabOk rfl rfl rfl (by repeat first | exact .head _ | refine .tail _ ?_) (by rfl) (by rfl) ?_; refine qf_pure tabOk rfl rfl rfl ?_)
        refine qf_call (β := Value) (ψ := fun x v => v = x) (L' := fun x => [.ow x 64 2 5 (spC ws)]) tabOk [] _ M0 rfl rfl rfl rfl (Sp.refl _) (fun _ h => h.elim) (fun w' hs => by have := cloneS_ca w' 0 w'.heap.size vw ws (Sat.rdSp hs (t := 64) (k := 5) (by repeat first | exact .head _ | refine .tail _ ?_) hws.1.symm) (by rw [hws.1]; omega); rw [hws.1] at this; exact this) ?_
        rintro _ vy rfl
        (refine qf_nil ?_)
        exact hK1 _ _ (hS1_3_6_8 ⟨x1, x2, vy, b14, ()⟩ _ _ ⟨rfl, rfl, rfl, rfl, rfl, rfl, rfl, rfl, rfl, rfl, trivial⟩ (by repeat (first | exact Sp.nil | exact Sp.refl _ | refine Sp.cons (by repeat constructor) ?_)))
      · skip
        refine qt_seg (by repeat (first | exact PickL.nil | (apply PickL.cons; rfl))) fun K1 hK1 => ?_
        skip
        refine qf_alloc zero25 rfl (fun b13 => ?_)
        (refine qf_nil ?_)
        exact hK1 _ _ (hS1_3_7_8 ⟨x1, x2, b13, b14, ()⟩ _ _ ⟨rfl, rfl, rfl, rfl, rfl, rfl, rfl, rfl, rfl, trivial⟩ (by repeat (first | exact Sp.nil | exact Sp.refl _ | refine Sp.cons (by repeat constructor) ?_)))
      · skip
        refine qt_seg (by repeat (first | exact PickL.nil | (apply PickL.cons; rfl))) fun K1 hK1 => ?_
        skip
        refine qf_alloc zero27 rfl (fun b15 => ?_)
        (refine qf_nil ?_)
        exact hK1 _ _ (hS1_3_8_9 ⟨x1, x2, b14, b15, ()⟩ _ _ ⟨rfl, rfl, rfl, rfl, rfl, rfl, rfl, rfl, rfl, trivial⟩ (by repeat (first | exact Sp.nil | exact Sp.refl _ | refine Sp.cons (by repeat constructor) ?_)))
    refine qt_let (σ := Cp r × Cp r × Nat × Unit) (.alt (chainT [4, 5, 6] (.alt (chainT [7] (chainT [8] (chainT [10] (chainT [11] (chainT [12, 13] (.nil)))))) (chainT [8] (chainT [7] (chainT [10] (chainT [11] (chainT [12, 13] (.nil)))))))) (.alt (chainT [7] (.alt (chainT [4, 5, 6] (chainT [8] (chainT [10] (chainT [11] (chainT [12, 13] (.nil)))))) (chainT [8] (chainT [4, 5, 6] (chainT [10] (chainT [11] (chainT [12, 13] (.nil)))))))) (chainT [8] (.alt (chainT [4, 5, 6] (chainT [7] (chainT [10] (chainT [11] (chainT [12, 13] (.nil)))))) (chainT [7] (chainT [4, 5, 6] (chainT [10] (chainT [11] (chainT [12, 13] (.nil)))))))))) (fun ⟨x1, x2, b15, ()⟩ => [(8, .pointer (some ⟨b2, 0, none⟩)), (9, .pointer (some ⟨b9, 0, none⟩)), (10, .pointer (some ⟨b10, 0, none⟩)), (11, vw), (12, .int .i64 ck), (60, .agg #[.int .i64 r.radius, .int .i64 r.unit, .int .i64 r.clicks, .int .i64 r.total, .slice x1.a1 r.group.length x1.c1, .slice x1.a2 r.drifts.length x1.c2, .slice x1.a3 r.first.length x1.c3, .slice x1.a4 r.next.length x1.c4]), (62, .agg #[.int .i64 r.radius, .int .i64 r.unit, .int .i64 r.clicks, .int .i64 r.total, .slice x2.a1 r.group.length x2.c1, .slice x2.a2 r.drifts.length x2.c2, .slice x2.a3 r.first.length x2.c3, .slice x2.a4 r.next.length x2.c4]), (15, .pointer (some ⟨b15, 0, none⟩))]) (fun ⟨x1, x2, b15, ()⟩ => [un x1.K, un x2.K, .pt b15 [.int .i64 0, .int .i64 0, .int .i64 0, .int .i64 0] 27]) ?_ (fun hS1_3_9 => ?_)
    · rintro ⟨x1, x2, b15, _⟩
      refine qt_alt ?_ (qt_alt ?_ ?_)
      · skip
        refine qt_seg (by repeat (first | exact PickL.nil | (apply PickL.cons; rfl))) fun K1 hK1 => ?_
        (refine qf_loadAB tabOk rfl rfl rfl (by repeat first | exact .head _ | refine .tail _ ?_) (by rfl) (by rfl) ?_; refine qf_pure tabOk rfl rfl rfl ?_)
        refine qf_call (β := Value) (ψ := fun x v => v = x) (L' := fun x => [.ow x 64 2 5 (spC ws)]) tabOk [] _ M0 rfl rfl rfl rfl (Sp.refl _) (fun _ h => h.elim) (fun w' hs => by have := cloneS_ca w' 0 w'.heap.size vw ws (Sat.rdSp hs (t := 64) (k := 5) (by repeat first | exact .head _ | refine .tail _ ?_) hws.1.symm) (by rw [hws.1]; omega); rw [hws.1] at this; exact this) ?_
        rintro _ vy rfl
        (refine qf_nil ?_)
        exact hK1 _ _ (hS1_3_6_9 ⟨x1, x2, vy, b15, ()⟩ _ _ ⟨rfl, rfl, rfl, rfl, rfl, rfl, rfl, rfl, rfl, rfl, trivial⟩ (by repeat (first | exact Sp.nil | exact Sp.refl _ | refine Sp.cons (by repeat constructor) ?_)))
      · skip
        refine qt_seg (by repeat (first | exact PickL.nil | (apply PickL.cons; rfl))) fun K1 hK1 => ?_
        skip
        refine qf_alloc zero25 rfl (fun b13 => ?_)
        (refine qf_nil ?_)
        exact hK1 _ _ (hS1_3_7_9 ⟨x1, x2, b13, b15, ()⟩ _ _ ⟨rfl, rfl, rfl, rfl, rfl, rfl, rfl, rfl, rfl, trivial⟩ (by repeat (first | exact Sp.nil | exact Sp.refl _ | refine Sp.cons (by repeat constructor) ?_)))
      · skip
        refine qt_seg (by repeat (first | exact PickL.nil | (apply PickL.cons; rfl))) fun K1 hK1 => ?_
        skip
        refine qf_alloc zero25 rfl (fun b14 => ?_)
        (refine qf_nil ?_)
        exact hK1 _ _ (hS1_3_8_9 ⟨x1, x2, b14, b15, ()⟩ _ _ ⟨rfl, rfl, rfl, rfl, rfl, rfl, rfl, rfl, rfl, trivial⟩ (by repeat (first | exact Sp.nil | exact Sp.refl _ | refine Sp.cons (by repeat constructor) ?_)))
    refine qt_let (σ := Cp r × Nat × Nat × Unit) (.alt (chainT [2, 3] (.alt (chainT [4, 5, 6] (chainT [9] (chainT [10] (chainT [11] (chainT [12, 13] (.nil)))))) (chainT [9] (chainT [4, 5, 6] (chainT [10] (chainT [11] (chainT [12, 13] (.nil)))))))) (chainT [9] (chainT [2, 3] (chainT [4, 5, 6] (chainT [10] (chainT [11] (chainT [12, 13] (.nil)))))))) (fun ⟨x1, b13, b14, ()⟩ => [(8, .pointer (some ⟨b2, 0, none⟩)), (9, .pointer (some ⟨b9, 0, none⟩)), (10, .pointer (some ⟨b10, 0, none⟩)), (11, vw), (12, .int .i64 ck), (60, .agg #[.int .i64 r.radius, .int .i64 r.unit, .int .i64 r.clicks, .int .i64 r.total, .slice x1.a1 r.group.length x1.c1, .slice x1.a2 r.drifts.length x1.c2, .slice x1.a3 r.first.length x1.c3, .slice x1.a4 r.next.length x1.c4]), (13, .pointer (some ⟨b13, 0, none⟩)), (14, .pointer (some ⟨b14, 0, none⟩))]) (fun ⟨x1, b13, b14, ()⟩ => [un x1.K, .pt b13 [.int .i64 0, .int .i64 0, .int .i64 0, .int .i64 0, .slice none 0 0, .slice none 0 0, .slice none 0 0, .slice none 0 0] 25, .pt b14 [.int .i64 0, .int .i64 0, .int .i64 0, .int .i64 0, .slice none 0 0, .slice none 0 0, .slice none 0 0, .slice none 0 0] 25]) ?_ (fun hS1_7_8 => ?_)
    · rintro ⟨x1, b13, b14, _⟩
      refine qt_alt ?_ ?_
      · skip
        refine qt_seg (by repeat (first | exact PickL.nil | (apply PickL.cons; rfl))) fun K1 hK1 => ?_
        (refine qf_loadAB tabOk rfl rfl rfl (by repeat first | exact .head _ | refine .tail _ ?_) (by rfl) (by rfl) ?_)
        refine qf_call (β := Cp r) tabOk [] _ M0 rfl rfl rfl rfl (Sp.refl _) (fun _ h => h.elim) (fun w' hs => cloneR_cp w' [.int .i64 r.radius, .int .i64 r.unit, .int .i64 r.clicks, .int .i64 r.total, .slice (some ⟨bgr, ogr, none⟩) r.group.length cgr, .slice (some ⟨bdr, odr, none⟩) r.drifts.length cdr, .slice (some ⟨bfr, ofr, none⟩) r.first.length cfr, .slice (some ⟨bnr, onr, none⟩) r.next.length cnr] r (ownr.at hs (by repeat first | exact .head _ | refine .tail _ ?_)) mader.small) ?_
        rintro x2 _ rfl
        (refine qf_nil ?_)
        exact hK1 _ _ (hS1_3_7_8 ⟨x1, x2, b13, b14, ()⟩ _ _ ⟨rfl, rfl, rfl, rfl, rfl, rfl, rfl, rfl, rfl, trivial⟩ (by repeat (first | exact Sp.nil | exact Sp.refl _ | refine Sp.cons (by repeat constructor) ?_)))
      · skip
        refine qt_seg (by repeat (first | exact PickL.nil | (apply PickL.cons; rfl))) fun K1 hK1 => ?_
        skip
        refine qf_alloc zero27 rfl (fun b15 => ?_)
        (refine qf_nil ?_)
        exact hK1 _ _ (hS1_7_8_9 ⟨x1, b13, b14, b15, ()⟩ _ _ ⟨rfl, rfl, rfl, rfl, rfl, rfl, rfl, rfl, rfl, trivial⟩ (by repeat (first | exact Sp.nil | exact Sp.refl _ | refine Sp.cons (by repeat constructor) ?_)))
    refine qt_let (σ := Cp r × Nat × Nat × Unit) (.alt (chainT [2, 3] (.alt (chainT [4, 5, 6] (chainT [8] (chainT [10] (chainT [11] (chainT [12, 13] (.nil)))))) (chainT [8] (chainT [4, 5, 6] (chainT [10] (chainT [11] (chainT [12, 13] (.nil)))))))) (chainT [8] (chainT [2, 3] (chainT [4, 5, 6] (chainT [10] (chainT [11] (chainT [12, 13] (.nil)))))))) (fun ⟨x1, b13, b15, ()⟩ => [(8, .pointer (some ⟨b2, 0, none⟩)), (9, .pointer (some ⟨b9, 0, none⟩)), (10, .pointer (some ⟨b10, 0, none⟩)), (11, vw), (12, .int .i64 ck), (60, .agg #[.int .i64 r.radius, .int .i64 r.unit, .int .i64 r.clicks, .int .i64 r.total, .slice x1.a1 r.group.length x1.c1, .slice x1.a2 r.drifts.length x1.c2, .slice x1.a3 r.first.length x1.c3, .slice x1.a4 r.next.length x1.c4]), (13, .pointer (some ⟨b13, 0, none⟩)), (15, .pointer (some ⟨b15, 0, none⟩))]) (fun ⟨x1, b13, b15, ()⟩ => [un x1.K, .pt b13 [.int .i64 0, .int .i64 0, .int .i64 0, .int .i64 0, .slice none 0 0, .slice none 0 0, .slice none 0 0, .slice none 0 0] 25, .pt b15 [.int .i64 0, .int .i64 0, .int .i64 0, .int .i64 0] 27]) ?_ (fun hS1_7_9 => ?_)
    · rintro ⟨x1, b13, b15, _⟩
      refine qt_alt ?_ ?_
      · skip
        refine qt_seg (by repeat (first | exact PickL.nil | (apply PickL.cons; rfl))) fun K1 hK1 => ?_
        (refine qf_loadAB tabOk rfl rfl rfl (by repeat first | exact .head _ | refine .tail _ ?_) (by rfl) (by rfl) ?_)
        refine qf_call (β := Cp r) tabOk [] _ M0 rfl rfl rfl rfl (Sp.refl _) (fun _ h => h.elim) (fun w' hs => cloneR_cp w' [.int .i64 r.radius, .int .i64 r.unit, .int .i64 r.clicks, .int .i64 r.total, .slice (some ⟨bgr, ogr, none⟩) r.group.length cgr, .slice (some ⟨bdr, odr, none⟩) r.drifts.length cdr, .slice (some ⟨bfr, ofr, none⟩) r.first.length cfr, .slice (some ⟨bnr, onr, none⟩) r.next.length cnr] r (ownr.at hs (by repeat first | exact .head _ | refine .tail _ ?_)) mader.small) ?_
        rintro x2 _ rfl
        (refine qf_nil ?_)
        exact hK1 _ _ (hS1_3_7_9 ⟨x1, x2, b13, b15, ()⟩ _ _ ⟨rfl, rfl, rfl, rfl, rfl, rfl, rfl, rfl, rfl, trivial⟩ (by repeat (first | exact Sp.nil | exact Sp.refl _ | refine Sp.cons (by repeat constructor) ?_)))
      · skip
        refine qt_seg (by repeat (first | exact PickL.nil | (apply PickL.cons; rfl))) fun K1 hK1 => ?_
        skip
        refine qf_alloc zero25 rfl (fun b14 => ?_)
        (refine qf_nil ?_)
        exact hK1 _ _ (hS1_7_8_9 ⟨x1, b13, b14, b15, ()⟩ _ _ ⟨rfl, rfl, rfl, rfl, rfl, rfl, rfl, rfl, rfl, trivial⟩ (by repeat (first | exact Sp.nil | exact Sp.refl _ | refine Sp.cons (by repeat constructor) ?_)))
    refine qt_let (σ := Cp r × Nat × Nat × Unit) (.alt (chainT [2, 3] (.alt (chainT [4, 5, 6] (chainT [7] (chainT [10] (chainT [11] (chainT [12, 13] (.nil)))))) (chainT [7] (chainT [4, 5, 6] (chainT [10] (chainT [11] (chainT [12, 13] (.nil)))))))) (chainT [7] (chainT [2, 3] (chainT [4, 5, 6] (chainT [10] (chainT [11] (chainT [12, 13] (.nil)))))))) (fun ⟨x1, b14, b15, ()⟩ => [(8, .pointer (some ⟨b2, 0, none⟩)), (9, .pointer (some ⟨b9, 0, none⟩)), (10, .pointer (some ⟨b10, 0, none⟩)), (11, vw), (12, .int .i64 ck), (60, .agg #[.int .i64 r.radius, .int .i64 r.unit, .int .i64 r.clicks, .int .i64 r.total, .slice x1.a1 r.group.length x1.c1, .slice x1.a2 r.drifts.length x1.c2, .slice x1.a3 r.first.length x1.c3, .slice x1.a4 r.next.length x1.c4]), (14, .pointer (some ⟨b14, 0, none⟩)), (15, .pointer (some ⟨b15, 0, none⟩))]) (fun ⟨x1, b14, b15, ()⟩ => [un x1.K, .pt b14 [.int .i64 0, .int .i64 0, .int .i64 0, .int .i64 0, .slice none 0 0, .slice none 0 0, .slice none 0 0, .slice none 0 0] 25, .pt b15 [.int .i64 0, .int .i64 0, .int .i64 0, .int .i64 0] 27]) ?_ (fun hS1_8_9 => ?_)
    · rintro ⟨x1, b14, b15, _⟩
      refine qt_alt ?_ ?_
      · skip
        refine qt_seg (by repeat (first | exact PickL.nil | (apply PickL.cons; rfl))) fun K1 hK1 => ?_
        (refine qf_loadAB tabOk rfl rfl rfl (by repeat first | exact .head _ | refine .tail _ ?_) (by rfl) (by rfl) ?_)
        refine qf_call (β := Cp r) tabOk [] _ M0 rfl rfl rfl rfl (Sp.refl _) (fun _ h => h.elim) (fun w' hs => cloneR_cp w' [.int .i64 r.radius, .int .i64 r.unit, .int .i64 r.clicks, .int .i64 r.total, .slice (some ⟨bgr, ogr, none⟩) r.group.length cgr, .slice (some ⟨bdr, odr, none⟩) r.drifts.length cdr, .slice (some ⟨bfr, ofr, none⟩) r.first.length cfr, .slice (some ⟨bnr, onr, none⟩) r.next.length cnr] r (ownr.at hs (by repeat first | exact .head _ | refine .tail _ ?_)) mader.small) ?_
        rintro x2 _ rfl
        (refine qf_nil ?_)
        exact hK1 _ _ (hS1_3_8_9 ⟨x1, x2, b14, b15, ()⟩ _ _ ⟨rfl, rfl, rfl, rfl, rfl, rfl, rfl, rfl, rfl, trivial⟩ (by repeat (first | exact Sp.nil | exact Sp.refl _ | refine Sp.cons (by repeat constructor) ?_)))
      · skip
        refine qt_seg (by repeat (first | exact PickL.nil | (apply PickL.cons; rfl))) fun K1 hK1 => ?_
        skip
        refine qf_alloc zero25 rfl (fun b13 => ?_)
        (refine qf_nil ?_)
        exact hK1 _ _ (hS1_7_8_9 ⟨x1, b13, b14, b15, ()⟩ _ _ ⟨rfl, rfl, rfl, rfl, rfl, rfl, rfl, rfl, rfl, trivial⟩ (by repeat (first | exact Sp.nil | exact Sp.refl _ | refine Sp.cons (by repeat constructor) ?_)))
    refine qt_let (σ := Nat × Nat × Nat × Unit) (chainT [0, 1] (chainT [2, 3] (chainT [4, 5, 6] (chainT [10] (chainT [11] (chainT [12, 13] (.nil))))))) (fun ⟨b13, b14, b15, ()⟩ => [(8, .pointer (some ⟨b2, 0, none⟩)), (9, .pointer (some ⟨b9, 0, none⟩)), (10, .pointer (some ⟨b10, 0, none⟩)), (11, vw), (12, .int .i64 ck), (13, .pointer (some ⟨b13, 0, none⟩)), (14, .pointer (some ⟨b14, 0, none⟩)), (15, .pointer (some ⟨b15, 0, none⟩))]) (fun ⟨b13, b14, b15, ()⟩ => [.pt b13 [.int .i64 0, .int .i64 0, .int .i64 0, .int .i64 0, .slice none 0 0, .slice none 0 0, .slice none 0 0, .slice none 0 0] 25, .pt b14 [.int .i64 0, .int .i64 0, .int .i64 0, .int .i64 0, .slice none 0 0, .slice none 0 0, .slice none 0 0, .slice none 0 0] 25, .pt b15 [.int .i64 0, .int .i64 0, .int .i64 0, .int .i64 0] 27]) ?_ (fun hS7_8_9 => ?_)
    · rintro ⟨b13, b14, b15, _⟩
      refine qt_seg (by repeat (first | exact PickL.nil | (apply PickL.cons; rfl))) fun K1 hK1 => ?_
      (refine qf_loadAB tabOk rfl rfl rfl (by repeat first | exact .head _ | refine .tail _ ?_) (by rfl) (by rfl) ?_)
      refine qf_call (β := Cp r) tabOk [] _ M0 rfl rfl rfl rfl (Sp.refl _) (fun _ h => h.elim) (fun w' hs => cloneR_cp w' [.int .i64 r.radius, .int .i64 r.unit, .int .i64 r.clicks, .int .i64 r.total, .slice (some ⟨bgr, ogr, none⟩) r.group.length cgr, .slice (some ⟨bdr, odr, none⟩) r.drifts.length cdr, .slice (some ⟨bfr, ofr, none⟩) r.first.length cfr, .slice (some ⟨bnr, onr, none⟩) r.next.length cnr] r (ownr.at hs (by repeat first | exact .head _ | refine .tail _ ?_)) mader.small) ?_
      rintro x1 _ rfl
      (refine qf_nil ?_)
      exact hK1 _ _ (hS1_7_8_9 ⟨x1, b13, b14, b15, ()⟩ _ _ ⟨rfl, rfl, rfl, rfl, rfl, rfl, rfl, rfl, rfl, trivial⟩ (by repeat (first | exact Sp.nil | exact Sp.refl _ | refine Sp.cons (by repeat constructor) ?_)))
    refine qt_let (σ := Cp r × Cp r × Unit) (.alt (chainT [4, 5, 6] (.alt (chainT [7] (.alt (chainT [8] (chainT [9] (chainT [10] (chainT [11] (chainT [12, 13] (.nil)))))) (chainT [9] (chainT [8] (chainT [10] (chainT [11] (chainT [12, 13] (.nil)))))))) (.alt (chainT [8] (.alt (chainT [7] (chainT [9] (chainT [10] (chainT [11] (chainT [12, 13] (.nil)))))) (chainT [9] (chainT [7] (chainT [10] (chainT [11] (chainT [12, 13] (.nil)))))))) (chainT [9] (.alt (chainT [7] (chainT [8] (chainT [10] (chainT [11] (chainT [12, 13] (.nil)))))) (chainT [8] (chainT [7] (chainT [10] (chainT [11] (chainT [12, 13] (.nil))))))))))) (.alt (chainT [7] (.alt (chainT [4, 5, 6] (.alt (chainT [8] (chainT [9] (chainT [10] (chainT [11] (chainT [12, 13] (.nil)))))) (chainT [9] (chainT [8] (chainT [10] (chainT [11] (chainT [12, 13] (.nil)))))))) (.alt (chainT [8] (.alt (chainT [4, 5, 6] (chainT [9] (chainT [10] (chainT [11] (chainT [12, 13] (.nil)))))) (chainT [9] (chainT [4, 5, 6] (chainT [10] (chainT [11] (chainT [12, 13] (.nil)))))))) (chainT [9] (.alt (chainT [4, 5, 6] (chainT [8] (chainT [10] (chainT [11] (chainT [12, 13] (.nil)))))) (chainT [8] (chainT [4, 5, 6] (chainT [10] (chainT [11] (chainT [12, 13] (.nil))))))))))) (.alt (chainT [8] (.alt (chainT [4, 5, 6] (.alt (chainT [7] (chainT [9] (chainT [10] (chainT [11] (chainT [12, 13] (.nil)))))) (chainT [9] (chainT [7] (chainT [10] (chainT [11] (chainT [12, 13] (.nil)))))))) (.alt (chainT [7] (.alt (chainT [4, 5, 6] (chainT [9] (chainT [10] (chainT [11] (chainT [12, 13] (.nil)))))) (chainT [9] (chainT [4, 5, 6] (chainT [10] (chainT [11] (chainT [12, 13] (.nil)))))))) (chainT [9] (.alt (chainT [4, 5, 6] (chainT [7] (chainT [10] (chainT [11] (chainT [12, 13] (.nil)))))) (chainT [7] (chainT [4, 5, 6] (chainT [10] (chainT [11] (chainT [12, 13] (.nil))))))))))) (chainT [9] (.alt (chainT [4, 5, 6] (.alt (chainT [7] (chainT [8] (chainT [10] (chainT [11] (chainT [12, 13] (.nil)))))) (chainT [8] (chainT [7] (chainT [10] (chainT [11] (chainT [12, 13] (.nil)))))))) (.alt (chainT [7] (.alt (chainT [4, 5, 6] (chainT [8] (chainT [10] (chainT [11] (chainT [12, 13] (.nil)))))) (chainT [8] (chainT [4, 5, 6] (chainT [10] (chainT [11] (chainT [12, 13] (.nil)))))))) (chainT [8] (.alt (chainT [4, 5, 6] (chainT [7] (chainT [10] (chainT [11] (chainT [12, 13] (.nil)))))) (chainT [7] (chainT [4, 5, 6] (chainT [10] (chainT [11] (chainT [12, 13] (.nil)))))))))))))) (fun ⟨x1, x2, ()⟩ => [(8, .pointer (some ⟨b2, 0, none⟩)), (9, .pointer (some ⟨b9, 0, none⟩)), (10, .pointer (some ⟨b10, 0, none⟩)), (11, vw), (12, .int .i64 ck), (60, .agg #[.int .i64 r.radius, .int .i64 r.unit, .int .i64 r.clicks, .int .i64 r.total, .slice x1.a1 r.group.length x1.c1, .slice x1.a2 r.drifts.length x1.c2, .slice x1.a3 r.first.length x1.c3, .slice x1.a4 r.next.length x1.c4]), (62, .agg #[.int .i64 r.radius, .int .i64 r.unit, .int .i64 r.clicks, .int .i64 r.total, .slice x2.a1 r.group.length x2.c1, .slice x2.a2 r.drifts.length x2.c2, .slice x2.a3 r.first.length x2.c3, .slice x2.a4 r.next.length x2.c4])]) (fun ⟨x1, x2, ()⟩ => [un x1.K, un x2.K]) ?_ (fun hS1_3 => ?_)
    · rintro ⟨x1, x2, _⟩
      refine qt_alt ?_ (qt_alt ?_ (qt_alt ?_ ?_))
      · skip
        refine qt_seg (by repeat (first | exact PickL.nil | (apply PickL.cons; rfl))) fun K1 hK1 => ?_
        (refine qf_loadAB tabOk rfl rfl rfl (by repeat first | exact .head _ | refine .tail _ ?_) (by rfl) (by rfl) ?_; refine qf_pure tabOk rfl rfl rfl ?_)
        refine qf_call (β := Value) (ψ := fun x v => v = x) (L' := fun x => [.ow x 64 2 5 (spC ws)]) tabOk [] _ M0 rfl rfl rfl rfl (Sp.refl _) (fun _ h => h.elim) (fun w' hs => by have := cloneS_ca w' 0 w'.heap.size vw ws (Sat.rdSp hs (t := 64) (k := 5) (by repeat first | exact .head _ | refine .tail _ ?_) hws.1.symm) (by rw [hws.1]; omega); rw [hws.1] at this; exact this) ?_
        rintro _ vy rfl
        (refine qf_nil ?_)
        exact hK1 _ _ (hS1_3_6 ⟨x1, x2, vy, ()⟩ _ _ ⟨rfl, rfl, rfl, rfl, rfl, rfl, rfl, rfl, rfl, trivial⟩ (by repeat (first | exact Sp.nil | exact Sp.refl _ | refine Sp.cons (by repeat constructor) ?_)))
      · skip
        refine qt_seg (by repeat (first | exact PickL.nil | (apply PickL.cons; rfl))) fun K1 hK1 => ?_
        skip
        refine qf_alloc zero25 rfl (fun b13 => ?_)
        (refine qf_nil ?_)
        exact hK1 _ _ (hS1_3_7 ⟨x1, x2, b13, ()⟩ _ _ ⟨rfl, rfl, rfl, rfl, rfl, rfl, rfl, rfl, trivial⟩ (by repeat (first | exact Sp.nil | exact Sp.refl _ | refine Sp.cons (by repeat constructor) ?_)))
      · skip
        refine qt_seg (by repeat (first | exact PickL.nil | (apply PickL.cons; rfl))) fun K1 hK1 => ?_
        skip
        refine qf_alloc zero25 rfl (fun b14 => ?_)
        (refine qf_nil ?_)
        exact hK1 _ _ (hS1_3_8 ⟨x1, x2, b14, ()⟩ _ _ ⟨rfl, rfl, rfl, rfl, rfl, rfl, rfl, rfl, trivial⟩ (by repeat (first | exact Sp.nil | exact Sp.refl _ | refine Sp.cons (by repeat constructor) ?_)))
      · skip
        refine qt_seg (by repeat (first | exact PickL.nil | (apply PickL.cons; rfl))) fun K1 hK1 => ?_
        skip
        refine qf_alloc zero27 rfl (fun b15 => ?_)
        (refine qf_nil ?_)
        exact hK1 _ _ (hS1_3_9 ⟨x1, x2, b15, ()⟩ _ _ ⟨rfl, rfl, rfl, rfl, rfl, rfl, rfl, rfl, trivial⟩ (by repeat (first | exact Sp.nil | exact Sp.refl _ | refine Sp.cons (by repeat constructor) ?_)))
    refine qt_let (σ := Cp r × Nat × Unit) (.alt (chainT [2, 3] (.alt (chainT [4, 5, 6] (.alt (chainT [8] (chainT [9] (chainT [10] (chainT [11] (chainT [12, 13] (.nil)))))) (chainT [9] (chainT [8] (chainT [10] (chainT [11] (chainT [12, 13] (.nil)))))))) (.alt (chainT [8] (.alt (chainT [4, 5, 6] (chainT [9] (chainT [10] (chainT [11] (chainT [12, 13] (.nil)))))) (chainT [9] (chainT [4, 5, 6] (chainT [10] (chainT [11] (chainT [12, 13] (.nil)))))))) (chainT [9] (.alt (chainT [4, 5, 6] (chainT [8] (chainT [10] (chainT [11] (chainT [12, 13] (.nil)))))) (chainT [8] (chainT [4, 5, 6] (chainT [10] (chainT [11] (chainT [12, 13] (.nil))))))))))) (.alt (chainT [8] (.alt (chainT [2, 3] (.alt (chainT [4, 5, 6] (chainT [9] (chainT [10] (chainT [11] (chainT [12, 13] (.nil)))))) (chainT [9] (chainT [4, 5, 6] (chainT [10] (chainT [11] (chainT [12, 13] (.nil)))))))) (chainT [9] (chainT [2, 3] (chainT [4, 5, 6] (chainT [10] (chainT [11] (chainT [12, 13] (.nil))))))))) (chainT [9] (.alt (chainT [2, 3] (.alt (chainT [4, 5, 6] (chainT [8] (chainT [10] (chainT [11] (chainT [12, 13] (.nil)))))) (chainT [8] (chainT [4, 5, 6] (chainT [10] (chainT [11] (chainT [12, 13] (.nil)))))))) (chainT [8] (chainT [2, 3] (chainT [4, 5, 6] (chainT [10] (chainT [11] (chainT [12, 13] (.nil))))))))))) (fun ⟨x1, b13, ()⟩ => [(8, .pointer (some ⟨b2, 0, none⟩)), (9, .pointer (some ⟨b9, 0, none⟩)), (10, .pointer (some ⟨b10, 0, none⟩)), (11, vw), (12, .int .i64 ck), (60, .agg #[.int .i64 r.radius, .int .i64 r.unit, .int .i64 r.clicks, .int .i64 r.total, .slice x1.a1 r.group.length x1.c1, .slice x1.a2 r.drifts.length x1.c2, .slice x1.a3 r.first.length x1.c3, .slice x1.a4 r.next.length x1.c4]), (13, .pointer (some ⟨b13, 0, none⟩))]) (fun ⟨x1, b13, ()⟩ => [un x1.K, .pt b13 [.int .i64 0, .int .i64 0, .int .i64 0, .int .i64 0, .slice none 0 0, .slice none 0 0, .slice none 0 0, .slice none 0 0] 25]) ?_ (fun hS1_7 => ?_)
    · rintro ⟨x1, b13, _⟩
      refine qt_alt ?_ (qt_alt ?_ ?_)
      · skip
        refine qt_seg (by repeat (first | exact PickL.nil | (apply PickL.cons; rfl))) fun K1 hK1 => ?_
        (refine qf_loadAB tabOk rfl rfl rfl (by repeat first | exact .head _ | refine .tail _ ?_) (by rfl) (by rfl) ?_)
        refine qf_call (β := Cp r) tabOk [] _ M0 rfl rfl rfl rfl (Sp.refl _) (fun _ h => h.elim) (fun w' hs => cloneR_cp w' [.int .i64 r.radius, .int .i64 r.unit, .int .i64 r.clicks, .int .i64 r.total, .slice (some ⟨bgr, ogr, none⟩) r.group.length cgr, .slice (some ⟨bdr, odr, none⟩) r.drifts.length cdr, .slice (some ⟨bfr, ofr, none⟩) r.first.length cfr, .slice (some ⟨bnr, onr, none⟩) r.next.length cnr] r (ownr.at hs (by repeat first | exact .head _ | refine .tail _ ?_)) mader.small) ?_
        rintro x2 _ rfl
        (refine qf_nil ?_)
        exact hK1 _ _ (hS1_3_7 ⟨x1, x2, b13, ()⟩ _ _ ⟨rfl, rfl, rfl, rfl, rfl, rfl, rfl, rfl, trivial⟩ (by repeat (first | exact Sp.nil | exact Sp.refl _ | refine Sp.cons (by repeat constructor) ?_)))
      · skip
        refine qt_seg (by repeat (first | exact PickL.nil | (apply PickL.cons; rfl))) fun K1 hK1 => ?_
        skip
        refine qf_alloc zero25 rfl (fun b14 => ?_)
        (refine qf_nil ?_)
        exact hK1 _ _ (hS1_7_8 ⟨x1, b13, b14, ()⟩ _ _ ⟨rfl, rfl, rfl, rfl, rfl, rfl, rfl, rfl, trivial⟩ (by repeat (first | exact Sp.nil | exact Sp.refl _ | refine Sp.cons (by repeat constructor) ?_)))
      · skip
        refine qt_seg (by repeat (first | exact PickL.nil | (apply PickL.cons; rfl))) fun K1 hK1 => ?_
        skip
        refine qf_alloc zero27 rfl (fun b15 => ?_)
        (refine qf_nil ?_)
        exact hK1 _ _ (hS1_7_9 ⟨x1, b13, b15, ()⟩ _ _ ⟨rfl, rfl, rfl, rfl, rfl, rfl, rfl, rfl, trivial⟩ (by repeat (first | exact Sp.nil | exact Sp.refl _ | refine Sp.cons (by repeat constructor) ?_)))
    refine qt_let (σ := Cp r × Nat × Unit) (.alt (chainT [2, 3] (.alt (chainT [4, 5, 6] (.alt (chainT [7] (chainT [9] (chainT [10] (chainT [11] (chainT [12, 13] (.nil)))))) (chainT [9] (chainT [7] (chainT [10] (chainT [11] (chainT [12, 13] (.nil)))))))) (.alt (chainT [7] (.alt (chainT [4, 5, 6] (chainT [9] (chainT [10] (chainT [11] (chainT [12, 13] (.nil)))))) (chainT [9] (chainT [4, 5, 6] (chainT [10] (chainT [11] (chainT [12, 13] (.nil)))))))) (chainT [9] (.alt (chainT [4, 5, 6] (chainT [7] (chainT [10] (chainT [11] (chainT [12, 13] (.nil)))))) (chainT [7] (chainT [4, 5, 6] (chainT [10] (chainT [11] (chainT [12, 13] (.nil))))))))))) (.alt (chainT [7] (.alt (chainT [2, 3] (.alt (chainT [4, 5, 6] (chainT [9] (chainT [10] (chainT [11] (chainT [12, 13] (.nil)))))) (chainT [9] (chainT [4, 5, 6] (chainT [10] (chainT [11] (chainT [12, 13] (.nil)))))))) (chainT [9] (chainT [2, 3] (chainT [4, 5, 6] (chainT [10] (chainT [11] (chainT [12, 13] (.nil))))))))) (chainT [9] (.alt (chainT [2, 3] (.alt (chainT [4, 5, 6] (chainT [7] (chainT [10] (chainT [11] (chainT [12, 13] (.nil)))))) (chainT [7] (chainT [4, 5, 6] (chainT [10] (chainT [11] (chainT [12, 13] (.nil)))))))) (chainT [7] (chainT [2, 3] (chainT [4, 5, 6] (chainT [10] (chainT [11] (chainT [12, 13] (.nil))))))))))) (fun ⟨x1, b14, ()⟩ => [(8, .pointer (some ⟨b2, 0, none⟩)), (9, .pointer (some ⟨b9, 0, none⟩)), (10, .pointer (some ⟨b10, 0, none⟩)), (11, vw), (12, .int .i64 ck), (60, .agg #[.int .i64 r.radius, .int .i64 r.unit, .int .i64 r.clicks, .int .i64 r.total, .slice x1.a1 r.group.length x1.c1, .slice x1.a2 r.drifts.length x1.c2, .slice x1.a3 r.first.length x1.c3, .slice x1.a4 r.next.length x1.c4]), (14, .pointer (some ⟨b14, 0, none⟩))]) (fun ⟨x1, b14, ()⟩ => [un x1.K, .pt b14 [.int .i64 0, .int .i64 0, .int .i64 0, .int .i64 0, .slice none 0 0, .slice none 0 0, .slice none 0 0, .slice none 0 0] 25]) ?_ (fun hS1_8 => ?_)
    · rintro ⟨x1, b14, _⟩
      refine qt_alt ?_ (qt_alt ?_ ?_)
      · skip
        refine qt_seg (by repeat (first | exact PickL.nil | (apply PickL.cons; rfl))) fun K1 hK1 => ?_
        (refine qf_loadAB tabOk rfl rfl rfl (by repeat first | exact .head _ | refine .tail _ ?_) (by rfl) (by rfl) ?_)
        refine qf_call (β := Cp r) tabOk [] _ M0 rfl rfl rfl rfl (Sp.refl _) (fun _ h => h.elim) (fun w' hs => cloneR_cp w' [.int .i64 r.radius, .int .i64 r.unit, .int .i64 r.clicks, .int .i64 r.total, .slice (some ⟨bgr, ogr, none⟩) r.group.length cgr, .slice (some ⟨bdr, odr, none⟩) r.drifts.length cdr, .slice (some ⟨bfr, ofr, none⟩) r.first.length cfr, .slice (some ⟨bnr, onr, none⟩) r.next.length cnr] r (ownr.at hs (by repeat first | exact .head _ | refine .tail _ ?_)) mader.small) ?_
        rintro x2 _ rfl
        (refine qf_nil ?_)
        exact hK1 _ _ (hS1_3_8 ⟨x1, x2, b14, ()⟩ _ _ ⟨rfl, rfl, rfl, rfl, rfl, rfl, rfl, rfl, trivial⟩ (by repeat (first | exact Sp.nil | exact Sp.refl _ | refine Sp.cons (by repeat constructor) ?_)))
      · skip
        refine qt_seg (by repeat (first | exact PickL.nil | (apply PickL.cons; rfl))) fun K1 hK1 => ?_
        skip
        refine qf_alloc zero25 rfl (fun b13 => ?_)
        (refine qf_nil ?_)
        exact hK1 _ _ (hS1_7_8 ⟨x1, b13, b14, ()⟩ _ _ ⟨rfl, rfl, rfl, rfl, rfl, rfl, rfl, rfl, trivial⟩ (by repeat (first | exact Sp.nil | exact Sp.refl _ | refine Sp.cons (by repeat constructor) ?_)))
      · skip
        refine qt_seg (by repeat (first | exact PickL.nil | (apply PickL.cons; rfl))) fun K1 hK1 => ?_
        skip
        refine qf_alloc zero27 rfl (fun b15 => ?_)
        (refine qf_nil ?_)
        exact hK1 _ _ (hS1_8_9 ⟨x1, b14, b15, ()⟩ _ _ ⟨rfl, rfl, rfl, rfl, rfl, rfl, rfl, rfl, trivial⟩ (by repeat (first | exact Sp.nil | exact Sp.refl _ | refine Sp.cons (by repeat constructor) ?_)))
    refine qt_let (σ := Cp r × Nat × Unit) (.alt (chainT [2, 3] (.alt (chainT [4, 5, 6] (.alt (chainT [7] (chainT [8] (chainT [10] (chainT [11] (chainT [12, 13] (.nil)))))) (chainT [8] (chainT [7] (chainT [10] (chainT [11] (chainT [12, 13] (.nil)))))))) (.alt (chainT [7] (.alt (chainT [4, 5, 6] (chainT [8] (chainT [10] (chainT [11] (chainT [12, 13] (.nil)))))) (chainT [8] (chainT [4, 5, 6] (chainT [10] (chainT [11] (chainT [12, 13] (.nil)))))))) (chainT [8] (.alt (chainT [4, 5, 6] (chainT [7] (chainT [10] (chainT [11] (chainT [12, 13] (.nil)))))) (chainT [7] (chainT [4, 5, 6] (chainT [10] (chainT [11] (chainT [12, 13] (.nil))))))))))) (.alt (chainT [7] (.alt (chainT [2, 3] (.alt (chainT [4, 5, 6] (chainT [8] (chainT [10] (chainT [11] (chainT [12, 13] (.nil)))))) (chainT [8] (chainT [4, 5, 6] (chainT [10] (chainT [11] (chainT [12, 13] (.nil)))))))) (chainT [8] (chainT [2, 3] (chainT [4, 5, 6] (chainT [10] (chainT [11] (chainT [12, 13] (.nil))))))))) (chainT [8] (.alt (chainT [2, 3] (.alt (chainT [4, 5, 6] (chainT [7] (chainT [10] (chainT [11] (chainT [12, 13] (.nil)))))) (chainT [7] (chainT [4, 5, 6] (chainT [10] (chainT [11] (chainT [12, 13] (.nil)))))))) (chainT [7] (chainT [2, 3] (chainT [4, 5, 6] (chainT [10] (chainT [11] (chainT [12, 13] (.nil))))))))))) (fun ⟨x1, b15, ()⟩ => [(8, .pointer (some ⟨b2, 0, none⟩)), (9, .pointer (some ⟨b9, 0, none⟩)), (10, .pointer (some ⟨b10, 0, none⟩)), (11, vw), (12, .int .i64 ck), (60, .agg #[.int .i64 r.radius, .int .i64 r.unit, .int .i64 r.clicks, .int .i64 r.total, .slice x1.a1 r.group.length x1.c1, .slice x1.a2 r.drifts.length x1.c2, .slice x1.a3 r.first.length x1.c3, .slice x1.a4 r.next.length x1.c4]), (15, .pointer (some ⟨b15, 0, none⟩))]) (fun ⟨x1, b15, ()⟩ => [un x1.K, .pt b15 [.int .i64 0, .int .i64 0, .int .i64 0, .int .i64 0] 27]) ?_ (fun hS1_9 => ?_)
    · rintro ⟨x1, b15, _⟩
      refine qt_alt ?_ (qt_alt ?_ ?_)
      · skip
        refine qt_seg (by repeat (first | exact PickL.nil | (apply PickL.cons; rfl))) fun K1 hK1 => ?_
        (refine qf_loadAB tabOk rfl rfl rfl (by repeat first | exact .head _ | refine .tail _ ?_) (by rfl) (by rfl) ?_)
        refine qf_call (β := Cp r) tabOk [] _ M0 rfl rfl rfl rfl (Sp.refl _) (fun _ h => h.elim) (fun w' hs => cloneR_cp w' [.int .i64 r.radius, .int .i64 r.unit, .int .i64 r.clicks, .int .i64 r.total, .slice (some ⟨bgr, ogr, none⟩) r.group.length cgr, .slice (some ⟨bdr, odr, none⟩) r.drifts.length cdr, .slice (some ⟨bfr, ofr, none⟩) r.first.length cfr, .slice (some ⟨bnr, onr, none⟩) r.next.length cnr] r (ownr.at hs (by repeat first | exact .head _ | refine .tail _ ?_)) mader.small) ?_
        rintro x2 _ rfl
        (refine qf_nil ?_)
        exact hK1 _ _ (hS1_3_9 ⟨x1, x2, b15, ()⟩ _ _ ⟨rfl, rfl, rfl, rfl, rfl, rfl, rfl, rfl, trivial⟩ (by repeat (first | exact Sp.nil | exact Sp.refl _ | refine Sp.cons (by repeat constructor) ?_)))
      · skip
        refine qt_seg (by repeat (first | exact PickL.nil | (apply PickL.cons; rfl))) fun K1 hK1 => ?_
        skip
        refine qf_alloc zero25 rfl (fun b13 => ?_)
        (refine qf_nil ?_)
        exact hK1 _ _ (hS1_7_9 ⟨x1, b13, b15, ()⟩ _ _ ⟨rfl, rfl, rfl, rfl, rfl, rfl, rfl, rfl, trivial⟩ (by repeat (first | exact Sp.nil | exact Sp.refl _ | refine Sp.cons (by repeat constructor) ?_)))
      · skip
        refine qt_seg (by repeat (first | exact PickL.nil | (apply PickL.cons; rfl))) fun K1 hK1 => ?_
        skip
        refine qf_alloc zero25 rfl (fun b14 => ?_)
        (refine qf_nil ?_)
        exact hK1 _ _ (hS1_8_9 ⟨x1, b14, b15, ()⟩ _ _ ⟨rfl, rfl, rfl, rfl, rfl, rfl, rfl, rfl, trivial⟩ (by repeat (first | exact Sp.nil | exact Sp.refl _ | refine Sp.cons (by repeat constructor) ?_)))
    refine qt_let (σ := Nat × Nat × Unit) (.alt (chainT [0, 1] (.alt (chainT [2, 3] (.alt (chainT [4, 5, 6] (chainT [9] (chainT [10] (chainT [11] (chainT [12, 13] (.nil)))))) (chainT [9] (chainT [4, 5, 6] (chainT [10] (chainT [11] (chainT [12, 13] (.nil)))))))) (chainT [9] (chainT [2, 3] (chainT [4, 5, 6] (chainT [10] (chainT [11] (chainT [12, 13] (.nil))))))))) (chainT [9] (chainT [0, 1] (chainT [2, 3] (chainT [4, 5, 6] (chainT [10] (chainT [11] (chainT [12, 13] (.nil))))))))) (fun ⟨b13, b14, ()⟩ => [(8, .pointer (some ⟨b2, 0, none⟩)), (9, .pointer (some ⟨b9, 0, none⟩)), (10, .pointer (some ⟨b10, 0, none⟩)), (11, vw), (12, .int .i64 ck), (13, .pointer (some ⟨b13, 0, none⟩)), (14, .pointer (some ⟨b14, 0, none⟩))]) (fun ⟨b13, b14, ()⟩ => [.pt b13 [.int .i64 0, .int .i64 0, .int .i64 0, .int .i64 0, .slice none 0 0, .slice none 0 0, .slice none 0 0, .slice none 0 0] 25, .pt b14 [.int .i64 0, .int .i64 0, .int .i64 0, .int .i64 0, .slice none 0 0, .slice none 0 0, .slice none 0 0, .slice none 0 0] 25]) ?_ (fun hS7_8 => ?_)
    · rintro ⟨b13, b14, _⟩
      refine qt_alt ?_ ?_
      · skip
        refine qt_seg (by repeat (first | exact PickL.nil | (apply PickL.cons; rfl))) fun K1 hK1 => ?_
        (refine qf_loadAB tabOk rfl rfl rfl (by repeat first | exact .head _ | refine .tail _ ?_) (by rfl) (by rfl) ?_)
        refine qf_call (β := Cp r) tabOk [] _ M0 rfl rfl rfl rfl (Sp.refl _) (fun _ h => h.elim) (fun w' hs => cloneR_cp w' [.int .i64 r.radius, .int .i64 r.unit, .int .i64 r.clicks, .int .i64 r.total, .slice (some ⟨bgr, ogr, none⟩) r.group.length cgr, .slice (some ⟨bdr, odr, none⟩) r.drifts.length cdr, .slice (some ⟨bfr, ofr, none⟩) r.first.length cfr, .slice (some ⟨bnr, onr, none⟩) r.next.length cnr] r (ownr.at hs (by repeat first | exact .head _ | refine .tail _ ?_)) mader.small) ?_
        rintro x1 _ rfl
        (refine qf_nil ?_)
        exact hK1 _ _ (hS1_7_8 ⟨x1, b13, b14, ()⟩ _ _ ⟨rfl, rfl, rfl, rfl, rfl, rfl, rfl, rfl, trivial⟩ (by repeat (first | exact Sp.nil | exact Sp.refl _ | refine Sp.cons (by repeat constructor) ?_)))
      · skip
        refine qt_seg (by repeat (first | exact PickL.nil | (apply PickL.cons; rfl))) fun K1 hK1 => ?_
        skip
        refine qf_alloc zero27 rfl (fun b15 => ?_)
        (refine qf_nil ?_)
        exact hK1 _ _ (hS7_8_9 ⟨b13, b14, b15, ()⟩ _ _ ⟨rfl, rfl, rfl, rfl, rfl, rfl, rfl, rfl, trivial⟩ (by repeat (first | exact Sp.nil | exact Sp.refl _ | refine Sp.cons (by repeat constructor) ?_)))
    refine qt_let (σ := Nat × Nat × Unit) (.alt (chainT [0, 1] (.alt (chainT [2, 3] (.alt (chainT [4, 5, 6] (chainT [8] (chainT [10] (chainT [11] (chainT [12, 13] (.nil)))))) (chainT [8] (chainT [4, 5, 6] (chainT [10] (chainT [11] (chainT [12, 13] (.nil)))))))) (chainT [8] (chainT [2, 3] (chainT [4, 5, 6] (chainT [10] (chainT [11] (chainT [12, 13] (.nil))))))))) (chainT [8] (chainT [0, 1] (chainT [2, 3] (chainT [4, 5, 6] (chainT [10] (chainT [11] (chainT [12, 13] (.nil))))))))) (fun ⟨b13, b15, ()⟩ => [(8, .pointer (some ⟨b2, 0, none⟩)), (9, .pointer (some ⟨b9, 0, none⟩)), (10, .pointer (some ⟨b10, 0, none⟩)), (11, vw), (12, .int .i64 ck), (13, .pointer (some ⟨b13, 0, none⟩)), (15, .pointer (some ⟨b15, 0, none⟩))]) (fun ⟨b13, b15, ()⟩ => [.pt b13 [.int .i64 0, .int .i64 0, .int .i64 0, .int .i64 0, .slice none 0 0, .slice none 0 0, .slice none 0 0, .slice none 0 0] 25, .pt b15 [.int .i64 0, .int .i64 0, .int .i64 0, .int .i64 0] 27]) ?_ (fun hS7_9 => ?_)
    · rintro ⟨b13, b15, _⟩
      refine qt_alt ?_ ?_
      · skip
        refine qt_seg (by repeat (first | exact PickL.nil | (apply PickL.cons; rfl))) fun K1 hK1 => ?_
        (refine qf_loadAB tabOk rfl rfl rfl (by repeat first | exact .head _ | refine .tail _ ?_) (by rfl) (by rfl) ?_)
        refine qf_call (β := Cp r) tabOk [] _ M0 rfl rfl rfl rfl (Sp.refl _) (fun _ h => h.elim) (fun w' hs => cloneR_cp w' [.int .i64 r.radius, .int .i64 r.unit, .int .i64 r.clicks, .int .i64 r.total, .slice (some ⟨bgr, ogr, none⟩) r.group.length cgr, .slice (some ⟨bdr, odr, none⟩) r.drifts.length cdr, .slice (some ⟨bfr, ofr, none⟩) r.first.length cfr, .slice (some ⟨bnr, onr, none⟩) r.next.length cnr] r (ownr.at hs (by repeat first | exact .head _ | refine .tail _ ?_)) mader.small) ?_
        rintro x1 _ rfl
        (refine qf_nil ?_)
        exact hK1 _ _ (hS1_7_9 ⟨x1, b13, b15, ()⟩ _ _ ⟨rfl, rfl, rfl, rfl, rfl, rfl, rfl, rfl, trivial⟩ (by repeat (first | exact Sp.nil | exact Sp.refl _ | refine Sp.cons (by repeat constructor) ?_)))
      · skip
        refine qt_seg (by repeat (first | exact PickL.nil | (apply PickL.cons; rfl))) fun K1 hK1 => ?_
        skip
        refine qf_alloc zero25 rfl (fun b14 => ?_)
        (refine qf_nil ?_)
        exact hK1 _ _ (hS7_8_9 ⟨b13, b14, b15, ()⟩ _ _ ⟨rfl, rfl, rfl, rfl, rfl, rfl, rfl, rfl, trivial⟩ (by repeat (first | exact Sp.nil | exact Sp.refl _ | refine Sp.cons (by repeat constructor) ?_)))
    refine qt_let (σ := Nat × Nat × Unit) (.alt (chainT [0, 1] (.alt (chainT [2, 3] (.alt (chainT [4, 5, 6] (chainT [7] (chainT [10] (chainT [11] (chainT [12, 13] (.nil)))))) (chainT [7] (chainT [4, 5, 6] (chainT [10] (chainT [11] (chainT [12, 13] (.nil)))))))) (chainT [7] (chainT [2, 3] (chainT [4, 5, 6] (chainT [10] (chainT [11] (chainT [12, 13] (.nil))))))))) (chainT [7] (chainT [0, 1] (chainT [2, 3] (chainT [4, 5, 6] (chainT [10] (chainT [11] (chainT [12, 13] (.nil))))))))) (fun ⟨b14, b15, ()⟩ => [(8, .pointer (some ⟨b2, 0, none⟩)), (9, .pointer (some ⟨b9, 0, none⟩)), (10, .pointer (some ⟨b10, 0, none⟩)), (11, vw), (12, .int .i64 ck), (14, .pointer (some ⟨b14, 0, none⟩)), (15, .pointer (some ⟨b15, 0, none⟩))]) (fun ⟨b14, b15, ()⟩ => [.pt b14 [.int .i64 0, .int .i64 0, .int .i64 0, .int .i64 0, .slice none 0 0, .slice none 0 0, .slice none 0 0, .slice none 0 0] 25, .pt b15 [.int .i64 0, .int .i64 0, .int .i64 0, .int .i64 0] 27]) ?_ (fun hS8_9 => ?_)
    · rintro ⟨b14, b15, _⟩
      refine qt_alt ?_ ?_
      · skip
        refine qt_seg (by repeat (first | exact PickL.nil | (apply PickL.cons; rfl))) fun K1 hK1 => ?_
        (refine qf_loadAB tabOk rfl rfl rfl (by repeat first | exact .head _ | refine .tail _ ?_) (by rfl) (by rfl) ?_)
        refine qf_call (β := Cp r) tabOk [] _ M0 rfl rfl rfl rfl (Sp.refl _) (fun _ h => h.elim) (fun w' hs => cloneR_cp w' [.int .i64 r.radius, .int .i64 r.unit, .int .i64 r.clicks, .int .i64 r.total, .slice (some ⟨bgr, ogr, none⟩) r.group.length cgr, .slice (some ⟨bdr, odr, none⟩) r.drifts.length cdr, .slice (some ⟨bfr, ofr, none⟩) r.first.length cfr, .slice (some ⟨bnr, onr, none⟩) r.next.length cnr] r (ownr.at hs (by repeat first | exact .head _ | refine .tail _ ?_)) mader.small) ?_
        rintro x1 _ rfl
        (refine qf_nil ?_)
        exact hK1 _ _ (hS1_8_9 ⟨x1, b14, b15, ()⟩ _ _ ⟨rfl, rfl, rfl, rfl, rfl, rfl, rfl, rfl, trivial⟩ (by repeat (first | exact Sp.nil | exact Sp.refl _ | refine Sp.cons (by repeat constructor) ?_)))
      · skip
        refine qt_seg (by repeat (first | exact PickL.nil | (apply PickL.cons; rfl))) fun K1 hK1 => ?_
        skip
        refine qf_alloc zero25 rfl (fun b13 => ?_)
        (refine qf_nil ?_)
        exact hK1 _ _ (hS7_8_9 ⟨b13, b14, b15, ()⟩ _ _ ⟨rfl, rfl, rfl, rfl, rfl, rfl, rfl, rfl, trivial⟩ (by repeat (first | exact Sp.nil | exact Sp.refl _ | refine Sp.cons (by repeat constructor) ?_)))
    refine qt_let (σ := Cp r × Unit) (.alt (chainT [2, 3] (.alt (chainT [4, 5, 6] (.alt (chainT [7] (.alt (chainT [8] (chainT [9] (chainT [10] (chainT [11] (chainT [12, 13] (.nil)))))) (chainT [9] (chainT [8] (chainT [10] (chainT [11] (chainT [12, 13] (.nil)))))))) (.alt (chainT [8] (.alt (chainT [7] (chainT [9] (chainT [10] (chainT [11] (chainT [12, 13] (.nil)))))) (chainT [9] (chainT [7] (chainT [10] (chainT [11] (chainT [12, 13] (.nil)))))))) (chainT [9] (.alt (chainT [7] (chainT [8] (chainT [10] (chainT [11] (chainT [12, 13] (.nil)))))) (chainT [8] (chainT [7] (chainT [10] (chainT [11] (chainT [12, 13] (.nil))))))))))) (.alt (chainT [7] (.alt (chainT [4, 5, 6] (.alt (chainT [8] (chainT [9] (chainT [10] (chainT [11] (chainT [12, 13] (.nil)))))) (chainT [9] (chainT [8] (chainT [10] (chainT [11] (chainT [12, 13] (.nil)))))))) (.alt (chainT [8] (.alt (chainT [4, 5, 6] (chainT [9] (chainT [10] (chainT [11] (chainT [12, 13] (.nil)))))) (chainT [9] (chainT [4, 5, 6] (chainT [10] (chainT [11] (chainT [12, 13] (.nil)))))))) (chainT [9] (.alt (chainT [4, 5, 6] (chainT [8] (chainT [10] (chainT [11] (chainT [12, 13] (.nil)))))) (chainT [8] (chainT [4, 5, 6] (chainT [10] (chainT [11] (chainT [12, 13] (.nil))))))))))) (.alt (chainT [8] (.alt (chainT [4, 5, 6] (.alt (chainT [7] (chainT [9] (chainT [10] (chainT [11] (chainT [12, 13] (.nil)))))) (chainT [9] (chainT [7] (chainT [10] (chainT [11] (chainT [12, 13] (.nil)))))))) (.alt (chainT [7] (.alt (chainT [4, 5, 6] (chainT [9] (chainT [10] (chainT [11] (chainT [12, 13] (.nil)))))) (chainT [9] (chainT [4, 5, 6] (chainT [10] (chainT [11] (chainT [12, 13] (.nil)))))))) (chainT [9] (.alt (chainT [4, 5, 6] (chainT [7] (chainT [10] (chainT [11] (chainT [12, 13] (.nil)))))) (chainT [7] (chainT [4, 5, 6] (chainT [10] (chainT [11] (chainT [12, 13] (.nil))))))))))) (chainT [9] (.alt (chainT [4, 5, 6] (.alt (chainT [7] (chainT [8] (chainT [10] (chainT [11] (chainT [12, 13] (.nil)))))) (chainT [8] (chainT [7] (chainT [10] (chainT [11] (chainT [12, 13] (.nil)))))))) (.alt (chainT [7] (.alt (chainT [4, 5, 6] (chainT [8] (chainT [10] (chainT [11] (chainT [12, 13] (.nil)))))) (chainT [8] (chainT [4, 5, 6] (chainT [10] (chainT [11] (chainT [12, 13] (.nil)))))))) (chainT [8] (.alt (chainT [4, 5, 6] (chainT [7] (chainT [10] (chainT [11] (chainT [12, 13] (.nil)))))) (chainT [7] (chainT [4, 5, 6] (chainT [10] (chainT [11] (chainT [12, 13] (.nil))))))))))))))) (.alt (chainT [7] (.alt (chainT [2, 3] (.alt (chainT [4, 5, 6] (.alt (chainT [8] (chainT [9] (chainT [10] (chainT [11] (chainT [12, 13] (.nil)))))) (chainT [9] (chainT [8] (chainT [10] (chainT [11] (chainT [12, 13] (.nil)))))))) (.alt (chainT [8] (.alt (chainT [4, 5, 6] (chainT [9] (chainT [10] (chainT [11] (chainT [12, 13] (.nil)))))) (chainT [9] (chainT [4, 5, 6] (chainT [10] (chainT [11] (chainT [12, 13] (.nil)))))))) (chainT [9] (.alt (chainT [4, 5, 6] (chainT [8] (chainT [10] (chainT [11] (chainT [12, 13] (.nil)))))) (chainT [8] (chainT [4, 5, 6] (chainT [10] (chainT [11] (chainT [12, 13] (.nil))))))))))) (.alt (chainT [8] (.alt (chainT [2, 3] (.alt (chainT [4, 5, 6] (chainT [9] (chainT [10] (chainT [11] (chainT [12, 13] (.nil)))))) (chainT [9] (chainT [4, 5, 6] (chainT [10] (chainT [11] (chainT [12, 13] (.nil)))))))) (chainT [9] (chainT [2, 3] (chainT [4, 5, 6] (chainT [10] (chainT [11] (chainT [12, 13] (.nil))))))))) (chainT [9] (.alt (chainT [2, 3] (.alt (chainT [4, 5, 6] (chainT [8] (chainT [10] (chainT [11] (chainT [12, 13] (.nil)))))) (chainT [8] (chainT [4, 5, 6] (chainT [10] (chainT [11] (chainT [12, 13] (.nil)))))))) (chainT [8] (chainT [2, 3] (chainT [4, 5, 6] (chainT [10] (chainT [11] (chainT [12, 13] (.nil)))))))))))) (.alt (chainT [8] (.alt (chainT [2, 3] (.alt (chainT [4, 5, 6] (.alt (chainT [7] (chainT [9] (chainT [10] (chainT [11] (chainT [12, 13] (.nil)))))) (chainT [9] (chainT [7] (chainT [10] (chainT [11] (chainT [12, 13] (.nil)))))))) (.alt (chainT [7] (.alt (chainT [4, 5, 6] (chainT [9] (chainT [10] (chainT [11] (chainT [12, 13] (.nil)))))) (chainT [9] (chainT [4, 5, 6] (chainT [10] (chainT [11] (chainT [12, 13] (.nil)))))))) (chainT [9] (.alt (chainT [4, 5, 6] (chainT [7] (chainT [10] (chainT [11] (chainT [12, 13] (.nil)))))) (chainT [7] (chainT [4, 5, 6] (chainT [10] (chainT [11] (chainT [12, 13] (.nil))))))))))) (.alt (chainT [7] (.alt (chainT [2, 3] (.alt (chainT [4, 5, 6] (chainT [9] (chainT [10] (chainT [11] (chainT [12, 13] (.nil)))))) (chainT [9] (chainT [4, 5, 6] (chainT [10] (chainT [11] (chainT [12, 13] (.nil)))))))) (chainT [9] (chainT [2, 3] (chainT [4, 5, 6] (chainT [10] (chainT [11] (chainT [12, 13] (.nil))))))))) (chainT [9] (.alt (chainT [2, 3] (.alt (chainT [4, 5, 6] (chainT [7] (chainT [10] (chainT [11] (chainT [12, 13] (.nil)))))) (chainT [7] (chainT [4, 5, 6] (chainT [10] (chainT [11] (chainT [12, 13] (.nil)))))))) (chainT [7] (chainT [2, 3] (chainT [4, 5, 6] (chainT [10] (chainT [11] (chainT [12, 13] (.nil)))))))))))) (chainT [9] (.alt (chainT [2, 3] (.alt (chainT [4, 5, 6] (.alt (chainT [7] (chainT [8] (chainT [10] (chainT [11] (chainT [12, 13] (.nil)))))) (chainT [8] (chainT [7] (chainT [10] (chainT [11] (chainT [12, 13] (.nil)))))))) (.alt (chainT [7] (.alt (chainT [4, 5, 6] (chainT [8] (chainT [10] (chainT [11] (chainT [12, 13] (.nil)))))) (chainT [8] (chainT [4, 5, 6] (chainT [10] (chainT [11] (chainT [12, 13] (.nil)))))))) (chainT [8] (.alt (chainT [4, 5, 6] (chainT [7] (chainT [10] (chainT [11] (chainT [12, 13] (.nil)))))) (chainT [7] (chainT [4, 5, 6] (chainT [10] (chainT [11] (chainT [12, 13] (.nil))))))))))) (.alt (chainT [7] (.alt (chainT [2, 3] (.alt (chainT [4, 5, 6] (chainT [8] (chainT [10] (chainT [11] (chainT [12, 13] (.nil)))))) (chainT [8] (chainT [4, 5, 6] (chainT [10] (chainT [11] (chainT [12, 13] (.nil)))))))) (chainT [8] (chainT [2, 3] (chainT [4, 5, 6] (chainT [10] (chainT [11] (chainT [12, 13] (.nil))))))))) (chainT [8] (.alt (chainT [2, 3] (.alt (chainT [4, 5, 6] (chainT [7] (chainT [10] (chainT [11] (chainT [12, 13] (.nil)))))) (chainT [7] (chainT [4, 5, 6] (chainT [10] (chainT [11] (chainT [12, 13] (.nil)))))))) (chainT [7] (chainT [2, 3] (chainT [4, 5, 6] (chainT [10] (chainT [11] (chainT [12, 13] (.nil))))))))))))))) (fun ⟨x1, ()⟩ => [(8, .pointer (some ⟨b2, 0, none⟩)), (9, .pointer (some ⟨b9, 0, none⟩)), (10, .pointer (some ⟨b10, 0, none⟩)), (11, vw), (12, .int .i64 ck), (60, .agg #[.int .i64 r.radius, .int .i64 r.unit, .int .i64 r.clicks, .int .i64 r.total, .slice x1.a1 r.group.length x1.c1, .slice x1.a2 r.drifts.length x1.c2, .slice x1.a3 r.first.length x1.c3, .slice x1.a4 r.next.length x1.c4])]) (fun ⟨x1, ()⟩ => [un x1.K]) ?_ (fun hS1 => ?_)
    · rintro ⟨x1, _⟩
      refine qt_alt ?_ (qt_alt ?_ (qt_alt ?_ ?_))
      · skip
        refine qt_seg (by repeat (first | exact PickL.nil | (apply PickL.cons; rfl))) fun K1 hK1 => ?_
        (refine qf_loadAB tabOk rfl rfl rfl (by repeat first | exact .head _ | refine .tail _ ?_) (by rfl) (by rfl) ?_)
        refine qf_call (β := Cp r) tabOk [] _ M0 rfl rfl rfl rfl (Sp.refl _) (fun _ h => h.elim) (fun w' hs => cloneR_cp w' [.int .i64 r.radius, .int .i64 r.unit, .int .i64 r.clicks, .int .i64 r.total, .slice (some ⟨bgr, ogr, none⟩) r.group.length cgr, .slice (some ⟨bdr, odr, none⟩) r.drifts.length cdr, .slice (some ⟨bfr, ofr, none⟩) r.first.length cfr, .slice (some ⟨bnr, onr, none⟩) r.next.length cnr] r (ownr.at hs (by repeat first | exact .head _ | refine .tail _ ?_)) mader.small) ?_
        rintro x2 _ rfl
        (refine qf_nil ?_)
        exact hK1 _ _ (hS1_3 ⟨x1, x2, ()⟩ _ _ ⟨rfl, rfl, rfl, rfl, rfl, rfl, rfl, trivial⟩ (by repeat (first | exact Sp.nil | exact Sp.refl _ | refine Sp.cons (by repeat constructor) ?_)))
      · skip
        refine qt_seg (by repeat (first | exact PickL.nil | (apply PickL.cons; rfl))) fun K1 hK1 => ?_
        skip
        refine qf_alloc zero25 rfl (fun b13 => ?_)
        (refine qf_nil ?_)
        exact hK1 _ _ (hS1_7 ⟨x1, b13, ()⟩ _ _ ⟨rfl, rfl, rfl, rfl, rfl, rfl, rfl, trivial⟩ (by repeat (first | exact Sp.nil | exact Sp.refl _ | refine Sp.cons (by repeat constructor) ?_)))
      · skip
        refine qt_seg (by repeat (first | exact PickL.nil | (apply PickL.cons; rfl))) fun K1 hK1 => ?_
        skip
        refine qf_alloc zero25 rfl (fun b14 => ?_)
        (refine qf_nil ?_)
        exact hK1 _ _ (hS1_8 ⟨x1, b14, ()⟩ _ _ ⟨rfl, rfl, rfl, rfl, rfl, rfl, rfl, trivial⟩ (by repeat (first | exact Sp.nil | exact Sp.refl _ | refine Sp.cons (by repeat constructor) ?_)))
      · skip
        refine qt_seg (by repeat (first | exact PickL.nil | (apply PickL.cons; rfl))) fun K1 hK1 => ?_
        skip
        refine qf_alloc zero27 rfl (fun b15 => ?_)
        (refine qf_nil ?_)
        exact hK1 _ _ (hS1_9 ⟨x1, b15, ()⟩ _ _ ⟨rfl, rfl, rfl, rfl, rfl, rfl, rfl, trivial⟩ (by repeat (first | exact Sp.nil | exact Sp.refl _ | refine Sp.cons (by repeat constructor) ?_)))
    refine qt_let (σ := Nat × Unit) (.alt (chainT [0, 1] (.alt (chainT [2, 3] (.alt (chainT [4, 5, 6] (.alt (chainT [8] (chainT [9] (chainT [10] (chainT [11] (chainT [12, 13] (.nil)))))) (chainT [9] (chainT [8] (chainT [10] (chainT [11] (chainT [12, 13] (.nil)))))))) (.alt (chainT [8] (.alt (chainT [4, 5, 6] (chainT [9] (chainT [10] (chainT [11] (chainT [12, 13] (.nil)))))) (chainT [9] (chainT [4, 5, 6] (chainT [10] (chainT [11] (chainT [12, 13] (.nil)))))))) (chainT [9] (.alt (chainT [4, 5, 6] (chainT [8] (chainT [10] (chainT [11] (chainT [12, 13] (.nil)))))) (chainT [8] (chainT [4, 5, 6] (chainT [10] (chainT [11] (chainT [12, 13] (.nil))))))))))) (.alt (chainT [8] (.alt (chainT [2, 3] (.alt (chainT [4, 5, 6] (chainT [9] (chainT [10] (chainT [11] (chainT [12, 13] (.nil)))))) (chainT [9] (chainT [4, 5, 6] (chainT [10] (chainT [11] (chainT [12, 13] (.nil)))))))) (chainT [9] (chainT [2, 3] (chainT [4, 5, 6] (chainT [10] (chainT [11] (chainT [12, 13] (.nil))))))))) (chainT [9] (.alt (chainT [2, 3] (.alt (chainT [4, 5, 6] (chainT [8] (chainT [10] (chainT [11] (chainT [12, 13] (.nil)))))) (chainT [8] (chainT [4, 5, 6] (chainT [10] (chainT [11] (chainT [12, 13] (.nil)))))))) (chainT [8] (chainT [2, 3] (chainT [4, 5, 6] (chainT [10] (chainT [11] (chainT [12, 13] (.nil)))))))))))) (.alt (chainT [8] (.alt (chainT [0, 1] (.alt (chainT [2, 3] (.alt (chainT [4, 5, 6] (chainT [9] (chainT [10] (chainT [11] (chainT [12, 13] (.nil)))))) (chainT [9] (chainT [4, 5, 6] (chainT [10] (chainT [11] (chainT [12, 13] (.nil)))))))) (chainT [9] (chainT [2, 3] (chainT [4, 5, 6] (chainT [10] (chainT [11] (chainT [12, 13] (.nil))))))))) (chainT [9] (chainT [0, 1] (chainT [2, 3] (chainT [4, 5, 6] (chainT [10] (chainT [11] (chainT [12, 13] (.nil)))))))))) (chainT [9] (.alt (chainT [0, 1] (.alt (chainT [2, 3] (.alt (chainT [4, 5, 6] (chainT [8] (chainT [10] (chainT [11] (chainT [12, 13] (.nil)))))) (chainT [8] (chainT [4, 5, 6] (chainT [10] (chainT [11] (chainT [12, 13] (.nil)))))))) (chainT [8] (chainT [2, 3] (chainT [4, 5, 6] (chainT [10] (chainT [11] (chainT [12, 13] (.nil))))))))) (chainT [8] (chainT [0, 1] (chainT [2, 3] (chainT [4, 5, 6] (chainT [10] (chainT [11] (chainT [12, 13] (.nil)))))))))))) (fun ⟨b13, ()⟩ => [(8, .pointer (some ⟨b2, 0, none⟩)), (9, .pointer (some ⟨b9, 0, none⟩)), (10, .pointer (some ⟨b10, 0, none⟩)), (11, vw), (12, .int .i64 ck), (13, .pointer (some ⟨b13, 0, none⟩))]) (fun ⟨b13, ()⟩ => [.pt b13 [.int .i64 0, .int .i64 0, .int .i64 0, .int .i64 0, .slice none 0 0, .slice none 0 0, .slice none 0 0, .slice none 0 0] 25]) ?_ (fun hS7 => ?_)
    · rintro ⟨b13, _⟩
      refine qt_alt ?_ (qt_alt ?_ ?_)
      · skip
        refine qt_seg (by repeat (first | exact PickL.nil | (apply PickL.cons; rfl))) fun K1 hK1 => ?_
        (refine qf_loadAB tabOk rfl rfl rfl (by repeat first | exact .head _ | refine .tail _ ?_) (by rfl) (by rfl) ?_)
        refine qf_call (β := Cp r) tabOk [] _ M0 rfl rfl rfl rfl (Sp.refl _) (fun _ h => h.elim) (fun w' hs => cloneR_cp w' [.int .i64 r.radius, .int .i64 r.unit, .int .i64 r.clicks, .int .i64 r.total, .slice (some ⟨bgr, ogr, none⟩) r.group.length cgr, .slice (some ⟨bdr, odr, none⟩) r.drifts.length cdr, .slice (some ⟨bfr, ofr, none⟩) r.first.length cfr, .slice (some ⟨bnr, onr, none⟩) r.next.length cnr] r (ownr.at hs (by repeat first | exact .head _ | refine .tail _ ?_)) mader.small) ?_
        rintro x1 _ rfl
        (refine qf_nil ?_)
        exact hK1 _ _ (hS1_7 ⟨x1, b13, ()⟩ _ _ ⟨rfl, rfl, rfl, rfl, rfl, rfl, rfl, trivial⟩ (by repeat (first | exact Sp.nil | exact Sp.refl _ | refine Sp.cons (by repeat constructor) ?_)))
      · skip
        refine qt_seg (by repeat (first | exact PickL.nil | (apply PickL.cons; rfl))) fun K1 hK1 => ?_
        skip
        refine qf_alloc zero25 rfl (fun b14 => ?_)
        (refine qf_nil ?_)
        exact hK1 _ _ (hS7_8 ⟨b13, b14, ()⟩ _ _ ⟨rfl, rfl, rfl, rfl, rfl, rfl, rfl, trivial⟩ (by repeat (first | exact Sp.nil | exact Sp.refl _ | refine Sp.cons (by repeat constructor) ?_)))
      · skip
        refine qt_seg (by repeat (first | exact PickL.nil | (apply PickL.cons; rfl))) fun K1 hK1 => ?_
        skip
        refine qf_alloc zero27 rfl (fun b15 => ?_)
        (refine qf_nil ?_)
        exact hK1 _ _ (hS7_9 ⟨b13, b15, ()⟩ _ _ ⟨rfl, rfl, rfl, rfl, rfl, rfl, rfl, trivial⟩ (by repeat (first | exact Sp.nil | exact Sp.refl _ | refine Sp.cons (by repeat constructor) ?_)))
    refine qt_let (σ := Nat × Unit) (.alt (chainT [0, 1] (.alt (chainT [2, 3] (.alt (chainT [4, 5, 6] (.alt (chainT [7] (chainT [9] (chainT [10] (chainT [11] (chainT [12, 13] (.nil)))))) (chainT [9] (chainT [7] (chainT [10] (chainT [11] (chainT [12, 13] (.nil)))))))) (.alt (chainT [7] (.alt (chainT [4, 5, 6] (chainT [9] (chainT [10] (chainT [11] (chainT [12, 13] (.nil)))))) (chainT [9] (chainT [4, 5, 6] (chainT [10] (chainT [11] (chainT [12, 13] (.nil)))))))) (chainT [9] (.alt (chainT [4, 5, 6] (chainT [7] (chainT [10] (chainT [11] (chainT [12, 13] (.nil)))))) (chainT [7] (chainT [4, 5, 6] (chainT [10] (chainT [11] (chainT [12, 13] (.nil))))))))))) (.alt (chainT [7] (.alt (chainT [2, 3] (.alt (chainT [4, 5, 6] (chainT [9] (chainT [10] (chainT [11] (chainT [12, 13] (.nil)))))) (chainT [9] (chainT [4, 5, 6] (chainT [10] (chainT [11] (chainT [12, 13] (.nil)))))))) (chainT [9] (chainT [2, 3] (chainT [4, 5, 6] (chainT [10] (chainT [11] (chainT [12, 13] (.nil))))))))) (chainT [9] (.alt (chainT [2, 3] (.alt (chainT [4, 5, 6] (chainT [7] (chainT [10] (chainT [11] (chainT [12, 13] (.nil)))))) (chainT [7] (chainT [4, 5, 6] (chainT [10] (chainT [11] (chainT [12, 13] (.nil)))))))) (chainT [7] (chainT [2, 3] (chainT [4, 5, 6] (chainT [10] (chainT [11] (chainT [12, 13] (.nil)))))))))))) (.alt (chainT [7] (.alt (chainT [0, 1] (.alt (chainT [2, 3] (.alt (chainT [4, 5, 6] (chainT [9] (chainT [10] (chainT [11] (chainT [12, 13] (.nil)))))) (chainT [9] (chainT [4, 5, 6] (chainT [10] (chainT [11] (chainT [12, 13] (.nil)))))))) (chainT [9] (chainT [2, 3] (chainT [4, 5, 6] (chainT [10] (chainT [11] (chainT [12, 13] (.nil))))))))) (chainT [9] (chainT [0, 1] (chainT [2, 3] (chainT [4, 5, 6] (chainT [10] (chainT [11] (chainT [12, 13] (.nil)))))))))) (chainT [9] (.alt (chainT [0, 1] (.alt (chainT [2, 3] (.alt (chainT [4, 5, 6] (chainT [7] (chainT [10] (chainT [11] (chainT [12, 13] (.nil)))))) (chainT [7] (chainT [4, 5, 6] (chainT [10] (chainT [11] (chainT [12, 13] (.nil)))))))) (chainT [7] (chainT [2, 3] (chainT [4, 5, 6] (chainT [10] (chainT [11] (chainT [12, 13] (.nil))))))))) (chainT [7] (chainT [0, 1] (chainT [2, 3] (chainT [4, 5, 6] (chainT [10] (chainT [11] (chainT [12, 13] (.nil)))))))))))) (fun ⟨b14, ()⟩ => [(8, .pointer (some ⟨b2, 0, none⟩)), (9, .pointer (some ⟨b9, 0, none⟩)), (10, .pointer (some ⟨b10, 0, none⟩)), (11, vw), (12, .int .i64 ck), (14, .pointer (some ⟨b14, 0, none⟩))]) (fun ⟨b14, ()⟩ => [.pt b14 [.int .i64 0, .int .i64 0, .int .i64 0, .int .i64 0, .slice none 0 0, .slice none 0 0, .slice none 0 0, .slice none 0 0] 25]) ?_ (fun hS8 => ?_)
    · rintro ⟨b14, _⟩
      refine qt_alt ?_ (qt_alt ?_ ?_)
      · skip
        refine qt_seg (by repeat (first | exact PickL.nil | (apply PickL.cons; rfl))) fun K1 hK1 => ?_
        (refine qf_loadAB tabOk rfl rfl rfl (by repeat first | exact .head _ | refine .tail _ ?_) (by rfl) (by rfl) ?_)
        refine qf_call (β := Cp r) tabOk [] _ M0 rfl rfl rfl rfl (Sp.refl _) (fun _ h => h.elim) (fun w' hs => cloneR_cp w' [.int .i64 r.radius, .int .i64 r.unit, .int .i64 r.clicks, .int .i64 r.total, .slice (some ⟨bgr, ogr, none⟩) r.group.length cgr, .slice (some ⟨bdr, odr, none⟩) r.drifts.length cdr, .slice (some ⟨bfr, ofr, none⟩) r.first.length cfr, .slice (some ⟨bnr, onr, none⟩) r.next.length cnr] r (ownr.at hs (by repeat first | exact .head _ | refine .tail _ ?_)) mader.small) ?_
        rintro x1 _ rfl
        (refine qf_nil ?_)
        exact hK1 _ _ (hS1_8 ⟨x1, b14, ()⟩ _ _ ⟨rfl, rfl, rfl, rfl, rfl, rfl, rfl, trivial⟩ (by repeat (first | exact Sp.nil | exact Sp.refl _ | refine Sp.cons (by repeat constructor) ?_)))
      · skip
        refine qt_seg (by repeat (first | exact PickL.nil | (apply PickL.cons; rfl))) fun K1 hK1 => ?_
        skip
        refine qf_alloc zero25 rfl (fun b13 => ?_)
        (refine qf_nil ?_)
        exact hK1 _ _ (hS7_8 ⟨b13, b14, ()⟩ _ _ ⟨rfl, rfl, rfl, rfl, rfl, rfl, rfl, trivial⟩ (by repeat (first | exact Sp.nil | exact Sp.refl _ | refine Sp.cons (by repeat constructor) ?_)))
      · skip
        refine qt_seg (by repeat (first | exact PickL.nil | (apply PickL.cons; rfl))) fun K1 hK1 => ?_
        skip
        refine qf_alloc zero27 rfl (fun b15 => ?_)
        (refine qf_nil ?_)
        exact hK1 _ _ (hS8_9 ⟨b14, b15, ()⟩ _ _ ⟨rfl, rfl, rfl, rfl, rfl, rfl, rfl, trivial⟩ (by repeat (first | exact Sp.nil | exact Sp.refl _ | refine Sp.cons (by repeat constructor) ?_)))
    refine qt_let (σ := Nat × Unit) (.alt (chainT [0, 1] (.alt (chainT [2, 3] (.alt (chainT [4, 5, 6] (.alt (chainT [7] (chainT [8] (chainT [10] (chainT [11] (chainT [12, 13] (.nil)))))) (chainT [8] (chainT [7] (chainT [10] (chainT [11] (chainT [12, 13] (.nil)))))))) (.alt (chainT [7] (.alt (chainT [4, 5, 6] (chainT [8] (chainT [10] (chainT [11] (chainT [12, 13] (.nil)))))) (chainT [8] (chainT [4, 5, 6] (chainT [10] (chainT [11] (chainT [12, 13] (.nil)))))))) (chainT [8] (.alt (chainT [4, 5, 6] (chainT [7] (chainT [10] (chainT [11] (chainT [12, 13] (.nil)))))) (chainT [7] (chainT [4, 5, 6] (chainT [10] (chainT [11] (chainT [12, 13] (.nil))))))))))) (.alt (chainT [7] (.alt (chainT [2, 3] (.alt (chainT [4, 5, 6] (chainT [8] (chainT [10] (chainT [11] (chainT [12, 13] (.nil)))))) (chainT [8] (chainT [4, 5, 6] (chainT [10] (chainT [11] (chainT [12, 13] (.nil)))))))) (chainT [8] (chainT [2, 3] (chainT [4, 5, 6] (chainT [10] (chainT [11] (chainT [12, 13] (.nil))))))))) (chainT [8] (.alt (chainT [2, 3] (.alt (chainT [4, 5, 6] (chainT [7] (chainT [10] (chainT [11] (chainT [12, 13] (.nil)))))) (chainT [7] (chainT [4, 5, 6] (chainT [10] (chainT [11] (chainT [12, 13] (.nil)))))))) (chainT [7] (chainT [2, 3] (chainT [4, 5, 6] (chainT [10] (chainT [11] (chainT [12, 13] (.nil)))))))))))) (.alt (chainT [7] (.alt (chainT [0, 1] (.alt (chainT [2, 3] (.alt (chainT [4, 5, 6] (chainT [8] (chainT [10] (chainT [11] (chainT [12, 13] (.nil)))))) (chainT [8] (chainT [4, 5, 6] (chainT [10] (chainT [11] (chainT [12, 13] (.nil)))))))) (chainT [8] (chainT [2, 3] (chainT [4, 5, 6] (chainT [10] (chainT [11] (chainT [12, 13] (.nil))))))))) (chainT [8] (chainT [0, 1] (chainT [2, 3] (chainT [4, 5, 6] (chainT [10] (chainT [11] (chainT [12, 13] (.nil)))))))))) (chainT [8] (.alt (chainT [0, 1] (.alt (chainT [2, 3] (.alt (chainT [4, 5, 6] (chainT [7] (chainT [10] (chainT [11] (chainT [12, 13] (.nil)))))) (chainT [7] (chainT [4, 5, 6] (chainT [10] (chainT [11] (chainT [12, 13] (.nil)))))))) (chainT [7] (chainT [2, 3] (chainT [4, 5, 6] (chainT [10] (chainT [11] (chainT [12, 13] (.nil))))))))) (chainT [7] (chainT [0, 1] (chainT [2, 3] (chainT [4, 5, 6] (chainT [10] (chainT [11] (chainT [12, 13] (.nil)))))))))))) (fun ⟨b15, ()⟩ => [(8, .pointer (some ⟨b2, 0, none⟩)), (9, .pointer (some ⟨b9, 0, none⟩)), (10, .pointer (some ⟨b10, 0, none⟩)), (11, vw), (12, .int .i64 ck), (15, .pointer (some ⟨b15, 0, none⟩))]) (fun ⟨b15, ()⟩ => [.pt b15 [.int .i64 0, .int .i64 0, .int .i64 0, .int .i64 0] 27]) ?_ (fun hS9 => ?_)
    · rintro ⟨b15, _⟩
      refine qt_alt ?_ (qt_alt ?_ ?_)
      · skip
        refine qt_seg (by repeat (first | exact PickL.nil | (apply PickL.cons; rfl))) fun K1 hK1 => ?_
        (refine qf_loadAB tabOk rfl rfl rfl (by repeat first | exact .head _ | refine .tail _ ?_) (by rfl) (by rfl) ?_)
        refine qf_call (β := Cp r) tabOk [] _ M0 rfl rfl rfl rfl (Sp.refl _) (fun _ h => h.elim) (fun w' hs => cloneR_cp w' [.int .i64 r.radius, .int .i64 r.unit, .int .i64 r.clicks, .int .i64 r.total, .slice (some ⟨bgr, ogr, none⟩) r.group.length cgr, .slice (some ⟨bdr, odr, none⟩) r.drifts.length cdr, .slice (some ⟨bfr, ofr, none⟩) r.first.length cfr, .slice (some ⟨bnr, onr, none⟩) r.next.length cnr] r (ownr.at hs (by repeat first | exact .head _ | refine .tail _ ?_)) mader.small) ?_
        rintro x1 _ rfl
        (refine qf_nil ?_)
        exact hK1 _ _ (hS1_9 ⟨x1, b15, ()⟩ _ _ ⟨rfl, rfl, rfl, rfl, rfl, rfl, rfl, trivial⟩ (by repeat (first | exact Sp.nil | exact Sp.refl _ | refine Sp.cons (by repeat constructor) ?_)))
      · skip
        refine qt_seg (by repeat (first | exact PickL.nil | (apply PickL.cons; rfl))) fun K1 hK1 => ?_
        skip
        refine qf_alloc zero25 rfl (fun b13 => ?_)
        (refine qf_nil ?_)
        exact hK1 _ _ (hS7_9 ⟨b13, b15, ()⟩ _ _ ⟨rfl, rfl, rfl, rfl, rfl, rfl, rfl, trivial⟩ (by repeat (first | exact Sp.nil | exact Sp.refl _ | refine Sp.cons (by repeat constructor) ?_)))
      · skip
        refine qt_seg (by repeat (first | exact PickL.nil | (apply PickL.cons; rfl))) fun K1 hK1 => ?_
        skip
        refine qf_alloc zero25 rfl (fun b14 => ?_)
        (refine qf_nil ?_)
        exact hK1 _ _ (hS8_9 ⟨b14, b15, ()⟩ _ _ ⟨rfl, rfl, rfl, rfl, rfl, rfl, rfl, trivial⟩ (by repeat (first | exact Sp.nil | exact Sp.refl _ | refine Sp.cons (by repeat constructor) ?_)))
    refine qt_alt ?_ (qt_alt ?_ (qt_alt ?_ ?_))
    · skip
      refine qt_seg (by repeat (first | exact PickL.nil | (apply PickL.cons; rfl))) fun K1 hK1 => ?_
      (refine qf_loadAB tabOk rfl rfl rfl (by repeat first | exact .head _ | refine .tail _ ?_) (by rfl) (by rfl) ?_)
      refine qf_call (β := Cp r) tabOk [] _ M0 rfl rfl rfl rfl (Sp.refl _) (fun _ h => h.elim) (fun w' hs => cloneR_cp w' [.int .i64 r.radius, .int .i64 r.unit, .int .i64 r.clicks, .int .i64 r.total, .slice (some ⟨bgr, ogr, none⟩) r.group.length cgr, .slice (some ⟨bdr, odr, none⟩) r.drifts.length cdr, .slice (some ⟨bfr, ofr, none⟩) r.first.length cfr, .slice (some ⟨bnr, onr, none⟩) r.next.length cnr] r (ownr.at hs (by repeat first | exact .head _ | refine .tail _ ?_)) mader.small) ?_
      rintro x1 _ rfl
      (refine qf_nil ?_)
      exact hK1 _ _ (hS1 ⟨x1, ()⟩ _ _ ⟨rfl, rfl, rfl, rfl, rfl, rfl, trivial⟩ (by repeat (first | exact Sp.nil | exact Sp.refl _ | refine Sp.cons (by repeat constructor) ?_)))
    · skip
      refine qt_seg (by repeat (first | exact PickL.nil | (apply PickL.cons; rfl))) fun K1 hK1 => ?_
      skip
      refine qf_alloc zero25 rfl (fun b13 => ?_)
      (refine qf_nil ?_)
      exact hK1 _ _ (hS7 ⟨b13, ()⟩ _ _ ⟨rfl, rfl, rfl, rfl, rfl, rfl, trivial⟩ (by repeat (first | exact Sp.nil | exact Sp.refl _ | refine Sp.cons (by repeat constructor) ?_)))
    · skip
      refine qt_seg (by repeat (first | exact PickL.nil | (apply PickL.cons; rfl))) fun K1 hK1 => ?_
      skip
      refine qf_alloc zero25 rfl (fun b14 => ?_)
      (refine qf_nil ?_)
      exact hK1 _ _ (hS8 ⟨b14, ()⟩ _ _ ⟨rfl, rfl, rfl, rfl, rfl, rfl, trivial⟩ (by repeat (first | exact Sp.nil | exact Sp.refl _ | refine Sp.cons (by repeat constructor) ?_)))
    · skip
      refine qt_seg (by repeat (first | exact PickL.nil | (apply PickL.cons; rfl))) fun K1 hK1 => ?_
      skip
      refine qf_alloc zero27 rfl (fun b15 => ?_)
      (refine qf_nil ?_)
      exact hK1 _ _ (hS9 ⟨b15, ()⟩ _ _ ⟨rfl, rfl, rfl, rfl, rfl, rfl, trivial⟩ (by repeat (first | exact Sp.nil | exact Sp.refl _ | refine Sp.cons (by repeat constructor) ?_)))
  rintro ⟨b13, b14, b15, x1, x2, vy⟩
  dsimp only
  refine q_conv (H' := [.ow vy 64 2 5 (spC ws), dkP (.slice a2 n2 c2) b2 0, .pt b13 [.int .i64 r.radius, .int .i64 r.unit, .int .i64 r.clicks, .int .i64 r.total, .slice x1.a1 r.group.length x1.c1, .slice x1.a2 r.drifts.length x1.c2, .slice x1.a3 r.first.length x1.c3, .slice x1.a4 r.next.length x1.c4] 25, .pt b14 [.int .i64 r.radius, .int .i64 r.unit, .int .i64 r.clicks, .int .i64 r.total, .slice x2.a1 r.group.length x2.c1, .slice x2.a2 r.drifts.length x2.c2, .slice x2.a3 r.first.length x2.c3, .slice x2.a4 r.next.length x2.c4] 25, .pt b15 [.int .i64 p.miss, .int .i64 p.click, .int .i64 p.wait, .int .i64 p.waits] 27, un x1.K, un x2.K, .pt b9 [.int .i64 r.radius, .int .i64 r.unit, .int .i64 r.clicks, .int .i64 r.total, .slice (some ⟨bgr, ogr, none⟩) r.group.length cgr, .slice (some ⟨bdr, odr, none⟩) r.drifts.length cdr, .slice (some ⟨bfr, ofr, none⟩) r.first.length cfr, .slice (some ⟨bnr, onr, none⟩) r.next.length cnr] 25, .pt b10 [.int .i64 p.miss, .int .i64 p.click, .int .i64 p.wait, .int .i64 p.waits] 27, un Lr, .ow vw 64 2 5 (spC ws)]) (fun w' hs => hs.sp (by repeat (first | exact Sp.nil | exact Sp.refl _ | refine Sp.cons (by repeat constructor) ?_))) ?_
  refine q_ow (by omega) (fun g cap spare hy => ?_)
  subst hy
  (refine q_seq ?_)
  refine q_drawS2 6 _ [dkP (.slice a2 n2 c2) b2 0] [.pt b14 [.int .i64 r.radius, .int .i64 r.unit, .int .i64 r.clicks, .int .i64 r.total, .slice x2.a1 r.group.length x2.c1, .slice x2.a2 r.drifts.length x2.c2, .slice x2.a3 r.first.length x2.c3, .slice x2.a4 r.next.length x2.c4] 25, .pt b15 [.int .i64 p.miss, .int .i64 p.click, .int .i64 p.wait, .int .i64 p.waits] 27, .pt g (spC ws ++ spare) 64, un x1.K, un x2.K, .pt b9 [.int .i64 r.radius, .int .i64 r.unit, .int .i64 r.clicks, .int .i64 r.total, .slice (some ⟨bgr, ogr, none⟩) r.group.length cgr, .slice (some ⟨bdr, odr, none⟩) r.drifts.length cdr, .slice (some ⟨bfr, ofr, none⟩) r.first.length cfr, .slice (some ⟨bnr, onr, none⟩) r.next.length cnr] 25, .pt b10 [.int .i64 p.miss, .int .i64 p.click, .int .i64 p.wait, .int .i64 p.waits] 27, un Lr, .ow vw 64 2 5 (spC ws)] [.pt b13 [.int .i64 r.radius, .int .i64 r.unit, .int .i64 r.clicks, .int .i64 r.total, .slice x1.a1 r.group.length x1.c1, .slice x1.a2 r.drifts.length x1.c2, .slice x1.a3 r.first.length x1.c3, .slice x1.a4 r.next.length x1.c4] 25] (Sp.cons (by repeat constructor) (Sp.refl _)) (Sp.cons (by repeat constructor) (by repeat (first | exact Sp.nil | exact Sp.refl _ | refine Sp.cons (by repeat constructor) ?_))) (by kernel_rfl) (by kernel_rfl) (by kernel_rfl) fun K1 hK1 => ?_
  have hrad := hR.radius
  have hrad2 := mader.radius
  (refine qf_pure tabOk rfl rfl rfl ?_; refine qf_loadB tabOk rfl rfl rfl (by repeat first | exact .head _ | refine .tail _ ?_) (by rfl) ?_; refine qf_pure tabOk rfl rfl rfl ?_)
  refine qf_call (β := Int) (ψ := fun x v => v = .int .i64 x ∧ 0 ≤ x ∧ x ≤ 4 - 1) (L' := fun _ => [dkP (.slice a2 n2 c2) b2 (0 + 1)]) tabOk [dkP (.slice a2 n2 c2) b2 (0)] _ (fun x => x = b2) rfl rfl rfl rfl (Sp.cons (by repeat constructor) (Sp.refl _)) (fun x hx => ⟨_, .head _, hx⟩) (fun w' hs => drw0 hbyb2 hs (by omega) (by omega)) ?_; rintro qx _ ⟨rfl, hqx⟩
  (refine qf_ar tabOk rfl rfl rfl rfl (by omega) (by omega) ?_; refine qf_pure tabOk rfl rfl rfl ?_; refine qf_nil ?_)
  refine hK1 _ _ [.pt b13 [.int .i64 r.radius, .int .i64 r.unit, .int .i64 r.clicks, .int .i64 r.total, .slice x1.a1 r.group.length x1.c1, .slice x1.a2 r.drifts.length x1.c2, .slice x1.a3 r.first.length x1.c3, .slice x1.a4 r.next.length x1.c4] 25, dkP (.slice a2 n2 c2) b2 1] (Sp.cons (by repeat constructor) (Sp.cons (by repeat constructor) (by repeat (first | exact Sp.nil | exact Sp.refl _ | refine Sp.cons (by repeat constructor) ?_)))) ?_
  (refine qf_st0 tabOk rfl rfl rfl rfl (by repeat constructor) ?_; refine qf_nil ?_; refine q_seq ?_; refine q_region ?_; refine ql_pure tabOk rfl rfl ?_; refine ql_loadB tabOk rfl rfl rfl (by repeat first | exact .head _ | refine .tail _ ?_) (by rfl) ?_; refine ql_ar tabOk rfl rfl rfl rfl (by omega) (by omega) ?_; refine ql_pure tabOk rfl rfl ?_; refine ql_st2 tabOk rfl rfl rfl rfl (by repeat constructor) ?_; refine q_nil ?_; refine q_seq ?_)
  have hpR := hp
  refine q_draw _ [dkP (.slice a2 n2 c2) b2 1, .pt b15 [.int .i64 p.miss, .int .i64 p.click, .int .i64 p.wait, .int .i64 p.waits] 27] (Sp.cons (by repeat constructor) (Sp.cons (by repeat constructor) (Sp.refl _))) (by kernel_rfl) (by kernel_rfl) ?_
  (refine qf_pure tabOk rfl rfl rfl ?_; refine qf_loadB tabOk rfl rfl rfl (by repeat first | exact .head _ | refine .tail _ ?_) (by rfl) ?_; (iterate 2 refine qf_pure tabOk rfl rfl rfl ?_); refine qf_loadB tabOk rfl rfl rfl (by repeat first | exact .head _ | refine .tail _ ?_) (by rfl) ?_; refine qf_ar tabOk rfl rfl rfl rfl (by omega) (by omega) ?_)
  refine qf_call (β := Int) (ψ := fun x v => v = .int .i64 x ∧ 0 ≤ x ∧ x ≤ p.miss + 1 - 1) (L' := fun _ => [dkP (.slice a2 n2 c2) b2 (1 + 1)]) tabOk [dkP (.slice a2 n2 c2) b2 (1)] _ (fun x => x = b2) rfl rfl rfl rfl (Sp.cons (by repeat constructor) (Sp.refl _)) (fun x hx => ⟨_, .head _, hx⟩) (fun w' hs => drw0 hbyb2 hs (by omega) (by omega)) ?_; rintro q1 _ ⟨rfl, hq1⟩
  (refine qf_ar tabOk rfl rfl rfl rfl (by omega) (by omega) ?_; refine qf_pure tabOk rfl rfl rfl ?_; refine qf_loadB tabOk rfl rfl rfl (by repeat first | exact .head _ | refine .tail _ ?_) (by rfl) ?_; (iterate 2 refine qf_pure tabOk rfl rfl rfl ?_); refine qf_loadB tabOk rfl rfl rfl (by repeat first | exact .head _ | refine .tail _ ?_) (by rfl) ?_; refine qf_ar tabOk rfl rfl rfl rfl (by omega) (by omega) ?_)
  refine qf_call (β := Int) (ψ := fun x v => v = .int .i64 x ∧ 0 ≤ x ∧ x ≤ p.click + 1 - 1) (L' := fun _ => [dkP (.slice a2 n2 c2) b2 (1 + 1 + 1)]) tabOk [dkP (.slice a2 n2 c2) b2 (1 + 1)] _ (fun x => x = b2) rfl rfl rfl rfl (Sp.cons (by repeat constructor) (Sp.refl _)) (fun x hx => ⟨_, .head _, hx⟩) (fun w' hs => drw0 hbyb2 hs (by omega) (by omega)) ?_; rintro q2 _ ⟨rfl, hq2⟩
  (refine qf_ar tabOk rfl rfl rfl rfl (by omega) (by omega) ?_; refine qf_pure tabOk rfl rfl rfl ?_; refine qf_loadB tabOk rfl rfl rfl (by repeat first | exact .head _ | refine .tail _ ?_) (by rfl) ?_; (iterate 2 refine qf_pure tabOk rfl rfl rfl ?_); refine qf_loadB tabOk rfl rfl rfl (by repeat first | exact .head _ | refine .tail _ ?_) (by rfl) ?_; refine qf_ar tabOk rfl rfl rfl rfl (by omega) (by omega) ?_)
  refine qf_call (β := Int) (ψ := fun x v => v = .int .i64 x ∧ 0 ≤ x ∧ x ≤ p.wait + 1 - 1) (L' := fun _ => [dkP (.slice a2 n2 c2) b2 (1 + 1 + 1 + 1)]) tabOk [dkP (.slice a2 n2 c2) b2 (1 + 1 + 1)] _ (fun x => x = b2) rfl rfl rfl rfl (Sp.cons (by repeat constructor) (Sp.refl _)) (fun x hx => ⟨_, .head _, hx⟩) (fun w' hs => drw0 hbyb2 hs (by omega) (by omega)) ?_; rintro q3 _ ⟨rfl, hq3⟩
  (refine qf_ar tabOk rfl rfl rfl rfl (by omega) (by omega) ?_; refine qf_pure tabOk rfl rfl rfl ?_; refine qf_loadB tabOk rfl rfl rfl (by repeat first | exact .head _ | refine .tail _ ?_) (by rfl) ?_; refine qf_pure tabOk rfl rfl rfl ?_)
  refine qf_call (β := Int) (ψ := fun x v => v = .int .i64 x ∧ 0 ≤ x ∧ x ≤ 2 - 1) (L' := fun _ => [dkP (.slice a2 n2 c2) b2 (1 + 1 + 1 + 1 + 1)]) tabOk [dkP (.slice a2 n2 c2) b2 (1 + 1 + 1 + 1)] _ (fun x => x = b2) rfl rfl rfl rfl (Sp.cons (by repeat constructor) (Sp.refl _)) (fun x hx => ⟨_, .head _, hx⟩) (fun w' hs => drw0 hbyb2 hs (by omega) (by omega)) ?_; rintro q4 _ ⟨rfl, hq4⟩
  (refine qf_ar tabOk rfl rfl rfl rfl (by omega) (by omega) ?_; refine qf_pure tabOk rfl rfl rfl ?_; refine qf_st0 tabOk rfl rfl rfl rfl (by repeat constructor) ?_; refine qf_pure tabOk rfl rfl rfl ?_; refine qf_st1 tabOk rfl rfl rfl rfl (by repeat constructor) ?_; refine qf_pure tabOk rfl rfl rfl ?_; refine qf_st2 tabOk rfl rfl rfl rfl (by repeat constructor) ?_; refine qf_pure tabOk rfl rfl rfl ?_; refine qf_st3 tabOk rfl rfl rfl rfl (by repeat constructor) ?_; refine qf_nil ?_; (iterate 2 refine q_seq ?_); refine q_region ?_; (iterate 3 refine ql_pure tabOk rfl rfl ?_); refine q_nil ?_; refine q_block ?_)
  obtain ⟨p2, hp2⟩ : ∃ p2 : Ru, p2 = ⟨p.miss - q1, p.click - q2, p.wait - q3, p.waits + q4⟩ := ⟨_, rfl⟩
  have e1 : p2.miss = p.miss - q1 := by rw [hp2]
  have e2 : p2.click = p.click - q2 := by rw [hp2]
  have e3 : p2.wait = p.wait - q3 := by rw [hp2]
  have e4 : p2.waits = p.waits + q4 := by rw [hp2]
  rw [← e1, ← e2, ← e3, ← e4]
  have hp2R : p2.Right := Ru.mk_right (by omega) (by omega) (by omega) (by omega)
  have hwR := wide_right hR qx (by omega)
  have hfR := fine_right hR (by omega)
  have hwL : (wideR r qx).Low := ⟨hwR, hlow.total, hlow.gsum⟩
  have hfL : (fineR r).Low := ⟨hfR, hlow.total, hlow.gsum⟩
  have hsm := mader.small
  have hwS : (wideR r qx).Small := ⟨hsm.group, hsm.drifts, hsm.first, hsm.next, hsm.rows⟩
  have hfS : (fineR r).Small := ⟨hsm.group, hsm.drifts, hsm.first, hsm.next, hsm.rows⟩
  clear hp2
  refine q_loop (σ := Nat × List (Int × Int)) (fun s => s.1 ≤ 5 ∧ WiderW ws s.2 s.1) (fun s => 5 - s.1) (fun s => [(8, .pointer (some ⟨b2, 0, none⟩)), (9, .pointer (some ⟨b9, 0, none⟩)), (10, .pointer (some ⟨b10, 0, none⟩)), (11, vw), (12, .int .i64 ck), (13, .pointer (some ⟨b13, 0, none⟩)), (14, .pointer (some ⟨b14, 0, none⟩)), (15, .pointer (some ⟨b15, 0, none⟩)), (16, .slice (some ⟨g, 0, none⟩) 5 cap), (110, .int .i64 5), (111, .int .i64 s.1)])
    (fun s => [.pt g (spC s.2 ++ spare) 64, dkP (.slice a2 n2 c2) b2 (5 + 2 * s.1), .pt b13 [.int .i64 (wideR r qx).radius, .int .i64 r.unit, .int .i64 (wideR r qx).clicks, .int .i64 r.total, .slice x1.a1 r.group.length x1.c1, .slice x1.a2 r.drifts.length x1.c2, .slice x1.a3 r.first.length x1.c3, .slice x1.a4 r.next.length x1.c4] 25, .pt b14 [.int .i64 (fineR r).radius, .int .i64 r.unit, .int .i64 (fineR r).clicks, .int .i64 r.total, .slice x2.a1 r.group.length x2.c1, .slice x2.a2 r.drifts.length x2.c2, .slice x2.a3 r.first.length x2.c3, .slice x2.a4 r.next.length x2.c4] 25, .pt b15 [.int .i64 p2.miss, .int .i64 p2.click, .int .i64 p2.wait, .int .i64 p2.waits] 27, un x1.K, un x2.K, .pt b9 [.int .i64 r.radius, .int .i64 r.unit, .int .i64 r.clicks, .int .i64 r.total, .slice (some ⟨bgr, ogr, none⟩) r.group.length cgr, .slice (some ⟨bdr, odr, none⟩) r.drifts.length cdr, .slice (some ⟨bfr, ofr, none⟩) r.first.length cfr, .slice (some ⟨bnr, onr, none⟩) r.next.length cnr] 25, .pt b10 [.int .i64 p.miss, .int .i64 p.click, .int .i64 p.wait, .int .i64 p.waits] 27, un Lr, .ow vw 64 2 5 (spC ws)]) (0, ws) ⟨by simp only; omega, hws.1, fun j hj => ⟨fun h => by simp only at h; omega, fun _ => rfl⟩⟩ ⟨rfl, rfl, rfl, rfl, rfl, rfl, rfl, rfl, rfl, rfl, rfl, trivial⟩ (by repeat (first | exact Sp.nil | exact Sp.refl _ | refine Sp.cons (by repeat constructor) ?_)) ?_
  rintro ⟨i, l⟩ ⟨hi, hl⟩ K2 hK2
  simp only at hi hl
  dsimp only
  (refine q_seq ?_; refine q_region ?_; refine ql_pure tabOk rfl rfl ?_; refine q_nil ?_; refine q_seq ?_)
  refine q_if rfl (fun hc => ?_) (fun hc => ?_)
  · have hi5 : i < 5 := by omega
    clear hc
    have hil : i < l.length := by rw [hl.1]; exact hi5
    have hlen5 := hl.1
    have hli : l[i] = ws.getD i (0, 0) := by
      have := (hl.2 i hi5).2 (Nat.le_refl _)
      rw [← this]
      simp [List.getD_eq_getElem?_getD, hil]
    have hwi := hws.2 _ (ws_mem (ws := ws) (i := i) (by rw [hws.1]; exact hi5))
    rw [← hli] at hwi
    (refine q_skip ?_; refine q_seq ?_; refine q_block ?_; refine q_seq ?_; refine q_region ?_; (iterate 2 refine ql_pure tabOk rfl rfl ?_); refine q_nil ?_; refine q_seq ?_)
    refine q_drawS2 10 _ [dkP (.slice a2 n2 c2) b2 (5 + 2 * i)] [.pt b13 [.int .i64 (wideR r qx).radius, .int .i64 r.unit, .int .i64 (wideR r qx).clicks, .int .i64 r.total, .slice x1.a1 r.group.length x1.c1, .slice x1.a2 r.drifts.length x1.c2, .slice x1.a3 r.first.length x1.c3, .slice x1.a4 r.next.length x1.c4] 25, .pt b14 [.int .i64 (fineR r).radius, .int .i64 r.unit, .int .i64 (fineR r).clicks, .int .i64 r.total, .slice x2.a1 r.group.length x2.c1, .slice x2.a2 r.drifts.length x2.c2, .slice x2.a3 r.first.length x2.c3, .slice x2.a4 r.next.length x2.c4] 25, .pt b15 [.int .i64 p2.miss, .int .i64 p2.click, .int .i64 p2.wait, .int .i64 p2.waits] 27, un x1.K, un x2.K, .pt b9 [.int .i64 r.radius, .int .i64 r.unit, .int .i64 r.clicks, .int .i64 r.total, .slice (some ⟨bgr, ogr, none⟩) r.group.length cgr, .slice (some ⟨bdr, odr, none⟩) r.drifts.length cdr, .slice (some ⟨bfr, ofr, none⟩) r.first.length cfr, .slice (some ⟨bnr, onr, none⟩) r.next.length cnr] 25, .pt b10 [.int .i64 p.miss, .int .i64 p.click, .int .i64 p.wait, .int .i64 p.waits] 27, un Lr, .ow vw 64 2 5 (spC ws)] [.pt g (spC l ++ spare) 64] (Sp.cons (by repeat constructor) (Sp.refl _)) (Sp.cons (by repeat constructor) (by repeat (first | exact Sp.nil | exact Sp.refl _ | refine Sp.cons (by repeat constructor) ?_))) (by kernel_rfl) (by kernel_rfl) (by kernel_rfl) fun K1 hK1 => ?_
    ((iterate 2 refine qf_pure tabOk rfl rfl rfl ?_))
    refine qf_index tabOk rfl rfl rfl rfl rfl (by omega) (by omega) ?_
    (refine qf_pure tabOk rfl rfl rfl ?_)
    refine qf_load1 tabOk rfl rfl rfl (fun w hs => (cellsS (hs.blk (b := g) (by repeat first | exact .head _ | refine .tail _ ?_)) i hil).1) ?_
    (refine qf_pure tabOk rfl rfl rfl ?_)
    refine qf_call (β := Int) (ψ := fun x v => v = .int .i64 x ∧ 0 ≤ x ∧ x ≤ 3 - 1) (L' := fun _ => [dkP (.slice a2 n2 c2) b2 (5 + 2 * i + 1)]) tabOk [dkP (.slice a2 n2 c2) b2 (5 + 2 * i)] _ (fun x => x = b2) rfl rfl rfl rfl (Sp.cons (by repeat constructor) (Sp.refl _)) (fun x hx => ⟨_, .head _, hx⟩) (fun w' hs => drw0 hbyb2 hs (by omega) (by omega)) ?_; rintro u _ ⟨rfl, hu⟩
    (refine qf_ar tabOk rfl rfl rfl rfl (by omega) (by omega) ?_)
    refine qf_index tabOk rfl rfl rfl rfl rfl (by omega) (by omega) ?_
    (refine qf_pure tabOk rfl rfl rfl ?_; refine qf_nil ?_)
    refine hK1 _ _ [.pt g (spC l ++ spare) 64, dkP (.slice a2 n2 c2) b2 (5 + 2 * i + 1)] (Sp.cons (by repeat constructor) (Sp.cons (by repeat constructor) (by repeat (first | exact Sp.nil | exact Sp.refl _ | refine Sp.cons (by repeat constructor) ?_)))) ?_
    refine qf_store1 tabOk rfl rfl rfl rfl (by repeat constructor) (by have := spC_length l; simp; omega) ?_
    rw [show 0 + (i : Int).toNat * 2 + 0 = 0 + i * 2 + 0 by omega, setS0 l spare i hil]
    (refine qf_nil ?_)
    have hil2 : i < (l.set i (l[i].1 - u, l[i].2)).length := by simp; exact hil
    have hge : (l.set i (l[i].1 - u, l[i].2))[i] = (l[i].1 - u, l[i].2) := by simp
    have hlen52 : (l.set i (l[i].1 - u, l[i].2)).length = 5 := by simp [hlen5]
    refine q_drawS2 10 _ [dkP (.slice a2 n2 c2) b2 (5 + 2 * i + 1)] [.pt b13 [.int .i64 (wideR r qx).radius, .int .i64 r.unit, .int .i64 (wideR r qx).clicks, .int .i64 r.total, .slice x1.a1 r.group.length x1.c1, .slice x1.a2 r.drifts.length x1.c2, .slice x1.a3 r.first.length x1.c3, .slice x1.a4 r.next.length x1.c4] 25, .pt b14 [.int .i64 (fineR r).radius, .int .i64 r.unit, .int .i64 (fineR r).clicks, .int .i64 r.total, .slice x2.a1 r.group.length x2.c1, .slice x2.a2 r.drifts.length x2.c2, .slice x2.a3 r.first.length x2.c3, .slice x2.a4 r.next.length x2.c4] 25, .pt b15 [.int .i64 p2.miss, .int .i64 p2.click, .int .i64 p2.wait, .int .i64 p2.waits] 27, un x1.K, un x2.K, .pt b9 [.int .i64 r.radius, .int .i64 r.unit, .int .i64 r.clicks, .int .i64 r.total, .slice (some ⟨bgr, ogr, none⟩) r.group.length cgr, .slice (some ⟨bdr, odr, none⟩) r.drifts.length cdr, .slice (some ⟨bfr, ofr, none⟩) r.first.length cfr, .slice (some ⟨bnr, onr, none⟩) r.next.length cnr] 25, .pt b10 [.int .i64 p.miss, .int .i64 p.click, .int .i64 p.wait, .int .i64 p.waits] 27, un Lr, .ow vw 64 2 5 (spC ws)] [.pt g (spC (l.set i (l[i].1 - u, l[i].2)) ++ spare) 64] (Sp.cons (by repeat constructor) (Sp.refl _)) (Sp.cons (by repeat constructor) (by repeat (first | exact Sp.nil | exact Sp.refl _ | refine Sp.cons (by repeat constructor) ?_))) (by kernel_rfl) (by kernel_rfl) (by kernel_rfl) fun K1 hK1 => ?_
    ((iterate 2 refine qf_pure tabOk rfl rfl rfl ?_))
    refine qf_index tabOk rfl rfl rfl rfl rfl (by omega) (by omega) ?_
    (refine qf_pure tabOk rfl rfl rfl ?_)
    refine qf_load1 tabOk rfl rfl rfl (fun w hs => (cellsS (hs.blk (b := g) (by repeat first | exact .head _ | refine .tail _ ?_)) i hil2).2) ?_
    rw [hge]
    (refine qf_pure tabOk rfl rfl rfl ?_)
    refine qf_call (β := Int) (ψ := fun x v => v = .int .i64 x ∧ 0 ≤ x ∧ x ≤ 3 - 1) (L' := fun _ => [dkP (.slice a2 n2 c2) b2 (5 + 2 * i + 1 + 1)]) tabOk [dkP (.slice a2 n2 c2) b2 (5 + 2 * i + 1)] _ (fun x => x = b2) rfl rfl rfl rfl (Sp.cons (by repeat constructor) (Sp.refl _)) (fun x hx => ⟨_, .head _, hx⟩) (fun w' hs => drw0 hbyb2 hs (by omega) (by omega)) ?_; rintro v _ ⟨rfl, hv⟩
    (refine qf_ar tabOk rfl rfl rfl rfl (by omega) (by omega) ?_)
    refine qf_index tabOk rfl rfl rfl rfl rfl (by omega) (by omega) ?_
    (refine qf_pure tabOk rfl rfl rfl ?_; refine qf_nil ?_)
    refine hK1 _ _ [.pt g (spC (l.set i (l[i].1 - u, l[i].2)) ++ spare) 64, dkP (.slice a2 n2 c2) b2 (5 + 2 * i + 1 + 1)] (Sp.cons (by repeat constructor) (Sp.cons (by repeat constructor) (by repeat (first | exact Sp.nil | exact Sp.refl _ | refine Sp.cons (by repeat constructor) ?_)))) ?_
    refine qf_store1 tabOk rfl rfl rfl rfl (by repeat constructor) (by have := spC_length (l.set i (l[i].1 - u, l[i].2)); simp at this ⊢; omega) ?_
    rw [show 0 + (i : Int).toNat * 2 + 1 = 0 + i * 2 + 1 by omega, setS1 _ spare i hil2, hge, List.set_set]
    (refine qf_nil ?_; refine q_blk ?_; refine q_region ?_; refine ql_ar tabOk rfl rfl rfl rfl (by omega) (by omega) ?_; refine ql_pure tabOk rfl rfl ?_; refine q_nil ?_)
    have e5 : 5 + 2 * (i + 1) = 5 + 2 * i + 1 + 1 := by omega
    exact hK2 (i + 1, l.set i (l[i].1 - u, l[i].2 + v)) _ _ ⟨by simp only; omega, hl.step hi5 u v (by omega) (by omega) _ (by rw [← hli])⟩ (by simp only; omega) ⟨rfl, rfl, rfl, rfl, rfl, rfl, rfl, rfl, rfl, rfl, rfl, trivial⟩ (by simp only [e5]; repeat (first | exact Sp.nil | exact Sp.refl _ | refine Sp.cons (by repeat constructor) ?_))
  obtain rfl : i = 5 := by omega
  clear hc
  have hwt := hl.ok hws
  have hrl : ∀ w' R, Sat w M0 (R ++ [.pt g (spC l ++ spare) 64]) w' → RdS w' 0 w'.heap.size (.slice (some ⟨g, 0, none⟩) 5 cap) l := fun w' R hs => by
    have hb : Blk w' g (spC l ++ spare) 64 := hs.all (.pt g (spC l ++ spare) 64) (List.mem_append_right _ (.head _))
    exact blk_rdS hb hl.1.symm trivial
  have hcw : -(wideR r qx).clicks ≤ ck ∧ ck ≤ (wideR r qx).clicks := hcr
  have v1 := expV_bd hlow ck
  have v2 := expV_bd hwL ck
  have v3 := facR_bd hR (worstL r ws ck) ck
  have v4 := facR_bd hR (worstL r l ck) ck
  rw [← robQ_eq r hws.ok ck] at v3
  rw [← robQ_eq r hwt ck] at v4
  obtain ⟨m, hm, hm1, hm2, _⟩ := best_of hlow
  obtain ⟨m', hm', hm1', hm2', _⟩ := best_of hfL
  have v5 := expV_bd hlow m
  have v6 := expV_bd hfL m'
  have z1 : lessB (expV r ck) (expV (wideR r qx) ck) = false := expV_wide hlow hwL rfl rfl rfl rfl rfl ck (fun st _ => miss_wide (r' := wideR r qx) hR rfl rfl (show r.radius ≤ r.radius + qx by omega) _ _)
  have z2 : lessB (robQ r l ck) (robQ r ws ck) = false := by
    rw [robQ_eq r hws.ok ck, robQ_eq r hwt ck, fac_less hR, decide_eq_false]
    · rfl
    · have := worst_wider r hws.ok hwt ck hl.wide
      omega
  have z3 : lessB (expV r m) (expV (fineR r) m') = false := by
    have h1 := hm2' m (by show -(r.clicks + 1) ≤ m ∧ m ≤ r.clicks + 1; omega)
    rw [exp_fine hR (by omega), exp_fine hR (by omega)] at h1
    rw [expV_fineR hR (by omega), expV_less hlow, decide_eq_false]
    · rfl
    · omega
  have y1 : overB (planV r p) (planV (wideR r qx) p2) = false := plan_sim hR hwR hp hp2R (sim_wide hR qx (by omega) (e := q4.toNat) (by omega) (by omega) (by omega) (by omega)) rfl (by omega)
  have y2 : overB (planV r p) (planV (fineR r) p) = false := plan_sim hR hfR hp hp (sim_fine hp) rfl (by omega)
  have u1 := planV_bd hlow hp
  have u2 := planV_bd hwL hp2R
  have u3 := planV_bd hfL hp
  (refine q_exit _ rfl ?_; refine q_seq ?_; refine q_region ?_; refine ql_loadAB tabOk rfl rfl rfl (by repeat first | exact .head _ | refine .tail _ ?_) (by rfl) (by rfl) ?_; refine ql_pure tabOk rfl rfl ?_)
  refine ql_callv (val := .tuple #[.agg #[.int .i64 (expV r ck).1, .int .i64 (expV r ck).2], .int .i64 0]) tabOk rfl rfl rfl rfl (fun w hs => ?_) ?_; exact expd_ok w [.int .i64 r.radius, .int .i64 r.unit, .int .i64 r.clicks, .int .i64 r.total, .slice (some ⟨bgr, ogr, none⟩) r.group.length cgr, .slice (some ⟨bdr, odr, none⟩) r.drifts.length cdr, .slice (some ⟨bfr, ofr, none⟩) r.first.length cfr, .slice (some ⟨bnr, onr, none⟩) r.next.length cnr] r ck (ownr.at hs (by repeat first | exact .head _ | refine .tail _ ?_)) mader.small hR hcr
  (refine ql_pure tabOk rfl rfl ?_; (iterate 2 refine ql_ext tabOk rfl rfl rfl ?_))
  refine ql_alloc zero42 rfl (fun b18 => ?_)
  (refine ql_setA tabOk rfl rfl rfl rfl rfl (by repeat constructor) rfl ?_; refine ql_pure tabOk rfl rfl ?_; refine q_nil ?_; refine q_seq ?_; refine q_region ?_; refine ql_loadAB tabOk rfl rfl rfl (by repeat first | exact .head _ | refine .tail _ ?_) (by rfl) (by rfl) ?_; refine ql_pure tabOk rfl rfl ?_)
  refine ql_callv (val := .tuple #[.agg #[.int .i64 (expV (wideR r qx) ck).1, .int .i64 (expV (wideR r qx) ck).2], .int .i64 0]) tabOk rfl rfl rfl rfl (fun w hs => ?_) ?_; exact expd_ok w [.int .i64 (wideR r qx).radius, .int .i64 r.unit, .int .i64 (wideR r qx).clicks, .int .i64 r.total, .slice x1.a1 r.group.length x1.c1, .slice x1.a2 r.drifts.length x1.c2, .slice x1.a3 r.first.length x1.c3, .slice x1.a4 r.next.length x1.c4] (wideR r qx) ck (x1.at2 (wideR r qx) rfl rfl rfl rfl hs (by repeat first | exact .head _ | refine .tail _ ?_)) hwS hwR hcw
  (refine ql_pure tabOk rfl rfl ?_; (iterate 2 refine ql_ext tabOk rfl rfl rfl ?_))
  refine ql_alloc zero42 rfl (fun b20 => ?_)
  (refine ql_setA tabOk rfl rfl rfl rfl rfl (by repeat constructor) rfl ?_; refine ql_pure tabOk rfl rfl ?_; refine q_nil ?_; refine q_seq ?_; refine q_region ?_; refine ql_loadAB tabOk rfl rfl rfl (by repeat first | exact .head _ | refine .tail _ ?_) (by rfl) (by rfl) ?_; (iterate 2 refine ql_pure tabOk rfl rfl ?_))
  refine ql_call (β := Value) (ψ := fun x v => v = .tuple #[x, .agg #[.int .i64 (robQ r ws ck).1, .int .i64 (robQ r ws ck).2], .int .i64 0]) tabOk [] _ M0 rfl rfl rfl rfl (Sp.refl _) (fun _ h => h.elim) (fun w' hs => worst_ok w' 0 w'.heap.size [.int .i64 r.radius, .int .i64 r.unit, .int .i64 r.clicks, .int .i64 r.total, .slice (some ⟨bgr, ogr, none⟩) r.group.length cgr, .slice (some ⟨bdr, odr, none⟩) r.drifts.length cdr, .slice (some ⟨bfr, ofr, none⟩) r.first.length cfr, .slice (some ⟨bnr, onr, none⟩) r.next.length cnr] r vw ws ck (ownr.at hs (by repeat first | exact .head _ | refine .tail _ ?_)) mader.small hR (Sat.rdSp hs (t := 64) (k := 5) (by repeat first | exact .head _ | refine .tail _ ?_) hws.1.symm) hws.ok hcr) ?_
  rintro xw _ rfl
  (refine ql_pure tabOk rfl rfl ?_; (iterate 3 refine ql_ext tabOk rfl rfl rfl ?_))
  refine ql_alloc zero42 rfl (fun b23 => ?_)
  (refine ql_pure tabOk rfl rfl ?_; refine ql_setA tabOk rfl rfl rfl rfl rfl (by repeat constructor) rfl ?_; refine ql_pure tabOk rfl rfl ?_; refine q_nil ?_; refine q_seq ?_; refine q_region ?_; refine ql_loadAB tabOk rfl rfl rfl (by repeat first | exact .head _ | refine .tail _ ?_) (by rfl) (by rfl) ?_; (iterate 2 refine ql_pure tabOk rfl rfl ?_))
  refine ql_call (β := Value) (ψ := fun x v => v = .tuple #[x, .agg #[.int .i64 (robQ r l ck).1, .int .i64 (robQ r l ck).2], .int .i64 0]) tabOk [] _ M0 rfl rfl rfl rfl (Sp.refl _) (fun _ h => h.elim) (fun w' hs => worst_ok w' 0 w'.heap.size [.int .i64 r.radius, .int .i64 r.unit, .int .i64 r.clicks, .int .i64 r.total, .slice (some ⟨bgr, ogr, none⟩) r.group.length cgr, .slice (some ⟨bdr, odr, none⟩) r.drifts.length cdr, .slice (some ⟨bfr, ofr, none⟩) r.first.length cfr, .slice (some ⟨bnr, onr, none⟩) r.next.length cnr] r _ l ck (ownr.at hs (by repeat first | exact .head _ | refine .tail _ ?_)) mader.small hR (hrl w' [] (hs.sp (Sp.cons (by repeat constructor) Sp.nil))) hwt hcr) ?_
  rintro xw2 _ rfl
  (refine ql_pure tabOk rfl rfl ?_; (iterate 3 refine ql_ext tabOk rfl rfl rfl ?_))
  refine ql_alloc zero42 rfl (fun b26 => ?_)
  (refine ql_pure tabOk rfl rfl ?_; refine ql_setA tabOk rfl rfl rfl rfl rfl (by repeat constructor) rfl ?_; refine ql_pure tabOk rfl rfl ?_; refine q_nil ?_; refine q_seq ?_; refine q_region ?_; refine ql_loadAB tabOk rfl rfl rfl (by repeat first | exact .head _ | refine .tail _ ?_) (by rfl) (by rfl) ?_)
  refine ql_callv (val := .tuple #[.int .i64 m, .agg #[.int .i64 (expV r m).1, .int .i64 (expV r m).2], .int .i64 0]) tabOk rfl rfl rfl rfl (fun w hs => ?_) ?_; exact best_ok w [.int .i64 r.radius, .int .i64 r.unit, .int .i64 r.clicks, .int .i64 r.total, .slice (some ⟨bgr, ogr, none⟩) r.group.length cgr, .slice (some ⟨bdr, odr, none⟩) r.drifts.length cdr, .slice (some ⟨bfr, ofr, none⟩) r.first.length cfr, .slice (some ⟨bnr, onr, none⟩) r.next.length cnr] r m (ownr.at hs (by repeat first | exact .head _ | refine .tail _ ?_)) mader.small hm
  (refine ql_pure tabOk rfl rfl ?_; (iterate 3 refine ql_ext tabOk rfl rfl rfl ?_))
  refine ql_alloc zero42 rfl (fun b29 => ?_)
  (refine ql_pure tabOk rfl rfl ?_; refine ql_setA tabOk rfl rfl rfl rfl rfl (by repeat constructor) rfl ?_; refine ql_pure tabOk rfl rfl ?_; refine q_nil ?_; refine q_seq ?_; refine q_region ?_; refine ql_loadAB tabOk rfl rfl rfl (by repeat first | exact .head _ | refine .tail _ ?_) (by rfl) (by rfl) ?_)
  refine ql_callv (val := .tuple #[.int .i64 m', .agg #[.int .i64 (expV (fineR r) m').1, .int .i64 (expV (fineR r) m').2], .int .i64 0]) tabOk rfl rfl rfl rfl (fun w hs => ?_) ?_; exact best_ok w [.int .i64 (fineR r).radius, .int .i64 r.unit, .int .i64 (fineR r).clicks, .int .i64 r.total, .slice x2.a1 r.group.length x2.c1, .slice x2.a2 r.drifts.length x2.c2, .slice x2.a3 r.first.length x2.c3, .slice x2.a4 r.next.length x2.c4] (fineR r) m' (x2.at2 (fineR r) rfl rfl rfl rfl hs (by repeat first | exact .head _ | refine .tail _ ?_)) hfS hm'
  (refine ql_pure tabOk rfl rfl ?_; (iterate 3 refine ql_ext tabOk rfl rfl rfl ?_))
  refine ql_alloc zero42 rfl (fun b32 => ?_)
  (refine ql_pure tabOk rfl rfl ?_; refine ql_setA tabOk rfl rfl rfl rfl rfl (by repeat constructor) rfl ?_; refine ql_pure tabOk rfl rfl ?_; refine q_nil ?_; (iterate 2 refine q_seq ?_); refine q_region ?_; refine ql_pure tabOk rfl rfl ?_; refine ql_neqF tabOk rfl rfl rfl (by omega) ?_; refine ql_pure tabOk rfl rfl ?_; refine ql_gyes rfl ?_; refine ql_pure tabOk rfl rfl ?_; refine ql_gyes rfl ?_; refine ql_neqF tabOk rfl rfl rfl (by omega) ?_; (iterate 2 refine ql_pure tabOk rfl rfl ?_); refine ql_gyes rfl ?_; refine ql_pure tabOk rfl rfl ?_; refine ql_gyes rfl ?_; refine ql_neqF tabOk rfl rfl rfl (by omega) ?_; (iterate 2 refine ql_pure tabOk rfl rfl ?_); refine ql_gyes rfl ?_; refine ql_pure tabOk rfl rfl ?_; refine ql_gyes rfl ?_; refine ql_neqF tabOk rfl rfl rfl (by omega) ?_; (iterate 2 refine ql_pure tabOk rfl rfl ?_); refine ql_gyes rfl ?_; refine ql_pure tabOk rfl rfl ?_; refine ql_gyes rfl ?_; refine ql_neqF tabOk rfl rfl rfl (by omega) ?_; (iterate 2 refine ql_pure tabOk rfl rfl ?_); refine ql_gyes rfl ?_; refine ql_pure tabOk rfl rfl ?_; refine ql_gyes rfl ?_; refine ql_neqF tabOk rfl rfl rfl (by omega) ?_; (iterate 2 refine ql_pure tabOk rfl rfl ?_); refine ql_gyes rfl ?_; refine ql_loadAB tabOk rfl rfl rfl (by repeat first | exact .head _ | refine .tail _ ?_) (by rfl) (by rfl) ?_; refine ql_gyes rfl ?_)
  refine ql_callv (val := .bool true) tabOk rfl rfl rfl rfl (fun w hs => ?_) ?_; exact fair_ca (expV r ck) 5 w (by omega) (by omega) (by omega) (by omega) (by omega)
  (refine ql_gyes rfl ?_; (iterate 3 refine ql_pure tabOk rfl rfl ?_); refine ql_gyes rfl ?_; refine ql_loadAB tabOk rfl rfl rfl (by repeat first | exact .head _ | refine .tail _ ?_) (by rfl) (by rfl) ?_; refine ql_gyes rfl ?_)
  refine ql_callv (val := .bool true) tabOk rfl rfl rfl rfl (fun w hs => ?_) ?_; exact fair_ca (expV (wideR r qx) ck) 5 w (by omega) (by omega) (by omega) (by omega) (by omega)
  (refine ql_gyes rfl ?_; (iterate 3 refine ql_pure tabOk rfl rfl ?_); refine ql_gyes rfl ?_; refine ql_loadAB tabOk rfl rfl rfl (by repeat first | exact .head _ | refine .tail _ ?_) (by rfl) (by rfl) ?_; refine ql_gyes rfl ?_)
  refine ql_callv (val := .bool true) tabOk rfl rfl rfl rfl (fun w hs => ?_) ?_; exact fair_ca (robQ r ws ck) 5 w (by omega) (by omega) (by omega) (by omega) (by omega)
  (refine ql_gyes rfl ?_; (iterate 3 refine ql_pure tabOk rfl rfl ?_); refine ql_gyes rfl ?_; refine ql_loadAB tabOk rfl rfl rfl (by repeat first | exact .head _ | refine .tail _ ?_) (by rfl) (by rfl) ?_; refine ql_gyes rfl ?_)
  refine ql_callv (val := .bool true) tabOk rfl rfl rfl rfl (fun w hs => ?_) ?_; exact fair_ca (robQ r l ck) 5 w (by omega) (by omega) (by omega) (by omega) (by omega)
  (refine ql_gyes rfl ?_; (iterate 3 refine ql_pure tabOk rfl rfl ?_); refine ql_gyes rfl ?_; refine ql_loadAB tabOk rfl rfl rfl (by repeat first | exact .head _ | refine .tail _ ?_) (by rfl) (by rfl) ?_; refine ql_gyes rfl ?_)
  refine ql_callv (val := .bool true) tabOk rfl rfl rfl rfl (fun w hs => ?_) ?_; exact fair_ca (expV r m) 5 w (by omega) (by omega) (by omega) (by omega) (by omega)
  (refine ql_gyes rfl ?_; (iterate 3 refine ql_pure tabOk rfl rfl ?_); refine ql_gyes rfl ?_; refine ql_loadAB tabOk rfl rfl rfl (by repeat first | exact .head _ | refine .tail _ ?_) (by rfl) (by rfl) ?_; refine ql_gyes rfl ?_)
  refine ql_callv (val := .bool true) tabOk rfl rfl rfl rfl (fun w hs => ?_) ?_; exact fair_ca (expV (fineR r) m') 5 w (by omega) (by omega) (by omega) (by omega) (by omega)
  (refine ql_gyes rfl ?_; (iterate 3 refine ql_pure tabOk rfl rfl ?_); refine ql_gyes rfl ?_; refine ql_loadAB tabOk rfl rfl rfl (by repeat first | exact .head _ | refine .tail _ ?_) (by rfl) (by rfl) ?_; refine ql_gyes rfl ?_; refine ql_loadAB tabOk rfl rfl rfl (by repeat first | exact .head _ | refine .tail _ ?_) (by rfl) (by rfl) ?_; refine ql_gyes rfl ?_)
  refine ql_callv (val := .bool false) tabOk rfl rfl rfl rfl (fun w hs => ?_) ?_; exact by have := lessL_ca (expV r ck) (expV (wideR r qx) ck) w (expV_fine r hR ck) (expV_fine _ hwR ck); rw [z1] at this; exact this
  ((iterate 2 refine ql_pure tabOk rfl rfl ?_); refine ql_gyes rfl ?_; refine ql_loadAB tabOk rfl rfl rfl (by repeat first | exact .head _ | refine .tail _ ?_) (by rfl) (by rfl) ?_; refine ql_gyes rfl ?_; refine ql_loadAB tabOk rfl rfl rfl (by repeat first | exact .head _ | refine .tail _ ?_) (by rfl) (by rfl) ?_; refine ql_gyes rfl ?_)
  refine ql_callv (val := .bool false) tabOk rfl rfl rfl rfl (fun w hs => ?_) ?_; exact by have := lessL_ca (robQ r l ck) (robQ r ws ck) w (robQ_fine r hR l hwt ck) (robQ_fine r hR ws hws.ok ck); rw [z2] at this; exact this
  ((iterate 2 refine ql_pure tabOk rfl rfl ?_); refine ql_gyes rfl ?_; refine ql_loadAB tabOk rfl rfl rfl (by repeat first | exact .head _ | refine .tail _ ?_) (by rfl) (by rfl) ?_; refine ql_gyes rfl ?_; refine ql_loadAB tabOk rfl rfl rfl (by repeat first | exact .head _ | refine .tail _ ?_) (by rfl) (by rfl) ?_; refine ql_gyes rfl ?_)
  refine ql_callv (val := .bool false) tabOk rfl rfl rfl rfl (fun w hs => ?_) ?_; exact by have := lessL_ca (expV r m) (expV (fineR r) m') w (expV_fine r hR m) (expV_fine _ hfR m'); rw [z3] at this; exact this
  (refine ql_pure tabOk rfl rfl ?_; refine q_nil ?_; refine q_cond_false rfl ?_; refine q_skip ?_; refine q_seq ?_; refine q_region ?_; (iterate 2 refine ql_loadAB tabOk rfl rfl rfl (by repeat first | exact .head _ | refine .tail _ ?_) (by rfl) (by rfl) ?_))
  refine ql_callv (val := .tuple #[.agg #[.int .i64 (planV r p).1, .int .i64 (planV r p).2], .bool true]) tabOk rfl rfl rfl rfl (fun w hs => ?_) ?_; exact planned_ca w [.int .i64 r.radius, .int .i64 r.unit, .int .i64 r.clicks, .int .i64 r.total, .slice (some ⟨bgr, ogr, none⟩) r.group.length cgr, .slice (some ⟨bdr, odr, none⟩) r.drifts.length cdr, .slice (some ⟨bfr, ofr, none⟩) r.first.length cfr, .slice (some ⟨bnr, onr, none⟩) r.next.length cnr] r p (ownr.at hs (by repeat first | exact .head _ | refine .tail _ ?_)) mader.small hlow hp
  (refine ql_pure tabOk rfl rfl ?_; (iterate 2 refine ql_ext tabOk rfl rfl rfl ?_))
  refine ql_alloc zero42 rfl (fun b34 => ?_)
  (refine ql_setA tabOk rfl rfl rfl rfl rfl (by repeat constructor) rfl ?_; refine ql_pure tabOk rfl rfl ?_; refine q_nil ?_; refine q_seq ?_; refine q_region ?_; (iterate 2 refine ql_loadAB tabOk rfl rfl rfl (by repeat first | exact .head _ | refine .tail _ ?_) (by rfl) (by rfl) ?_))
  refine ql_callv (val := .tuple #[.agg #[.int .i64 (planV (wideR r qx) p2).1, .int .i64 (planV (wideR r qx) p2).2], .bool true]) tabOk rfl rfl rfl rfl (fun w hs => ?_) ?_; exact planned_ca w [.int .i64 (wideR r qx).radius, .int .i64 r.unit, .int .i64 (wideR r qx).clicks, .int .i64 r.total, .slice x1.a1 r.group.length x1.c1, .slice x1.a2 r.drifts.length x1.c2, .slice x1.a3 r.first.length x1.c3, .slice x1.a4 r.next.length x1.c4] (wideR r qx) p2 (x1.at2 (wideR r qx) rfl rfl rfl rfl hs (by repeat first | exact .head _ | refine .tail _ ?_)) hwS hwL hp2R
  (refine ql_pure tabOk rfl rfl ?_; (iterate 2 refine ql_ext tabOk rfl rfl rfl ?_))
  refine ql_alloc zero42 rfl (fun b36 => ?_)
  (refine ql_setA tabOk rfl rfl rfl rfl rfl (by repeat constructor) rfl ?_; refine ql_pure tabOk rfl rfl ?_; refine q_nil ?_; refine q_seq ?_; refine q_region ?_; (iterate 2 refine ql_loadAB tabOk rfl rfl rfl (by repeat first | exact .head _ | refine .tail _ ?_) (by rfl) (by rfl) ?_))
  refine ql_callv (val := .tuple #[.agg #[.int .i64 (planV (fineR r) p).1, .int .i64 (planV (fineR r) p).2], .bool true]) tabOk rfl rfl rfl rfl (fun w hs => ?_) ?_; exact planned_ca w [.int .i64 (fineR r).radius, .int .i64 r.unit, .int .i64 (fineR r).clicks, .int .i64 r.total, .slice x2.a1 r.group.length x2.c1, .slice x2.a2 r.drifts.length x2.c2, .slice x2.a3 r.first.length x2.c3, .slice x2.a4 r.next.length x2.c4] (fineR r) p (x2.at2 (fineR r) rfl rfl rfl rfl hs (by repeat first | exact .head _ | refine .tail _ ?_)) hfS hfL hp
  (refine ql_pure tabOk rfl rfl ?_; (iterate 2 refine ql_ext tabOk rfl rfl rfl ?_))
  refine ql_alloc zero42 rfl (fun b38 => ?_)
  (refine ql_setA tabOk rfl rfl rfl rfl rfl (by repeat constructor) rfl ?_; refine ql_pure tabOk rfl rfl ?_; refine q_nil ?_; refine q_seq ?_; refine q_region ?_; (iterate 2 refine ql_pure tabOk rfl rfl ?_); refine ql_gyes rfl ?_; (iterate 3 refine ql_pure tabOk rfl rfl ?_); refine ql_gyes rfl ?_; (iterate 3 refine ql_pure tabOk rfl rfl ?_); refine ql_gyes rfl ?_; refine ql_loadAB tabOk rfl rfl rfl (by repeat first | exact .head _ | refine .tail _ ?_) (by rfl) (by rfl) ?_; refine ql_gyes rfl ?_; refine ql_loadAB tabOk rfl rfl rfl (by repeat first | exact .head _ | refine .tail _ ?_) (by rfl) (by rfl) ?_; refine ql_gyes rfl ?_)
  refine ql_callv (val := .bool false) tabOk rfl rfl rfl rfl (fun w hs => ?_) ?_; exact by have := over_ca (planV r p) (planV (wideR r qx) p2) w (by omega) (by omega); rw [y1] at this; exact this
  (refine ql_gyes rfl ?_; (iterate 3 refine ql_pure tabOk rfl rfl ?_); refine ql_gyes rfl ?_; refine ql_loadAB tabOk rfl rfl rfl (by repeat first | exact .head _ | refine .tail _ ?_) (by rfl) (by rfl) ?_; refine ql_gyes rfl ?_; refine ql_loadAB tabOk rfl rfl rfl (by repeat first | exact .head _ | refine .tail _ ?_) (by rfl) (by rfl) ?_; refine ql_gyes rfl ?_)
  refine ql_callv (val := .bool false) tabOk rfl rfl rfl rfl (fun w hs => ?_) ?_; exact by have := over_ca (planV r p) (planV (fineR r) p) w (by omega) (by omega); rw [y2] at this; exact this
  (refine ql_gyes rfl ?_; (iterate 3 refine ql_pure tabOk rfl rfl ?_); refine ql_gyes rfl ?_)
  refine ql_callv (val := .bool true) tabOk rfl rfl rfl rfl (fun w hs => ?_) ?_; exact awake_ca w
  ((iterate 2 refine ql_pure tabOk rfl rfl ?_); refine q_nil ?_; refine q_ret ?_)
  refine q_fin tabOk rfl (by repeat (first | exact RVs.nil | apply RVs.tmp rfl | apply RVs.cellA rfl rfl (by repeat first | exact .head _ | refine .tail _ ?_) (by rfl) | apply RVs.cell1 rfl rfl (by repeat first | exact .head _ | refine .tail _ ?_))) fun w hs => ?_
  exact ⟨rfl, hs.chg0⟩
end Go.Proofs.Ytohlillcaadidaa
