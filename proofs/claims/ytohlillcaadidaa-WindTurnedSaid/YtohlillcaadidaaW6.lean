/- My texts L9, joined: a claim takes at most 60 files. -/
import Derived.Test.YtohlillcaadidaaW5

/- The walk of WindTurned. -/
namespace Go.Proofs.Ytohlillcaadidaa
open Go Go.Eng

theorem xs_len {x : MdS} (hx : x.xs.map (·.2) = x.r.next) : x.xs.length = x.r.next.length := by rw [← hx]; simp
theorem xs_row {x : MdS} (hx : x.xs.map (·.2) = x.r.next) (i : Nat) (hi : i < x.xs.length) : x.r.next.getD i [] = x.xs[i].2 := by
  rw [← hx]
  simp [List.getD_eq_getElem?_getD, hi]
theorem turn_rg {w0 w : World} {M : Nat → Prop} {H : List Ck} {r : Rg} {vg vd vf vn : Value} {xs : List (Value × List Int)} (hx : xs.map (·.2) = r.next) (hs : Sat w0 M H w) (h1 : Ck.ow vg 3 1 r.group.length (ints r.group.reverse) ∈ H) (h2 : Ck.ow vd 3 1 r.drifts.length (ints (r.drifts.map fun d => d * -1)) ∈ H) (h3 : Ck.ow vf 3 1 r.first.length (ints r.first) ∈ H) (h4 : Ck.ow vn 22 1 r.next.length (xs.map (·.1)) ∈ H) (h5 : un (rowsO xs) ∈ H) : RgC w [.int .i64 r.radius, .int .i64 r.unit, .int .i64 r.clicks, .int .i64 r.total, vg, vd, vf, vn] (turnR r) := by
  refine cp_rg (r := turnR r) (xs := xs) hx (fun c hc => ?_)
  have e1 : (turnR r).group.length = r.group.length := by simp [turnR]
  have e2 : (turnR r).drifts.length = r.drifts.length := by simp [turnR]
  unfold cpK at hc
  rw [e1, e2] at hc
  simp only [List.mem_cons, List.not_mem_nil, or_false] at hc
  rcases hc with rfl | rfl | rfl | rfl | rfl
  · exact hs.mem h1
  · exact hs.mem h2
  · exact hs.mem h3
  · exact hs.mem h4
  · exact hs.mem h5
theorem nm_rg {w0 w : World} {M : Nat → Prop} {H : List Ck} {r : Rg} {D F : List Int} {Y : List (Value × List Int)} {vg vd vf vn : Value} (hD : D.length = r.drifts.length) (hF : F.length = r.first.length) (hY : Y.length = r.next.length) (hs : Sat w0 M H w) (h1 : Ck.ow vg 3 1 r.group.length (ints r.group) ∈ H) (h2 : Ck.ow vd 3 1 r.drifts.length (ints D) ∈ H) (h3 : Ck.ow vf 3 1 r.first.length (ints F) ∈ H) (h4 : Ck.ow vn 22 1 r.next.length (Y.map (·.1)) ∈ H) (h5 : un (rowsO Y) ∈ H) : RgC w [.int .i64 r.radius, .int .i64 r.unit, .int .i64 r.clicks, .int .i64 r.total, vg, vd, vf, vn] (nmR r D F Y) := by
  refine cp_rg (r := nmR r D F Y) (xs := Y) rfl (fun c hc => ?_)
  have e1 : (nmR r D F Y).drifts.length = r.drifts.length := hD
  have e2 : (nmR r D F Y).first.length = r.first.length := hF
  have e3 : (nmR r D F Y).next.length = r.next.length := by simp [nmR, hY]
  unfold cpK at hc
  rw [e1, e2, e3] at hc
  simp only [List.mem_cons, List.not_mem_nil, or_false] at hc
  rcases hc with rfl | rfl | rfl | rfl | rfl
  · exact hs.mem h1
  · exact hs.mem h2
  · exact hs.mem h3
  · exact hs.mem h4
  · exact hs.mem h5
def turnS (l : List Int) (s : Nat) : List Int := (l.take s).map (fun d => d * -1) ++ l.drop s
theorem turnS_0 (l : List Int) : turnS l 0 = l := by simp [turnS]
theorem turnS_all (l : List Int) : turnS l l.length = l.map (fun d => d * -1) := by simp [turnS]
theorem turnS_length (l : List Int) (s : Nat) : (turnS l s).length = l.length := by simp [turnS]; omega
theorem turnS_get (l : List Int) (s : Nat) (h : s < l.length) : (turnS l s)[s]'(by rw [turnS_length]; exact h) = l[s] := by
  have hm : min s l.length = s := by omega
  simp only [turnS]
  rw [List.getElem_append_right (by simp; omega)]
  simp [hm]
theorem turnS_set (l : List Int) (s : Nat) (h : s < l.length) : (turnS l s).set s (l[s] * -1) = turnS l (s + 1) := by
  have hm : min s l.length = s := by omega
  unfold turnS
  rw [List.set_append_right _ _ (by simp; omega), List.take_succ_eq_append_getElem h, List.drop_eq_getElem_cons h]
  simp only [List.length_map, List.length_take, hm, Nat.sub_self, List.set_cons_zero, List.map_append, List.map_cons, List.map_nil, List.append_assoc, List.cons_append, List.nil_append]

set_option maxRecDepth 40000 in
set_option maxHeartbeats 100000000 in
theorem windTurned_ca (w : World) (a : Option Addr) (n c : Nat) (a2 : Option Addr) (n2 c2 : Nat) (click : Int) (hbyb1 : DkB w 0 w.heap.size (.slice a n c)) (hbyb2 : DkB w 0 w.heap.size (.slice a2 n2 c2)) :
    Ca Try.prog 9 [.slice a n c, .slice a2 n2 c2, .int .i64 click] w fun r w' => r = .bool true ∧ Chg [] w w' := by
  refine q_of (Sat.nil w M0) Try.func9 rfl (by simp [Try.ntmps9]) ?_
  (refine q_seq ?_; refine q_region ?_; refine ql_pure tabOk rfl rfl ?_; refine q_nil ?_; refine q_seq ?_; refine q_region ?_; refine ql_pure tabOk rfl rfl ?_)
  refine ql_call (β := Nat) tabOk [] _ M0 rfl rfl rfl rfl (Sp.refl _) (fun _ h => h.elim) (fun w' hs => of_ca w' a n c) ?_
  rintro b1 _ rfl
  (refine ql_pure tabOk rfl rfl ?_)
  refine ql_call (β := Nat) tabOk [] _ M0 rfl rfl rfl rfl (Sp.refl _) (fun _ h => h.elim) (fun w' hs => of_ca w' a2 n2 c2) ?_
  rintro b2 _ rfl
  ((iterate 2 refine ql_pure tabOk rfl rfl ?_); refine q_nil ?_; refine q_seq ?_; refine q_region ?_; refine ql_pure tabOk rfl rfl ?_)
  refine ql_call (β := MdS) (ψ := fun x v => v = .agg x.cs.toArray ∧ x.xs.map (·.2) = x.r.next ∧ MadeR 3 3 3 x.r) (L' := fun x => [un x.K, dkP (.slice a n c) b1 (0 + 100)]) tabOk [dkP (.slice a n c) b1 (0)] _ (fun x => x = b1) rfl rfl rfl rfl (Sp.cons (by repeat constructor) (Sp.refl _)) (fun x hx => ⟨_, .head _, hx⟩) (fun w' hs => made1 (states := 3) (clicks := 3) (side := 3) hbyb1 hs (by omega) (by omega) (by omega) (by omega) (by omega)) ?_; rintro zz _ ⟨rfl, hxzz, madezz⟩; dsimp only [MdS.cs]
  have hR := madezz.right
  have hC := hR.clicks
  have hC3 := madezz.clicks
  have hlow := madezz.low' (by omega)
  have hG := hR.gsum
  skip
  refine ql_alloc zero25 rfl (fun b9 => ?_)
  (refine ql_setA tabOk rfl rfl rfl rfl rfl (by repeat constructor) rfl ?_; refine q_nil ?_; refine q_seq ?_; refine q_region ?_; refine ql_pure tabOk rfl rfl ?_)
  refine ql_call (β := Ru) (ψ := fun p v => v = .agg #[.int .i64 p.miss, .int .i64 p.click, .int .i64 p.wait, .int .i64 p.waits] ∧ (0 ≤ p.miss ∧ p.miss ≤ 390) ∧ (0 ≤ p.click ∧ p.click ≤ 59) ∧ (0 ≤ p.wait ∧ p.wait ≤ 79) ∧ 0 ≤ p.waits ∧ p.waits ≤ 1) (L' := fun _ => [dkP (.slice a n c) b1 (0 + 100 + 4)]) tabOk [dkP (.slice a n c) b1 (0 + 100)] _ (fun x => x = b1) rfl rfl rfl rfl (Sp.cons (by repeat constructor) (Sp.refl _)) (fun x hx => ⟨_, .head _, hx⟩) (fun w' hs => ruled0 (W := 1) (by omega) hbyb1 hs (by omega)) ?_; rintro p _ ⟨rfl, hpm, hpc, hpw, hpn⟩
  have hp : p.Right := Ru.mk_right hpm hpc hpw (by omega)
  skip
  refine ql_alloc zero27 rfl (fun b10 => ?_)
  (refine ql_setA tabOk rfl rfl rfl rfl rfl (by repeat constructor) rfl ?_; refine q_nil ?_; refine q_seq ?_; refine q_region ?_; refine ql_pure tabOk rfl rfl ?_)
  refine ql_call (β := Value × List (Int × Int)) (ψ := fun x v => v = x.1 ∧ BlownW x.2) (L' := fun x => [.ow x.1 64 2 5 (spC x.2), dkP (.slice a n c) b1 (0 + 100 + 4 + 10)]) tabOk [dkP (.slice a n c) b1 (0 + 100 + 4)] _ (fun x => x = b1) rfl rfl rfl rfl (Sp.cons (by repeat constructor) (Sp.refl _)) (fun x hx => ⟨_, .head _, hx⟩) (fun w' hs => blown0 hbyb1 hs (by omega)) ?_; rintro ⟨_, ws⟩ vw ⟨rfl, hws⟩
  dsimp only at hws ⊢
  (refine ql_pure tabOk rfl rfl ?_; refine q_nil ?_; refine q_seq ?_)
  refine q_draw _ [] (Sp.refl _) (by kernel_rfl) (by kernel_rfl) ?_
  ((iterate 2 refine qf_pure tabOk rfl rfl rfl ?_); refine qf_loadB tabOk rfl rfl rfl (by repeat first | exact .head _ | refine .tail _ ?_) (by rfl) ?_; (iterate 2 refine qf_ar tabOk rfl rfl rfl rfl (by omega) (by omega) ?_))
  refine qf_call (β := Int) (ψ := fun x v => v = .int .i64 x ∧ 0 ≤ x ∧ x < 2 * zz.r.clicks + 1) (L' := fun _ => []) tabOk [] _ M0 rfl rfl rfl rfl (Sp.refl _) (fun _ h => h.elim) (fun w' hs => fold0 (click) (2 * zz.r.clicks + 1) w' (by omega) (by omega)) ?_; rintro cc _ ⟨rfl, hcc⟩
  (refine qf_pure tabOk rfl rfl rfl ?_; refine qf_loadB tabOk rfl rfl rfl (by repeat first | exact .head _ | refine .tail _ ?_) (by rfl) ?_; refine qf_ar tabOk rfl rfl rfl rfl (by omega) (by omega) ?_; refine qf_pure tabOk rfl rfl rfl ?_; refine qf_nil ?_; refine q_seq ?_)
  have hcr : -zz.r.clicks ≤ cc - zz.r.clicks ∧ cc - zz.r.clicks ≤ zz.r.clicks := by omega
  obtain ⟨ck, hck⟩ : ∃ z, z = cc - zz.r.clicks := ⟨_, rfl⟩
  rw [← hck] at hcr ⊢
  clear hcc hck
  refine q_keep [(8, .pointer (some ⟨b2, 0, none⟩)), (9, .pointer (some ⟨b9, 0, none⟩)), (10, .pointer (some ⟨b10, 0, none⟩)), (11, vw), (12, .int .i64 ck)] [.pt b9 [.int .i64 zz.r.radius, .int .i64 zz.r.unit, .int .i64 zz.r.clicks, .int .i64 zz.r.total, .slice (some ⟨zz.gb, 0, none⟩) zz.r.group.length zz.gc, .slice (some ⟨zz.db, 0, none⟩) zz.r.drifts.length zz.dc, .slice (some ⟨zz.fb, 0, none⟩) zz.r.first.length zz.fc, .slice (some ⟨zz.nb, 0, none⟩) zz.r.next.length zz.nc] 25, .pt b10 [.int .i64 p.miss, .int .i64 p.click, .int .i64 p.wait, .int .i64 p.waits] 27, un zz.K, .ow vw 64 2 5 (spC ws), dkP (.slice a2 n2 c2) b2 0] ⟨rfl, rfl, rfl, rfl, rfl, trivial⟩ (by repeat (first | exact Sp.nil | exact Sp.refl _ | refine Sp.cons (by repeat constructor) ?_)) ?_
  refine q_cut (σ := Nat × Nat × Cp zz.r × Cp zz.r) (fun ⟨b13, b14, x1, x2⟩ => [(8, .pointer (some ⟨b2, 0, none⟩)), (9, .pointer (some ⟨b9, 0, none⟩)), (10, .pointer (some ⟨b10, 0, none⟩)), (11, vw), (12, .int .i64 ck), (13, .pointer (some ⟨b13, 0, none⟩)), (14, .pointer (some ⟨b14, 0, none⟩))]) (fun ⟨b13, b14, x1, x2⟩ => [.pt b13 [.int .i64 zz.r.radius, .int .i64 zz.r.unit, .int .i64 zz.r.clicks, .int .i64 zz.r.total, .slice x1.a1 zz.r.group.length x1.c1, .slice x1.a2 zz.r.drifts.length x1.c2, .slice x1.a3 zz.r.first.length x1.c3, .slice x1.a4 zz.r.next.length x1.c4] 25, .pt b14 [.int .i64 zz.r.radius, .int .i64 zz.r.unit, .int .i64 zz.r.clicks, .int .i64 zz.r.total, .slice x2.a1 zz.r.group.length x2.c1, .slice x2.a2 zz.r.drifts.length x2.c2, .slice x2.a3 zz.r.first.length x2.c3, .slice x2.a4 zz.r.next.length x2.c4] 25, un x1.K, un x2.K, .pt b9 [.int .i64 zz.r.radius, .int .i64 zz.r.unit, .int .i64 zz.r.clicks, .int .i64 zz.r.total, .slice (some ⟨zz.gb, 0, none⟩) zz.r.group.length zz.gc, .slice (some ⟨zz.db, 0, none⟩) zz.r.drifts.length zz.dc, .slice (some ⟨zz.fb, 0, none⟩) zz.r.first.length zz.fc, .slice (some ⟨zz.nb, 0, none⟩) zz.r.next.length zz.nc] 25, .pt b10 [.int .i64 p.miss, .int .i64 p.click, .int .i64 p.wait, .int .i64 p.waits] 27, un zz.K, .ow vw 64 2 5 (spC ws), dkP (.slice a2 n2 c2) b2 0]) ?_ (fun K2 hK2 => ?_)
  rotate_left
  · skip
    refine q_drawT (.alt (chainT [0, 1] (.alt (chainT [2, 3] (.alt (chainT [4] (chainT [5] (chainT [6] (chainT [7] (.nil))))) (chainT [5] (chainT [4] (chainT [6] (chainT [7] (.nil))))))) (.alt (chainT [4] (.alt (chainT [2, 3] (chainT [5] (chainT [6] (chainT [7] (.nil))))) (chainT [5] (chainT [2, 3] (chainT [6] (chainT [7] (.nil))))))) (chainT [5] (.alt (chainT [2, 3] (chainT [4] (chainT [6] (chainT [7] (.nil))))) (chainT [4] (chainT [2, 3] (chainT [6] (chainT [7] (.nil)))))))))) (.alt (chainT [4] (.alt (chainT [0, 1] (.alt (chainT [2, 3] (chainT [5] (chainT [6] (chainT [7] (.nil))))) (chainT [5] (chainT [2, 3] (chainT [6] (chainT [7] (.nil))))))) (chainT [5] (chainT [0, 1] (chainT [2, 3] (chainT [6] (chainT [7] (.nil)))))))) (chainT [5] (.alt (chainT [0, 1] (.alt (chainT [2, 3] (chainT [4] (chainT [6] (chainT [7] (.nil))))) (chainT [4] (chainT [2, 3] (chainT [6] (chainT [7] (.nil))))))) (chainT [4] (chainT [0, 1] (chainT [2, 3] (chainT [6] (chainT [7] (.nil)))))))))) _ [] (Sp.refl _) (by kernel_rfl) (by kernel_rfl) ?_
    refine qt_let (σ := Cp zz.r × Cp zz.r × Nat × Nat × Unit) (.nil) (fun ⟨x1, x2, b13, b14, ()⟩ => [(8, .pointer (some ⟨b2, 0, none⟩)), (9, .pointer (some ⟨b9, 0, none⟩)), (10, .pointer (some ⟨b10, 0, none⟩)), (11, vw), (12, .int .i64 ck), (62, .agg #[.int .i64 zz.r.radius, .int .i64 zz.r.unit, .int .i64 zz.r.clicks, .int .i64 zz.r.total, .slice x1.a1 zz.r.group.length x1.c1, .slice x1.a2 zz.r.drifts.length x1.c2, .slice x1.a3 zz.r.first.length x1.c3, .slice x1.a4 zz.r.next.length x1.c4]), (64, .agg #[.int .i64 zz.r.radius, .int .i64 zz.r.unit, .int .i64 zz.r.clicks, .int .i64 zz.r.total, .slice x2.a1 zz.r.group.length x2.c1, .slice x2.a2 zz.r.drifts.length x2.c2, .slice x2.a3 zz.r.first.length x2.c3, .slice x2.a4 zz.r.next.length x2.c4]), (13, .pointer (some ⟨b13, 0, none⟩)), (14, .pointer (some ⟨b14, 0, none⟩))]) (fun ⟨x1, x2, b13, b14, ()⟩ => [un x1.K, un x2.K, .pt b13 [.int .i64 zz.r.radius, .int .i64 zz.r.unit, .int .i64 zz.r.clicks, .int .i64 zz.r.total, .slice x1.a1 zz.r.group.length x1.c1, .slice x1.a2 zz.r.drifts.length x1.c2, .slice x1.a3 zz.r.first.length x1.c3, .slice x1.a4 zz.r.next.length x1.c4] 25, .pt b14 [.int .i64 zz.r.radius, .int .i64 zz.r.unit, .int .i64 zz.r.clicks, .int .i64 zz.r.total, .slice x2.a1 zz.r.group.length x2.c1, .slice x2.a2 zz.r.drifts.length x2.c2, .slice x2.a3 zz.r.first.length x2.c3, .slice x2.a4 zz.r.next.length x2.c4] 25]) ?_ (fun hS1_3_4_5_6_7 => ?_)
    · rintro ⟨x1, x2, b13, b14, _⟩
      exact qt_nil (hK2 (b13, b14, x1, x2) _ _ ⟨rfl, rfl, rfl, rfl, rfl, rfl, rfl, trivial⟩ (by repeat (first | exact Sp.nil | exact Sp.refl _ | refine Sp.cons (by repeat constructor) ?_)))
    refine qt_let (σ := Cp zz.r × Cp zz.r × Nat × Nat × Unit) (chainT [7] (.nil)) (fun ⟨x1, x2, b13, b14, ()⟩ => [(8, .pointer (some ⟨b2, 0, none⟩)), (9, .pointer (some ⟨b9, 0, none⟩)), (10, .pointer (some ⟨b10, 0, none⟩)), (11, vw), (12, .int .i64 ck), (62, .agg #[.int .i64 zz.r.radius, .int .i64 zz.r.unit, .int .i64 zz.r.clicks, .int .i64 zz.r.total, .slice x1.a1 zz.r.group.length x1.c1, .slice x1.a2 zz.r.drifts.length x1.c2, .slice x1.a3 zz.r.first.length x1.c3, .slice x1.a4 zz.r.next.length x1.c4]), (64, .agg #[.int .i64 zz.r.radius, .int .i64 zz.r.unit, .int .i64 zz.r.clicks, .int .i64 zz.r.total, .slice x2.a1 zz.r.group.length x2.c1, .slice x2.a2 zz.r.drifts.length x2.c2, .slice x2.a3 zz.r.first.length x2.c3, .slice x2.a4 zz.r.next.length x2.c4]), (13, .pointer (some ⟨b13, 0, none⟩)), (14, .pointer (some ⟨b14, 0, none⟩))]) (fun ⟨x1, x2, b13, b14, ()⟩ => [un x1.K, un x2.K, .pt b13 [.int .i64 zz.r.radius, .int .i64 zz.r.unit, .int .i64 zz.r.clicks, .int .i64 zz.r.total, .slice x1.a1 zz.r.group.length x1.c1, .slice x1.a2 zz.r.drifts.length x1.c2, .slice x1.a3 zz.r.first.length x1.c3, .slice x1.a4 zz.r.next.length x1.c4] 25, .pt b14 [.int .i64 0, .int .i64 0, .int .i64 0, .int .i64 0, .slice none 0 0, .slice none 0 0, .slice none 0 0, .slice none 0 0] 25]) ?_ (fun hS1_3_4_5_6 => ?_)
    · rintro ⟨x1, x2, b13, b14, _⟩
      refine qt_seg (by repeat (first | exact PickL.nil | (apply PickL.cons; rfl))) fun K1 hK1 => ?_
      (refine qf_setA tabOk rfl rfl rfl rfl rfl (by repeat constructor) rfl ?_; refine qf_nil ?_)
      skip
      exact hK1 _ _ (hS1_3_4_5_6_7 ⟨x1, x2, b13, b14, ()⟩ _ _ ⟨rfl, rfl, rfl, rfl, rfl, rfl, rfl, rfl, rfl, trivial⟩ (by repeat (first | exact Sp.nil | exact Sp.refl _ | refine Sp.cons (by repeat constructor) ?_)))
    refine qt_let (σ := Cp zz.r × Cp zz.r × Nat × Nat × Unit) (chainT [6] (chainT [7] (.nil))) (fun ⟨x1, x2, b13, b14, ()⟩ => [(8, .pointer (some ⟨b2, 0, none⟩)), (9, .pointer (some ⟨b9, 0, none⟩)), (10, .pointer (some ⟨b10, 0, none⟩)), (11, vw), (12, .int .i64 ck), (62, .agg #[.int .i64 zz.r.radius, .int .i64 zz.r.unit, .int .i64 zz.r.clicks, .int .i64 zz.r.total, .slice x1.a1 zz.r.group.length x1.c1, .slice x1.a2 zz.r.drifts.length x1.c2, .slice x1.a3 zz.r.first.length x1.c3, .slice x1.a4 zz.r.next.length x1.c4]), (64, .agg #[.int .i64 zz.r.radius, .int .i64 zz.r.unit, .int .i64 zz.r.clicks, .int .i64 zz.r.total, .slice x2.a1 zz.r.group.length x2.c1, .slice x2.a2 zz.r.drifts.length x2.c2, .slice x2.a3 zz.r.first.length x2.c3, .slice x2.a4 zz.r.next.length x2.c4]), (13, .pointer (some ⟨b13, 0, none⟩)), (14, .pointer (some ⟨b14, 0, none⟩))]) (fun ⟨x1, x2, b13, b14, ()⟩ => [un x1.K, un x2.K, .pt b13 [.int .i64 0, .int .i64 0, .int .i64 0, .int .i64 0, .slice none 0 0, .slice none 0 0, .slice none 0 0, .slice none 0 0] 25, .pt b14 [.int .i64 0, .int .i64 0, .int .i64 0, .int .i64 0, .slice none 0 0, .slice none 0 0, .slice none 0 0, .slice none 0 0] 25]) ?_ (fun hS1_3_4_5 => ?_)
    · rintro ⟨x1, x2, b13, b14, _⟩
      refine qt_seg (by repeat (first | exact PickL.nil | (apply PickL.cons; rfl))) fun K1 hK1 => ?_
      (refine qf_setA tabOk rfl rfl rfl rfl rfl (by repeat constructor) rfl ?_; refine qf_nil ?_)
      skip
      exact hK1 _ _ (hS1_3_4_5_6 ⟨x1, x2, b13, b14, ()⟩ _ _ ⟨rfl, rfl, rfl, rfl, rfl, rfl, rfl, rfl, rfl, trivial⟩ (by repeat (first | exact Sp.nil | exact Sp.refl _ | refine Sp.cons (by repeat constructor) ?_)))
    refine qt_let (σ := Cp zz.r × Cp zz.r × Nat × Unit) (chainT [5] (chainT [6] (chainT [7] (.nil)))) (fun ⟨x1, x2, b13, ()⟩ => [(8, .pointer (some ⟨b2, 0, none⟩)), (9, .pointer (some ⟨b9, 0, none⟩)), (10, .pointer (some ⟨b10, 0, none⟩)), (11, vw), (12, .int .i64 ck), (62, .agg #[.int .i64 zz.r.radius, .int .i64 zz.r.unit, .int .i64 zz.r.clicks, .int .i64 zz.r.total, .slice x1.a1 zz.r.group.length x1.c1, .slice x1.a2 zz.r.drifts.length x1.c2, .slice x1.a3 zz.r.first.length x1.c3, .slice x1.a4 zz.r.next.length x1.c4]), (64, .agg #[.int .i64 zz.r.radius, .int .i64 zz.r.unit, .int .i64 zz.r.clicks, .int .i64 zz.r.total, .slice x2.a1 zz.r.group.length x2.c1, .slice x2.a2 zz.r.drifts.length x2.c2, .slice x2.a3 zz.r.first.length x2.c3, .slice x2.a4 zz.r.next.length x2.c4]), (13, .pointer (some ⟨b13, 0, none⟩))]) (fun ⟨x1, x2, b13, ()⟩ => [un x1.K, un x2.K, .pt b13 [.int .i64 0, .int .i64 0, .int .i64 0, .int .i64 0, .slice none 0 0, .slice none 0 0, .slice none 0 0, .slice none 0 0] 25]) ?_ (fun hS1_3_4 => ?_)
    · rintro ⟨x1, x2, b13, _⟩
      refine qt_seg (by repeat (first | exact PickL.nil | (apply PickL.cons; rfl))) fun K1 hK1 => ?_
      skip
      refine qf_alloc zero25 rfl (fun b14 => ?_)
      (refine qf_nil ?_)
      exact hK1 _ _ (hS1_3_4_5 ⟨x1, x2, b13, b14, ()⟩ _ _ ⟨rfl, rfl, rfl, rfl, rfl, rfl, rfl, rfl, rfl, trivial⟩ (by repeat (first | exact Sp.nil | exact Sp.refl _ | refine Sp.cons (by repeat constructor) ?_)))
    refine qt_let (σ := Cp zz.r × Cp zz.r × Nat × Unit) (chainT [4] (chainT [6] (chainT [7] (.nil)))) (fun ⟨x1, x2, b14, ()⟩ => [(8, .pointer (some ⟨b2, 0, none⟩)), (9, .pointer (some ⟨b9, 0, none⟩)), (10, .pointer (some ⟨b10, 0, none⟩)), (11, vw), (12, .int .i64 ck), (62, .agg #[.int .i64 zz.r.radius, .int .i64 zz.r.unit, .int .i64 zz.r.clicks, .int .i64 zz.r.total, .slice x1.a1 zz.r.group.length x1.c1, .slice x1.a2 zz.r.drifts.length x1.c2, .slice x1.a3 zz.r.first.length x1.c3, .slice x1.a4 zz.r.next.length x1.c4]), (64, .agg #[.int .i64 zz.r.radius, .int .i64 zz.r.unit, .int .i64 zz.r.clicks, .int .i64 zz.r.total, .slice x2.a1 zz.r.group.length x2.c1, .slice x2.a2 zz.r.drifts.length x2.c2, .slice x2.a3 zz.r.first.length x2.c3, .slice x2.a4 zz.r.next.length x2.c4]), (14, .pointer (some ⟨b14, 0, none⟩))]) (fun ⟨x1, x2, b14, ()⟩ => [un x1.K, un x2.K, .pt b14 [.int .i64 0, .int .i64 0, .int .i64 0, .int .i64 0, .slice none 0 0, .slice none 0 0, .slice none 0 0, .slice none 0 0] 25]) ?_ (fun hS1_3_5 => ?_)
    · rintro ⟨x1, x2, b14, _⟩
      refine qt_seg (by repeat (first | exact PickL.nil | (apply PickL.cons; rfl))) fun K1 hK1 => ?_
      skip
      refine qf_alloc zero25 rfl (fun b13 => ?_)
      (refine qf_nil ?_)
      exact hK1 _ _ (hS1_3_4_5 ⟨x1, x2, b13, b14, ()⟩ _ _ ⟨rfl, rfl, rfl, rfl, rfl, rfl, rfl, rfl, rfl, trivial⟩ (by repeat (first | exact Sp.nil | exact Sp.refl _ | refine Sp.cons (by repeat constructor) ?_)))
    refine qt_let (σ := Cp zz.r × Nat × Nat × Unit) (chainT [2, 3] (chainT [6] (chainT [7] (.nil)))) (fun ⟨x1, b13, b14, ()⟩ => [(8, .pointer (some ⟨b2, 0, none⟩)), (9, .pointer (some ⟨b9, 0, none⟩)), (10, .pointer (some ⟨b10, 0, none⟩)), (11, vw), (12, .int .i64 ck), (62, .agg #[.int .i64 zz.r.radius, .int .i64 zz.r.unit, .int .i64 zz.r.clicks, .int .i64 zz.r.total, .slice x1.a1 zz.r.group.length x1.c1, .slice x1.a2 zz.r.drifts.length x1.c2, .slice x1.a3 zz.r.first.length x1.c3, .slice x1.a4 zz.r.next.length x1.c4]), (13, .pointer (some ⟨b13, 0, none⟩)), (14, .pointer (some ⟨b14, 0, none⟩))]) (fun ⟨x1, b13, b14, ()⟩ => [un x1.K, .pt b13 [.int .i64 0, .int .i64 0, .int .i64 0, .int .i64 0, .slice none 0 0, .slice none 0 0, .slice none 0 0, .slice none 0 0] 25, .pt b14 [.int .i64 0, .int .i64 0, .int .i64 0, .int .i64 0, .slice none 0 0, .slice none 0 0, .slice none 0 0, .slice none 0 0] 25]) ?_ (fun hS1_4_5 => ?_)
    · rintro ⟨x1, b13, b14, _⟩
      refine qt_seg (by repeat (first | exact PickL.nil | (apply PickL.cons; rfl))) fun K1 hK1 => ?_
      (refine qf_loadAB tabOk rfl rfl rfl (by repeat first | exact .head _ | refine .tail _ ?_) (by rfl) (by rfl) ?_)
      refine qf_call (β := Cp zz.r) tabOk [] _ M0 rfl rfl rfl rfl (Sp.refl _) (fun _ h => h.elim) (fun w' hs => cloneR_cp w' _ zz.r (MdS.at hs (by repeat first | exact .head _ | refine .tail _ ?_) hxzz) madezz.small) ?_
      rintro x2 _ rfl
      (refine qf_nil ?_)
      exact hK1 _ _ (hS1_3_4_5 ⟨x1, x2, b13, b14, ()⟩ _ _ ⟨rfl, rfl, rfl, rfl, rfl, rfl, rfl, rfl, rfl, trivial⟩ (by repeat (first | exact Sp.nil | exact Sp.refl _ | refine Sp.cons (by repeat constructor) ?_)))
    refine qt_let (σ := Cp zz.r × Cp zz.r × Unit) (.alt (chainT [4] (chainT [5] (chainT [6] (chainT [7] (.nil))))) (chainT [5] (chainT [4] (chainT [6] (chainT [7] (.nil)))))) (fun ⟨x1, x2, ()⟩ => [(8, .pointer (some ⟨b2, 0, none⟩)), (9, .pointer (some ⟨b9, 0, none⟩)), (10, .pointer (some ⟨b10, 0, none⟩)), (11, vw), (12, .int .i64 ck), (62, .agg #[.int .i64 zz.r.radius, .int .i64 zz.r.unit, .int .i64 zz.r.clicks, .int .i64 zz.r.total, .slice x1.a1 zz.r.group.length x1.c1, .slice x1.a2 zz.r.drifts.length x1.c2, .slice x1.a3 zz.r.first.length x1.c3, .slice x1.a4 zz.r.next.length x1.c4]), (64, .agg #[.int .i64 zz.r.radius, .int .i64 zz.r.unit, .int .i64 zz.r.clicks, .int .i64 zz.r.total, .slice x2.a1 zz.r.group.length x2.c1, .slice x2.a2 zz.r.drifts.length x2.c2, .slice x2.a3 zz.r.first.length x2.c3, .slice x2.a4 zz.r.next.length x2.c4])]) (fun ⟨x1, x2, ()⟩ => [un x1.K, un x2.K]) ?_ (fun hS1_3 => ?_)
    · rintro ⟨x1, x2, _⟩
      refine qt_alt ?_ ?_
      · skip
        refine qt_seg (by repeat (first | exact PickL.nil | (apply PickL.cons; rfl))) fun K1 hK1 => ?_
        skip
        refine qf_alloc zero25 rfl (fun b13 => ?_)
        (refine qf_nil ?_)
        exact hK1 _ _ (hS1_3_4 ⟨x1, x2, b13, ()⟩ _ _ ⟨rfl, rfl, rfl, rfl, rfl, rfl, rfl, rfl, trivial⟩ (by repeat (first | exact Sp.nil | exact Sp.refl _ | refine Sp.cons (by repeat constructor) ?_)))
      · skip
        refine qt_seg (by repeat (first | exact PickL.nil | (apply PickL.cons; rfl))) fun K1 hK1 => ?_
        skip
        refine qf_alloc zero25 rfl (fun b14 => ?_)
        (refine qf_nil ?_)
        exact hK1 _ _ (hS1_3_5 ⟨x1, x2, b14, ()⟩ _ _ ⟨rfl, rfl, rfl, rfl, rfl, rfl, rfl, rfl, trivial⟩ (by repeat (first | exact Sp.nil | exact Sp.refl _ | refine Sp.cons (by repeat constructor) ?_)))
    refine qt_let (σ := Cp zz.r × Nat × Unit) (.alt (chainT [2, 3] (chainT [5] (chainT [6] (chainT [7] (.nil))))) (chainT [5] (chainT [2, 3] (chainT [6] (chainT [7] (.nil)))))) (fun ⟨x1, b13, ()⟩ => [(8, .pointer (some ⟨b2, 0, none⟩)), (9, .pointer (some ⟨b9, 0, none⟩)), (10, .pointer (some ⟨b10, 0, none⟩)), (11, vw), (12, .int .i64 ck), (62, .agg #[.int .i64 zz.r.radius, .int .i64 zz.r.unit, .int .i64 zz.r.clicks, .int .i64 zz.r.total, .slice x1.a1 zz.r.group.length x1.c1, .slice x1.a2 zz.r.drifts.length x1.c2, .slice x1.a3 zz.r.first.length x1.c3, .slice x1.a4 zz.r.next.length x1.c4]), (13, .pointer (some ⟨b13, 0, none⟩))]) (fun ⟨x1, b13, ()⟩ => [un x1.K, .pt b13 [.int .i64 0, .int .i64 0, .int .i64 0, .int .i64 0, .slice none 0 0, .slice none 0 0, .slice none 0 0, .slice none 0 0] 25]) ?_ (fun hS1_4 => ?_)
    · rintro ⟨x1, b13, _⟩
      refine qt_alt ?_ ?_
      · skip
        refine qt_seg (by repeat (first | exact PickL.nil | (apply PickL.cons; rfl))) fun K1 hK1 => ?_
        (refine qf_loadAB tabOk rfl rfl rfl (by repeat first | exact .head _ | refine .tail _ ?_) (by rfl) (by rfl) ?_)
        refine qf_call (β := Cp zz.r) tabOk [] _ M0 rfl rfl rfl rfl (Sp.refl _) (fun _ h => h.elim) (fun w' hs => cloneR_cp w' _ zz.r (MdS.at hs (by repeat first | exact .head _ | refine .tail _ ?_) hxzz) madezz.small) ?_
        rintro x2 _ rfl
        (refine qf_nil ?_)
        exact hK1 _ _ (hS1_3_4 ⟨x1, x2, b13, ()⟩ _ _ ⟨rfl, rfl, rfl, rfl, rfl, rfl, rfl, rfl, trivial⟩ (by repeat (first | exact Sp.nil | exact Sp.refl _ | refine Sp.cons (by repeat constructor) ?_)))
      · skip
        refine qt_seg (by repeat (first | exact PickL.nil | (apply PickL.cons; rfl))) fun K1 hK1 => ?_
        skip
        refine qf_alloc zero25 rfl (fun b14 => ?_)
        (refine qf_nil ?_)
        exact hK1 _ _ (hS1_4_5 ⟨x1, b13, b14, ()⟩ _ _ ⟨rfl, rfl, rfl, rfl, rfl, rfl, rfl, rfl, trivial⟩ (by repeat (first | exact Sp.nil | exact Sp.refl _ | refine Sp.cons (by repeat constructor) ?_)))
    refine qt_let (σ := Cp zz.r × Nat × Unit) (.alt (chainT [2, 3] (chainT [4] (chainT [6] (chainT [7] (.nil))))) (chainT [4] (chainT [2, 3] (chainT [6] (chainT [7] (.nil)))))) (fun ⟨x1, b14, ()⟩ => [(8, .pointer (some ⟨b2, 0, none⟩)), (9, .pointer (some ⟨b9, 0, none⟩)), (10, .pointer (some ⟨b10, 0, none⟩)), (11, vw), (12, .int .i64 ck), (62, .agg #[.int .i64 zz.r.radius, .int .i64 zz.r.unit, .int .i64 zz.r.clicks, .int .i64 zz.r.total, .slice x1.a1 zz.r.group.length x1.c1, .slice x1.a2 zz.r.drifts.length x1.c2, .slice x1.a3 zz.r.first.length x1.c3, .slice x1.a4 zz.r.next.length x1.c4]), (14, .pointer (some ⟨b14, 0, none⟩))]) (fun ⟨x1, b14, ()⟩ => [un x1.K, .pt b14 [.int .i64 0, .int .i64 0, .int .i64 0, .int .i64 0, .slice none 0 0, .slice none 0 0, .slice none 0 0, .slice none 0 0] 25]) ?_ (fun hS1_5 => ?_)
    · rintro ⟨x1, b14, _⟩
      refine qt_alt ?_ ?_
      · skip
        refine qt_seg (by repeat (first | exact PickL.nil | (apply PickL.cons; rfl))) fun K1 hK1 => ?_
        (refine qf_loadAB tabOk rfl rfl rfl (by repeat first | exact .head _ | refine .tail _ ?_) (by rfl) (by rfl) ?_)
        refine qf_call (β := Cp zz.r) tabOk [] _ M0 rfl rfl rfl rfl (Sp.refl _) (fun _ h => h.elim) (fun w' hs => cloneR_cp w' _ zz.r (MdS.at hs (by repeat first | exact .head _ | refine .tail _ ?_) hxzz) madezz.small) ?_
        rintro x2 _ rfl
        (refine qf_nil ?_)
        exact hK1 _ _ (hS1_3_5 ⟨x1, x2, b14, ()⟩ _ _ ⟨rfl, rfl, rfl, rfl, rfl, rfl, rfl, rfl, trivial⟩ (by repeat (first | exact Sp.nil | exact Sp.refl _ | refine Sp.cons (by repeat constructor) ?_)))
      · skip
        refine qt_seg (by repeat (first | exact PickL.nil | (apply PickL.cons; rfl))) fun K1 hK1 => ?_
        skip
        refine qf_alloc zero25 rfl (fun b13 => ?_)
        (refine qf_nil ?_)
        exact hK1 _ _ (hS1_4_5 ⟨x1, b13, b14, ()⟩ _ _ ⟨rfl, rfl, rfl, rfl, rfl, rfl, rfl, rfl, trivial⟩ (by repeat (first | exact Sp.nil | exact Sp.refl _ | refine Sp.cons (by repeat constructor) ?_)))
    refine qt_let (σ := Nat × Nat × Unit) (chainT [0, 1] (chainT [2, 3] (chainT [6] (chainT [7] (.nil))))) (fun ⟨b13, b14, ()⟩ => [(8, .pointer (some ⟨b2, 0, none⟩)), (9, .pointer (some ⟨b9, 0, none⟩)), (10, .pointer (some ⟨b10, 0, none⟩)), (11, vw), (12, .int .i64 ck), (13, .pointer (some ⟨b13, 0, none⟩)), (14, .pointer (some ⟨b14, 0, none⟩))]) (fun ⟨b13, b14, ()⟩ => [.pt b13 [.int .i64 0, .int .i64 0, .int .i64 0, .int .i64 0, .slice none 0 0, .slice none 0 0, .slice none 0 0, .slice none 0 0] 25, .pt b14 [.int .i64 0, .int .i64 0, .int .i64 0, .int .i64 0, .slice none 0 0, .slice none 0 0, .slice none 0 0, .slice none 0 0] 25]) ?_ (fun hS4_5 => ?_)
    · rintro ⟨b13, b14, _⟩
      refine qt_seg (by repeat (first | exact PickL.nil | (apply PickL.cons; rfl))) fun K1 hK1 => ?_
      (refine qf_loadAB tabOk rfl rfl rfl (by repeat first | exact .head _ | refine .tail _ ?_) (by rfl) (by rfl) ?_)
      refine qf_call (β := Cp zz.r) tabOk [] _ M0 rfl rfl rfl rfl (Sp.refl _) (fun _ h => h.elim) (fun w' hs => cloneR_cp w' _ zz.r (MdS.at hs (by repeat first | exact .head _ | refine .tail _ ?_) hxzz) madezz.small) ?_
      rintro x1 _ rfl
      (refine qf_nil ?_)
      exact hK1 _ _ (hS1_4_5 ⟨x1, b13, b14, ()⟩ _ _ ⟨rfl, rfl, rfl, rfl, rfl, rfl, rfl, rfl, trivial⟩ (by repeat (first | exact Sp.nil | exact Sp.refl _ | refine Sp.cons (by repeat constructor) ?_)))
    refine qt_let (σ := Cp zz.r × Unit) (.alt (chainT [2, 3] (.alt (chainT [4] (chainT [5] (chainT [6] (chainT [7] (.nil))))) (chainT [5] (chainT [4] (chainT [6] (chainT [7] (.nil))))))) (.alt (chainT [4] (.alt (chainT [2, 3] (chainT [5] (chainT [6] (chainT [7] (.nil))))) (chainT [5] (chainT [2, 3] (chainT [6] (chainT [7] (.nil))))))) (chainT [5] (.alt (chainT [2, 3] (chainT [4] (chainT [6] (chainT [7] (.nil))))) (chainT [4] (chainT [2, 3] (chainT [6] (chainT [7] (.nil))))))))) (fun ⟨x1, ()⟩ => [(8, .pointer (some ⟨b2, 0, none⟩)), (9, .pointer (some ⟨b9, 0, none⟩)), (10, .pointer (some ⟨b10, 0, none⟩)), (11, vw), (12, .int .i64 ck), (62, .agg #[.int .i64 zz.r.radius, .int .i64 zz.r.unit, .int .i64 zz.r.clicks, .int .i64 zz.r.total, .slice x1.a1 zz.r.group.length x1.c1, .slice x1.a2 zz.r.drifts.length x1.c2, .slice x1.a3 zz.r.first.length x1.c3, .slice x1.a4 zz.r.next.length x1.c4])]) (fun ⟨x1, ()⟩ => [un x1.K]) ?_ (fun hS1 => ?_)
    · rintro ⟨x1, _⟩
      refine qt_alt ?_ (qt_alt ?_ ?_)
      · skip
        refine qt_seg (by repeat (first | exact PickL.nil | (apply PickL.cons; rfl))) fun K1 hK1 => ?_
        (refine qf_loadAB tabOk rfl rfl rfl (by repeat first | exact .head _ | refine .tail _ ?_) (by rfl) (by rfl) ?_)
        refine qf_call (β := Cp zz.r) tabOk [] _ M0 rfl rfl rfl rfl (Sp.refl _) (fun _ h => h.elim) (fun w' hs => cloneR_cp w' _ zz.r (MdS.at hs (by repeat first | exact .head _ | refine .tail _ ?_) hxzz) madezz.small) ?_
        rintro x2 _ rfl
        (refine qf_nil ?_)
        exact hK1 _ _ (hS1_3 ⟨x1, x2, ()⟩ _ _ ⟨rfl, rfl, rfl, rfl, rfl, rfl, rfl, trivial⟩ (by repeat (first | exact Sp.nil | exact Sp.refl _ | refine Sp.cons (by repeat constructor) ?_)))
      · skip
        refine qt_seg (by repeat (first | exact PickL.nil | (apply PickL.cons; rfl))) fun K1 hK1 => ?_
        skip
        refine qf_alloc zero25 rfl (fun b13 => ?_)
        (refine qf_nil ?_)
        exact hK1 _ _ (hS1_4 ⟨x1, b13, ()⟩ _ _ ⟨rfl, rfl, rfl, rfl, rfl, rfl, rfl, trivial⟩ (by repeat (first | exact Sp.nil | exact Sp.refl _ | refine Sp.cons (by repeat constructor) ?_)))
      · skip
        refine qt_seg (by repeat (first | exact PickL.nil | (apply PickL.cons; rfl))) fun K1 hK1 => ?_
        skip
        refine qf_alloc zero25 rfl (fun b14 => ?_)
        (refine qf_nil ?_)
        exact hK1 _ _ (hS1_5 ⟨x1, b14, ()⟩ _ _ ⟨rfl, rfl, rfl, rfl, rfl, rfl, rfl, trivial⟩ (by repeat (first | exact Sp.nil | exact Sp.refl _ | refine Sp.cons (by repeat constructor) ?_)))
    refine qt_let (σ := Nat × Unit) (.alt (chainT [0, 1] (.alt (chainT [2, 3] (chainT [5] (chainT [6] (chainT [7] (.nil))))) (chainT [5] (chainT [2, 3] (chainT [6] (chainT [7] (.nil))))))) (chainT [5] (chainT [0, 1] (chainT [2, 3] (chainT [6] (chainT [7] (.nil))))))) (fun ⟨b13, ()⟩ => [(8, .pointer (some ⟨b2, 0, none⟩)), (9, .pointer (some ⟨b9, 0, none⟩)), (10, .pointer (some ⟨b10, 0, none⟩)), (11, vw), (12, .int .i64 ck), (13, .pointer (some ⟨b13, 0, none⟩))]) (fun ⟨b13, ()⟩ => [.pt b13 [.int .i64 0, .int .i64 0, .int .i64 0, .int .i64 0, .slice none 0 0, .slice none 0 0, .slice none 0 0, .slice none 0 0] 25]) ?_ (fun hS4 => ?_)
    · rintro ⟨b13, _⟩
      refine qt_alt ?_ ?_
      · skip
        refine qt_seg (by repeat (first | exact PickL.nil | (apply PickL.cons; rfl))) fun K1 hK1 => ?_
        (refine qf_loadAB tabOk rfl rfl rfl (by repeat first | exact .head _ | refine .tail _ ?_) (by rfl) (by rfl) ?_)
        refine qf_call (β := Cp zz.r) tabOk [] _ M0 rfl rfl rfl rfl (Sp.refl _) (fun _ h => h.elim) (fun w' hs => cloneR_cp w' _ zz.r (MdS.at hs (by repeat first | exact .head _ | refine .tail _ ?_) hxzz) madezz.small) ?_
        rintro x1 _ rfl
        (refine qf_nil ?_)
        exact hK1 _ _ (hS1_4 ⟨x1, b13, ()⟩ _ _ ⟨rfl, rfl, rfl, rfl, rfl, rfl, rfl, trivial⟩ (by repeat (first | exact Sp.nil | exact Sp.refl _ | refine Sp.cons (by repeat constructor) ?_)))
      · skip
        refine qt_seg (by repeat (first | exact PickL.nil | (apply PickL.cons; rfl))) fun K1 hK1 => ?_
        skip
        refine qf_alloc zero25 rfl (fun b14 => ?_)
        (refine qf_nil ?_)
        exact hK1 _ _ (hS4_5 ⟨b13, b14, ()⟩ _ _ ⟨rfl, rfl, rfl, rfl, rfl, rfl, rfl, trivial⟩ (by repeat (first | exact Sp.nil | exact Sp.refl _ | refine Sp.cons (by repeat constructor) ?_)))
    refine qt_let (σ := Nat × Unit) (.alt (chainT [0, 1] (.alt (chainT [2, 3] (chainT [4] (chainT [6] (chainT [7] (.nil))))) (chainT [4] (chainT [2, 3] (chainT [6] (chainT [7] (.nil))))))) (chainT [4] (chainT [0, 1] (chainT [2, 3] (chainT [6] (chainT [7] (.nil))))))) (fun ⟨b14, ()⟩ => [(8, .pointer (some ⟨b2, 0, none⟩)), (9, .pointer (some ⟨b9, 0, none⟩)), (10, .pointer (some ⟨b10, 0, none⟩)), (11, vw), (12, .int .i64 ck), (14, .pointer (some ⟨b14, 0, none⟩))]) (fun ⟨b14, ()⟩ => [.pt b14 [.int .i64 0, .int .i64 0, .int .i64 0, .int .i64 0, .slice none 0 0, .slice none 0 0, .slice none 0 0, .slice none 0 0] 25]) ?_ (fun hS5 => ?_)
    · rintro ⟨b14, _⟩
      refine qt_alt ?_ ?_
      · skip
        refine qt_seg (by repeat (first | exact PickL.nil | (apply PickL.cons; rfl))) fun K1 hK1 => ?_
        (refine qf_loadAB tabOk rfl rfl rfl (by repeat first | exact .head _ | refine .tail _ ?_) (by rfl) (by rfl) ?_)
        refine qf_call (β := Cp zz.r) tabOk [] _ M0 rfl rfl rfl rfl (Sp.refl _) (fun _ h => h.elim) (fun w' hs => cloneR_cp w' _ zz.r (MdS.at hs (by repeat first | exact .head _ | refine .tail _ ?_) hxzz) madezz.small) ?_
        rintro x1 _ rfl
        (refine qf_nil ?_)
        exact hK1 _ _ (hS1_5 ⟨x1, b14, ()⟩ _ _ ⟨rfl, rfl, rfl, rfl, rfl, rfl, rfl, trivial⟩ (by repeat (first | exact Sp.nil | exact Sp.refl _ | refine Sp.cons (by repeat constructor) ?_)))
      · skip
        refine qt_seg (by repeat (first | exact PickL.nil | (apply PickL.cons; rfl))) fun K1 hK1 => ?_
        skip
        refine qf_alloc zero25 rfl (fun b13 => ?_)
        (refine qf_nil ?_)
        exact hK1 _ _ (hS4_5 ⟨b13, b14, ()⟩ _ _ ⟨rfl, rfl, rfl, rfl, rfl, rfl, rfl, trivial⟩ (by repeat (first | exact Sp.nil | exact Sp.refl _ | refine Sp.cons (by repeat constructor) ?_)))
    refine qt_alt ?_ (qt_alt ?_ ?_)
    · skip
      refine qt_seg (by repeat (first | exact PickL.nil | (apply PickL.cons; rfl))) fun K1 hK1 => ?_
      (refine qf_loadAB tabOk rfl rfl rfl (by repeat first | exact .head _ | refine .tail _ ?_) (by rfl) (by rfl) ?_)
      refine qf_call (β := Cp zz.r) tabOk [] _ M0 rfl rfl rfl rfl (Sp.refl _) (fun _ h => h.elim) (fun w' hs => cloneR_cp w' _ zz.r (MdS.at hs (by repeat first | exact .head _ | refine .tail _ ?_) hxzz) madezz.small) ?_
      rintro x1 _ rfl
      (refine qf_nil ?_)
      exact hK1 _ _ (hS1 ⟨x1, ()⟩ _ _ ⟨rfl, rfl, rfl, rfl, rfl, rfl, trivial⟩ (by repeat (first | exact Sp.nil | exact Sp.refl _ | refine Sp.cons (by repeat constructor) ?_)))
    · skip
      refine qt_seg (by repeat (first | exact PickL.nil | (apply PickL.cons; rfl))) fun K1 hK1 => ?_
      skip
      refine qf_alloc zero25 rfl (fun b13 => ?_)
      (refine qf_nil ?_)
      exact hK1 _ _ (hS4 ⟨b13, ()⟩ _ _ ⟨rfl, rfl, rfl, rfl, rfl, rfl, trivial⟩ (by repeat (first | exact Sp.nil | exact Sp.refl _ | refine Sp.cons (by repeat constructor) ?_)))
    · skip
      refine qt_seg (by repeat (first | exact PickL.nil | (apply PickL.cons; rfl))) fun K1 hK1 => ?_
      skip
      refine qf_alloc zero25 rfl (fun b14 => ?_)
      (refine qf_nil ?_)
      exact hK1 _ _ (hS5 ⟨b14, ()⟩ _ _ ⟨rfl, rfl, rfl, rfl, rfl, rfl, trivial⟩ (by repeat (first | exact Sp.nil | exact Sp.refl _ | refine Sp.cons (by repeat constructor) ?_)))
  rintro ⟨b13, b14, ⟨q1, d1, q2, d2, q3, d3, q4, d4, xs, hx⟩, ⟨u1, e1, u2, e2, u3, e3, u4, e4, ys, hy⟩⟩
  dsimp only
  refine q_conv (H' := [.ow (.slice q1 zz.r.group.length d1) 3 1 zz.r.group.length (ints zz.r.group), .ow (.slice q2 zz.r.drifts.length d2) 3 1 zz.r.drifts.length (ints zz.r.drifts), .ow (.slice q3 zz.r.first.length d3) 3 1 zz.r.first.length (ints zz.r.first), .ow (.slice q4 zz.r.next.length d4) 22 1 zz.r.next.length (xs.map (·.1)), un (rowsO xs), .ow (.slice u1 zz.r.group.length e1) 3 1 zz.r.group.length (ints zz.r.group), .ow (.slice u2 zz.r.drifts.length e2) 3 1 zz.r.drifts.length (ints zz.r.drifts), .ow (.slice u3 zz.r.first.length e3) 3 1 zz.r.first.length (ints zz.r.first), .ow (.slice u4 zz.r.next.length e4) 22 1 zz.r.next.length (ys.map (·.1)), un (rowsO ys), .pt b13 [.int .i64 zz.r.radius, .int .i64 zz.r.unit, .int .i64 zz.r.clicks, .int .i64 zz.r.total, .slice q1 zz.r.group.length d1, .slice q2 zz.r.drifts.length d2, .slice q3 zz.r.first.length d3, .slice q4 zz.r.next.length d4] 25, .pt b14 [.int .i64 zz.r.radius, .int .i64 zz.r.unit, .int .i64 zz.r.clicks, .int .i64 zz.r.total, .slice u1 zz.r.group.length e1, .slice u2 zz.r.drifts.length e2, .slice u3 zz.r.first.length e3, .slice u4 zz.r.next.length e4] 25, .pt b9 [.int .i64 zz.r.radius, .int .i64 zz.r.unit, .int .i64 zz.r.clicks, .int .i64 zz.r.total, .slice (some ⟨zz.gb, 0, none⟩) zz.r.group.length zz.gc, .slice (some ⟨zz.db, 0, none⟩) zz.r.drifts.length zz.dc, .slice (some ⟨zz.fb, 0, none⟩) zz.r.first.length zz.fc, .slice (some ⟨zz.nb, 0, none⟩) zz.r.next.length zz.nc] 25, .pt b10 [.int .i64 p.miss, .int .i64 p.click, .int .i64 p.wait, .int .i64 p.waits] 27, un zz.K, .ow vw 64 2 5 (spC ws), dkP (.slice a2 n2 c2) b2 0]) (fun w' hs => by
    have h1 := Sat.un_iff.1 (hs.sp (H' := un [.ow (.slice q1 zz.r.group.length d1) 3 1 zz.r.group.length (ints zz.r.group), .ow (.slice q2 zz.r.drifts.length d2) 3 1 zz.r.drifts.length (ints zz.r.drifts), .ow (.slice q3 zz.r.first.length d3) 3 1 zz.r.first.length (ints zz.r.first), .ow (.slice q4 zz.r.next.length d4) 22 1 zz.r.next.length (xs.map (·.1)), un (rowsO xs)] :: [un [.ow (.slice u1 zz.r.group.length e1) 3 1 zz.r.group.length (ints zz.r.group), .ow (.slice u2 zz.r.drifts.length e2) 3 1 zz.r.drifts.length (ints zz.r.drifts), .ow (.slice u3 zz.r.first.length e3) 3 1 zz.r.first.length (ints zz.r.first), .ow (.slice u4 zz.r.next.length e4) 22 1 zz.r.next.length (ys.map (·.1)), un (rowsO ys)], .pt b13 [.int .i64 zz.r.radius, .int .i64 zz.r.unit, .int .i64 zz.r.clicks, .int .i64 zz.r.total, .slice q1 zz.r.group.length d1, .slice q2 zz.r.drifts.length d2, .slice q3 zz.r.first.length d3, .slice q4 zz.r.next.length d4] 25, .pt b14 [.int .i64 zz.r.radius, .int .i64 zz.r.unit, .int .i64 zz.r.clicks, .int .i64 zz.r.total, .slice u1 zz.r.group.length e1, .slice u2 zz.r.drifts.length e2, .slice u3 zz.r.first.length e3, .slice u4 zz.r.next.length e4] 25, .pt b9 [.int .i64 zz.r.radius, .int .i64 zz.r.unit, .int .i64 zz.r.clicks, .int .i64 zz.r.total, .slice (some ⟨zz.gb, 0, none⟩) zz.r.group.length zz.gc, .slice (some ⟨zz.db, 0, none⟩) zz.r.drifts.length zz.dc, .slice (some ⟨zz.fb, 0, none⟩) zz.r.first.length zz.fc, .slice (some ⟨zz.nb, 0, none⟩) zz.r.next.length zz.nc] 25, .pt b10 [.int .i64 p.miss, .int .i64 p.click, .int .i64 p.wait, .int .i64 p.waits] 27, un zz.K, .ow vw 64 2 5 (spC ws), dkP (.slice a2 n2 c2) b2 0]) (by simp only [Cp.K, cpK]; repeat (first | exact Sp.nil | exact Sp.refl _ | refine Sp.cons (by repeat constructor) ?_)))
    have h2 := Sat.un_iff.1 (h1.sp (H' := un [.ow (.slice u1 zz.r.group.length e1) 3 1 zz.r.group.length (ints zz.r.group), .ow (.slice u2 zz.r.drifts.length e2) 3 1 zz.r.drifts.length (ints zz.r.drifts), .ow (.slice u3 zz.r.first.length e3) 3 1 zz.r.first.length (ints zz.r.first), .ow (.slice u4 zz.r.next.length e4) 22 1 zz.r.next.length (ys.map (·.1)), un (rowsO ys)] :: [.ow (.slice q1 zz.r.group.length d1) 3 1 zz.r.group.length (ints zz.r.group), .ow (.slice q2 zz.r.drifts.length d2) 3 1 zz.r.drifts.length (ints zz.r.drifts), .ow (.slice q3 zz.r.first.length d3) 3 1 zz.r.first.length (ints zz.r.first), .ow (.slice q4 zz.r.next.length d4) 22 1 zz.r.next.length (xs.map (·.1)), un (rowsO xs), .pt b13 [.int .i64 zz.r.radius, .int .i64 zz.r.unit, .int .i64 zz.r.clicks, .int .i64 zz.r.total, .slice q1 zz.r.group.length d1, .slice q2 zz.r.drifts.length d2, .slice q3 zz.r.first.length d3, .slice q4 zz.r.next.length d4] 25, .pt b14 [.int .i64 zz.r.radius, .int .i64 zz.r.unit, .int .i64 zz.r.clicks, .int .i64 zz.r.total, .slice u1 zz.r.group.length e1, .slice u2 zz.r.drifts.length e2, .slice u3 zz.r.first.length e3, .slice u4 zz.r.next.length e4] 25, .pt b9 [.int .i64 zz.r.radius, .int .i64 zz.r.unit, .int .i64 zz.r.clicks, .int .i64 zz.r.total, .slice (some ⟨zz.gb, 0, none⟩) zz.r.group.length zz.gc, .slice (some ⟨zz.db, 0, none⟩) zz.r.drifts.length zz.dc, .slice (some ⟨zz.fb, 0, none⟩) zz.r.first.length zz.fc, .slice (some ⟨zz.nb, 0, none⟩) zz.r.next.length zz.nc] 25, .pt b10 [.int .i64 p.miss, .int .i64 p.click, .int .i64 p.wait, .int .i64 p.waits] 27, un zz.K, .ow vw 64 2 5 (spC ws), dkP (.slice a2 n2 c2) b2 0]) (by repeat (first | exact Sp.nil | exact Sp.refl _ | refine Sp.cons (by repeat constructor) ?_)))
    exact h2.sp (by repeat (first | exact Sp.nil | exact Sp.refl _ | refine Sp.cons (by repeat constructor) ?_))) ?_
  have hg1 := hR.g1
  have hd1 := hR.d1
  have hfl := hR.first
  have hnl := hR.next
  have hxl := xs_len hxzz
  have hsm := madezz.small
  have hsm2 := hsm.drifts
  refine q_fact (fun w hs => hs.ownSome (v := .slice q1 zz.r.group.length d1) (by repeat first | exact .head _ | refine .tail _ ?_) (by omega)) ?_
  rintro ⟨gq1, cq1, h⟩
  cases h
  refine q_fact (fun w hs => hs.ownSome (v := .slice q2 zz.r.drifts.length d2) (by repeat first | exact .head _ | refine .tail _ ?_) (by omega)) ?_
  rintro ⟨gq2, cq2, h⟩
  cases h
  refine q_fact (fun w hs => hs.ownSome (v := .slice u2 zz.r.drifts.length e2) (by repeat first | exact .head _ | refine .tail _ ?_) (by omega)) ?_
  rintro ⟨gu2, cu2, h⟩
  cases h
  refine q_fact (fun w hs => hs.ownSome (v := .slice u3 zz.r.first.length e3) (by repeat first | exact .head _ | refine .tail _ ?_) (by omega)) ?_
  rintro ⟨gu3, cu3, h⟩
  cases h
  refine q_fact (fun w hs => hs.ownSome (v := .slice u4 zz.r.next.length e4) (by repeat first | exact .head _ | refine .tail _ ?_) (by omega)) ?_
  rintro ⟨gu4, cu4, h⟩
  cases h
  (refine q_seq ?_; refine q_region ?_; refine ql_pure tabOk rfl rfl ?_; refine ql_loadB tabOk rfl rfl rfl (by repeat first | exact .head _ | refine .tail _ ?_) (by rfl) ?_)
  refine ql_call (β := Unit) (ψ := fun _ v => v = .tuple #[]) (L' := fun _ => [.ow (.slice (some ⟨gq1, 0, none⟩) zz.r.group.length d1) 3 1 zz.r.group.length (ints zz.r.group.reverse)]) tabOk [.ow (.slice (some ⟨gq1, 0, none⟩) zz.r.group.length d1) 3 1 zz.r.group.length (ints zz.r.group)] _ (fun x => x = gq1) rfl rfl rfl rfl (Sp.cons (by repeat constructor) (Sp.refl _)) (fun x hx => ⟨_, .head _, by subst hx; rfl⟩) (fun w' hs => (rev_ca w' gq1 d1 zz.r.group (by have := madezz.small.group; omega) (hs.all _ (.head _))).mono fun v w'' h => ⟨(), h⟩) ?_
  rintro _ _ rfl
  (refine q_nil ?_; (iterate 2 refine q_seq ?_); refine q_region ?_; refine ql_pure tabOk rfl rfl ?_; refine ql_loadB tabOk rfl rfl rfl (by repeat first | exact .head _ | refine .tail _ ?_) (by rfl) ?_; (iterate 2 refine ql_pure tabOk rfl rfl ?_); refine q_nil ?_; refine q_block ?_)
  refine q_loop (σ := Nat) (fun s => s ≤ zz.r.drifts.length) (fun s => zz.r.drifts.length - s) (fun s => [(8, .pointer (some ⟨b2, 0, none⟩)), (9, .pointer (some ⟨b9, 0, none⟩)), (10, .pointer (some ⟨b10, 0, none⟩)), (11, vw), (12, .int .i64 ck), (13, .pointer (some ⟨b13, 0, none⟩)), (14, .pointer (some ⟨b14, 0, none⟩)), (70, .int .i64 zz.r.drifts.length), (71, .int .i64 s)])
    (fun s => [.ow (.slice (some ⟨gq2, 0, none⟩) zz.r.drifts.length d2) 3 1 zz.r.drifts.length (ints (turnS zz.r.drifts s)), .ow (.slice (some ⟨gq1, 0, none⟩) zz.r.group.length d1) 3 1 zz.r.group.length (ints zz.r.group.reverse), .ow (.slice q3 zz.r.first.length d3) 3 1 zz.r.first.length (ints zz.r.first), .ow (.slice q4 zz.r.next.length d4) 22 1 zz.r.next.length (xs.map (·.1)), un (rowsO xs), .pt b13 [.int .i64 zz.r.radius, .int .i64 zz.r.unit, .int .i64 zz.r.clicks, .int .i64 zz.r.total, .slice (some ⟨gq1, 0, none⟩) zz.r.group.length d1, .slice (some ⟨gq2, 0, none⟩) zz.r.drifts.length d2, .slice q3 zz.r.first.length d3, .slice q4 zz.r.next.length d4] 25, .pt b14 [.int .i64 zz.r.radius, .int .i64 zz.r.unit, .int .i64 zz.r.clicks, .int .i64 zz.r.total, .slice u1 zz.r.group.length e1, .slice (some ⟨gu2, 0, none⟩) zz.r.drifts.length e2, .slice (some ⟨gu3, 0, none⟩) zz.r.first.length e3, .slice (some ⟨gu4, 0, none⟩) zz.r.next.length e4] 25, .ow (.slice u1 zz.r.group.length e1) 3 1 zz.r.group.length (ints zz.r.group), .ow (.slice (some ⟨gu2, 0, none⟩) zz.r.drifts.length e2) 3 1 zz.r.drifts.length (ints (zz.r.drifts)), .ow (.slice (some ⟨gu3, 0, none⟩) zz.r.first.length e3) 3 1 zz.r.first.length (ints (zz.r.first)), .ow (.slice (some ⟨gu4, 0, none⟩) zz.r.next.length e4) 22 1 zz.r.next.length (ys.map (·.1)), un (rowsO ys), .pt b9 [.int .i64 zz.r.radius, .int .i64 zz.r.unit, .int .i64 zz.r.clicks, .int .i64 zz.r.total, .slice (some ⟨zz.gb, 0, none⟩) zz.r.group.length zz.gc, .slice (some ⟨zz.db, 0, none⟩) zz.r.drifts.length zz.dc, .slice (some ⟨zz.fb, 0, none⟩) zz.r.first.length zz.fc, .slice (some ⟨zz.nb, 0, none⟩) zz.r.next.length zz.nc] 25, .pt b10 [.int .i64 p.miss, .int .i64 p.click, .int .i64 p.wait, .int .i64 p.waits] 27, un zz.K, .ow vw 64 2 5 (spC ws), dkP (.slice a2 n2 c2) b2 0]) 0 (by omega) ⟨rfl, rfl, rfl, rfl, rfl, rfl, rfl, rfl, rfl, trivial⟩ (by simp only [turnS_0]; repeat (first | exact Sp.nil | exact Sp.refl _ | refine Sp.cons (by repeat constructor) ?_)) ?_
  intro i hi K hK
  (refine q_seq ?_; refine q_region ?_; refine ql_pure tabOk rfl rfl ?_; refine q_nil ?_; refine q_seq ?_)
  refine q_if rfl (fun hc => ?_) (fun hc => ?_)
  · have hi2 : i < zz.r.drifts.length := by omega
    clear hc
    have hdb := hR.drift zz.r.drifts[i] (List.getElem_mem hi2)
    have hti : i < (turnS zz.r.drifts i).length := by rw [turnS_length]; exact hi2
    have hte : (turnS zz.r.drifts i)[i]'hti = zz.r.drifts[i] := turnS_get _ _ hi2
    (refine q_skip ?_; refine q_seq ?_; refine q_block ?_; refine q_seq ?_; refine q_region ?_; (iterate 2 refine ql_pure tabOk rfl rfl ?_); refine q_nil ?_; refine q_region ?_; refine ql_pure tabOk rfl rfl ?_; refine ql_loadB tabOk rfl rfl rfl (by repeat first | exact .head _ | refine .tail _ ?_) (by rfl) ?_; refine ql_pure tabOk rfl rfl ?_)
    (refine ql_index tabOk rfl rfl rfl rfl rfl (by omega) (by omega) ?_; refine ql_load1 tabOk rfl rfl rfl (fun w hs => RdI.at (hs.rdI (l := turnS zz.r.drifts i) (t := 3) (n := zz.r.drifts.length) (by repeat first | exact .head _ | refine .tail _ ?_) (turnS_length _ _).symm) i hti) ?_)
    rw [hte]
    (refine ql_ar tabOk rfl rfl rfl rfl (by omega) (by omega) ?_)
    refine ql_index tabOk rfl rfl rfl rfl rfl (by omega) (by omega) ?_
    refine ql_storeW tabOk i rfl rfl rfl rfl (by repeat constructor) (by omega) (by simpa using hti) ?_
    rw [← List.map_set, turnS_set _ _ hi2]
    (refine q_nil ?_; refine q_blk ?_; refine q_region ?_; refine ql_ar tabOk rfl rfl rfl rfl (by omega) (by omega) ?_; refine ql_pure tabOk rfl rfl ?_; refine q_nil ?_)
    exact hK (i + 1) _ _ (by omega) (by omega) ⟨rfl, rfl, rfl, rfl, rfl, rfl, rfl, rfl, rfl, trivial⟩ (by repeat (first | exact Sp.nil | exact Sp.refl _ | refine Sp.cons (by repeat constructor) ?_))
  obtain rfl : i = zz.r.drifts.length := by omega
  clear hc hK
  rw [turnS_all]
  (refine q_exit _ rfl ?_; refine q_seq ?_; refine q_region ?_; (iterate 2 refine ql_pure tabOk rfl rfl ?_); refine ql_loadB tabOk rfl rfl rfl (by repeat first | exact .head _ | refine .tail _ ?_) (by rfl) ?_; refine ql_pure tabOk rfl rfl ?_)
  refine ql_call (β := Nat × Nat × List Nat × List Value) (ψ := fun x v => v = .slice (some ⟨x.1, 0, none⟩) zz.r.drifts.length x.2.1 ∧ x.2.2.1.Perm (List.range zz.r.drifts.length)) (L' := fun x => [.pt x.1 (ints (upN x.2.2.1) ++ x.2.2.2) 3, dkP (.slice a2 n2 c2) b2 (0 + (zz.r.drifts.length - 1))]) tabOk [dkP (.slice a2 n2 c2) b2 0] _ (fun x => x = b2) rfl rfl rfl rfl (Sp.cons (by repeat constructor) (Sp.refl _)) (fun x hx => ⟨_, .head _, hx⟩) (fun w' hs => shuf_ca zz.r.drifts.length (by omega) (by omega) 0 (by omega) w' b2 0 w.heap.size (.slice a2 n2 c2) (hbyb2.keep hs.chg0) (dk_new hs) (hs.all _ (.head _))) ?_
  rintro ⟨gs, cs, nm, sp⟩ _ ⟨rfl, hnm⟩
  dsimp only at hnm ⊢
  have hnml : nm.length = zz.r.drifts.length := by rw [hnm.length_eq, List.length_range]
  have hyl : ys.length = zz.r.drifts.length := by rw [← hnl, ← hy]; simp
  have hy0 : YI zz.r.drifts.length nm zz.r.next ys 0 0 ys := ⟨hyl, fun y hm => hR.rows _ (by rw [← hy]; exact List.mem_map.2 ⟨y, hm, rfl⟩), rfl, fun i u _ _ hc => by omega⟩
  (refine ql_pure tabOk rfl rfl ?_; refine q_nil ?_; (iterate 2 refine q_seq ?_); refine q_region ?_; refine ql_pure tabOk rfl rfl ?_; refine ql_loadB tabOk rfl rfl rfl (by repeat first | exact .head _ | refine .tail _ ?_) (by rfl) ?_; (iterate 2 refine ql_pure tabOk rfl rfl ?_); refine q_nil ?_; refine q_block ?_)
  refine q_loop (σ := Nat × List Int × List Int × List (Value × List Int)) (fun s => s.1 ≤ zz.r.drifts.length ∧ DI zz.r.drifts.length nm zz.r.drifts s.1 s.2.1 ∧ DI zz.r.drifts.length nm zz.r.first s.1 s.2.2.1 ∧ YI zz.r.drifts.length nm zz.r.next ys s.1 0 s.2.2.2) (fun s => zz.r.drifts.length - s.1) (fun s => [(8, .pointer (some ⟨b2, 0, none⟩)), (9, .pointer (some ⟨b9, 0, none⟩)), (10, .pointer (some ⟨b10, 0, none⟩)), (11, vw), (12, .int .i64 ck), (13, .pointer (some ⟨b13, 0, none⟩)), (14, .pointer (some ⟨b14, 0, none⟩)), (16, .slice (some ⟨gs, 0, none⟩) zz.r.drifts.length cs), (88, .slice (some ⟨zz.nb, 0, none⟩) zz.r.next.length zz.nc), (89, .int .i64 zz.r.drifts.length), (90, .int .i64 s.1)])
    (fun s => [.pt gs (ints (upN nm) ++ sp) 3, .ow (.slice (some ⟨gu2, 0, none⟩) zz.r.drifts.length e2) 3 1 zz.r.drifts.length (ints (s.2.1)), .ow (.slice (some ⟨gu3, 0, none⟩) zz.r.first.length e3) 3 1 zz.r.first.length (ints (s.2.2.1)), .ow (.slice (some ⟨gu4, 0, none⟩) zz.r.next.length e4) 22 1 zz.r.next.length (s.2.2.2.map (·.1)), un (rowsO s.2.2.2), .ow (.slice u1 zz.r.group.length e1) 3 1 zz.r.group.length (ints zz.r.group), .ow (.slice (some ⟨gq1, 0, none⟩) zz.r.group.length d1) 3 1 zz.r.group.length (ints zz.r.group.reverse), .ow (.slice (some ⟨gq2, 0, none⟩) zz.r.drifts.length d2) 3 1 zz.r.drifts.length (ints (zz.r.drifts.map (fun d => d * -1))), .ow (.slice q3 zz.r.first.length d3) 3 1 zz.r.first.length (ints zz.r.first), .ow (.slice q4 zz.r.next.length d4) 22 1 zz.r.next.length (xs.map (·.1)), un (rowsO xs), .pt b13 [.int .i64 zz.r.radius, .int .i64 zz.r.unit, .int .i64 zz.r.clicks, .int .i64 zz.r.total, .slice (some ⟨gq1, 0, none⟩) zz.r.group.length d1, .slice (some ⟨gq2, 0, none⟩) zz.r.drifts.length d2, .slice q3 zz.r.first.length d3, .slice q4 zz.r.next.length d4] 25, .pt b14 [.int .i64 zz.r.radius, .int .i64 zz.r.unit, .int .i64 zz.r.clicks, .int .i64 zz.r.total, .slice u1 zz.r.group.length e1, .slice (some ⟨gu2, 0, none⟩) zz.r.drifts.length e2, .slice (some ⟨gu3, 0, none⟩) zz.r.first.length e3, .slice (some ⟨gu4, 0, none⟩) zz.r.next.length e4] 25, .pt b9 [.int .i64 zz.r.radius, .int .i64 zz.r.unit, .int .i64 zz.r.clicks, .int .i64 zz.r.total, .slice (some ⟨zz.gb, 0, none⟩) zz.r.group.length zz.gc, .slice (some ⟨zz.db, 0, none⟩) zz.r.drifts.length zz.dc, .slice (some ⟨zz.fb, 0, none⟩) zz.r.first.length zz.fc, .slice (some ⟨zz.nb, 0, none⟩) zz.r.next.length zz.nc] 25, .pt b10 [.int .i64 p.miss, .int .i64 p.click, .int .i64 p.wait, .int .i64 p.waits] 27, un zz.K, .ow vw 64 2 5 (spC ws)]) (0, zz.r.drifts, zz.r.first, ys) ⟨Nat.zero_le _, ⟨rfl, fun i h _ => by omega⟩, ⟨hfl, fun i h _ => by omega⟩, hy0⟩ ⟨rfl, rfl, rfl, rfl, rfl, rfl, rfl, rfl, rfl, lookI rfl (by omega), rfl, trivial⟩ (by repeat (first | exact Sp.nil | exact Sp.refl _ | refine Sp.cons (by repeat constructor) ?_)) ?_
  rintro ⟨i, D, F, Y⟩ ⟨hi, hD, hF, hY⟩ K hK
  simp only at hi hD hF hY
  dsimp only
  (refine q_seq ?_; refine q_region ?_; refine ql_pure tabOk rfl rfl ?_; refine q_nil ?_; refine q_seq ?_)
  refine q_if rfl (fun hc => ?_) (fun hc => ?_)
  · have hi2 : i < zz.r.drifts.length := by omega
    clear hc
    have hix : i < zz.xs.length := by omega
    have hrow := xs_row hxzz i hix
    have hrl : zz.xs[i].2.length = zz.r.drifts.length := hR.rows _ (by rw [← hxzz]; exact List.mem_map.2 ⟨zz.xs[i], List.getElem_mem hix, rfl⟩)
    have hsl := sg_lt hnm hi2
    have hui : i < (upN nm).length := by simp; omega
    have hun : (upN nm)[i]'hui = ((sg nm i : Nat) : Int) := by simp [sg, List.getD_eq_getElem?_getD, show i < nm.length by omega]
    have hif : i < zz.r.first.length := by omega
    have hDl := hD.1
    have hslI : ((sg nm i : Nat) : Int) < zz.r.drifts.length := by exact_mod_cast hsl
    have hFl := hF.1
    (refine q_skip ?_; refine q_seq ?_; refine q_block ?_; refine q_seq ?_; refine q_region ?_; refine ql_pure tabOk rfl rfl ?_)
    refine ql_index tabOk rfl rfl rfl rfl rfl (by omega) (by omega) ?_
    refine ql_load1 tabOk rfl rfl rfl (fun w hs => MdS.rowAt (x := zz) hs (by repeat first | exact .head _ | refine .tail _ ?_) i hix) ?_
    ((iterate 2 refine ql_pure tabOk rfl rfl ?_); refine q_nil ?_; refine q_seq ?_)
    refine q_draw _ [.ow (.slice (some ⟨gu2, 0, none⟩) zz.r.drifts.length e2) 3 1 zz.r.drifts.length (ints (D)), .ow (.slice (some ⟨gu3, 0, none⟩) zz.r.first.length e3) 3 1 zz.r.first.length (ints (F))] (Sp.cons (by repeat constructor) (Sp.cons (by repeat constructor) (Sp.refl _))) (by kernel_rfl) (by kernel_rfl) ?_
    (refine qf_pure tabOk rfl rfl rfl ?_; refine qf_loadB tabOk rfl rfl rfl (by repeat first | exact .head _ | refine .tail _ ?_) (by rfl) ?_; (iterate 2 refine qf_pure tabOk rfl rfl rfl ?_))
    refine qf_index tabOk rfl rfl rfl rfl rfl (by omega) (by omega) ?_
    refine qf_loadQ (l := upN nm) tabOk i rfl rfl rfl (by repeat first | exact .head _ | refine .tail _ ?_) (by omega) hui ?_
    rw [hun]
    (refine qf_pure tabOk rfl rfl rfl ?_; refine qf_loadB tabOk rfl rfl rfl (by repeat first | exact .head _ | refine .tail _ ?_) (by rfl) ?_; (iterate 2 refine qf_pure tabOk rfl rfl rfl ?_))
    refine qf_index tabOk rfl rfl rfl rfl rfl (by omega) (by omega) ?_
    refine qf_loadQ (l := upN nm) tabOk i rfl rfl rfl (by repeat first | exact .head _ | refine .tail _ ?_) (by omega) hui ?_
    rw [hun]
    (refine qf_pure tabOk rfl rfl rfl ?_; refine qf_loadB tabOk rfl rfl rfl (by repeat first | exact .head _ | refine .tail _ ?_) (by rfl) ?_; refine qf_pure tabOk rfl rfl rfl ?_)
    (refine qf_index tabOk rfl rfl rfl rfl rfl (by omega) (by omega) ?_; refine qf_load1 tabOk rfl rfl rfl (fun w hs => RdI.at (MdS.rdD hs (by repeat first | exact .head _ | refine .tail _ ?_)) i hi2) ?_)
    (refine qf_pure tabOk rfl rfl rfl ?_; refine qf_loadB tabOk rfl rfl rfl (by repeat first | exact .head _ | refine .tail _ ?_) (by rfl) ?_; refine qf_pure tabOk rfl rfl rfl ?_)
    (refine qf_index tabOk rfl rfl rfl rfl rfl (by omega) (by omega) ?_; refine qf_load1 tabOk rfl rfl rfl (fun w hs => RdI.at (MdS.rdF hs (by repeat first | exact .head _ | refine .tail _ ?_)) i hif) ?_)
    skip
    refine qf_index tabOk rfl rfl rfl rfl rfl (by omega) (by omega) ?_
    refine qf_storeW tabOk (sg nm i) rfl rfl rfl rfl (by repeat constructor) (by omega) (by first | (rw [List.length_map]; omega) | (simp; omega)) ?_
    skip
    refine qf_index tabOk rfl rfl rfl rfl rfl (by omega) (by omega) ?_
    refine qf_storeW tabOk (sg nm i) rfl rfl rfl rfl (by repeat constructor) (by omega) (by first | (rw [List.length_map]; omega) | (simp; omega)) ?_
    have hed : zz.r.drifts[i] = zz.r.drifts.getD i 0 := by simp [List.getD_eq_getElem?_getD, hi2]
    have hef : zz.r.first[i] = zz.r.first.getD i 0 := by simp [List.getD_eq_getElem?_getD, hif]
    rw [← List.map_set, ← List.map_set, hed, hef]
    have hDD := hD.step hnm hi2
    have hFF := hF.step hnm hi2
    obtain ⟨Dn, hDe⟩ : ∃ z, z = D.set (sg nm i) (zz.r.drifts.getD i 0) := ⟨_, rfl⟩
    obtain ⟨Fn, hFe⟩ : ∃ z, z = F.set (sg nm i) (zz.r.first.getD i 0) := ⟨_, rfl⟩
    rw [← hDe] at hDD ⊢
    rw [← hFe] at hFF ⊢
    (refine qf_nil ?_; refine q_seq ?_; refine q_region ?_; (iterate 3 refine ql_pure tabOk rfl rfl ?_); refine q_nil ?_; refine q_block ?_)
    refine q_loop (σ := Nat × List (Value × List Int)) (fun s => s.1 ≤ zz.r.drifts.length ∧ YI zz.r.drifts.length nm zz.r.next ys i s.1 s.2) (fun s => zz.r.drifts.length - s.1) (fun s => [(8, .pointer (some ⟨b2, 0, none⟩)), (9, .pointer (some ⟨b9, 0, none⟩)), (10, .pointer (some ⟨b10, 0, none⟩)), (11, vw), (12, .int .i64 ck), (13, .pointer (some ⟨b13, 0, none⟩)), (14, .pointer (some ⟨b14, 0, none⟩)), (16, .slice (some ⟨gs, 0, none⟩) zz.r.drifts.length cs), (17, .int .i64 i), (88, .slice (some ⟨zz.nb, 0, none⟩) zz.r.next.length zz.nc), (89, .int .i64 zz.r.drifts.length), (90, .int .i64 i), (119, .slice (some ⟨zz.xs[i].1, 0, none⟩) zz.xs[i].2.length zz.xs[i].2.length), (120, .int .i64 zz.r.drifts.length), (121, .int .i64 s.1)])
      (fun s => [.ow (.slice (some ⟨gu4, 0, none⟩) zz.r.next.length e4) 22 1 zz.r.next.length (s.2.map (·.1)), un (rowsO s.2), .pt gs (ints (upN nm) ++ sp) 3, .ow (.slice (some ⟨gu2, 0, none⟩) zz.r.drifts.length e2) 3 1 zz.r.drifts.length (ints (Dn)), .ow (.slice (some ⟨gu3, 0, none⟩) zz.r.first.length e3) 3 1 zz.r.first.length (ints (Fn)), .ow (.slice u1 zz.r.group.length e1) 3 1 zz.r.group.length (ints zz.r.group), .ow (.slice (some ⟨gq1, 0, none⟩) zz.r.group.length d1) 3 1 zz.r.group.length (ints zz.r.group.reverse), .ow (.slice (some ⟨gq2, 0, none⟩) zz.r.drifts.length d2) 3 1 zz.r.drifts.length (ints (zz.r.drifts.map (fun d => d * -1))), .ow (.slice q3 zz.r.first.length d3) 3 1 zz.r.first.length (ints zz.r.first), .ow (.slice q4 zz.r.next.length d4) 22 1 zz.r.next.length (xs.map (·.1)), un (rowsO xs), .pt b13 [.int .i64 zz.r.radius, .int .i64 zz.r.unit, .int .i64 zz.r.clicks, .int .i64 zz.r.total, .slice (some ⟨gq1, 0, none⟩) zz.r.group.length d1, .slice (some ⟨gq2, 0, none⟩) zz.r.drifts.length d2, .slice q3 zz.r.first.length d3, .slice q4 zz.r.next.length d4] 25, .pt b14 [.int .i64 zz.r.radius, .int .i64 zz.r.unit, .int .i64 zz.r.clicks, .int .i64 zz.r.total, .slice u1 zz.r.group.length e1, .slice (some ⟨gu2, 0, none⟩) zz.r.drifts.length e2, .slice (some ⟨gu3, 0, none⟩) zz.r.first.length e3, .slice (some ⟨gu4, 0, none⟩) zz.r.next.length e4] 25, .pt b9 [.int .i64 zz.r.radius, .int .i64 zz.r.unit, .int .i64 zz.r.clicks, .int .i64 zz.r.total, .slice (some ⟨zz.gb, 0, none⟩) zz.r.group.length zz.gc, .slice (some ⟨zz.db, 0, none⟩) zz.r.drifts.length zz.dc, .slice (some ⟨zz.fb, 0, none⟩) zz.r.first.length zz.fc, .slice (some ⟨zz.nb, 0, none⟩) zz.r.next.length zz.nc] 25, .pt b10 [.int .i64 p.miss, .int .i64 p.click, .int .i64 p.wait, .int .i64 p.waits] 27, un zz.K, .ow vw 64 2 5 (spC ws)]) (0, Y) ⟨Nat.zero_le _, hY⟩ ⟨rfl, rfl, rfl, rfl, rfl, rfl, rfl, rfl, rfl, rfl, rfl, rfl, rfl, lookI rfl (by omega), rfl, trivial⟩ (by repeat (first | exact Sp.nil | exact Sp.refl _ | refine Sp.cons (by repeat constructor) ?_)) ?_
    rintro ⟨t, Y2⟩ ⟨ht, hY2⟩ K2 hK2
    simp only at ht hY2
    dsimp only
    (refine q_seq ?_; refine q_region ?_; refine ql_pure tabOk rfl rfl ?_; refine q_nil ?_; refine q_seq ?_)
    refine q_if rfl (fun hc => ?_) (fun hc => ?_)
    · have ht2 : t < zz.r.drifts.length := by omega
      clear hc
      have htr : t < zz.xs[i].2.length := by omega
      have hjl : sg nm i < Y2.length := by rw [hY2.len]; exact hsl
      have hyr := hY2.rows _ (List.getElem_mem hjl)
      (refine q_skip ?_; refine q_seq ?_; refine q_block ?_; refine q_seq ?_; refine q_region ?_; refine ql_pure tabOk rfl rfl ?_)
      (refine ql_index tabOk rfl rfl rfl rfl rfl (by omega) (by omega) ?_; refine ql_load1 tabOk rfl rfl rfl (fun w hs => RdI.at (MdS.rdRow (x := zz) hs (by repeat first | exact .head _ | refine .tail _ ?_) i hix) t htr) ?_)
      ((iterate 2 refine ql_pure tabOk rfl rfl ?_); refine q_nil ?_)
      refine q_conv (H' := [.ow Y2[sg nm i].1 3 1 Y2[sg nm i].2.length (ints Y2[sg nm i].2), un (rowsO (Y2.eraseIdx (sg nm i))), .ow (.slice (some ⟨gu4, 0, none⟩) zz.r.next.length e4) 22 1 zz.r.next.length (Y2.map (·.1)), .pt gs (ints (upN nm) ++ sp) 3, .ow (.slice (some ⟨gu2, 0, none⟩) zz.r.drifts.length e2) 3 1 zz.r.drifts.length (ints (Dn)), .ow (.slice (some ⟨gu3, 0, none⟩) zz.r.first.length e3) 3 1 zz.r.first.length (ints (Fn)), .ow (.slice u1 zz.r.group.length e1) 3 1 zz.r.group.length (ints zz.r.group), .ow (.slice (some ⟨gq1, 0, none⟩) zz.r.group.length d1) 3 1 zz.r.group.length (ints zz.r.group.reverse), .ow (.slice (some ⟨gq2, 0, none⟩) zz.r.drifts.length d2) 3 1 zz.r.drifts.length (ints (zz.r.drifts.map (fun d => d * -1))), .ow (.slice q3 zz.r.first.length d3) 3 1 zz.r.first.length (ints zz.r.first), .ow (.slice q4 zz.r.next.length d4) 22 1 zz.r.next.length (xs.map (·.1)), un (rowsO xs), .pt b13 [.int .i64 zz.r.radius, .int .i64 zz.r.unit, .int .i64 zz.r.clicks, .int .i64 zz.r.total, .slice (some ⟨gq1, 0, none⟩) zz.r.group.length d1, .slice (some ⟨gq2, 0, none⟩) zz.r.drifts.length d2, .slice q3 zz.r.first.length d3, .slice q4 zz.r.next.length d4] 25, .pt b14 [.int .i64 zz.r.radius, .int .i64 zz.r.unit, .int .i64 zz.r.clicks, .int .i64 zz.r.total, .slice u1 zz.r.group.length e1, .slice (some ⟨gu2, 0, none⟩) zz.r.drifts.length e2, .slice (some ⟨gu3, 0, none⟩) zz.r.first.length e3, .slice (some ⟨gu4, 0, none⟩) zz.r.next.length e4] 25, .pt b9 [.int .i64 zz.r.radius, .int .i64 zz.r.unit, .int .i64 zz.r.clicks, .int .i64 zz.r.total, .slice (some ⟨zz.gb, 0, none⟩) zz.r.group.length zz.gc, .slice (some ⟨zz.db, 0, none⟩) zz.r.drifts.length zz.dc, .slice (some ⟨zz.fb, 0, none⟩) zz.r.first.length zz.fc, .slice (some ⟨zz.nb, 0, none⟩) zz.r.next.length zz.nc] 25, .pt b10 [.int .i64 p.miss, .int .i64 p.click, .int .i64 p.wait, .int .i64 p.waits] 27, un zz.K, .ow vw 64 2 5 (spC ws)]) (fun w' hs => by
        exact (rows_out (sg nm i) hjl (hs.sp (H' := un (rowsO Y2) :: [.ow (.slice (some ⟨gu4, 0, none⟩) zz.r.next.length e4) 22 1 zz.r.next.length (Y2.map (·.1)), .pt gs (ints (upN nm) ++ sp) 3, .ow (.slice (some ⟨gu2, 0, none⟩) zz.r.drifts.length e2) 3 1 zz.r.drifts.length (ints (Dn)), .ow (.slice (some ⟨gu3, 0, none⟩) zz.r.first.length e3) 3 1 zz.r.first.length (ints (Fn)), .ow (.slice u1 zz.r.group.length e1) 3 1 zz.r.group.length (ints zz.r.group), .ow (.slice (some ⟨gq1, 0, none⟩) zz.r.group.length d1) 3 1 zz.r.group.length (ints zz.r.group.reverse), .ow (.slice (some ⟨gq2, 0, none⟩) zz.r.drifts.length d2) 3 1 zz.r.drifts.length (ints (zz.r.drifts.map (fun d => d * -1))), .ow (.slice q3 zz.r.first.length d3) 3 1 zz.r.first.length (ints zz.r.first), .ow (.slice q4 zz.r.next.length d4) 22 1 zz.r.next.length (xs.map (·.1)), un (rowsO xs), .pt b13 [.int .i64 zz.r.radius, .int .i64 zz.r.unit, .int .i64 zz.r.clicks, .int .i64 zz.r.total, .slice (some ⟨gq1, 0, none⟩) zz.r.group.length d1, .slice (some ⟨gq2, 0, none⟩) zz.r.drifts.length d2, .slice q3 zz.r.first.length d3, .slice q4 zz.r.next.length d4] 25, .pt b14 [.int .i64 zz.r.radius, .int .i64 zz.r.unit, .int .i64 zz.r.clicks, .int .i64 zz.r.total, .slice u1 zz.r.group.length e1, .slice (some ⟨gu2, 0, none⟩) zz.r.drifts.length e2, .slice (some ⟨gu3, 0, none⟩) zz.r.first.length e3, .slice (some ⟨gu4, 0, none⟩) zz.r.next.length e4] 25, .pt b9 [.int .i64 zz.r.radius, .int .i64 zz.r.unit, .int .i64 zz.r.clicks, .int .i64 zz.r.total, .slice (some ⟨zz.gb, 0, none⟩) zz.r.group.length zz.gc, .slice (some ⟨zz.db, 0, none⟩) zz.r.drifts.length zz.dc, .slice (some ⟨zz.fb, 0, none⟩) zz.r.first.length zz.fc, .slice (some ⟨zz.nb, 0, none⟩) zz.r.next.length zz.nc] 25, .pt b10 [.int .i64 p.miss, .int .i64 p.click, .int .i64 p.wait, .int .i64 p.waits] 27, un zz.K, .ow vw 64 2 5 (spC ws)]) (by repeat (first | exact Sp.nil | exact Sp.refl _ | refine Sp.cons (by repeat constructor) ?_)))).sp (by repeat (first | exact Sp.nil | exact Sp.refl _ | refine Sp.cons (by repeat constructor) ?_))) ?_
      have hes : (Y2.map (·.1))[sg nm i]'(by simpa using hjl) = Y2[sg nm i].1 := by simp
      have hst := hY2.step hnm hi2 ht2 hjl
      have hrin : ∀ (l : List Int), l.length = Y2[sg nm i].2.length → ∀ (w' : World) (R : List Ck), Sat w M0 (.ow Y2[sg nm i].1 3 1 Y2[sg nm i].2.length (ints l) :: un (rowsO (Y2.eraseIdx (sg nm i))) :: R) w' → Sat w M0 (un (rowsO (Y2.set (sg nm i) (Y2[sg nm i].1, l))) :: R) w' := fun l hl w' R hs => rows_in (sg nm i) hjl l hl hs
      have hmap : (Y2.set (sg nm i) (Y2[sg nm i].1, Y2[sg nm i].2.set (sg nm t) ((zz.r.next.getD i []).getD t 0))).map (·.1) = Y2.map (·.1) := by rw [hst.fst, hY2.fst]
      obtain ⟨vj, hvj⟩ : ∃ v, v = Y2[sg nm i].1 := ⟨_, rfl⟩
      obtain ⟨lj, hlj⟩ : ∃ l, l = Y2[sg nm i].2 := ⟨_, rfl⟩
      rw [← hvj, ← hlj] at hrin hst hmap ⊢
      rw [← hlj] at hyr
      rw [← hvj] at hes
      refine q_fact (fun w hs => hs.ownSome (v := vj) (by repeat first | exact .head _ | refine .tail _ ?_) (by omega)) ?_
      rintro ⟨gj, cj, rfl⟩
      have htl := sg_lt hnm ht2
      have hut : t < (upN nm).length := by simp; omega
      have hunt : (upN nm)[t]'hut = ((sg nm t : Nat) : Int) := by simp [sg, List.getD_eq_getElem?_getD, show t < nm.length by omega]
      have hev : zz.xs[i].2[t] = (zz.r.next.getD i []).getD t 0 := by rw [hrow]; simp [List.getD_eq_getElem?_getD, htr]
      rw [hev]
      refine q_draw _ [.ow (.slice (some ⟨gj, 0, none⟩) lj.length cj) 3 1 lj.length (ints lj)] (Sp.cons (by repeat constructor) (Sp.refl _)) (by kernel_rfl) (by kernel_rfl) ?_
      (refine qf_pure tabOk rfl rfl rfl ?_; refine qf_loadB tabOk rfl rfl rfl (by repeat first | exact .head _ | refine .tail _ ?_) (by rfl) ?_; (iterate 2 refine qf_pure tabOk rfl rfl rfl ?_))
      refine qf_index tabOk rfl rfl rfl rfl rfl (by omega) (by omega) ?_
      refine qf_loadQ (l := upN nm) tabOk i rfl rfl rfl (by repeat first | exact .head _ | refine .tail _ ?_) (by omega) hui ?_
      rw [hun]
      skip
      refine qf_index tabOk rfl rfl rfl rfl rfl (by omega) (by omega) ?_
      refine qf_load1 (v := .slice (some ⟨gj, 0, none⟩) lj.length cj) tabOk rfl rfl rfl (fun w hs => by have h := own_cell (hs.all (.ow (.slice (some ⟨gu4, 0, none⟩) zz.r.next.length e4) 22 1 zz.r.next.length (Y2.map (·.1))) (by repeat first | exact .head _ | refine .tail _ ?_)) (sg nm i) (by simpa using hjl); rw [hes] at h; rw [show 0 + ((sg nm i : Nat) : Int).toNat * 1 = sg nm i by omega]; exact h) ?_
      ((iterate 2 refine qf_pure tabOk rfl rfl rfl ?_))
      refine qf_index tabOk rfl rfl rfl rfl rfl (by omega) (by omega) ?_
      refine qf_loadQ (l := upN nm) tabOk t rfl rfl rfl (by repeat first | exact .head _ | refine .tail _ ?_) (by omega) hut ?_
      rw [hunt]
      (refine qf_pure tabOk rfl rfl rfl ?_)
      refine qf_index tabOk rfl rfl rfl rfl rfl (by omega) (by omega) ?_
      refine qf_storeW tabOk (sg nm t) rfl rfl rfl rfl (by repeat constructor) (by omega) (by rw [List.length_map]; omega) ?_
      rw [← List.map_set]
      (refine qf_nil ?_; refine q_blk ?_; refine q_region ?_; refine ql_ar tabOk rfl rfl rfl rfl (by omega) (by omega) ?_; refine ql_pure tabOk rfl rfl ?_; refine q_nil ?_)
      refine q_conv (H' := [un (rowsO (Y2.set (sg nm i) (.slice (some ⟨gj, 0, none⟩) lj.length cj, lj.set (sg nm t) ((zz.r.next.getD i []).getD t 0)))), .ow (.slice (some ⟨gu4, 0, none⟩) zz.r.next.length e4) 22 1 zz.r.next.length (Y2.map (·.1)), .pt gs (ints (upN nm) ++ sp) 3, .ow (.slice (some ⟨gu2, 0, none⟩) zz.r.drifts.length e2) 3 1 zz.r.drifts.length (ints (Dn)), .ow (.slice (some ⟨gu3, 0, none⟩) zz.r.first.length e3) 3 1 zz.r.first.length (ints (Fn)), .ow (.slice u1 zz.r.group.length e1) 3 1 zz.r.group.length (ints zz.r.group), .ow (.slice (some ⟨gq1, 0, none⟩) zz.r.group.length d1) 3 1 zz.r.group.length (ints zz.r.group.reverse), .ow (.slice (some ⟨gq2, 0, none⟩) zz.r.drifts.length d2) 3 1 zz.r.drifts.length (ints (zz.r.drifts.map (fun d => d * -1))), .ow (.slice q3 zz.r.first.length d3) 3 1 zz.r.first.length (ints zz.r.first), .ow (.slice q4 zz.r.next.length d4) 22 1 zz.r.next.length (xs.map (·.1)), un (rowsO xs), .pt b13 [.int .i64 zz.r.radius, .int .i64 zz.r.unit, .int .i64 zz.r.clicks, .int .i64 zz.r.total, .slice (some ⟨gq1, 0, none⟩) zz.r.group.length d1, .slice (some ⟨gq2, 0, none⟩) zz.r.drifts.length d2, .slice q3 zz.r.first.length d3, .slice q4 zz.r.next.length d4] 25, .pt b14 [.int .i64 zz.r.radius, .int .i64 zz.r.unit, .int .i64 zz.r.clicks, .int .i64 zz.r.total, .slice u1 zz.r.group.length e1, .slice (some ⟨gu2, 0, none⟩) zz.r.drifts.length e2, .slice (some ⟨gu3, 0, none⟩) zz.r.first.length e3, .slice (some ⟨gu4, 0, none⟩) zz.r.next.length e4] 25, .pt b9 [.int .i64 zz.r.radius, .int .i64 zz.r.unit, .int .i64 zz.r.clicks, .int .i64 zz.r.total, .slice (some ⟨zz.gb, 0, none⟩) zz.r.group.length zz.gc, .slice (some ⟨zz.db, 0, none⟩) zz.r.drifts.length zz.dc, .slice (some ⟨zz.fb, 0, none⟩) zz.r.first.length zz.fc, .slice (some ⟨zz.nb, 0, none⟩) zz.r.next.length zz.nc] 25, .pt b10 [.int .i64 p.miss, .int .i64 p.click, .int .i64 p.wait, .int .i64 p.waits] 27, un zz.K, .ow vw 64 2 5 (spC ws)]) (fun w' hs => hrin _ (by simp) w' _ (hs.sp (by repeat (first | exact Sp.nil | exact Sp.refl _ | refine Sp.cons (by repeat constructor) ?_)))) ?_
      rw [← hmap]
      exact hK2 (t + 1, _) _ _ ⟨by simp only; omega, hst⟩ (by simp only; omega) ⟨rfl, rfl, rfl, rfl, rfl, rfl, rfl, rfl, rfl, rfl, rfl, rfl, rfl, lookI rfl (by omega), rfl, trivial⟩ (by repeat (first | exact Sp.nil | exact Sp.refl _ | refine Sp.cons (by repeat constructor) ?_))
    obtain rfl : t = zz.r.drifts.length := by omega
    clear hc hK2
    (refine q_exit _ rfl ?_; refine q_blk ?_; refine q_region ?_; refine ql_ar tabOk rfl rfl rfl rfl (by omega) (by omega) ?_; refine ql_pure tabOk rfl rfl ?_; refine q_nil ?_)
    exact hK (i + 1, Dn, Fn, Y2) _ _ ⟨by simp only; omega, hDD, hFF, hY2.next⟩ (by simp only; omega) ⟨rfl, rfl, rfl, rfl, rfl, rfl, rfl, rfl, rfl, lookI rfl (by omega), rfl, trivial⟩ (by repeat (first | exact Sp.nil | exact Sp.refl _ | refine Sp.cons (by repeat constructor) ?_))
  obtain rfl : i = zz.r.drifts.length := by omega
  clear hc hK
  have hwl := hws.1
  refine q_fact (fun w hs => hs.ownSome (v := vw) (by repeat first | exact .head _ | refine .tail _ ?_) (by omega)) ?_
  rintro ⟨gw, cw, rfl⟩
  (refine q_exit _ rfl ?_; refine q_seq ?_; refine q_region ?_; refine ql_pure tabOk rfl rfl ?_; refine q_nil ?_; (iterate 2 refine q_seq ?_); refine q_region ?_; (iterate 3 refine ql_pure tabOk rfl rfl ?_); refine q_nil ?_; refine q_block ?_)
  refine q_conv (H' := [.ow (.slice none 0 0) 64 2 0 (spC ((turnW ws).take 0)), .ow (.slice (some ⟨gu2, 0, none⟩) zz.r.drifts.length e2) 3 1 zz.r.drifts.length (ints (D)), .ow (.slice (some ⟨gu3, 0, none⟩) zz.r.first.length e3) 3 1 zz.r.first.length (ints (F)), .ow (.slice (some ⟨gu4, 0, none⟩) zz.r.next.length e4) 22 1 zz.r.next.length (Y.map (·.1)), un (rowsO Y), .pt gs (ints (upN nm) ++ sp) 3, .ow (.slice u1 zz.r.group.length e1) 3 1 zz.r.group.length (ints zz.r.group), .ow (.slice (some ⟨gq1, 0, none⟩) zz.r.group.length d1) 3 1 zz.r.group.length (ints zz.r.group.reverse), .ow (.slice (some ⟨gq2, 0, none⟩) zz.r.drifts.length d2) 3 1 zz.r.drifts.length (ints (zz.r.drifts.map (fun d => d * -1))), .ow (.slice q3 zz.r.first.length d3) 3 1 zz.r.first.length (ints zz.r.first), .ow (.slice q4 zz.r.next.length d4) 22 1 zz.r.next.length (xs.map (·.1)), un (rowsO xs), .pt b13 [.int .i64 zz.r.radius, .int .i64 zz.r.unit, .int .i64 zz.r.clicks, .int .i64 zz.r.total, .slice (some ⟨gq1, 0, none⟩) zz.r.group.length d1, .slice (some ⟨gq2, 0, none⟩) zz.r.drifts.length d2, .slice q3 zz.r.first.length d3, .slice q4 zz.r.next.length d4] 25, .pt b14 [.int .i64 zz.r.radius, .int .i64 zz.r.unit, .int .i64 zz.r.clicks, .int .i64 zz.r.total, .slice u1 zz.r.group.length e1, .slice (some ⟨gu2, 0, none⟩) zz.r.drifts.length e2, .slice (some ⟨gu3, 0, none⟩) zz.r.first.length e3, .slice (some ⟨gu4, 0, none⟩) zz.r.next.length e4] 25, .pt b9 [.int .i64 zz.r.radius, .int .i64 zz.r.unit, .int .i64 zz.r.clicks, .int .i64 zz.r.total, .slice (some ⟨zz.gb, 0, none⟩) zz.r.group.length zz.gc, .slice (some ⟨zz.db, 0, none⟩) zz.r.drifts.length zz.dc, .slice (some ⟨zz.fb, 0, none⟩) zz.r.first.length zz.fc, .slice (some ⟨zz.nb, 0, none⟩) zz.r.next.length zz.nc] 25, .pt b10 [.int .i64 p.miss, .int .i64 p.click, .int .i64 p.wait, .int .i64 p.waits] 27, un zz.K, .ow (.slice (some ⟨gw, 0, none⟩) 5 cw) 64 2 5 (spC ws)]) (fun w' hs => Sat.ownil (hs.sp (by repeat (first | exact Sp.nil | exact Sp.refl _ | refine Sp.cons (by repeat constructor) ?_))) _ _) ?_
  refine q_loop (σ := Nat × Value) (fun s => s.1 ≤ 5) (fun s => 5 - s.1) (fun s => [(8, .pointer (some ⟨b2, 0, none⟩)), (9, .pointer (some ⟨b9, 0, none⟩)), (10, .pointer (some ⟨b10, 0, none⟩)), (11, .slice (some ⟨gw, 0, none⟩) 5 cw), (12, .int .i64 ck), (13, .pointer (some ⟨b13, 0, none⟩)), (14, .pointer (some ⟨b14, 0, none⟩)), (21, s.2), (142, .slice (some ⟨gw, 0, none⟩) 5 cw), (143, .int .i64 5), (144, .int .i64 s.1)])
    (fun s => [.ow s.2 64 2 s.1 (spC ((turnW ws).take s.1)), .ow (.slice (some ⟨gu2, 0, none⟩) zz.r.drifts.length e2) 3 1 zz.r.drifts.length (ints (D)), .ow (.slice (some ⟨gu3, 0, none⟩) zz.r.first.length e3) 3 1 zz.r.first.length (ints (F)), .ow (.slice (some ⟨gu4, 0, none⟩) zz.r.next.length e4) 22 1 zz.r.next.length (Y.map (·.1)), un (rowsO Y), .pt gs (ints (upN nm) ++ sp) 3, .ow (.slice u1 zz.r.group.length e1) 3 1 zz.r.group.length (ints zz.r.group), .ow (.slice (some ⟨gq1, 0, none⟩) zz.r.group.length d1) 3 1 zz.r.group.length (ints zz.r.group.reverse), .ow (.slice (some ⟨gq2, 0, none⟩) zz.r.drifts.length d2) 3 1 zz.r.drifts.length (ints (zz.r.drifts.map (fun d => d * -1))), .ow (.slice q3 zz.r.first.length d3) 3 1 zz.r.first.length (ints zz.r.first), .ow (.slice q4 zz.r.next.length d4) 22 1 zz.r.next.length (xs.map (·.1)), un (rowsO xs), .pt b13 [.int .i64 zz.r.radius, .int .i64 zz.r.unit, .int .i64 zz.r.clicks, .int .i64 zz.r.total, .slice (some ⟨gq1, 0, none⟩) zz.r.group.length d1, .slice (some ⟨gq2, 0, none⟩) zz.r.drifts.length d2, .slice q3 zz.r.first.length d3, .slice q4 zz.r.next.length d4] 25, .pt b14 [.int .i64 zz.r.radius, .int .i64 zz.r.unit, .int .i64 zz.r.clicks, .int .i64 zz.r.total, .slice u1 zz.r.group.length e1, .slice (some ⟨gu2, 0, none⟩) zz.r.drifts.length e2, .slice (some ⟨gu3, 0, none⟩) zz.r.first.length e3, .slice (some ⟨gu4, 0, none⟩) zz.r.next.length e4] 25, .pt b9 [.int .i64 zz.r.radius, .int .i64 zz.r.unit, .int .i64 zz.r.clicks, .int .i64 zz.r.total, .slice (some ⟨zz.gb, 0, none⟩) zz.r.group.length zz.gc, .slice (some ⟨zz.db, 0, none⟩) zz.r.drifts.length zz.dc, .slice (some ⟨zz.fb, 0, none⟩) zz.r.first.length zz.fc, .slice (some ⟨zz.nb, 0, none⟩) zz.r.next.length zz.nc] 25, .pt b10 [.int .i64 p.miss, .int .i64 p.click, .int .i64 p.wait, .int .i64 p.waits] 27, un zz.K, .ow (.slice (some ⟨gw, 0, none⟩) 5 cw) 64 2 5 (spC ws)]) (0, .slice none 0 0) (by simp) ⟨rfl, rfl, rfl, rfl, rfl, rfl, rfl, rfl, rfl, rfl, rfl, trivial⟩ (Sp.refl _) ?_
  rintro ⟨t, v⟩ ht K hK
  simp only at ht
  dsimp only
  (refine q_seq ?_; refine q_region ?_; refine ql_pure tabOk rfl rfl ?_; refine q_nil ?_; refine q_seq ?_)
  refine q_if rfl (fun hc => ?_) (fun hc => ?_)
  · have ht2 : t < ws.length := by omega
    clear hc
    have htw : t < (turnW ws).length := by simp [turnW]; exact ht2
    have hwt := hws.2 _ (List.getElem_mem ht2)
    have etk : (turnW ws).take (t + 1) = (turnW ws).take t ++ [(-ws[t].2, -ws[t].1)] := by rw [List.take_succ_eq_append_getElem htw]; simp [turnW]
    have e1 : spC ((turnW ws).take (t + 1)) = spC ((turnW ws).take t) ++ [.int .i64 (-ws[t].2), .int .i64 (-ws[t].1)] := by rw [etk]; simp [spC]
    (refine q_skip ?_; refine q_seq ?_; refine q_block ?_; refine q_seq ?_; refine q_region ?_)
    (refine ql_index tabOk rfl rfl rfl rfl rfl (by omega) (by omega) ?_; refine ql_loadA tabOk rfl rfl rfl rfl (fun w hs => RdS.at (Sat.rdSp hs (t := 64) (k := 5) (by repeat first | exact .head _ | refine .tail _ ?_) hws.1.symm) t ht2) ?_)
    skip
    refine ql_alloc zero64 rfl (fun b23 => ?_)
    (refine ql_setA tabOk rfl rfl rfl rfl rfl (by repeat constructor) rfl ?_; refine q_nil ?_; refine q_region ?_; (iterate 2 refine ql_pure tabOk rfl rfl ?_); refine ql_loadB tabOk rfl rfl rfl (by repeat first | exact .head _ | refine .tail _ ?_) (by rfl) ?_; refine ql_neg tabOk rfl rfl (by omega) (by omega) ?_; refine ql_pure tabOk rfl rfl ?_; refine ql_loadB tabOk rfl rfl rfl (by repeat first | exact .head _ | refine .tail _ ?_) (by rfl) ?_; refine ql_neg tabOk rfl rfl (by omega) (by omega) ?_)
    refine ql_mk #[.int .i64 (-ws[t].2), .int .i64 (-ws[t].1)] rfl (by kernel_rfl) rfl ?_
    refine ql_mkS 64 [.int .i64 (-ws[t].2), .int .i64 (-ws[t].1)] rfl (by kernel_rfl) rfl (fun bn => ?_)
    refine ql_append (q := 1) slSP rfl rfl rfl (fun v' => by repeat constructor) (fun w' hs => ⟨_, _, Blk.rdSp (hs.blk (b := bn) (by repeat first | exact .head _ | refine .tail _ ?_))⟩) (by simp [oneV]) (by omega) (by omega) (fun v' => ?_)
    (refine ql_pure tabOk rfl rfl ?_; refine q_nil ?_; refine q_blk ?_; refine q_region ?_; refine ql_ar tabOk rfl rfl rfl rfl (by omega) (by omega) ?_; refine ql_pure tabOk rfl rfl ?_; refine q_nil ?_)
    exact hK (t + 1, v') _ _ (by simp only; omega) (by simp only; omega) ⟨rfl, rfl, rfl, rfl, rfl, rfl, rfl, rfl, rfl, rfl, rfl, trivial⟩ (by simp only [e1]; repeat (first | exact Sp.nil | exact Sp.refl _ | refine Sp.cons (by repeat constructor) ?_))
  obtain rfl : t = 5 := by omega
  clear hc hK
  rw [List.take_of_length_le (by simp [turnW, hwl])]
  have htR := turn_right hR
  have htT := turn_turned hR
  have hnR := nm_right hR hnm hD hF hY
  have hnN := nm_named hR hnm hD hF hY
  have htL : (turnR zz.r).Low := ⟨htR, hlow.total, by have := hlow.gsum; simpa [turnR] using this⟩
  have hnL : (nmR zz.r D F Y).Low := ⟨hnR, hlow.total, hlow.gsum⟩
  have htS : (turnR zz.r).Small := ⟨by simpa [turnR] using hsm.group, by simpa [turnR] using hsm.drifts, hsm.first, hsm.next, hsm.rows⟩
  have hnS : (nmR zz.r D F Y).Small := ⟨hsm.group, by show D.length ≤ 7; rw [hD.1]; exact hsm.drifts, by show F.length ≤ 7; rw [hF.1, ← hfl]; exact hsm.first, by show (Y.map (·.2)).length ≤ 7; rw [List.length_map, hY.len, ← hnl]; exact hsm.next, fun l hl => by have := hnR.rows l hl; rw [this]; show D.length ≤ 7; rw [hD.1]; exact hsm.drifts⟩
  have hDl := hD.1
  have hFl : F.length = zz.r.first.length := by rw [hF.1, hfl]
  have hYl : Y.length = zz.r.next.length := by rw [hY.len, hnl]
  have hct : -(turnR zz.r).clicks ≤ -ck ∧ -ck ≤ (turnR zz.r).clicks := by show -zz.r.clicks ≤ -ck ∧ -ck ≤ zz.r.clicks; omega
  have hcn : -(nmR zz.r D F Y).clicks ≤ ck ∧ ck ≤ (nmR zz.r D F Y).clicks := hcr
  have fq1 := expV_turn htT ck
  have fq2 := expV_named hR hnR hnN ck
  have fq3 := plan_turn hR hp htT
  have fq4 := plan_named hR hp hnN
  have fq5 := rob_turn hR htR rfl (by simp [turnR]) (miss_turn hR.odd) hws.ok
  obtain ⟨m, hm, hm1, hm2, _⟩ := rob_of hR hws.ok
  obtain ⟨m', hm', hm1', hm2', _⟩ := rob_of htR (turnW_ok hws.ok)
  rw [hm, hm'] at fq5
  simp only at fq5
  have v1 := expV_bd hlow ck
  have fu1 := planV_bd hlow hp
  (refine q_exit _ rfl ?_; refine q_seq ?_; refine q_region ?_; refine ql_loadAB tabOk rfl rfl rfl (by repeat first | exact .head _ | refine .tail _ ?_) (by rfl) (by rfl) ?_; refine ql_pure tabOk rfl rfl ?_)
  refine ql_callv (val := .tuple #[.agg #[.int .i64 (expV zz.r ck).1, .int .i64 (expV zz.r ck).2], .int .i64 0]) tabOk rfl rfl rfl rfl (fun w hs => ?_) ?_; exact expd_ok w [.int .i64 zz.r.radius, .int .i64 zz.r.unit, .int .i64 zz.r.clicks, .int .i64 zz.r.total, .slice (some ⟨zz.gb, 0, none⟩) zz.r.group.length zz.gc, .slice (some ⟨zz.db, 0, none⟩) zz.r.drifts.length zz.dc, .slice (some ⟨zz.fb, 0, none⟩) zz.r.first.length zz.fc, .slice (some ⟨zz.nb, 0, none⟩) zz.r.next.length zz.nc] zz.r ck (MdS.at hs (by repeat first | exact .head _ | refine .tail _ ?_) hxzz) hsm hR hcr
  (refine ql_pure tabOk rfl rfl ?_; (iterate 2 refine ql_ext tabOk rfl rfl rfl ?_))
  refine ql_alloc zero42 rfl (fun b24 => ?_)
  (refine ql_setA tabOk rfl rfl rfl rfl rfl (by repeat constructor) rfl ?_; refine ql_pure tabOk rfl rfl ?_; refine q_nil ?_; refine q_seq ?_; refine q_region ?_; refine ql_loadAB tabOk rfl rfl rfl (by repeat first | exact .head _ | refine .tail _ ?_) (by rfl) (by rfl) ?_; refine ql_pure tabOk rfl rfl ?_; refine ql_neg tabOk rfl rfl (by omega) (by omega) ?_)
  refine ql_callv (val := .tuple #[.agg #[.int .i64 (expV zz.r ck).1, .int .i64 (expV zz.r ck).2], .int .i64 0]) tabOk rfl rfl rfl rfl (fun w hs => ?_) ?_; exact by have := expd_ok w [.int .i64 zz.r.radius, .int .i64 zz.r.unit, .int .i64 zz.r.clicks, .int .i64 zz.r.total, .slice (some ⟨gq1, 0, none⟩) zz.r.group.length d1, .slice (some ⟨gq2, 0, none⟩) zz.r.drifts.length d2, .slice q3 zz.r.first.length d3, .slice q4 zz.r.next.length d4] (turnR zz.r) (-ck) (turn_rg hx hs (by repeat first | exact .head _ | refine .tail _ ?_) (by repeat first | exact .head _ | refine .tail _ ?_) (by repeat first | exact .head _ | refine .tail _ ?_) (by repeat first | exact .head _ | refine .tail _ ?_) (by repeat first | exact .head _ | refine .tail _ ?_)) htS htR hct; rw [fq1] at this; exact this
  (refine ql_pure tabOk rfl rfl ?_; (iterate 2 refine ql_ext tabOk rfl rfl rfl ?_))
  refine ql_alloc zero42 rfl (fun b26 => ?_)
  (refine ql_setA tabOk rfl rfl rfl rfl rfl (by repeat constructor) rfl ?_; refine ql_pure tabOk rfl rfl ?_; refine q_nil ?_; refine q_seq ?_; refine q_region ?_; refine ql_loadAB tabOk rfl rfl rfl (by repeat first | exact .head _ | refine .tail _ ?_) (by rfl) (by rfl) ?_; refine ql_pure tabOk rfl rfl ?_)
  refine ql_callv (val := .tuple #[.agg #[.int .i64 (expV zz.r ck).1, .int .i64 (expV zz.r ck).2], .int .i64 0]) tabOk rfl rfl rfl rfl (fun w hs => ?_) ?_; exact by have := expd_ok w [.int .i64 zz.r.radius, .int .i64 zz.r.unit, .int .i64 zz.r.clicks, .int .i64 zz.r.total, .slice u1 zz.r.group.length e1, .slice (some ⟨gu2, 0, none⟩) zz.r.drifts.length e2, .slice (some ⟨gu3, 0, none⟩) zz.r.first.length e3, .slice (some ⟨gu4, 0, none⟩) zz.r.next.length e4] (nmR zz.r D F Y) ck (nm_rg hDl hFl hYl hs (by repeat first | exact .head _ | refine .tail _ ?_) (by repeat first | exact .head _ | refine .tail _ ?_) (by repeat first | exact .head _ | refine .tail _ ?_) (by repeat first | exact .head _ | refine .tail _ ?_) (by repeat first | exact .head _ | refine .tail _ ?_)) hnS hnR hcn; rw [fq2] at this; exact this
  (refine ql_pure tabOk rfl rfl ?_; (iterate 2 refine ql_ext tabOk rfl rfl rfl ?_))
  refine ql_alloc zero42 rfl (fun b28 => ?_)
  (refine ql_setA tabOk rfl rfl rfl rfl rfl (by repeat constructor) rfl ?_; refine ql_pure tabOk rfl rfl ?_; refine q_nil ?_; refine q_seq ?_; refine q_region ?_; refine ql_loadAB tabOk rfl rfl rfl (by repeat first | exact .head _ | refine .tail _ ?_) (by rfl) (by rfl) ?_; refine ql_pure tabOk rfl rfl ?_)
  refine ql_callv (val := .tuple #[.int .i64 m, .agg #[.int .i64 (robQ zz.r ws m).1, .int .i64 (robQ zz.r ws m).2], .int .i64 0]) tabOk rfl rfl rfl rfl (fun w hs => ?_) ?_; exact rob_ok w 0 w.heap.size [.int .i64 zz.r.radius, .int .i64 zz.r.unit, .int .i64 zz.r.clicks, .int .i64 zz.r.total, .slice (some ⟨zz.gb, 0, none⟩) zz.r.group.length zz.gc, .slice (some ⟨zz.db, 0, none⟩) zz.r.drifts.length zz.dc, .slice (some ⟨zz.fb, 0, none⟩) zz.r.first.length zz.fc, .slice (some ⟨zz.nb, 0, none⟩) zz.r.next.length zz.nc] zz.r (.slice (some ⟨gw, 0, none⟩) 5 cw) ws m (MdS.at hs (by repeat first | exact .head _ | refine .tail _ ?_) hxzz) hsm (Sat.rdSp hs (t := 64) (k := 5) (by repeat first | exact .head _ | refine .tail _ ?_) hws.1.symm) hws.ok hm
  (refine ql_pure tabOk rfl rfl ?_; (iterate 3 refine ql_ext tabOk rfl rfl rfl ?_))
  refine ql_alloc zero42 rfl (fun b31 => ?_)
  (refine ql_pure tabOk rfl rfl ?_; refine ql_setA tabOk rfl rfl rfl rfl rfl (by repeat constructor) rfl ?_; refine ql_pure tabOk rfl rfl ?_; refine q_nil ?_; refine q_seq ?_; refine q_region ?_; refine ql_loadAB tabOk rfl rfl rfl (by repeat first | exact .head _ | refine .tail _ ?_) (by rfl) (by rfl) ?_; refine ql_pure tabOk rfl rfl ?_)
  refine ql_callv (val := .tuple #[.int .i64 m', .agg #[.int .i64 (robQ zz.r ws m).1, .int .i64 (robQ zz.r ws m).2], .int .i64 0]) tabOk rfl rfl rfl rfl (fun w hs => ?_) ?_; exact by have := rob_ok w 0 w.heap.size [.int .i64 zz.r.radius, .int .i64 zz.r.unit, .int .i64 zz.r.clicks, .int .i64 zz.r.total, .slice (some ⟨gq1, 0, none⟩) zz.r.group.length d1, .slice (some ⟨gq2, 0, none⟩) zz.r.drifts.length d2, .slice q3 zz.r.first.length d3, .slice q4 zz.r.next.length d4] (turnR zz.r) v (turnW ws) m' (turn_rg hx hs (by repeat first | exact .head _ | refine .tail _ ?_) (by repeat first | exact .head _ | refine .tail _ ?_) (by repeat first | exact .head _ | refine .tail _ ?_) (by repeat first | exact .head _ | refine .tail _ ?_) (by repeat first | exact .head _ | refine .tail _ ?_)) htS (Sat.rdSp hs (t := 64) (k := 5) (by repeat first | exact .head _ | refine .tail _ ?_) (turnW_ok hws.ok).1.symm) (turnW_ok hws.ok) hm'; rw [fq5] at this; exact this
  (refine ql_pure tabOk rfl rfl ?_; (iterate 3 refine ql_ext tabOk rfl rfl rfl ?_))
  refine ql_alloc zero42 rfl (fun b34 => ?_)
  (refine ql_pure tabOk rfl rfl ?_; refine ql_setA tabOk rfl rfl rfl rfl rfl (by repeat constructor) rfl ?_; refine ql_pure tabOk rfl rfl ?_; refine q_nil ?_; refine q_seq ?_; refine q_region ?_; (iterate 2 refine ql_loadAB tabOk rfl rfl rfl (by repeat first | exact .head _ | refine .tail _ ?_) (by rfl) (by rfl) ?_))
  refine ql_callv (val := .tuple #[.agg #[.int .i64 (planV zz.r p).1, .int .i64 (planV zz.r p).2], .bool true]) tabOk rfl rfl rfl rfl (fun w hs => ?_) ?_; exact planned_ca w [.int .i64 zz.r.radius, .int .i64 zz.r.unit, .int .i64 zz.r.clicks, .int .i64 zz.r.total, .slice (some ⟨zz.gb, 0, none⟩) zz.r.group.length zz.gc, .slice (some ⟨zz.db, 0, none⟩) zz.r.drifts.length zz.dc, .slice (some ⟨zz.fb, 0, none⟩) zz.r.first.length zz.fc, .slice (some ⟨zz.nb, 0, none⟩) zz.r.next.length zz.nc] zz.r p (MdS.at hs (by repeat first | exact .head _ | refine .tail _ ?_) hxzz) hsm hlow hp
  (refine ql_pure tabOk rfl rfl ?_; (iterate 2 refine ql_ext tabOk rfl rfl rfl ?_))
  refine ql_alloc zero42 rfl (fun b36 => ?_)
  (refine ql_setA tabOk rfl rfl rfl rfl rfl (by repeat constructor) rfl ?_; refine ql_pure tabOk rfl rfl ?_; refine q_nil ?_; refine q_seq ?_; refine q_region ?_; (iterate 2 refine ql_loadAB tabOk rfl rfl rfl (by repeat first | exact .head _ | refine .tail _ ?_) (by rfl) (by rfl) ?_))
  refine ql_callv (val := .tuple #[.agg #[.int .i64 (planV zz.r p).1, .int .i64 (planV zz.r p).2], .bool true]) tabOk rfl rfl rfl rfl (fun w hs => ?_) ?_; exact by have := planned_ca w [.int .i64 zz.r.radius, .int .i64 zz.r.unit, .int .i64 zz.r.clicks, .int .i64 zz.r.total, .slice (some ⟨gq1, 0, none⟩) zz.r.group.length d1, .slice (some ⟨gq2, 0, none⟩) zz.r.drifts.length d2, .slice q3 zz.r.first.length d3, .slice q4 zz.r.next.length d4] (turnR zz.r) p (turn_rg hx hs (by repeat first | exact .head _ | refine .tail _ ?_) (by repeat first | exact .head _ | refine .tail _ ?_) (by repeat first | exact .head _ | refine .tail _ ?_) (by repeat first | exact .head _ | refine .tail _ ?_) (by repeat first | exact .head _ | refine .tail _ ?_)) htS htL hp; rw [fq3] at this; exact this
  (refine ql_pure tabOk rfl rfl ?_; (iterate 2 refine ql_ext tabOk rfl rfl rfl ?_))
  refine ql_alloc zero42 rfl (fun b38 => ?_)
  (refine ql_setA tabOk rfl rfl rfl rfl rfl (by repeat constructor) rfl ?_; refine ql_pure tabOk rfl rfl ?_; refine q_nil ?_; refine q_seq ?_; refine q_region ?_; (iterate 2 refine ql_loadAB tabOk rfl rfl rfl (by repeat first | exact .head _ | refine .tail _ ?_) (by rfl) (by rfl) ?_))
  refine ql_callv (val := .tuple #[.agg #[.int .i64 (planV zz.r p).1, .int .i64 (planV zz.r p).2], .bool true]) tabOk rfl rfl rfl rfl (fun w hs => ?_) ?_; exact by have := planned_ca w [.int .i64 zz.r.radius, .int .i64 zz.r.unit, .int .i64 zz.r.clicks, .int .i64 zz.r.total, .slice u1 zz.r.group.length e1, .slice (some ⟨gu2, 0, none⟩) zz.r.drifts.length e2, .slice (some ⟨gu3, 0, none⟩) zz.r.first.length e3, .slice (some ⟨gu4, 0, none⟩) zz.r.next.length e4] (nmR zz.r D F Y) p (nm_rg hDl hFl hYl hs (by repeat first | exact .head _ | refine .tail _ ?_) (by repeat first | exact .head _ | refine .tail _ ?_) (by repeat first | exact .head _ | refine .tail _ ?_) (by repeat first | exact .head _ | refine .tail _ ?_) (by repeat first | exact .head _ | refine .tail _ ?_)) hnS hnL hp; rw [fq4] at this; exact this
  (refine ql_pure tabOk rfl rfl ?_; (iterate 2 refine ql_ext tabOk rfl rfl rfl ?_))
  refine ql_alloc zero42 rfl (fun b40 => ?_)
  (refine ql_setA tabOk rfl rfl rfl rfl rfl (by repeat constructor) rfl ?_; refine ql_pure tabOk rfl rfl ?_; refine q_nil ?_; refine q_seq ?_; refine q_region ?_; refine ql_pure tabOk rfl rfl ?_; refine ql_eqlT tabOk rfl rfl rfl (by omega) ?_; refine ql_pure tabOk rfl rfl ?_; refine ql_gyes rfl ?_; refine ql_pure tabOk rfl rfl ?_; refine ql_gyes rfl ?_; refine ql_eqlT tabOk rfl rfl rfl (by omega) ?_; (iterate 2 refine ql_pure tabOk rfl rfl ?_); refine ql_gyes rfl ?_; refine ql_pure tabOk rfl rfl ?_; refine ql_gyes rfl ?_; refine ql_eqlT tabOk rfl rfl rfl (by omega) ?_; (iterate 2 refine ql_pure tabOk rfl rfl ?_); refine ql_gyes rfl ?_; refine ql_pure tabOk rfl rfl ?_; refine ql_gyes rfl ?_; refine ql_eqlT tabOk rfl rfl rfl (by omega) ?_; (iterate 2 refine ql_pure tabOk rfl rfl ?_); refine ql_gyes rfl ?_; refine ql_pure tabOk rfl rfl ?_; refine ql_gyes rfl ?_; refine ql_eqlT tabOk rfl rfl rfl (by omega) ?_; (iterate 2 refine ql_pure tabOk rfl rfl ?_); refine ql_gyes rfl ?_; refine ql_loadAB tabOk rfl rfl rfl (by repeat first | exact .head _ | refine .tail _ ?_) (by rfl) (by rfl) ?_; refine ql_gyes rfl ?_; refine ql_loadAB tabOk rfl rfl rfl (by repeat first | exact .head _ | refine .tail _ ?_) (by rfl) (by rfl) ?_; refine ql_gyes rfl ?_)
  refine ql_eqF [some .i64, some .i64] rat_flat rfl rfl rfl rfl rfl ?_; rw [eqL_refl]
  ((iterate 2 refine ql_pure tabOk rfl rfl ?_); refine ql_gyes rfl ?_; refine ql_loadAB tabOk rfl rfl rfl (by repeat first | exact .head _ | refine .tail _ ?_) (by rfl) (by rfl) ?_; refine ql_gyes rfl ?_; refine ql_loadAB tabOk rfl rfl rfl (by repeat first | exact .head _ | refine .tail _ ?_) (by rfl) (by rfl) ?_; refine ql_gyes rfl ?_)
  refine ql_eqF [some .i64, some .i64] rat_flat rfl rfl rfl rfl rfl ?_; rw [eqL_refl]
  ((iterate 2 refine ql_pure tabOk rfl rfl ?_); refine ql_gyes rfl ?_; refine ql_loadAB tabOk rfl rfl rfl (by repeat first | exact .head _ | refine .tail _ ?_) (by rfl) (by rfl) ?_; refine ql_gyes rfl ?_; refine ql_loadAB tabOk rfl rfl rfl (by repeat first | exact .head _ | refine .tail _ ?_) (by rfl) (by rfl) ?_; refine ql_gyes rfl ?_)
  refine ql_eqF [some .i64, some .i64] rat_flat rfl rfl rfl rfl rfl ?_; rw [eqL_refl]
  ((iterate 2 refine ql_pure tabOk rfl rfl ?_); refine ql_gyes rfl ?_; (iterate 3 refine ql_pure tabOk rfl rfl ?_); refine ql_gyes rfl ?_; (iterate 3 refine ql_pure tabOk rfl rfl ?_); refine ql_gyes rfl ?_; (iterate 3 refine ql_pure tabOk rfl rfl ?_); refine ql_gyes rfl ?_; refine ql_loadAB tabOk rfl rfl rfl (by repeat first | exact .head _ | refine .tail _ ?_) (by rfl) (by rfl) ?_; refine ql_gyes rfl ?_; refine ql_loadAB tabOk rfl rfl rfl (by repeat first | exact .head _ | refine .tail _ ?_) (by rfl) (by rfl) ?_; refine ql_gyes rfl ?_)
  refine ql_eqF [some .i64, some .i64] rat_flat rfl rfl rfl rfl rfl ?_; rw [eqL_refl]
  ((iterate 2 refine ql_pure tabOk rfl rfl ?_); refine ql_gyes rfl ?_; refine ql_loadAB tabOk rfl rfl rfl (by repeat first | exact .head _ | refine .tail _ ?_) (by rfl) (by rfl) ?_; refine ql_gyes rfl ?_; refine ql_loadAB tabOk rfl rfl rfl (by repeat first | exact .head _ | refine .tail _ ?_) (by rfl) (by rfl) ?_; refine ql_gyes rfl ?_)
  refine ql_eqF [some .i64, some .i64] rat_flat rfl rfl rfl rfl rfl ?_; rw [eqL_refl]
  ((iterate 2 refine ql_pure tabOk rfl rfl ?_); refine ql_gyes rfl ?_)
  refine ql_callv (val := .bool true) tabOk rfl rfl rfl rfl (fun w hs => ?_) ?_; exact awake_ca w
  ((iterate 2 refine ql_pure tabOk rfl rfl ?_); refine q_nil ?_; refine q_ret ?_)
  refine q_fin tabOk rfl (by repeat (first | exact RVs.nil | apply RVs.tmp rfl | apply RVs.cellA rfl rfl (by repeat first | exact .head _ | refine .tail _ ?_) (by rfl) | apply RVs.cell1 rfl rfl (by repeat first | exact .head _ | refine .tail _ ?_))) fun w hs => ?_
  exact ⟨rfl, hs.chg0⟩
end Go.Proofs.Ytohlillcaadidaa
