/- My texts E11, B16, B17, B18, B19, B20, M3, joined: a claim takes at most 60 files. -/
import Derived.Test.YtohlillcaadidaaW4

/- Walks of the reference: what values prove. -/
namespace Go.Proofs.Ytohlillcaadidaa
open Go Go.Eng

/-- The situations that are looked at already. -/
def Ahd (sh wt st : Nat) (cl : Int) (y : Plc) : Prop := y.1 < sh ∨ y.1 = sh ∧ (y.2.1 < wt ∨ y.2.1 = wt ∧ (y.2.2.1 < st ∨ y.2.2.1 = st ∧ y.2.2.2 < cl))
def AllH (r : Rg) (p : Ru) (l : List Int) (D : Plc → Prop) : Prop := ∀ y, y ∈ plcL r p → D y → holdV r p (gV r p l) y = true
theorem AllH.mono {r : Rg} {p : Ru} {l : List Int} {D D' : Plc → Prop} (h : AllH r p l D) (hD : ∀ y, y ∈ plcL r p → D' y → D y) : AllH r p l D' := fun y hy hd => h y hy (hD y hy hd)
theorem proof_8 {r : Rg} {p : Ru} {l : List Int} (h0 : rulesV r p = 0) (h1 : (l.length : Int) = cntP r p) (h2 : l.all (fun n => inB n 0 1000000000000000) = true) {y : Plc} (hy : y ∈ plcL r p) (hf : holdV r p (gV r p l) y = false) : proofV r p l = ((0, 0), 8) := by
  unfold proofV
  rw [if_neg (by omega), if_neg (by omega), h2, if_neg (by simp), if_pos]
  rw [List.all_eq_false.2 ⟨y, hy, by simp [hf]⟩]
  rfl
theorem costV_k {r : Rg} (hr : r.Right) {p : Ru} {l : List Int} (hv : ValL r p l) (k : Nat) (hk : k ≤ r.drifts.length) : 0 ≤ sumR (fun s => r.first.getD s 0 * gV r p l 0 p.waits.toNat s 0) k ∧ sumR (fun s => r.first.getD s 0 * gV r p l 0 p.waits.toNat s 0) k ≤ 60000000000000000 := by
  have h1 := sumR_bd (fun s => r.first.getD s 0 * gV r p l 0 p.waits.toNat s 0) 12000000000000000 k (fun i hi => mul_bd0 (A := 12) (B := 1000000000000000) (by have := first_bd hr i; have := hr.total; omega) (hv.at 0 p.waits.toNat i 0))
  have h2 := hr.d2
  have : 12000000000000000 * (k : Int) ≤ 60000000000000000 := by omega
  omega

set_option maxHeartbeats 8000000 in
theorem rproves_ca (w : World) (l0 h1 : Nat) (cs : List Value) (r : Rg) (p : Ru) (v : Value) (l : List Int) (h : RgC w cs r) (hsm : r.Small) (hl : RdI w l0 h1 v l) (hlen : l.length < 1000000) : Ca Try.prog 25 [.agg cs.toArray, ruV p, v] w fun v w' =>
    v = .tuple #[rtV (proofV r p l).1, .int .i64 (proofV r p l).2] ∧ Chg [] w w' := by
  have h0 := h
  obtain ⟨lo, hi, ag, cg, ad, cd, af, cf, an, cn, rfl, hg, hdr, hf, hn⟩ := h
  obtain ⟨la, lc, rfl, hsl⟩ := RdI.outI hl
  obtain ⟨_, _, hsl2, hsf⟩ := RdI.outI hf
  cases hsl2
  refine q_of (Sat.nil w M0) Try.func25 rfl (by simp [Try.ntmps25]) ?_
  (refine q_seq ?_; refine q_region ?_)
  refine ql_box rfl rfl (fun b3 => ?_)
  refine ql_box rfl rfl (fun b4 => ?_)
  refine ql_alloc zero42 rfl (fun b6 => ?_)
  (refine ql_pure tabOk rfl rfl ?_; refine q_nil ?_; (iterate 2 refine q_seq ?_); refine q_region ?_; (iterate 2 refine ql_loadAB tabOk rfl rfl rfl (by repeat first | exact .head _ | refine .tail _ ?_) (by rfl) (by rfl) ?_))
  refine ql_callv (val := .int .i64 (rulesV r p)) tabOk rfl rfl rfl rfl (fun w hs => ?_) ?_; exact rruled_ca w _ r p (h0.keep hs.chg0) hsm
  (refine ql_pure tabOk rfl rfl ?_; refine q_nil ?_; refine q_seq ?_; refine q_region ?_; (iterate 2 refine ql_pure tabOk rfl rfl ?_); refine q_nil ?_)
  refine q_ifn rfl (fun hc => ?_) (fun hc => ?_)
  · (refine q_seq ?_; refine q_region ?_)
    refine ql_mk #[.int .i64 0, .int .i64 0] rfl (by kernel_rfl) rfl ?_
    (refine ql_pure tabOk rfl rfl ?_; refine ql_setA tabOk rfl rfl rfl rfl rfl (by repeat constructor) rfl ?_; refine ql_pure tabOk rfl rfl ?_; refine q_nil ?_; refine q_ret ?_)
    refine q_fin tabOk rfl (by repeat (first | exact RVs.nil | apply RVs.tmp rfl | apply RVs.cellA rfl rfl (by repeat first | exact .head _ | refine .tail _ ?_) (by rfl) | apply RVs.cell1 rfl rfl (by repeat first | exact .head _ | refine .tail _ ?_))) fun w hs => ?_
    exact ⟨by simp [retV, proofV, hc, rtV], hs.chg0⟩
  have hru : rulesV r p = 0 := by simpa using hc
  obtain ⟨hck, hp⟩ := (rules_iff r p).1 hru
  have hr := (right_check r).1 hck
  have hwa := hp.waits
  have hC := hr.clicks
  have hd1 := hr.d1
  have hd2 := hr.d2
  have hfl := hr.first
  have hg2 := hr.g2
  have hcb := cntP_bd hr hp
  have hcl : 5 * (p.waits + 1) * (r.drifts.length : Int) * (2 * r.clicks + 1) = ((plcL r p).length : Int) := cntP_eq hr hp
  have hcnt : cntP r p = ((plcL r p).length : Int) := hcl
  clear hc
  (refine q_skip ?_; (iterate 2 refine q_seq ?_); refine q_region ?_; (iterate 3 refine ql_pure tabOk rfl rfl ?_); refine ql_loadB tabOk rfl rfl rfl (by repeat first | exact .head _ | refine .tail _ ?_) (by rfl) ?_; (iterate 2 refine ql_ar tabOk rfl rfl rfl rfl (by omega) (by omega) ?_); refine ql_pure tabOk rfl rfl ?_; refine ql_loadB tabOk rfl rfl rfl (by repeat first | exact .head _ | refine .tail _ ?_) (by rfl) ?_; refine ql_pure tabOk rfl rfl ?_; refine ql_ar tabOk rfl rfl rfl rfl (by omega) (by omega) ?_; refine ql_pure tabOk rfl rfl ?_; refine ql_loadB tabOk rfl rfl rfl (by repeat first | exact .head _ | refine .tail _ ?_) (by rfl) ?_; (iterate 3 refine ql_ar tabOk rfl rfl rfl rfl (by omega) (by omega) ?_); refine ql_pure tabOk rfl rfl ?_; refine q_nil ?_)
  rw [hcl]
  skip
  refine q_ifn rfl (fun hc => ?_) (fun hc => ?_)
  · (refine q_seq ?_; refine q_region ?_)
    refine ql_mk #[.int .i64 0, .int .i64 0] rfl (by kernel_rfl) rfl ?_
    (refine ql_setA tabOk rfl rfl rfl rfl rfl (by repeat constructor) rfl ?_; refine ql_pure tabOk rfl rfl ?_; refine q_nil ?_; refine q_ret ?_)
    refine q_fin tabOk rfl (by repeat (first | exact RVs.nil | apply RVs.tmp rfl | apply RVs.cellA rfl rfl (by repeat first | exact .head _ | refine .tail _ ?_) (by rfl) | apply RVs.cell1 rfl rfl (by repeat first | exact .head _ | refine .tail _ ?_))) fun w hs => ?_
    exact ⟨by simp only [proofV]; rw [if_neg (by omega), if_pos (by omega)]; rfl, hs.chg0⟩
  have hll : l.length = (plcL r p).length := by omega
  clear hc
  (refine q_skip ?_; (iterate 2 refine q_seq ?_); refine q_region ?_; refine ql_pure tabOk rfl rfl ?_)
  refine ql_callv (val := .bool (!(l.all fun n => inB n 0 1000000000000000))) tabOk rfl rfl rfl rfl (fun w hs => ?_) ?_; exact roffs_ca w l0 h1 _ l 0 1000000000000000 (RdE.keep hl hs.chg0) hlen
  cases hal : l.all (fun n => inB n 0 1000000000000000) with
  | false =>
    (refine q_nil ?_; refine q_cond_true rfl ?_; refine q_seq ?_; refine q_region ?_)
    refine ql_mk #[.int .i64 0, .int .i64 0] rfl (by kernel_rfl) rfl ?_
    (refine ql_setA tabOk rfl rfl rfl rfl rfl (by repeat constructor) rfl ?_; refine ql_pure tabOk rfl rfl ?_; refine q_nil ?_; refine q_ret ?_)
    refine q_fin tabOk rfl (by repeat (first | exact RVs.nil | apply RVs.tmp rfl | apply RVs.cellA rfl rfl (by repeat first | exact .head _ | refine .tail _ ?_) (by rfl) | apply RVs.cell1 rfl rfl (by repeat first | exact .head _ | refine .tail _ ?_))) fun w hs => ?_
    exact ⟨by simp only [proofV]; rw [if_neg (by omega), if_neg (by omega), hal, if_pos (by simp)]; rfl, hs.chg0⟩
  | true =>
  have hvl : ValL r p l := ⟨hll, fun x hx => inB_iff.1 (List.all_eq_true.1 hal x hx)⟩
  have herr := fun y hy hf => proof_8 (r := r) (p := p) (l := l) hru (by omega) hal (y := y) hy hf
  (refine q_nil ?_; refine q_cond_false rfl ?_; refine q_skip ?_; (iterate 2 refine q_seq ?_); refine q_region ?_; refine ql_pure tabOk rfl rfl ?_; refine q_nil ?_; refine q_block ?_)
  refine q_loop (σ := Nat) (fun sh => sh ≤ 5 ∧ AllH r p l (fun y => y.1 < sh)) (fun sh => 5 - sh) (fun sh => [(2, .slice la l.length lc), (3, .pointer (some ⟨b3, 0, none⟩)), (4, .pointer (some ⟨b4, 0, none⟩)), (6, .pointer (some ⟨b6, 0, none⟩)), (9, .int .i64 sh)])
    (fun _ => [.pt b6 [.int .i64 0, .int .i64 0] 42, .pt b3 [.int .i64 r.radius, .int .i64 r.unit, .int .i64 r.clicks, .int .i64 r.total, .slice ag r.group.length cg, .slice ad r.drifts.length cd, .slice af r.first.length cf, .slice an r.next.length cn] 32, .pt b4 [.int .i64 p.miss, .int .i64 p.click, .int .i64 p.wait, .int .i64 p.waits] 33]) 0 ⟨by omega, fun y _ hd => absurd hd (by omega)⟩ ⟨rfl, rfl, rfl, rfl, rfl, trivial⟩ (by repeat (first | exact Sp.nil | exact Sp.refl _ | refine Sp.cons (by repeat constructor) ?_)) ?_
  rintro sh ⟨hsh, ha1⟩ K1 hK1
  ((iterate 2 refine q_seq ?_); refine q_region ?_; (iterate 2 refine ql_pure tabOk rfl rfl ?_); refine q_nil ?_)
  refine q_if rfl (fun hc => ?_) (fun hc => ?_)
  · have hsh2 : sh < 5 := by omega
    clear hc
    (refine q_skip ?_; refine q_seq ?_; refine q_block ?_; refine q_seq ?_; refine q_region ?_; refine ql_pure tabOk rfl rfl ?_; refine q_nil ?_; refine q_block ?_)
    refine q_loop (σ := Nat) (fun wt => wt ≤ (p.waits + 1).toNat ∧ AllH r p l (fun y => y.1 < sh ∨ y.1 = sh ∧ y.2.1 < wt)) (fun wt => (p.waits + 1).toNat - wt) (fun wt => [(2, .slice la l.length lc), (3, .pointer (some ⟨b3, 0, none⟩)), (4, .pointer (some ⟨b4, 0, none⟩)), (6, .pointer (some ⟨b6, 0, none⟩)), (9, .int .i64 sh), (10, .int .i64 wt)])
      (fun _ => [.pt b6 [.int .i64 0, .int .i64 0] 42, .pt b3 [.int .i64 r.radius, .int .i64 r.unit, .int .i64 r.clicks, .int .i64 r.total, .slice ag r.group.length cg, .slice ad r.drifts.length cd, .slice af r.first.length cf, .slice an r.next.length cn] 32, .pt b4 [.int .i64 p.miss, .int .i64 p.click, .int .i64 p.wait, .int .i64 p.waits] 33]) 0 ⟨by omega, ha1.mono (fun y _ hd => by omega)⟩ ⟨rfl, rfl, rfl, rfl, rfl, rfl, trivial⟩ (by repeat (first | exact Sp.nil | exact Sp.refl _ | refine Sp.cons (by repeat constructor) ?_)) ?_
    rintro wt ⟨hwt, ha2⟩ K2 hK2
    ((iterate 2 refine q_seq ?_); refine q_region ?_; (iterate 2 refine ql_pure tabOk rfl rfl ?_); refine ql_loadB tabOk rfl rfl rfl (by repeat first | exact .head _ | refine .tail _ ?_) (by rfl) ?_; refine ql_pure tabOk rfl rfl ?_; refine q_nil ?_)
    refine q_if rfl (fun hc => ?_) (fun hc => ?_)
    · have hwt2 : (wt : Int) ≤ p.waits := by omega
      clear hc
      (refine q_skip ?_; refine q_seq ?_; refine q_block ?_; refine q_seq ?_; refine q_region ?_; refine ql_pure tabOk rfl rfl ?_; refine q_nil ?_; refine q_block ?_)
      refine q_loop (σ := Nat) (fun st => st ≤ r.drifts.length ∧ AllH r p l (fun y => y.1 < sh ∨ y.1 = sh ∧ (y.2.1 < wt ∨ y.2.1 = wt ∧ y.2.2.1 < st))) (fun st => r.drifts.length - st) (fun st => [(2, .slice la l.length lc), (3, .pointer (some ⟨b3, 0, none⟩)), (4, .pointer (some ⟨b4, 0, none⟩)), (6, .pointer (some ⟨b6, 0, none⟩)), (9, .int .i64 sh), (10, .int .i64 wt), (11, .int .i64 st)])
        (fun _ => [.pt b6 [.int .i64 0, .int .i64 0] 42, .pt b3 [.int .i64 r.radius, .int .i64 r.unit, .int .i64 r.clicks, .int .i64 r.total, .slice ag r.group.length cg, .slice ad r.drifts.length cd, .slice af r.first.length cf, .slice an r.next.length cn] 32, .pt b4 [.int .i64 p.miss, .int .i64 p.click, .int .i64 p.wait, .int .i64 p.waits] 33]) 0 ⟨by omega, ha2.mono (fun y _ hd => by omega)⟩ ⟨rfl, rfl, rfl, rfl, rfl, rfl, rfl, trivial⟩ (by repeat (first | exact Sp.nil | exact Sp.refl _ | refine Sp.cons (by repeat constructor) ?_)) ?_
      rintro st ⟨hst, ha3⟩ K3 hK3
      ((iterate 2 refine q_seq ?_); refine q_region ?_; (iterate 2 refine ql_pure tabOk rfl rfl ?_); refine ql_loadB tabOk rfl rfl rfl (by repeat first | exact .head _ | refine .tail _ ?_) (by rfl) ?_; (iterate 2 refine ql_pure tabOk rfl rfl ?_); refine q_nil ?_)
      refine q_if rfl (fun hc => ?_) (fun hc => ?_)
      · have hst2 : st < r.drifts.length := by omega
        clear hc
        (refine q_skip ?_; refine q_seq ?_; refine q_block ?_; refine q_seq ?_; refine q_region ?_; refine ql_pure tabOk rfl rfl ?_; refine ql_loadB tabOk rfl rfl rfl (by repeat first | exact .head _ | refine .tail _ ?_) (by rfl) ?_; refine ql_neg tabOk rfl rfl (by omega) (by omega) ?_; refine ql_pure tabOk rfl rfl ?_; refine q_nil ?_; refine q_block ?_)
        refine q_loop (σ := Nat) (fun j => j ≤ (2 * r.clicks + 1).toNat ∧ AllH r p l (Ahd sh wt st ((j : Int) - r.clicks))) (fun j => (2 * r.clicks + 1).toNat - j) (fun j => [(2, .slice la l.length lc), (3, .pointer (some ⟨b3, 0, none⟩)), (4, .pointer (some ⟨b4, 0, none⟩)), (6, .pointer (some ⟨b6, 0, none⟩)), (9, .int .i64 sh), (10, .int .i64 wt), (11, .int .i64 st), (12, .int .i64 ((j : Int) - r.clicks))])
          (fun _ => [.pt b6 [.int .i64 0, .int .i64 0] 42, .pt b3 [.int .i64 r.radius, .int .i64 r.unit, .int .i64 r.clicks, .int .i64 r.total, .slice ag r.group.length cg, .slice ad r.drifts.length cd, .slice af r.first.length cf, .slice an r.next.length cn] 32, .pt b4 [.int .i64 p.miss, .int .i64 p.click, .int .i64 p.wait, .int .i64 p.waits] 33]) 0 ⟨by omega, ha3.mono (fun y hy hd => by obtain ⟨a, b, c, d⟩ := y; have := (plcL_mem r p a b c d).1 hy; unfold Ahd at hd; simp only at hd ⊢; omega)⟩ ⟨rfl, rfl, rfl, rfl, rfl, rfl, rfl, lookI rfl (by omega), trivial⟩ (by repeat (first | exact Sp.nil | exact Sp.refl _ | refine Sp.cons (by repeat constructor) ?_)) ?_
        rintro j ⟨hj, ha4⟩ K4 hK4
        ((iterate 2 refine q_seq ?_); refine q_region ?_; (iterate 2 refine ql_pure tabOk rfl rfl ?_); refine ql_loadB tabOk rfl rfl rfl (by repeat first | exact .head _ | refine .tail _ ?_) (by rfl) ?_; refine ql_pure tabOk rfl rfl ?_; refine q_nil ?_)
        refine q_if rfl (fun hc => ?_) (fun hc => ?_)
        · have hj2 : j < (2 * r.clicks + 1).toNat := by omega
          clear hc
          obtain ⟨cl, hclj⟩ : ∃ cl : Int, cl = (j : Int) - r.clicks := ⟨_, rfl⟩
          have hclb : -r.clicks ≤ cl ∧ cl ≤ r.clicks := by omega
          rw [← hclj] at ha4 ⊢
          have hin := plc_in (r := r) (p := p) sh wt st cl (by omega) hwt2 hst2 hclb
          have hix := idx_lt hin
          rw [← hll] at hix
          have hga : gV r p l sh wt st cl = l[idxP r p (sh, wt, st, cl)] := by unfold gV; simp [List.getD_eq_getElem?_getD, hix]
          obtain ⟨bl, ol, rfl⟩ := hsl (by omega)
          have hho : holdV r p (gV r p l) (sh, wt, st, cl) = (decide (l[idxP r p (sh, wt, st, cl)] ≤ (chV r p (gV r p l (sh + 1) wt) (gV r p l sh (wt - 1)) sh wt st cl).2) && true) := by unfold holdV; simp only [hga]
          (refine q_skip ?_; refine q_seq ?_; refine q_block ?_; refine q_seq ?_; refine q_region ?_; (iterate 2 refine ql_loadAB tabOk rfl rfl rfl (by repeat first | exact .head _ | refine .tail _ ?_) (by rfl) (by rfl) ?_); (iterate 5 refine ql_pure tabOk rfl rfl ?_))
          refine ql_callv (val := .tuple #[.bool (chV r p (gV r p l (sh + 1) wt) (gV r p l sh (wt - 1)) sh wt st cl).1.1, .int .i64 (chV r p (gV r p l (sh + 1) wt) (gV r p l sh (wt - 1)) sh wt st cl).1.2, .int .i64 (chV r p (gV r p l (sh + 1) wt) (gV r p l sh (wt - 1)) sh wt st cl).2]) tabOk rfl rfl rfl rfl (fun w hs => ?_) ?_; exact rchoose_ca w _ _ _ r p _ l sh wt st cl (h0.keep hs.chg0) hr hp (RdE.keep hl hs.chg0) hvl (by omega) hwt2 hst2 hclb
          (refine ql_pure tabOk rfl rfl ?_; (iterate 3 refine ql_ext tabOk rfl rfl rfl ?_); (iterate 3 refine ql_pure tabOk rfl rfl ?_); refine q_nil ?_; refine q_seq ?_; refine q_region ?_; refine ql_pure tabOk rfl rfl ?_; (iterate 2 refine ql_loadAB tabOk rfl rfl rfl (by repeat first | exact .head _ | refine .tail _ ?_) (by rfl) (by rfl) ?_); (iterate 4 refine ql_pure tabOk rfl rfl ?_))
          refine ql_callv (val := .int .i64 ((idxP r p (sh, wt, st, cl) : Nat) : Int)) tabOk rfl rfl rfl rfl (fun w hs => ?_) ?_; exact at_ca w _ r p sh wt st cl (h0.keep hs.chg0) hr hp (by omega) hwt2 hst2 hclb
          skip
          (refine ql_index tabOk rfl rfl rfl rfl rfl (by omega) (by omega) ?_; refine ql_load1 tabOk rfl rfl rfl (fun w hs => RdI.at (RdE.keep hl hs.chg0) (idxP r p (sh, wt, st, cl)) hix) ?_)
          ((iterate 2 refine ql_pure tabOk rfl rfl ?_); refine q_nil ?_)
          refine q_if rfl (fun hc => ?_) (fun hc => ?_)
          · (refine q_seq ?_; refine q_region ?_)
            refine ql_mk #[.int .i64 0, .int .i64 0] rfl (by kernel_rfl) rfl ?_
            (refine ql_setA tabOk rfl rfl rfl rfl rfl (by repeat constructor) rfl ?_; refine ql_pure tabOk rfl rfl ?_; refine q_nil ?_; refine q_ret ?_)
            refine q_fin tabOk rfl (by repeat (first | exact RVs.nil | apply RVs.tmp rfl | apply RVs.cellA rfl rfl (by repeat first | exact .head _ | refine .tail _ ?_) (by rfl) | apply RVs.cell1 rfl rfl (by repeat first | exact .head _ | refine .tail _ ?_))) fun w hs => ?_
            exact ⟨by rw [herr _ hin (by rw [hho]; simp; omega)]; rfl, hs.chg0⟩
          · (refine q_skip ?_; refine q_blk ?_; refine q_region ?_; refine ql_pure tabOk rfl rfl ?_; refine ql_ar tabOk rfl rfl rfl rfl (by omega) (by omega) ?_; refine ql_pure tabOk rfl rfl ?_; refine q_nil ?_)
            exact hK4 (j + 1) _ _ ⟨by omega, fun y hy hd => by
              rw [show ((j + 1 : Nat) : Int) - r.clicks = cl + 1 by omega] at hd
              by_cases he : y = (sh, wt, st, cl)
              · subst he
                rw [hho]
                simp
                omega
              · refine ha4 y hy ?_
                obtain ⟨a, b, c, d⟩ := y
                unfold Ahd at hd ⊢
                simp only [Prod.mk.injEq] at hd he ⊢
                omega⟩ (by omega) ⟨rfl, rfl, rfl, rfl, rfl, rfl, rfl, lookI rfl (by omega), trivial⟩ (by repeat (first | exact Sp.nil | exact Sp.refl _ | refine Sp.cons (by repeat constructor) ?_))
        · obtain rfl : j = (2 * r.clicks + 1).toNat := by omega
          clear hc hK4
          (refine q_exit _ rfl ?_; refine q_blk ?_; refine q_region ?_; refine ql_pure tabOk rfl rfl ?_; refine ql_ar tabOk rfl rfl rfl rfl (by omega) (by omega) ?_; refine ql_pure tabOk rfl rfl ?_; refine q_nil ?_)
          exact hK3 (st + 1) _ _ ⟨by omega, ha4.mono (fun y hy hd => by obtain ⟨a, b, c, d⟩ := y; have := (plcL_mem r p a b c d).1 hy; unfold Ahd; simp only at hd ⊢; omega)⟩ (by omega) ⟨rfl, rfl, rfl, rfl, rfl, rfl, rfl, trivial⟩ (by repeat (first | exact Sp.nil | exact Sp.refl _ | refine Sp.cons (by repeat constructor) ?_))
      · obtain rfl : st = r.drifts.length := by omega
        clear hc hK3
        (refine q_exit _ rfl ?_; refine q_blk ?_; refine q_region ?_; refine ql_pure tabOk rfl rfl ?_; refine ql_ar tabOk rfl rfl rfl rfl (by omega) (by omega) ?_; refine ql_pure tabOk rfl rfl ?_; refine q_nil ?_)
        exact hK2 (wt + 1) _ _ ⟨by omega, ha3.mono (fun y hy hd => by obtain ⟨a, b, c, d⟩ := y; have := (plcL_mem r p a b c d).1 hy; simp only at hd ⊢; omega)⟩ (by omega) ⟨rfl, rfl, rfl, rfl, rfl, rfl, trivial⟩ (by repeat (first | exact Sp.nil | exact Sp.refl _ | refine Sp.cons (by repeat constructor) ?_))
    · obtain rfl : wt = (p.waits + 1).toNat := by omega
      clear hc hK2
      (refine q_exit _ rfl ?_; refine q_blk ?_; refine q_region ?_; refine ql_pure tabOk rfl rfl ?_; refine ql_ar tabOk rfl rfl rfl rfl (by omega) (by omega) ?_; refine ql_pure tabOk rfl rfl ?_; refine q_nil ?_)
      exact hK1 (sh + 1) _ _ ⟨by omega, ha2.mono (fun y hy hd => by obtain ⟨a, b, c, d⟩ := y; have := (plcL_mem r p a b c d).1 hy; simp only at hd ⊢; omega)⟩ (by omega) ⟨rfl, rfl, rfl, rfl, rfl, trivial⟩ (by repeat (first | exact Sp.nil | exact Sp.refl _ | refine Sp.cons (by repeat constructor) ?_))
  obtain rfl : sh = 5 := by omega
  clear hc hK1
  have hall : (plcL r p).all (holdV r p (gV r p l)) = true := List.all_eq_true.2 (fun y hy => ha1 y hy (by obtain ⟨a, b, c, d⟩ := y; have := (plcL_mem r p a b c d).1 hy; simp only; omega))
  obtain ⟨wt, hwt⟩ : ∃ wt, wt = p.waits.toNat := ⟨_, rfl⟩
  have hwi : (wt : Int) = p.waits := by omega
  have hpv : proofV r p l = (ratioV (costV r p (gV r p l)) (r.group.sum * r.total ^ (5 + wt)), 0) := by
    unfold proofV
    rw [if_neg (by omega), if_neg (by omega), hal, if_neg (by simp), hall, if_neg (by simp), ← hwt, partsV, Int.mul_assoc, ← Int.pow_succ, show (4 - 0 + wt).succ = 5 + wt by omega]
  rw [hpv]
  (refine q_exit _ rfl ?_; refine q_seq ?_; refine q_region ?_; refine ql_pure tabOk rfl rfl ?_; refine q_nil ?_; (iterate 2 refine q_seq ?_); refine q_region ?_; refine ql_pure tabOk rfl rfl ?_; refine q_nil ?_; refine q_block ?_)
  refine q_loop (σ := Nat) (fun s => s ≤ r.drifts.length) (fun s => r.drifts.length - s) (fun s => [(2, .slice la l.length lc), (3, .pointer (some ⟨b3, 0, none⟩)), (4, .pointer (some ⟨b4, 0, none⟩)), (6, .pointer (some ⟨b6, 0, none⟩)), (16, .int .i64 (sumR (fun s => r.first.getD s 0 * gV r p l 0 p.waits.toNat s 0) s)), (17, .int .i64 s)])
    (fun _ => [.pt b6 [.int .i64 0, .int .i64 0] 42, .pt b3 [.int .i64 r.radius, .int .i64 r.unit, .int .i64 r.clicks, .int .i64 r.total, .slice ag r.group.length cg, .slice ad r.drifts.length cd, .slice af r.first.length cf, .slice an r.next.length cn] 32, .pt b4 [.int .i64 p.miss, .int .i64 p.click, .int .i64 p.wait, .int .i64 p.waits] 33]) 0 (by omega) ⟨rfl, rfl, rfl, rfl, rfl, rfl, trivial⟩ (by repeat (first | exact Sp.nil | exact Sp.refl _ | refine Sp.cons (by repeat constructor) ?_)) ?_
  intro s hsl3 K hK
  ((iterate 2 refine q_seq ?_); refine q_region ?_; (iterate 2 refine ql_pure tabOk rfl rfl ?_); refine ql_loadB tabOk rfl rfl rfl (by repeat first | exact .head _ | refine .tail _ ?_) (by rfl) ?_; (iterate 2 refine ql_pure tabOk rfl rfl ?_); refine q_nil ?_)
  refine q_if rfl (fun hc => ?_) (fun hc => ?_)
  · have hs2 : s < r.drifts.length := by omega
    clear hc
    have hs3 : s < r.first.length := by omega
    have hin := plc_in (r := r) (p := p) 0 wt s 0 (by omega) (by omega) hs2 (by omega)
    have hix := idx_lt hin
    rw [← hll] at hix
    have hga : gV r p l 0 p.waits.toNat s 0 = l[idxP r p (0, wt, s, 0)] := by rw [← hwt]; unfold gV; simp [List.getD_eq_getElem?_getD, hix]
    have hgf : r.first.getD s 0 = r.first[s] := by simp [List.getD_eq_getElem?_getD, hs3]
    have hst1 : sumR (fun s => r.first.getD s 0 * gV r p l 0 p.waits.toNat s 0) (s + 1) = sumR (fun s => r.first.getD s 0 * gV r p l 0 p.waits.toNat s 0) s + r.first[s] * l[idxP r p (0, wt, s, 0)] := by rw [sumR, hga, hgf]
    have hb0 := costV_k hr hvl s (by omega)
    have hb1 := costV_k hr hvl (s + 1) (by omega)
    have mm := mul_bd0 (A := 12) (B := 1000000000000000) (show 0 ≤ r.first[s] ∧ r.first[s] ≤ 12 by have := first_bd hr s; have := hr.total; rw [hgf] at *; omega) (hvl.bd _ (List.getElem_mem hix))
    rw [hst1] at hb1
    obtain ⟨bl, ol, rfl⟩ := hsl (by omega)
    obtain ⟨bf, of, rfl⟩ := hsf (by omega)
    (refine q_skip ?_; refine q_seq ?_; refine q_block ?_)
    refine q_draw _ [] (Sp.refl _) (by kernel_rfl) (by kernel_rfl) ?_
    ((iterate 2 refine qf_pure tabOk rfl rfl rfl ?_); refine qf_loadB tabOk rfl rfl rfl (by repeat first | exact .head _ | refine .tail _ ?_) (by rfl) ?_; refine qf_pure tabOk rfl rfl rfl ?_)
    (refine qf_index tabOk rfl rfl rfl rfl rfl (by omega) (by omega) ?_; refine qf_load1 tabOk rfl rfl rfl (fun w hs => RdI.at (RdE.keep hf hs.chg0) s hs3) ?_)
    (refine qf_pure tabOk rfl rfl rfl ?_; (iterate 2 refine qf_loadAB tabOk rfl rfl rfl (by repeat first | exact .head _ | refine .tail _ ?_) (by rfl) (by rfl) ?_); refine qf_pure tabOk rfl rfl rfl ?_; refine qf_loadB tabOk rfl rfl rfl (by repeat first | exact .head _ | refine .tail _ ?_) (by rfl) ?_; refine qf_pure tabOk rfl rfl rfl ?_)
    refine qf_callv (val := .int .i64 ((idxP r p (0, wt, s, 0) : Nat) : Int)) tabOk rfl rfl rfl rfl (fun w hs => ?_) ?_; exact by have := at_ca w _ r p 0 wt s 0 (h0.keep hs.chg0) hr hp (by omega) (by omega) hs2 (by omega); rw [hwi] at this; exact this
    skip
    (refine qf_index tabOk rfl rfl rfl rfl rfl (by omega) (by omega) ?_; refine qf_load1 tabOk rfl rfl rfl (fun w hs => RdI.at (RdE.keep hl hs.chg0) (idxP r p (0, wt, s, 0)) hix) ?_)
    ((iterate 2 refine qf_ar tabOk rfl rfl rfl rfl (by omega) (by omega) ?_); refine qf_pure tabOk rfl rfl rfl ?_; refine qf_nil ?_; refine q_blk ?_; refine q_region ?_; refine ql_pure tabOk rfl rfl ?_; refine ql_ar tabOk rfl rfl rfl rfl (by omega) (by omega) ?_; refine ql_pure tabOk rfl rfl ?_; refine q_nil ?_)
    exact hK (s + 1) _ _ (by omega) (by omega) ⟨rfl, rfl, rfl, rfl, by rw [hst1]; rfl, rfl, trivial⟩ (by repeat (first | exact Sp.nil | exact Sp.refl _ | refine Sp.cons (by repeat constructor) ?_))
  obtain rfl : s = r.drifts.length := by omega
  clear hc hK
  have hb0 := costV_k hr hvl r.drifts.length (by omega)
  have ht := tot8 r hr (5 + wt) (by omega)
  have hgs := hr.gsum
  have hmul := mul_bd0 (A := 100) (B := 429981696) (show 0 ≤ r.group.sum ∧ r.group.sum ≤ 100 by omega) (show 0 ≤ r.total ^ (5 + wt) ∧ r.total ^ (5 + wt) ≤ 429981696 by omega)
  have hpos := Int.mul_pos (show 0 < r.group.sum by omega) (show 0 < r.total ^ (5 + wt) by omega)
  have hco : sumR (fun s => r.first.getD s 0 * gV r p l 0 p.waits.toNat s 0) r.drifts.length = costV r p (gV r p l) := rfl
  rw [hco] at hb0 ⊢
  (refine q_exit _ rfl ?_; refine q_seq ?_)
  refine q_draw _ [.pt b6 _ _] (Sp.cons (by repeat constructor) (Sp.refl _)) (by kernel_rfl) (by kernel_rfl) ?_
  ((iterate 2 refine qf_pure tabOk rfl rfl rfl ?_); refine qf_loadB tabOk rfl rfl rfl (by repeat first | exact .head _ | refine .tail _ ?_) (by rfl) ?_)
  refine qf_callv (val := .int .i64 r.group.sum) tabOk rfl rfl rfl rfl (fun w hs => ?_) ?_; exact rtotal_ca w lo hi _ r.group (RdE.keep hg hs.chg0) (by omega) (fun x hx => by have := hr.weight x hx; omega)
  (refine qf_loadAB tabOk rfl rfl rfl (by repeat first | exact .head _ | refine .tail _ ?_) (by rfl) (by rfl) ?_; refine qf_pure tabOk rfl rfl rfl ?_; refine qf_loadB tabOk rfl rfl rfl (by repeat first | exact .head _ | refine .tail _ ?_) (by rfl) ?_; refine qf_ar tabOk rfl rfl rfl rfl (by omega) (by omega) ?_)
  refine qf_callv (val := .int .i64 (r.total ^ (5 + wt))) tabOk rfl rfl rfl rfl (fun w hs => ?_) ?_; exact by have := power_ca w _ r (5 + wt) (h0.keep hs.chg0) hr (by omega); rw [show ((5 + wt : Nat) : Int) = 5 + p.waits by omega] at this; exact this
  (refine qf_ar tabOk rfl rfl rfl rfl (by omega) (by omega) ?_)
  refine qf_callv (val := rtV (ratioV (costV r p (gV r p l)) (r.group.sum * r.total ^ (5 + wt)))) tabOk rfl rfl rfl rfl (fun w hs => ?_) ?_; exact lowest_ca (costV r p (gV r p l)) (r.group.sum * r.total ^ (5 + wt)) w (by omega) (by omega) (by omega) (by omega)
  (refine qf_setA tabOk rfl rfl rfl rfl rfl (by repeat constructor) rfl ?_; refine qf_pure tabOk rfl rfl rfl ?_; refine qf_nil ?_; refine q_ret ?_)
  refine q_fin tabOk rfl (by repeat (first | exact RVs.nil | apply RVs.tmp rfl | apply RVs.cellA rfl rfl (by repeat first | exact .head _ | refine .tail _ ?_) (by rfl) | apply RVs.cell1 rfl rfl (by repeat first | exact .head _ | refine .tail _ ?_))) fun w hs => ?_
  exact ⟨rfl, hs.chg0⟩
end Go.Proofs.Ytohlillcaadidaa

/- The engine, part B16: shifts, and the last bit. -/
namespace Go.Eng
open Go Go.RowKit

section
variable {P : Program} {ro : Cx} {n : Nat} {F : Fin} {w0 : World} {M : Nat → Prop} {k : List It} {ops : Array Oper} {rest : List Oper} {e : Env} {H Hq : List Ck}
end
end Go.Eng

/- Engine 2: a block of numbers with room behind them. -/
namespace Go.Eng
open Go Go.RowKit

section
variable {P : Program} {T : Tab} {ro : Cx} {n : Nat} {F : Fin} {w0 : World} {M : Nat → Prop} {k : List It} {ops : Array Oper} {rest : List Oper} {e : Env} {H Hq : List Ck}
end
end Go.Eng

/- Engine 2: a region that draws, with any marks. -/
namespace Go.Eng
open Go Go.RowKit

section
variable {P : Program} {ro : Cx} {n : Nat} {F : Fin} {w0 : World} {M : Nat → Prop} {k : List It} {ops : Array Oper} {l : List Oper} {e : Env} {H H1 H2 : List Ck} {bs : List Bool}
structure QB (P : Program) (ro : Cx) (n : Nat) (F : Fin) (w0 : World) (M : Nat → Prop) (k : List It) (ops : Array Oper) (H1 H2 : List Ck) (bs : List Bool) (l : List Oper) (e : Env) (H : List Ck) : Prop where
  h : ∀ w, Sat w0 M H w → YB P ro n F k ops (Sat w0 M H1) (Sat w0 M H2) bs l e w
end
end Go.Eng

/- Engine 2: changing an element of a slice of our own, in a region that draws. -/
namespace Go.Eng
open Go Go.RowKit

section
variable {P : Program} {T : Tab}
variable {ro : Cx} {n : Nat} {F : Fin} {w0 : World} {M : Nat → Prop} {k : List It} {ops : Array Oper} {rest : List Oper} {e : Env} {H Hq : List Ck}
end
end Go.Eng

/- Engine, part B20: two Bools compared. -/
namespace Go.Eng
open Go Go.RowKit

section
variable {P : Program} {T : Tab} {ro : Cx} {n : Nat} {F : Fin} {w0 : World} {M : Nat → Prop} {k : List It} {ops : Array Oper} {rest : List Oper} {e : Env} {H Hq : List Ck}
def boolB (P : Program) (t : Nat) : Bool := match P.underlying t with | some .bool => true | _ => false
theorem boolB_eq {t : Nat} (h : boolB P t = true) : P.underlying t = some .bool := by
  unfold boolB at h
  split at h
  · assumption
  · cases h
theorem exec_eqb {a : Act} {d t t' : Nat} {x y : Operand} {p q : Bool} {ty : TypeId} {pos : String} {af : Array Edge} (hf : Fits n e a) (hx : opv e x = some (.bool p)) (hy : opv e y = some (.bool q)) (hB : boolB P t = true) (w : World) :
    (execOp a.eval ⟨some d, .binOp .eql t x y t', ty, pos, af, none⟩).run P w = .ok (.value (.bool (p == q))) w ∧ (execOp a.eval ⟨some d, .binOp .neq t x y t', ty, pos, af, none⟩).run P w = .ok (.value (.bool (!(p == q)))) w := by
  have e1 := hf.op hx
  have e2 := hf.op hy
  have hu := boolB_eq hB
  have h3 := run_equalIn_bool w 9999 t p q hu
  constructor <;> simp [execOp, e1, e2, eqGuard, binOp, Op.equal, Op.maxDepth, h3]
theorem ql_eqb {d t t' : Nat} {x y : Operand} {p q : Bool} {ty : TypeId} {pos : String} {af : Array Edge} (hB : boolB P t = true) (hx : opv e x = some (.bool p)) (hy : opv e y = some (.bool q)) (hd : Nat.blt d n = true)
    (h : QL P ro n F w0 M k ops rest ((d, .bool (p == q)) :: e) H) : QL P ro n F w0 M k ops (⟨some d, .binOp .eql t x y t', ty, pos, af, none⟩ :: rest) e H := .mk fun w hw =>
  yl_val (by simp) hd (fun _ hf => (exec_eqb hf hx hy hB w).1) (h.h w hw)
end
end Go.Eng

/- The walk of WindPlans. -/
namespace Go.Proofs.Ytohlillcaadidaa
open Go Go.Eng

/-- The values of all situations; none if the rules are not right. -/
def valL (r : Rg) (p : Ru) : List Int := if rulesV r p = 0 then (plcL r p).map (valP r p) else []
theorem valL_len (r : Rg) (p : Ru) : (valL r p).length ≤ 1000000 := by
  unfold valL
  split
  · rename_i h
    obtain ⟨h1, h2⟩ := (rules_iff r p).1 h
    simpa using plcL_len_le r p ((right_check r).1 h1) h2
  · simp
theorem rdI_nil (w : World) (hi : Nat) : RdI w 0 hi (.slice none 0 0) [] := RdE.one ⟨rfl, .inl ⟨.inl rfl, rfl⟩⟩ (by simp)
theorem values_u (w : World) (cs : List Value) (r : Rg) (p : Ru) (h : RgC w cs r) (hsm : r.Small) :
    Ca Try.prog 21 [.agg cs.toArray, ruV p] w fun v w' => ∃ x : Value × List Ck, (v = .tuple #[x.1, .int .i64 (rulesV r p)] ∧ ∀ w'', (∀ c ∈ x.2, c.p w'') → RdI w'' 0 w''.heap.size x.1 (valL r p)) ∧ Sat w M0 [un x.2] w' := by
  by_cases hru : rulesV r p = 0
  · refine (values_ok w cs r p h hsm hru).mono fun v w' ⟨x, h1, h3⟩ => ⟨(x, [.ow x 3 1 (plcL r p).length (ints ((plcL r p).map (valP r p)))]), ⟨by rw [h1, hru], fun w'' hp => ?_⟩, Sat.un1.2 h3⟩
    unfold valL
    rw [if_pos hru]
    exact own_rdI (hp (.ow x 3 1 (plcL r p).length (ints ((plcL r p).map (valP r p)))) (by simp)) (by simp)
  · refine (values_no w cs r p h hsm hru).mono fun v w' ⟨h1, h2⟩ => ⟨(.slice none 0 0, []), ⟨h1, fun w'' _ => ?_⟩, Sat.un1.2 ((Sat.nil w M0).keep h2)⟩
    unfold valL
    rw [if_neg hru]
    exact rdI_nil _ _
theorem rvalues_u (w : World) (cs : List Value) (r : Rg) (p : Ru) (h : RgC w cs r) (hsm : r.Small) :
    Ca Try.prog 22 [.agg cs.toArray, ruV p] w fun v w' => ∃ x : Value × List Ck, (v = .tuple #[x.1, .int .i64 (rulesV r p)] ∧ ∀ w'', (∀ c ∈ x.2, c.p w'') → RdI w'' 0 w''.heap.size x.1 (valL r p)) ∧ Sat w M0 [un x.2] w' := by
  by_cases hru : rulesV r p = 0
  · refine (rvaluesF_ok w cs r p h hsm hru).mono fun v w' ⟨x, h1, h3⟩ => ⟨(.slice (some ⟨x, 0, none⟩) (plcL r p).length (plcL r p).length, [.pt x (ints ((plcL r p).map (valP r p))) 3]), ⟨by rw [h1, hru], fun w'' hp => ?_⟩, Sat.un1.2 h3⟩
    unfold valL
    rw [if_pos hru]
    have hb : Blk w'' x (ints ((plcL r p).map (valP r p))) 3 := hp (.pt x (ints ((plcL r p).map (valP r p))) 3) (by simp)
    exact RdE.wide (blk_rdI hb (List.length_map _).symm) (Nat.zero_le _) hb.lt
  · refine (rvaluesF_no w cs r p h hsm hru).mono fun v w' ⟨h1, h2⟩ => ⟨(.slice none 0 0, []), ⟨h1, fun w'' _ => ?_⟩, Sat.un1.2 ((Sat.nil w M0).keep h2)⟩
    unfold valL
    rw [if_neg hru]
    exact rdI_nil _ _

set_option maxRecDepth 40000 in
set_option maxHeartbeats 16000000 in
theorem windPlans_ca (w : World) (l0 h1_ : Nat) (cs : List Value) (r : Rg) (p : Ru) (vv : Value) (vl : List Int) (shot waits state click : Int) (h : RgC w cs r) (hvl : RdI w l0 h1_ vv vl) (hl : r.next.length ≤ maxLen) (n2 : vl.length ≤ maxLen) :
    Ca Try.prog 3 [.agg cs.toArray, ruV p, vv, .int .i64 shot, .int .i64 waits, .int .i64 state, .int .i64 click] w fun r w' => r = .bool true ∧ Chg [] w w' := by
  have h0 := h
  obtain ⟨lo, hi, ag, cg, ad, cd, af, cf, an, cn, rfl, hg, hdr, hf, hn⟩ := h
  obtain ⟨va, vc, rfl, _⟩ := RdI.outI hvl
  simp only [maxLen] at n2
  refine q_of (Sat.nil w M0) Try.func3 rfl (by simp [Try.ntmps3]) ?_
  (refine q_seq ?_; refine q_region ?_)
  refine ql_box rfl rfl (fun b7 => ?_)
  refine ql_box rfl rfl (fun b8 => ?_)
  (refine ql_pure tabOk rfl rfl ?_; refine q_nil ?_; (iterate 2 refine q_seq ?_); refine q_region ?_; refine ql_loadAB tabOk rfl rfl rfl (by repeat first | exact .head _ | refine .tail _ ?_) (by rfl) (by rfl) ?_)
  refine ql_call (β := Bool) tabOk [] _ M0 rfl rfl rfl rfl (Sp.refl _) (fun _ h => h.elim) (fun w' hs => long_ca w' _ r (h0.keep hs.chg0) hl) ?_
  rintro b _ ⟨rfl, hsm⟩
  cases b with
  | true =>
    (refine ql_pure tabOk rfl rfl ?_; (iterate 3 refine ql_gno rfl rfl rfl ?_); refine ql_pure tabOk rfl rfl ?_; refine q_nil ?_; refine q_cond_true rfl ?_; refine q_seq ?_; refine q_region ?_)
    refine ql_callv (val := .bool true) tabOk rfl rfl rfl rfl (fun w hs => ?_) ?_; exact awake_ca w
    (refine ql_pure tabOk rfl rfl ?_; refine q_nil ?_; refine q_ret ?_)
    refine q_fin tabOk rfl (by repeat (first | exact RVs.nil | apply RVs.tmp rfl | apply RVs.cellA rfl rfl (by repeat first | exact .head _ | refine .tail _ ?_) (by rfl) | apply RVs.cell1 rfl rfl (by repeat first | exact .head _ | refine .tail _ ?_))) fun w hs => ?_
    exact ⟨rfl, hs.chg0⟩
  | false =>
  replace hsm := hsm rfl
  (refine ql_pure tabOk rfl rfl ?_; refine ql_gyes rfl ?_; refine ql_pure tabOk rfl rfl ?_; refine ql_gyes rfl ?_; refine ql_pure tabOk rfl rfl ?_; refine ql_gyes rfl ?_; (iterate 2 refine ql_pure tabOk rfl rfl ?_); refine q_nil ?_)
  refine q_if rfl (fun hc => ?_) (fun hc => ?_)
  · (refine q_seq ?_; refine q_region ?_)
    refine ql_callv (val := .bool true) tabOk rfl rfl rfl rfl (fun w hs => ?_) ?_; exact awake_ca w
    (refine ql_pure tabOk rfl rfl ?_; refine q_nil ?_; refine q_ret ?_)
    refine q_fin tabOk rfl (by repeat (first | exact RVs.nil | apply RVs.tmp rfl | apply RVs.cellA rfl rfl (by repeat first | exact .head _ | refine .tail _ ?_) (by rfl) | apply RVs.cell1 rfl rfl (by repeat first | exact .head _ | refine .tail _ ?_))) fun w hs => ?_
    exact ⟨rfl, hs.chg0⟩
  have c3 : vl.length ≤ 1400 := by omega
  clear hc
  (refine q_skip ?_; refine q_seq ?_)
  refine q_cut (σ := Nat × Nat × Nat × Cp r × Value × Cp r) (fun ⟨b15, b17, b18, x1, x2, x3⟩ => [(2, .slice va vl.length vc), (3, .int .i64 shot), (4, .int .i64 waits), (5, .int .i64 state), (6, .int .i64 click), (7, .pointer (some ⟨b7, 0, none⟩)), (8, .pointer (some ⟨b8, 0, none⟩)), (15, .pointer (some ⟨b15, 0, none⟩)), (17, .pointer (some ⟨b17, 0, none⟩)), (18, .pointer (some ⟨b18, 0, none⟩)), (16, x2)]) (fun ⟨b15, b17, b18, x1, x2, x3⟩ => [un x1.K, .ow x2 3 1 vl.length (ints vl), un x3.K, .pt b15 [.int .i64 r.radius, .int .i64 r.unit, .int .i64 r.clicks, .int .i64 r.total, .slice x1.a1 r.group.length x1.c1, .slice x1.a2 r.drifts.length x1.c2, .slice x1.a3 r.first.length x1.c3, .slice x1.a4 r.next.length x1.c4] 25, .pt b17 [.int .i64 r.radius, .int .i64 r.unit, .int .i64 r.clicks, .int .i64 r.total, .slice x3.a1 r.group.length x3.c1, .slice x3.a2 r.drifts.length x3.c2, .slice x3.a3 r.first.length x3.c3, .slice x3.a4 r.next.length x3.c4] 32, .pt b18 [.int .i64 p.miss, .int .i64 p.click, .int .i64 p.wait, .int .i64 p.waits] 33, .pt b7 [.int .i64 r.radius, .int .i64 r.unit, .int .i64 r.clicks, .int .i64 r.total, .slice ag r.group.length cg, .slice ad r.drifts.length cd, .slice af r.first.length cf, .slice an r.next.length cn] 25, .pt b8 [.int .i64 p.miss, .int .i64 p.click, .int .i64 p.wait, .int .i64 p.waits] 27]) ?_ (fun K2 hK2 => ?_)
  rotate_left
  · skip
    refine q_drawT (.alt (chainT [0, 1] (.alt (chainT [2, 3] (.alt (chainT [4, 5] (.alt (chainT [7] (.alt (chainT [8] (chainT [9] (chainT [6, 10, 11] (chainT [12] (chainT [13] (.nil)))))) (chainT [9] (chainT [8] (chainT [6, 10, 11] (chainT [12] (chainT [13] (.nil)))))))) (.alt (chainT [8] (.alt (chainT [7] (chainT [9] (chainT [6, 10, 11] (chainT [12] (chainT [13] (.nil)))))) (chainT [9] (chainT [7] (chainT [6, 10, 11] (chainT [12] (chainT [13] (.nil)))))))) (chainT [9] (.alt (chainT [7] (chainT [8] (chainT [6, 10, 11] (chainT [12] (chainT [13] (.nil)))))) (chainT [8] (chainT [7] (chainT [6, 10, 11] (chainT [12] (chainT [13] (.nil))))))))))) (.alt (chainT [7] (.alt (chainT [4, 5] (.alt (chainT [8] (chainT [9] (chainT [6, 10, 11] (chainT [12] (chainT [13] (.nil)))))) (chainT [9] (chainT [8] (chainT [6, 10, 11] (chainT [12] (chainT [13] (.nil)))))))) (.alt (chainT [8] (.alt (chainT [4, 5] (chainT [9] (chainT [6, 10, 11] (chainT [12] (chainT [13] (.nil)))))) (chainT [9] (chainT [4, 5] (chainT [6, 10, 11] (chainT [12] (chainT [13] (.nil)))))))) (chainT [9] (.alt (chainT [4, 5] (chainT [8] (chainT [6, 10, 11] (chainT [12] (chainT [13] (.nil)))))) (chainT [8] (chainT [4, 5] (chainT [6, 10, 11] (chainT [12] (chainT [13] (.nil))))))))))) (.alt (chainT [8] (.alt (chainT [4, 5] (.alt (chainT [7] (chainT [9] (chainT [6, 10, 11] (chainT [12] (chainT [13] (.nil)))))) (chainT [9] (chainT [7] (chainT [6, 10, 11] (chainT [12] (chainT [13] (.nil)))))))) (.alt (chainT [7] (.alt (chainT [4, 5] (chainT [9] (chainT [6, 10, 11] (chainT [12] (chainT [13] (.nil)))))) (chainT [9] (chainT [4, 5] (chainT [6, 10, 11] (chainT [12] (chainT [13] (.nil)))))))) (chainT [9] (.alt (chainT [4, 5] (chainT [7] (chainT [6, 10, 11] (chainT [12] (chainT [13] (.nil)))))) (chainT [7] (chainT [4, 5] (chainT [6, 10, 11] (chainT [12] (chainT [13] (.nil))))))))))) (chainT [9] (.alt (chainT [4, 5] (.alt (chainT [7] (chainT [8] (chainT [6, 10, 11] (chainT [12] (chainT [13] (.nil)))))) (chainT [8] (chainT [7] (chainT [6, 10, 11] (chainT [12] (chainT [13] (.nil)))))))) (.alt (chainT [7] (.alt (chainT [4, 5] (chainT [8] (chainT [6, 10, 11] (chainT [12] (chainT [13] (.nil)))))) (chainT [8] (chainT [4, 5] (chainT [6, 10, 11] (chainT [12] (chainT [13] (.nil)))))))) (chainT [8] (.alt (chainT [4, 5] (chainT [7] (chainT [6, 10, 11] (chainT [12] (chainT [13] (.nil)))))) (chainT [7] (chainT [4, 5] (chainT [6, 10, 11] (chainT [12] (chainT [13] (.nil))))))))))))))) (.alt (chainT [7] (.alt (chainT [2, 3] (.alt (chainT [4, 5] (.alt (chainT [8] (chainT [9] (chainT [6, 10, 11] (chainT [12] (chainT [13] (.nil)))))) (chainT [9] (chainT [8] (chainT [6, 10, 11] (chainT [12] (chainT [13] (.nil)))))))) (.alt (chainT [8] (.alt (chainT [4, 5] (chainT [9] (chainT [6, 10, 11] (chainT [12] (chainT [13] (.nil)))))) (chainT [9] (chainT [4, 5] (chainT [6, 10, 11] (chainT [12] (chainT [13] (.nil)))))))) (chainT [9] (.alt (chainT [4, 5] (chainT [8] (chainT [6, 10, 11] (chainT [12] (chainT [13] (.nil)))))) (chainT [8] (chainT [4, 5] (chainT [6, 10, 11] (chainT [12] (chainT [13] (.nil))))))))))) (.alt (chainT [8] (.alt (chainT [2, 3] (.alt (chainT [4, 5] (chainT [9] (chainT [6, 10, 11] (chainT [12] (chainT [13] (.nil)))))) (chainT [9] (chainT [4, 5] (chainT [6, 10, 11] (chainT [12] (chainT [13] (.nil)))))))) (chainT [9] (chainT [2, 3] (chainT [4, 5] (chainT [6, 10, 11] (chainT [12] (chainT [13] (.nil))))))))) (chainT [9] (.alt (chainT [2, 3] (.alt (chainT [4, 5] (chainT [8] (chainT [6, 10, 11] (chainT [12] (chainT [13] (.nil)))))) (chainT [8] (chainT [4, 5] (chainT [6, 10, 11] (chainT [12] (chainT [13] (.nil)))))))) (chainT [8] (chainT [2, 3] (chainT [4, 5] (chainT [6, 10, 11] (chainT [12] (chainT [13] (.nil)))))))))))) (.alt (chainT [8] (.alt (chainT [2, 3] (.alt (chainT [4, 5] (.alt (chainT [7] (chainT [9] (chainT [6, 10, 11] (chainT [12] (chainT [13] (.nil)))))) (chainT [9] (chainT [7] (chainT [6, 10, 11] (chainT [12] (chainT [13] (.nil)))))))) (.alt (chainT [7] (.alt (chainT [4, 5] (chainT [9] (chainT [6, 10, 11] (chainT [12] (chainT [13] (.nil)))))) (chainT [9] (chainT [4, 5] (chainT [6, 10, 11] (chainT [12] (chainT [13] (.nil)))))))) (chainT [9] (.alt (chainT [4, 5] (chainT [7] (chainT [6, 10, 11] (chainT [12] (chainT [13] (.nil)))))) (chainT [7] (chainT [4, 5] (chainT [6, 10, 11] (chainT [12] (chainT [13] (.nil))))))))))) (.alt (chainT [7] (.alt (chainT [2, 3] (.alt (chainT [4, 5] (chainT [9] (chainT [6, 10, 11] (chainT [12] (chainT [13] (.nil)))))) (chainT [9] (chainT [4, 5] (chainT [6, 10, 11] (chainT [12] (chainT [13] (.nil)))))))) (chainT [9] (chainT [2, 3] (chainT [4, 5] (chainT [6, 10, 11] (chainT [12] (chainT [13] (.nil))))))))) (chainT [9] (.alt (chainT [2, 3] (.alt (chainT [4, 5] (chainT [7] (chainT [6, 10, 11] (chainT [12] (chainT [13] (.nil)))))) (chainT [7] (chainT [4, 5] (chainT [6, 10, 11] (chainT [12] (chainT [13] (.nil)))))))) (chainT [7] (chainT [2, 3] (chainT [4, 5] (chainT [6, 10, 11] (chainT [12] (chainT [13] (.nil)))))))))))) (chainT [9] (.alt (chainT [2, 3] (.alt (chainT [4, 5] (.alt (chainT [7] (chainT [8] (chainT [6, 10, 11] (chainT [12] (chainT [13] (.nil)))))) (chainT [8] (chainT [7] (chainT [6, 10, 11] (chainT [12] (chainT [13] (.nil)))))))) (.alt (chainT [7] (.alt (chainT [4, 5] (chainT [8] (chainT [6, 10, 11] (chainT [12] (chainT [13] (.nil)))))) (chainT [8] (chainT [4, 5] (chainT [6, 10, 11] (chainT [12] (chainT [13] (.nil)))))))) (chainT [8] (.alt (chainT [4, 5] (chainT [7] (chainT [6, 10, 11] (chainT [12] (chainT [13] (.nil)))))) (chainT [7] (chainT [4, 5] (chainT [6, 10, 11] (chainT [12] (chainT [13] (.nil))))))))))) (.alt (chainT [7] (.alt (chainT [2, 3] (.alt (chainT [4, 5] (chainT [8] (chainT [6, 10, 11] (chainT [12] (chainT [13] (.nil)))))) (chainT [8] (chainT [4, 5] (chainT [6, 10, 11] (chainT [12] (chainT [13] (.nil)))))))) (chainT [8] (chainT [2, 3] (chainT [4, 5] (chainT [6, 10, 11] (chainT [12] (chainT [13] (.nil))))))))) (chainT [8] (.alt (chainT [2, 3] (.alt (chainT [4, 5] (chainT [7] (chainT [6, 10, 11] (chainT [12] (chainT [13] (.nil)))))) (chainT [7] (chainT [4, 5] (chainT [6, 10, 11] (chainT [12] (chainT [13] (.nil)))))))) (chainT [7] (chainT [2, 3] (chainT [4, 5] (chainT [6, 10, 11] (chainT [12] (chainT [13] (.nil)))))))))))))))) (.alt (chainT [7] (.alt (chainT [0, 1] (.alt (chainT [2, 3] (.alt (chainT [4, 5] (.alt (chainT [8] (chainT [9] (chainT [6, 10, 11] (chainT [12] (chainT [13] (.nil)))))) (chainT [9] (chainT [8] (chainT [6, 10, 11] (chainT [12] (chainT [13] (.nil)))))))) (.alt (chainT [8] (.alt (chainT [4, 5] (chainT [9] (chainT [6, 10, 11] (chainT [12] (chainT [13] (.nil)))))) (chainT [9] (chainT [4, 5] (chainT [6, 10, 11] (chainT [12] (chainT [13] (.nil)))))))) (chainT [9] (.alt (chainT [4, 5] (chainT [8] (chainT [6, 10, 11] (chainT [12] (chainT [13] (.nil)))))) (chainT [8] (chainT [4, 5] (chainT [6, 10, 11] (chainT [12] (chainT [13] (.nil))))))))))) (.alt (chainT [8] (.alt (chainT [2, 3] (.alt (chainT [4, 5] (chainT [9] (chainT [6, 10, 11] (chainT [12] (chainT [13] (.nil)))))) (chainT [9] (chainT [4, 5] (chainT [6, 10, 11] (chainT [12] (chainT [13] (.nil)))))))) (chainT [9] (chainT [2, 3] (chainT [4, 5] (chainT [6, 10, 11] (chainT [12] (chainT [13] (.nil))))))))) (chainT [9] (.alt (chainT [2, 3] (.alt (chainT [4, 5] (chainT [8] (chainT [6, 10, 11] (chainT [12] (chainT [13] (.nil)))))) (chainT [8] (chainT [4, 5] (chainT [6, 10, 11] (chainT [12] (chainT [13] (.nil)))))))) (chainT [8] (chainT [2, 3] (chainT [4, 5] (chainT [6, 10, 11] (chainT [12] (chainT [13] (.nil)))))))))))) (.alt (chainT [8] (.alt (chainT [0, 1] (.alt (chainT [2, 3] (.alt (chainT [4, 5] (chainT [9] (chainT [6, 10, 11] (chainT [12] (chainT [13] (.nil)))))) (chainT [9] (chainT [4, 5] (chainT [6, 10, 11] (chainT [12] (chainT [13] (.nil)))))))) (chainT [9] (chainT [2, 3] (chainT [4, 5] (chainT [6, 10, 11] (chainT [12] (chainT [13] (.nil))))))))) (chainT [9] (chainT [0, 1] (chainT [2, 3] (chainT [4, 5] (chainT [6, 10, 11] (chainT [12] (chainT [13] (.nil)))))))))) (chainT [9] (.alt (chainT [0, 1] (.alt (chainT [2, 3] (.alt (chainT [4, 5] (chainT [8] (chainT [6, 10, 11] (chainT [12] (chainT [13] (.nil)))))) (chainT [8] (chainT [4, 5] (chainT [6, 10, 11] (chainT [12] (chainT [13] (.nil)))))))) (chainT [8] (chainT [2, 3] (chainT [4, 5] (chainT [6, 10, 11] (chainT [12] (chainT [13] (.nil))))))))) (chainT [8] (chainT [0, 1] (chainT [2, 3] (chainT [4, 5] (chainT [6, 10, 11] (chainT [12] (chainT [13] (.nil))))))))))))) (.alt (chainT [8] (.alt (chainT [0, 1] (.alt (chainT [2, 3] (.alt (chainT [4, 5] (.alt (chainT [7] (chainT [9] (chainT [6, 10, 11] (chainT [12] (chainT [13] (.nil)))))) (chainT [9] (chainT [7] (chainT [6, 10, 11] (chainT [12] (chainT [13] (.nil)))))))) (.alt (chainT [7] (.alt (chainT [4, 5] (chainT [9] (chainT [6, 10, 11] (chainT [12] (chainT [13] (.nil)))))) (chainT [9] (chainT [4, 5] (chainT [6, 10, 11] (chainT [12] (chainT [13] (.nil)))))))) (chainT [9] (.alt (chainT [4, 5] (chainT [7] (chainT [6, 10, 11] (chainT [12] (chainT [13] (.nil)))))) (chainT [7] (chainT [4, 5] (chainT [6, 10, 11] (chainT [12] (chainT [13] (.nil))))))))))) (.alt (chainT [7] (.alt (chainT [2, 3] (.alt (chainT [4, 5] (chainT [9] (chainT [6, 10, 11] (chainT [12] (chainT [13] (.nil)))))) (chainT [9] (chainT [4, 5] (chainT [6, 10, 11] (chainT [12] (chainT [13] (.nil)))))))) (chainT [9] (chainT [2, 3] (chainT [4, 5] (chainT [6, 10, 11] (chainT [12] (chainT [13] (.nil))))))))) (chainT [9] (.alt (chainT [2, 3] (.alt (chainT [4, 5] (chainT [7] (chainT [6, 10, 11] (chainT [12] (chainT [13] (.nil)))))) (chainT [7] (chainT [4, 5] (chainT [6, 10, 11] (chainT [12] (chainT [13] (.nil)))))))) (chainT [7] (chainT [2, 3] (chainT [4, 5] (chainT [6, 10, 11] (chainT [12] (chainT [13] (.nil)))))))))))) (.alt (chainT [7] (.alt (chainT [0, 1] (.alt (chainT [2, 3] (.alt (chainT [4, 5] (chainT [9] (chainT [6, 10, 11] (chainT [12] (chainT [13] (.nil)))))) (chainT [9] (chainT [4, 5] (chainT [6, 10, 11] (chainT [12] (chainT [13] (.nil)))))))) (chainT [9] (chainT [2, 3] (chainT [4, 5] (chainT [6, 10, 11] (chainT [12] (chainT [13] (.nil))))))))) (chainT [9] (chainT [0, 1] (chainT [2, 3] (chainT [4, 5] (chainT [6, 10, 11] (chainT [12] (chainT [13] (.nil)))))))))) (chainT [9] (.alt (chainT [0, 1] (.alt (chainT [2, 3] (.alt (chainT [4, 5] (chainT [7] (chainT [6, 10, 11] (chainT [12] (chainT [13] (.nil)))))) (chainT [7] (chainT [4, 5] (chainT [6, 10, 11] (chainT [12] (chainT [13] (.nil)))))))) (chainT [7] (chainT [2, 3] (chainT [4, 5] (chainT [6, 10, 11] (chainT [12] (chainT [13] (.nil))))))))) (chainT [7] (chainT [0, 1] (chainT [2, 3] (chainT [4, 5] (chainT [6, 10, 11] (chainT [12] (chainT [13] (.nil))))))))))))) (chainT [9] (.alt (chainT [0, 1] (.alt (chainT [2, 3] (.alt (chainT [4, 5] (.alt (chainT [7] (chainT [8] (chainT [6, 10, 11] (chainT [12] (chainT [13] (.nil)))))) (chainT [8] (chainT [7] (chainT [6, 10, 11] (chainT [12] (chainT [13] (.nil)))))))) (.alt (chainT [7] (.alt (chainT [4, 5] (chainT [8] (chainT [6, 10, 11] (chainT [12] (chainT [13] (.nil)))))) (chainT [8] (chainT [4, 5] (chainT [6, 10, 11] (chainT [12] (chainT [13] (.nil)))))))) (chainT [8] (.alt (chainT [4, 5] (chainT [7] (chainT [6, 10, 11] (chainT [12] (chainT [13] (.nil)))))) (chainT [7] (chainT [4, 5] (chainT [6, 10, 11] (chainT [12] (chainT [13] (.nil))))))))))) (.alt (chainT [7] (.alt (chainT [2, 3] (.alt (chainT [4, 5] (chainT [8] (chainT [6, 10, 11] (chainT [12] (chainT [13] (.nil)))))) (chainT [8] (chainT [4, 5] (chainT [6, 10, 11] (chainT [12] (chainT [13] (.nil)))))))) (chainT [8] (chainT [2, 3] (chainT [4, 5] (chainT [6, 10, 11] (chainT [12] (chainT [13] (.nil))))))))) (chainT [8] (.alt (chainT [2, 3] (.alt (chainT [4, 5] (chainT [7] (chainT [6, 10, 11] (chainT [12] (chainT [13] (.nil)))))) (chainT [7] (chainT [4, 5] (chainT [6, 10, 11] (chainT [12] (chainT [13] (.nil)))))))) (chainT [7] (chainT [2, 3] (chainT [4, 5] (chainT [6, 10, 11] (chainT [12] (chainT [13] (.nil)))))))))))) (.alt (chainT [7] (.alt (chainT [0, 1] (.alt (chainT [2, 3] (.alt (chainT [4, 5] (chainT [8] (chainT [6, 10, 11] (chainT [12] (chainT [13] (.nil)))))) (chainT [8] (chainT [4, 5] (chainT [6, 10, 11] (chainT [12] (chainT [13] (.nil)))))))) (chainT [8] (chainT [2, 3] (chainT [4, 5] (chainT [6, 10, 11] (chainT [12] (chainT [13] (.nil))))))))) (chainT [8] (chainT [0, 1] (chainT [2, 3] (chainT [4, 5] (chainT [6, 10, 11] (chainT [12] (chainT [13] (.nil)))))))))) (chainT [8] (.alt (chainT [0, 1] (.alt (chainT [2, 3] (.alt (chainT [4, 5] (chainT [7] (chainT [6, 10, 11] (chainT [12] (chainT [13] (.nil)))))) (chainT [7] (chainT [4, 5] (chainT [6, 10, 11] (chainT [12] (chainT [13] (.nil)))))))) (chainT [7] (chainT [2, 3] (chainT [4, 5] (chainT [6, 10, 11] (chainT [12] (chainT [13] (.nil))))))))) (chainT [7] (chainT [0, 1] (chainT [2, 3] (chainT [4, 5] (chainT [6, 10, 11] (chainT [12] (chainT [13] (.nil)))))))))))))))) _ [] (Sp.refl _) (by kernel_rfl) (by kernel_rfl) ?_
    refine qt_let (σ := Cp r × Value × Cp r × Nat × Nat × Nat × Unit) (.nil) (fun ⟨x1, x2, x3, b15, b17, b18, ()⟩ => [(2, .slice va vl.length vc), (3, .int .i64 shot), (4, .int .i64 waits), (5, .int .i64 state), (6, .int .i64 click), (7, .pointer (some ⟨b7, 0, none⟩)), (8, .pointer (some ⟨b8, 0, none⟩)), (37, .agg #[.int .i64 r.radius, .int .i64 r.unit, .int .i64 r.clicks, .int .i64 r.total, .slice x1.a1 r.group.length x1.c1, .slice x1.a2 r.drifts.length x1.c2, .slice x1.a3 r.first.length x1.c3, .slice x1.a4 r.next.length x1.c4]), (39, x2), (41, .agg #[.int .i64 r.radius, .int .i64 r.unit, .int .i64 r.clicks, .int .i64 r.total, .slice x3.a1 r.group.length x3.c1, .slice x3.a2 r.drifts.length x3.c2, .slice x3.a3 r.first.length x3.c3, .slice x3.a4 r.next.length x3.c4]), (15, .pointer (some ⟨b15, 0, none⟩)), (17, .pointer (some ⟨b17, 0, none⟩)), (18, .pointer (some ⟨b18, 0, none⟩)), (42, .agg #[.int .i64 p.miss, .int .i64 p.click, .int .i64 p.wait, .int .i64 p.waits]), (16, x2)]) (fun ⟨x1, x2, x3, b15, b17, b18, ()⟩ => [un x1.K, .ow x2 3 1 vl.length (ints vl), un x3.K, .pt b15 [.int .i64 r.radius, .int .i64 r.unit, .int .i64 r.clicks, .int .i64 r.total, .slice x1.a1 r.group.length x1.c1, .slice x1.a2 r.drifts.length x1.c2, .slice x1.a3 r.first.length x1.c3, .slice x1.a4 r.next.length x1.c4] 25, .pt b17 [.int .i64 r.radius, .int .i64 r.unit, .int .i64 r.clicks, .int .i64 r.total, .slice x3.a1 r.group.length x3.c1, .slice x3.a2 r.drifts.length x3.c2, .slice x3.a3 r.first.length x3.c3, .slice x3.a4 r.next.length x3.c4] 32, .pt b18 [.int .i64 p.miss, .int .i64 p.click, .int .i64 p.wait, .int .i64 p.waits] 33]) ?_ (fun hS1_3_5_7_8_9_10_12_13 => ?_)
    · rintro ⟨x1, x2, x3, b15, b17, b18, _⟩
      exact qt_nil (hK2 (b15, b17, b18, x1, x2, x3) _ _ ⟨rfl, rfl, rfl, rfl, rfl, rfl, rfl, rfl, rfl, rfl, rfl, trivial⟩ (by repeat (first | exact Sp.nil | exact Sp.refl _ | refine Sp.cons (by repeat constructor) ?_)))
    refine qt_let (σ := Cp r × Value × Cp r × Nat × Nat × Nat × Unit) (chainT [13] (.nil)) (fun ⟨x1, x2, x3, b15, b17, b18, ()⟩ => [(2, .slice va vl.length vc), (3, .int .i64 shot), (4, .int .i64 waits), (5, .int .i64 state), (6, .int .i64 click), (7, .pointer (some ⟨b7, 0, none⟩)), (8, .pointer (some ⟨b8, 0, none⟩)), (37, .agg #[.int .i64 r.radius, .int .i64 r.unit, .int .i64 r.clicks, .int .i64 r.total, .slice x1.a1 r.group.length x1.c1, .slice x1.a2 r.drifts.length x1.c2, .slice x1.a3 r.first.length x1.c3, .slice x1.a4 r.next.length x1.c4]), (39, x2), (41, .agg #[.int .i64 r.radius, .int .i64 r.unit, .int .i64 r.clicks, .int .i64 r.total, .slice x3.a1 r.group.length x3.c1, .slice x3.a2 r.drifts.length x3.c2, .slice x3.a3 r.first.length x3.c3, .slice x3.a4 r.next.length x3.c4]), (15, .pointer (some ⟨b15, 0, none⟩)), (17, .pointer (some ⟨b17, 0, none⟩)), (18, .pointer (some ⟨b18, 0, none⟩)), (42, .agg #[.int .i64 p.miss, .int .i64 p.click, .int .i64 p.wait, .int .i64 p.waits]), (16, x2)]) (fun ⟨x1, x2, x3, b15, b17, b18, ()⟩ => [un x1.K, .ow x2 3 1 vl.length (ints vl), un x3.K, .pt b15 [.int .i64 r.radius, .int .i64 r.unit, .int .i64 r.clicks, .int .i64 r.total, .slice x1.a1 r.group.length x1.c1, .slice x1.a2 r.drifts.length x1.c2, .slice x1.a3 r.first.length x1.c3, .slice x1.a4 r.next.length x1.c4] 25, .pt b17 [.int .i64 r.radius, .int .i64 r.unit, .int .i64 r.clicks, .int .i64 r.total, .slice x3.a1 r.group.length x3.c1, .slice x3.a2 r.drifts.length x3.c2, .slice x3.a3 r.first.length x3.c3, .slice x3.a4 r.next.length x3.c4] 32, .pt b18 [.int .i64 0, .int .i64 0, .int .i64 0, .int .i64 0] 33]) ?_ (fun hS1_3_5_7_8_9_10_12 => ?_)
    · rintro ⟨x1, x2, x3, b15, b17, b18, _⟩
      refine qt_seg (by repeat (first | exact PickL.nil | (apply PickL.cons; rfl))) fun K1 hK1 => ?_
      (refine qf_setA tabOk rfl rfl rfl rfl rfl (by repeat constructor) rfl ?_; refine qf_nil ?_)
      skip
      exact hK1 _ _ (hS1_3_5_7_8_9_10_12_13 ⟨x1, x2, x3, b15, b17, b18, ()⟩ _ _ ⟨rfl, rfl, rfl, rfl, rfl, rfl, rfl, rfl, rfl, rfl, rfl, rfl, rfl, rfl, rfl, trivial⟩ (by repeat (first | exact Sp.nil | exact Sp.refl _ | refine Sp.cons (by repeat constructor) ?_)))
    refine qt_let (σ := Cp r × Value × Cp r × Nat × Nat × Nat × Unit) (chainT [12] (chainT [13] (.nil))) (fun ⟨x1, x2, x3, b15, b17, b18, ()⟩ => [(2, .slice va vl.length vc), (3, .int .i64 shot), (4, .int .i64 waits), (5, .int .i64 state), (6, .int .i64 click), (7, .pointer (some ⟨b7, 0, none⟩)), (8, .pointer (some ⟨b8, 0, none⟩)), (37, .agg #[.int .i64 r.radius, .int .i64 r.unit, .int .i64 r.clicks, .int .i64 r.total, .slice x1.a1 r.group.length x1.c1, .slice x1.a2 r.drifts.length x1.c2, .slice x1.a3 r.first.length x1.c3, .slice x1.a4 r.next.length x1.c4]), (39, x2), (41, .agg #[.int .i64 r.radius, .int .i64 r.unit, .int .i64 r.clicks, .int .i64 r.total, .slice x3.a1 r.group.length x3.c1, .slice x3.a2 r.drifts.length x3.c2, .slice x3.a3 r.first.length x3.c3, .slice x3.a4 r.next.length x3.c4]), (15, .pointer (some ⟨b15, 0, none⟩)), (17, .pointer (some ⟨b17, 0, none⟩)), (18, .pointer (some ⟨b18, 0, none⟩)), (42, .agg #[.int .i64 p.miss, .int .i64 p.click, .int .i64 p.wait, .int .i64 p.waits]), (16, x2)]) (fun ⟨x1, x2, x3, b15, b17, b18, ()⟩ => [un x1.K, .ow x2 3 1 vl.length (ints vl), un x3.K, .pt b15 [.int .i64 r.radius, .int .i64 r.unit, .int .i64 r.clicks, .int .i64 r.total, .slice x1.a1 r.group.length x1.c1, .slice x1.a2 r.drifts.length x1.c2, .slice x1.a3 r.first.length x1.c3, .slice x1.a4 r.next.length x1.c4] 25, .pt b17 [.int .i64 0, .int .i64 0, .int .i64 0, .int .i64 0, .slice none 0 0, .slice none 0 0, .slice none 0 0, .slice none 0 0] 32, .pt b18 [.int .i64 0, .int .i64 0, .int .i64 0, .int .i64 0] 33]) ?_ (fun hS1_3_5_7_8_9_10 => ?_)
    · rintro ⟨x1, x2, x3, b15, b17, b18, _⟩
      refine qt_seg (by repeat (first | exact PickL.nil | (apply PickL.cons; rfl))) fun K1 hK1 => ?_
      (refine qf_setA tabOk rfl rfl rfl rfl rfl (by repeat constructor) rfl ?_; refine qf_nil ?_)
      skip
      exact hK1 _ _ (hS1_3_5_7_8_9_10_12 ⟨x1, x2, x3, b15, b17, b18, ()⟩ _ _ ⟨rfl, rfl, rfl, rfl, rfl, rfl, rfl, rfl, rfl, rfl, rfl, rfl, rfl, rfl, rfl, trivial⟩ (by repeat (first | exact Sp.nil | exact Sp.refl _ | refine Sp.cons (by repeat constructor) ?_)))
    refine qt_let (σ := Cp r × Value × Cp r × Nat × Nat × Nat × Unit) (chainT [6, 10, 11] (chainT [12] (chainT [13] (.nil)))) (fun ⟨x1, x2, x3, b15, b17, b18, ()⟩ => [(2, .slice va vl.length vc), (3, .int .i64 shot), (4, .int .i64 waits), (5, .int .i64 state), (6, .int .i64 click), (7, .pointer (some ⟨b7, 0, none⟩)), (8, .pointer (some ⟨b8, 0, none⟩)), (37, .agg #[.int .i64 r.radius, .int .i64 r.unit, .int .i64 r.clicks, .int .i64 r.total, .slice x1.a1 r.group.length x1.c1, .slice x1.a2 r.drifts.length x1.c2, .slice x1.a3 r.first.length x1.c3, .slice x1.a4 r.next.length x1.c4]), (39, x2), (41, .agg #[.int .i64 r.radius, .int .i64 r.unit, .int .i64 r.clicks, .int .i64 r.total, .slice x3.a1 r.group.length x3.c1, .slice x3.a2 r.drifts.length x3.c2, .slice x3.a3 r.first.length x3.c3, .slice x3.a4 r.next.length x3.c4]), (15, .pointer (some ⟨b15, 0, none⟩)), (17, .pointer (some ⟨b17, 0, none⟩)), (18, .pointer (some ⟨b18, 0, none⟩))]) (fun ⟨x1, x2, x3, b15, b17, b18, ()⟩ => [un x1.K, .ow x2 3 1 vl.length (ints vl), un x3.K, .pt b15 [.int .i64 0, .int .i64 0, .int .i64 0, .int .i64 0, .slice none 0 0, .slice none 0 0, .slice none 0 0, .slice none 0 0] 25, .pt b17 [.int .i64 0, .int .i64 0, .int .i64 0, .int .i64 0, .slice none 0 0, .slice none 0 0, .slice none 0 0, .slice none 0 0] 32, .pt b18 [.int .i64 0, .int .i64 0, .int .i64 0, .int .i64 0] 33]) ?_ (fun hS1_3_5_7_8_9 => ?_)
    · rintro ⟨x1, x2, x3, b15, b17, b18, _⟩
      refine qt_seg (by repeat (first | exact PickL.nil | (apply PickL.cons; rfl))) fun K1 hK1 => ?_
      (refine qf_loadAB tabOk rfl rfl rfl (by repeat first | exact .head _ | refine .tail _ ?_) (by rfl) (by rfl) ?_; refine qf_setA tabOk rfl rfl rfl rfl rfl (by repeat constructor) rfl ?_; refine qf_pure tabOk rfl rfl rfl ?_; refine qf_nil ?_)
      skip
      exact hK1 _ _ (hS1_3_5_7_8_9_10 ⟨x1, x2, x3, b15, b17, b18, ()⟩ _ _ ⟨rfl, rfl, rfl, rfl, rfl, rfl, rfl, rfl, rfl, rfl, rfl, rfl, rfl, rfl, rfl, trivial⟩ (by repeat (first | exact Sp.nil | exact Sp.refl _ | refine Sp.cons (by repeat constructor) ?_)))
    refine qt_let (σ := Cp r × Value × Cp r × Nat × Nat × Unit) (chainT [9] (chainT [6, 10, 11] (chainT [12] (chainT [13] (.nil))))) (fun ⟨x1, x2, x3, b15, b17, ()⟩ => [(2, .slice va vl.length vc), (3, .int .i64 shot), (4, .int .i64 waits), (5, .int .i64 state), (6, .int .i64 click), (7, .pointer (some ⟨b7, 0, none⟩)), (8, .pointer (some ⟨b8, 0, none⟩)), (37, .agg #[.int .i64 r.radius, .int .i64 r.unit, .int .i64 r.clicks, .int .i64 r.total, .slice x1.a1 r.group.length x1.c1, .slice x1.a2 r.drifts.length x1.c2, .slice x1.a3 r.first.length x1.c3, .slice x1.a4 r.next.length x1.c4]), (39, x2), (41, .agg #[.int .i64 r.radius, .int .i64 r.unit, .int .i64 r.clicks, .int .i64 r.total, .slice x3.a1 r.group.length x3.c1, .slice x3.a2 r.drifts.length x3.c2, .slice x3.a3 r.first.length x3.c3, .slice x3.a4 r.next.length x3.c4]), (15, .pointer (some ⟨b15, 0, none⟩)), (17, .pointer (some ⟨b17, 0, none⟩))]) (fun ⟨x1, x2, x3, b15, b17, ()⟩ => [un x1.K, .ow x2 3 1 vl.length (ints vl), un x3.K, .pt b15 [.int .i64 0, .int .i64 0, .int .i64 0, .int .i64 0, .slice none 0 0, .slice none 0 0, .slice none 0 0, .slice none 0 0] 25, .pt b17 [.int .i64 0, .int .i64 0, .int .i64 0, .int .i64 0, .slice none 0 0, .slice none 0 0, .slice none 0 0, .slice none 0 0] 32]) ?_ (fun hS1_3_5_7_8 => ?_)
    · rintro ⟨x1, x2, x3, b15, b17, _⟩
      refine qt_seg (by repeat (first | exact PickL.nil | (apply PickL.cons; rfl))) fun K1 hK1 => ?_
      skip
      refine qf_alloc zero33 rfl (fun b18 => ?_)
      (refine qf_nil ?_)
      exact hK1 _ _ (hS1_3_5_7_8_9 ⟨x1, x2, x3, b15, b17, b18, ()⟩ _ _ ⟨rfl, rfl, rfl, rfl, rfl, rfl, rfl, rfl, rfl, rfl, rfl, rfl, rfl, trivial⟩ (by repeat (first | exact Sp.nil | exact Sp.refl _ | refine Sp.cons (by repeat constructor) ?_)))
    refine qt_let (σ := Cp r × Value × Cp r × Nat × Nat × Unit) (chainT [8] (chainT [6, 10, 11] (chainT [12] (chainT [13] (.nil))))) (fun ⟨x1, x2, x3, b15, b18, ()⟩ => [(2, .slice va vl.length vc), (3, .int .i64 shot), (4, .int .i64 waits), (5, .int .i64 state), (6, .int .i64 click), (7, .pointer (some ⟨b7, 0, none⟩)), (8, .pointer (some ⟨b8, 0, none⟩)), (37, .agg #[.int .i64 r.radius, .int .i64 r.unit, .int .i64 r.clicks, .int .i64 r.total, .slice x1.a1 r.group.length x1.c1, .slice x1.a2 r.drifts.length x1.c2, .slice x1.a3 r.first.length x1.c3, .slice x1.a4 r.next.length x1.c4]), (39, x2), (41, .agg #[.int .i64 r.radius, .int .i64 r.unit, .int .i64 r.clicks, .int .i64 r.total, .slice x3.a1 r.group.length x3.c1, .slice x3.a2 r.drifts.length x3.c2, .slice x3.a3 r.first.length x3.c3, .slice x3.a4 r.next.length x3.c4]), (15, .pointer (some ⟨b15, 0, none⟩)), (18, .pointer (some ⟨b18, 0, none⟩))]) (fun ⟨x1, x2, x3, b15, b18, ()⟩ => [un x1.K, .ow x2 3 1 vl.length (ints vl), un x3.K, .pt b15 [.int .i64 0, .int .i64 0, .int .i64 0, .int .i64 0, .slice none 0 0, .slice none 0 0, .slice none 0 0, .slice none 0 0] 25, .pt b18 [.int .i64 0, .int .i64 0, .int .i64 0, .int .i64 0] 33]) ?_ (fun hS1_3_5_7_9 => ?_)
    · rintro ⟨x1, x2, x3, b15, b18, _⟩
      refine qt_seg (by repeat (first | exact PickL.nil | (apply PickL.cons; rfl))) fun K1 hK1 => ?_
      skip
      refine qf_alloc zero32 rfl (fun b17 => ?_)
      (refine qf_nil ?_)
      exact hK1 _ _ (hS1_3_5_7_8_9 ⟨x1, x2, x3, b15, b17, b18, ()⟩ _ _ ⟨rfl, rfl, rfl, rfl, rfl, rfl, rfl, rfl, rfl, rfl, rfl, rfl, rfl, trivial⟩ (by repeat (first | exact Sp.nil | exact Sp.refl _ | refine Sp.cons (by repeat constructor) ?_)))
    refine qt_let (σ := Cp r × Value × Cp r × Nat × Nat × Unit) (chainT [7] (chainT [6, 10, 11] (chainT [12] (chainT [13] (.nil))))) (fun ⟨x1, x2, x3, b17, b18, ()⟩ => [(2, .slice va vl.length vc), (3, .int .i64 shot), (4, .int .i64 waits), (5, .int .i64 state), (6, .int .i64 click), (7, .pointer (some ⟨b7, 0, none⟩)), (8, .pointer (some ⟨b8, 0, none⟩)), (37, .agg #[.int .i64 r.radius, .int .i64 r.unit, .int .i64 r.clicks, .int .i64 r.total, .slice x1.a1 r.group.length x1.c1, .slice x1.a2 r.drifts.length x1.c2, .slice x1.a3 r.first.length x1.c3, .slice x1.a4 r.next.length x1.c4]), (39, x2), (41, .agg #[.int .i64 r.radius, .int .i64 r.unit, .int .i64 r.clicks, .int .i64 r.total, .slice x3.a1 r.group.length x3.c1, .slice x3.a2 r.drifts.length x3.c2, .slice x3.a3 r.first.length x3.c3, .slice x3.a4 r.next.length x3.c4]), (17, .pointer (some ⟨b17, 0, none⟩)), (18, .pointer (some ⟨b18, 0, none⟩))]) (fun ⟨x1, x2, x3, b17, b18, ()⟩ => [un x1.K, .ow x2 3 1 vl.length (ints vl), un x3.K, .pt b17 [.int .i64 0, .int .i64 0, .int .i64 0, .int .i64 0, .slice none 0 0, .slice none 0 0, .slice none 0 0, .slice none 0 0] 32, .pt b18 [.int .i64 0, .int .i64 0, .int .i64 0, .int .i64 0] 33]) ?_ (fun hS1_3_5_8_9 => ?_)
    · rintro ⟨x1, x2, x3, b17, b18, _⟩
      refine qt_seg (by repeat (first | exact PickL.nil | (apply PickL.cons; rfl))) fun K1 hK1 => ?_
      skip
      refine qf_alloc zero25 rfl (fun b15 => ?_)
      (refine qf_nil ?_)
      exact hK1 _ _ (hS1_3_5_7_8_9 ⟨x1, x2, x3, b15, b17, b18, ()⟩ _ _ ⟨rfl, rfl, rfl, rfl, rfl, rfl, rfl, rfl, rfl, rfl, rfl, rfl, rfl, trivial⟩ (by repeat (first | exact Sp.nil | exact Sp.refl _ | refine Sp.cons (by repeat constructor) ?_)))
    refine qt_let (σ := Cp r × Value × Nat × Nat × Nat × Unit) (chainT [4, 5] (chainT [6, 10, 11] (chainT [12] (chainT [13] (.nil))))) (fun ⟨x1, x2, b15, b17, b18, ()⟩ => [(2, .slice va vl.length vc), (3, .int .i64 shot), (4, .int .i64 waits), (5, .int .i64 state), (6, .int .i64 click), (7, .pointer (some ⟨b7, 0, none⟩)), (8, .pointer (some ⟨b8, 0, none⟩)), (37, .agg #[.int .i64 r.radius, .int .i64 r.unit, .int .i64 r.clicks, .int .i64 r.total, .slice x1.a1 r.group.length x1.c1, .slice x1.a2 r.drifts.length x1.c2, .slice x1.a3 r.first.length x1.c3, .slice x1.a4 r.next.length x1.c4]), (39, x2), (15, .pointer (some ⟨b15, 0, none⟩)), (17, .pointer (some ⟨b17, 0, none⟩)), (18, .pointer (some ⟨b18, 0, none⟩))]) (fun ⟨x1, x2, b15, b17, b18, ()⟩ => [un x1.K, .ow x2 3 1 vl.length (ints vl), .pt b15 [.int .i64 0, .int .i64 0, .int .i64 0, .int .i64 0, .slice none 0 0, .slice none 0 0, .slice none 0 0, .slice none 0 0] 25, .pt b17 [.int .i64 0, .int .i64 0, .int .i64 0, .int .i64 0, .slice none 0 0, .slice none 0 0, .slice none 0 0, .slice none 0 0] 32, .pt b18 [.int .i64 0, .int .i64 0, .int .i64 0, .int .i64 0] 33]) ?_ (fun hS1_3_7_8_9 => ?_)
    · rintro ⟨x1, x2, b15, b17, b18, _⟩
      refine qt_seg (by repeat (first | exact PickL.nil | (apply PickL.cons; rfl))) fun K1 hK1 => ?_
      (refine qf_loadAB tabOk rfl rfl rfl (by repeat first | exact .head _ | refine .tail _ ?_) (by rfl) (by rfl) ?_)
      refine qf_call (β := Cp r) tabOk [] _ M0 rfl rfl rfl rfl (Sp.refl _) (fun _ h => h.elim) (fun w' hs => cloneR_cp w' _ r (h0.keep hs.chg0) hsm) ?_
      rintro x3 _ rfl
      (refine qf_nil ?_)
      exact hK1 _ _ (hS1_3_5_7_8_9 ⟨x1, x2, x3, b15, b17, b18, ()⟩ _ _ ⟨rfl, rfl, rfl, rfl, rfl, rfl, rfl, rfl, rfl, rfl, rfl, rfl, rfl, trivial⟩ (by repeat (first | exact Sp.nil | exact Sp.refl _ | refine Sp.cons (by repeat constructor) ?_)))
    refine qt_let (σ := Cp r × Value × Cp r × Nat × Unit) (.alt (chainT [8] (chainT [9] (chainT [6, 10, 11] (chainT [12] (chainT [13] (.nil)))))) (chainT [9] (chainT [8] (chainT [6, 10, 11] (chainT [12] (chainT [13] (.nil))))))) (fun ⟨x1, x2, x3, b15, ()⟩ => [(2, .slice va vl.length vc), (3, .int .i64 shot), (4, .int .i64 waits), (5, .int .i64 state), (6, .int .i64 click), (7, .pointer (some ⟨b7, 0, none⟩)), (8, .pointer (some ⟨b8, 0, none⟩)), (37, .agg #[.int .i64 r.radius, .int .i64 r.unit, .int .i64 r.clicks, .int .i64 r.total, .slice x1.a1 r.group.length x1.c1, .slice x1.a2 r.drifts.length x1.c2, .slice x1.a3 r.first.length x1.c3, .slice x1.a4 r.next.length x1.c4]), (39, x2), (41, .agg #[.int .i64 r.radius, .int .i64 r.unit, .int .i64 r.clicks, .int .i64 r.total, .slice x3.a1 r.group.length x3.c1, .slice x3.a2 r.drifts.length x3.c2, .slice x3.a3 r.first.length x3.c3, .slice x3.a4 r.next.length x3.c4]), (15, .pointer (some ⟨b15, 0, none⟩))]) (fun ⟨x1, x2, x3, b15, ()⟩ => [un x1.K, .ow x2 3 1 vl.length (ints vl), un x3.K, .pt b15 [.int .i64 0, .int .i64 0, .int .i64 0, .int .i64 0, .slice none 0 0, .slice none 0 0, .slice none 0 0, .slice none 0 0] 25]) ?_ (fun hS1_3_5_7 => ?_)
    · rintro ⟨x1, x2, x3, b15, _⟩
      refine qt_alt ?_ ?_
      · skip
        refine qt_seg (by repeat (first | exact PickL.nil | (apply PickL.cons; rfl))) fun K1 hK1 => ?_
        skip
        refine qf_alloc zero32 rfl (fun b17 => ?_)
        (refine qf_nil ?_)
        exact hK1 _ _ (hS1_3_5_7_8 ⟨x1, x2, x3, b15, b17, ()⟩ _ _ ⟨rfl, rfl, rfl, rfl, rfl, rfl, rfl, rfl, rfl, rfl, rfl, rfl, trivial⟩ (by repeat (first | exact Sp.nil | exact Sp.refl _ | refine Sp.cons (by repeat constructor) ?_)))
      · skip
        refine qt_seg (by repeat (first | exact PickL.nil | (apply PickL.cons; rfl))) fun K1 hK1 => ?_
        skip
        refine qf_alloc zero33 rfl (fun b18 => ?_)
        (refine qf_nil ?_)
        exact hK1 _ _ (hS1_3_5_7_9 ⟨x1, x2, x3, b15, b18, ()⟩ _ _ ⟨rfl, rfl, rfl, rfl, rfl, rfl, rfl, rfl, rfl, rfl, rfl, rfl, trivial⟩ (by repeat (first | exact Sp.nil | exact Sp.refl _ | refine Sp.cons (by repeat constructor) ?_)))
    refine qt_let (σ := Cp r × Value × Cp r × Nat × Unit) (.alt (chainT [7] (chainT [9] (chainT [6, 10, 11] (chainT [12] (chainT [13] (.nil)))))) (chainT [9] (chainT [7] (chainT [6, 10, 11] (chainT [12] (chainT [13] (.nil))))))) (fun ⟨x1, x2, x3, b17, ()⟩ => [(2, .slice va vl.length vc), (3, .int .i64 shot), (4, .int .i64 waits), (5, .int .i64 state), (6, .int .i64 click), (7, .pointer (some ⟨b7, 0, none⟩)), (8, .pointer (some ⟨b8, 0, none⟩)), (37, .agg #[.int .i64 r.radius, .int .i64 r.unit, .int .i64 r.clicks, .int .i64 r.total, .slice x1.a1 r.group.length x1.c1, .slice x1.a2 r.drifts.length x1.c2, .slice x1.a3 r.first.length x1.c3, .slice x1.a4 r.next.length x1.c4]), (39, x2), (41, .agg #[.int .i64 r.radius, .int .i64 r.unit, .int .i64 r.clicks, .int .i64 r.total, .slice x3.a1 r.group.length x3.c1, .slice x3.a2 r.drifts.length x3.c2, .slice x3.a3 r.first.length x3.c3, .slice x3.a4 r.next.length x3.c4]), (17, .pointer (some ⟨b17, 0, none⟩))]) (fun ⟨x1, x2, x3, b17, ()⟩ => [un x1.K, .ow x2 3 1 vl.length (ints vl), un x3.K, .pt b17 [.int .i64 0, .int .i64 0, .int .i64 0, .int .i64 0, .slice none 0 0, .slice none 0 0, .slice none 0 0, .slice none 0 0] 32]) ?_ (fun hS1_3_5_8 => ?_)
    · rintro ⟨x1, x2, x3, b17, _⟩
      refine qt_alt ?_ ?_
      · skip
        refine qt_seg (by repeat (first | exact PickL.nil | (apply PickL.cons; rfl))) fun K1 hK1 => ?_
        skip
        refine qf_alloc zero25 rfl (fun b15 => ?_)
        (refine qf_nil ?_)
        exact hK1 _ _ (hS1_3_5_7_8 ⟨x1, x2, x3, b15, b17, ()⟩ _ _ ⟨rfl, rfl, rfl, rfl, rfl, rfl, rfl, rfl, rfl, rfl, rfl, rfl, trivial⟩ (by repeat (first | exact Sp.nil | exact Sp.refl _ | refine Sp.cons (by repeat constructor) ?_)))
      · skip
        refine qt_seg (by repeat (first | exact PickL.nil | (apply PickL.cons; rfl))) fun K1 hK1 => ?_
        skip
        refine qf_alloc zero33 rfl (fun b18 => ?_)
        (refine qf_nil ?_)
        exact hK1 _ _ (hS1_3_5_8_9 ⟨x1, x2, x3, b17, b18, ()⟩ _ _ ⟨rfl, rfl, rfl, rfl, rfl, rfl, rfl, rfl, rfl, rfl, rfl, rfl, trivial⟩ (by repeat (first | exact Sp.nil | exact Sp.refl _ | refine Sp.cons (by repeat constructor) ?_)))
    refine qt_let (σ := Cp r × Value × Cp r × Nat × Unit) (.alt (chainT [7] (chainT [8] (chainT [6, 10, 11] (chainT [12] (chainT [13] (.nil)))))) (chainT [8] (chainT [7] (chainT [6, 10, 11] (chainT [12] (chainT [13] (.nil))))))) (fun ⟨x1, x2, x3, b18, ()⟩ => [(2, .slice va vl.length vc), (3, .int .i64 shot), (4, .int .i64 waits), (5, .int .i64 state), (6, .int .i64 click), (7, .pointer (some ⟨b7, 0, none⟩)), (8, .pointer (some ⟨b8, 0, none⟩)), (37, .agg #[.int .i64 r.radius, .int .i64 r.unit, .int .i64 r.clicks, .int .i64 r.total, .slice x1.a1 r.group.length x1.c1, .slice x1.a2 r.drifts.length x1.c2, .slice x1.a3 r.first.length x1.c3, .slice x1.a4 r.next.length x1.c4]), (39, x2), (41, .agg #[.int .i64 r.radius, .int .i64 r.unit, .int .i64 r.clicks, .int .i64 r.total, .slice x3.a1 r.group.length x3.c1, .slice x3.a2 r.drifts.length x3.c2, .slice x3.a3 r.first.length x3.c3, .slice x3.a4 r.next.length x3.c4]), (18, .pointer (some ⟨b18, 0, none⟩))]) (fun ⟨x1, x2, x3, b18, ()⟩ => [un x1.K, .ow x2 3 1 vl.length (ints vl), un x3.K, .pt b18 [.int .i64 0, .int .i64 0, .int .i64 0, .int .i64 0] 33]) ?_ (fun hS1_3_5_9 => ?_)
    · rintro ⟨x1, x2, x3, b18, _⟩
      refine qt_alt ?_ ?_
      · skip
        refine qt_seg (by repeat (first | exact PickL.nil | (apply PickL.cons; rfl))) fun K1 hK1 => ?_
        skip
        refine qf_alloc zero25 rfl (fun b15 => ?_)
        (refine qf_nil ?_)
        exact hK1 _ _ (hS1_3_5_7_9 ⟨x1, x2, x3, b15, b18, ()⟩ _ _ ⟨rfl, rfl, rfl, rfl, rfl, rfl, rfl, rfl, rfl, rfl, rfl, rfl, trivial⟩ (by repeat (first | exact Sp.nil | exact Sp.refl _ | refine Sp.cons (by repeat constructor) ?_)))
      · skip
        refine qt_seg (by repeat (first | exact PickL.nil | (apply PickL.cons; rfl))) fun K1 hK1 => ?_
        skip
        refine qf_alloc zero32 rfl (fun b17 => ?_)
        (refine qf_nil ?_)
        exact hK1 _ _ (hS1_3_5_8_9 ⟨x1, x2, x3, b17, b18, ()⟩ _ _ ⟨rfl, rfl, rfl, rfl, rfl, rfl, rfl, rfl, rfl, rfl, rfl, rfl, trivial⟩ (by repeat (first | exact Sp.nil | exact Sp.refl _ | refine Sp.cons (by repeat constructor) ?_)))
    refine qt_let (σ := Cp r × Value × Nat × Nat × Unit) (.alt (chainT [4, 5] (chainT [9] (chainT [6, 10, 11] (chainT [12] (chainT [13] (.nil)))))) (chainT [9] (chainT [4, 5] (chainT [6, 10, 11] (chainT [12] (chainT [13] (.nil))))))) (fun ⟨x1, x2, b15, b17, ()⟩ => [(2, .slice va vl.length vc), (3, .int .i64 shot), (4, .int .i64 waits), (5, .int .i64 state), (6, .int .i64 click), (7, .pointer (some ⟨b7, 0, none⟩)), (8, .pointer (some ⟨b8, 0, none⟩)), (37, .agg #[.int .i64 r.radius, .int .i64 r.unit, .int .i64 r.clicks, .int .i64 r.total, .slice x1.a1 r.group.length x1.c1, .slice x1.a2 r.drifts.length x1.c2, .slice x1.a3 r.first.length x1.c3, .slice x1.a4 r.next.length x1.c4]), (39, x2), (15, .pointer (some ⟨b15, 0, none⟩)), (17, .pointer (some ⟨b17, 0, none⟩))]) (fun ⟨x1, x2, b15, b17, ()⟩ => [un x1.K, .ow x2 3 1 vl.length (ints vl), .pt b15 [.int .i64 0, .int .i64 0, .int .i64 0, .int .i64 0, .slice none 0 0, .slice none 0 0, .slice none 0 0, .slice none 0 0] 25, .pt b17 [.int .i64 0, .int .i64 0, .int .i64 0, .int .i64 0, .slice none 0 0, .slice none 0 0, .slice none 0 0, .slice none 0 0] 32]) ?_ (fun hS1_3_7_8 => ?_)
    · rintro ⟨x1, x2, b15, b17, _⟩
      refine qt_alt ?_ ?_
      · skip
        refine qt_seg (by repeat (first | exact PickL.nil | (apply PickL.cons; rfl))) fun K1 hK1 => ?_
        (refine qf_loadAB tabOk rfl rfl rfl (by repeat first | exact .head _ | refine .tail _ ?_) (by rfl) (by rfl) ?_)
        refine qf_call (β := Cp r) tabOk [] _ M0 rfl rfl rfl rfl (Sp.refl _) (fun _ h => h.elim) (fun w' hs => cloneR_cp w' _ r (h0.keep hs.chg0) hsm) ?_
        rintro x3 _ rfl
        (refine qf_nil ?_)
        exact hK1 _ _ (hS1_3_5_7_8 ⟨x1, x2, x3, b15, b17, ()⟩ _ _ ⟨rfl, rfl, rfl, rfl, rfl, rfl, rfl, rfl, rfl, rfl, rfl, rfl, trivial⟩ (by repeat (first | exact Sp.nil | exact Sp.refl _ | refine Sp.cons (by repeat constructor) ?_)))
      · skip
        refine qt_seg (by repeat (first | exact PickL.nil | (apply PickL.cons; rfl))) fun K1 hK1 => ?_
        skip
        refine qf_alloc zero33 rfl (fun b18 => ?_)
        (refine qf_nil ?_)
        exact hK1 _ _ (hS1_3_7_8_9 ⟨x1, x2, b15, b17, b18, ()⟩ _ _ ⟨rfl, rfl, rfl, rfl, rfl, rfl, rfl, rfl, rfl, rfl, rfl, rfl, trivial⟩ (by repeat (first | exact Sp.nil | exact Sp.refl _ | refine Sp.cons (by repeat constructor) ?_)))
    refine qt_let (σ := Cp r × Value × Nat × Nat × Unit) (.alt (chainT [4, 5] (chainT [8] (chainT [6, 10, 11] (chainT [12] (chainT [13] (.nil)))))) (chainT [8] (chainT [4, 5] (chainT [6, 10, 11] (chainT [12] (chainT [13] (.nil))))))) (fun ⟨x1, x2, b15, b18, ()⟩ => [(2, .slice va vl.length vc), (3, .int .i64 shot), (4, .int .i64 waits), (5, .int .i64 state), (6, .int .i64 click), (7, .pointer (some ⟨b7, 0, none⟩)), (8, .pointer (some ⟨b8, 0, none⟩)), (37, .agg #[.int .i64 r.radius, .int .i64 r.unit, .int .i64 r.clicks, .int .i64 r.total, .slice x1.a1 r.group.length x1.c1, .slice x1.a2 r.drifts.length x1.c2, .slice x1.a3 r.first.length x1.c3, .slice x1.a4 r.next.length x1.c4]), (39, x2), (15, .pointer (some ⟨b15, 0, none⟩)), (18, .pointer (some ⟨b18, 0, none⟩))]) (fun ⟨x1, x2, b15, b18, ()⟩ => [un x1.K, .ow x2 3 1 vl.length (ints vl), .pt b15 [.int .i64 0, .int .i64 0, .int .i64 0, .int .i64 0, .slice none 0 0, .slice none 0 0, .slice none 0 0, .slice none 0 0] 25, .pt b18 [.int .i64 0, .int .i64 0, .int .i64 0, .int .i64 0] 33]) ?_ (fun hS1_3_7_9 => ?_)
    · rintro ⟨x1, x2, b15, b18, _⟩
      refine qt_alt ?_ ?_
      · skip
        refine qt_seg (by repeat (first | exact PickL.nil | (apply PickL.cons; rfl))) fun K1 hK1 => ?_
        (refine qf_loadAB tabOk rfl rfl rfl (by repeat first | exact .head _ | refine .tail _ ?_) (by rfl) (by rfl) ?_)
        refine qf_call (β := Cp r) tabOk [] _ M0 rfl rfl rfl rfl (Sp.refl _) (fun _ h => h.elim) (fun w' hs => cloneR_cp w' _ r (h0.keep hs.chg0) hsm) ?_
        rintro x3 _ rfl
        (refine qf_nil ?_)
        exact hK1 _ _ (hS1_3_5_7_9 ⟨x1, x2, x3, b15, b18, ()⟩ _ _ ⟨rfl, rfl, rfl, rfl, rfl, rfl, rfl, rfl, rfl, rfl, rfl, rfl, trivial⟩ (by repeat (first | exact Sp.nil | exact Sp.refl _ | refine Sp.cons (by repeat constructor) ?_)))
      · skip
        refine qt_seg (by repeat (first | exact PickL.nil | (apply PickL.cons; rfl))) fun K1 hK1 => ?_
        skip
        refine qf_alloc zero32 rfl (fun b17 => ?_)
        (refine qf_nil ?_)
        exact hK1 _ _ (hS1_3_7_8_9 ⟨x1, x2, b15, b17, b18, ()⟩ _ _ ⟨rfl, rfl, rfl, rfl, rfl, rfl, rfl, rfl, rfl, rfl, rfl, rfl, trivial⟩ (by repeat (first | exact Sp.nil | exact Sp.refl _ | refine Sp.cons (by repeat constructor) ?_)))
    refine qt_let (σ := Cp r × Value × Nat × Nat × Unit) (.alt (chainT [4, 5] (chainT [7] (chainT [6, 10, 11] (chainT [12] (chainT [13] (.nil)))))) (chainT [7] (chainT [4, 5] (chainT [6, 10, 11] (chainT [12] (chainT [13] (.nil))))))) (fun ⟨x1, x2, b17, b18, ()⟩ => [(2, .slice va vl.length vc), (3, .int .i64 shot), (4, .int .i64 waits), (5, .int .i64 state), (6, .int .i64 click), (7, .pointer (some ⟨b7, 0, none⟩)), (8, .pointer (some ⟨b8, 0, none⟩)), (37, .agg #[.int .i64 r.radius, .int .i64 r.unit, .int .i64 r.clicks, .int .i64 r.total, .slice x1.a1 r.group.length x1.c1, .slice x1.a2 r.drifts.length x1.c2, .slice x1.a3 r.first.length x1.c3, .slice x1.a4 r.next.length x1.c4]), (39, x2), (17, .pointer (some ⟨b17, 0, none⟩)), (18, .pointer (some ⟨b18, 0, none⟩))]) (fun ⟨x1, x2, b17, b18, ()⟩ => [un x1.K, .ow x2 3 1 vl.length (ints vl), .pt b17 [.int .i64 0, .int .i64 0, .int .i64 0, .int .i64 0, .slice none 0 0, .slice none 0 0, .slice none 0 0, .slice none 0 0] 32, .pt b18 [.int .i64 0, .int .i64 0, .int .i64 0, .int .i64 0] 33]) ?_ (fun hS1_3_8_9 => ?_)
    · rintro ⟨x1, x2, b17, b18, _⟩
      refine qt_alt ?_ ?_
      · skip
        refine qt_seg (by repeat (first | exact PickL.nil | (apply PickL.cons; rfl))) fun K1 hK1 => ?_
        (refine qf_loadAB tabOk rfl rfl rfl (by repeat first | exact .head _ | refine .tail _ ?_) (by rfl) (by rfl) ?_)
        refine qf_call (β := Cp r) tabOk [] _ M0 rfl rfl rfl rfl (Sp.refl _) (fun _ h => h.elim) (fun w' hs => cloneR_cp w' _ r (h0.keep hs.chg0) hsm) ?_
        rintro x3 _ rfl
        (refine qf_nil ?_)
        exact hK1 _ _ (hS1_3_5_8_9 ⟨x1, x2, x3, b17, b18, ()⟩ _ _ ⟨rfl, rfl, rfl, rfl, rfl, rfl, rfl, rfl, rfl, rfl, rfl, rfl, trivial⟩ (by repeat (first | exact Sp.nil | exact Sp.refl _ | refine Sp.cons (by repeat constructor) ?_)))
      · skip
        refine qt_seg (by repeat (first | exact PickL.nil | (apply PickL.cons; rfl))) fun K1 hK1 => ?_
        skip
        refine qf_alloc zero25 rfl (fun b15 => ?_)
        (refine qf_nil ?_)
        exact hK1 _ _ (hS1_3_7_8_9 ⟨x1, x2, b15, b17, b18, ()⟩ _ _ ⟨rfl, rfl, rfl, rfl, rfl, rfl, rfl, rfl, rfl, rfl, rfl, rfl, trivial⟩ (by repeat (first | exact Sp.nil | exact Sp.refl _ | refine Sp.cons (by repeat constructor) ?_)))
    refine qt_let (σ := Cp r × Nat × Nat × Nat × Unit) (chainT [2, 3] (chainT [4, 5] (chainT [6, 10, 11] (chainT [12] (chainT [13] (.nil)))))) (fun ⟨x1, b15, b17, b18, ()⟩ => [(2, .slice va vl.length vc), (3, .int .i64 shot), (4, .int .i64 waits), (5, .int .i64 state), (6, .int .i64 click), (7, .pointer (some ⟨b7, 0, none⟩)), (8, .pointer (some ⟨b8, 0, none⟩)), (37, .agg #[.int .i64 r.radius, .int .i64 r.unit, .int .i64 r.clicks, .int .i64 r.total, .slice x1.a1 r.group.length x1.c1, .slice x1.a2 r.drifts.length x1.c2, .slice x1.a3 r.first.length x1.c3, .slice x1.a4 r.next.length x1.c4]), (15, .pointer (some ⟨b15, 0, none⟩)), (17, .pointer (some ⟨b17, 0, none⟩)), (18, .pointer (some ⟨b18, 0, none⟩))]) (fun ⟨x1, b15, b17, b18, ()⟩ => [un x1.K, .pt b15 [.int .i64 0, .int .i64 0, .int .i64 0, .int .i64 0, .slice none 0 0, .slice none 0 0, .slice none 0 0, .slice none 0 0] 25, .pt b17 [.int .i64 0, .int .i64 0, .int .i64 0, .int .i64 0, .slice none 0 0, .slice none 0 0, .slice none 0 0, .slice none 0 0] 32, .pt b18 [.int .i64 0, .int .i64 0, .int .i64 0, .int .i64 0] 33]) ?_ (fun hS1_7_8_9 => ?_)
    · rintro ⟨x1, b15, b17, b18, _⟩
      refine qt_seg (by repeat (first | exact PickL.nil | (apply PickL.cons; rfl))) fun K1 hK1 => ?_
      (refine qf_pure tabOk rfl rfl rfl ?_)
      refine qf_call (β := Value) (L' := fun x => [.ow x 3 1 vl.length (ints vl)]) tabOk [] _ M0 rfl rfl rfl rfl (Sp.refl _) (fun _ h => h.elim) (fun w' hs => cloneI_ca w' _ _ _ vl (RdE.keep hvl hs.chg0) (by omega)) ?_
      rintro _ x2 rfl
      (refine qf_nil ?_)
      exact hK1 _ _ (hS1_3_7_8_9 ⟨x1, x2, b15, b17, b18, ()⟩ _ _ ⟨rfl, rfl, rfl, rfl, rfl, rfl, rfl, rfl, rfl, rfl, rfl, rfl, trivial⟩ (by repeat (first | exact Sp.nil | exact Sp.refl _ | refine Sp.cons (by repeat constructor) ?_)))
    refine qt_let (σ := Cp r × Value × Cp r × Unit) (.alt (chainT [7] (.alt (chainT [8] (chainT [9] (chainT [6, 10, 11] (chainT [12] (chainT [13] (.nil)))))) (chainT [9] (chainT [8] (chainT [6, 10, 11] (chainT [12] (chainT [13] (.nil)))))))) (.alt (chainT [8] (.alt (chainT [7] (chainT [9] (chainT [6, 10, 11] (chainT [12] (chainT [13] (.nil)))))) (chainT [9] (chainT [7] (chainT [6, 10, 11] (chainT [12] (chainT [13] (.nil)))))))) (chainT [9] (.alt (chainT [7] (chainT [8] (chainT [6, 10, 11] (chainT [12] (chainT [13] (.nil)))))) (chainT [8] (chainT [7] (chainT [6, 10, 11] (chainT [12] (chainT [13] (.nil)))))))))) (fun ⟨x1, x2, x3, ()⟩ => [(2, .slice va vl.length vc), (3, .int .i64 shot), (4, .int .i64 waits), (5, .int .i64 state), (6, .int .i64 click), (7, .pointer (some ⟨b7, 0, none⟩)), (8, .pointer (some ⟨b8, 0, none⟩)), (37, .agg #[.int .i64 r.radius, .int .i64 r.unit, .int .i64 r.clicks, .int .i64 r.total, .slice x1.a1 r.group.length x1.c1, .slice x1.a2 r.drifts.length x1.c2, .slice x1.a3 r.first.length x1.c3, .slice x1.a4 r.next.length x1.c4]), (39, x2), (41, .agg #[.int .i64 r.radius, .int .i64 r.unit, .int .i64 r.clicks, .int .i64 r.total, .slice x3.a1 r.group.length x3.c1, .slice x3.a2 r.drifts.length x3.c2, .slice x3.a3 r.first.length x3.c3, .slice x3.a4 r.next.length x3.c4])]) (fun ⟨x1, x2, x3, ()⟩ => [un x1.K, .ow x2 3 1 vl.length (ints vl), un x3.K]) ?_ (fun hS1_3_5 => ?_)
    · rintro ⟨x1, x2, x3, _⟩
      refine qt_alt ?_ (qt_alt ?_ ?_)
      · skip
        refine qt_seg (by repeat (first | exact PickL.nil | (apply PickL.cons; rfl))) fun K1 hK1 => ?_
        skip
        refine qf_alloc zero25 rfl (fun b15 => ?_)
        (refine qf_nil ?_)
        exact hK1 _ _ (hS1_3_5_7 ⟨x1, x2, x3, b15, ()⟩ _ _ ⟨rfl, rfl, rfl, rfl, rfl, rfl, rfl, rfl, rfl, rfl, rfl, trivial⟩ (by repeat (first | exact Sp.nil | exact Sp.refl _ | refine Sp.cons (by repeat constructor) ?_)))
      · skip
        refine qt_seg (by repeat (first | exact PickL.nil | (apply PickL.cons; rfl))) fun K1 hK1 => ?_
        skip
        refine qf_alloc zero32 rfl (fun b17 => ?_)
        (refine qf_nil ?_)
        exact hK1 _ _ (hS1_3_5_8 ⟨x1, x2, x3, b17, ()⟩ _ _ ⟨rfl, rfl, rfl, rfl, rfl, rfl, rfl, rfl, rfl, rfl, rfl, trivial⟩ (by repeat (first | exact Sp.nil | exact Sp.refl _ | refine Sp.cons (by repeat constructor) ?_)))
      · skip
        refine qt_seg (by repeat (first | exact PickL.nil | (apply PickL.cons; rfl))) fun K1 hK1 => ?_
        skip
        refine qf_alloc zero33 rfl (fun b18 => ?_)
        (refine qf_nil ?_)
        exact hK1 _ _ (hS1_3_5_9 ⟨x1, x2, x3, b18, ()⟩ _ _ ⟨rfl, rfl, rfl, rfl, rfl, rfl, rfl, rfl, rfl, rfl, rfl, trivial⟩ (by repeat (first | exact Sp.nil | exact Sp.refl _ | refine Sp.cons (by repeat constructor) ?_)))
    refine qt_let (σ := Cp r × Value × Nat × Unit) (.alt (chainT [4, 5] (.alt (chainT [8] (chainT [9] (chainT [6, 10, 11] (chainT [12] (chainT [13] (.nil)))))) (chainT [9] (chainT [8] (chainT [6, 10, 11] (chainT [12] (chainT [13] (.nil)))))))) (.alt (chainT [8] (.alt (chainT [4, 5] (chainT [9] (chainT [6, 10, 11] (chainT [12] (chainT [13] (.nil)))))) (chainT [9] (chainT [4, 5] (chainT [6, 10, 11] (chainT [12] (chainT [13] (.nil)))))))) (chainT [9] (.alt (chainT [4, 5] (chainT [8] (chainT [6, 10, 11] (chainT [12] (chainT [13] (.nil)))))) (chainT [8] (chainT [4, 5] (chainT [6, 10, 11] (chainT [12] (chainT [13] (.nil)))))))))) (fun ⟨x1, x2, b15, ()⟩ => [(2, .slice va vl.length vc), (3, .int .i64 shot), (4, .int .i64 waits), (5, .int .i64 state), (6, .int .i64 click), (7, .pointer (some ⟨b7, 0, none⟩)), (8, .pointer (some ⟨b8, 0, none⟩)), (37, .agg #[.int .i64 r.radius, .int .i64 r.unit, .int .i64 r.clicks, .int .i64 r.total, .slice x1.a1 r.group.length x1.c1, .slice x1.a2 r.drifts.length x1.c2, .slice x1.a3 r.first.length x1.c3, .slice x1.a4 r.next.length x1.c4]), (39, x2), (15, .pointer (some ⟨b15, 0, none⟩))]) (fun ⟨x1, x2, b15, ()⟩ => [un x1.K, .ow x2 3 1 vl.length (ints vl), .pt b15 [.int .i64 0, .int .i64 0, .int .i64 0, .int .i64 0, .slice none 0 0, .slice none 0 0, .slice none 0 0, .slice none 0 0] 25]) ?_ (fun hS1_3_7 => ?_)
    · rintro ⟨x1, x2, b15, _⟩
      refine qt_alt ?_ (qt_alt ?_ ?_)
      · skip
        refine qt_seg (by repeat (first | exact PickL.nil | (apply PickL.cons; rfl))) fun K1 hK1 => ?_
        (refine qf_loadAB tabOk rfl rfl rfl (by repeat first | exact .head _ | refine .tail _ ?_) (by rfl) (by rfl) ?_)
        refine qf_call (β := Cp r) tabOk [] _ M0 rfl rfl rfl rfl (Sp.refl _) (fun _ h => h.elim) (fun w' hs => cloneR_cp w' _ r (h0.keep hs.chg0) hsm) ?_
        rintro x3 _ rfl
        (refine qf_nil ?_)
        exact hK1 _ _ (hS1_3_5_7 ⟨x1, x2, x3, b15, ()⟩ _ _ ⟨rfl, rfl, rfl, rfl, rfl, rfl, rfl, rfl, rfl, rfl, rfl, trivial⟩ (by repeat (first | exact Sp.nil | exact Sp.refl _ | refine Sp.cons (by repeat constructor) ?_)))
      · skip
        refine qt_seg (by repeat (first | exact PickL.nil | (apply PickL.cons; rfl))) fun K1 hK1 => ?_
        skip
        refine qf_alloc zero32 rfl (fun b17 => ?_)
        (refine qf_nil ?_)
        exact hK1 _ _ (hS1_3_7_8 ⟨x1, x2, b15, b17, ()⟩ _ _ ⟨rfl, rfl, rfl, rfl, rfl, rfl, rfl, rfl, rfl, rfl, rfl, trivial⟩ (by repeat (first | exact Sp.nil | exact Sp.refl _ | refine Sp.cons (by repeat constructor) ?_)))
      · skip
        refine qt_seg (by repeat (first | exact PickL.nil | (apply PickL.cons; rfl))) fun K1 hK1 => ?_
        skip
        refine qf_alloc zero33 rfl (fun b18 => ?_)
        (refine qf_nil ?_)
        exact hK1 _ _ (hS1_3_7_9 ⟨x1, x2, b15, b18, ()⟩ _ _ ⟨rfl, rfl, rfl, rfl, rfl, rfl, rfl, rfl, rfl, rfl, rfl, trivial⟩ (by repeat (first | exact Sp.nil | exact Sp.refl _ | refine Sp.cons (by repeat constructor) ?_)))
    refine qt_let (σ := Cp r × Value × Nat × Unit) (.alt (chainT [4, 5] (.alt (chainT [7] (chainT [9] (chainT [6, 10, 11] (chainT [12] (chainT [13] (.nil)))))) (chainT [9] (chainT [7] (chainT [6, 10, 11] (chainT [12] (chainT [13] (.nil)))))))) (.alt (chainT [7] (.alt (chainT [4, 5] (chainT [9] (chainT [6, 10, 11] (chainT [12] (chainT [13] (.nil)))))) (chainT [9] (chainT [4, 5] (chainT [6, 10, 11] (chainT [12] (chainT [13] (.nil)))))))) (chainT [9] (.alt (chainT [4, 5] (chainT [7] (chainT [6, 10, 11] (chainT [12] (chainT [13] (.nil)))))) (chainT [7] (chainT [4, 5] (chainT [6, 10, 11] (chainT [12] (chainT [13] (.nil)))))))))) (fun ⟨x1, x2, b17, ()⟩ => [(2, .slice va vl.length vc), (3, .int .i64 shot), (4, .int .i64 waits), (5, .int .i64 state), (6, .int .i64 click), (7, .pointer (some ⟨b7, 0, none⟩)), (8, .pointer (some ⟨b8, 0, none⟩)), (37, .agg #[.int .i64 r.radius, .int .i64 r.unit, .int .i64 r.clicks, .int .i64 r.total, .slice x1.a1 r.group.length x1.c1, .slice x1.a2 r.drifts.length x1.c2, .slice x1.a3 r.first.length x1.c3, .slice x1.a4 r.next.length x1.c4]), (39, x2), (17, .pointer (some ⟨b17, 0, none⟩))]) (fun ⟨x1, x2, b17, ()⟩ => [un x1.K, .ow x2 3 1 vl.length (ints vl), .pt b17 [.int .i64 0, .int .i64 0, .int .i64 0, .int .i64 0, .slice none 0 0, .slice none 0 0, .slice none 0 0, .slice none 0 0] 32]) ?_ (fun hS1_3_8 => ?_)
    · rintro ⟨x1, x2, b17, _⟩
      refine qt_alt ?_ (qt_alt ?_ ?_)
      · skip
        refine qt_seg (by repeat (first | exact PickL.nil | (apply PickL.cons; rfl))) fun K1 hK1 => ?_
        (refine qf_loadAB tabOk rfl rfl rfl (by repeat first | exact .head _ | refine .tail _ ?_) (by rfl) (by rfl) ?_)
        refine qf_call (β := Cp r) tabOk [] _ M0 rfl rfl rfl rfl (Sp.refl _) (fun _ h => h.elim) (fun w' hs => cloneR_cp w' _ r (h0.keep hs.chg0) hsm) ?_
        rintro x3 _ rfl
        (refine qf_nil ?_)
        exact hK1 _ _ (hS1_3_5_8 ⟨x1, x2, x3, b17, ()⟩ _ _ ⟨rfl, rfl, rfl, rfl, rfl, rfl, rfl, rfl, rfl, rfl, rfl, trivial⟩ (by repeat (first | exact Sp.nil | exact Sp.refl _ | refine Sp.cons (by repeat constructor) ?_)))
      · skip
        refine qt_seg (by repeat (first | exact PickL.nil | (apply PickL.cons; rfl))) fun K1 hK1 => ?_
        skip
        refine qf_alloc zero25 rfl (fun b15 => ?_)
        (refine qf_nil ?_)
        exact hK1 _ _ (hS1_3_7_8 ⟨x1, x2, b15, b17, ()⟩ _ _ ⟨rfl, rfl, rfl, rfl, rfl, rfl, rfl, rfl, rfl, rfl, rfl, trivial⟩ (by repeat (first | exact Sp.nil | exact Sp.refl _ | refine Sp.cons (by repeat constructor) ?_)))
      · skip
        refine qt_seg (by repeat (first | exact PickL.nil | (apply PickL.cons; rfl))) fun K1 hK1 => ?_
        skip
        refine qf_alloc zero33 rfl (fun b18 => ?_)
        (refine qf_nil ?_)
        exact hK1 _ _ (hS1_3_8_9 ⟨x1, x2, b17, b18, ()⟩ _ _ ⟨rfl, rfl, rfl, rfl, rfl, rfl, rfl, rfl, rfl, rfl, rfl, trivial⟩ (by repeat (first | exact Sp.nil | exact Sp.refl _ | refine Sp.cons (by repeat constructor) ?_)))
    refine qt_let (σ := Cp r × Value × Nat × Unit) (.alt (chainT [4, 5] (.alt (chainT [7] (chainT [8] (chainT [6, 10, 11] (chainT [12] (chainT [13] (.nil)))))) (chainT [8] (chainT [7] (chainT [6, 10, 11] (chainT [12] (chainT [13] (.nil)))))))) (.alt (chainT [7] (.alt (chainT [4, 5] (chainT [8] (chainT [6, 10, 11] (chainT [12] (chainT [13] (.nil)))))) (chainT [8] (chainT [4, 5] (chainT [6, 10, 11] (chainT [12] (chainT [13] (.nil)))))))) (chainT [8] (.alt (chainT [4, 5] (chainT [7] (chainT [6, 10, 11] (chainT [12] (chainT [13] (.nil)))))) (chainT [7] (chainT [4, 5] (chainT [6, 10, 11] (chainT [12] (chainT [13] (.nil)))))))))) (fun ⟨x1, x2, b18, ()⟩ => [(2, .slice va vl.length vc), (3, .int .i64 shot), (4, .int .i64 waits), (5, .int .i64 state), (6, .int .i64 click), (7, .pointer (some ⟨b7, 0, none⟩)), (8, .pointer (some ⟨b8, 0, none⟩)), (37, .agg #[.int .i64 r.radius, .int .i64 r.unit, .int .i64 r.clicks, .int .i64 r.total, .slice x1.a1 r.group.length x1.c1, .slice x1.a2 r.drifts.length x1.c2, .slice x1.a3 r.first.length x1.c3, .slice x1.a4 r.next.length x1.c4]), (39, x2), (18, .pointer (some ⟨b18, 0, none⟩))]) (fun ⟨x1, x2, b18, ()⟩ => [un x1.K, .ow x2 3 1 vl.length (ints vl), .pt b18 [.int .i64 0, .int .i64 0, .int .i64 0, .int .i64 0] 33]) ?_ (fun hS1_3_9 => ?_)
    · rintro ⟨x1, x2, b18, _⟩
      refine qt_alt ?_ (qt_alt ?_ ?_)
      · skip
        refine qt_seg (by repeat (first | exact PickL.nil | (apply PickL.cons; rfl))) fun K1 hK1 => ?_
        (refine qf_loadAB tabOk rfl rfl rfl (by repeat first | exact .head _ | refine .tail _ ?_) (by rfl) (by rfl) ?_)
        refine qf_call (β := Cp r) tabOk [] _ M0 rfl rfl rfl rfl (Sp.refl _) (fun _ h => h.elim) (fun w' hs => cloneR_cp w' _ r (h0.keep hs.chg0) hsm) ?_
        rintro x3 _ rfl
        (refine qf_nil ?_)
        exact hK1 _ _ (hS1_3_5_9 ⟨x1, x2, x3, b18, ()⟩ _ _ ⟨rfl, rfl, rfl, rfl, rfl, rfl, rfl, rfl, rfl, rfl, rfl, trivial⟩ (by repeat (first | exact Sp.nil | exact Sp.refl _ | refine Sp.cons (by repeat constructor) ?_)))
      · skip
        refine qt_seg (by repeat (first | exact PickL.nil | (apply PickL.cons; rfl))) fun K1 hK1 => ?_
        skip
        refine qf_alloc zero25 rfl (fun b15 => ?_)
        (refine qf_nil ?_)
        exact hK1 _ _ (hS1_3_7_9 ⟨x1, x2, b15, b18, ()⟩ _ _ ⟨rfl, rfl, rfl, rfl, rfl, rfl, rfl, rfl, rfl, rfl, rfl, trivial⟩ (by repeat (first | exact Sp.nil | exact Sp.refl _ | refine Sp.cons (by repeat constructor) ?_)))
      · skip
        refine qt_seg (by repeat (first | exact PickL.nil | (apply PickL.cons; rfl))) fun K1 hK1 => ?_
        skip
        refine qf_alloc zero32 rfl (fun b17 => ?_)
        (refine qf_nil ?_)
        exact hK1 _ _ (hS1_3_8_9 ⟨x1, x2, b17, b18, ()⟩ _ _ ⟨rfl, rfl, rfl, rfl, rfl, rfl, rfl, rfl, rfl, rfl, rfl, trivial⟩ (by repeat (first | exact Sp.nil | exact Sp.refl _ | refine Sp.cons (by repeat constructor) ?_)))
    refine qt_let (σ := Cp r × Nat × Nat × Unit) (.alt (chainT [2, 3] (.alt (chainT [4, 5] (chainT [9] (chainT [6, 10, 11] (chainT [12] (chainT [13] (.nil)))))) (chainT [9] (chainT [4, 5] (chainT [6, 10, 11] (chainT [12] (chainT [13] (.nil)))))))) (chainT [9] (chainT [2, 3] (chainT [4, 5] (chainT [6, 10, 11] (chainT [12] (chainT [13] (.nil)))))))) (fun ⟨x1, b15, b17, ()⟩ => [(2, .slice va vl.length vc), (3, .int .i64 shot), (4, .int .i64 waits), (5, .int .i64 state), (6, .int .i64 click), (7, .pointer (some ⟨b7, 0, none⟩)), (8, .pointer (some ⟨b8, 0, none⟩)), (37, .agg #[.int .i64 r.radius, .int .i64 r.unit, .int .i64 r.clicks, .int .i64 r.total, .slice x1.a1 r.group.length x1.c1, .slice x1.a2 r.drifts.length x1.c2, .slice x1.a3 r.first.length x1.c3, .slice x1.a4 r.next.length x1.c4]), (15, .pointer (some ⟨b15, 0, none⟩)), (17, .pointer (some ⟨b17, 0, none⟩))]) (fun ⟨x1, b15, b17, ()⟩ => [un x1.K, .pt b15 [.int .i64 0, .int .i64 0, .int .i64 0, .int .i64 0, .slice none 0 0, .slice none 0 0, .slice none 0 0, .slice none 0 0] 25, .pt b17 [.int .i64 0, .int .i64 0, .int .i64 0, .int .i64 0, .slice none 0 0, .slice none 0 0, .slice none 0 0, .slice none 0 0] 32]) ?_ (fun hS1_7_8 => ?_)
    · rintro ⟨x1, b15, b17, _⟩
      refine qt_alt ?_ ?_
      · skip
        refine qt_seg (by repeat (first | exact PickL.nil | (apply PickL.cons; rfl))) fun K1 hK1 => ?_
        (refine qf_pure tabOk rfl rfl rfl ?_)
        refine qf_call (β := Value) (L' := fun x => [.ow x 3 1 vl.length (ints vl)]) tabOk [] _ M0 rfl rfl rfl rfl (Sp.refl _) (fun _ h => h.elim) (fun w' hs => cloneI_ca w' _ _ _ vl (RdE.keep hvl hs.chg0) (by omega)) ?_
        rintro _ x2 rfl
        (refine qf_nil ?_)
        exact hK1 _ _ (hS1_3_7_8 ⟨x1, x2, b15, b17, ()⟩ _ _ ⟨rfl, rfl, rfl, rfl, rfl, rfl, rfl, rfl, rfl, rfl, rfl, trivial⟩ (by repeat (first | exact Sp.nil | exact Sp.refl _ | refine Sp.cons (by repeat constructor) ?_)))
      · skip
        refine qt_seg (by repeat (first | exact PickL.nil | (apply PickL.cons; rfl))) fun K1 hK1 => ?_
        skip
        refine qf_alloc zero33 rfl (fun b18 => ?_)
        (refine qf_nil ?_)
        exact hK1 _ _ (hS1_7_8_9 ⟨x1, b15, b17, b18, ()⟩ _ _ ⟨rfl, rfl, rfl, rfl, rfl, rfl, rfl, rfl, rfl, rfl, rfl, trivial⟩ (by repeat (first | exact Sp.nil | exact Sp.refl _ | refine Sp.cons (by repeat constructor) ?_)))
    refine qt_let (σ := Cp r × Nat × Nat × Unit) (.alt (chainT [2, 3] (.alt (chainT [4, 5] (chainT [8] (chainT [6, 10, 11] (chainT [12] (chainT [13] (.nil)))))) (chainT [8] (chainT [4, 5] (chainT [6, 10, 11] (chainT [12] (chainT [13] (.nil)))))))) (chainT [8] (chainT [2, 3] (chainT [4, 5] (chainT [6, 10, 11] (chainT [12] (chainT [13] (.nil)))))))) (fun ⟨x1, b15, b18, ()⟩ => [(2, .slice va vl.length vc), (3, .int .i64 shot), (4, .int .i64 waits), (5, .int .i64 state), (6, .int .i64 click), (7, .pointer (some ⟨b7, 0, none⟩)), (8, .pointer (some ⟨b8, 0, none⟩)), (37, .agg #[.int .i64 r.radius, .int .i64 r.unit, .int .i64 r.clicks, .int .i64 r.total, .slice x1.a1 r.group.length x1.c1, .slice x1.a2 r.drifts.length x1.c2, .slice x1.a3 r.first.length x1.c3, .slice x1.a4 r.next.length x1.c4]), (15, .pointer (some ⟨b15, 0, none⟩)), (18, .pointer (some ⟨b18, 0, none⟩))]) (fun ⟨x1, b15, b18, ()⟩ => [un x1.K, .pt b15 [.int .i64 0, .int .i64 0, .int .i64 0, .int .i64 0, .slice none 0 0, .slice none 0 0, .slice none 0 0, .slice none 0 0] 25, .pt b18 [.int .i64 0, .int .i64 0, .int .i64 0, .int .i64 0] 33]) ?_ (fun hS1_7_9 => ?_)
    · rintro ⟨x1, b15, b18, _⟩
      refine qt_alt ?_ ?_
      · skip
        refine qt_seg (by repeat (first | exact PickL.nil | (apply PickL.cons; rfl))) fun K1 hK1 => ?_
        (refine qf_pure tabOk rfl rfl rfl ?_)
        refine qf_call (β := Value) (L' := fun x => [.ow x 3 1 vl.length (ints vl)]) tabOk [] _ M0 rfl rfl rfl rfl (Sp.refl _) (fun _ h => h.elim) (fun w' hs => cloneI_ca w' _ _ _ vl (RdE.keep hvl hs.chg0) (by omega)) ?_
        rintro _ x2 rfl
        (refine qf_nil ?_)
        exact hK1 _ _ (hS1_3_7_9 ⟨x1, x2, b15, b18, ()⟩ _ _ ⟨rfl, rfl, rfl, rfl, rfl, rfl, rfl, rfl, rfl, rfl, rfl, trivial⟩ (by repeat (first | exact Sp.nil | exact Sp.refl _ | refine Sp.cons (by repeat constructor) ?_)))
      · skip
        refine qt_seg (by repeat (first | exact PickL.nil | (apply PickL.cons; rfl))) fun K1 hK1 => ?_
        skip
        refine qf_alloc zero32 rfl (fun b17 => ?_)
        (refine qf_nil ?_)
        exact hK1 _ _ (hS1_7_8_9 ⟨x1, b15, b17, b18, ()⟩ _ _ ⟨rfl, rfl, rfl, rfl, rfl, rfl, rfl, rfl, rfl, rfl, rfl, trivial⟩ (by repeat (first | exact Sp.nil | exact Sp.refl _ | refine Sp.cons (by repeat constructor) ?_)))
    refine qt_let (σ := Cp r × Nat × Nat × Unit) (.alt (chainT [2, 3] (.alt (chainT [4, 5] (chainT [7] (chainT [6, 10, 11] (chainT [12] (chainT [13] (.nil)))))) (chainT [7] (chainT [4, 5] (chainT [6, 10, 11] (chainT [12] (chainT [13] (.nil)))))))) (chainT [7] (chainT [2, 3] (chainT [4, 5] (chainT [6, 10, 11] (chainT [12] (chainT [13] (.nil)))))))) (fun ⟨x1, b17, b18, ()⟩ => [(2, .slice va vl.length vc), (3, .int .i64 shot), (4, .int .i64 waits), (5, .int .i64 state), (6, .int .i64 click), (7, .pointer (some ⟨b7, 0, none⟩)), (8, .pointer (some ⟨b8, 0, none⟩)), (37, .agg #[.int .i64 r.radius, .int .i64 r.unit, .int .i64 r.clicks, .int .i64 r.total, .slice x1.a1 r.group.length x1.c1, .slice x1.a2 r.drifts.length x1.c2, .slice x1.a3 r.first.length x1.c3, .slice x1.a4 r.next.length x1.c4]), (17, .pointer (some ⟨b17, 0, none⟩)), (18, .pointer (some ⟨b18, 0, none⟩))]) (fun ⟨x1, b17, b18, ()⟩ => [un x1.K, .pt b17 [.int .i64 0, .int .i64 0, .int .i64 0, .int .i64 0, .slice none 0 0, .slice none 0 0, .slice none 0 0, .slice none 0 0] 32, .pt b18 [.int .i64 0, .int .i64 0, .int .i64 0, .int .i64 0] 33]) ?_ (fun hS1_8_9 => ?_)
    · rintro ⟨x1, b17, b18, _⟩
      refine qt_alt ?_ ?_
      · skip
        refine qt_seg (by repeat (first | exact PickL.nil | (apply PickL.cons; rfl))) fun K1 hK1 => ?_
        (refine qf_pure tabOk rfl rfl rfl ?_)
        refine qf_call (β := Value) (L' := fun x => [.ow x 3 1 vl.length (ints vl)]) tabOk [] _ M0 rfl rfl rfl rfl (Sp.refl _) (fun _ h => h.elim) (fun w' hs => cloneI_ca w' _ _ _ vl (RdE.keep hvl hs.chg0) (by omega)) ?_
        rintro _ x2 rfl
        (refine qf_nil ?_)
        exact hK1 _ _ (hS1_3_8_9 ⟨x1, x2, b17, b18, ()⟩ _ _ ⟨rfl, rfl, rfl, rfl, rfl, rfl, rfl, rfl, rfl, rfl, rfl, trivial⟩ (by repeat (first | exact Sp.nil | exact Sp.refl _ | refine Sp.cons (by repeat constructor) ?_)))
      · skip
        refine qt_seg (by repeat (first | exact PickL.nil | (apply PickL.cons; rfl))) fun K1 hK1 => ?_
        skip
        refine qf_alloc zero25 rfl (fun b15 => ?_)
        (refine qf_nil ?_)
        exact hK1 _ _ (hS1_7_8_9 ⟨x1, b15, b17, b18, ()⟩ _ _ ⟨rfl, rfl, rfl, rfl, rfl, rfl, rfl, rfl, rfl, rfl, rfl, trivial⟩ (by repeat (first | exact Sp.nil | exact Sp.refl _ | refine Sp.cons (by repeat constructor) ?_)))
    refine qt_let (σ := Nat × Nat × Nat × Unit) (chainT [0, 1] (chainT [2, 3] (chainT [4, 5] (chainT [6, 10, 11] (chainT [12] (chainT [13] (.nil))))))) (fun ⟨b15, b17, b18, ()⟩ => [(2, .slice va vl.length vc), (3, .int .i64 shot), (4, .int .i64 waits), (5, .int .i64 state), (6, .int .i64 click), (7, .pointer (some ⟨b7, 0, none⟩)), (8, .pointer (some ⟨b8, 0, none⟩)), (15, .pointer (some ⟨b15, 0, none⟩)), (17, .pointer (some ⟨b17, 0, none⟩)), (18, .pointer (some ⟨b18, 0, none⟩))]) (fun ⟨b15, b17, b18, ()⟩ => [.pt b15 [.int .i64 0, .int .i64 0, .int .i64 0, .int .i64 0, .slice none 0 0, .slice none 0 0, .slice none 0 0, .slice none 0 0] 25, .pt b17 [.int .i64 0, .int .i64 0, .int .i64 0, .int .i64 0, .slice none 0 0, .slice none 0 0, .slice none 0 0, .slice none 0 0] 32, .pt b18 [.int .i64 0, .int .i64 0, .int .i64 0, .int .i64 0] 33]) ?_ (fun hS7_8_9 => ?_)
    · rintro ⟨b15, b17, b18, _⟩
      refine qt_seg (by repeat (first | exact PickL.nil | (apply PickL.cons; rfl))) fun K1 hK1 => ?_
      (refine qf_loadAB tabOk rfl rfl rfl (by repeat first | exact .head _ | refine .tail _ ?_) (by rfl) (by rfl) ?_)
      refine qf_call (β := Cp r) tabOk [] _ M0 rfl rfl rfl rfl (Sp.refl _) (fun _ h => h.elim) (fun w' hs => cloneR_cp w' _ r (h0.keep hs.chg0) hsm) ?_
      rintro x1 _ rfl
      (refine qf_nil ?_)
      exact hK1 _ _ (hS1_7_8_9 ⟨x1, b15, b17, b18, ()⟩ _ _ ⟨rfl, rfl, rfl, rfl, rfl, rfl, rfl, rfl, rfl, rfl, rfl, trivial⟩ (by repeat (first | exact Sp.nil | exact Sp.refl _ | refine Sp.cons (by repeat constructor) ?_)))
    refine qt_let (σ := Cp r × Value × Unit) (.alt (chainT [4, 5] (.alt (chainT [7] (.alt (chainT [8] (chainT [9] (chainT [6, 10, 11] (chainT [12] (chainT [13] (.nil)))))) (chainT [9] (chainT [8] (chainT [6, 10, 11] (chainT [12] (chainT [13] (.nil)))))))) (.alt (chainT [8] (.alt (chainT [7] (chainT [9] (chainT [6, 10, 11] (chainT [12] (chainT [13] (.nil)))))) (chainT [9] (chainT [7] (chainT [6, 10, 11] (chainT [12] (chainT [13] (.nil)))))))) (chainT [9] (.alt (chainT [7] (chainT [8] (chainT [6, 10, 11] (chainT [12] (chainT [13] (.nil)))))) (chainT [8] (chainT [7] (chainT [6, 10, 11] (chainT [12] (chainT [13] (.nil))))))))))) (.alt (chainT [7] (.alt (chainT [4, 5] (.alt (chainT [8] (chainT [9] (chainT [6, 10, 11] (chainT [12] (chainT [13] (.nil)))))) (chainT [9] (chainT [8] (chainT [6, 10, 11] (chainT [12] (chainT [13] (.nil)))))))) (.alt (chainT [8] (.alt (chainT [4, 5] (chainT [9] (chainT [6, 10, 11] (chainT [12] (chainT [13] (.nil)))))) (chainT [9] (chainT [4, 5] (chainT [6, 10, 11] (chainT [12] (chainT [13] (.nil)))))))) (chainT [9] (.alt (chainT [4, 5] (chainT [8] (chainT [6, 10, 11] (chainT [12] (chainT [13] (.nil)))))) (chainT [8] (chainT [4, 5] (chainT [6, 10, 11] (chainT [12] (chainT [13] (.nil))))))))))) (.alt (chainT [8] (.alt (chainT [4, 5] (.alt (chainT [7] (chainT [9] (chainT [6, 10, 11] (chainT [12] (chainT [13] (.nil)))))) (chainT [9] (chainT [7] (chainT [6, 10, 11] (chainT [12] (chainT [13] (.nil)))))))) (.alt (chainT [7] (.alt (chainT [4, 5] (chainT [9] (chainT [6, 10, 11] (chainT [12] (chainT [13] (.nil)))))) (chainT [9] (chainT [4, 5] (chainT [6, 10, 11] (chainT [12] (chainT [13] (.nil)))))))) (chainT [9] (.alt (chainT [4, 5] (chainT [7] (chainT [6, 10, 11] (chainT [12] (chainT [13] (.nil)))))) (chainT [7] (chainT [4, 5] (chainT [6, 10, 11] (chainT [12] (chainT [13] (.nil))))))))))) (chainT [9] (.alt (chainT [4, 5] (.alt (chainT [7] (chainT [8] (chainT [6, 10, 11] (chainT [12] (chainT [13] (.nil)))))) (chainT [8] (chainT [7] (chainT [6, 10, 11] (chainT [12] (chainT [13] (.nil)))))))) (.alt (chainT [7] (.alt (chainT [4, 5] (chainT [8] (chainT [6, 10, 11] (chainT [12] (chainT [13] (.nil)))))) (chainT [8] (chainT [4, 5] (chainT [6, 10, 11] (chainT [12] (chainT [13] (.nil)))))))) (chainT [8] (.alt (chainT [4, 5] (chainT [7] (chainT [6, 10, 11] (chainT [12] (chainT [13] (.nil)))))) (chainT [7] (chainT [4, 5] (chainT [6, 10, 11] (chainT [12] (chainT [13] (.nil)))))))))))))) (fun ⟨x1, x2, ()⟩ => [(2, .slice va vl.length vc), (3, .int .i64 shot), (4, .int .i64 waits), (5, .int .i64 state), (6, .int .i64 click), (7, .pointer (some ⟨b7, 0, none⟩)), (8, .pointer (some ⟨b8, 0, none⟩)), (37, .agg #[.int .i64 r.radius, .int .i64 r.unit, .int .i64 r.clicks, .int .i64 r.total, .slice x1.a1 r.group.length x1.c1, .slice x1.a2 r.drifts.length x1.c2, .slice x1.a3 r.first.length x1.c3, .slice x1.a4 r.next.length x1.c4]), (39, x2)]) (fun ⟨x1, x2, ()⟩ => [un x1.K, .ow x2 3 1 vl.length (ints vl)]) ?_ (fun hS1_3 => ?_)
    · rintro ⟨x1, x2, _⟩
      refine qt_alt ?_ (qt_alt ?_ (qt_alt ?_ ?_))
      · skip
        refine qt_seg (by repeat (first | exact PickL.nil | (apply PickL.cons; rfl))) fun K1 hK1 => ?_
        (refine qf_loadAB tabOk rfl rfl rfl (by repeat first | exact .head _ | refine .tail _ ?_) (by rfl) (by rfl) ?_)
        refine qf_call (β := Cp r) tabOk [] _ M0 rfl rfl rfl rfl (Sp.refl _) (fun _ h => h.elim) (fun w' hs => cloneR_cp w' _ r (h0.keep hs.chg0) hsm) ?_
        rintro x3 _ rfl
        (refine qf_nil ?_)
        exact hK1 _ _ (hS1_3_5 ⟨x1, x2, x3, ()⟩ _ _ ⟨rfl, rfl, rfl, rfl, rfl, rfl, rfl, rfl, rfl, rfl, trivial⟩ (by repeat (first | exact Sp.nil | exact Sp.refl _ | refine Sp.cons (by repeat constructor) ?_)))
      · skip
        refine qt_seg (by repeat (first | exact PickL.nil | (apply PickL.cons; rfl))) fun K1 hK1 => ?_
        skip
        refine qf_alloc zero25 rfl (fun b15 => ?_)
        (refine qf_nil ?_)
        exact hK1 _ _ (hS1_3_7 ⟨x1, x2, b15, ()⟩ _ _ ⟨rfl, rfl, rfl, rfl, rfl, rfl, rfl, rfl, rfl, rfl, trivial⟩ (by repeat (first | exact Sp.nil | exact Sp.refl _ | refine Sp.cons (by repeat constructor) ?_)))
      · skip
        refine qt_seg (by repeat (first | exact PickL.nil | (apply PickL.cons; rfl))) fun K1 hK1 => ?_
        skip
        refine qf_alloc zero32 rfl (fun b17 => ?_)
        (refine qf_nil ?_)
        exact hK1 _ _ (hS1_3_8 ⟨x1, x2, b17, ()⟩ _ _ ⟨rfl, rfl, rfl, rfl, rfl, rfl, rfl, rfl, rfl, rfl, trivial⟩ (by repeat (first | exact Sp.nil | exact Sp.refl _ | refine Sp.cons (by repeat constructor) ?_)))
      · skip
        refine qt_seg (by repeat (first | exact PickL.nil | (apply PickL.cons; rfl))) fun K1 hK1 => ?_
        skip
        refine qf_alloc zero33 rfl (fun b18 => ?_)
        (refine qf_nil ?_)
        exact hK1 _ _ (hS1_3_9 ⟨x1, x2, b18, ()⟩ _ _ ⟨rfl, rfl, rfl, rfl, rfl, rfl, rfl, rfl, rfl, rfl, trivial⟩ (by repeat (first | exact Sp.nil | exact Sp.refl _ | refine Sp.cons (by repeat constructor) ?_)))
    refine qt_let (σ := Cp r × Nat × Unit) (.alt (chainT [2, 3] (.alt (chainT [4, 5] (.alt (chainT [8] (chainT [9] (chainT [6, 10, 11] (chainT [12] (chainT [13] (.nil)))))) (chainT [9] (chainT [8] (chainT [6, 10, 11] (chainT [12] (chainT [13] (.nil)))))))) (.alt (chainT [8] (.alt (chainT [4, 5] (chainT [9] (chainT [6, 10, 11] (chainT [12] (chainT [13] (.nil)))))) (chainT [9] (chainT [4, 5] (chainT [6, 10, 11] (chainT [12] (chainT [13] (.nil)))))))) (chainT [9] (.alt (chainT [4, 5] (chainT [8] (chainT [6, 10, 11] (chainT [12] (chainT [13] (.nil)))))) (chainT [8] (chainT [4, 5] (chainT [6, 10, 11] (chainT [12] (chainT [13] (.nil))))))))))) (.alt (chainT [8] (.alt (chainT [2, 3] (.alt (chainT [4, 5] (chainT [9] (chainT [6, 10, 11] (chainT [12] (chainT [13] (.nil)))))) (chainT [9] (chainT [4, 5] (chainT [6, 10, 11] (chainT [12] (chainT [13] (.nil)))))))) (chainT [9] (chainT [2, 3] (chainT [4, 5] (chainT [6, 10, 11] (chainT [12] (chainT [13] (.nil))))))))) (chainT [9] (.alt (chainT [2, 3] (.alt (chainT [4, 5] (chainT [8] (chainT [6, 10, 11] (chainT [12] (chainT [13] (.nil)))))) (chainT [8] (chainT [4, 5] (chainT [6, 10, 11] (chainT [12] (chainT [13] (.nil)))))))) (chainT [8] (chainT [2, 3] (chainT [4, 5] (chainT [6, 10, 11] (chainT [12] (chainT [13] (.nil))))))))))) (fun ⟨x1, b15, ()⟩ => [(2, .slice va vl.length vc), (3, .int .i64 shot), (4, .int .i64 waits), (5, .int .i64 state), (6, .int .i64 click), (7, .pointer (some ⟨b7, 0, none⟩)), (8, .pointer (some ⟨b8, 0, none⟩)), (37, .agg #[.int .i64 r.radius, .int .i64 r.unit, .int .i64 r.clicks, .int .i64 r.total, .slice x1.a1 r.group.length x1.c1, .slice x1.a2 r.drifts.length x1.c2, .slice x1.a3 r.first.length x1.c3, .slice x1.a4 r.next.length x1.c4]), (15, .pointer (some ⟨b15, 0, none⟩))]) (fun ⟨x1, b15, ()⟩ => [un x1.K, .pt b15 [.int .i64 0, .int .i64 0, .int .i64 0, .int .i64 0, .slice none 0 0, .slice none 0 0, .slice none 0 0, .slice none 0 0] 25]) ?_ (fun hS1_7 => ?_)
    · rintro ⟨x1, b15, _⟩
      refine qt_alt ?_ (qt_alt ?_ ?_)
      · skip
        refine qt_seg (by repeat (first | exact PickL.nil | (apply PickL.cons; rfl))) fun K1 hK1 => ?_
        (refine qf_pure tabOk rfl rfl rfl ?_)
        refine qf_call (β := Value) (L' := fun x => [.ow x 3 1 vl.length (ints vl)]) tabOk [] _ M0 rfl rfl rfl rfl (Sp.refl _) (fun _ h => h.elim) (fun w' hs => cloneI_ca w' _ _ _ vl (RdE.keep hvl hs.chg0) (by omega)) ?_
        rintro _ x2 rfl
        (refine qf_nil ?_)
        exact hK1 _ _ (hS1_3_7 ⟨x1, x2, b15, ()⟩ _ _ ⟨rfl, rfl, rfl, rfl, rfl, rfl, rfl, rfl, rfl, rfl, trivial⟩ (by repeat (first | exact Sp.nil | exact Sp.refl _ | refine Sp.cons (by repeat constructor) ?_)))
      · skip
        refine qt_seg (by repeat (first | exact PickL.nil | (apply PickL.cons; rfl))) fun K1 hK1 => ?_
        skip
        refine qf_alloc zero32 rfl (fun b17 => ?_)
        (refine qf_nil ?_)
        exact hK1 _ _ (hS1_7_8 ⟨x1, b15, b17, ()⟩ _ _ ⟨rfl, rfl, rfl, rfl, rfl, rfl, rfl, rfl, rfl, rfl, trivial⟩ (by repeat (first | exact Sp.nil | exact Sp.refl _ | refine Sp.cons (by repeat constructor) ?_)))
      · skip
        refine qt_seg (by repeat (first | exact PickL.nil | (apply PickL.cons; rfl))) fun K1 hK1 => ?_
        skip
        refine qf_alloc zero33 rfl (fun b18 => ?_)
        (refine qf_nil ?_)
        exact hK1 _ _ (hS1_7_9 ⟨x1, b15, b18, ()⟩ _ _ ⟨rfl, rfl, rfl, rfl, rfl, rfl, rfl, rfl, rfl, rfl, trivial⟩ (by repeat (first | exact Sp.nil | exact Sp.refl _ | refine Sp.cons (by repeat constructor) ?_)))
    refine qt_let (σ := Cp r × Nat × Unit) (.alt (chainT [2, 3] (.alt (chainT [4, 5] (.alt (chainT [7] (chainT [9] (chainT [6, 10, 11] (chainT [12] (chainT [13] (.nil)))))) (chainT [9] (chainT [7] (chainT [6, 10, 11] (chainT [12] (chainT [13] (.nil)))))))) (.alt (chainT [7] (.alt (chainT [4, 5] (chainT [9] (chainT [6, 10, 11] (chainT [12] (chainT [13] (.nil)))))) (chainT [9] (chainT [4, 5] (chainT [6, 10, 11] (chainT [12] (chainT [13] (.nil)))))))) (chainT [9] (.alt (chainT [4, 5] (chainT [7] (chainT [6, 10, 11] (chainT [12] (chainT [13] (.nil)))))) (chainT [7] (chainT [4, 5] (chainT [6, 10, 11] (chainT [12] (chainT [13] (.nil))))))))))) (.alt (chainT [7] (.alt (chainT [2, 3] (.alt (chainT [4, 5] (chainT [9] (chainT [6, 10, 11] (chainT [12] (chainT [13] (.nil)))))) (chainT [9] (chainT [4, 5] (chainT [6, 10, 11] (chainT [12] (chainT [13] (.nil)))))))) (chainT [9] (chainT [2, 3] (chainT [4, 5] (chainT [6, 10, 11] (chainT [12] (chainT [13] (.nil))))))))) (chainT [9] (.alt (chainT [2, 3] (.alt (chainT [4, 5] (chainT [7] (chainT [6, 10, 11] (chainT [12] (chainT [13] (.nil)))))) (chainT [7] (chainT [4, 5] (chainT [6, 10, 11] (chainT [12] (chainT [13] (.nil)))))))) (chainT [7] (chainT [2, 3] (chainT [4, 5] (chainT [6, 10, 11] (chainT [12] (chainT [13] (.nil))))))))))) (fun ⟨x1, b17, ()⟩ => [(2, .slice va vl.length vc), (3, .int .i64 shot), (4, .int .i64 waits), (5, .int .i64 state), (6, .int .i64 click), (7, .pointer (some ⟨b7, 0, none⟩)), (8, .pointer (some ⟨b8, 0, none⟩)), (37, .agg #[.int .i64 r.radius, .int .i64 r.unit, .int .i64 r.clicks, .int .i64 r.total, .slice x1.a1 r.group.length x1.c1, .slice x1.a2 r.drifts.length x1.c2, .slice x1.a3 r.first.length x1.c3, .slice x1.a4 r.next.length x1.c4]), (17, .pointer (some ⟨b17, 0, none⟩))]) (fun ⟨x1, b17, ()⟩ => [un x1.K, .pt b17 [.int .i64 0, .int .i64 0, .int .i64 0, .int .i64 0, .slice none 0 0, .slice none 0 0, .slice none 0 0, .slice none 0 0] 32]) ?_ (fun hS1_8 => ?_)
    · rintro ⟨x1, b17, _⟩
      refine qt_alt ?_ (qt_alt ?_ ?_)
      · skip
        refine qt_seg (by repeat (first | exact PickL.nil | (apply PickL.cons; rfl))) fun K1 hK1 => ?_
        (refine qf_pure tabOk rfl rfl rfl ?_)
        refine qf_call (β := Value) (L' := fun x => [.ow x 3 1 vl.length (ints vl)]) tabOk [] _ M0 rfl rfl rfl rfl (Sp.refl _) (fun _ h => h.elim) (fun w' hs => cloneI_ca w' _ _ _ vl (RdE.keep hvl hs.chg0) (by omega)) ?_
        rintro _ x2 rfl
        (refine qf_nil ?_)
        exact hK1 _ _ (hS1_3_8 ⟨x1, x2, b17, ()⟩ _ _ ⟨rfl, rfl, rfl, rfl, rfl, rfl, rfl, rfl, rfl, rfl, trivial⟩ (by repeat (first | exact Sp.nil | exact Sp.refl _ | refine Sp.cons (by repeat constructor) ?_)))
      · skip
        refine qt_seg (by repeat (first | exact PickL.nil | (apply PickL.cons; rfl))) fun K1 hK1 => ?_
        skip
        refine qf_alloc zero25 rfl (fun b15 => ?_)
        (refine qf_nil ?_)
        exact hK1 _ _ (hS1_7_8 ⟨x1, b15, b17, ()⟩ _ _ ⟨rfl, rfl, rfl, rfl, rfl, rfl, rfl, rfl, rfl, rfl, trivial⟩ (by repeat (first | exact Sp.nil | exact Sp.refl _ | refine Sp.cons (by repeat constructor) ?_)))
      · skip
        refine qt_seg (by repeat (first | exact PickL.nil | (apply PickL.cons; rfl))) fun K1 hK1 => ?_
        skip
        refine qf_alloc zero33 rfl (fun b18 => ?_)
        (refine qf_nil ?_)
        exact hK1 _ _ (hS1_8_9 ⟨x1, b17, b18, ()⟩ _ _ ⟨rfl, rfl, rfl, rfl, rfl, rfl, rfl, rfl, rfl, rfl, trivial⟩ (by repeat (first | exact Sp.nil | exact Sp.refl _ | refine Sp.cons (by repeat constructor) ?_)))
    refine qt_let (σ := Cp r × Nat × Unit) (.alt (chainT [2, 3] (.alt (chainT [4, 5] (.alt (chainT [7] (chainT [8] (chainT [6, 10, 11] (chainT [12] (chainT [13] (.nil)))))) (chainT [8] (chainT [7] (chainT [6, 10, 11] (chainT [12] (chainT [13] (.nil)))))))) (.alt (chainT [7] (.alt (chainT [4, 5] (chainT [8] (chainT [6, 10, 11] (chainT [12] (chainT [13] (.nil)))))) (chainT [8] (chainT [4, 5] (chainT [6, 10, 11] (chainT [12] (chainT [13] (.nil)))))))) (chainT [8] (.alt (chainT [4, 5] (chainT [7] (chainT [6, 10, 11] (chainT [12] (chainT [13] (.nil)))))) (chainT [7] (chainT [4, 5] (chainT [6, 10, 11] (chainT [12] (chainT [13] (.nil))))))))))) (.alt (chainT [7] (.alt (chainT [2, 3] (.alt (chainT [4, 5] (chainT [8] (chainT [6, 10, 11] (chainT [12] (chainT [13] (.nil)))))) (chainT [8] (chainT [4, 5] (chainT [6, 10, 11] (chainT [12] (chainT [13] (.nil)))))))) (chainT [8] (chainT [2, 3] (chainT [4, 5] (chainT [6, 10, 11] (chainT [12] (chainT [13] (.nil))))))))) (chainT [8] (.alt (chainT [2, 3] (.alt (chainT [4, 5] (chainT [7] (chainT [6, 10, 11] (chainT [12] (chainT [13] (.nil)))))) (chainT [7] (chainT [4, 5] (chainT [6, 10, 11] (chainT [12] (chainT [13] (.nil)))))))) (chainT [7] (chainT [2, 3] (chainT [4, 5] (chainT [6, 10, 11] (chainT [12] (chainT [13] (.nil))))))))))) (fun ⟨x1, b18, ()⟩ => [(2, .slice va vl.length vc), (3, .int .i64 shot), (4, .int .i64 waits), (5, .int .i64 state), (6, .int .i64 click), (7, .pointer (some ⟨b7, 0, none⟩)), (8, .pointer (some ⟨b8, 0, none⟩)), (37, .agg #[.int .i64 r.radius, .int .i64 r.unit, .int .i64 r.clicks, .int .i64 r.total, .slice x1.a1 r.group.length x1.c1, .slice x1.a2 r.drifts.length x1.c2, .slice x1.a3 r.first.length x1.c3, .slice x1.a4 r.next.length x1.c4]), (18, .pointer (some ⟨b18, 0, none⟩))]) (fun ⟨x1, b18, ()⟩ => [un x1.K, .pt b18 [.int .i64 0, .int .i64 0, .int .i64 0, .int .i64 0] 33]) ?_ (fun hS1_9 => ?_)
    · rintro ⟨x1, b18, _⟩
      refine qt_alt ?_ (qt_alt ?_ ?_)
      · skip
        refine qt_seg (by repeat (first | exact PickL.nil | (apply PickL.cons; rfl))) fun K1 hK1 => ?_
        (refine qf_pure tabOk rfl rfl rfl ?_)
        refine qf_call (β := Value) (L' := fun x => [.ow x 3 1 vl.length (ints vl)]) tabOk [] _ M0 rfl rfl rfl rfl (Sp.refl _) (fun _ h => h.elim) (fun w' hs => cloneI_ca w' _ _ _ vl (RdE.keep hvl hs.chg0) (by omega)) ?_
        rintro _ x2 rfl
        (refine qf_nil ?_)
        exact hK1 _ _ (hS1_3_9 ⟨x1, x2, b18, ()⟩ _ _ ⟨rfl, rfl, rfl, rfl, rfl, rfl, rfl, rfl, rfl, rfl, trivial⟩ (by repeat (first | exact Sp.nil | exact Sp.refl _ | refine Sp.cons (by repeat constructor) ?_)))
      · skip
        refine qt_seg (by repeat (first | exact PickL.nil | (apply PickL.cons; rfl))) fun K1 hK1 => ?_
        skip
        refine qf_alloc zero25 rfl (fun b15 => ?_)
        (refine qf_nil ?_)
        exact hK1 _ _ (hS1_7_9 ⟨x1, b15, b18, ()⟩ _ _ ⟨rfl, rfl, rfl, rfl, rfl, rfl, rfl, rfl, rfl, rfl, trivial⟩ (by repeat (first | exact Sp.nil | exact Sp.refl _ | refine Sp.cons (by repeat constructor) ?_)))
      · skip
        refine qt_seg (by repeat (first | exact PickL.nil | (apply PickL.cons; rfl))) fun K1 hK1 => ?_
        skip
        refine qf_alloc zero32 rfl (fun b17 => ?_)
        (refine qf_nil ?_)
        exact hK1 _ _ (hS1_8_9 ⟨x1, b17, b18, ()⟩ _ _ ⟨rfl, rfl, rfl, rfl, rfl, rfl, rfl, rfl, rfl, rfl, trivial⟩ (by repeat (first | exact Sp.nil | exact Sp.refl _ | refine Sp.cons (by repeat constructor) ?_)))
    refine qt_let (σ := Nat × Nat × Unit) (.alt (chainT [0, 1] (.alt (chainT [2, 3] (.alt (chainT [4, 5] (chainT [9] (chainT [6, 10, 11] (chainT [12] (chainT [13] (.nil)))))) (chainT [9] (chainT [4, 5] (chainT [6, 10, 11] (chainT [12] (chainT [13] (.nil)))))))) (chainT [9] (chainT [2, 3] (chainT [4, 5] (chainT [6, 10, 11] (chainT [12] (chainT [13] (.nil))))))))) (chainT [9] (chainT [0, 1] (chainT [2, 3] (chainT [4, 5] (chainT [6, 10, 11] (chainT [12] (chainT [13] (.nil))))))))) (fun ⟨b15, b17, ()⟩ => [(2, .slice va vl.length vc), (3, .int .i64 shot), (4, .int .i64 waits), (5, .int .i64 state), (6, .int .i64 click), (7, .pointer (some ⟨b7, 0, none⟩)), (8, .pointer (some ⟨b8, 0, none⟩)), (15, .pointer (some ⟨b15, 0, none⟩)), (17, .pointer (some ⟨b17, 0, none⟩))]) (fun ⟨b15, b17, ()⟩ => [.pt b15 [.int .i64 0, .int .i64 0, .int .i64 0, .int .i64 0, .slice none 0 0, .slice none 0 0, .slice none 0 0, .slice none 0 0] 25, .pt b17 [.int .i64 0, .int .i64 0, .int .i64 0, .int .i64 0, .slice none 0 0, .slice none 0 0, .slice none 0 0, .slice none 0 0] 32]) ?_ (fun hS7_8 => ?_)
    · rintro ⟨b15, b17, _⟩
      refine qt_alt ?_ ?_
      · skip
        refine qt_seg (by repeat (first | exact PickL.nil | (apply PickL.cons; rfl))) fun K1 hK1 => ?_
        (refine qf_loadAB tabOk rfl rfl rfl (by repeat first | exact .head _ | refine .tail _ ?_) (by rfl) (by rfl) ?_)
        refine qf_call (β := Cp r) tabOk [] _ M0 rfl rfl rfl rfl (Sp.refl _) (fun _ h => h.elim) (fun w' hs => cloneR_cp w' _ r (h0.keep hs.chg0) hsm) ?_
        rintro x1 _ rfl
        (refine qf_nil ?_)
        exact hK1 _ _ (hS1_7_8 ⟨x1, b15, b17, ()⟩ _ _ ⟨rfl, rfl, rfl, rfl, rfl, rfl, rfl, rfl, rfl, rfl, trivial⟩ (by repeat (first | exact Sp.nil | exact Sp.refl _ | refine Sp.cons (by repeat constructor) ?_)))
      · skip
        refine qt_seg (by repeat (first | exact PickL.nil | (apply PickL.cons; rfl))) fun K1 hK1 => ?_
        skip
        refine qf_alloc zero33 rfl (fun b18 => ?_)
        (refine qf_nil ?_)
        exact hK1 _ _ (hS7_8_9 ⟨b15, b17, b18, ()⟩ _ _ ⟨rfl, rfl, rfl, rfl, rfl, rfl, rfl, rfl, rfl, rfl, trivial⟩ (by repeat (first | exact Sp.nil | exact Sp.refl _ | refine Sp.cons (by repeat constructor) ?_)))
    refine qt_let (σ := Nat × Nat × Unit) (.alt (chainT [0, 1] (.alt (chainT [2, 3] (.alt (chainT [4, 5] (chainT [8] (chainT [6, 10, 11] (chainT [12] (chainT [13] (.nil)))))) (chainT [8] (chainT [4, 5] (chainT [6, 10, 11] (chainT [12] (chainT [13] (.nil)))))))) (chainT [8] (chainT [2, 3] (chainT [4, 5] (chainT [6, 10, 11] (chainT [12] (chainT [13] (.nil))))))))) (chainT [8] (chainT [0, 1] (chainT [2, 3] (chainT [4, 5] (chainT [6, 10, 11] (chainT [12] (chainT [13] (.nil))))))))) (fun ⟨b15, b18, ()⟩ => [(2, .slice va vl.length vc), (3, .int .i64 shot), (4, .int .i64 waits), (5, .int .i64 state), (6, .int .i64 click), (7, .pointer (some ⟨b7, 0, none⟩)), (8, .pointer (some ⟨b8, 0, none⟩)), (15, .pointer (some ⟨b15, 0, none⟩)), (18, .pointer (some ⟨b18, 0, none⟩))]) (fun ⟨b15, b18, ()⟩ => [.pt b15 [.int .i64 0, .int .i64 0, .int .i64 0, .int .i64 0, .slice none 0 0, .slice none 0 0, .slice none 0 0, .slice none 0 0] 25, .pt b18 [.int .i64 0, .int .i64 0, .int .i64 0, .int .i64 0] 33]) ?_ (fun hS7_9 => ?_)
    · rintro ⟨b15, b18, _⟩
      refine qt_alt ?_ ?_
      · skip
        refine qt_seg (by repeat (first | exact PickL.nil | (apply PickL.cons; rfl))) fun K1 hK1 => ?_
        (refine qf_loadAB tabOk rfl rfl rfl (by repeat first | exact .head _ | refine .tail _ ?_) (by rfl) (by rfl) ?_)
        refine qf_call (β := Cp r) tabOk [] _ M0 rfl rfl rfl rfl (Sp.refl _) (fun _ h => h.elim) (fun w' hs => cloneR_cp w' _ r (h0.keep hs.chg0) hsm) ?_
        rintro x1 _ rfl
        (refine qf_nil ?_)
        exact hK1 _ _ (hS1_7_9 ⟨x1, b15, b18, ()⟩ _ _ ⟨rfl, rfl, rfl, rfl, rfl, rfl, rfl, rfl, rfl, rfl, trivial⟩ (by repeat (first | exact Sp.nil | exact Sp.refl _ | refine Sp.cons (by repeat constructor) ?_)))
      · skip
        refine qt_seg (by repeat (first | exact PickL.nil | (apply PickL.cons; rfl))) fun K1 hK1 => ?_
        skip
        refine qf_alloc zero32 rfl (fun b17 => ?_)
        (refine qf_nil ?_)
        exact hK1 _ _ (hS7_8_9 ⟨b15, b17, b18, ()⟩ _ _ ⟨rfl, rfl, rfl, rfl, rfl, rfl, rfl, rfl, rfl, rfl, trivial⟩ (by repeat (first | exact Sp.nil | exact Sp.refl _ | refine Sp.cons (by repeat constructor) ?_)))
    refine qt_let (σ := Nat × Nat × Unit) (.alt (chainT [0, 1] (.alt (chainT [2, 3] (.alt (chainT [4, 5] (chainT [7] (chainT [6, 10, 11] (chainT [12] (chainT [13] (.nil)))))) (chainT [7] (chainT [4, 5] (chainT [6, 10, 11] (chainT [12] (chainT [13] (.nil)))))))) (chainT [7] (chainT [2, 3] (chainT [4, 5] (chainT [6, 10, 11] (chainT [12] (chainT [13] (.nil))))))))) (chainT [7] (chainT [0, 1] (chainT [2, 3] (chainT [4, 5] (chainT [6, 10, 11] (chainT [12] (chainT [13] (.nil))))))))) (fun ⟨b17, b18, ()⟩ => [(2, .slice va vl.length vc), (3, .int .i64 shot), (4, .int .i64 waits), (5, .int .i64 state), (6, .int .i64 click), (7, .pointer (some ⟨b7, 0, none⟩)), (8, .pointer (some ⟨b8, 0, none⟩)), (17, .pointer (some ⟨b17, 0, none⟩)), (18, .pointer (some ⟨b18, 0, none⟩))]) (fun ⟨b17, b18, ()⟩ => [.pt b17 [.int .i64 0, .int .i64 0, .int .i64 0, .int .i64 0, .slice none 0 0, .slice none 0 0, .slice none 0 0, .slice none 0 0] 32, .pt b18 [.int .i64 0, .int .i64 0, .int .i64 0, .int .i64 0] 33]) ?_ (fun hS8_9 => ?_)
    · rintro ⟨b17, b18, _⟩
      refine qt_alt ?_ ?_
      · skip
        refine qt_seg (by repeat (first | exact PickL.nil | (apply PickL.cons; rfl))) fun K1 hK1 => ?_
        (refine qf_loadAB tabOk rfl rfl rfl (by repeat first | exact .head _ | refine .tail _ ?_) (by rfl) (by rfl) ?_)
        refine qf_call (β := Cp r) tabOk [] _ M0 rfl rfl rfl rfl (Sp.refl _) (fun _ h => h.elim) (fun w' hs => cloneR_cp w' _ r (h0.keep hs.chg0) hsm) ?_
        rintro x1 _ rfl
        (refine qf_nil ?_)
        exact hK1 _ _ (hS1_8_9 ⟨x1, b17, b18, ()⟩ _ _ ⟨rfl, rfl, rfl, rfl, rfl, rfl, rfl, rfl, rfl, rfl, trivial⟩ (by repeat (first | exact Sp.nil | exact Sp.refl _ | refine Sp.cons (by repeat constructor) ?_)))
      · skip
        refine qt_seg (by repeat (first | exact PickL.nil | (apply PickL.cons; rfl))) fun K1 hK1 => ?_
        skip
        refine qf_alloc zero25 rfl (fun b15 => ?_)
        (refine qf_nil ?_)
        exact hK1 _ _ (hS7_8_9 ⟨b15, b17, b18, ()⟩ _ _ ⟨rfl, rfl, rfl, rfl, rfl, rfl, rfl, rfl, rfl, rfl, trivial⟩ (by repeat (first | exact Sp.nil | exact Sp.refl _ | refine Sp.cons (by repeat constructor) ?_)))
    refine qt_let (σ := Cp r × Unit) (.alt (chainT [2, 3] (.alt (chainT [4, 5] (.alt (chainT [7] (.alt (chainT [8] (chainT [9] (chainT [6, 10, 11] (chainT [12] (chainT [13] (.nil)))))) (chainT [9] (chainT [8] (chainT [6, 10, 11] (chainT [12] (chainT [13] (.nil)))))))) (.alt (chainT [8] (.alt (chainT [7] (chainT [9] (chainT [6, 10, 11] (chainT [12] (chainT [13] (.nil)))))) (chainT [9] (chainT [7] (chainT [6, 10, 11] (chainT [12] (chainT [13] (.nil)))))))) (chainT [9] (.alt (chainT [7] (chainT [8] (chainT [6, 10, 11] (chainT [12] (chainT [13] (.nil)))))) (chainT [8] (chainT [7] (chainT [6, 10, 11] (chainT [12] (chainT [13] (.nil))))))))))) (.alt (chainT [7] (.alt (chainT [4, 5] (.alt (chainT [8] (chainT [9] (chainT [6, 10, 11] (chainT [12] (chainT [13] (.nil)))))) (chainT [9] (chainT [8] (chainT [6, 10, 11] (chainT [12] (chainT [13] (.nil)))))))) (.alt (chainT [8] (.alt (chainT [4, 5] (chainT [9] (chainT [6, 10, 11] (chainT [12] (chainT [13] (.nil)))))) (chainT [9] (chainT [4, 5] (chainT [6, 10, 11] (chainT [12] (chainT [13] (.nil)))))))) (chainT [9] (.alt (chainT [4, 5] (chainT [8] (chainT [6, 10, 11] (chainT [12] (chainT [13] (.nil)))))) (chainT [8] (chainT [4, 5] (chainT [6, 10, 11] (chainT [12] (chainT [13] (.nil))))))))))) (.alt (chainT [8] (.alt (chainT [4, 5] (.alt (chainT [7] (chainT [9] (chainT [6, 10, 11] (chainT [12] (chainT [13] (.nil)))))) (chainT [9] (chainT [7] (chainT [6, 10, 11] (chainT [12] (chainT [13] (.nil)))))))) (.alt (chainT [7] (.alt (chainT [4, 5] (chainT [9] (chainT [6, 10, 11] (chainT [12] (chainT [13] (.nil)))))) (chainT [9] (chainT [4, 5] (chainT [6, 10, 11] (chainT [12] (chainT [13] (.nil)))))))) (chainT [9] (.alt (chainT [4, 5] (chainT [7] (chainT [6, 10, 11] (chainT [12] (chainT [13] (.nil)))))) (chainT [7] (chainT [4, 5] (chainT [6, 10, 11] (chainT [12] (chainT [13] (.nil))))))))))) (chainT [9] (.alt (chainT [4, 5] (.alt (chainT [7] (chainT [8] (chainT [6, 10, 11] (chainT [12] (chainT [13] (.nil)))))) (chainT [8] (chainT [7] (chainT [6, 10, 11] (chainT [12] (chainT [13] (.nil)))))))) (.alt (chainT [7] (.alt (chainT [4, 5] (chainT [8] (chainT [6, 10, 11] (chainT [12] (chainT [13] (.nil)))))) (chainT [8] (chainT [4, 5] (chainT [6, 10, 11] (chainT [12] (chainT [13] (.nil)))))))) (chainT [8] (.alt (chainT [4, 5] (chainT [7] (chainT [6, 10, 11] (chainT [12] (chainT [13] (.nil)))))) (chainT [7] (chainT [4, 5] (chainT [6, 10, 11] (chainT [12] (chainT [13] (.nil))))))))))))))) (.alt (chainT [7] (.alt (chainT [2, 3] (.alt (chainT [4, 5] (.alt (chainT [8] (chainT [9] (chainT [6, 10, 11] (chainT [12] (chainT [13] (.nil)))))) (chainT [9] (chainT [8] (chainT [6, 10, 11] (chainT [12] (chainT [13] (.nil)))))))) (.alt (chainT [8] (.alt (chainT [4, 5] (chainT [9] (chainT [6, 10, 11] (chainT [12] (chainT [13] (.nil)))))) (chainT [9] (chainT [4, 5] (chainT [6, 10, 11] (chainT [12] (chainT [13] (.nil)))))))) (chainT [9] (.alt (chainT [4, 5] (chainT [8] (chainT [6, 10, 11] (chainT [12] (chainT [13] (.nil)))))) (chainT [8] (chainT [4, 5] (chainT [6, 10, 11] (chainT [12] (chainT [13] (.nil))))))))))) (.alt (chainT [8] (.alt (chainT [2, 3] (.alt (chainT [4, 5] (chainT [9] (chainT [6, 10, 11] (chainT [12] (chainT [13] (.nil)))))) (chainT [9] (chainT [4, 5] (chainT [6, 10, 11] (chainT [12] (chainT [13] (.nil)))))))) (chainT [9] (chainT [2, 3] (chainT [4, 5] (chainT [6, 10, 11] (chainT [12] (chainT [13] (.nil))))))))) (chainT [9] (.alt (chainT [2, 3] (.alt (chainT [4, 5] (chainT [8] (chainT [6, 10, 11] (chainT [12] (chainT [13] (.nil)))))) (chainT [8] (chainT [4, 5] (chainT [6, 10, 11] (chainT [12] (chainT [13] (.nil)))))))) (chainT [8] (chainT [2, 3] (chainT [4, 5] (chainT [6, 10, 11] (chainT [12] (chainT [13] (.nil)))))))))))) (.alt (chainT [8] (.alt (chainT [2, 3] (.alt (chainT [4, 5] (.alt (chainT [7] (chainT [9] (chainT [6, 10, 11] (chainT [12] (chainT [13] (.nil)))))) (chainT [9] (chainT [7] (chainT [6, 10, 11] (chainT [12] (chainT [13] (.nil)))))))) (.alt (chainT [7] (.alt (chainT [4, 5] (chainT [9] (chainT [6, 10, 11] (chainT [12] (chainT [13] (.nil)))))) (chainT [9] (chainT [4, 5] (chainT [6, 10, 11] (chainT [12] (chainT [13] (.nil)))))))) (chainT [9] (.alt (chainT [4, 5] (chainT [7] (chainT [6, 10, 11] (chainT [12] (chainT [13] (.nil)))))) (chainT [7] (chainT [4, 5] (chainT [6, 10, 11] (chainT [12] (chainT [13] (.nil))))))))))) (.alt (chainT [7] (.alt (chainT [2, 3] (.alt (chainT [4, 5] (chainT [9] (chainT [6, 10, 11] (chainT [12] (chainT [13] (.nil)))))) (chainT [9] (chainT [4, 5] (chainT [6, 10, 11] (chainT [12] (chainT [13] (.nil)))))))) (chainT [9] (chainT [2, 3] (chainT [4, 5] (chainT [6, 10, 11] (chainT [12] (chainT [13] (.nil))))))))) (chainT [9] (.alt (chainT [2, 3] (.alt (chainT [4, 5] (chainT [7] (chainT [6, 10, 11] (chainT [12] (chainT [13] (.nil)))))) (chainT [7] (chainT [4, 5] (chainT [6, 10, 11] (chainT [12] (chainT [13] (.nil)))))))) (chainT [7] (chainT [2, 3] (chainT [4, 5] (chainT [6, 10, 11] (chainT [12] (chainT [13] (.nil)))))))))))) (chainT [9] (.alt (chainT [2, 3] (.alt (chainT [4, 5] (.alt (chainT [7] (chainT [8] (chainT [6, 10, 11] (chainT [12] (chainT [13] (.nil)))))) (chainT [8] (chainT [7] (chainT [6, 10, 11] (chainT [12] (chainT [13] (.nil)))))))) (.alt (chainT [7] (.alt (chainT [4, 5] (chainT [8] (chainT [6, 10, 11] (chainT [12] (chainT [13] (.nil)))))) (chainT [8] (chainT [4, 5] (chainT [6, 10, 11] (chainT [12] (chainT [13] (.nil)))))))) (chainT [8] (.alt (chainT [4, 5] (chainT [7] (chainT [6, 10, 11] (chainT [12] (chainT [13] (.nil)))))) (chainT [7] (chainT [4, 5] (chainT [6, 10, 11] (chainT [12] (chainT [13] (.nil))))))))))) (.alt (chainT [7] (.alt (chainT [2, 3] (.alt (chainT [4, 5] (chainT [8] (chainT [6, 10, 11] (chainT [12] (chainT [13] (.nil)))))) (chainT [8] (chainT [4, 5] (chainT [6, 10, 11] (chainT [12] (chainT [13] (.nil)))))))) (chainT [8] (chainT [2, 3] (chainT [4, 5] (chainT [6, 10, 11] (chainT [12] (chainT [13] (.nil))))))))) (chainT [8] (.alt (chainT [2, 3] (.alt (chainT [4, 5] (chainT [7] (chainT [6, 10, 11] (chainT [12] (chainT [13] (.nil)))))) (chainT [7] (chainT [4, 5] (chainT [6, 10, 11] (chainT [12] (chainT [13] (.nil)))))))) (chainT [7] (chainT [2, 3] (chainT [4, 5] (chainT [6, 10, 11] (chainT [12] (chainT [13] (.nil))))))))))))))) (fun ⟨x1, ()⟩ => [(2, .slice va vl.length vc), (3, .int .i64 shot), (4, .int .i64 waits), (5, .int .i64 state), (6, .int .i64 click), (7, .pointer (some ⟨b7, 0, none⟩)), (8, .pointer (some ⟨b8, 0, none⟩)), (37, .agg #[.int .i64 r.radius, .int .i64 r.unit, .int .i64 r.clicks, .int .i64 r.total, .slice x1.a1 r.group.length x1.c1, .slice x1.a2 r.drifts.length x1.c2, .slice x1.a3 r.first.length x1.c3, .slice x1.a4 r.next.length x1.c4])]) (fun ⟨x1, ()⟩ => [un x1.K]) ?_ (fun hS1 => ?_)
    · rintro ⟨x1, _⟩
      refine qt_alt ?_ (qt_alt ?_ (qt_alt ?_ ?_))
      · skip
        refine qt_seg (by repeat (first | exact PickL.nil | (apply PickL.cons; rfl))) fun K1 hK1 => ?_
        (refine qf_pure tabOk rfl rfl rfl ?_)
        refine qf_call (β := Value) (L' := fun x => [.ow x 3 1 vl.length (ints vl)]) tabOk [] _ M0 rfl rfl rfl rfl (Sp.refl _) (fun _ h => h.elim) (fun w' hs => cloneI_ca w' _ _ _ vl (RdE.keep hvl hs.chg0) (by omega)) ?_
        rintro _ x2 rfl
        (refine qf_nil ?_)
        exact hK1 _ _ (hS1_3 ⟨x1, x2, ()⟩ _ _ ⟨rfl, rfl, rfl, rfl, rfl, rfl, rfl, rfl, rfl, trivial⟩ (by repeat (first | exact Sp.nil | exact Sp.refl _ | refine Sp.cons (by repeat constructor) ?_)))
      · skip
        refine qt_seg (by repeat (first | exact PickL.nil | (apply PickL.cons; rfl))) fun K1 hK1 => ?_
        skip
        refine qf_alloc zero25 rfl (fun b15 => ?_)
        (refine qf_nil ?_)
        exact hK1 _ _ (hS1_7 ⟨x1, b15, ()⟩ _ _ ⟨rfl, rfl, rfl, rfl, rfl, rfl, rfl, rfl, rfl, trivial⟩ (by repeat (first | exact Sp.nil | exact Sp.refl _ | refine Sp.cons (by repeat constructor) ?_)))
      · skip
        refine qt_seg (by repeat (first | exact PickL.nil | (apply PickL.cons; rfl))) fun K1 hK1 => ?_
        skip
        refine qf_alloc zero32 rfl (fun b17 => ?_)
        (refine qf_nil ?_)
        exact hK1 _ _ (hS1_8 ⟨x1, b17, ()⟩ _ _ ⟨rfl, rfl, rfl, rfl, rfl, rfl, rfl, rfl, rfl, trivial⟩ (by repeat (first | exact Sp.nil | exact Sp.refl _ | refine Sp.cons (by repeat constructor) ?_)))
      · skip
        refine qt_seg (by repeat (first | exact PickL.nil | (apply PickL.cons; rfl))) fun K1 hK1 => ?_
        skip
        refine qf_alloc zero33 rfl (fun b18 => ?_)
        (refine qf_nil ?_)
        exact hK1 _ _ (hS1_9 ⟨x1, b18, ()⟩ _ _ ⟨rfl, rfl, rfl, rfl, rfl, rfl, rfl, rfl, rfl, trivial⟩ (by repeat (first | exact Sp.nil | exact Sp.refl _ | refine Sp.cons (by repeat constructor) ?_)))
    refine qt_let (σ := Nat × Unit) (.alt (chainT [0, 1] (.alt (chainT [2, 3] (.alt (chainT [4, 5] (.alt (chainT [8] (chainT [9] (chainT [6, 10, 11] (chainT [12] (chainT [13] (.nil)))))) (chainT [9] (chainT [8] (chainT [6, 10, 11] (chainT [12] (chainT [13] (.nil)))))))) (.alt (chainT [8] (.alt (chainT [4, 5] (chainT [9] (chainT [6, 10, 11] (chainT [12] (chainT [13] (.nil)))))) (chainT [9] (chainT [4, 5] (chainT [6, 10, 11] (chainT [12] (chainT [13] (.nil)))))))) (chainT [9] (.alt (chainT [4, 5] (chainT [8] (chainT [6, 10, 11] (chainT [12] (chainT [13] (.nil)))))) (chainT [8] (chainT [4, 5] (chainT [6, 10, 11] (chainT [12] (chainT [13] (.nil))))))))))) (.alt (chainT [8] (.alt (chainT [2, 3] (.alt (chainT [4, 5] (chainT [9] (chainT [6, 10, 11] (chainT [12] (chainT [13] (.nil)))))) (chainT [9] (chainT [4, 5] (chainT [6, 10, 11] (chainT [12] (chainT [13] (.nil)))))))) (chainT [9] (chainT [2, 3] (chainT [4, 5] (chainT [6, 10, 11] (chainT [12] (chainT [13] (.nil))))))))) (chainT [9] (.alt (chainT [2, 3] (.alt (chainT [4, 5] (chainT [8] (chainT [6, 10, 11] (chainT [12] (chainT [13] (.nil)))))) (chainT [8] (chainT [4, 5] (chainT [6, 10, 11] (chainT [12] (chainT [13] (.nil)))))))) (chainT [8] (chainT [2, 3] (chainT [4, 5] (chainT [6, 10, 11] (chainT [12] (chainT [13] (.nil)))))))))))) (.alt (chainT [8] (.alt (chainT [0, 1] (.alt (chainT [2, 3] (.alt (chainT [4, 5] (chainT [9] (chainT [6, 10, 11] (chainT [12] (chainT [13] (.nil)))))) (chainT [9] (chainT [4, 5] (chainT [6, 10, 11] (chainT [12] (chainT [13] (.nil)))))))) (chainT [9] (chainT [2, 3] (chainT [4, 5] (chainT [6, 10, 11] (chainT [12] (chainT [13] (.nil))))))))) (chainT [9] (chainT [0, 1] (chainT [2, 3] (chainT [4, 5] (chainT [6, 10, 11] (chainT [12] (chainT [13] (.nil)))))))))) (chainT [9] (.alt (chainT [0, 1] (.alt (chainT [2, 3] (.alt (chainT [4, 5] (chainT [8] (chainT [6, 10, 11] (chainT [12] (chainT [13] (.nil)))))) (chainT [8] (chainT [4, 5] (chainT [6, 10, 11] (chainT [12] (chainT [13] (.nil)))))))) (chainT [8] (chainT [2, 3] (chainT [4, 5] (chainT [6, 10, 11] (chainT [12] (chainT [13] (.nil))))))))) (chainT [8] (chainT [0, 1] (chainT [2, 3] (chainT [4, 5] (chainT [6, 10, 11] (chainT [12] (chainT [13] (.nil)))))))))))) (fun ⟨b15, ()⟩ => [(2, .slice va vl.length vc), (3, .int .i64 shot), (4, .int .i64 waits), (5, .int .i64 state), (6, .int .i64 click), (7, .pointer (some ⟨b7, 0, none⟩)), (8, .pointer (some ⟨b8, 0, none⟩)), (15, .pointer (some ⟨b15, 0, none⟩))]) (fun ⟨b15, ()⟩ => [.pt b15 [.int .i64 0, .int .i64 0, .int .i64 0, .int .i64 0, .slice none 0 0, .slice none 0 0, .slice none 0 0, .slice none 0 0] 25]) ?_ (fun hS7 => ?_)
    · rintro ⟨b15, _⟩
      refine qt_alt ?_ (qt_alt ?_ ?_)
      · skip
        refine qt_seg (by repeat (first | exact PickL.nil | (apply PickL.cons; rfl))) fun K1 hK1 => ?_
        (refine qf_loadAB tabOk rfl rfl rfl (by repeat first | exact .head _ | refine .tail _ ?_) (by rfl) (by rfl) ?_)
        refine qf_call (β := Cp r) tabOk [] _ M0 rfl rfl rfl rfl (Sp.refl _) (fun _ h => h.elim) (fun w' hs => cloneR_cp w' _ r (h0.keep hs.chg0) hsm) ?_
        rintro x1 _ rfl
        (refine qf_nil ?_)
        exact hK1 _ _ (hS1_7 ⟨x1, b15, ()⟩ _ _ ⟨rfl, rfl, rfl, rfl, rfl, rfl, rfl, rfl, rfl, trivial⟩ (by repeat (first | exact Sp.nil | exact Sp.refl _ | refine Sp.cons (by repeat constructor) ?_)))
      · skip
        refine qt_seg (by repeat (first | exact PickL.nil | (apply PickL.cons; rfl))) fun K1 hK1 => ?_
        skip
        refine qf_alloc zero32 rfl (fun b17 => ?_)
        (refine qf_nil ?_)
        exact hK1 _ _ (hS7_8 ⟨b15, b17, ()⟩ _ _ ⟨rfl, rfl, rfl, rfl, rfl, rfl, rfl, rfl, rfl, trivial⟩ (by repeat (first | exact Sp.nil | exact Sp.refl _ | refine Sp.cons (by repeat constructor) ?_)))
      · skip
        refine qt_seg (by repeat (first | exact PickL.nil | (apply PickL.cons; rfl))) fun K1 hK1 => ?_
        skip
        refine qf_alloc zero33 rfl (fun b18 => ?_)
        (refine qf_nil ?_)
        exact hK1 _ _ (hS7_9 ⟨b15, b18, ()⟩ _ _ ⟨rfl, rfl, rfl, rfl, rfl, rfl, rfl, rfl, rfl, trivial⟩ (by repeat (first | exact Sp.nil | exact Sp.refl _ | refine Sp.cons (by repeat constructor) ?_)))
    refine qt_let (σ := Nat × Unit) (.alt (chainT [0, 1] (.alt (chainT [2, 3] (.alt (chainT [4, 5] (.alt (chainT [7] (chainT [9] (chainT [6, 10, 11] (chainT [12] (chainT [13] (.nil)))))) (chainT [9] (chainT [7] (chainT [6, 10, 11] (chainT [12] (chainT [13] (.nil)))))))) (.alt (chainT [7] (.alt (chainT [4, 5] (chainT [9] (chainT [6, 10, 11] (chainT [12] (chainT [13] (.nil)))))) (chainT [9] (chainT [4, 5] (chainT [6, 10, 11] (chainT [12] (chainT [13] (.nil)))))))) (chainT [9] (.alt (chainT [4, 5] (chainT [7] (chainT [6, 10, 11] (chainT [12] (chainT [13] (.nil)))))) (chainT [7] (chainT [4, 5] (chainT [6, 10, 11] (chainT [12] (chainT [13] (.nil))))))))))) (.alt (chainT [7] (.alt (chainT [2, 3] (.alt (chainT [4, 5] (chainT [9] (chainT [6, 10, 11] (chainT [12] (chainT [13] (.nil)))))) (chainT [9] (chainT [4, 5] (chainT [6, 10, 11] (chainT [12] (chainT [13] (.nil)))))))) (chainT [9] (chainT [2, 3] (chainT [4, 5] (chainT [6, 10, 11] (chainT [12] (chainT [13] (.nil))))))))) (chainT [9] (.alt (chainT [2, 3] (.alt (chainT [4, 5] (chainT [7] (chainT [6, 10, 11] (chainT [12] (chainT [13] (.nil)))))) (chainT [7] (chainT [4, 5] (chainT [6, 10, 11] (chainT [12] (chainT [13] (.nil)))))))) (chainT [7] (chainT [2, 3] (chainT [4, 5] (chainT [6, 10, 11] (chainT [12] (chainT [13] (.nil)))))))))))) (.alt (chainT [7] (.alt (chainT [0, 1] (.alt (chainT [2, 3] (.alt (chainT [4, 5] (chainT [9] (chainT [6, 10, 11] (chainT [12] (chainT [13] (.nil)))))) (chainT [9] (chainT [4, 5] (chainT [6, 10, 11] (chainT [12] (chainT [13] (.nil)))))))) (chainT [9] (chainT [2, 3] (chainT [4, 5] (chainT [6, 10, 11] (chainT [12] (chainT [13] (.nil))))))))) (chainT [9] (chainT [0, 1] (chainT [2, 3] (chainT [4, 5] (chainT [6, 10, 11] (chainT [12] (chainT [13] (.nil)))))))))) (chainT [9] (.alt (chainT [0, 1] (.alt (chainT [2, 3] (.alt (chainT [4, 5] (chainT [7] (chainT [6, 10, 11] (chainT [12] (chainT [13] (.nil)))))) (chainT [7] (chainT [4, 5] (chainT [6, 10, 11] (chainT [12] (chainT [13] (.nil)))))))) (chainT [7] (chainT [2, 3] (chainT [4, 5] (chainT [6, 10, 11] (chainT [12] (chainT [13] (.nil))))))))) (chainT [7] (chainT [0, 1] (chainT [2, 3] (chainT [4, 5] (chainT [6, 10, 11] (chainT [12] (chainT [13] (.nil)))))))))))) (fun ⟨b17, ()⟩ => [(2, .slice va vl.length vc), (3, .int .i64 shot), (4, .int .i64 waits), (5, .int .i64 state), (6, .int .i64 click), (7, .pointer (some ⟨b7, 0, none⟩)), (8, .pointer (some ⟨b8, 0, none⟩)), (17, .pointer (some ⟨b17, 0, none⟩))]) (fun ⟨b17, ()⟩ => [.pt b17 [.int .i64 0, .int .i64 0, .int .i64 0, .int .i64 0, .slice none 0 0, .slice none 0 0, .slice none 0 0, .slice none 0 0] 32]) ?_ (fun hS8 => ?_)
    · rintro ⟨b17, _⟩
      refine qt_alt ?_ (qt_alt ?_ ?_)
      · skip
        refine qt_seg (by repeat (first | exact PickL.nil | (apply PickL.cons; rfl))) fun K1 hK1 => ?_
        (refine qf_loadAB tabOk rfl rfl rfl (by repeat first | exact .head _ | refine .tail _ ?_) (by rfl) (by rfl) ?_)
        refine qf_call (β := Cp r) tabOk [] _ M0 rfl rfl rfl rfl (Sp.refl _) (fun _ h => h.elim) (fun w' hs => cloneR_cp w' _ r (h0.keep hs.chg0) hsm) ?_
        rintro x1 _ rfl
        (refine qf_nil ?_)
        exact hK1 _ _ (hS1_8 ⟨x1, b17, ()⟩ _ _ ⟨rfl, rfl, rfl, rfl, rfl, rfl, rfl, rfl, rfl, trivial⟩ (by repeat (first | exact Sp.nil | exact Sp.refl _ | refine Sp.cons (by repeat constructor) ?_)))
      · skip
        refine qt_seg (by repeat (first | exact PickL.nil | (apply PickL.cons; rfl))) fun K1 hK1 => ?_
        skip
        refine qf_alloc zero25 rfl (fun b15 => ?_)
        (refine qf_nil ?_)
        exact hK1 _ _ (hS7_8 ⟨b15, b17, ()⟩ _ _ ⟨rfl, rfl, rfl, rfl, rfl, rfl, rfl, rfl, rfl, trivial⟩ (by repeat (first | exact Sp.nil | exact Sp.refl _ | refine Sp.cons (by repeat constructor) ?_)))
      · skip
        refine qt_seg (by repeat (first | exact PickL.nil | (apply PickL.cons; rfl))) fun K1 hK1 => ?_
        skip
        refine qf_alloc zero33 rfl (fun b18 => ?_)
        (refine qf_nil ?_)
        exact hK1 _ _ (hS8_9 ⟨b17, b18, ()⟩ _ _ ⟨rfl, rfl, rfl, rfl, rfl, rfl, rfl, rfl, rfl, trivial⟩ (by repeat (first | exact Sp.nil | exact Sp.refl _ | refine Sp.cons (by repeat constructor) ?_)))
    refine qt_let (σ := Nat × Unit) (.alt (chainT [0, 1] (.alt (chainT [2, 3] (.alt (chainT [4, 5] (.alt (chainT [7] (chainT [8] (chainT [6, 10, 11] (chainT [12] (chainT [13] (.nil)))))) (chainT [8] (chainT [7] (chainT [6, 10, 11] (chainT [12] (chainT [13] (.nil)))))))) (.alt (chainT [7] (.alt (chainT [4, 5] (chainT [8] (chainT [6, 10, 11] (chainT [12] (chainT [13] (.nil)))))) (chainT [8] (chainT [4, 5] (chainT [6, 10, 11] (chainT [12] (chainT [13] (.nil)))))))) (chainT [8] (.alt (chainT [4, 5] (chainT [7] (chainT [6, 10, 11] (chainT [12] (chainT [13] (.nil)))))) (chainT [7] (chainT [4, 5] (chainT [6, 10, 11] (chainT [12] (chainT [13] (.nil))))))))))) (.alt (chainT [7] (.alt (chainT [2, 3] (.alt (chainT [4, 5] (chainT [8] (chainT [6, 10, 11] (chainT [12] (chainT [13] (.nil)))))) (chainT [8] (chainT [4, 5] (chainT [6, 10, 11] (chainT [12] (chainT [13] (.nil)))))))) (chainT [8] (chainT [2, 3] (chainT [4, 5] (chainT [6, 10, 11] (chainT [12] (chainT [13] (.nil))))))))) (chainT [8] (.alt (chainT [2, 3] (.alt (chainT [4, 5] (chainT [7] (chainT [6, 10, 11] (chainT [12] (chainT [13] (.nil)))))) (chainT [7] (chainT [4, 5] (chainT [6, 10, 11] (chainT [12] (chainT [13] (.nil)))))))) (chainT [7] (chainT [2, 3] (chainT [4, 5] (chainT [6, 10, 11] (chainT [12] (chainT [13] (.nil)))))))))))) (.alt (chainT [7] (.alt (chainT [0, 1] (.alt (chainT [2, 3] (.alt (chainT [4, 5] (chainT [8] (chainT [6, 10, 11] (chainT [12] (chainT [13] (.nil)))))) (chainT [8] (chainT [4, 5] (chainT [6, 10, 11] (chainT [12] (chainT [13] (.nil)))))))) (chainT [8] (chainT [2, 3] (chainT [4, 5] (chainT [6, 10, 11] (chainT [12] (chainT [13] (.nil))))))))) (chainT [8] (chainT [0, 1] (chainT [2, 3] (chainT [4, 5] (chainT [6, 10, 11] (chainT [12] (chainT [13] (.nil)))))))))) (chainT [8] (.alt (chainT [0, 1] (.alt (chainT [2, 3] (.alt (chainT [4, 5] (chainT [7] (chainT [6, 10, 11] (chainT [12] (chainT [13] (.nil)))))) (chainT [7] (chainT [4, 5] (chainT [6, 10, 11] (chainT [12] (chainT [13] (.nil)))))))) (chainT [7] (chainT [2, 3] (chainT [4, 5] (chainT [6, 10, 11] (chainT [12] (chainT [13] (.nil))))))))) (chainT [7] (chainT [0, 1] (chainT [2, 3] (chainT [4, 5] (chainT [6, 10, 11] (chainT [12] (chainT [13] (.nil)))))))))))) (fun ⟨b18, ()⟩ => [(2, .slice va vl.length vc), (3, .int .i64 shot), (4, .int .i64 waits), (5, .int .i64 state), (6, .int .i64 click), (7, .pointer (some ⟨b7, 0, none⟩)), (8, .pointer (some ⟨b8, 0, none⟩)), (18, .pointer (some ⟨b18, 0, none⟩))]) (fun ⟨b18, ()⟩ => [.pt b18 [.int .i64 0, .int .i64 0, .int .i64 0, .int .i64 0] 33]) ?_ (fun hS9 => ?_)
    · rintro ⟨b18, _⟩
      refine qt_alt ?_ (qt_alt ?_ ?_)
      · skip
        refine qt_seg (by repeat (first | exact PickL.nil | (apply PickL.cons; rfl))) fun K1 hK1 => ?_
        (refine qf_loadAB tabOk rfl rfl rfl (by repeat first | exact .head _ | refine .tail _ ?_) (by rfl) (by rfl) ?_)
        refine qf_call (β := Cp r) tabOk [] _ M0 rfl rfl rfl rfl (Sp.refl _) (fun _ h => h.elim) (fun w' hs => cloneR_cp w' _ r (h0.keep hs.chg0) hsm) ?_
        rintro x1 _ rfl
        (refine qf_nil ?_)
        exact hK1 _ _ (hS1_9 ⟨x1, b18, ()⟩ _ _ ⟨rfl, rfl, rfl, rfl, rfl, rfl, rfl, rfl, rfl, trivial⟩ (by repeat (first | exact Sp.nil | exact Sp.refl _ | refine Sp.cons (by repeat constructor) ?_)))
      · skip
        refine qt_seg (by repeat (first | exact PickL.nil | (apply PickL.cons; rfl))) fun K1 hK1 => ?_
        skip
        refine qf_alloc zero25 rfl (fun b15 => ?_)
        (refine qf_nil ?_)
        exact hK1 _ _ (hS7_9 ⟨b15, b18, ()⟩ _ _ ⟨rfl, rfl, rfl, rfl, rfl, rfl, rfl, rfl, rfl, trivial⟩ (by repeat (first | exact Sp.nil | exact Sp.refl _ | refine Sp.cons (by repeat constructor) ?_)))
      · skip
        refine qt_seg (by repeat (first | exact PickL.nil | (apply PickL.cons; rfl))) fun K1 hK1 => ?_
        skip
        refine qf_alloc zero32 rfl (fun b17 => ?_)
        (refine qf_nil ?_)
        exact hK1 _ _ (hS8_9 ⟨b17, b18, ()⟩ _ _ ⟨rfl, rfl, rfl, rfl, rfl, rfl, rfl, rfl, rfl, trivial⟩ (by repeat (first | exact Sp.nil | exact Sp.refl _ | refine Sp.cons (by repeat constructor) ?_)))
    refine qt_alt ?_ (qt_alt ?_ (qt_alt ?_ ?_))
    · skip
      refine qt_seg (by repeat (first | exact PickL.nil | (apply PickL.cons; rfl))) fun K1 hK1 => ?_
      (refine qf_loadAB tabOk rfl rfl rfl (by repeat first | exact .head _ | refine .tail _ ?_) (by rfl) (by rfl) ?_)
      refine qf_call (β := Cp r) tabOk [] _ M0 rfl rfl rfl rfl (Sp.refl _) (fun _ h => h.elim) (fun w' hs => cloneR_cp w' _ r (h0.keep hs.chg0) hsm) ?_
      rintro x1 _ rfl
      (refine qf_nil ?_)
      exact hK1 _ _ (hS1 ⟨x1, ()⟩ _ _ ⟨rfl, rfl, rfl, rfl, rfl, rfl, rfl, rfl, trivial⟩ (by repeat (first | exact Sp.nil | exact Sp.refl _ | refine Sp.cons (by repeat constructor) ?_)))
    · skip
      refine qt_seg (by repeat (first | exact PickL.nil | (apply PickL.cons; rfl))) fun K1 hK1 => ?_
      skip
      refine qf_alloc zero25 rfl (fun b15 => ?_)
      (refine qf_nil ?_)
      exact hK1 _ _ (hS7 ⟨b15, ()⟩ _ _ ⟨rfl, rfl, rfl, rfl, rfl, rfl, rfl, rfl, trivial⟩ (by repeat (first | exact Sp.nil | exact Sp.refl _ | refine Sp.cons (by repeat constructor) ?_)))
    · skip
      refine qt_seg (by repeat (first | exact PickL.nil | (apply PickL.cons; rfl))) fun K1 hK1 => ?_
      skip
      refine qf_alloc zero32 rfl (fun b17 => ?_)
      (refine qf_nil ?_)
      exact hK1 _ _ (hS8 ⟨b17, ()⟩ _ _ ⟨rfl, rfl, rfl, rfl, rfl, rfl, rfl, rfl, trivial⟩ (by repeat (first | exact Sp.nil | exact Sp.refl _ | refine Sp.cons (by repeat constructor) ?_)))
    · skip
      refine qt_seg (by repeat (first | exact PickL.nil | (apply PickL.cons; rfl))) fun K1 hK1 => ?_
      skip
      refine qf_alloc zero33 rfl (fun b18 => ?_)
      (refine qf_nil ?_)
      exact hK1 _ _ (hS9 ⟨b18, ()⟩ _ _ ⟨rfl, rfl, rfl, rfl, rfl, rfl, rfl, rfl, trivial⟩ (by repeat (first | exact Sp.nil | exact Sp.refl _ | refine Sp.cons (by repeat constructor) ?_)))
  rintro ⟨b15, b17, b18, x1, x2, x3⟩
  dsimp only
  ((iterate 2 refine q_seq ?_))
  refine q_draw _ [] (Sp.refl _) (by kernel_rfl) (by kernel_rfl) ?_
  ((iterate 2 refine qf_loadAB tabOk rfl rfl rfl (by repeat first | exact .head _ | refine .tail _ ?_) (by rfl) (by rfl) ?_))
  refine qf_callv (val := .int .i64 (rulesV r p)) tabOk rfl rfl rfl rfl (fun w hs => ?_) ?_; exact chkRules_ca w _ r p (Cp.at2 x1 r rfl rfl rfl rfl hs (by repeat first | exact .head _ | refine .tail _ ?_)) hsm
  ((iterate 2 refine qf_loadAB tabOk rfl rfl rfl (by repeat first | exact .head _ | refine .tail _ ?_) (by rfl) (by rfl) ?_))
  refine qf_callv (val := .int .i64 (rulesV r p)) tabOk rfl rfl rfl rfl (fun w hs => ?_) ?_; exact rruled_ca w _ r p (Cp.at2 x3 r rfl rfl rfl rfl hs (by repeat first | exact .head _ | refine .tail _ ?_)) hsm
  (refine qf_neqF tabOk rfl rfl rfl (by omega) ?_; refine qf_nil ?_; refine q_cond_false rfl ?_; refine q_skip ?_; refine q_seq ?_; refine q_region ?_; (iterate 2 refine ql_loadAB tabOk rfl rfl rfl (by repeat first | exact .head _ | refine .tail _ ?_) (by rfl) (by rfl) ?_))
  refine ql_call (β := Value × List Ck) (L' := fun x => [un x.2]) tabOk [] _ M0 rfl rfl rfl rfl (Sp.refl _) (fun _ h => h.elim) (fun w' hs => values_u w' _ r p (Cp.at2 x1 r rfl rfl rfl rfl hs (by repeat first | exact .head _ | refine .tail _ ?_)) hsm) ?_
  rintro ⟨va1, K1⟩ _ ⟨rfl, hva⟩
  dsimp only at hva ⊢
  (refine ql_pure tabOk rfl rfl ?_; (iterate 2 refine ql_ext tabOk rfl rfl rfl ?_); (iterate 2 refine ql_pure tabOk rfl rfl ?_); refine q_nil ?_; refine q_seq ?_; refine q_region ?_; (iterate 2 refine ql_loadAB tabOk rfl rfl rfl (by repeat first | exact .head _ | refine .tail _ ?_) (by rfl) (by rfl) ?_))
  refine ql_call (β := Value × List Ck) (L' := fun x => [un x.2]) tabOk [] _ M0 rfl rfl rfl rfl (Sp.refl _) (fun _ h => h.elim) (fun w' hs => rvalues_u w' _ r p (Cp.at2 x3 r rfl rfl rfl rfl hs (by repeat first | exact .head _ | refine .tail _ ?_)) hsm) ?_
  rintro ⟨vb, K2⟩ _ ⟨rfl, hvb⟩
  dsimp only at hvb ⊢
  (refine ql_pure tabOk rfl rfl ?_; (iterate 2 refine ql_ext tabOk rfl rfl rfl ?_); (iterate 2 refine ql_pure tabOk rfl rfl ?_); refine q_nil ?_; (iterate 2 refine q_seq ?_); refine q_region ?_; (iterate 2 refine ql_pure tabOk rfl rfl ?_); refine ql_neqF tabOk rfl rfl rfl (by omega) ?_; refine ql_pure tabOk rfl rfl ?_; refine ql_gyes rfl ?_; refine ql_pure tabOk rfl rfl ?_; refine ql_gyes rfl ?_; refine ql_pure tabOk rfl rfl ?_; refine ql_gyes rfl ?_)
  refine ql_callv (val := .bool true) tabOk rfl rfl rfl rfl (fun w hs => ?_) ?_; exact eqI_ca w _ _ _ _ va1 vb (valL r p) (hva w (fun c hc => hs.un_mem (L := K1) (by repeat first | exact .head _ | refine .tail _ ?_) hc)) (hvb w (fun c hc => hs.un_mem (L := K2) (by repeat first | exact .head _ | refine .tail _ ?_) hc)) (valL_len r p)
  (refine ql_gyes rfl ?_; (iterate 2 refine ql_pure tabOk rfl rfl ?_); refine q_nil ?_; refine q_cond_false rfl ?_; refine q_skip ?_; refine q_seq ?_; refine q_region ?_; (iterate 2 refine ql_loadAB tabOk rfl rfl rfl (by repeat first | exact .head _ | refine .tail _ ?_) (by rfl) (by rfl) ?_); refine ql_pure tabOk rfl rfl ?_)
  refine ql_callv (val := .tuple #[.agg #[.int .i64 (proofV r p vl).1.1, .int .i64 (proofV r p vl).1.2], .int .i64 (proofV r p vl).2]) tabOk rfl rfl rfl rfl (fun w hs => ?_) ?_; exact proves_ca w _ _ _ r p _ vl (Cp.at2 x1 r rfl rfl rfl rfl hs (by repeat first | exact .head _ | refine .tail _ ?_)) hsm (hs.rdI (l := vl) (t := 3) (n := vl.length) (by repeat first | exact .head _ | refine .tail _ ?_) rfl) (by omega)
  (refine ql_pure tabOk rfl rfl ?_; (iterate 2 refine ql_ext tabOk rfl rfl rfl ?_))
  refine ql_alloc zero42 rfl (fun b23 => ?_)
  (refine ql_setA tabOk rfl rfl rfl rfl rfl (by repeat constructor) rfl ?_; refine ql_pure tabOk rfl rfl ?_; refine q_nil ?_; refine q_seq ?_; refine q_region ?_; (iterate 2 refine ql_loadAB tabOk rfl rfl rfl (by repeat first | exact .head _ | refine .tail _ ?_) (by rfl) (by rfl) ?_); refine ql_pure tabOk rfl rfl ?_)
  refine ql_callv (val := .tuple #[.agg #[.int .i64 (proofV r p vl).1.1, .int .i64 (proofV r p vl).1.2], .int .i64 (proofV r p vl).2]) tabOk rfl rfl rfl rfl (fun w hs => ?_) ?_; exact rproves_ca w _ _ _ r p _ vl (Cp.at2 x3 r rfl rfl rfl rfl hs (by repeat first | exact .head _ | refine .tail _ ?_)) hsm (RdE.keep hvl hs.chg0) (by omega)
  (refine ql_pure tabOk rfl rfl ?_; (iterate 2 refine ql_ext tabOk rfl rfl rfl ?_))
  refine ql_alloc zero42 rfl (fun b24 => ?_)
  (refine ql_setA tabOk rfl rfl rfl rfl rfl (by repeat constructor) rfl ?_; refine ql_pure tabOk rfl rfl ?_; refine q_nil ?_; (iterate 2 refine q_seq ?_); refine q_region ?_; (iterate 2 refine ql_pure tabOk rfl rfl ?_); refine ql_neqF tabOk rfl rfl rfl (by omega) ?_; refine ql_pure tabOk rfl rfl ?_; refine ql_gyes rfl ?_; refine ql_loadAB tabOk rfl rfl rfl (by repeat first | exact .head _ | refine .tail _ ?_) (by rfl) (by rfl) ?_; refine ql_gyes rfl ?_; refine ql_loadAB tabOk rfl rfl rfl (by repeat first | exact .head _ | refine .tail _ ?_) (by rfl) (by rfl) ?_; refine ql_gyes rfl ?_)
  refine ql_neF [some .i64, some .i64] rat_flat rfl rfl rfl rfl rfl ?_; rw [eqL_refl]
  (refine ql_pure tabOk rfl rfl ?_; refine q_nil ?_; refine q_cond_false rfl ?_; refine q_skip ?_; refine q_seq ?_; refine q_region ?_; (iterate 2 refine ql_loadAB tabOk rfl rfl rfl (by repeat first | exact .head _ | refine .tail _ ?_) (by rfl) (by rfl) ?_); (iterate 4 refine ql_pure tabOk rfl rfl ?_))
  refine ql_callv (val := .tuple #[.agg #[.bool (chooseV r p shot waits state click).1.1, .int .i64 (chooseV r p shot waits state click).1.2], .int .i64 (chooseV r p shot waits state click).2]) tabOk rfl rfl rfl rfl (fun w hs => ?_) ?_; exact chooseF_ca w _ r p shot waits state click (Cp.at2 x1 r rfl rfl rfl rfl hs (by repeat first | exact .head _ | refine .tail _ ?_)) hsm
  (refine ql_pure tabOk rfl rfl ?_; (iterate 2 refine ql_ext tabOk rfl rfl rfl ?_))
  refine ql_alloc zero47 rfl (fun b25 => ?_)
  (refine ql_setA tabOk rfl rfl rfl rfl rfl (by repeat constructor) rfl ?_; refine ql_pure tabOk rfl rfl ?_; refine q_nil ?_; refine q_seq ?_; refine q_region ?_; (iterate 2 refine ql_loadAB tabOk rfl rfl rfl (by repeat first | exact .head _ | refine .tail _ ?_) (by rfl) (by rfl) ?_); (iterate 4 refine ql_pure tabOk rfl rfl ?_))
  refine ql_callv (val := .tuple #[.bool (chooseV r p shot waits state click).1.1, .int .i64 (chooseV r p shot waits state click).1.2, .int .i64 (chooseV r p shot waits state click).2]) tabOk rfl rfl rfl rfl (fun w hs => ?_) ?_; exact rchooseF_ca w _ r p shot waits state click (Cp.at2 x3 r rfl rfl rfl rfl hs (by repeat first | exact .head _ | refine .tail _ ?_)) hsm
  (refine ql_pure tabOk rfl rfl ?_; (iterate 3 refine ql_ext tabOk rfl rfl rfl ?_); (iterate 3 refine ql_pure tabOk rfl rfl ?_); refine q_nil ?_; refine q_seq ?_; refine q_region ?_; (iterate 2 refine ql_pure tabOk rfl rfl ?_); refine ql_eqlT tabOk rfl rfl rfl (by omega) ?_; refine ql_pure tabOk rfl rfl ?_; refine ql_gyes rfl ?_; refine ql_pure tabOk rfl rfl ?_; refine ql_gyes rfl ?_; refine ql_loadB tabOk rfl rfl rfl (by repeat first | exact .head _ | refine .tail _ ?_) (by rfl) ?_; refine ql_gyes rfl ?_; refine ql_pure tabOk rfl rfl ?_; refine ql_gyes rfl ?_)
  refine ql_eqb (by kernel_rfl) rfl rfl rfl ?_
  rw [beq_self_eq_true]
  ((iterate 2 refine ql_pure tabOk rfl rfl ?_); refine ql_gyes rfl ?_; refine ql_pure tabOk rfl rfl ?_; refine ql_gyes rfl ?_; refine ql_loadB tabOk rfl rfl rfl (by repeat first | exact .head _ | refine .tail _ ?_) (by rfl) ?_; refine ql_gyes rfl ?_; refine ql_pure tabOk rfl rfl ?_; refine ql_gyes rfl ?_; refine ql_eqlT tabOk rfl rfl rfl (by omega) ?_; (iterate 2 refine ql_pure tabOk rfl rfl ?_); refine ql_gyes rfl ?_; refine ql_loadAB tabOk rfl rfl rfl (by repeat first | exact .head _ | refine .tail _ ?_) (by rfl) (by rfl) ?_; refine ql_gyes rfl ?_; refine ql_loadAB tabOk rfl rfl rfl (by repeat first | exact .head _ | refine .tail _ ?_) (by rfl) (by rfl) ?_; refine ql_gyes rfl ?_)
  refine ql_callv (val := .bool true) tabOk rfl rfl rfl rfl (fun w hs => ?_) ?_; exact same_ca w _ _ r (Cp.at2 x1 r rfl rfl rfl rfl hs (by repeat first | exact .head _ | refine .tail _ ?_)) (h0.keep hs.chg0) hsm
  ((iterate 2 refine ql_pure tabOk rfl rfl ?_); refine ql_gyes rfl ?_; refine ql_pure tabOk rfl rfl ?_; refine ql_gyes rfl ?_; refine ql_pure tabOk rfl rfl ?_; refine ql_gyes rfl ?_)
  refine ql_callv (val := .bool true) tabOk rfl rfl rfl rfl (fun w hs => ?_) ?_; exact eqI_ca w _ _ _ _ _ _ vl (hs.rdI (l := vl) (t := 3) (n := vl.length) (by repeat first | exact .head _ | refine .tail _ ?_) rfl) (RdE.keep hvl hs.chg0) (by omega)
  ((iterate 2 refine ql_pure tabOk rfl rfl ?_); refine ql_gyes rfl ?_)
  refine ql_callv (val := .bool true) tabOk rfl rfl rfl rfl (fun w hs => ?_) ?_; exact awake_ca w
  ((iterate 2 refine ql_pure tabOk rfl rfl ?_); refine q_nil ?_; refine q_ret ?_)
  refine q_fin tabOk rfl (by repeat (first | exact RVs.nil | apply RVs.tmp rfl | apply RVs.cellA rfl rfl (by repeat first | exact .head _ | refine .tail _ ?_) (by rfl) | apply RVs.cell1 rfl rfl (by repeat first | exact .head _ | refine .tail _ ?_))) fun w hs => ?_
  exact ⟨rfl, hs.chg0⟩
end Go.Proofs.Ytohlillcaadidaa
