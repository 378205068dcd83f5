/- My texts K23, K24, K25, K1, K26, K27, L0, E0, E16, E17, E18, E19, C2, E20, E21, E22, E1, E2, E3, E4, E5, L7, E6, E7, E8, E9, E10, E11, W5, E12, E13, E14, T0, T1, E15, E23, K28, K29, B28, K30, K31, W8, Z0, W11, L12, L15, joined: a claim takes at most 60 files. -/
import Derived.Test.YtgeajgmefokifaaGreatJ3
import Derived.ChangeSlices
import Derived.ChangeArms
import Derived.ChangeShapes

/- Walks: lists compared. -/
namespace Go.Proofs.YtgeajgmefokifaaGreat
open Go Go.Eng

def eqIB (a b : List Int) : Bool := decide (a = b) && true
theorem eqIB_iff {a b : List Int} : eqIB a b = true ↔ a = b := by simp [eqIB]
set_option maxHeartbeats 1000000 in
theorem eqIF_ca (w : World) (lo hi lo2 hi2 : Nat) (v u : Value) (l m : List Int) (h1 : RdI w lo hi v l) (h2 : RdI w lo2 hi2 u m) (hlen : l.length ≤ 1000000) (hlen2 : m.length ≤ 1000000) :
    Ca Tryz.prog 25 [v, u] w fun r w' => r = .bool (eqIB l m) ∧ Chg [] w w' := by
  obtain ⟨a, ca, rfl, hsa⟩ := RdI.outI h1
  obtain ⟨b, cb, rfl, hsb⟩ := RdI.outI h2
  refine q_of (Sat.nil w M0) Tryz.func25 rfl (by simp [Tryz.ntmps25]) ?_
  (refine q_seq ?_; refine q_region ?_; refine ql_pure tabOk rfl rfl ?_; refine q_nil ?_; (iterate 2 refine q_seq ?_); refine q_region ?_; (iterate 5 refine ql_pure tabOk rfl rfl ?_); refine q_nil ?_)
  by_cases hll : l.length = m.length
  · rw [decide_eq_true (show (l.length : Int) = m.length by omega)]
    (refine q_cond_false rfl ?_; refine q_skip ?_; (iterate 2 refine q_seq ?_); refine q_region ?_; (iterate 3 refine ql_pure tabOk rfl rfl ?_); refine q_nil ?_; refine q_block ?_)
    refine q_loop (σ := Nat) (fun s => s ≤ l.length ∧ l.take s = m.take s) (fun s => l.length - s) (fun s => [(0, .slice a l.length ca), (1, .slice b m.length cb), (12, .int .i64 l.length), (13, .int .i64 s)]) (fun _ => []) 0 (by simp) ⟨rfl, rfl, rfl, rfl, trivial⟩ (by repeat (first | exact Sp.nil | exact Sp.refl _ | refine Sp.cons (by repeat constructor) ?_)) ?_
    rintro i ⟨hi, ht⟩ K hK
    (refine q_seq ?_; refine q_region ?_; refine ql_pure tabOk rfl rfl ?_; refine q_nil ?_; refine q_seq ?_)
    refine q_if rfl (fun hc => ?_) (fun hc => ?_)
    · have hi2 : i < l.length := by omega
      have hi3 : i < m.length := by omega
      clear hc
      obtain ⟨ba, oa, rfl⟩ := hsa (by omega)
      obtain ⟨bb, ob, rfl⟩ := hsb (by omega)
      (refine q_skip ?_; refine q_seq ?_; refine q_block ?_; refine q_seq ?_; refine q_region ?_; (iterate 2 refine ql_pure tabOk rfl rfl ?_); refine q_nil ?_; refine q_seq ?_)
      refine q_draw _ [] (Sp.refl _) (by kernel_rfl) (by kernel_rfl) ?_
      ((iterate 2 refine qf_pure tabOk rfl rfl rfl ?_))
      (refine qf_index tabOk rfl rfl rfl rfl rfl (by omega) (by omega) ?_; refine qf_load1 tabOk rfl rfl rfl (fun w hs => RdI.at (RdE.keep h1 hs.chg0) i hi2) ?_)
      ((iterate 2 refine qf_pure tabOk rfl rfl rfl ?_))
      (refine qf_index tabOk rfl rfl rfl rfl rfl (by omega) (by omega) ?_; refine qf_load1 tabOk rfl rfl rfl (fun w hs => RdI.at (RdE.keep h2 hs.chg0) i hi3) ?_)
      (refine qf_pure tabOk rfl rfl rfl ?_; refine qf_nil ?_)
      by_cases he : l[i] = m[i]
      · skip
        rw [decide_eq_true he]
        (refine q_cond_false rfl ?_; refine q_skip ?_; refine q_blk ?_; refine q_region ?_; refine ql_ar tabOk rfl rfl rfl rfl (by omega) (by omega) ?_; refine ql_pure tabOk rfl rfl ?_; refine q_nil ?_)
        exact hK (i + 1) _ _ ⟨by omega, by rw [List.take_succ_eq_append_getElem hi2, List.take_succ_eq_append_getElem hi3, ht, he]⟩ (by omega) ⟨rfl, rfl, rfl, rfl, trivial⟩ (by repeat (first | exact Sp.nil | exact Sp.refl _ | refine Sp.cons (by repeat constructor) ?_))
      · have e : eqIB l m = false := Bool.eq_false_iff.2 fun hh => he (by have := eqIB_iff.1 hh; subst this; rfl)
        rw [e, decide_eq_false he]
        (refine q_cond_true rfl ?_; refine q_seq ?_; refine q_region ?_; refine ql_pure tabOk rfl rfl ?_; refine q_nil ?_; refine q_ret ?_)
        refine q_fin tabOk rfl (by repeat (first | exact RVs.nil | apply RVs.tmp rfl | apply RVs.cellA rfl rfl (by repeat first | exact .head _ | refine .tail _ ?_) (by rfl) | apply RVs.cell1 rfl rfl (by repeat first | exact .head _ | refine .tail _ ?_))) fun w hs => ?_
        exact ⟨rfl, hs.chg0⟩
    · obtain rfl : i = l.length := by omega
      have e : eqIB l m = true := eqIB_iff.2 (by rw [List.take_length] at ht; rw [hll, List.take_length] at ht; exact ht)
      rw [e]
      (refine q_exit _ rfl ?_; refine q_seq ?_; refine q_region ?_; refine ql_pure tabOk rfl rfl ?_; refine q_nil ?_; refine q_ret ?_)
      refine q_fin tabOk rfl (by repeat (first | exact RVs.nil | apply RVs.tmp rfl | apply RVs.cellA rfl rfl (by repeat first | exact .head _ | refine .tail _ ?_) (by rfl) | apply RVs.cell1 rfl rfl (by repeat first | exact .head _ | refine .tail _ ?_))) fun w hs => ?_
      exact ⟨rfl, hs.chg0⟩
  · have e : eqIB l m = false := Bool.eq_false_iff.2 fun hh => hll (by rw [eqIB_iff.1 hh])
    rw [e, decide_eq_false (show ¬ (l.length : Int) = m.length by omega)]
    (refine q_cond_true rfl ?_; refine q_seq ?_; refine q_region ?_; refine ql_pure tabOk rfl rfl ?_; refine q_nil ?_; refine q_ret ?_)
    refine q_fin tabOk rfl (by repeat (first | exact RVs.nil | apply RVs.tmp rfl | apply RVs.cellA rfl rfl (by repeat first | exact .head _ | refine .tail _ ?_) (by rfl) | apply RVs.cell1 rfl rfl (by repeat first | exact .head _ | refine .tail _ ?_))) fun w hs => ?_
    exact ⟨rfl, hs.chg0⟩
theorem eqI_ca (w : World) (lo hi lo2 hi2 : Nat) (v u : Value) (l : List Int) (h1 : RdI w lo hi v l) (h2 : RdI w lo2 hi2 u l) (hlen : l.length ≤ 1000000) :
    Ca Tryz.prog 25 [v, u] w fun r w' => r = .bool true ∧ Chg [] w w' := by
  have h := eqIF_ca w lo hi lo2 hi2 v u l l h1 h2 hlen hlen
  rwa [eqIB_iff.2 rfl] at h

set_option maxHeartbeats 1000000 in
theorem eqII_ca (w : World) (lo hi lo2 hi2 : Nat) (v u : Value) (ll : List (List Int)) (h1 : RdII w lo hi v ll) (h2 : RdII w lo2 hi2 u ll) (hlen : ll.length ≤ 1000000) (hrow : ∀ l ∈ ll, l.length ≤ 1000000) :
    Ca Tryz.prog 44 [v, u] w fun r w' => r = .bool true ∧ Chg [] w w' := by
  obtain ⟨a, ca, rfl, hsa⟩ := RdII.outI h1
  obtain ⟨b, cb, rfl, hsb⟩ := RdII.outI h2
  refine q_of (Sat.nil w M0) Tryz.func44 rfl (by simp [Tryz.ntmps44]) ?_
  (refine q_seq ?_; refine q_region ?_; refine ql_pure tabOk rfl rfl ?_; refine q_nil ?_; (iterate 2 refine q_seq ?_); refine q_region ?_; (iterate 4 refine ql_pure tabOk rfl rfl ?_); refine ql_neqF tabOk rfl rfl rfl (by omega) ?_; refine q_nil ?_; refine q_cond_false rfl ?_; refine q_skip ?_; (iterate 2 refine q_seq ?_); refine q_region ?_; (iterate 3 refine ql_pure tabOk rfl rfl ?_); refine q_nil ?_; refine q_block ?_)
  refine q_loop (σ := Nat) (fun s => s ≤ ll.length) (fun s => ll.length - s) (fun s => [(0, .slice a ll.length ca), (1, .slice b ll.length cb), (12, .int .i64 ll.length), (13, .int .i64 s)]) (fun _ => []) 0 (by omega) ⟨rfl, rfl, rfl, rfl, trivial⟩ (by repeat (first | exact Sp.nil | exact Sp.refl _ | refine Sp.cons (by repeat constructor) ?_)) ?_
  intro i hi K hK
  (refine q_seq ?_; refine q_region ?_; refine ql_pure tabOk rfl rfl ?_; refine q_nil ?_; refine q_seq ?_)
  refine q_if rfl (fun hc => ?_) (fun hc => ?_)
  · have hi2 : i < ll.length := by omega
    clear hc
    obtain ⟨ba, oa, rfl⟩ := hsa (by omega)
    obtain ⟨bb, ob, rfl⟩ := hsb (by omega)
    obtain ⟨ar, cr, hr1, hc1⟩ := h1.row i hi2
    obtain ⟨br, dr, hr2, hc2⟩ := h2.row i hi2
    have hrl := hrow _ (List.getElem_mem hi2)
    (refine q_skip ?_; refine q_seq ?_; refine q_block ?_; refine q_seq ?_; refine q_region ?_; (iterate 2 refine ql_pure tabOk rfl rfl ?_); refine q_nil ?_; refine q_seq ?_)
    refine q_draw _ [] (Sp.refl _) (by kernel_rfl) (by kernel_rfl) ?_
    ((iterate 2 refine qf_pure tabOk rfl rfl rfl ?_))
    refine qf_index tabOk rfl rfl rfl rfl rfl (by omega) (by omega) ?_
    refine qf_load1 (v := .slice ar ll[i].length cr) tabOk rfl rfl rfl (fun w' hs => hc1 w' hs.chg0) ?_
    ((iterate 2 refine qf_pure tabOk rfl rfl rfl ?_))
    refine qf_index tabOk rfl rfl rfl rfl rfl (by omega) (by omega) ?_
    refine qf_load1 (v := .slice br ll[i].length dr) tabOk rfl rfl rfl (fun w' hs => hc2 w' hs.chg0) ?_
    skip
    refine qf_callv (val := .bool true) tabOk rfl rfl rfl rfl (fun w hs => ?_) ?_; exact eqI_ca w _ _ _ _ _ _ ll[i] (RdE.keep hr1 hs.chg0) (RdE.keep hr2 hs.chg0) hrl
    (refine qf_pure tabOk rfl rfl rfl ?_; refine qf_nil ?_; refine q_cond_false rfl ?_; refine q_skip ?_; refine q_blk ?_; refine q_region ?_; refine ql_ar tabOk rfl rfl rfl rfl (by omega) (by omega) ?_; refine ql_pure tabOk rfl rfl ?_; refine q_nil ?_)
    exact hK (i + 1) _ _ (by omega) (by omega) ⟨rfl, rfl, rfl, rfl, trivial⟩ (by repeat (first | exact Sp.nil | exact Sp.refl _ | refine Sp.cons (by repeat constructor) ?_))
  · (refine q_exit _ rfl ?_; refine q_seq ?_; refine q_region ?_; refine ql_pure tabOk rfl rfl ?_; refine q_nil ?_; refine q_ret ?_)
    refine q_fin tabOk rfl (by repeat (first | exact RVs.nil | apply RVs.tmp rfl | apply RVs.cellA rfl rfl (by repeat first | exact .head _ | refine .tail _ ?_) (by rfl) | apply RVs.cell1 rfl rfl (by repeat first | exact .head _ | refine .tail _ ?_))) fun w hs => ?_
    exact ⟨rfl, hs.chg0⟩

set_option maxHeartbeats 1000000 in
theorem eqR_ca (w : World) (lo hi lo2 hi2 : Nat) (v u : Value) (l : List Int) (h1 : RdI w lo hi v l) (h2 : RdI w lo2 hi2 u l) (hlen : l.length ≤ 1000000) :
    Ca Tryz.prog 87 [v, u] w fun r w' => r = .bool true ∧ Chg [] w w' := by
  obtain ⟨a, ca, rfl, hsa⟩ := RdI.outI h1
  obtain ⟨b, cb, rfl, hsb⟩ := RdI.outI h2
  refine q_of (Sat.nil w M0) Tryz.func87 rfl (by simp [Tryz.ntmps87]) ?_
  (refine q_seq ?_; refine q_region ?_; refine ql_pure tabOk rfl rfl ?_; refine q_nil ?_; (iterate 2 refine q_seq ?_); refine q_region ?_; (iterate 4 refine ql_pure tabOk rfl rfl ?_); refine ql_neqF tabOk rfl rfl rfl (by omega) ?_; refine q_nil ?_; refine q_cond_false rfl ?_; refine q_skip ?_; (iterate 2 refine q_seq ?_); refine q_region ?_; (iterate 3 refine ql_pure tabOk rfl rfl ?_); refine q_nil ?_; refine q_block ?_)
  refine q_loop (σ := Nat) (fun s => s ≤ l.length) (fun s => l.length - s) (fun s => [(0, .slice a l.length ca), (1, .slice b l.length cb), (12, .int .i64 l.length), (13, .int .i64 s)]) (fun _ => []) 0 (by omega) ⟨rfl, rfl, rfl, rfl, trivial⟩ (by repeat (first | exact Sp.nil | exact Sp.refl _ | refine Sp.cons (by repeat constructor) ?_)) ?_
  intro i hi K hK
  (refine q_seq ?_; refine q_region ?_; refine ql_pure tabOk rfl rfl ?_; refine q_nil ?_; refine q_seq ?_)
  refine q_if rfl (fun hc => ?_) (fun hc => ?_)
  · have hi2 : i < l.length := by omega
    clear hc
    obtain ⟨ba, oa, rfl⟩ := hsa (by omega)
    obtain ⟨bb, ob, rfl⟩ := hsb (by omega)
    (refine q_skip ?_; refine q_seq ?_; refine q_block ?_; refine q_seq ?_; refine q_region ?_; (iterate 2 refine ql_pure tabOk rfl rfl ?_); refine q_nil ?_; refine q_seq ?_)
    refine q_draw _ [] (Sp.refl _) (by kernel_rfl) (by kernel_rfl) ?_
    ((iterate 2 refine qf_pure tabOk rfl rfl rfl ?_))
    (refine qf_index tabOk rfl rfl rfl rfl rfl (by omega) (by omega) ?_; refine qf_load1 tabOk rfl rfl rfl (fun w hs => RdI.at (RdE.keep h1 hs.chg0) i hi2) ?_)
    ((iterate 2 refine qf_pure tabOk rfl rfl rfl ?_))
    (refine qf_index tabOk rfl rfl rfl rfl rfl (by omega) (by omega) ?_; refine qf_load1 tabOk rfl rfl rfl (fun w hs => RdI.at (RdE.keep h2 hs.chg0) i hi2) ?_)
    (refine qf_neqF tabOk rfl rfl rfl (by omega) ?_; refine qf_nil ?_; refine q_cond_false rfl ?_; refine q_skip ?_; refine q_blk ?_; refine q_region ?_; refine ql_ar tabOk rfl rfl rfl rfl (by omega) (by omega) ?_; refine ql_pure tabOk rfl rfl ?_; refine q_nil ?_)
    skip
    exact hK (i + 1) _ _ (by omega) (by omega) ⟨rfl, rfl, rfl, rfl, trivial⟩ (by repeat (first | exact Sp.nil | exact Sp.refl _ | refine Sp.cons (by repeat constructor) ?_))
  · (refine q_exit _ rfl ?_; refine q_seq ?_; refine q_region ?_; refine ql_pure tabOk rfl rfl ?_; refine q_nil ?_; refine q_ret ?_)
    refine q_fin tabOk rfl (by repeat (first | exact RVs.nil | apply RVs.tmp rfl | apply RVs.cellA rfl rfl (by repeat first | exact .head _ | refine .tail _ ?_) (by rfl) | apply RVs.cell1 rfl rfl (by repeat first | exact .head _ | refine .tail _ ?_))) fun w hs => ?_
    exact ⟨rfl, hs.chg0⟩

theorem spn_flat : flatB Tryz.prog 25 [some .i64, some .i64] = true := by kernel_rfl
set_option maxHeartbeats 1000000 in
theorem eqS_ca (w : World) (lo hi lo2 hi2 : Nat) (v u : Value) (l : List (Int × Int)) (h1 : RdS w lo hi v l) (h2 : RdS w lo2 hi2 u l) (hlen : l.length ≤ 1000000) :
    Ca Tryz.prog 79 [v, u] w fun r w' => r = .bool true ∧ Chg [] w w' := by
  obtain ⟨a, ca, rfl, hsa⟩ := RdS.outI h1
  obtain ⟨b, cb, rfl, hsb⟩ := RdS.outI h2
  refine q_of (Sat.nil w M0) Tryz.func79 rfl (by simp [Tryz.ntmps79]) ?_
  (refine q_seq ?_; refine q_region ?_; refine ql_pure tabOk rfl rfl ?_; refine q_nil ?_; (iterate 2 refine q_seq ?_); refine q_region ?_; (iterate 4 refine ql_pure tabOk rfl rfl ?_); refine ql_neqF tabOk rfl rfl rfl (by omega) ?_; refine q_nil ?_; refine q_cond_false rfl ?_; refine q_skip ?_; (iterate 2 refine q_seq ?_); refine q_region ?_; (iterate 3 refine ql_pure tabOk rfl rfl ?_); refine q_nil ?_; refine q_block ?_)
  refine q_loop (σ := Nat) (fun s => s ≤ l.length) (fun s => l.length - s) (fun s => [(0, .slice a l.length ca), (1, .slice b l.length cb), (12, .int .i64 l.length), (13, .int .i64 s)]) (fun _ => []) 0 (by omega) ⟨rfl, rfl, rfl, rfl, trivial⟩ (by repeat (first | exact Sp.nil | exact Sp.refl _ | refine Sp.cons (by repeat constructor) ?_)) ?_
  intro i hi K hK
  (refine q_seq ?_; refine q_region ?_; refine ql_pure tabOk rfl rfl ?_; refine q_nil ?_; refine q_seq ?_)
  refine q_if rfl (fun hc => ?_) (fun hc => ?_)
  · have hi2 : i < l.length := by omega
    clear hc
    obtain ⟨ba, oa, rfl⟩ := hsa (by omega)
    obtain ⟨bb, ob, rfl⟩ := hsb (by omega)
    (refine q_skip ?_; refine q_seq ?_; refine q_block ?_; refine q_seq ?_; refine q_region ?_; (iterate 2 refine ql_pure tabOk rfl rfl ?_); refine q_nil ?_; refine q_seq ?_)
    refine q_draw _ [] (Sp.refl _) (by kernel_rfl) (by kernel_rfl) ?_
    ((iterate 2 refine qf_pure tabOk rfl rfl rfl ?_))
    refine qf_index tabOk rfl rfl rfl rfl rfl (by omega) (by omega) ?_
    refine qf_loadA tabOk rfl rfl rfl rfl (fun w hs => RdS.at (RdE.keep h1 hs.chg0) i hi2) ?_
    ((iterate 2 refine qf_pure tabOk rfl rfl rfl ?_))
    refine qf_index tabOk rfl rfl rfl rfl rfl (by omega) (by omega) ?_
    refine qf_loadA tabOk rfl rfl rfl rfl (fun w hs => RdS.at (RdE.keep h2 hs.chg0) i hi2) ?_
    skip
    refine qf_neF [some .i64, some .i64] spn_flat rfl rfl rfl rfl rfl ?_
    rw [eqL_refl]
    (refine qf_nil ?_; refine q_cond_false rfl ?_; refine q_skip ?_; refine q_blk ?_; refine q_region ?_; refine ql_ar tabOk rfl rfl rfl rfl (by omega) (by omega) ?_; refine ql_pure tabOk rfl rfl ?_; refine q_nil ?_)
    exact hK (i + 1) _ _ (by omega) (by omega) ⟨rfl, rfl, rfl, rfl, trivial⟩ (by repeat (first | exact Sp.nil | exact Sp.refl _ | refine Sp.cons (by repeat constructor) ?_))
  · (refine q_exit _ rfl ?_; refine q_seq ?_; refine q_region ?_; refine ql_pure tabOk rfl rfl ?_; refine q_nil ?_; refine q_ret ?_)
    refine q_fin tabOk rfl (by repeat (first | exact RVs.nil | apply RVs.tmp rfl | apply RVs.cellA rfl rfl (by repeat first | exact .head _ | refine .tail _ ?_) (by rfl) | apply RVs.cell1 rfl rfl (by repeat first | exact .head _ | refine .tail _ ?_))) fun w hs => ?_
    exact ⟨rfl, hs.chg0⟩

end Go.Proofs.YtgeajgmefokifaaGreat

/- Walks: the examples; awake. -/
namespace Go.Proofs.YtgeajgmefokifaaGreat
open Go Go.Eng

theorem Blk.rdS {w : World} {b : Nat} {l : List (Int × Int)} {cs : List Value} {t : TypeId} {c : Nat} (h : Blk w b cs t) (hc : cs = spC l) : RdS w 0 w.heap.size (.slice (some ⟨b, 0, none⟩) l.length c) l := by
  subst hc
  exact RdS.of ⟨spC_length l, .inr ⟨b, 0, c, rfl, fun _ => ⟨Nat.zero_le _, h.lt, h.lt⟩, fun j _ => by rw [Blk.cell h]; simp⟩⟩
theorem Blk.rdL {w : World} {b : Nat} {l : List Lp} {cs : List Value} {t : TypeId} {c : Nat} (h : Blk w b cs t) (hc : cs = lpC l) : RdL w 0 w.heap.size (.slice (some ⟨b, 0, none⟩) l.length c) l := by
  subst hc
  exact RdL.of ⟨lpC_length l, .inr ⟨b, 0, c, rfl, fun _ => ⟨Nat.zero_le _, h.lt, h.lt⟩, fun j _ => by rw [Blk.cell h]; simp⟩⟩
theorem Blk.rdD {w : World} {b : Nat} {l : List Dy} {cs : List Value} {t : TypeId} {c : Nat} (h : Blk w b cs t) (hc : cs = dyC l) : RdD w 0 w.heap.size (.slice (some ⟨b, 0, none⟩) l.length c) l := by
  subst hc
  exact RdD.of ⟨dyC_length l, .inr ⟨b, 0, c, rfl, fun _ => ⟨Nat.zero_le _, h.lt, h.lt⟩, fun j _ => by rw [Blk.cell h]; simp⟩⟩
theorem RdII.of {w : World} {lo hi : Nat} {v : Value} {ll : List (List Int)} {vs : List Value} (h : Rd w lo hi v 1 vs.length vs) (h1 : vs.length = ll.length) (h2 : ∀ i (h : i < vs.length) (h' : i < ll.length), RdI w lo hi vs[i] ll[i]) (h3 : ∀ e ∈ vs, oneV e = true) : RdII w lo hi v ll :=
  ⟨vs, RdE.one h h3, h1, h2⟩
theorem spanM_ca (a b : Int) (w : World) : Ca Tryz.prog 13 [.int .i64 a, .int .i64 b] w fun v w' => v = .agg #[.int .i64 a, .int .i64 b] ∧ Chg [] w w' := by
  refine q_of (Sat.nil w M0) Tryz.func13 rfl (by simp [Tryz.ntmps13]) ?_
  (refine q_seq ?_; refine q_region ?_)
  refine ql_alloc zero25 rfl (fun b2 => ?_)
  (refine q_nil ?_; refine q_seq ?_; refine q_region ?_; (iterate 2 refine ql_pure tabOk rfl rfl ?_))
  refine ql_mk #[.int .i64 a, .int .i64 b] rfl (by kernel_rfl) rfl ?_
  (refine ql_setA tabOk rfl rfl rfl rfl rfl (by repeat constructor) rfl ?_; refine q_nil ?_; refine q_ret ?_)
  refine q_fin tabOk rfl (by repeat (first | exact RVs.nil | apply RVs.tmp rfl | apply RVs.cellA rfl rfl (by repeat first | exact .head _ | refine .tail _ ?_) (by rfl) | apply RVs.cell1 rfl rfl (by repeat first | exact .head _ | refine .tail _ ?_))) fun w hs => ?_
  exact ⟨rfl, hs.chg0⟩
def threeS : List Lp := [⟨2000, 60, 6⟩, ⟨2500, 90, 6⟩, ⟨3000, 100, 6⟩]
def threeR : Rl := ⟨3, 7000, 7500, 200, 270, 2000, 3000, 6, 2⟩
def threeQ : Rl := ⟨3, 7000, 7000, 200, 270, 2000, 3000, 6, 1⟩
def shortW (n : Int) : Wn := ⟨500, 800, [⟨300, 300, 100, 200, 10, 20⟩, ⟨200, 400, 300, 600, 10, 20⟩, ⟨min n 500, n, 0, 100, 10, 20⟩]⟩
theorem three_ca (w : World) : Ca Tryz.prog 6 [] w fun v w' => ∃ b : Nat, v = .tuple #[.slice (some ⟨b, 0, none⟩) 3 3, .agg (rlC threeR).toArray] ∧ Sat w M0 [.pt b (lpC threeS) 32] w' := by
  refine q_of (Sat.nil w M0) Tryz.func6 rfl (by simp [Tryz.ntmps6]) ?_
  (refine q_seq ?_; refine q_region ?_; refine ql_pure tabOk rfl rfl ?_)
  refine ql_alloc zero27 rfl (fun b1 => ?_)
  (refine q_nil ?_; refine q_seq ?_; refine q_region ?_)
  refine ql_mk #[.int .i64 2000, .int .i64 60, .int .i64 6] rfl (by kernel_rfl) rfl ?_
  refine ql_mk #[.int .i64 2500, .int .i64 90, .int .i64 6] rfl (by kernel_rfl) rfl ?_
  refine ql_mk #[.int .i64 3000, .int .i64 100, .int .i64 6] rfl (by kernel_rfl) rfl ?_
  refine ql_mkS 32 (lpC threeS) rfl (by kernel_rfl) rfl (fun bn => ?_)
  refine ql_callv tabOk rfl rfl rfl rfl (fun w hs => spanM_ca _ _ w) ?_
  refine ql_callv tabOk rfl rfl rfl rfl (fun w hs => spanM_ca _ _ w) ?_
  refine ql_callv tabOk rfl rfl rfl rfl (fun w hs => spanM_ca _ _ w) ?_
  refine ql_mk #[.int .i64 3, .int .i64 7000, .int .i64 7500, .int .i64 200, .int .i64 270, .int .i64 2000, .int .i64 3000, .int .i64 6, .int .i64 2] rfl (by kernel_rfl) rfl ?_
  (refine ql_pure tabOk rfl rfl ?_; refine ql_setA tabOk rfl rfl rfl rfl rfl (by repeat constructor) rfl ?_; refine q_nil ?_; refine q_ret ?_)
  refine q_fin tabOk rfl (by repeat (first | exact RVs.nil | apply RVs.tmp rfl | apply RVs.cellA rfl rfl (by repeat first | exact .head _ | refine .tail _ ?_) (by rfl) | apply RVs.cell1 rfl rfl (by repeat first | exact .head _ | refine .tail _ ?_))) fun w hs => ?_
  exact ⟨bn, rfl, hs.sp (by repeat (first | exact Sp.nil | exact Sp.refl _ | refine Sp.cons (by repeat constructor) ?_))⟩
theorem short_ca (w : World) (n : Int) : Ca Tryz.prog 10 [.int .i64 n] w fun v w' => ∃ b : Nat, v = .agg #[.int .i64 500, .int .i64 800, .slice (some ⟨b, 0, none⟩) 3 3] ∧ Sat w M0 [.pt b (dyC (shortW n).days) 46] w' := by
  refine q_of (Sat.nil w M0) Tryz.func10 rfl (by simp [Tryz.ntmps10]) ?_
  (refine q_seq ?_; refine q_region ?_)
  refine ql_alloc zero39 rfl (fun b2 => ?_)
  (refine q_nil ?_; refine q_seq ?_; refine q_region ?_)
  refine ql_callv tabOk rfl rfl rfl rfl (fun w hs => spanM_ca _ _ w) ?_
  refine ql_callv tabOk rfl rfl rfl rfl (fun w hs => spanM_ca _ _ w) ?_
  refine ql_callv tabOk rfl rfl rfl rfl (fun w hs => spanM_ca _ _ w) ?_
  refine ql_mk #[.int .i64 300, .int .i64 300, .int .i64 100, .int .i64 200, .int .i64 10, .int .i64 20] rfl (by kernel_rfl) rfl ?_
  refine ql_callv tabOk rfl rfl rfl rfl (fun w hs => spanM_ca _ _ w) ?_
  refine ql_callv tabOk rfl rfl rfl rfl (fun w hs => spanM_ca _ _ w) ?_
  refine ql_callv tabOk rfl rfl rfl rfl (fun w hs => spanM_ca _ _ w) ?_
  refine ql_mk #[.int .i64 200, .int .i64 400, .int .i64 300, .int .i64 600, .int .i64 10, .int .i64 20] rfl (by kernel_rfl) rfl ?_
  ((iterate 3 refine ql_pure tabOk rfl rfl ?_))
  refine ql_callv tabOk rfl rfl rfl rfl (fun w hs => spanM_ca _ _ w) ?_
  refine ql_callv tabOk rfl rfl rfl rfl (fun w hs => spanM_ca _ _ w) ?_
  refine ql_callv tabOk rfl rfl rfl rfl (fun w hs => spanM_ca _ _ w) ?_
  refine ql_mk #[.int .i64 (min n 500), .int .i64 n, .int .i64 0, .int .i64 100, .int .i64 10, .int .i64 20] rfl (by kernel_rfl) rfl ?_
  refine ql_mkS 46 (dyC (shortW n).days) rfl (by kernel_rfl) rfl (fun bn => ?_)
  refine ql_mk #[.int .i64 500, .int .i64 800, .slice (some ⟨bn, 0, none⟩) 3 3] rfl (by kernel_rfl) rfl ?_
  (refine ql_setA tabOk rfl rfl rfl rfl rfl (by repeat constructor) rfl ?_; refine q_nil ?_; refine q_ret ?_)
  refine q_fin tabOk rfl (by repeat (first | exact RVs.nil | apply RVs.tmp rfl | apply RVs.cellA rfl rfl (by repeat first | exact .head _ | refine .tail _ ?_) (by rfl) | apply RVs.cell1 rfl rfl (by repeat first | exact .head _ | refine .tail _ ?_))) fun w hs => ?_
  exact ⟨bn, rfl, hs.sp (by repeat (first | exact Sp.nil | exact Sp.refl _ | refine Sp.cons (by repeat constructor) ?_))⟩
theorem aw_all : allC threeS threeR = [[0, 0, 2], [0, 1, 1], [0, 1, 2]] := by decide +kernel
theorem aw_cr : CR threeS threeR := checkS_iff.1 (by decide +kernel)
theorem aw_cr2 : CR threeS threeQ := checkS_iff.1 (by decide +kernel)
theorem aw_brk : (brokenV threeS threeR [1, 1, 1]).2 = 0 := by decide +kernel
theorem aw_brk2 : brkL threeS threeR [1, 1, 1] = [4] := by decide +kernel
theorem aw_cheap : cheapO threeS threeR 40 (coursesL threeS.length (nL threeR)) = some [0, 1, 1] := by decide +kernel
theorem aw_snow : snowV threeS [0, 1, 1] 40 = 10800 := by decide +kernel
theorem aw_yield : yieldO threeS threeQ (coursesL threeS.length (nL threeQ)) = some [0, 1, 2] := by decide +kernel
theorem aw_yield2 : brkL threeS threeQ [0, 1, 2] = [0] := by decide +kernel
theorem aw_first : firstV (shortW 500) = (2, 0) := by decide +kernel
theorem aw_proves : provesV (shortW 500) (-1) 2 = (360, 0) := by decide +kernel
theorem aw_ranges : rangesV (shortW 500) = [(280, 390), (160, 600)] := by decide +kernel
theorem aw_right : (shortW 500).Right := checkW_iff.1 (by decide +kernel)
theorem aw_least : leastV (shortW 100) = (460, 0) := by decide +kernel
theorem aw_room : roomV (shortW 100) = (540, 0) := by decide +kernel
end Go.Proofs.YtgeajgmefokifaaGreat

/- Walks: awake. -/
namespace Go.Proofs.YtgeajgmefokifaaGreat
open Go Go.Eng

theorem blk_II {w : World} {c1 c2 c3 c4 : Nat} {t1 t2 t3 t4 : TypeId} {l1 l2 l3 : List Int} (h1 : Blk w c1 (ints l1) t1) (h2 : Blk w c2 (ints l2) t2) (h3 : Blk w c3 (ints l3) t3)
    (h4 : Blk w c4 [.slice (some ⟨c1, 0, none⟩) l1.length l1.length, .slice (some ⟨c2, 0, none⟩) l2.length l2.length, .slice (some ⟨c3, 0, none⟩) l3.length l3.length] t4) : RdII w 0 w.heap.size (.slice (some ⟨c4, 0, none⟩) 3 3) [l1, l2, l3] := by
  refine RdII.of (vs := [.slice (some ⟨c1, 0, none⟩) l1.length l1.length, .slice (some ⟨c2, 0, none⟩) l2.length l2.length, .slice (some ⟨c3, 0, none⟩) l3.length l3.length]) ((Blk.rd h4 (by simp [oneV]) 3).wide (Nat.zero_le _) h4.lt) rfl (fun i hi hi' => ?_) (by simp [oneV])
  obtain rfl | rfl | rfl : i = 0 ∨ i = 1 ∨ i = 2 := by simp at hi; omega
  · exact Blk.rdI h1
  · exact Blk.rdI h2
  · exact Blk.rdI h3

theorem lsK_rd {w0 w : World} {M : Nat → Prop} {H : List Ck} {v : Value} {xs : List (Value × List Int)} (h : Sat w0 M H w) (h1 : Ck.ow v 22 1 xs.length (xs.map (·.1)) ∈ H) (h2 : un (rowsO 3 xs) ∈ H) : RdII w 0 w.heap.size v (xs.map (·.2)) :=
  rowsO_rd (h.mem h2) (h.mem h1)
set_option maxHeartbeats 4000000 in
set_option maxRecDepth 4000 in
theorem awake_ca (w : World) : Ca Tryz.prog 17 [] w fun v w' => v = .bool true ∧ Chg [] w w' := by
  refine q_of (Sat.nil w M0) Tryz.func17 rfl (by simp [Tryz.ntmps17]) ?_
  (refine q_seq ?_; refine q_region ?_; refine ql_pure tabOk rfl rfl ?_; refine q_nil ?_; refine q_seq ?_; refine q_region ?_)
  refine ql_call (β := Nat) tabOk [] _ M0 rfl rfl rfl rfl (Sp.refl _) (fun _ h => h.elim) (fun w' hs => three_ca w') ?_
  rintro bs _ rfl
  (refine ql_pure tabOk rfl rfl ?_; (iterate 2 refine ql_ext tabOk rfl rfl rfl ?_))
  refine ql_alloc zero27 rfl (fun b2 => ?_)
  (refine ql_pure tabOk rfl rfl ?_; refine ql_setA tabOk rfl rfl rfl rfl rfl (by repeat constructor) rfl ?_; refine q_nil ?_; refine q_seq ?_; refine q_region ?_; refine ql_pure tabOk rfl rfl ?_; refine ql_loadAB tabOk rfl rfl rfl (by repeat first | exact .head _ | refine .tail _ ?_) (by rfl) (by rfl) ?_)
  have hS : ∀ w', Blk w' bs (lpC threeS) 32 → RdL w' 0 w'.heap.size (.slice (some ⟨bs, 0, none⟩) threeS.length 3) threeS := fun w' hb => Blk.rdL hb rfl
  refine ql_call (β := Value × List (Value × List Int)) (ψ := fun y x => x = .tuple #[y.1, .int .i64 0] ∧ y.2.map (·.2) = allC threeS threeR) tabOk [] _ M0 rfl rfl rfl rfl (Sp.refl _) (fun _ h => h.elim) (fun w' hs => all_ok w' 0 w'.heap.size (some ⟨bs, 0, none⟩) 3 threeS threeR (hS w' (hs.blk (by repeat first | exact .head _ | refine .tail _ ?_))) aw_cr (by rw [aw_all]; decide)) ?_
  rintro ⟨va, xs⟩ _ ⟨rfl, hxs⟩
  rw [aw_all] at hxs
  dsimp only at hxs
  dsimp only [lsK, List.cons_append, List.nil_append]
  refine ql_fact (fun w hs => hs.slice (v := va) (by repeat first | exact .head _ | refine .tail _ ?_)) ?_
  rintro ⟨va1, va2, va3, rfl⟩
  (refine ql_pure tabOk rfl rfl ?_; (iterate 2 refine ql_ext tabOk rfl rfl rfl ?_); (iterate 2 refine ql_pure tabOk rfl rfl ?_); refine q_nil ?_; refine q_seq ?_; refine q_region ?_; refine ql_pure tabOk rfl rfl ?_; refine ql_loadAB tabOk rfl rfl rfl (by repeat first | exact .head _ | refine .tail _ ?_) (by rfl) (by rfl) ?_)
  refine ql_mkS 3 (ints [1, 1, 1]) rfl (by kernel_rfl) rfl (fun b3 => ?_)
  refine ql_call (β := Value) tabOk [] _ M0 rfl rfl rfl rfl (Sp.refl _) (fun _ h => h.elim) (fun w' hs => brok_ok w' 0 w'.heap.size 0 w'.heap.size (some ⟨bs, 0, none⟩) 3 _ threeS threeR [1, 1, 1] (hS w' (hs.blk (by repeat first | exact .head _ | refine .tail _ ?_))) (by decide) (Blk.rdI (l := [1, 1, 1]) (c := 3) (hs.blk (b := b3) (by repeat first | exact .head _ | refine .tail _ ?_))) (by decide) aw_brk) ?_
  rintro vb _ rfl
  rw [aw_brk2]
  dsimp only [List.cons_append, List.nil_append]
  refine ql_fact (fun w hs => hs.slice (v := vb) (by repeat first | exact .head _ | refine .tail _ ?_)) ?_
  rintro ⟨vb1, vb2, vb3, rfl⟩
  (refine ql_pure tabOk rfl rfl ?_; (iterate 2 refine ql_ext tabOk rfl rfl rfl ?_); (iterate 2 refine ql_pure tabOk rfl rfl ?_); refine q_nil ?_; refine q_seq ?_; refine q_region ?_; refine ql_pure tabOk rfl rfl ?_; refine ql_loadAB tabOk rfl rfl rfl (by repeat first | exact .head _ | refine .tail _ ?_) (by rfl) (by rfl) ?_)
  refine ql_call (β := Value) tabOk [] _ M0 rfl rfl rfl rfl (Sp.refl _) (fun _ h => h.elim) (fun w' hs => cheap_ok w' 0 w'.heap.size (some ⟨bs, 0, none⟩) 3 threeS threeR 40 [0, 1, 1] (hS w' (hs.blk (by repeat first | exact .head _ | refine .tail _ ?_))) aw_cr (by decide) aw_cheap) ?_
  rintro vc _ rfl
  rw [aw_snow]
  dsimp only [List.cons_append, List.nil_append]
  refine ql_fact (fun w hs => hs.slice (v := vc) (by repeat first | exact .head _ | refine .tail _ ?_)) ?_
  rintro ⟨vc1, vc2, vc3, rfl⟩
  (refine ql_pure tabOk rfl rfl ?_; (iterate 3 refine ql_ext tabOk rfl rfl rfl ?_); (iterate 3 refine ql_pure tabOk rfl rfl ?_); refine q_nil ?_; (iterate 2 refine q_seq ?_); refine q_region ?_; refine ql_pure tabOk rfl rfl ?_; refine ql_neqF tabOk rfl rfl rfl (by omega) ?_; refine ql_pure tabOk rfl rfl ?_; refine ql_gyes rfl ?_; refine ql_pure tabOk rfl rfl ?_; refine ql_gyes rfl ?_; refine ql_neqF tabOk rfl rfl rfl (by omega) ?_; (iterate 2 refine ql_pure tabOk rfl rfl ?_); refine ql_gyes rfl ?_; refine ql_pure tabOk rfl rfl ?_; refine ql_gyes rfl ?_; refine ql_neqF tabOk rfl rfl rfl (by omega) ?_; (iterate 2 refine ql_pure tabOk rfl rfl ?_); refine ql_gyes rfl ?_; refine ql_pure tabOk rfl rfl ?_; refine ql_gyes rfl ?_)
  refine ql_mkS 3 (ints [0, 0, 2]) rfl (by kernel_rfl) rfl (fun c1 => ?_)
  refine ql_gyes rfl ?_
  refine ql_mkS 3 (ints [0, 1, 1]) rfl (by kernel_rfl) rfl (fun c2 => ?_)
  refine ql_gyes rfl ?_
  refine ql_mkS 3 (ints [0, 1, 2]) rfl (by kernel_rfl) rfl (fun c3 => ?_)
  refine ql_gyes rfl ?_
  refine ql_mkS 22 [.slice (some ⟨c1, 0, none⟩) 3 3, .slice (some ⟨c2, 0, none⟩) 3 3, .slice (some ⟨c3, 0, none⟩) 3 3] rfl (by kernel_rfl) rfl (fun c4 => ?_)
  (refine ql_gyes rfl ?_)
  refine ql_callv (val := .bool true) tabOk rfl rfl rfl rfl (fun w hs => ?_) ?_; exact eqII_ca w 0 w.heap.size 0 w.heap.size _ _ [[0, 0, 2], [0, 1, 1], [0, 1, 2]] (hxs ▸ lsK_rd (v := .slice va1 va2 va3) (xs := xs) hs (by repeat first | exact .head _ | refine .tail _ ?_) (by repeat first | exact .head _ | refine .tail _ ?_)) (blk_II (l1 := [0, 0, 2]) (l2 := [0, 1, 1]) (l3 := [0, 1, 2]) (hs.blk (b := c1) (by repeat first | exact .head _ | refine .tail _ ?_)) (hs.blk (b := c2) (by repeat first | exact .head _ | refine .tail _ ?_)) (hs.blk (b := c3) (by repeat first | exact .head _ | refine .tail _ ?_)) (hs.blk (b := c4) (by repeat first | exact .head _ | refine .tail _ ?_))) (by decide) (by decide)
  (refine ql_gyes rfl ?_; (iterate 3 refine ql_pure tabOk rfl rfl ?_); refine ql_gyes rfl ?_; refine ql_pure tabOk rfl rfl ?_; refine ql_gyes rfl ?_)
  refine ql_mkS 154 (ints [4]) rfl (by kernel_rfl) rfl (fun c5 => ?_)
  refine ql_gyes rfl ?_
  refine ql_callv (val := .bool true) tabOk rfl rfl rfl rfl (fun w hs => ?_) ?_; exact eqR_ca w 0 w.heap.size 0 w.heap.size _ _ [4] (hs.rdI (v := .slice vb1 vb2 vb3) (l := [4]) (by repeat first | exact .head _ | refine .tail _ ?_) rfl) (Blk.rdI (l := [4]) (c := 1) (hs.blk (b := c5) (by repeat first | exact .head _ | refine .tail _ ?_))) (by decide)
  (refine ql_gyes rfl ?_; (iterate 3 refine ql_pure tabOk rfl rfl ?_); refine ql_gyes rfl ?_; refine ql_pure tabOk rfl rfl ?_; refine ql_gyes rfl ?_)
  refine ql_mkS 3 (ints [0, 1, 1]) rfl (by kernel_rfl) rfl (fun c6 => ?_)
  refine ql_gyes rfl ?_
  refine ql_callv (val := .bool true) tabOk rfl rfl rfl rfl (fun w hs => ?_) ?_; exact eqI_ca w 0 w.heap.size 0 w.heap.size _ _ [0, 1, 1] (hs.rdI (v := .slice vc1 vc2 vc3) (l := [0, 1, 1]) (by repeat first | exact .head _ | refine .tail _ ?_) rfl) (Blk.rdI (l := [0, 1, 1]) (c := 3) (hs.blk (b := c6) (by repeat first | exact .head _ | refine .tail _ ?_))) (by decide)
  (refine ql_gyes rfl ?_; (iterate 3 refine ql_pure tabOk rfl rfl ?_); refine ql_gyes rfl ?_; refine ql_pure tabOk rfl rfl ?_; refine ql_gyes rfl ?_; refine ql_neqF tabOk rfl rfl rfl (by omega) ?_; refine ql_pure tabOk rfl rfl ?_; refine q_nil ?_; refine q_cond_false rfl ?_; refine q_skip ?_; refine q_seq ?_; refine q_region ?_)
  refine ql_callv tabOk rfl rfl rfl rfl (fun w hs => spanM_ca _ _ w) ?_
  (refine ql_pure tabOk rfl rfl ?_; refine ql_st8 tabOk rfl rfl rfl rfl (by repeat constructor) ?_; refine ql_pure tabOk rfl rfl ?_)
  refine ql_stA (rlC threeQ) tabOk rfl rfl rfl rfl rfl (by repeat constructor) rfl rfl ?_
  (refine q_nil ?_; refine q_seq ?_; refine q_region ?_; refine ql_pure tabOk rfl rfl ?_; refine ql_loadAB tabOk rfl rfl rfl (by repeat first | exact .head _ | refine .tail _ ?_) (by rfl) (by rfl) ?_)
  refine ql_call (β := Value × Value) tabOk [] _ M0 rfl rfl rfl rfl (Sp.refl _) (fun _ h => h.elim) (fun w' hs => yield_ok w' 0 w'.heap.size (some ⟨bs, 0, none⟩) 3 threeS threeQ [0, 1, 2] (hS w' (hs.blk (by repeat first | exact .head _ | refine .tail _ ?_))) aw_cr2 aw_yield) ?_
  rintro ⟨vy, vz⟩ _ rfl
  rw [aw_yield2]
  dsimp only [List.cons_append, List.nil_append]
  refine ql_fact (fun w hs => hs.slice (v := vy) (by repeat first | exact .head _ | refine .tail _ ?_)) ?_
  rintro ⟨vy1, vy2, vy3, rfl⟩
  refine ql_fact (fun w hs => hs.slice (v := vz) (by repeat first | exact .head _ | refine .tail _ ?_)) ?_
  rintro ⟨vz1, vz2, vz3, rfl⟩
  (refine ql_pure tabOk rfl rfl ?_; (iterate 3 refine ql_ext tabOk rfl rfl rfl ?_); (iterate 3 refine ql_pure tabOk rfl rfl ?_); refine q_nil ?_; refine q_seq ?_; refine q_region ?_)
  have hD : ∀ n w' b, Blk w' b (dyC (shortW n).days) 46 → RdD w' 0 w'.heap.size (.slice (some ⟨b, 0, none⟩) (shortW n).days.length 3) (shortW n).days := fun n w' b hb => Blk.rdD hb rfl
  refine ql_call (β := Nat) tabOk [] _ M0 rfl rfl rfl rfl (Sp.refl _) (fun _ h => h.elim) (fun w' hs => short_ca w' 500) ?_
  rintro d1 _ rfl
  refine ql_callv (val := .tuple #[.int .i64 2, .int .i64 0]) tabOk rfl rfl rfl rfl (fun w hs => ?_) ?_; exact by have := first_ca w 0 w.heap.size (shortW 500) (some ⟨d1, 0, none⟩) 3 (hD 500 w d1 (hs.blk (by repeat first | exact .head _ | refine .tail _ ?_))) (by decide); rw [aw_first] at this; exact this
  (refine ql_pure tabOk rfl rfl ?_; (iterate 2 refine ql_ext tabOk rfl rfl rfl ?_); (iterate 2 refine ql_pure tabOk rfl rfl ?_); refine q_nil ?_; refine q_seq ?_; refine q_region ?_)
  refine ql_call (β := Nat) tabOk [] _ M0 rfl rfl rfl rfl (Sp.refl _) (fun _ h => h.elim) (fun w' hs => short_ca w' 500) ?_
  rintro d2 _ rfl
  refine ql_mk #[.int .i64 (-1), .int .i64 2] rfl (by kernel_rfl) rfl ?_
  refine ql_callv (val := .tuple #[.int .i64 360, .int .i64 0]) tabOk rfl rfl rfl rfl (fun w hs => ?_) ?_; exact by have := proves_ca w 0 w.heap.size (shortW 500) (some ⟨d2, 0, none⟩) 3 (-1) 2 (hD 500 w d2 (hs.blk (by repeat first | exact .head _ | refine .tail _ ?_))) (by decide); rw [aw_proves] at this; exact this
  (refine ql_pure tabOk rfl rfl ?_; (iterate 2 refine ql_ext tabOk rfl rfl rfl ?_); (iterate 2 refine ql_pure tabOk rfl rfl ?_); refine q_nil ?_; refine q_seq ?_; refine q_region ?_)
  refine ql_call (β := Nat) tabOk [] _ M0 rfl rfl rfl rfl (Sp.refl _) (fun _ h => h.elim) (fun w' hs => short_ca w' 500) ?_
  rintro d3 _ rfl
  refine ql_call (β := Value) tabOk [] _ M0 rfl rfl rfl rfl (Sp.refl _) (fun _ h => h.elim) (fun w' hs => ranges_ok w' 0 w'.heap.size (shortW 500) (some ⟨d3, 0, none⟩) 3 (hD 500 w' d3 (hs.blk (by repeat first | exact .head _ | refine .tail _ ?_))) aw_right) ?_
  rintro vx _ rfl
  rw [aw_ranges]
  dsimp only [List.cons_append, List.nil_append]
  refine ql_fact (fun w hs => hs.slice (v := vx) (by repeat first | exact .head _ | refine .tail _ ?_)) ?_
  rintro ⟨vx1, vx2, vx3, rfl⟩
  (refine ql_pure tabOk rfl rfl ?_; (iterate 2 refine ql_ext tabOk rfl rfl rfl ?_); (iterate 2 refine ql_pure tabOk rfl rfl ?_); refine q_nil ?_; (iterate 2 refine q_seq ?_); refine q_region ?_; refine ql_pure tabOk rfl rfl ?_; refine ql_neqF tabOk rfl rfl rfl (by omega) ?_; refine ql_pure tabOk rfl rfl ?_; refine ql_gyes rfl ?_; refine ql_pure tabOk rfl rfl ?_; refine ql_gyes rfl ?_; refine ql_neqF tabOk rfl rfl rfl (by omega) ?_; (iterate 2 refine ql_pure tabOk rfl rfl ?_); refine ql_gyes rfl ?_; refine ql_pure tabOk rfl rfl ?_; refine ql_gyes rfl ?_; refine ql_neqF tabOk rfl rfl rfl (by omega) ?_; (iterate 2 refine ql_pure tabOk rfl rfl ?_); refine ql_gyes rfl ?_; refine ql_pure tabOk rfl rfl ?_; refine ql_gyes rfl ?_; refine ql_neqF tabOk rfl rfl rfl (by omega) ?_; (iterate 2 refine ql_pure tabOk rfl rfl ?_); refine ql_gyes rfl ?_; refine ql_pure tabOk rfl rfl ?_; refine ql_gyes rfl ?_)
  refine ql_mkS 154 (ints [0]) rfl (by kernel_rfl) rfl (fun c7 => ?_)
  refine ql_gyes rfl ?_
  refine ql_callv (val := .bool true) tabOk rfl rfl rfl rfl (fun w hs => ?_) ?_; exact eqR_ca w 0 w.heap.size 0 w.heap.size _ _ [0] (hs.rdI (v := .slice vy1 vy2 vy3) (l := [0]) (by repeat first | exact .head _ | refine .tail _ ?_) rfl) (Blk.rdI (l := [0]) (c := 1) (hs.blk (b := c7) (by repeat first | exact .head _ | refine .tail _ ?_))) (by decide)
  (refine ql_gyes rfl ?_; (iterate 3 refine ql_pure tabOk rfl rfl ?_); refine ql_gyes rfl ?_; refine ql_pure tabOk rfl rfl ?_; refine ql_gyes rfl ?_)
  refine ql_mkS 3 (ints [0, 1, 2]) rfl (by kernel_rfl) rfl (fun c8 => ?_)
  refine ql_gyes rfl ?_
  refine ql_callv (val := .bool true) tabOk rfl rfl rfl rfl (fun w hs => ?_) ?_; exact eqI_ca w 0 w.heap.size 0 w.heap.size _ _ [0, 1, 2] (hs.rdI (v := .slice vz1 vz2 vz3) (l := [0, 1, 2]) (by repeat first | exact .head _ | refine .tail _ ?_) rfl) (Blk.rdI (l := [0, 1, 2]) (c := 3) (hs.blk (b := c8) (by repeat first | exact .head _ | refine .tail _ ?_))) (by decide)
  (refine ql_gyes rfl ?_; (iterate 3 refine ql_pure tabOk rfl rfl ?_); refine ql_gyes rfl ?_; refine ql_pure tabOk rfl rfl ?_; refine ql_gyes rfl ?_; refine ql_neqF tabOk rfl rfl rfl (by omega) ?_; (iterate 2 refine ql_pure tabOk rfl rfl ?_); refine ql_gyes rfl ?_; refine ql_pure tabOk rfl rfl ?_; refine ql_gyes rfl ?_; refine ql_neqF tabOk rfl rfl rfl (by omega) ?_; (iterate 2 refine ql_pure tabOk rfl rfl ?_); refine ql_gyes rfl ?_; refine ql_pure tabOk rfl rfl ?_; refine ql_gyes rfl ?_)
  refine ql_mk #[.int .i64 280, .int .i64 390] rfl (by kernel_rfl) rfl ?_
  refine ql_gyes rfl ?_
  refine ql_mk #[.int .i64 160, .int .i64 600] rfl (by kernel_rfl) rfl ?_
  refine ql_gyes rfl ?_
  refine ql_mkS 25 (spC [(280, 390), (160, 600)]) rfl (by kernel_rfl) rfl (fun c9 => ?_)
  refine ql_gyes rfl ?_
  refine ql_callv (val := .bool true) tabOk rfl rfl rfl rfl (fun w hs => ?_) ?_; exact eqS_ca w 0 w.heap.size 0 w.heap.size _ _ [(280, 390), (160, 600)] (own_rdS (t := 25) (hs.mem (c := .ow (.slice vx1 vx2 vx3) 25 2 2 (spC [(280, 390), (160, 600)])) (by repeat first | exact .head _ | refine .tail _ ?_)) rfl) (Blk.rdS (l := [(280, 390), (160, 600)]) (c := 2) (hs.blk (b := c9) (by repeat first | exact .head _ | refine .tail _ ?_)) rfl) (by decide)
  (refine ql_gyes rfl ?_; (iterate 2 refine ql_pure tabOk rfl rfl ?_); refine q_nil ?_; refine q_cond_false rfl ?_; refine q_skip ?_; refine q_seq ?_; refine q_region ?_)
  refine ql_call (β := Nat) tabOk [] _ M0 rfl rfl rfl rfl (Sp.refl _) (fun _ h => h.elim) (fun w' hs => short_ca w' 100) ?_
  rintro d4 _ rfl
  refine ql_callv (val := .tuple #[.int .i64 460, .int .i64 0]) tabOk rfl rfl rfl rfl (fun w hs => ?_) ?_; exact by have := least_ca w 0 w.heap.size (shortW 100) (some ⟨d4, 0, none⟩) 3 (hD 100 w d4 (hs.blk (by repeat first | exact .head _ | refine .tail _ ?_))) (by decide); rw [aw_least] at this; exact this
  (refine ql_pure tabOk rfl rfl ?_; (iterate 2 refine ql_ext tabOk rfl rfl rfl ?_); (iterate 2 refine ql_pure tabOk rfl rfl ?_); refine q_nil ?_; refine q_seq ?_; refine q_region ?_)
  refine ql_call (β := Nat) tabOk [] _ M0 rfl rfl rfl rfl (Sp.refl _) (fun _ h => h.elim) (fun w' hs => short_ca w' 100) ?_
  rintro d5 _ rfl
  refine ql_callv (val := .tuple #[.int .i64 540, .int .i64 0]) tabOk rfl rfl rfl rfl (fun w hs => ?_) ?_; exact by have := room_ca w 0 w.heap.size (shortW 100) (some ⟨d5, 0, none⟩) 3 (hD 100 w d5 (hs.blk (by repeat first | exact .head _ | refine .tail _ ?_))) (by decide); rw [aw_room] at this; exact this
  (refine ql_pure tabOk rfl rfl ?_; (iterate 2 refine ql_ext tabOk rfl rfl rfl ?_); (iterate 2 refine ql_pure tabOk rfl rfl ?_); refine q_nil ?_; refine q_seq ?_; refine q_region ?_; refine ql_pure tabOk rfl rfl ?_; refine ql_eqlT tabOk rfl rfl rfl (by omega) ?_; refine ql_pure tabOk rfl rfl ?_; refine ql_gyes rfl ?_; refine ql_pure tabOk rfl rfl ?_; refine ql_gyes rfl ?_; refine ql_eqlT tabOk rfl rfl rfl (by omega) ?_; (iterate 2 refine ql_pure tabOk rfl rfl ?_); refine ql_gyes rfl ?_; refine ql_pure tabOk rfl rfl ?_; refine ql_gyes rfl ?_; refine ql_eqlT tabOk rfl rfl rfl (by omega) ?_; (iterate 2 refine ql_pure tabOk rfl rfl ?_); refine ql_gyes rfl ?_; refine ql_pure tabOk rfl rfl ?_; refine ql_gyes rfl ?_; refine ql_eqlT tabOk rfl rfl rfl (by omega) ?_; (iterate 2 refine ql_pure tabOk rfl rfl ?_); refine q_nil ?_; refine q_ret ?_)
  refine q_fin tabOk rfl (by repeat (first | exact RVs.nil | apply RVs.tmp rfl | apply RVs.cellA rfl rfl (by repeat first | exact .head _ | refine .tail _ ?_) (by rfl) | apply RVs.cell1 rfl rfl (by repeat first | exact .head _ | refine .tail _ ?_))) fun w hs => ?_
  exact ⟨rfl, hs.chg0⟩
end Go.Proofs.YtgeajgmefokifaaGreat

/- Walks: klisterkit's deck. Only the ranges of what it deals are told. -/
namespace Go.Proofs.YtgeajgmefokifaaGreat
open Go Go.Eng

section
attribute [local irreducible] IntKind.wrap Int.tmod Int.tdiv

/-- The deck's own variable, after at most K cards. -/
def DkS (w : World) (b : Nat) (bs : Value) (K : Nat) : Prop :=
  ∃ next st, Blk w b [bs, .int .i64 next, .int .u32 st] 157 ∧ 0 ≤ next ∧ next ≤ K ∧ 0 ≤ st ∧ st < 4294967296
/-- Its bytes. -/
def DkB (w : World) (lo hi : Nat) (bs : Value) : Prop := ∃ nb cs, Rd w lo hi bs 1 nb cs ∧ (∀ c ∈ cs, ∃ x, c = .int .u8 x ∧ 0 ≤ x ∧ x < 256)
theorem DkB.keep {w w' : World} {lo hi : Nat} {bs : Value} (h : DkB w lo hi bs) (c : Chg [] w w') : DkB w' lo hi bs := by
  obtain ⟨nb, cs, h1, h2⟩ := h
  exact ⟨nb, cs, h1.keep c, h2⟩

set_option maxHeartbeats 1000000 in
theorem draw_ca (n : Int) (K : Nat) (hK : K < 4611686018427387904) (w : World) (b lo hi : Nat) (bs : Value) (hby : DkB w lo hi bs) (hlh : hi ≤ b) (hd : DkS w b bs K) :
    Ca Tryz.prog 27 [.pointer (some ⟨b, 0, none⟩), .int .i64 n] w fun v w' => ∃ r, v = .int .i64 r ∧ 0 ≤ r ∧ (r < n ∨ r = 0) ∧ Chg [b] w w' ∧ w'.heap.size = w.heap.size ∧ DkS w' b bs (K + 1) := by
  obtain ⟨nb, cs, hrd, hcs⟩ := hby
  obtain ⟨next, st, hb, hn0, hnK, hs0, hs1⟩ := hd
  have hd : DkS w b bs (K + 1) := ⟨next, st, hb, hn0, by omega, hs0, hs1⟩
  obtain ⟨a, cap, rfl, hsl⟩ := hrd.out
  refine ca_of Tryz.func27 rfl (by simp [Tryz.ntmps27]) ?_
  (refine y_seq ?_; refine y_region ?_; refine yl_pure tabOk rfl rfl ?_; (iterate 2 refine y_seq ?_); refine y_region ?_; (iterate 3 refine yl_pure tabOk rfl rfl ?_))
  refine yl_split rfl rfl (fun hc => ?_) (fun hc => ?_)
  · ((iterate 6 refine yl_guard_no rfl rfl rfl ?_); refine yl_pure tabOk rfl rfl ?_; refine y_cond_true rfl ?_; refine y_seq ?_; refine y_region ?_; refine yl_pure tabOk rfl rfl ?_; refine y_ret ?_)
    exact y_fin1 rfl rfl ⟨0, rfl, by omega, .inr rfl, Chg.refl _ _, rfl, hd⟩
  (refine yl_guard_yes rfl ?_; refine yl_pure tabOk rfl rfl ?_; refine yl_guard_yes rfl ?_; refine yl_pure tabOk rfl rfl ?_; refine yl_guard_yes rfl ?_; refine yl_pure tabOk rfl rfl ?_; refine yl_guard_yes rfl ?_; refine yl_loadB tabOk rfl rfl rfl (by assumption) (by rfl) ?_; refine yl_guard_yes rfl ?_; refine yl_pure tabOk rfl rfl ?_; refine yl_guard_yes rfl ?_; (iterate 2 refine yl_pure tabOk rfl rfl ?_); refine yl_nil ?_)
  have hn := of_decide_eq_false hc
  refine y_if rfl (fun hc => ?_) (fun hc => ?_)
  · (refine y_seq ?_; refine y_region ?_; refine yl_pure tabOk rfl rfl ?_; refine y_ret ?_)
    exact y_fin1 rfl rfl ⟨0, rfl, by omega, .inr rfl, Chg.refl _ _, rfl, hd⟩
  have hnb : 0 < nb := by omega
  obtain ⟨bb, off, rfl, hcell⟩ := hsl hnb
  (refine y_skip ?_; refine y_seq ?_)
  refine y_draw [] (by kernel_rfl) (by kernel_rfl) (fun w1 hc1 hs1 => ?_)
  have hb1 := hb.keep hc1
  ((iterate 3 refine yf_pure tabOk rfl rfl rfl ?_); refine yf_loadB tabOk rfl rfl rfl (by assumption) (by first | assumption | simp) (by rfl) ?_; (iterate 3 refine yf_pure tabOk rfl rfl rfl ?_); refine yf_loadB tabOk rfl rfl rfl (by assumption) (by first | assumption | simp) (by rfl) ?_; (iterate 3 refine yf_pure tabOk rfl rfl rfl ?_); refine yf_loadB tabOk rfl rfl rfl (by assumption) (by first | assumption | simp) (by rfl) ?_; refine yf_pure tabOk rfl rfl rfl ?_)
  have hlen : cs.length = nb := by have := hrd.1; omega
  have hm := tmod_pos hn0 (by omega : (0 : Int) < nb)
  refine yf_rem rfl rfl (by omega) rfl ?_
  refine yf_index tabOk rfl rfl rfl rfl rfl hm.1 hm.2 ?_
  obtain ⟨x, hx, hx0, hx1⟩ := hcs (cs[(next.tmod nb).toNat]'(by omega)) (List.getElem_mem _)
  refine yf_load1 tabOk rfl rfl rfl (fun w' hw' => ?_) (v := .int .u8 x) ?_
  · have h1 := ((hrd.keep hc1).keep hw').cell rfl (next.tmod nb).toNat (by omega)
    rw [Nat.mul_one, h1, List.getElem?_eq_getElem (by omega), hx]
  ((iterate 4 refine yf_pure tabOk rfl rfl rfl ?_); refine yf_loadB tabOk rfl rfl rfl (by assumption) (by first | assumption | simp) (by rfl) ?_; (iterate 3 refine yf_pure tabOk rfl rfl rfl ?_); refine yf_loadB tabOk rfl rfl rfl (by assumption) (by first | assumption | simp) (by rfl) ?_; refine yf_pure tabOk rfl rfl rfl ?_)
  refine yf_quo rfl rfl (by omega) rfl ?_
  ((iterate 3 refine yf_pure tabOk rfl rfl rfl ?_); refine y_seq ?_; refine y_region ?_; (iterate 3 refine yl_pure tabOk rfl rfl ?_); refine yl_loadB tabOk rfl rfl rfl (by assumption) (by rfl) ?_; (iterate 3 refine yl_pure tabOk rfl rfl ?_))
  refine yl_store1 tabOk rfl rfl rfl rfl (by assumption) (by simp) (fun w2 hc2 hs2 hb2 => ?_)
  (refine y_seq ?_; refine y_region ?_; (iterate 4 refine yl_pure tabOk rfl rfl ?_); refine yl_loadB tabOk rfl rfl rfl (by assumption) (by rfl) ?_; (iterate 7 refine yl_pure tabOk rfl rfl ?_))
  refine yl_rem rfl rfl (by omega) rfl ?_
  ((iterate 2 refine yl_pure tabOk rfl rfl ?_))
  refine yl_store1 tabOk rfl rfl rfl rfl (by assumption) (by simp) (fun w3 hc3 hs3 hb3 => ?_)
  have hc03 : Chg [b] w w3 := (hc1.nil.trans hc2).trans hc3
  generalize hq : IntKind.u32.wrap (IntKind.i64.wrap (next.tdiv nb)) = q at *
  clear hq
  generalize hz : Int.tmod _ 65519 = z at *
  have hz0 : 0 ≤ z ∧ z < 65519 := by rw [← hz]; exact tmod_pos (wu32_range _).1 (by omega)
  clear hz
  have hd3 : DkS w3 b (.slice (some ⟨bb, off, none⟩) nb cap) (K + 1) := by
    refine ⟨next + 1, z, ?_, by omega, by omega, hz0.1, by omega⟩
    rw [w64 (by omega) (by omega)] at hb3
    exact hb3
  have hfin : ∀ y : Int, ∃ r, Value.int .i64 ((IntKind.i64.wrap (IntKind.u32.wrap y)).tmod n) = .int .i64 r ∧ 0 ≤ r ∧ (r < n ∨ r = 0) ∧ Chg [b] w w3 ∧ w3.heap.size = w.heap.size ∧ DkS w3 b (.slice (some ⟨bb, off, none⟩) nb cap) (K + 1) := by
    intro y
    have h1 := wu32_range y
    have h2 : IntKind.i64.wrap (IntKind.u32.wrap y) = IntKind.u32.wrap y := w64 (by omega) (by omega)
    rw [h2]
    have h3 := tmod_pos h1.1 (by omega : (0 : Int) < n)
    exact ⟨_, rfl, h3.1, .inl h3.2, hc03, by omega, hd3⟩
  ((iterate 2 refine y_seq ?_); refine y_region ?_; (iterate 3 refine yl_pure tabOk rfl rfl ?_))
  refine yl_split rfl rfl (fun hc => ?_) (fun hc => ?_)
  · (refine yl_guard_yes rfl ?_; refine yl_pure tabOk rfl rfl ?_; refine yl_guard_yes rfl ?_; (iterate 2 refine yl_pure tabOk rfl rfl ?_); refine yl_nil ?_)
    refine y_if rfl (fun hc => ?_) (fun hc => ?_)
    · (refine y_seq ?_; refine y_region ?_; (iterate 3 refine yl_pure tabOk rfl rfl ?_))
      refine yl_rem rfl rfl (by omega) rfl ?_
      (refine yl_pure tabOk rfl rfl ?_; refine y_ret ?_)
      exact y_fin1 rfl rfl (hfin _)
    · (refine y_skip ?_; refine y_seq ?_; refine y_region ?_; (iterate 3 refine yl_pure tabOk rfl rfl ?_); refine yl_loadB tabOk rfl rfl rfl (by assumption) (by rfl) ?_; (iterate 5 refine yl_pure tabOk rfl rfl ?_))
      refine yl_rem rfl rfl (by omega) rfl ?_
      (refine yl_pure tabOk rfl rfl ?_; refine y_ret ?_)
      exact y_fin1 rfl rfl (hfin _)
  · ((iterate 2 refine yl_guard_no rfl rfl rfl ?_); refine yl_pure tabOk rfl rfl ?_; refine y_cond_false rfl ?_; refine y_skip ?_; refine y_seq ?_; refine y_region ?_; (iterate 3 refine yl_pure tabOk rfl rfl ?_); refine yl_loadB tabOk rfl rfl rfl (by assumption) (by rfl) ?_; (iterate 5 refine yl_pure tabOk rfl rfl ?_))
    refine yl_rem rfl rfl (by omega) rfl ?_
    (refine yl_pure tabOk rfl rfl ?_; refine y_ret ?_)
    exact y_fin1 rfl rfl (hfin _)


end
/-- A deck, after at most K cards. -/
def dkP (bs : Value) (b K : Nat) : Ck := .gn (fun x => x = b) (fun w => DkS w b bs K) (fun w w' N h hc hN => by
  obtain ⟨next, st, h1, h2⟩ := h
  exact ⟨next, st, (hc.block b h1.lt (hN b rfl)).trans h1, h2⟩)

theorem drawP_ca (n : Int) (K : Nat) (hK : K < 4611686018427387904) (w : World) (b lo hi : Nat) (bs : Value) (hby : DkB w lo hi bs) (hlh : hi ≤ b) (hd : DkS w b bs K) :
    Ca Tryz.prog 27 [.pointer (some ⟨b, 0, none⟩), .int .i64 n] w fun v w' => ∃ x : Int, (v = .int .i64 x ∧ 0 ≤ x ∧ (x < n ∨ x = 0)) ∧ Sat w (fun x => x = b) [dkP bs b (K + 1)] w' :=
  (draw_ca n K hK w b lo hi bs hby hlh hd).mono fun v w' ⟨r, h1, h2, h3, h4, h5, h6⟩ =>
    ⟨r, ⟨h1, h2, h3⟩, ⟨h4.os, h4.tape, h4.output, h4.size, fun k hk hkb => h4.block k hk (by simpa using hkb)⟩, by simpa [dkP, Ck.p] using h6, .cons (by simp) .nil, fun c hc x hx => by
      obtain rfl : c = dkP bs b (K + 1) := by simpa using hc
      obtain rfl : x = b := hx
      obtain ⟨_, _, h7, _⟩ := h6
      exact ⟨h7.lt, .inl rfl⟩⟩



theorem dk_sat {w : World} {b K : Nat} {bs : Value} (hd : DkS w b bs K) : Sat w (fun x => x = b) [dkP bs b K] w :=
  ⟨ChgP.refl _ _, by simpa [dkP, Ck.p] using hd, .cons (by simp) .nil, fun c hc x hx => by
    obtain rfl : c = dkP bs b K := by simpa using hc
    obtain rfl : x = b := hx
    obtain ⟨_, _, h7, _⟩ := hd
    exact ⟨h7.lt, .inl rfl⟩⟩

theorem between_ca (l h : Int) (hl : -1000000 ≤ l) (hh : h ≤ 1000000) (hlh2 : l ≤ h) (K : Nat) (hK : K < 4611686018427387904) (w : World) (b lo hi : Nat) (bs : Value) (hby : DkB w lo hi bs) (hlh : hi ≤ b) (hd : DkS w b bs K) :
    Ca Tryz.prog 28 [.pointer (some ⟨b, 0, none⟩), .int .i64 l, .int .i64 h] w fun v w' => ∃ x : Int, (v = .int .i64 x ∧ l ≤ x ∧ x ≤ h) ∧ Sat w (fun x => x = b) [dkP bs b (K + 1)] w' := by
  refine q_of (dk_sat hd) Tryz.func28 rfl (by simp [Tryz.ntmps28]) ?_
  (refine q_seq ?_; refine q_region ?_; refine ql_pure tabOk rfl rfl ?_; refine q_nil ?_; refine q_seq ?_; refine q_region ?_; (iterate 4 refine ql_pure tabOk rfl rfl ?_); (iterate 2 refine ql_ar tabOk rfl rfl rfl rfl (by omega) (by omega) ?_))
  refine ql_call (β := Int) (ψ := fun x v => v = .int .i64 x ∧ 0 ≤ x ∧ (x < h - l + 1 ∨ x = 0)) (L' := fun _ => [dkP bs b (K + 1)]) tabOk [dkP bs b K] [] (fun x => x = b) rfl rfl rfl rfl (Sp.refl _) (fun x hx => ⟨_, .head _, hx⟩) (fun w' hs => drawP_ca (h - l + 1) K hK w' b lo hi bs (by
    obtain ⟨nb, cs, h1, h2⟩ := hby
    exact ⟨nb, cs, h1.chg (N := [b]) ⟨hs.chg.os, hs.chg.tape, hs.chg.output, hs.chg.size, fun k hk hkb => hs.chg.block k hk (by simpa using hkb)⟩ (fun k hk => .inr (by simp at hk; omega)), h2⟩) hlh (hs.all _ (.head _))) ?_
  rintro x _ ⟨rfl, hx0, hx1⟩
  (refine ql_ar tabOk rfl rfl rfl rfl (by omega) (by omega) ?_; refine ql_pure tabOk rfl rfl ?_; refine q_nil ?_; refine q_ret ?_)
  refine q_fin tabOk rfl (by repeat (first | exact RVs.nil | apply RVs.tmp rfl | apply RVs.cellA rfl rfl (by repeat first | exact .head _ | refine .tail _ ?_) (by rfl) | apply RVs.cell1 rfl rfl (by repeat first | exact .head _ | refine .tail _ ?_))) fun w hs => ?_
  exact ⟨_, ⟨rfl, by omega, by omega⟩, hs⟩



theorem of_ca (w : World) (a : Option Addr) (n c : Nat) : Ca Tryz.prog 19 [.slice a n c] w fun v w' => ∃ b : Nat, v = .pointer (some ⟨b, 0, none⟩) ∧ Sat w M0 [dkP (.slice a n c) b 0] w' := by
  refine q_of (Sat.nil w M0) Tryz.func19 rfl (by simp [Tryz.ntmps19]) ?_
  (refine q_seq ?_; refine q_region ?_; refine ql_pure tabOk rfl rfl ?_; refine q_nil ?_; refine q_seq ?_; refine q_region ?_; refine ql_pure tabOk rfl rfl ?_)
  refine ql_mk #[.slice a n c, .int .i64 0, .int .u32 17] rfl (by kernel_rfl) rfl ?_
  skip
  refine ql_box rfl rfl (fun b1 => ?_)
  (refine ql_pure tabOk rfl rfl ?_; refine q_nil ?_; refine q_ret ?_)
  refine q_fin tabOk rfl (by repeat (first | exact RVs.nil | apply RVs.tmp rfl | apply RVs.cellA rfl rfl (by repeat first | exact .head _ | refine .tail _ ?_) (by rfl) | apply RVs.cell1 rfl rfl (by repeat first | exact .head _ | refine .tail _ ?_))) fun w hs => ?_
  refine ⟨b1, rfl, ⟨hs.chg, fun d hd => ?_, .cons (by simp) .nil, fun d hd x hx => ?_⟩⟩
  · obtain rfl : d = dkP (.slice a n c) b1 0 := by simpa using hd
    exact ⟨0, 17, hs.all _ (.head _), by omega, by omega, by omega, by omega⟩
  · obtain rfl : d = dkP (.slice a n c) b1 0 := by simpa using hd
    obtain rfl : x = b1 := hx
    exact hs.bd _ (.head _) x rfl



theorem DkB.keepP {w w' : World} {lo hi b : Nat} {bs : Value} (h : DkB w lo hi bs) (hlh : hi ≤ b) (hc : ChgP (fun x => x = b) w w') : DkB w' lo hi bs := by
  obtain ⟨nb, cs, h1, h2⟩ := h
  exact ⟨nb, cs, h1.chg (N := [b]) ⟨hc.os, hc.tape, hc.output, hc.size, fun k hk hkb => hc.block k hk (by simpa using hkb)⟩ (fun k hk => .inr (by simp at hk; omega)), h2⟩
theorem DkS.mono {w : World} {b K K' : Nat} {bs : Value} (h : DkS w b bs K) (hk : K ≤ K') : DkS w b bs K' := by
  obtain ⟨next, st, h1, h2, h3, h4⟩ := h
  exact ⟨next, st, h1, h2, by omega, h4⟩
theorem Sat.dk {w0 w : World} {M : Nat → Prop} {R : List Ck} {b K K' : Nat} {bs : Value} (h : Sat w0 M (dkP bs b K :: R) w) (hk : K ≤ K') : Sat w0 M (dkP bs b K' :: R) w := h.turn (fun _ h => h) (fun h => DkS.mono h hk)



section
variable {K b : Nat} {bs : Value} {w0 w : World} {R : List Ck}
theorem dk_new (hs : Sat w0 M0 (dkP bs b K :: R) w) : w0.heap.size ≤ b := (hs.bd _ (.head _) b rfl).2.resolve_left (fun h => h)
theorem btw0 {l h : Int} (hby : DkB w0 0 w0.heap.size bs) (hs : Sat w0 M0 (dkP bs b K :: R) w) (hl : -1000000 ≤ l) (hh : h ≤ 1000000) (hlh : l ≤ h) (hK : K < 1000000) :
    Ca Tryz.prog 28 [.pointer (some ⟨b, 0, none⟩), .int .i64 l, .int .i64 h] w fun v w' => ∃ x : Int, (v = .int .i64 x ∧ l ≤ x ∧ x ≤ h) ∧ Sat w (fun x => x = b) [dkP bs b (K + 1)] w' :=
  between_ca l h hl hh hlh K (by omega) w b 0 w0.heap.size _ (hby.keep hs.chg0) (dk_new hs) (hs.all _ (.head _))
theorem drw0 {n : Int} (hby : DkB w0 0 w0.heap.size bs) (hs : Sat w0 M0 (dkP bs b K :: R) w) (hn : 1 ≤ n) (hK : K < 1000000) :
    Ca Tryz.prog 27 [.pointer (some ⟨b, 0, none⟩), .int .i64 n] w fun v w' => ∃ x : Int, (v = .int .i64 x ∧ 0 ≤ x ∧ x ≤ n - 1) ∧ Sat w (fun x => x = b) [dkP bs b (K + 1)] w' :=
  (drawP_ca n K (by omega) w b 0 w0.heap.size _ (hby.keep hs.chg0) (dk_new hs) (hs.all _ (.head _))).mono fun v w' ⟨x, ⟨h1, h2, h3⟩, h4⟩ => ⟨x, ⟨h1, h2, by omega⟩, h4⟩
end
end Go.Proofs.YtgeajgmefokifaaGreat

/- Walks: a winter is made of numbers. -/
namespace Go.Proofs.YtgeajgmefokifaaGreat
open Go Go.Eng

structure DayB (d : Dy) : Prop where
  n : 0 ≤ d.n0 ∧ d.n0 ≤ 29 ∧ d.n0 ≤ d.n1 ∧ d.n1 ≤ d.n0 + 11
  m : 0 ≤ d.m0 ∧ d.m0 ≤ 39 ∧ d.m0 ≤ d.m1 ∧ d.m1 ≤ d.m0 + 19
  l : 0 ≤ d.l0 ∧ d.l0 ≤ 5 ∧ d.l0 ≤ d.l1 ∧ d.l1 ≤ d.l0 + 3
/-- What MadeWinter makes. -/
structure WinB (days : Nat) (x : Wn) : Prop where
  store : 20 ≤ x.store ∧ x.store ≤ 200
  stock : 0 ≤ x.stock ∧ x.stock ≤ x.store
  d1 : 1 ≤ x.days.length
  d2 : x.days.length ≤ days
  days : ∀ d ∈ x.days, DayB d
theorem WinB.right {days : Nat} {x : Wn} (h : WinB days x) (hd : days ≤ 60) : x.Right := by
  have h1 := h.store
  have h2 := h.d2
  refine ⟨by omega, h.stock, h.d1, by omega, fun d hdm => ?_⟩
  have := h.days d hdm
  have a := this.n
  have b := this.m
  have c := this.l
  exact ⟨by omega, by omega, by omega⟩
/-- The spans made so far. -/
structure DayI (i : Nat) (d : Dy) : Prop where
  n : 1 ≤ i → 0 ≤ d.n0 ∧ d.n0 ≤ 29 ∧ d.n0 ≤ d.n1 ∧ d.n1 ≤ d.n0 + 11
  m : 2 ≤ i → 0 ≤ d.m0 ∧ d.m0 ≤ 39 ∧ d.m0 ≤ d.m1 ∧ d.m1 ≤ d.m0 + 19
  l : 3 ≤ i → 0 ≤ d.l0 ∧ d.l0 ≤ 5 ∧ d.l0 ≤ d.l1 ∧ d.l1 ≤ d.l0 + 3

end Go.Proofs.YtgeajgmefokifaaGreat

/- Walks: a weather is drawn. -/
namespace Go.Proofs.YtgeajgmefokifaaGreat
open Go Go.Eng

theorem getD_snoc (l : List Int) (x : Int) (i : Nat) : (l ++ [x]).getD i 0 = if i < l.length then l.getD i 0 else if i = l.length then x else 0 := by
  simp only [List.getD_eq_getElem?_getD, List.getElem?_append]
  by_cases h : i < l.length
  · simp [h]
  · rw [if_neg h, if_neg h]
    by_cases h2 : i = l.length
    · subst h2; simp
    · rw [if_neg h2, List.getElem?_eq_none (by simp; omega)]
      rfl
/-- A weather of the first days. -/
structure WtP (days : List Dy) (k : Nat) (t : Wt) : Prop where
  ln : t.need.length = k
  lm : t.make.length = k
  ll : t.loss.length = k
  n : ∀ i, i < k → ∀ (h : i < days.length), days[i].n0 ≤ t.need.getD i 0 ∧ t.need.getD i 0 ≤ days[i].n1
  m : ∀ i, i < k → ∀ (h : i < days.length), days[i].m0 ≤ t.make.getD i 0 ∧ t.make.getD i 0 ≤ days[i].m1
  l : ∀ i, i < k → ∀ (h : i < days.length), days[i].l0 ≤ t.loss.getD i 0 ∧ t.loss.getD i 0 ≤ days[i].l1
theorem WtP.step {days : List Dy} {k : Nat} {t : Wt} (h : WtP days k t) (hk : k < days.length) {x y z : Int} (hx : days[k].n0 ≤ x ∧ x ≤ days[k].n1) (hy : days[k].m0 ≤ y ∧ y ≤ days[k].m1) (hz : days[k].l0 ≤ z ∧ z ≤ days[k].l1) : WtP days (k + 1) ⟨t.need ++ [x], t.make ++ [y], t.loss ++ [z]⟩ := by
  refine ⟨by simp [h.ln], by simp [h.lm], by simp [h.ll], fun i hi hd => ?_, fun i hi hd => ?_, fun i hi hd => ?_⟩
  · rw [getD_snoc, h.ln]
    split
    · exact h.n i (by assumption) hd
    · obtain rfl : i = k := by omega
      simpa using hx
  · rw [getD_snoc, h.lm]
    split
    · exact h.m i (by assumption) hd
    · obtain rfl : i = k := by omega
      simpa using hy
  · rw [getD_snoc, h.ll]
    split
    · exact h.l i (by assumption) hd
    · obtain rfl : i = k := by omega
      simpa using hz
theorem WtP.in {x : Wn} {t : Wt} (h : WtP x.days x.days.length t) : t.In x := ⟨h.ln, h.lm, h.ll, fun i hi => h.n i hi hi, fun i hi => h.m i hi hi, fun i hi => h.l i hi hi⟩
/-- The deck, and the days. -/
abbrev drL (bs : Value) (b K g c : Nat) (l : List Dy) : List Ck := [dkP bs b K, .ow (.slice (some ⟨g, 0, none⟩) l.length c) 46 6 l.length (dyC l)]

end Go.Proofs.YtgeajgmefokifaaGreat

/- What the laws of winters share. -/
namespace Go.Proofs.YtgeajgmefokifaaGreat
open Go Go.Eng

section
variable {K b g c : Nat} {bs : Value} {w0 w : World} {R : List Ck}
end
theorem bool_b : boolB Tryz.prog 4 = true := by kernel_rfl
end Go.Proofs.YtgeajgmefokifaaGreat

/- Walks of the reference: the error of a winter. -/
namespace Go.Proofs.YtgeajgmefokifaaGreat
open Go Go.Eng

section
variable {w : World} {lo hi b off len cap : Nat} {l : List Dy}
theorem RdD.need (h : RdD w lo hi (.slice (some ⟨b, off, none⟩) len cap) l) (i : Nat) (hi : i < l.length) (j : Nat) (hj : j < 2) : w.cell? ⟨b, off + i * 6 + 0 + j, none⟩ = [Value.int .i64 l[i].n0, Value.int .i64 l[i].n1][j]? := by
  have := RdD.at h i hi (0 + j) (by omega)
  rw [← Nat.add_assoc] at this
  rw [this]
  match j, hj with
  | 0, _ => rfl
  | 1, _ => rfl
theorem RdD.make (h : RdD w lo hi (.slice (some ⟨b, off, none⟩) len cap) l) (i : Nat) (hi : i < l.length) (j : Nat) (hj : j < 2) : w.cell? ⟨b, off + i * 6 + 2 + j, none⟩ = [Value.int .i64 l[i].m0, Value.int .i64 l[i].m1][j]? := by
  have := RdD.at h i hi (2 + j) (by omega)
  rw [← Nat.add_assoc] at this
  rw [this]
  match j, hj with
  | 0, _ => rfl
  | 1, _ => rfl
theorem RdD.loss (h : RdD w lo hi (.slice (some ⟨b, off, none⟩) len cap) l) (i : Nat) (hi : i < l.length) (j : Nat) (hj : j < 2) : w.cell? ⟨b, off + i * 6 + 4 + j, none⟩ = [Value.int .i64 l[i].l0, Value.int .i64 l[i].l1][j]? := by
  have := RdD.at h i hi (4 + j) (by omega)
  rw [← Nat.add_assoc] at this
  rw [this]
  match j, hj with
  | 0, _ => rfl
  | 1, _ => rfl
end
end Go.Proofs.YtgeajgmefokifaaGreat

/- Walks of the reference: the errors of a stadium, of rules, and of a course. -/
namespace Go.Proofs.YtgeajgmefokifaaGreat
open Go Go.Eng

section
variable {w : World} {lo hi b off len cap : Nat} {l : List Lp}
theorem RdL.a0 (h : RdL w lo hi (.slice (some ⟨b, off, none⟩) len cap) l) (i : Nat) (hi : i < l.length) : w.cell? ⟨b, off + i * 3 + 0, none⟩ = some (.int .i64 l[i].len) := RdL.at0 h i hi
end
/-- In order, as far as they are looked at. -/
def ordB (c : List Int) (k : Nat) : Bool := (List.range k).all fun i => decide (c.getD i 0 ≤ c.getD (i + 1) 0) && true
theorem ordB_srt : ∀ (c : List Int), srtB c = ordB c (c.length - 1)
  | [] => rfl
  | [_] => rfl
  | a :: b :: l => by
    rw [srtB, ordB_srt (b :: l)]
    simp only [ordB, List.length_cons, Nat.add_sub_cancel]
    rw [List.range_succ_eq_map, List.all_cons, List.all_map]
    simp only [Bool.and_true]
    rfl
end Go.Proofs.YtgeajgmefokifaaGreat

/- Walks of the reference: how often a loop occurs; which rules a course breaks. -/
namespace Go.Proofs.YtgeajgmefokifaaGreat
open Go Go.Eng

def oftP (r : Rl) (c : List Int) (k : Nat) : Bool := (c.take k).any fun i => decide (r.uses < cntI c i) && true
end Go.Proofs.YtgeajgmefokifaaGreat

/- Walk of the reference: all lists of laps. -/
namespace Go.Proofs.YtgeajgmefokifaaGreat
open Go Go.Eng

/-- The lists that are found among the first numbers. -/
def foundL (n laps m : Nat) : List (List Int) := ((List.range m).map (digL n laps)).filter (fun c => decide (listedV n c = 0))
end Go.Proofs.YtgeajgmefokifaaGreat

/- Walks of the reference: all right courses. -/
namespace Go.Proofs.YtgeajgmefokifaaGreat
open Go Go.Eng

section
variable {w0 w : World} {M : Nat → Prop} {H : List Ck} {t t2 : TypeId} {xs : List (Value × List Int)} {u : Value} {c : List Int}
theorem ls_mem (hs : Sat w0 M H w) (hu : un (rowsO t xs) ∈ H) (hm : (u, c) ∈ xs) : w.ownsRow 0 t 1 u c.length (ints c) := hs.un_mem (c := .ow u t 1 c.length (ints c)) hu (List.mem_map.2 ⟨_, hm, rfl⟩)
theorem ls_rd (hs : Sat w0 M H w) (hu : un (rowsO t xs) ∈ H) (hm : (u, c) ∈ xs) : RdI w 0 w.heap.size u c := own_rdI (ls_mem hs hu hm) rfl
theorem own_slice2 {e sz n : Nat} {v : Value} {ys : List Value} (h1 : w.ownsRow 0 e sz v n ys) : ∃ a d, v = .slice a n d := by
  rcases h1.2 with ⟨rfl, rfl, _⟩ | ⟨g, cap, cur, rfl, _⟩
  · exact ⟨_, _, rfl⟩
  · exact ⟨_, _, rfl⟩
theorem ls_slice (hs : Sat w0 M H w) (hu : un (rowsO t xs) ∈ H) (hm : (u, c) ∈ xs) : ∃ a d, u = .slice a c.length d := own_slice2 (ls_mem hs hu hm)
theorem ls_cell {g n cp : Nat} (hs : Sat w0 M H w) (hv : .ow (.slice (some ⟨g, 0, none⟩) n cp) t2 1 n (xs.map (·.1)) ∈ H) {i : Nat} (hi : i < xs.length) (hx : xs[i] = (u, c)) : w.cell? ⟨g, 0 + i * 1, none⟩ = some u := by
  have := own_cell (hs.mem hv) i (by simpa using hi)
  rw [show 0 + i * 1 = i by omega]
  simpa [hx] using this
theorem ls_rdII (hs : Sat w0 M H w) {v : Value} {n : Nat} (hu : un (rowsO t xs) ∈ H) (hv : .ow v t2 1 n (xs.map (·.1)) ∈ H) : RdII w 0 w.heap.size v (xs.map (·.2)) := rowsO_rd (hs.mem hu) (hs.mem hv)
end
end Go.Proofs.YtgeajgmefokifaaGreat

/- The plain laws of courses: their order, the fewest rules, the least snow. -/
namespace Go.Proofs.YtgeajgmefokifaaGreat

/-! Lexicographic order -/
/-! The fewest rules -/
/-- The first of the best ones, by a strict order of keys. -/
theorem best_fold {α : Type} (lt : α → α → Bool) (irr : ∀ a, lt a a = false) (tr : ∀ {a b c}, lt a b = true → lt b c = true → lt a c = true) (neg : ∀ {a b c}, lt a b = false → lt b c = false → lt a c = false) :
    ∀ (l : List α) (m : α), ∃ R, l.foldl (bestS lt) (some m) = some R ∧ (R = m ∨ R ∈ l) ∧ lt m R = false ∧ ∀ c ∈ l, lt c R = false
  | [], m => ⟨m, rfl, .inl rfl, irr m, by simp⟩
  | c :: l, m => by
    rw [List.foldl_cons]
    by_cases h : lt c m = true
    · simp only [bestS, h, if_true]
      obtain ⟨R, h1, h2, h3, h4⟩ := best_fold lt irr tr neg l c
      refine ⟨R, h1, .inr (List.mem_cons.2 h2), ?_, fun d hd => ?_⟩
      · cases hm : lt m R with
        | false => rfl
        | true => rw [tr h hm] at h3; cases h3
      · rcases List.mem_cons.1 hd with rfl | hd
        · exact h3
        · exact h4 d hd
    · have h : lt c m = false := by simpa using h
      simp only [bestS, h]
      obtain ⟨R, h1, h2, h3, h4⟩ := best_fold lt irr tr neg l m
      refine ⟨R, h1, h2.imp_right (List.mem_cons_of_mem _), h3, fun d hd => ?_⟩
      rcases List.mem_cons.1 hd with rfl | hd
      · exact neg h h3
      · exact h4 d hd
theorem cheap_filter (s : List Lp) (r : Rl) (depth : Int) : ∀ (l : List (List Int)) (o : Option (List Int)), l.foldl (cheapS s r depth) o = (l.filter (rightB s r)).foldl (bestS fun a b => decide (snowV s a depth < snowV s b depth) && true) o
  | [], _ => rfl
  | c :: l, o => by
    rw [List.foldl_cons, cheap_filter s r depth l, List.filter_cons]
    cases h : rightB s r c with
    | false => simp [cheapS, h]
    | true => simp only [if_true, List.foldl_cons, cheapS, h]
theorem cheap_best (s : List Lp) (r : Rl) (depth : Int) : (cheapO s r depth (coursesL s.length (nL r)) = none ∧ allC s r = []) ∨
    ∃ R, cheapO s r depth (coursesL s.length (nL r)) = some R ∧ R ∈ allC s r ∧ ∀ c ∈ allC s r, snowV s R depth ≤ snowV s c depth := by
  unfold cheapO
  rw [cheap_filter]
  show _ ∨ _
  unfold allC
  generalize (coursesL s.length (nL r)).filter (rightB s r) = l
  cases l with
  | nil => exact .inl ⟨rfl, rfl⟩
  | cons m l =>
    obtain ⟨R, h1, h2, h3, h4⟩ := best_fold (fun a b => decide (snowV s a depth < snowV s b depth) && true) (fun a => by simp) (fun {a b c} h1 h2 => by simp at h1 h2 ⊢; omega) (fun {a b c} h1 h2 => by simp at h1 h2 ⊢; omega) l m
    refine .inr ⟨R, (by rw [List.foldl_cons]; exact h1), List.mem_cons.2 h2, fun c hc => ?_⟩
    rcases List.mem_cons.1 hc with rfl | hc
    · simpa using h3
    · simpa using h4 c hc
end Go.Proofs.YtgeajgmefokifaaGreat

/- Walks of the reference: Broken, earlier, Yield. -/
namespace Go.Proofs.YtgeajgmefokifaaGreat
open Go Go.Eng

end Go.Proofs.YtgeajgmefokifaaGreat

/- Walks of the reference: area, snow, what a volume covers, and the cheapest course. -/
namespace Go.Proofs.YtgeajgmefokifaaGreat
open Go Go.Eng

def volB (s : List Lp) (depth volume : Int) (c : List Int) : Bool := decide (snowV s c depth ≤ volume) && true
theorem allC_len {s : List Lp} {r : Rl} (hcr : CR s r) {c : List Int} (hc : c ∈ allC s r) : c.length ≤ 6 := by
  have hla := hcr.r.laps
  have hm := coursesL_mem.1 (List.mem_filter.1 hc).1
  rw [hm.1]
  unfold nL
  omega
end Go.Proofs.YtgeajgmefokifaaGreat

/- Walks of the reference: what a volume covers; the cheapest course. -/
namespace Go.Proofs.YtgeajgmefokifaaGreat
open Go Go.Eng

def ltS (s : List Lp) (depth : Int) (a b : List Int) : Bool := decide (snowV s a depth < snowV s b depth) && true
end Go.Proofs.YtgeajgmefokifaaGreat

/- Walks of the reference: the error of a weather. -/
namespace Go.Proofs.YtgeajgmefokifaaGreat
open Go Go.Eng

end Go.Proofs.YtgeajgmefokifaaGreat

/- Plain laws of what happens, step by step. -/
namespace Go.Proofs.YtgeajgmefokifaaGreat
open Go Go.Eng

end Go.Proofs.YtgeajgmefokifaaGreat

/- Walk of the reference: what happens in a weather. -/
namespace Go.Proofs.YtgeajgmefokifaaGreat
open Go Go.Eng

end Go.Proofs.YtgeajgmefokifaaGreat

/- Walk of the reference: the ends of a winter's spans. -/
namespace Go.Proofs.YtgeajgmefokifaaGreat
open Go Go.Eng

end Go.Proofs.YtgeajgmefokifaaGreat

/- Walks: winters and weathers compared that are equal. -/
namespace Go.Proofs.YtgeajgmefokifaaGreat
open Go Go.Eng

end Go.Proofs.YtgeajgmefokifaaGreat

/- Winters that are copied, and whose days are changed. -/
namespace Go.Proofs.YtgeajgmefokifaaGreat
open Go Go.Eng

/-! The cells of days -/
def fldD (d : Dy) : Nat → Int
  | 0 => d.n0
  | 1 => d.n1
  | 2 => d.m0
  | 3 => d.m1
  | 4 => d.l0
  | _ => d.l1
def setD (d : Dy) (f : Nat) (v : Int) : Dy :=
  match f with
  | 0 => { d with n0 := v }
  | 1 => { d with n1 := v }
  | 2 => { d with m0 := v }
  | 3 => { d with m1 := v }
  | 4 => { d with l0 := v }
  | _ => { d with l1 := v }
/-- Days in a block, with room behind them. -/
abbrev dyB (g : Nat) (l : List Dy) (sp : List Value) : Ck := .pt g (dyC l ++ sp) 46
section
variable {P : Program} {T : Tab} {ro : Cx} {n : Nat} {F : Fin} {w0 : World} {M : Nat → Prop} {k : List It} {ops : Array Oper} {rest : List Oper} {e : Env} {H Hq : List Ck}
end
/-! Copies -/
end Go.Proofs.YtgeajgmefokifaaGreat

/- Walks: a weather copied. -/
namespace Go.Proofs.YtgeajgmefokifaaGreat
open Go Go.Eng

theorem cloneI_ca (w : World) (lo hi : Nat) (v : Value) (l : List Int) (h : RdI w lo hi v l) (hlen : l.length ≤ 1000000) : Ca Tryz.prog 29 [v] w fun r w' => ∃ u : Value, r = u ∧ Sat w M0 [.ow u 3 1 l.length (ints l)] w' := by
  obtain ⟨a, ca, rfl, _⟩ := RdI.outI h
  have hrow : ∀ w', Chg [] w w' → Rd w' lo hi (.slice a l.length ca) 1 l.length (ints l) := fun w' hc => by
    have := (RdE.keep h hc).rd
    rw [cellsOf_ints] at this
    simpa using this
  refine q_of (Sat.nil w M0) Tryz.func29 rfl (by simp [Tryz.ntmps29]) ?_
  (refine q_seq ?_; refine q_region ?_; refine ql_pure tabOk rfl rfl ?_; refine q_nil ?_; refine q_seq ?_; refine q_region ?_; refine ql_pure tabOk rfl rfl ?_)
  refine ql_conv (H' := [.ow (.slice none 0 0) 3 1 0 []]) (fun w' hs => Sat.ownil hs 3 1) ?_
  refine ql_append (q := l.length) slI rfl rfl rfl (fun v' => by repeat constructor) (fun w' hs => ⟨lo, hi, hrow w' hs.chg0⟩) (by simp [oneV]) (by omega) (by omega) (fun u => ?_)
  (refine ql_pure tabOk rfl rfl ?_; refine q_nil ?_; refine q_ret ?_)
  refine q_fin tabOk rfl (by repeat (first | exact RVs.nil | apply RVs.tmp rfl | apply RVs.cellA rfl rfl (by repeat first | exact .head _ | refine .tail _ ?_) (by rfl) | apply RVs.cell1 rfl rfl (by repeat first | exact .head _ | refine .tail _ ?_))) fun w hs => ?_
  exact ⟨u, rfl, by simpa using hs⟩
end Go.Proofs.YtgeajgmefokifaaGreat

/- Walk: a winter of the reference. -/
namespace Go.Proofs.YtgeajgmefokifaaGreat
open Go Go.Eng

end Go.Proofs.YtgeajgmefokifaaGreat

/- Walks: whether there are too many days, or numbers. -/
namespace Go.Proofs.YtgeajgmefokifaaGreat
open Go Go.Eng

def longB (n : Nat) (ll : List (List Int)) : Bool := (ll.any fun l => decide (70 < l.length) && true) || (decide (65 < n) && true)
end Go.Proofs.YtgeajgmefokifaaGreat

/- Walk of the reference: piles. -/
namespace Go.Proofs.YtgeajgmefokifaaGreat
open Go Go.Eng

/-- Much is taken from piles, one after the other. -/
structure TkI (much : Int) (l : List Int) (k : Nat) (m : Int) (o : List Int) : Prop where
  kl : k ≤ l.length
  len : o.length = l.length
  mb : 0 ≤ m ∧ m ≤ much
  nn : ∀ x ∈ o, 0 ≤ x ∧ x ≤ 2000000
  eq : rremP much l = o.take k ++ rremP m (o.drop k)
theorem TkI.zero {much : Int} {l : List Int} (h : 0 ≤ much) (hl : ∀ x ∈ l, 0 ≤ x ∧ x ≤ 2000000) : TkI much l 0 much l := ⟨Nat.zero_le _, rfl, ⟨h, Int.le_refl _⟩, hl, by simp⟩
theorem TkI.step {much : Int} {l : List Int} {k : Nat} {m : Int} {o : List Int} (h : TkI much l k m o) (hk : k < o.length) (hm : 0 < m) {n : Int} (hn : n = min o[k] m) : TkI much l (k + 1) (m - n) (o.set k (o[k] - n)) := by
  subst hn
  have h0 := h.nn _ (List.getElem_mem hk)
  refine ⟨by have := h.len; omega, by simp [h.len], by have := h.mb; omega, fun x hx => ?_, ?_⟩
  · rcases List.mem_or_eq_of_mem_set hx with hx | rfl
    · exact h.nn x hx
    · omega
  · rw [h.eq, List.drop_eq_getElem_cons hk, rremP, if_pos (by omega)]
    have e1 : (o.set k (o[k] - min o[k] m)).take (k + 1) = o.take k ++ [o[k] - min o[k] m] := by
      rw [List.take_succ_eq_append_getElem (by simpa using hk), List.take_set_of_le (Nat.le_refl _)]
      simp
    have e2 : (o.set k (o[k] - min o[k] m)).drop (k + 1) = o.drop (k + 1) := by rw [List.drop_set_of_lt (by omega)]
    rw [e1, e2]
    simp
theorem TkI.full {much : Int} {l : List Int} {k : Nat} {m : Int} {o : List Int} (h : TkI much l k m o) (hk : ¬ k < o.length) : o = rremP much l := by
  have h1 := h.len
  have h2 := h.kl
  rw [h.eq, List.drop_eq_nil_of_le (by omega), List.take_of_length_le (by omega)]
  simp [rremP]
theorem TkI.done {much : Int} {l : List Int} {k : Nat} {m : Int} {o : List Int} (h : TkI much l k m o) (hm : ¬ m > 0) : o = rremP much l := by
  obtain rfl : m = 0 := by have := h.mb; omega
  rw [h.eq, rremP_zero, List.take_append_drop]
theorem set_ints (l : List Int) (k : Nat) (v : Int) : (ints l).set k (.int .i64 v) = ints (l.set k v) := by simp [ints, List.map_set]

end Go.Proofs.YtgeajgmefokifaaGreat

/- Walks of the reference: the first day that can fail; whether a winter is held. -/
namespace Go.Proofs.YtgeajgmefokifaaGreat
open Go Go.Eng

/-- Whether no day can fail. -/
def heldB (x : Wn) : Bool := decide ((firstV x).2 = 6) && true
end Go.Proofs.YtgeajgmefokifaaGreat

/- Walk of the reference: proofs. -/
namespace Go.Proofs.YtgeajgmefokifaaGreat
open Go Go.Eng

/-- What is left, day by day. -/
def lfK (x : Wn) (frm : Int) (i : Nat) : Int := if i ≤ frm.toNat then x.stock else phK x frm (i - 1 - frm.toNat) - (worstW x).need.getD (i - 1) 0
end Go.Proofs.YtgeajgmefokifaaGreat

/- Plain laws of winters: more stock, more room, more snow made, less need and less loss. -/
namespace Go.Proofs.YtgeajgmefokifaaGreat
open Go

structure RichD (d d' : Dy) : Prop where
  n : d'.n0 = d.n0 ∧ d.n0 ≤ d'.n1 ∧ d'.n1 ≤ d.n1
  m : d'.m1 = d.m1 ∧ d.m0 ≤ d'.m0 ∧ d'.m0 ≤ d.m1
  l : d'.l0 = d.l0 ∧ d.l0 ≤ d'.l1 ∧ d'.l1 ≤ d.l1
structure RichL (l l' : List Dy) : Prop where
  len : l'.length = l.length
  all : ∀ i (h : i < l.length) (h' : i < l'.length), RichD l[i] l'[i]
end Go.Proofs.YtgeajgmefokifaaGreat

/- Walks of the reference: the least stock and the least store. -/
namespace Go.Proofs.YtgeajgmefokifaaGreat
open Go Go.Eng

end Go.Proofs.YtgeajgmefokifaaGreat

/- Walk of the reference: the ranges of stocks. -/
namespace Go.Proofs.YtgeajgmefokifaaGreat
open Go Go.Eng

end Go.Proofs.YtgeajgmefokifaaGreat

/- The walk of CourseOpens. -/
namespace Go.Proofs.YtgeajgmefokifaaGreat
open Go Go.Eng

end Go.Proofs.YtgeajgmefokifaaGreat

/- What a function is told of its arguments: slices and structs that came in can be read. -/
namespace Go.Proofs.YtgeajgmefokifaaGreat
open Go Go.Eng

section
variable {H : Type} {enc : TypeId × Value → H} {P : Program} {w : World} {sp : Nat → Bool} {held : Bool}
theorem flat_get {sz : Nat} (hsz : 0 < sz) : ∀ (css : List (List Value)), (∀ c ∈ css, c.length = sz) → ∀ j, css.flatten[j]? = (css[j / sz]?).bind (fun c => c[j % sz]?)
  | [], _, j => by simp
  | c :: css, h, j => by
    have hc := h c List.mem_cons_self
    rw [List.flatten_cons]
    by_cases hj : j < sz
    · rw [List.getElem?_append_left (by omega), Nat.div_eq_of_lt hj, Nat.mod_eq_of_lt hj]
      rfl
    · obtain ⟨k, rfl⟩ : ∃ k, j = k + sz := ⟨j - sz, by omega⟩
      rw [List.getElem?_append_right (by omega), hc, Nat.add_sub_cancel, flat_get hsz css (fun d hd => h d (List.mem_cons_of_mem _ hd)), Nat.add_div_right _ hsz, Nat.add_mod_right]
      rfl
end
/-- A number that fits into 64 bits. -/
def I64 (n : Int) : Prop := -9223372036854775808 ≤ n ∧ n < 9223372036854775808
section
variable {H : Type} {enc : TypeId × Value → H} {P : Program} {w : World} {sp : Nat → Bool} {held : Bool}
theorem RdI.one {v : Value} {l : List Int} {lo hi : Nat} (h : RdI w lo hi v l) : oneV v = true := by
  obtain ⟨a, c, rfl, _⟩ := RdI.outI h
  rfl
end
end Go.Proofs.YtgeajgmefokifaaGreat

/- What a function of the chapter is told of its arguments. -/
namespace Go.Proofs.YtgeajgmefokifaaGreat
open Go Go.Eng

section
variable {H : Type} {enc : TypeId × Value → H} {P : Program} {w : World} {sp : Nat → Bool} {held : Bool}
end

section
variable {H : Type} {enc : TypeId × Value → H} {w : World} {sp : Nat → Bool} {held : Bool} {rc : Reach} {base : Nat} {v : Value} {d : DataW H} {ps : List MemPlace}
/-- The numbers of rules fit into 64 bits. -/
structure Rl.Big (r : Rl) : Prop where
  laps : I64 r.laps
  g0 : I64 r.g0
  g1 : I64 r.g1
  c0 : I64 r.c0
  c1 : I64 r.c1
  p0 : I64 r.p0
  p1 : I64 r.p1
  wide : I64 r.wide
  uses : I64 r.uses
end
end Go.Proofs.YtgeajgmefokifaaGreat

/- The walk of CourseWinters. -/
namespace Go.Proofs.YtgeajgmefokifaaGreat
open Go Go.Eng

end Go.Proofs.YtgeajgmefokifaaGreat

/- Walks: loops copied and turned, rules as numbers, whether there are too many lists; contracts in one piece. -/
namespace Go.Proofs.YtgeajgmefokifaaGreat
open Go Go.Eng

theorem slLp : SlT Tryz.prog 23 32 3 24 (.agg #[.int .i64 0, .int .i64 0, .int .i64 0]) := ⟨by kernel_rfl, by kernel_rfl, by kernel_rfl, by decide⟩
theorem lpC_snoc (l : List Lp) (d : Lp) : lpC (l ++ [d]) = lpC l ++ lpC [d] := by simp [lpC]
theorem lpC_one (l : List Lp) : ∀ c ∈ lpC l, oneV c = true := fun c hc => by obtain ⟨y, _, hy⟩ := List.mem_flatMap.1 hc; simp at hy; rcases hy with rfl | rfl | rfl <;> rfl
theorem Blk.rdLp {w : World} {b : Nat} {d : Lp} {t : TypeId} (h : Blk w b (lpC [d]) t) : Rd w b (b + 1) (.slice (some ⟨b, 0, none⟩) 1 1) 3 1 (lpC [d]) :=
  ⟨rfl, .inr ⟨b, 0, 1, rfl, fun _ => ⟨Nat.le_refl _, Nat.lt_succ_self _, h.lt⟩, fun j _ => by rw [Nat.zero_add]; exact Blk.cell h j⟩⟩
theorem sat_rdL {w0 w : World} {M : Nat → Prop} {H : List Ck} {v : Value} {t n : Nat} {l : List Lp} (hs : Sat w0 M H w) (hm : .ow v t 3 n (lpC l) ∈ H) (hn : n = l.length) : RdL w 0 w.heap.size v l := own_rdL (hs.mem hm) hn
/-! Contracts in one piece -/
section
variable (w : World) (lo hi : Nat) (a : Option Addr) (cp : Nat) (s : List Lp) (r : Rl) (h : RdL w lo hi (.slice a s.length cp) s) (hlen : s.length ≤ 1000000)
include h hlen
end
/-- The fewest rules, with the first course. -/
def yldV (s : List Lp) (r : Rl) : (List Int × List Int) × Int := if checkS s r ≠ 0 then (([], []), checkS s r) else ((brkL s r ((yieldO s r (coursesL s.length (nL r))).getD []), (yieldO s r (coursesL s.length (nL r))).getD []), 0)
section
variable (w : World) (lo hi : Nat) (a : Option Addr) (cp : Nat) (s : List Lp) (r : Rl) (h : RdL w lo hi (.slice a s.length cp) s) (hlen : s.length ≤ 1000000)
include h hlen
end
end Go.Proofs.YtgeajgmefokifaaGreat

/- Walk: a stadium and rules are made. -/
namespace Go.Proofs.YtgeajgmefokifaaGreat
open Go Go.Eng

structure LpM (l : Lp) : Prop where
  len : 1500 ≤ l.len ∧ l.len ≤ 3400
  climb : 0 ≤ l.climb ∧ l.climb ≤ 110
  wide : 4 ≤ l.wide ∧ l.wide ≤ 8
structure MadeS (most laps : Nat) (s : List Lp) (r : Rl) : Prop where
  n1 : 1 ≤ s.length
  n2 : s.length ≤ most
  all : ∀ l ∈ s, LpM l
  lp : 1 ≤ r.laps ∧ r.laps ≤ laps
  g : 0 ≤ r.g0 ∧ r.g0 ≤ r.g1 ∧ r.g1 ≤ 20000
  c : 0 ≤ r.c0 ∧ r.c0 ≤ r.c1 ∧ r.c1 ≤ 1000
  p : 1500 ≤ r.p0 ∧ r.p0 ≤ 1800 ∧ 2500 ≤ r.p1 ∧ r.p1 ≤ 3400
  wide : 3 ≤ r.wide ∧ r.wide ≤ 5
  uses : 1 ≤ r.uses ∧ r.uses ≤ laps
theorem MadeS.cr {most laps : Nat} {s : List Lp} {r : Rl} (h : MadeS most laps s r) (hm : most ≤ 12) (hl : laps ≤ 6) : CR s r := by
  have h1 := h.n1; have h2 := h.n2; have h3 := h.lp; have h4 := h.g; have h5 := h.c; have h6 := h.p; have h7 := h.wide; have h8 := h.uses
  exact ⟨⟨h1, by omega, fun l hl => by have h := h.all l hl; have := h.len; have := h.climb; have := h.wide; exact ⟨by omega, by omega, by omega⟩⟩, ⟨by omega, by omega, by omega, by omega, by omega, by omega⟩⟩
theorem mul_bd {a b A B : Int} (h1 : 0 ≤ a) (h2 : a ≤ A) (h3 : 0 ≤ b) (h4 : b ≤ B) : 0 ≤ a * b ∧ a * b ≤ A * B := ⟨Int.mul_nonneg h1 h3, Int.mul_le_mul h2 h4 h3 (by omega)⟩
set_option maxHeartbeats 4000000 in
theorem madeS_ca (most laps : Nat) (h1 : 1 ≤ most) (h2 : most ≤ 12) (h3 : 1 ≤ laps) (h4 : laps ≤ 6) (K : Nat) (hK : K < 100000) (w : World) (b lo hi : Nat) (bs : Value) (hby : DkB w lo hi bs) (hlh : hi ≤ b) (hd : DkS w b bs K) :
    Ca Tryz.prog 18 [.pointer (some ⟨b, 0, none⟩), .int .i64 most, .int .i64 laps] w fun v w' => ∃ y : Nat × Nat × List Lp × Rl, (v = .tuple #[.slice (some ⟨y.1, 0, none⟩) y.2.2.1.length y.2.1, .agg (rlC y.2.2.2).toArray] ∧ MadeS most laps y.2.2.1 y.2.2.2) ∧ Sat w (fun x => x = b) [.ow (.slice (some ⟨y.1, 0, none⟩) y.2.2.1.length y.2.1) 32 3 y.2.2.1.length (lpC y.2.2.1), dkP bs b (K + 100)] w' := by
  refine q_of (dk_sat hd) Tryz.func18 rfl (by simp [Tryz.ntmps18]) ?_
  (refine q_seq ?_; refine q_region ?_; refine ql_pure tabOk rfl rfl ?_)
  refine ql_alloc zero27 rfl (fun b7 => ?_)
  (refine q_nil ?_; refine q_seq ?_; refine q_region ?_; refine ql_pure tabOk rfl rfl ?_; refine q_nil ?_; (iterate 2 refine q_seq ?_); refine q_region ?_; (iterate 2 refine ql_pure tabOk rfl rfl ?_))
  refine ql_call (β := Int) (ψ := fun zq v => v = .int .i64 zq ∧ 1 ≤ zq ∧ zq ≤ most) (L' := fun _ => [dkP bs b (K + 1)]) tabOk [dkP bs b (K)] _ (fun x => x = b) rfl rfl rfl rfl (Sp.cons (by repeat constructor) (Sp.refl _)) (fun x hx => ⟨_, .head _, hx⟩) (fun w' hs => between_ca (1) (most) (by omega) (by omega) (by omega) (K) (by omega) w' b lo hi bs (hby.keepP hlh hs.chg) hlh (hs.all _ (.head _))) ?_; rintro cnt _ ⟨rfl, hcnt⟩
  (refine ql_pure tabOk rfl rfl ?_; refine q_nil ?_; refine q_block ?_)
  obtain ⟨cn, rfl⟩ := Int.eq_ofNat_of_zero_le (show 0 ≤ cnt by omega)
  have hcn : 1 ≤ cn ∧ cn ≤ most := by omega
  clear hcnt
  refine q_conv (H' := [.ow (.slice none 0 0) 32 3 0 (lpC []), dkP bs b (K + 1 + 3 * 0), .pt b7 [.int .i64 0, .int .i64 0, .int .i64 0, .int .i64 0, .int .i64 0, .int .i64 0, .int .i64 0, .int .i64 0, .int .i64 0] 27])
    (fun w' hs => (Sat.ownil hs 32 3).sp (by repeat (first | exact Sp.nil | exact Sp.refl _ | refine Sp.cons (by repeat constructor) ?_))) ?_
  refine q_loop (σ := Value × List Lp) (fun s => s.2.length ≤ cn ∧ ∀ l ∈ s.2, LpM l) (fun s => cn - s.2.length) (fun s => [(0, .pointer (some ⟨b, 0, none⟩)), (2, .int .i64 laps), (7, .pointer (some ⟨b7, 0, none⟩)), (8, s.1), (14, .int .i64 cn), (15, .int .i64 s.2.length)])
    (fun s => [.ow s.1 32 3 s.2.length (lpC s.2), dkP bs b (K + 1 + 3 * s.2.length), .pt b7 [.int .i64 0, .int .i64 0, .int .i64 0, .int .i64 0, .int .i64 0, .int .i64 0, .int .i64 0, .int .i64 0, .int .i64 0] 27]) (.slice none 0 0, []) (by simp) ⟨rfl, rfl, rfl, rfl, rfl, rfl, trivial⟩ (by repeat (first | exact Sp.nil | exact Sp.refl _ | refine Sp.cons (by repeat constructor) ?_)) ?_
  rintro ⟨v, l⟩ ⟨hl, hB⟩ K1 hK1
  simp only at hl hB
  dsimp only
  (refine q_seq ?_; refine q_region ?_; refine ql_pure tabOk rfl rfl ?_; refine q_nil ?_; refine q_seq ?_)
  refine q_if rfl (fun hc => ?_) (fun hc => ?_)
  · have hl2 : l.length < cn := by omega
    clear hc
    obtain ⟨k, hk⟩ : ∃ k, k = l.length := ⟨_, rfl⟩
    rw [← hk]
    (refine q_skip ?_; refine q_seq ?_; refine q_block ?_; refine q_region ?_; (iterate 2 refine ql_pure tabOk rfl rfl ?_))
    refine ql_call (β := Int) (ψ := fun zq v => v = .int .i64 zq ∧ 0 ≤ zq ∧ (zq < 20 ∨ zq = 0)) (L' := fun _ => [dkP bs b (K + 1 + 3 * k + 1)]) tabOk [dkP bs b (K + 1 + 3 * k)] _ (fun x => x = b) rfl rfl rfl rfl (Sp.cons (by repeat constructor) (Sp.refl _)) (fun x hx => ⟨_, .head _, hx⟩) (fun w' hs => drawP_ca (20) (K + 1 + 3 * k) (by omega) w' b lo hi bs (hby.keepP hlh hs.chg) hlh (hs.all _ (.head _))) ?_; rintro x1 _ ⟨rfl, hx1⟩
    ((iterate 2 refine ql_ar tabOk rfl rfl rfl rfl (by omega) (by omega) ?_); refine ql_pure tabOk rfl rfl ?_)
    refine ql_call (β := Int) (ψ := fun zq v => v = .int .i64 zq ∧ 0 ≤ zq ∧ (zq < 12 ∨ zq = 0)) (L' := fun _ => [dkP bs b (K + 1 + 3 * k + 1 + 1)]) tabOk [dkP bs b (K + 1 + 3 * k + 1)] _ (fun x => x = b) rfl rfl rfl rfl (Sp.cons (by repeat constructor) (Sp.refl _)) (fun x hx => ⟨_, .head _, hx⟩) (fun w' hs => drawP_ca (12) (K + 1 + 3 * k + 1) (by omega) w' b lo hi bs (hby.keepP hlh hs.chg) hlh (hs.all _ (.head _))) ?_; rintro x2 _ ⟨rfl, hx2⟩
    (refine ql_ar tabOk rfl rfl rfl rfl (by omega) (by omega) ?_; refine ql_pure tabOk rfl rfl ?_)
    refine ql_call (β := Int) (ψ := fun zq v => v = .int .i64 zq ∧ 4 ≤ zq ∧ zq ≤ 8) (L' := fun _ => [dkP bs b (K + 1 + 3 * k + 1 + 1 + 1)]) tabOk [dkP bs b (K + 1 + 3 * k + 1 + 1)] _ (fun x => x = b) rfl rfl rfl rfl (Sp.cons (by repeat constructor) (Sp.refl _)) (fun x hx => ⟨_, .head _, hx⟩) (fun w' hs => between_ca (4) (8) (by omega) (by omega) (by omega) (K + 1 + 3 * k + 1 + 1) (by omega) w' b lo hi bs (hby.keepP hlh hs.chg) hlh (hs.all _ (.head _))) ?_; rintro x3 _ ⟨rfl, hx3⟩
    skip
    refine ql_mk #[.int .i64 (1500 + 100 * x1), .int .i64 (10 * x2), .int .i64 x3] rfl (by kernel_rfl) rfl ?_
    refine ql_mkS 32 (lpC [⟨1500 + 100 * x1, 10 * x2, x3⟩]) rfl (by kernel_rfl) rfl (fun bn => ?_)
    refine ql_append (q := 1) slLp rfl rfl rfl (fun v' => by repeat constructor) (fun w' hs => ⟨_, _, Blk.rdLp (hs.blk (b := bn) (by repeat first | exact .head _ | refine .tail _ ?_))⟩) (lpC_one _) (by omega) (by omega) (fun u => ?_)
    (refine ql_pure tabOk rfl rfl ?_; refine q_nil ?_; refine q_blk ?_; refine q_region ?_; refine ql_ar tabOk rfl rfl rfl rfl (by omega) (by omega) ?_; refine ql_pure tabOk rfl rfl ?_; refine q_nil ?_)
    have e := lpC_snoc l ⟨1500 + 100 * x1, 10 * x2, x3⟩
    exact hK1 (u, l ++ [⟨1500 + 100 * x1, 10 * x2, x3⟩]) _ _ ⟨by simp only [List.length_append, List.length_cons, List.length_nil]; omega, fun d hd => by
      rcases List.mem_append.1 hd with hd | hd
      · exact hB d hd
      · obtain rfl := List.mem_singleton.1 hd
        exact ⟨by simp only; omega, by simp only; omega, hx3⟩⟩ (by simp only [List.length_append, List.length_cons, List.length_nil]; omega) ⟨rfl, rfl, rfl, rfl, rfl, lookI rfl (by simp; omega), trivial⟩ (by dsimp only; rw [e, List.length_append, ← hk]; repeat (first | exact Sp.nil | exact Sp.refl _ | refine Sp.cons (by repeat constructor) ?_))
  · have hle : l.length = cn := by omega
    clear hc hK1
    rw [hle]
    refine q_fact (fun w hs => hs.ownSome (v := v) (by repeat first | exact .head _ | refine .tail _ ?_) (by omega)) ?_
    rintro ⟨g, cd, rfl⟩
    (refine q_exit _ rfl ?_; refine q_seq ?_; refine q_region ?_; (iterate 2 refine ql_pure tabOk rfl rfl ?_))
    refine ql_call (β := Int) (ψ := fun zq v => v = .int .i64 zq ∧ 1 ≤ zq ∧ zq ≤ laps) (L' := fun _ => [dkP bs b (K + 1 + 3 * cn + 1)]) tabOk [dkP bs b (K + 1 + 3 * cn)] _ (fun x => x = b) rfl rfl rfl rfl (Sp.cons (by repeat constructor) (Sp.refl _)) (fun x hx => ⟨_, .head _, hx⟩) (fun w' hs => between_ca (1) (laps) (by omega) (by omega) (by omega) (K + 1 + 3 * cn) (by omega) w' b lo hi bs (hby.keepP hlh hs.chg) hlh (hs.all _ (.head _))) ?_; rintro la _ ⟨rfl, hla⟩
    (refine ql_pure tabOk rfl rfl ?_)
    refine ql_call (β := Int) (ψ := fun zq v => v = .int .i64 zq ∧ 3 ≤ zq ∧ zq ≤ 5) (L' := fun _ => [dkP bs b (K + 1 + 3 * cn + 1 + 1)]) tabOk [dkP bs b (K + 1 + 3 * cn + 1)] _ (fun x => x = b) rfl rfl rfl rfl (Sp.cons (by repeat constructor) (Sp.refl _)) (fun x hx => ⟨_, .head _, hx⟩) (fun w' hs => between_ca (3) (5) (by omega) (by omega) (by omega) (K + 1 + 3 * cn + 1) (by omega) w' b lo hi bs (hby.keepP hlh hs.chg) hlh (hs.all _ (.head _))) ?_; rintro wd _ ⟨rfl, hwd⟩
    ((iterate 2 refine ql_pure tabOk rfl rfl ?_))
    refine ql_call (β := Int) (ψ := fun zq v => v = .int .i64 zq ∧ 1 ≤ zq ∧ zq ≤ laps) (L' := fun _ => [dkP bs b (K + 1 + 3 * cn + 1 + 1 + 1)]) tabOk [dkP bs b (K + 1 + 3 * cn + 1 + 1)] _ (fun x => x = b) rfl rfl rfl rfl (Sp.cons (by repeat constructor) (Sp.refl _)) (fun x hx => ⟨_, .head _, hx⟩) (fun w' hs => between_ca (1) (laps) (by omega) (by omega) (by omega) (K + 1 + 3 * cn + 1 + 1) (by omega) w' b lo hi bs (hby.keepP hlh hs.chg) hlh (hs.all _ (.head _))) ?_; rintro us _ ⟨rfl, hus⟩
    refine ql_mk #[.int .i64 la, .int .i64 0, .int .i64 0, .int .i64 0, .int .i64 0, .int .i64 0, .int .i64 0, .int .i64 wd, .int .i64 us] rfl (by kernel_rfl) rfl ?_
    refine ql_alloc zero27 rfl (fun b9 => ?_)
    (refine ql_setA tabOk rfl rfl rfl rfl rfl (by repeat constructor) rfl ?_; refine q_nil ?_; refine q_seq ?_)
    refine q_draw _ [dkP bs b (K + 1 + 3 * cn + 1 + 1 + 1)] (Sp.cons (by repeat constructor) (Sp.refl _)) (by kernel_rfl) (by kernel_rfl) ?_
    (refine qf_pure tabOk rfl rfl rfl ?_; refine qf_loadB tabOk rfl rfl rfl (by repeat first | exact .head _ | refine .tail _ ?_) (by rfl) ?_; refine qf_pure tabOk rfl rfl rfl ?_)
    refine qf_call (β := Int) (ψ := fun zq v => v = .int .i64 zq ∧ 0 ≤ zq ∧ (zq < 12 ∨ zq = 0)) (L' := fun _ => [dkP bs b (K + 1 + 3 * cn + 1 + 1 + 1 + 1)]) tabOk [dkP bs b (K + 1 + 3 * cn + 1 + 1 + 1)] _ (fun x => x = b) rfl rfl rfl rfl (Sp.cons (by repeat constructor) (Sp.refl _)) (fun x hx => ⟨_, .head _, hx⟩) (fun w' hs => drawP_ca (12) (K + 1 + 3 * cn + 1 + 1 + 1) (by omega) w' b lo hi bs (hby.keepP hlh hs.chg) hlh (hs.all _ (.head _))) ?_; rintro y1 _ ⟨rfl, hy1⟩
    have hm1 := mul_bd (a := la) (b := 1500 + 100 * y1) (A := 6) (B := 2600) (by omega) (by omega) (by omega) (by omega)
    ((iterate 3 refine qf_ar tabOk rfl rfl rfl rfl (by omega) (by omega) ?_); refine qf_pure tabOk rfl rfl rfl ?_)
    refine qf_call (β := Int) (ψ := fun zq v => v = .int .i64 zq ∧ 0 ≤ zq ∧ (zq < 8 ∨ zq = 0)) (L' := fun _ => [dkP bs b (K + 1 + 3 * cn + 1 + 1 + 1 + 1 + 1)]) tabOk [dkP bs b (K + 1 + 3 * cn + 1 + 1 + 1 + 1)] _ (fun x => x = b) rfl rfl rfl rfl (Sp.cons (by repeat constructor) (Sp.refl _)) (fun x hx => ⟨_, .head _, hx⟩) (fun w' hs => drawP_ca (8) (K + 1 + 3 * cn + 1 + 1 + 1 + 1) (by omega) w' b lo hi bs (hby.keepP hlh hs.chg) hlh (hs.all _ (.head _))) ?_; rintro y2 _ ⟨rfl, hy2⟩
    have hm2 := mul_bd (a := 10 * y2) (b := la) (A := 70) (B := 6) (by omega) (by omega) (by omega) (by omega)
    (refine qf_ar tabOk rfl rfl rfl rfl (by omega) (by omega) ?_; refine qf_pure tabOk rfl rfl rfl ?_; refine qf_loadB tabOk rfl rfl rfl (by repeat first | exact .head _ | refine .tail _ ?_) (by rfl) ?_; refine qf_ar tabOk rfl rfl rfl rfl (by omega) (by omega) ?_; (iterate 2 refine qf_pure tabOk rfl rfl rfl ?_); refine qf_nil ?_; refine q_seq ?_; refine q_region ?_; (iterate 3 refine ql_pure tabOk rfl rfl ?_))
    generalize la * (1500 + 100 * y1) = q1 at *
    generalize 10 * y2 * la = q2 at *
    refine ql_call (β := Int) (ψ := fun zq v => v = .int .i64 zq ∧ 0 ≤ zq ∧ (zq < 30 ∨ zq = 0)) (L' := fun _ => [dkP bs b (K + 1 + 3 * cn + 1 + 1 + 1 + 1 + 1 + 1)]) tabOk [dkP bs b (K + 1 + 3 * cn + 1 + 1 + 1 + 1 + 1)] _ (fun x => x = b) rfl rfl rfl rfl (Sp.cons (by repeat constructor) (Sp.refl _)) (fun x hx => ⟨_, .head _, hx⟩) (fun w' hs => drawP_ca (30) (K + 1 + 3 * cn + 1 + 1 + 1 + 1 + 1) (by omega) w' b lo hi bs (hby.keepP hlh hs.chg) hlh (hs.all _ (.head _))) ?_; rintro z1 _ ⟨rfl, hz1⟩
    ((iterate 2 refine ql_ar tabOk rfl rfl rfl rfl (by omega) (by omega) ?_))
    refine ql_callv tabOk rfl rfl rfl rfl (fun w hs => spanM_ca _ _ w) ?_
    ((iterate 3 refine ql_pure tabOk rfl rfl ?_))
    refine ql_call (β := Int) (ψ := fun zq v => v = .int .i64 zq ∧ 0 ≤ zq ∧ (zq < 40 ∨ zq = 0)) (L' := fun _ => [dkP bs b (K + 1 + 3 * cn + 1 + 1 + 1 + 1 + 1 + 1 + 1)]) tabOk [dkP bs b (K + 1 + 3 * cn + 1 + 1 + 1 + 1 + 1 + 1)] _ (fun x => x = b) rfl rfl rfl rfl (Sp.cons (by repeat constructor) (Sp.refl _)) (fun x hx => ⟨_, .head _, hx⟩) (fun w' hs => drawP_ca (40) (K + 1 + 3 * cn + 1 + 1 + 1 + 1 + 1 + 1) (by omega) w' b lo hi bs (hby.keepP hlh hs.chg) hlh (hs.all _ (.head _))) ?_; rintro z2 _ ⟨rfl, hz2⟩
    ((iterate 2 refine ql_ar tabOk rfl rfl rfl rfl (by omega) (by omega) ?_))
    refine ql_callv tabOk rfl rfl rfl rfl (fun w hs => spanM_ca _ _ w) ?_
    (refine ql_pure tabOk rfl rfl ?_)
    refine ql_call (β := Int) (ψ := fun zq v => v = .int .i64 zq ∧ 0 ≤ zq ∧ (zq < 4 ∨ zq = 0)) (L' := fun _ => [dkP bs b (K + 1 + 3 * cn + 1 + 1 + 1 + 1 + 1 + 1 + 1 + 1)]) tabOk [dkP bs b (K + 1 + 3 * cn + 1 + 1 + 1 + 1 + 1 + 1 + 1)] _ (fun x => x = b) rfl rfl rfl rfl (Sp.cons (by repeat constructor) (Sp.refl _)) (fun x hx => ⟨_, .head _, hx⟩) (fun w' hs => drawP_ca (4) (K + 1 + 3 * cn + 1 + 1 + 1 + 1 + 1 + 1 + 1) (by omega) w' b lo hi bs (hby.keepP hlh hs.chg) hlh (hs.all _ (.head _))) ?_; rintro z3 _ ⟨rfl, hz3⟩
    ((iterate 2 refine ql_ar tabOk rfl rfl rfl rfl (by omega) (by omega) ?_); refine ql_pure tabOk rfl rfl ?_)
    refine ql_call (β := Int) (ψ := fun zq v => v = .int .i64 zq ∧ 0 ≤ zq ∧ (zq < 10 ∨ zq = 0)) (L' := fun _ => [dkP bs b (K + 1 + 3 * cn + 1 + 1 + 1 + 1 + 1 + 1 + 1 + 1 + 1)]) tabOk [dkP bs b (K + 1 + 3 * cn + 1 + 1 + 1 + 1 + 1 + 1 + 1 + 1)] _ (fun x => x = b) rfl rfl rfl rfl (Sp.cons (by repeat constructor) (Sp.refl _)) (fun x hx => ⟨_, .head _, hx⟩) (fun w' hs => drawP_ca (10) (K + 1 + 3 * cn + 1 + 1 + 1 + 1 + 1 + 1 + 1 + 1) (by omega) w' b lo hi bs (hby.keepP hlh hs.chg) hlh (hs.all _ (.head _))) ?_; rintro z4 _ ⟨rfl, hz4⟩
    ((iterate 2 refine ql_ar tabOk rfl rfl rfl rfl (by omega) (by omega) ?_))
    refine ql_callv tabOk rfl rfl rfl rfl (fun w hs => spanM_ca _ _ w) ?_
    (refine ql_pure tabOk rfl rfl ?_)
    refine ql_stA [.int .i64 la, .int .i64 q1, .int .i64 (q1 + 100 * z1), .int .i64 0, .int .i64 0, .int .i64 0, .int .i64 0, .int .i64 wd, .int .i64 us] tabOk rfl rfl rfl rfl rfl (by repeat constructor) rfl rfl ?_
    (refine ql_pure tabOk rfl rfl ?_)
    refine ql_stA [.int .i64 la, .int .i64 q1, .int .i64 (q1 + 100 * z1), .int .i64 q2, .int .i64 (q2 + 10 * z2), .int .i64 0, .int .i64 0, .int .i64 wd, .int .i64 us] tabOk rfl rfl rfl rfl rfl (by repeat constructor) rfl rfl ?_
    (refine ql_pure tabOk rfl rfl ?_)
    refine ql_stA [.int .i64 la, .int .i64 q1, .int .i64 (q1 + 100 * z1), .int .i64 q2, .int .i64 (q2 + 10 * z2), .int .i64 (1500 + 100 * z3), .int .i64 (2500 + 100 * z4), .int .i64 wd, .int .i64 us] tabOk rfl rfl rfl rfl rfl (by repeat constructor) rfl rfl ?_
    (refine q_nil ?_; refine q_seq ?_)
    refine q_draw _ [.pt b7 _ _] (Sp.cons (by repeat constructor) (Sp.refl _)) (by kernel_rfl) (by kernel_rfl) ?_
    (refine qf_pure tabOk rfl rfl rfl ?_; refine qf_loadAB tabOk rfl rfl rfl (by repeat first | exact .head _ | refine .tail _ ?_) (by rfl) (by rfl) ?_; refine qf_pure tabOk rfl rfl rfl ?_; refine qf_setA tabOk rfl rfl rfl rfl rfl (by repeat constructor) rfl ?_; refine qf_nil ?_; refine q_ret ?_)
    refine q_fin tabOk rfl (by repeat (first | exact RVs.nil | apply RVs.tmp rfl | apply RVs.cellA rfl rfl (by repeat first | exact .head _ | refine .tail _ ?_) (by rfl) | apply RVs.cell1 rfl rfl (by repeat first | exact .head _ | refine .tail _ ?_))) fun w hs => ?_
    exact ⟨(g, cd, l, ⟨la, q1, q1 + 100 * z1, q2, q2 + 10 * z2, 1500 + 100 * z3, 2500 + 100 * z4, wd, us⟩), ⟨by rw [hle]; rfl, ⟨by simp only; omega, by simp only; omega, hB, by simp only; omega, by simp only; omega, by simp only; omega, by simp only; omega, by simp only; omega, by simp only; omega⟩⟩, by
      dsimp only
      rw [hle]
      exact (Sat.dk (K' := K + 100) (R := [.ow (.slice (some ⟨g, 0, none⟩) cn cd) 32 3 cn (lpC l)]) (hs.sp (by repeat (first | exact Sp.nil | exact Sp.refl _ | refine Sp.cons (by repeat constructor) ?_))) (by omega)).sp (by repeat (first | exact Sp.nil | exact Sp.refl _ | refine Sp.cons (by repeat constructor) ?_))⟩
end Go.Proofs.YtgeajgmefokifaaGreat

/- Walks: a list is sorted; a course is dealt. -/
namespace Go.Proofs.YtgeajgmefokifaaGreat
open Go Go.Eng

theorem getD_set (L : List Int) (i p : Nat) (v : Int) (hi : i < L.length) : (L.set i v).getD p 0 = if p = i then v else L.getD p 0 := by
  simp only [List.getD_eq_getElem?_getD, List.getElem?_set]
  by_cases h : i = p
  · rw [if_pos h, if_pos h.symm, if_pos hi]
    rfl
  · rw [if_neg h, if_neg (fun hh => h hh.symm)]
structure InsI (l L : List Int) (i : Nat) : Prop where
  perm : L.Perm l
  srt : ∀ p q, p < q → q < i → L.getD p 0 ≤ L.getD q 0
structure InsJ (l L : List Int) (i j : Nat) : Prop where
  perm : L.Perm l
  ji : j ≤ i
  srt : ∀ p q, p < q → q ≤ i → p ≠ j → q ≠ j → L.getD p 0 ≤ L.getD q 0
  low : ∀ q, j < q → q ≤ i → L.getD j 0 ≤ L.getD q 0
theorem InsI.open {l L : List Int} {i : Nat} (h : InsI l L i) : InsJ l L i i := ⟨h.perm, Nat.le_refl _, fun p q h1 h2 _ h3 => h.srt p q h1 (by omega), fun q h1 h2 => by omega⟩
theorem InsJ.close {l L : List Int} {i j : Nat} (h : InsJ l L i j) (hj : j = 0 ∨ L.getD (j - 1) 0 ≤ L.getD j 0) : InsI l L (i + 1) := by
  refine ⟨h.perm, fun p q h1 h2 => ?_⟩
  by_cases hp : p = j
  · subst hp
    exact h.low q h1 (by omega)
  by_cases hq : q = j
  · subst hq
    rcases hj with hj | hj
    · omega
    · by_cases hp2 : p = q - 1
      · subst hp2; exact hj
      · have := h.srt p (q - 1) (by omega) (by have := h.ji; omega) hp (by omega)
        omega
  · exact h.srt p q h1 (by omega) hp hq
theorem InsJ.swap {l L : List Int} {i j : Nat} (h : InsJ l L i j) (hj : 0 < j) (hi : i < L.length) (hlt : L.getD j 0 < L.getD (j - 1) 0) {x y : Int} (hx : L.getD (j - 1) 0 = x) (hy : L.getD j 0 = y) : InsJ l ((L.set j x).set (j - 1) y) i (j - 1) := by
  have hji := h.ji
  have e : ∀ p, ((L.set j x).set (j - 1) y).getD p 0 = if p = j - 1 then y else if p = j then x else L.getD p 0 := fun p => by
    rw [getD_set _ _ _ _ (by simp; omega), getD_set _ _ _ _ (by omega)]
  refine ⟨List.Perm.trans ?_ h.perm, by omega, fun p q h1 h2 h3 h4 => ?_, fun q h1 h2 => ?_⟩
  · have h1 : j < L.length := by omega
    have h2 : j - 1 < L.length := by omega
    have ex : x = L[j - 1] := by rw [← hx, getD_at h2]
    have ey : y = L[j] := by rw [← hy, getD_at h1]
    subst ex ey
    exact List.set_set_perm h1 h2
  · rw [e, e, if_neg h3, if_neg h4]
    by_cases hp : p = j
    · rw [if_pos hp, if_neg (by omega), ← hx]
      exact h.srt (j - 1) q (by omega) h2 (by omega) (by omega)
    · rw [if_neg hp]
      by_cases hq : q = j
      · rw [if_pos hq, ← hx]
        exact h.srt p (j - 1) (by omega) (by omega) hp (by omega)
      · rw [if_neg hq]
        exact h.srt p q h1 h2 hp hq
  · rw [e, e, if_pos rfl, if_neg (by omega), ← hy]
    by_cases hq : q = j
    · rw [if_pos hq]
      omega
    · rw [if_neg hq]
      exact h.low q (by omega) h2
theorem InsI.all {l L : List Int} (h : InsI l L L.length) : srtB L = true := by
  rw [ordB_srt]
  refine List.all_eq_true.2 fun i hi => ?_
  have hi := List.mem_range.1 hi
  have := h.srt i (i + 1) (by omega) (by omega)
  simpa using this
set_option maxHeartbeats 4000000 in
theorem ins_ca (w : World) (g c : Nat) (l : List Int) (h1 : 1 ≤ l.length) (hl : l.length ≤ 12) (hb : w.ownsRow 0 3 1 (.slice (some ⟨g, 0, none⟩) l.length c) l.length (ints l)) :
    Ca Tryz.prog 128 [.slice (some ⟨g, 0, none⟩) l.length c, .int .i64 0, .int .i64 l.length] w fun v w' => ∃ L : List Int, (v = .tuple #[] ∧ L.Perm l ∧ srtB L = true) ∧ Sat w (fun x => x = g) [.ow (.slice (some ⟨g, 0, none⟩) l.length c) 3 1 l.length (ints L)] w' := by
  refine q_of (Sat.own0 hb) Tryz.func128 rfl (by simp [Tryz.ntmps128]) ?_
  (refine q_seq ?_; refine q_region ?_; refine ql_pure tabOk rfl rfl ?_; refine ql_ar tabOk rfl rfl rfl rfl (by omega) (by omega) ?_; refine ql_pure tabOk rfl rfl ?_; refine q_nil ?_; refine q_block ?_)
  refine q_loop (σ := Nat × List Int) (fun s => 1 ≤ s.1 ∧ s.1 ≤ l.length ∧ InsI l s.2 s.1) (fun s => l.length - s.1) (fun s => [(0, .slice (some ⟨g, 0, none⟩) l.length c), (1, .int .i64 0), (2, .int .i64 l.length), (6, .int .i64 s.1)])
    (fun s => [.ow (.slice (some ⟨g, 0, none⟩) l.length c) 3 1 l.length (ints s.2)]) (1, l) ⟨by simp, h1, .refl _, fun p q h1 h2 => by simp only at h2; omega⟩ ⟨rfl, rfl, rfl, rfl, trivial⟩ (by repeat (first | exact Sp.nil | exact Sp.refl _ | refine Sp.cons (by repeat constructor) ?_)) ?_
  rintro ⟨i, L⟩ ⟨hi1, hi2, hI⟩ K hK
  simp only at hi1 hi2 hI
  dsimp only
  ((iterate 2 refine q_seq ?_); refine q_region ?_; (iterate 3 refine ql_pure tabOk rfl rfl ?_); refine q_nil ?_)
  refine q_if rfl (fun hc => ?_) (fun hc => ?_)
  · have hi3 : i < l.length := by omega
    clear hc
    (refine q_skip ?_; refine q_seq ?_; refine q_block ?_; refine q_seq ?_; refine q_region ?_; (iterate 2 refine ql_pure tabOk rfl rfl ?_); refine q_nil ?_; refine q_block ?_)
    refine q_loop (σ := Nat × List Int) (fun s => InsJ l s.2 i s.1) (fun s => s.1) (fun s => [(0, .slice (some ⟨g, 0, none⟩) l.length c), (1, .int .i64 0), (2, .int .i64 l.length), (6, .int .i64 i), (7, .int .i64 s.1)])
      (fun s => [.ow (.slice (some ⟨g, 0, none⟩) l.length c) 3 1 l.length (ints s.2)]) (i, L) hI.open ⟨rfl, rfl, rfl, rfl, rfl, trivial⟩ (by repeat (first | exact Sp.nil | exact Sp.refl _ | refine Sp.cons (by repeat constructor) ?_)) ?_
    rintro ⟨j, L2⟩ hJ K2 hK2
    simp only at hJ
    dsimp only
    have hji := hJ.ji
    have hlen : L2.length = l.length := hJ.perm.length_eq
    by_cases hj0 : 0 < j
    · have y1 : j < L2.length := by omega
      have y2 : j - 1 < L2.length := by omega
      have g1 := getD_at y1
      have g2 := getD_at y2
      obtain ⟨q, hq⟩ : ∃ q : Nat, (q : Int) = (j : Int) - 1 := ⟨j - 1, by omega⟩
      have hq2 : j - 1 = q := by omega
      simp only [hq2] at y2 g2
      have hclose := hJ.close
      have hswap := hJ.swap hj0 (by omega)
      simp only [hq2] at hclose hswap
      ((iterate 2 refine q_seq ?_))
      refine q_draw _ [] (Sp.refl _) (by kernel_rfl) (by kernel_rfl) ?_
      ((iterate 2 refine qf_pure tabOk rfl rfl rfl ?_); refine qf_gtrT tabOk rfl rfl rfl (by omega) ?_; refine qf_pure tabOk rfl rfl rfl ?_; refine qf_gyes rfl ?_; refine qf_pure tabOk rfl rfl rfl ?_; refine qf_gyes rfl ?_; refine qf_pure tabOk rfl rfl rfl ?_; refine qf_gyes rfl ?_)
      refine qf_index tabOk rfl rfl rfl rfl rfl (by omega) (by omega) ?_
      (refine qf_gyes rfl ?_)
      refine qf_load1 (v := .int .i64 L2[j]) tabOk rfl rfl rfl (fun w hs => RdI.at (hs.rdI (v := .slice (some ⟨g, 0, none⟩) l.length c) (l := L2) (t := 3) (n := l.length) (by repeat first | exact .head _ | refine .tail _ ?_) hlen.symm) j y1) ?_
      (refine qf_gyes rfl ?_; refine qf_pure tabOk rfl rfl rfl ?_; refine qf_gyes rfl ?_; refine qf_pure tabOk rfl rfl rfl ?_; refine qf_gyes rfl ?_; refine qf_ar tabOk rfl rfl rfl rfl (by omega) (by omega) ?_; refine qf_gyes rfl ?_)
      rw [← hq]
      refine qf_index tabOk rfl rfl rfl rfl rfl (by omega) (by omega) ?_
      (refine qf_gyes rfl ?_)
      refine qf_load1 (v := .int .i64 L2[q]) tabOk rfl rfl rfl (fun w hs => RdI.at (hs.rdI (v := .slice (some ⟨g, 0, none⟩) l.length c) (l := L2) (t := 3) (n := l.length) (by repeat first | exact .head _ | refine .tail _ ?_) hlen.symm) q y2) ?_
      (refine qf_gyes rfl ?_)
      refine qf_callv (val := .bool (decide (L2[j] < L2[q]))) tabOk rfl rfl rfl rfl (fun w hs => ?_) ?_; exact lessI_ca L2[j] L2[q] w
      by_cases hlt : L2[j] < L2[q]
      · have hs2 := hswap (by omega) g2 g1
        rw [decide_eq_true hlt]
        (refine qf_pure tabOk rfl rfl rfl ?_; refine qf_nil ?_; refine q_cond_true rfl ?_; refine q_skip ?_; refine q_seq ?_; refine q_block ?_)
        refine q_drawB [true, true, false, false, false, true, true, true, true, true, true, true, true, true, false, false, false, false] [] [.ow (.slice (some ⟨g, 0, none⟩) l.length c) 3 1 l.length (ints L2)] (by repeat (first | exact Sp.nil | exact Sp.refl _ | refine Sp.cons (by repeat constructor) ?_)) (by kernel_rfl) (by kernel_rfl) (by kernel_rfl) ?_
        refine qb_T 2 rfl rfl (Sp.refl _) fun K1 hK1 => ?_
        ((iterate 2 refine qf_pure tabOk rfl rfl rfl ?_); refine qf_nil ?_)
        refine hK1 _ _ (qb_F 3 [.ow (.slice (some ⟨g, 0, none⟩) l.length c) 3 1 l.length (ints L2)] rfl rfl (by repeat (first | exact Sp.nil | exact Sp.refl _ | refine Sp.cons (by repeat constructor) ?_)) fun K1 hK1 => ?_)
        ((iterate 2 refine qf_pure tabOk rfl rfl rfl ?_); refine qf_ar tabOk rfl rfl rfl rfl (by omega) (by omega) ?_; refine qf_nil ?_)
        refine hK1 _ _ (qb_T 9 rfl rfl (by repeat (first | exact Sp.nil | exact Sp.refl _ | refine Sp.cons (by repeat constructor) ?_)) fun K1 hK1 => ?_)
        ((iterate 2 refine qf_pure tabOk rfl rfl rfl ?_); refine qf_ar tabOk rfl rfl rfl rfl (by omega) (by omega) ?_)
        rw [← hq]
        (refine qf_index tabOk rfl rfl rfl rfl rfl (by omega) (by omega) ?_; refine qf_load1 tabOk rfl rfl rfl (fun w hs => RdI.at (hs.rdI (l := L2) (t := 3) (n := l.length) (by repeat first | exact .head _ | refine .tail _ ?_) hlen.symm) q y2) ?_)
        ((iterate 2 refine qf_pure tabOk rfl rfl rfl ?_))
        (refine qf_index tabOk rfl rfl rfl rfl rfl (by omega) (by omega) ?_; refine qf_load1 tabOk rfl rfl rfl (fun w hs => RdI.at (hs.rdI (l := L2) (t := 3) (n := l.length) (by repeat first | exact .head _ | refine .tail _ ?_) hlen.symm) j y1) ?_)
        (refine qf_nil ?_)
        refine hK1 _ _ (qb_F 4 [.ow (.slice (some ⟨g, 0, none⟩) l.length c) 3 1 l.length (ints L2)] rfl rfl (by repeat (first | exact Sp.nil | exact Sp.refl _ | refine Sp.cons (by repeat constructor) ?_)) fun K1 hK1 => ?_)
        skip
        refine qf_index tabOk rfl rfl rfl rfl rfl (by omega) (by omega) ?_
        refine qf_storeW tabOk j rfl rfl rfl rfl (by repeat constructor) (by omega) (by simpa using y1) ?_
        skip
        refine qf_index tabOk rfl rfl rfl rfl rfl (by omega) (by omega) ?_
        refine qf_storeW tabOk q rfl rfl rfl rfl (by repeat constructor) (by omega) (by simpa using y2) ?_
        rw [set_ints, set_ints]
        (refine qf_nil ?_)
        refine hK1 _ _ (qb_nil ?_)
        (refine q_blk ?_; refine q_region ?_; refine ql_pure tabOk rfl rfl ?_; refine ql_ar tabOk rfl rfl rfl rfl (by omega) (by omega) ?_; refine ql_pure tabOk rfl rfl ?_; refine q_nil ?_)
        exact hK2 (q, _) _ _ hs2 (by simp only; omega) ⟨rfl, rfl, rfl, rfl, lookI rfl (by omega), trivial⟩ (by repeat (first | exact Sp.nil | exact Sp.refl _ | refine Sp.cons (by repeat constructor) ?_))
      · have hI2 := hclose (.inr (by omega))
        rw [decide_eq_false hlt]
        (refine qf_pure tabOk rfl rfl rfl ?_; refine qf_nil ?_; refine q_cond_false rfl ?_; refine q_exit _ rfl ?_; refine q_blk ?_; refine q_region ?_; refine ql_pure tabOk rfl rfl ?_; refine ql_ar tabOk rfl rfl rfl rfl (by omega) (by omega) ?_; refine ql_pure tabOk rfl rfl ?_; refine q_nil ?_)
        exact hK (i + 1, L2) _ _ ⟨by simp only; omega, by simp only; omega, hI2⟩ (by simp only; omega) ⟨rfl, rfl, rfl, rfl, trivial⟩ (by repeat (first | exact Sp.nil | exact Sp.refl _ | refine Sp.cons (by repeat constructor) ?_))
    · have hI2 := hJ.close (.inl (by omega))
      obtain rfl : j = 0 := by omega
      ((iterate 2 refine q_seq ?_))
      refine q_draw _ [] (Sp.refl _) (by kernel_rfl) (by kernel_rfl) ?_
      ((iterate 2 refine qf_pure tabOk rfl rfl rfl ?_); refine qf_gtrF tabOk rfl rfl rfl (by omega) ?_; refine qf_pure tabOk rfl rfl rfl ?_; (iterate 10 refine qf_gno rfl rfl rfl ?_); refine qf_pure tabOk rfl rfl rfl ?_; refine qf_nil ?_; refine q_cond_false rfl ?_; refine q_exit _ rfl ?_; refine q_blk ?_; refine q_region ?_; refine ql_pure tabOk rfl rfl ?_; refine ql_ar tabOk rfl rfl rfl rfl (by omega) (by omega) ?_; refine ql_pure tabOk rfl rfl ?_; refine q_nil ?_)
      exact hK (i + 1, L2) _ _ ⟨by simp only; omega, by simp only; omega, hI2⟩ (by simp only; omega) ⟨rfl, rfl, rfl, rfl, trivial⟩ (by repeat (first | exact Sp.nil | exact Sp.refl _ | refine Sp.cons (by repeat constructor) ?_))
  · obtain rfl : i = l.length := by omega
    have hlen : L.length = l.length := hI.perm.length_eq
    (refine q_exit _ rfl ?_)
    refine q_end tabOk rfl (by repeat (first | exact RVs.nil | apply RVs.tmp rfl | apply RVs.cellA rfl rfl (by repeat first | exact .head _ | refine .tail _ ?_) (by rfl) | apply RVs.cell1 rfl rfl (by repeat first | exact .head _ | refine .tail _ ?_))) fun w hs => ?_
    exact ⟨L, ⟨rfl, hI.perm, InsI.all (by rw [hlen]; exact hI)⟩, hs⟩
end Go.Proofs.YtgeajgmefokifaaGreat

/- The engine, part B28: a byte of a string. -/
namespace Go.Eng
open Go Go.RowKit

section
variable {P : Program} {T : Tab}
variable {ro : Cx} {n : Nat} {F : Fin} {w0 : World} {M : Nat → Prop} {k : List It} {ops : Array Oper} {rest : List Oper} {e : Env} {H Hq : List Ck}
theorem ql_strAt {d xt : Nat} {x ix : Operand} (s : ByteArray) (ik : IntKind) (i : Nat) (c : UInt8) {ty : TypeId} {pos : String} {af : Array Edge} (hu : P.underlying xt = some .string)
    (hx : opv e x = some (.string s)) (hi : opv e ix = some (.int ik i)) (hc : s[i]? = some c) (hd : Nat.blt d n = true)
    (h : QL P ro n F w0 M k ops rest ((d, .int .u8 c.toNat) :: e) H) : QL P ro n F w0 M k ops (⟨some d, .index xt x ix, ty, pos, af, none⟩ :: rest) e H := .mk fun w hs => by
  refine yl_val (by simp) hd (fun a hf => ?_) (h.h w hs)
  have e1 := hf.op hx
  have e2 := hf.op hi
  simp only [execOp, e1, e2]
  simp [Instr.index, asIntOf, run_underlying hu, hc]
end
end Go.Eng

/- Walks: short lists are sorted; a course is dealt. -/
namespace Go.Proofs.YtgeajgmefokifaaGreat
open Go Go.Eng

theorem und_str : Tryz.prog.underlying 9 = some .string := by kernel_rfl
set_option maxHeartbeats 4000000 in
theorem len64_ca (n : Nat) (hn : n ≤ 12) (w : World) : Ca Tryz.prog 138 [.int .u64 n] w fun v w' => ∃ x : Int, v = .int .i64 x ∧ Sat w M0 [] w' := by
  refine q_of (Sat.nil w M0) Tryz.func138 rfl (by simp [Tryz.ntmps138]) ?_
  obtain rfl | rfl | rfl | rfl | rfl | rfl | rfl | rfl | rfl | rfl | rfl | rfl | rfl : n = 0 ∨ n = 1 ∨ n = 2 ∨ n = 3 ∨ n = 4 ∨ n = 5 ∨ n = 6 ∨ n = 7 ∨ n = 8 ∨ n = 9 ∨ n = 10 ∨ n = 11 ∨ n = 12 := by omega
  · (refine q_seq ?_; refine q_region ?_; refine ql_pure tabOk rfl rfl ?_; refine q_nil ?_; (iterate 2 refine q_seq ?_); refine q_region ?_; (iterate 2 refine ql_pure tabOk rfl rfl ?_); refine q_nil ?_; refine q_cond_false rfl ?_; refine q_skip ?_; (iterate 2 refine q_seq ?_); refine q_region ?_; (iterate 2 refine ql_pure tabOk rfl rfl ?_); refine q_nil ?_; refine q_cond_false rfl ?_; refine q_skip ?_; (iterate 2 refine q_seq ?_); refine q_region ?_; (iterate 2 refine ql_pure tabOk rfl rfl ?_); refine q_nil ?_; refine q_cond_false rfl ?_; refine q_skip ?_; refine q_seq ?_; refine q_region ?_; (iterate 3 refine ql_pure tabOk rfl rfl ?_))
    refine ql_strAt _ .u8 0 0 und_str rfl rfl (by kernel_rfl) rfl ?_
    ((iterate 3 refine ql_pure tabOk rfl rfl ?_); refine q_nil ?_; refine q_ret ?_)
    refine q_fin tabOk rfl (by repeat (first | exact RVs.nil | apply RVs.tmp rfl | apply RVs.cellA rfl rfl (by repeat first | exact .head _ | refine .tail _ ?_) (by rfl) | apply RVs.cell1 rfl rfl (by repeat first | exact .head _ | refine .tail _ ?_))) fun w hs => ?_
    exact ⟨_, rfl, hs⟩
  · (refine q_seq ?_; refine q_region ?_; refine ql_pure tabOk rfl rfl ?_; refine q_nil ?_; (iterate 2 refine q_seq ?_); refine q_region ?_; (iterate 2 refine ql_pure tabOk rfl rfl ?_); refine q_nil ?_; refine q_cond_false rfl ?_; refine q_skip ?_; (iterate 2 refine q_seq ?_); refine q_region ?_; (iterate 2 refine ql_pure tabOk rfl rfl ?_); refine q_nil ?_; refine q_cond_false rfl ?_; refine q_skip ?_; (iterate 2 refine q_seq ?_); refine q_region ?_; (iterate 2 refine ql_pure tabOk rfl rfl ?_); refine q_nil ?_; refine q_cond_false rfl ?_; refine q_skip ?_; refine q_seq ?_; refine q_region ?_; (iterate 3 refine ql_pure tabOk rfl rfl ?_))
    refine ql_strAt _ .u8 1 1 und_str rfl rfl (by kernel_rfl) rfl ?_
    ((iterate 3 refine ql_pure tabOk rfl rfl ?_); refine q_nil ?_; refine q_ret ?_)
    refine q_fin tabOk rfl (by repeat (first | exact RVs.nil | apply RVs.tmp rfl | apply RVs.cellA rfl rfl (by repeat first | exact .head _ | refine .tail _ ?_) (by rfl) | apply RVs.cell1 rfl rfl (by repeat first | exact .head _ | refine .tail _ ?_))) fun w hs => ?_
    exact ⟨_, rfl, hs⟩
  · (refine q_seq ?_; refine q_region ?_; refine ql_pure tabOk rfl rfl ?_; refine q_nil ?_; (iterate 2 refine q_seq ?_); refine q_region ?_; (iterate 2 refine ql_pure tabOk rfl rfl ?_); refine q_nil ?_; refine q_cond_false rfl ?_; refine q_skip ?_; (iterate 2 refine q_seq ?_); refine q_region ?_; (iterate 2 refine ql_pure tabOk rfl rfl ?_); refine q_nil ?_; refine q_cond_false rfl ?_; refine q_skip ?_; (iterate 2 refine q_seq ?_); refine q_region ?_; (iterate 2 refine ql_pure tabOk rfl rfl ?_); refine q_nil ?_; refine q_cond_false rfl ?_; refine q_skip ?_; refine q_seq ?_; refine q_region ?_; (iterate 3 refine ql_pure tabOk rfl rfl ?_))
    refine ql_strAt _ .u8 2 2 und_str rfl rfl (by kernel_rfl) rfl ?_
    ((iterate 3 refine ql_pure tabOk rfl rfl ?_); refine q_nil ?_; refine q_ret ?_)
    refine q_fin tabOk rfl (by repeat (first | exact RVs.nil | apply RVs.tmp rfl | apply RVs.cellA rfl rfl (by repeat first | exact .head _ | refine .tail _ ?_) (by rfl) | apply RVs.cell1 rfl rfl (by repeat first | exact .head _ | refine .tail _ ?_))) fun w hs => ?_
    exact ⟨_, rfl, hs⟩
  · (refine q_seq ?_; refine q_region ?_; refine ql_pure tabOk rfl rfl ?_; refine q_nil ?_; (iterate 2 refine q_seq ?_); refine q_region ?_; (iterate 2 refine ql_pure tabOk rfl rfl ?_); refine q_nil ?_; refine q_cond_false rfl ?_; refine q_skip ?_; (iterate 2 refine q_seq ?_); refine q_region ?_; (iterate 2 refine ql_pure tabOk rfl rfl ?_); refine q_nil ?_; refine q_cond_false rfl ?_; refine q_skip ?_; (iterate 2 refine q_seq ?_); refine q_region ?_; (iterate 2 refine ql_pure tabOk rfl rfl ?_); refine q_nil ?_; refine q_cond_false rfl ?_; refine q_skip ?_; refine q_seq ?_; refine q_region ?_; (iterate 3 refine ql_pure tabOk rfl rfl ?_))
    refine ql_strAt _ .u8 3 2 und_str rfl rfl (by kernel_rfl) rfl ?_
    ((iterate 3 refine ql_pure tabOk rfl rfl ?_); refine q_nil ?_; refine q_ret ?_)
    refine q_fin tabOk rfl (by repeat (first | exact RVs.nil | apply RVs.tmp rfl | apply RVs.cellA rfl rfl (by repeat first | exact .head _ | refine .tail _ ?_) (by rfl) | apply RVs.cell1 rfl rfl (by repeat first | exact .head _ | refine .tail _ ?_))) fun w hs => ?_
    exact ⟨_, rfl, hs⟩
  · (refine q_seq ?_; refine q_region ?_; refine ql_pure tabOk rfl rfl ?_; refine q_nil ?_; (iterate 2 refine q_seq ?_); refine q_region ?_; (iterate 2 refine ql_pure tabOk rfl rfl ?_); refine q_nil ?_; refine q_cond_false rfl ?_; refine q_skip ?_; (iterate 2 refine q_seq ?_); refine q_region ?_; (iterate 2 refine ql_pure tabOk rfl rfl ?_); refine q_nil ?_; refine q_cond_false rfl ?_; refine q_skip ?_; (iterate 2 refine q_seq ?_); refine q_region ?_; (iterate 2 refine ql_pure tabOk rfl rfl ?_); refine q_nil ?_; refine q_cond_false rfl ?_; refine q_skip ?_; refine q_seq ?_; refine q_region ?_; (iterate 3 refine ql_pure tabOk rfl rfl ?_))
    refine ql_strAt _ .u8 4 3 und_str rfl rfl (by kernel_rfl) rfl ?_
    ((iterate 3 refine ql_pure tabOk rfl rfl ?_); refine q_nil ?_; refine q_ret ?_)
    refine q_fin tabOk rfl (by repeat (first | exact RVs.nil | apply RVs.tmp rfl | apply RVs.cellA rfl rfl (by repeat first | exact .head _ | refine .tail _ ?_) (by rfl) | apply RVs.cell1 rfl rfl (by repeat first | exact .head _ | refine .tail _ ?_))) fun w hs => ?_
    exact ⟨_, rfl, hs⟩
  · (refine q_seq ?_; refine q_region ?_; refine ql_pure tabOk rfl rfl ?_; refine q_nil ?_; (iterate 2 refine q_seq ?_); refine q_region ?_; (iterate 2 refine ql_pure tabOk rfl rfl ?_); refine q_nil ?_; refine q_cond_false rfl ?_; refine q_skip ?_; (iterate 2 refine q_seq ?_); refine q_region ?_; (iterate 2 refine ql_pure tabOk rfl rfl ?_); refine q_nil ?_; refine q_cond_false rfl ?_; refine q_skip ?_; (iterate 2 refine q_seq ?_); refine q_region ?_; (iterate 2 refine ql_pure tabOk rfl rfl ?_); refine q_nil ?_; refine q_cond_false rfl ?_; refine q_skip ?_; refine q_seq ?_; refine q_region ?_; (iterate 3 refine ql_pure tabOk rfl rfl ?_))
    refine ql_strAt _ .u8 5 3 und_str rfl rfl (by kernel_rfl) rfl ?_
    ((iterate 3 refine ql_pure tabOk rfl rfl ?_); refine q_nil ?_; refine q_ret ?_)
    refine q_fin tabOk rfl (by repeat (first | exact RVs.nil | apply RVs.tmp rfl | apply RVs.cellA rfl rfl (by repeat first | exact .head _ | refine .tail _ ?_) (by rfl) | apply RVs.cell1 rfl rfl (by repeat first | exact .head _ | refine .tail _ ?_))) fun w hs => ?_
    exact ⟨_, rfl, hs⟩
  · (refine q_seq ?_; refine q_region ?_; refine ql_pure tabOk rfl rfl ?_; refine q_nil ?_; (iterate 2 refine q_seq ?_); refine q_region ?_; (iterate 2 refine ql_pure tabOk rfl rfl ?_); refine q_nil ?_; refine q_cond_false rfl ?_; refine q_skip ?_; (iterate 2 refine q_seq ?_); refine q_region ?_; (iterate 2 refine ql_pure tabOk rfl rfl ?_); refine q_nil ?_; refine q_cond_false rfl ?_; refine q_skip ?_; (iterate 2 refine q_seq ?_); refine q_region ?_; (iterate 2 refine ql_pure tabOk rfl rfl ?_); refine q_nil ?_; refine q_cond_false rfl ?_; refine q_skip ?_; refine q_seq ?_; refine q_region ?_; (iterate 3 refine ql_pure tabOk rfl rfl ?_))
    refine ql_strAt _ .u8 6 3 und_str rfl rfl (by kernel_rfl) rfl ?_
    ((iterate 3 refine ql_pure tabOk rfl rfl ?_); refine q_nil ?_; refine q_ret ?_)
    refine q_fin tabOk rfl (by repeat (first | exact RVs.nil | apply RVs.tmp rfl | apply RVs.cellA rfl rfl (by repeat first | exact .head _ | refine .tail _ ?_) (by rfl) | apply RVs.cell1 rfl rfl (by repeat first | exact .head _ | refine .tail _ ?_))) fun w hs => ?_
    exact ⟨_, rfl, hs⟩
  · (refine q_seq ?_; refine q_region ?_; refine ql_pure tabOk rfl rfl ?_; refine q_nil ?_; (iterate 2 refine q_seq ?_); refine q_region ?_; (iterate 2 refine ql_pure tabOk rfl rfl ?_); refine q_nil ?_; refine q_cond_false rfl ?_; refine q_skip ?_; (iterate 2 refine q_seq ?_); refine q_region ?_; (iterate 2 refine ql_pure tabOk rfl rfl ?_); refine q_nil ?_; refine q_cond_false rfl ?_; refine q_skip ?_; (iterate 2 refine q_seq ?_); refine q_region ?_; (iterate 2 refine ql_pure tabOk rfl rfl ?_); refine q_nil ?_; refine q_cond_false rfl ?_; refine q_skip ?_; refine q_seq ?_; refine q_region ?_; (iterate 3 refine ql_pure tabOk rfl rfl ?_))
    refine ql_strAt _ .u8 7 3 und_str rfl rfl (by kernel_rfl) rfl ?_
    ((iterate 3 refine ql_pure tabOk rfl rfl ?_); refine q_nil ?_; refine q_ret ?_)
    refine q_fin tabOk rfl (by repeat (first | exact RVs.nil | apply RVs.tmp rfl | apply RVs.cellA rfl rfl (by repeat first | exact .head _ | refine .tail _ ?_) (by rfl) | apply RVs.cell1 rfl rfl (by repeat first | exact .head _ | refine .tail _ ?_))) fun w hs => ?_
    exact ⟨_, rfl, hs⟩
  · (refine q_seq ?_; refine q_region ?_; refine ql_pure tabOk rfl rfl ?_; refine q_nil ?_; (iterate 2 refine q_seq ?_); refine q_region ?_; (iterate 2 refine ql_pure tabOk rfl rfl ?_); refine q_nil ?_; refine q_cond_false rfl ?_; refine q_skip ?_; (iterate 2 refine q_seq ?_); refine q_region ?_; (iterate 2 refine ql_pure tabOk rfl rfl ?_); refine q_nil ?_; refine q_cond_false rfl ?_; refine q_skip ?_; (iterate 2 refine q_seq ?_); refine q_region ?_; (iterate 2 refine ql_pure tabOk rfl rfl ?_); refine q_nil ?_; refine q_cond_false rfl ?_; refine q_skip ?_; refine q_seq ?_; refine q_region ?_; (iterate 3 refine ql_pure tabOk rfl rfl ?_))
    refine ql_strAt _ .u8 8 4 und_str rfl rfl (by kernel_rfl) rfl ?_
    ((iterate 3 refine ql_pure tabOk rfl rfl ?_); refine q_nil ?_; refine q_ret ?_)
    refine q_fin tabOk rfl (by repeat (first | exact RVs.nil | apply RVs.tmp rfl | apply RVs.cellA rfl rfl (by repeat first | exact .head _ | refine .tail _ ?_) (by rfl) | apply RVs.cell1 rfl rfl (by repeat first | exact .head _ | refine .tail _ ?_))) fun w hs => ?_
    exact ⟨_, rfl, hs⟩
  · (refine q_seq ?_; refine q_region ?_; refine ql_pure tabOk rfl rfl ?_; refine q_nil ?_; (iterate 2 refine q_seq ?_); refine q_region ?_; (iterate 2 refine ql_pure tabOk rfl rfl ?_); refine q_nil ?_; refine q_cond_false rfl ?_; refine q_skip ?_; (iterate 2 refine q_seq ?_); refine q_region ?_; (iterate 2 refine ql_pure tabOk rfl rfl ?_); refine q_nil ?_; refine q_cond_false rfl ?_; refine q_skip ?_; (iterate 2 refine q_seq ?_); refine q_region ?_; (iterate 2 refine ql_pure tabOk rfl rfl ?_); refine q_nil ?_; refine q_cond_false rfl ?_; refine q_skip ?_; refine q_seq ?_; refine q_region ?_; (iterate 3 refine ql_pure tabOk rfl rfl ?_))
    refine ql_strAt _ .u8 9 4 und_str rfl rfl (by kernel_rfl) rfl ?_
    ((iterate 3 refine ql_pure tabOk rfl rfl ?_); refine q_nil ?_; refine q_ret ?_)
    refine q_fin tabOk rfl (by repeat (first | exact RVs.nil | apply RVs.tmp rfl | apply RVs.cellA rfl rfl (by repeat first | exact .head _ | refine .tail _ ?_) (by rfl) | apply RVs.cell1 rfl rfl (by repeat first | exact .head _ | refine .tail _ ?_))) fun w hs => ?_
    exact ⟨_, rfl, hs⟩
  · (refine q_seq ?_; refine q_region ?_; refine ql_pure tabOk rfl rfl ?_; refine q_nil ?_; (iterate 2 refine q_seq ?_); refine q_region ?_; (iterate 2 refine ql_pure tabOk rfl rfl ?_); refine q_nil ?_; refine q_cond_false rfl ?_; refine q_skip ?_; (iterate 2 refine q_seq ?_); refine q_region ?_; (iterate 2 refine ql_pure tabOk rfl rfl ?_); refine q_nil ?_; refine q_cond_false rfl ?_; refine q_skip ?_; (iterate 2 refine q_seq ?_); refine q_region ?_; (iterate 2 refine ql_pure tabOk rfl rfl ?_); refine q_nil ?_; refine q_cond_false rfl ?_; refine q_skip ?_; refine q_seq ?_; refine q_region ?_; (iterate 3 refine ql_pure tabOk rfl rfl ?_))
    refine ql_strAt _ .u8 10 4 und_str rfl rfl (by kernel_rfl) rfl ?_
    ((iterate 3 refine ql_pure tabOk rfl rfl ?_); refine q_nil ?_; refine q_ret ?_)
    refine q_fin tabOk rfl (by repeat (first | exact RVs.nil | apply RVs.tmp rfl | apply RVs.cellA rfl rfl (by repeat first | exact .head _ | refine .tail _ ?_) (by rfl) | apply RVs.cell1 rfl rfl (by repeat first | exact .head _ | refine .tail _ ?_))) fun w hs => ?_
    exact ⟨_, rfl, hs⟩
  · (refine q_seq ?_; refine q_region ?_; refine ql_pure tabOk rfl rfl ?_; refine q_nil ?_; (iterate 2 refine q_seq ?_); refine q_region ?_; (iterate 2 refine ql_pure tabOk rfl rfl ?_); refine q_nil ?_; refine q_cond_false rfl ?_; refine q_skip ?_; (iterate 2 refine q_seq ?_); refine q_region ?_; (iterate 2 refine ql_pure tabOk rfl rfl ?_); refine q_nil ?_; refine q_cond_false rfl ?_; refine q_skip ?_; (iterate 2 refine q_seq ?_); refine q_region ?_; (iterate 2 refine ql_pure tabOk rfl rfl ?_); refine q_nil ?_; refine q_cond_false rfl ?_; refine q_skip ?_; refine q_seq ?_; refine q_region ?_; (iterate 3 refine ql_pure tabOk rfl rfl ?_))
    refine ql_strAt _ .u8 11 4 und_str rfl rfl (by kernel_rfl) rfl ?_
    ((iterate 3 refine ql_pure tabOk rfl rfl ?_); refine q_nil ?_; refine q_ret ?_)
    refine q_fin tabOk rfl (by repeat (first | exact RVs.nil | apply RVs.tmp rfl | apply RVs.cellA rfl rfl (by repeat first | exact .head _ | refine .tail _ ?_) (by rfl) | apply RVs.cell1 rfl rfl (by repeat first | exact .head _ | refine .tail _ ?_))) fun w hs => ?_
    exact ⟨_, rfl, hs⟩
  · (refine q_seq ?_; refine q_region ?_; refine ql_pure tabOk rfl rfl ?_; refine q_nil ?_; (iterate 2 refine q_seq ?_); refine q_region ?_; (iterate 2 refine ql_pure tabOk rfl rfl ?_); refine q_nil ?_; refine q_cond_false rfl ?_; refine q_skip ?_; (iterate 2 refine q_seq ?_); refine q_region ?_; (iterate 2 refine ql_pure tabOk rfl rfl ?_); refine q_nil ?_; refine q_cond_false rfl ?_; refine q_skip ?_; (iterate 2 refine q_seq ?_); refine q_region ?_; (iterate 2 refine ql_pure tabOk rfl rfl ?_); refine q_nil ?_; refine q_cond_false rfl ?_; refine q_skip ?_; refine q_seq ?_; refine q_region ?_; (iterate 3 refine ql_pure tabOk rfl rfl ?_))
    refine ql_strAt _ .u8 12 4 und_str rfl rfl (by kernel_rfl) rfl ?_
    ((iterate 3 refine ql_pure tabOk rfl rfl ?_); refine q_nil ?_; refine q_ret ?_)
    refine q_fin tabOk rfl (by repeat (first | exact RVs.nil | apply RVs.tmp rfl | apply RVs.cellA rfl rfl (by repeat first | exact .head _ | refine .tail _ ?_) (by rfl) | apply RVs.cell1 rfl rfl (by repeat first | exact .head _ | refine .tail _ ?_))) fun w hs => ?_
    exact ⟨_, rfl, hs⟩
theorem len_ca (n : Nat) (hn : n ≤ 12) (w : World) : Ca Tryz.prog 93 [.int .u64 n] w fun v w' => ∃ x : Int, v = .int .i64 x ∧ Sat w M0 [] w' := by
  refine q_of (Sat.nil w M0) Tryz.func93 rfl (by simp [Tryz.ntmps93]) ?_
  (refine q_seq ?_; refine q_region ?_; refine ql_pure tabOk rfl rfl ?_; refine q_nil ?_; refine q_seq ?_; refine q_cond_false rfl ?_; refine q_skip ?_; refine q_seq ?_; refine q_region ?_; refine ql_pure tabOk rfl rfl ?_)
  refine ql_call (β := Int) tabOk [] _ M0 rfl rfl rfl rfl (Sp.refl _) (fun _ h => h.elim) (fun w' hs => len64_ca n hn w') ?_
  rintro x _ rfl
  dsimp only [List.cons_append, List.nil_append]
  (refine ql_pure tabOk rfl rfl ?_; refine q_nil ?_; refine q_ret ?_)
  refine q_fin tabOk rfl (by repeat (first | exact RVs.nil | apply RVs.tmp rfl | apply RVs.cellA rfl rfl (by repeat first | exact .head _ | refine .tail _ ?_) (by rfl) | apply RVs.cell1 rfl rfl (by repeat first | exact .head _ | refine .tail _ ?_))) fun w hs => ?_
  exact ⟨_, rfl, hs⟩
set_option maxHeartbeats 4000000 in
theorem pdq_ca (w : World) (g c : Nat) (l : List Int) (lim : Int) (h1 : 1 ≤ l.length) (hl : l.length ≤ 12) (hb : w.ownsRow 0 3 1 (.slice (some ⟨g, 0, none⟩) l.length c) l.length (ints l)) :
    Ca Tryz.prog 92 [.slice (some ⟨g, 0, none⟩) l.length c, .int .i64 0, .int .i64 l.length, .int .i64 lim] w fun v w' => ∃ L : List Int, (v = .tuple #[] ∧ L.Perm l ∧ srtB L = true) ∧ Sat w (fun x => x = g) [.ow (.slice (some ⟨g, 0, none⟩) l.length c) 3 1 l.length (ints L)] w' := by
  refine q_of (Sat.own0 hb) Tryz.func92 rfl (by simp [Tryz.ntmps92]) ?_
  (refine q_seq ?_; refine q_region ?_; refine ql_pure tabOk rfl rfl ?_; refine q_nil ?_; refine q_seq ?_; refine q_region ?_; refine ql_pure tabOk rfl rfl ?_; refine q_nil ?_; refine q_block ?_)
  refine q_loop (σ := Unit) (fun _ => True) (fun _ => 0) (fun _ => [(0, .slice (some ⟨g, 0, none⟩) l.length c), (1, .int .i64 0), (2, .int .i64 l.length)])
    (fun _ => [.ow (.slice (some ⟨g, 0, none⟩) l.length c) 3 1 l.length (ints l)]) () trivial ⟨rfl, rfl, rfl, trivial⟩ (by repeat (first | exact Sp.nil | exact Sp.refl _ | refine Sp.cons (by repeat constructor) ?_)) ?_
  rintro _ _ K hK
  clear hK
  (refine q_block ?_; refine q_seq ?_; refine q_region ?_; (iterate 2 refine ql_pure tabOk rfl rfl ?_); refine ql_ar tabOk rfl rfl rfl rfl (by omega) (by omega) ?_; refine ql_pure tabOk rfl rfl ?_; refine q_nil ?_; (iterate 2 refine q_seq ?_); refine q_region ?_; refine ql_pure tabOk rfl rfl ?_; refine ql_leqT tabOk rfl rfl rfl (by omega) ?_; refine q_nil ?_; refine q_cond_true rfl ?_; refine q_seq ?_; refine q_region ?_; (iterate 3 refine ql_pure tabOk rfl rfl ?_))
  refine ql_call (β := List Int) (ψ := fun L v => v = .tuple #[] ∧ L.Perm l ∧ srtB L = true) (L' := fun L => [.ow (.slice (some ⟨g, 0, none⟩) l.length c) 3 1 l.length (ints L)]) tabOk [.ow (.slice (some ⟨g, 0, none⟩) l.length c) 3 1 l.length (ints l)] _ (fun x => x = g) rfl rfl rfl rfl (Sp.cons (by repeat constructor) (Sp.refl _)) (fun x hx => ⟨_, .head _, by subst hx; rfl⟩) (fun w' hs => ins_ca w' g c l h1 hl (hs.all _ (.head _))) ?_
  rintro L _ ⟨rfl, hp, hso⟩
  dsimp only [List.cons_append, List.nil_append]
  (refine q_nil ?_; refine q_ret ?_)
  refine q_fin tabOk rfl (by repeat (first | exact RVs.nil | apply RVs.tmp rfl | apply RVs.cellA rfl rfl (by repeat first | exact .head _ | refine .tail _ ?_) (by rfl) | apply RVs.cell1 rfl rfl (by repeat first | exact .head _ | refine .tail _ ?_))) fun w hs => ?_
  exact ⟨L, ⟨rfl, hp, hso⟩, hs⟩
set_option maxHeartbeats 4000000 in
theorem sort_ca (w : World) (g c : Nat) (l : List Int) (h1 : 1 ≤ l.length) (hl : l.length ≤ 12) (hb : w.ownsRow 0 3 1 (.slice (some ⟨g, 0, none⟩) l.length c) l.length (ints l)) :
    Ca Tryz.prog 30 [.slice (some ⟨g, 0, none⟩) l.length c] w fun v w' => ∃ L : List Int, (v = .tuple #[] ∧ L.Perm l ∧ srtB L = true) ∧ Sat w (fun x => x = g) [.ow (.slice (some ⟨g, 0, none⟩) l.length c) 3 1 l.length (ints L)] w' := by
  refine q_of (Sat.own0 hb) Tryz.func30 rfl (by simp [Tryz.ntmps30]) ?_
  (refine q_seq ?_; refine q_region ?_; (iterate 3 refine ql_pure tabOk rfl rfl ?_); refine q_nil ?_; refine q_region ?_; (iterate 4 refine ql_pure tabOk rfl rfl ?_))
  have ew : IntKind.u64.wrap (l.length : Int) = l.length := by
    simp only [IntKind.wrap, IntKind.signed, IntKind.bits]
    simp
    omega
  refine ql_call (β := Int) tabOk [] _ M0 rfl rfl rfl rfl (Sp.refl _) (fun _ h => h.elim) (fun w' hs => by
    have := len_ca l.length hl w'
    rw [← ew] at this
    exact this) ?_
  rintro x _ rfl
  dsimp only [List.cons_append, List.nil_append]
  skip
  refine ql_call (β := List Int) (ψ := fun L v => v = .tuple #[] ∧ L.Perm l ∧ srtB L = true) (L' := fun L => [.ow (.slice (some ⟨g, 0, none⟩) l.length c) 3 1 l.length (ints L)]) tabOk [.ow (.slice (some ⟨g, 0, none⟩) l.length c) 3 1 l.length (ints l)] _ (fun x => x = g) rfl rfl rfl rfl (Sp.cons (by repeat constructor) (Sp.refl _)) (fun x hx => ⟨_, .head _, by subst hx; rfl⟩) (fun w' hs => pdq_ca w' g c l x h1 hl (hs.all _ (.head _))) ?_
  rintro L _ ⟨rfl, hp, hso⟩
  dsimp only [List.cons_append, List.nil_append]
  (refine q_nil ?_)
  refine q_end tabOk rfl (by repeat (first | exact RVs.nil | apply RVs.tmp rfl | apply RVs.cellA rfl rfl (by repeat first | exact .head _ | refine .tail _ ?_) (by rfl) | apply RVs.cell1 rfl rfl (by repeat first | exact .head _ | refine .tail _ ?_))) fun w hs => ?_
  exact ⟨L, ⟨rfl, hp, hso⟩, hs⟩
set_option maxHeartbeats 4000000 in
theorem picked_ca (loops laps : Nat) (h1 : 1 ≤ loops) (h2 : loops ≤ 12) (h3 : 1 ≤ laps) (h4 : laps ≤ 6) (K : Nat) (hK : K < 100000) (w : World) (b lo hi : Nat) (bs : Value) (hby : DkB w lo hi bs) (hlh : hi ≤ b) (hd : DkS w b bs K) :
    Ca Tryz.prog 26 [.pointer (some ⟨b, 0, none⟩), .int .i64 loops, .int .i64 laps] w fun v w' => ∃ y : Nat × Nat × List Int, (v = .slice (some ⟨y.1, 0, none⟩) y.2.2.length y.2.1 ∧ y.2.2.length = laps ∧ (∀ x ∈ y.2.2, 0 ≤ x ∧ x < loops) ∧ srtB y.2.2 = true) ∧ Sat w (fun x => x = b) [.ow (.slice (some ⟨y.1, 0, none⟩) y.2.2.length y.2.1) 3 1 y.2.2.length (ints y.2.2), dkP bs b (K + 6)] w' := by
  refine q_of (dk_sat hd) Tryz.func26 rfl (by simp [Tryz.ntmps26]) ?_
  (refine q_seq ?_; refine q_region ?_; refine ql_pure tabOk rfl rfl ?_; refine q_nil ?_; refine q_seq ?_; refine q_region ?_; refine ql_pure tabOk rfl rfl ?_; refine q_nil ?_; (iterate 2 refine q_seq ?_); refine q_region ?_; (iterate 2 refine ql_pure tabOk rfl rfl ?_); refine q_nil ?_; refine q_block ?_)
  refine q_conv (H' := [.ow (.slice none 0 0) 3 1 0 (ints []), dkP bs b (K + 0)]) (fun w' hs => (Sat.ownil hs 3 1).sp (by repeat (first | exact Sp.nil | exact Sp.refl _ | refine Sp.cons (by repeat constructor) ?_))) ?_
  refine q_loop (σ := Value × List Int) (fun s => s.2.length ≤ laps ∧ ∀ x ∈ s.2, 0 ≤ x ∧ x < loops) (fun s => laps - s.2.length) (fun s => [(0, .pointer (some ⟨b, 0, none⟩)), (1, .int .i64 loops), (7, s.1), (8, .int .i64 laps), (9, .int .i64 s.2.length)])
    (fun s => [.ow s.1 3 1 s.2.length (ints s.2), dkP bs b (K + s.2.length)]) (.slice none 0 0, []) (by simp) ⟨rfl, rfl, rfl, rfl, rfl, trivial⟩ (by repeat (first | exact Sp.nil | exact Sp.refl _ | refine Sp.cons (by repeat constructor) ?_)) ?_
  rintro ⟨v, l⟩ ⟨hl, hB⟩ K1 hK1
  simp only at hl hB
  dsimp only
  (refine q_seq ?_; refine q_region ?_; refine ql_pure tabOk rfl rfl ?_; refine q_nil ?_; refine q_seq ?_)
  refine q_if rfl (fun hc => ?_) (fun hc => ?_)
  · have hl2 : l.length < laps := by omega
    clear hc
    obtain ⟨k, hk⟩ : ∃ k, k = l.length := ⟨_, rfl⟩
    rw [← hk]
    (refine q_skip ?_; refine q_seq ?_; refine q_block ?_; refine q_region ?_; (iterate 3 refine ql_pure tabOk rfl rfl ?_))
    refine ql_call (β := Int) (ψ := fun zq v => v = .int .i64 zq ∧ 0 ≤ zq ∧ (zq < (loops : Int) ∨ zq = 0)) (L' := fun _ => [dkP bs b (K + k + 1)]) tabOk [dkP bs b (K + k)] _ (fun x => x = b) rfl rfl rfl rfl (Sp.cons (by repeat constructor) (Sp.refl _)) (fun x hx => ⟨_, .head _, hx⟩) (fun w' hs => drawP_ca ((loops : Int)) (K + k) (by omega) w' b lo hi bs (hby.keepP hlh hs.chg) hlh (hs.all _ (.head _))) ?_; rintro x1 _ ⟨rfl, hx1⟩
    skip
    refine ql_mkS 3 [.int .i64 x1] rfl (by kernel_rfl) rfl (fun bn => ?_)
    refine ql_append (q := 1) slI rfl rfl rfl (fun v' => by repeat constructor) (fun w' hs => ⟨_, _, Blk.rd (hs.blk (b := bn) (by repeat first | exact .head _ | refine .tail _ ?_)) rfl 1⟩) (by simp [oneV]) (by omega) (by omega) (fun u => ?_)
    (refine ql_pure tabOk rfl rfl ?_; refine q_nil ?_; refine q_blk ?_; refine q_region ?_; refine ql_ar tabOk rfl rfl rfl rfl (by omega) (by omega) ?_; refine ql_pure tabOk rfl rfl ?_; refine q_nil ?_)
    exact hK1 (u, l ++ [x1]) _ _ ⟨by simp only [List.length_append, List.length_cons, List.length_nil]; omega, fun d hd => by
      rcases List.mem_append.1 hd with hd | hd
      · exact hB d hd
      · obtain rfl := List.mem_singleton.1 hd
        omega⟩ (by simp only [List.length_append, List.length_cons, List.length_nil]; omega) ⟨rfl, rfl, rfl, rfl, lookI rfl (by simp; omega), trivial⟩ (by dsimp only; rw [show ints (l ++ [x1]) = ints l ++ [.int .i64 x1] by simp [ints], List.length_append, ← hk]; repeat (first | exact Sp.nil | exact Sp.refl _ | refine Sp.cons (by repeat constructor) ?_))
  · have hle : l.length = laps := by omega
    clear hc hK1
    refine q_fact (fun w hs => hs.ownSome (v := v) (by repeat first | exact .head _ | refine .tail _ ?_) (by omega)) ?_
    rintro ⟨g, cd, rfl⟩
    (refine q_exit _ rfl ?_; refine q_seq ?_; refine q_region ?_; refine ql_pure tabOk rfl rfl ?_)
    refine ql_call (β := List Int) (ψ := fun L v => v = .tuple #[] ∧ L.Perm l ∧ srtB L = true) (L' := fun L => [.ow (.slice (some ⟨g, 0, none⟩) l.length cd) 3 1 l.length (ints L)]) tabOk [.ow (.slice (some ⟨g, 0, none⟩) l.length cd) 3 1 l.length (ints l)] _ (fun x => x = g) rfl rfl rfl rfl (Sp.cons (by repeat constructor) (Sp.refl _)) (fun x hx => ⟨_, .head _, by subst hx; rfl⟩) (fun w' hs => sort_ca w' g cd l (by omega) (by omega) (hs.all _ (.head _))) ?_
    rintro L _ ⟨rfl, hp, hso⟩
    dsimp only [List.cons_append, List.nil_append]
    have hLl := hp.length_eq
    rw [← hLl]
    (refine q_nil ?_; refine q_seq ?_; refine q_region ?_; (iterate 2 refine ql_pure tabOk rfl rfl ?_); refine q_nil ?_; refine q_ret ?_)
    refine q_fin tabOk rfl (by repeat (first | exact RVs.nil | apply RVs.tmp rfl | apply RVs.cellA rfl rfl (by repeat first | exact .head _ | refine .tail _ ?_) (by rfl) | apply RVs.cell1 rfl rfl (by repeat first | exact .head _ | refine .tail _ ?_))) fun w hs => ?_
    exact ⟨(g, cd, L), ⟨rfl, by simp only; omega, fun x hx => hB x (hp.mem_iff.1 hx), hso⟩, (Sat.dk (K' := K + 6) (R := [.ow (.slice (some ⟨g, 0, none⟩) L.length cd) 3 1 L.length (ints L)]) (hs.sp (by repeat (first | exact Sp.nil | exact Sp.refl _ | refine Sp.cons (by repeat constructor) ?_))) (by omega)).sp (by repeat (first | exact Sp.nil | exact Sp.refl _ | refine Sp.cons (by repeat constructor) ?_))⟩
end Go.Proofs.YtgeajgmefokifaaGreat

/- Walk: numbers are shuffled. -/
namespace Go.Proofs.YtgeajgmefokifaaGreat
open Go Go.Eng

abbrev upN (l : List Nat) : List Int := l.map fun (s : Nat) => (s : Int)
end Go.Proofs.YtgeajgmefokifaaGreat

/- The plain laws of CourseYielded: rules that are made wider. -/
namespace Go.Proofs.YtgeajgmefokifaaGreat

/-- Which rule is broken. -/
def mkJ (s : List Lp) (r : Rl) (c : List Int) (j : Nat) : Bool := (marksV s r c).getD j false
/-- A rule is made as wide as it can be. -/
def wdn (r : Rl) (x : Int) : Rl := if x = 0 then { r with g0 := 0, g1 := 200000 } else if x = 1 then { r with c0 := 0, c1 := 200000 } else if x = 2 then { r with p0 := 0, p1 := 200000 } else if x = 3 then { r with wide := 1 } else { r with uses := 6 }
/-- .. all but one of the first rules. -/
def wdP (r : Rl) (l : List Int) (skip : Int) : Nat → Rl
  | 0 => r
  | t + 1 => if (t : Int) = skip then wdP r l skip t else wdn (wdP r l skip t) (l.getD t 0)
def Wd (l : List Int) (skip : Int) (t : Nat) (j : Nat) : Prop := ∃ i : Nat, i < t ∧ (i : Int) ≠ skip ∧ l.getD i 0 = (j : Int)
structure WdI (s : List Lp) (r R : Rl) (W : Nat → Prop) : Prop where
  laps : R.laps = r.laps
  g : (W 0 ∧ R.g0 = 0 ∧ R.g1 = 200000) ∨ (¬ W 0 ∧ R.g0 = r.g0 ∧ R.g1 = r.g1)
  c : (W 1 ∧ R.c0 = 0 ∧ R.c1 = 200000) ∨ (¬ W 1 ∧ R.c0 = r.c0 ∧ R.c1 = r.c1)
  p : (W 2 ∧ R.p0 = 0 ∧ R.p1 = 200000) ∨ (¬ W 2 ∧ R.p0 = r.p0 ∧ R.p1 = r.p1)
  w : (W 3 ∧ R.wide = 1) ∨ (¬ W 3 ∧ R.wide = r.wide)
  u : (W 4 ∧ R.uses = 6) ∨ (¬ W 4 ∧ R.uses = r.uses)
/-- There are no more courses than may be listed. -/
theorem count_ok : ((List.range 7).all fun n => (List.range 6).all fun k => decide ((sortL n k 0).length ≤ 300)) = true := by decide +kernel
theorem courses_300 {n k : Nat} (hn : n ≤ 6) (hk : k ≤ 5) : (coursesL n k).length ≤ 300 := by
  have h := List.all_eq_true.1 (List.all_eq_true.1 count_ok n (List.mem_range.2 (by omega))) k (List.mem_range.2 (by omega))
  simpa [coursesL] using h
theorem allC_300 {s : List Lp} {r : Rl} (hn : s.length ≤ 6) (hk : nL r ≤ 5) : (allC s r).length ≤ 300 := Nat.le_trans (List.length_filter_le _ _) (courses_300 hn hk)
end Go.Proofs.YtgeajgmefokifaaGreat

/- Walks: lists compared, lists of lists searched. -/
namespace Go.Proofs.YtgeajgmefokifaaGreat
open Go Go.Eng

set_option maxHeartbeats 1000000 in
theorem indexII_ca (w : World) (lo hi : Nat) (v : Value) (ll : List (List Int)) (h : RdII w lo hi v ll) (hlen : ll.length ≤ 1000000) {fv : Value} (q : List Int → Bool)
    (hq : ∀ w', Chg [] w w' → ∀ (u : Value) (l : List Int) (lo2 hi2 : Nat), RdI w' lo2 hi2 u l → l ∈ ll → CaF Tryz.prog fv [u] w' fun x w'' => x = .bool (q l) ∧ Chg [] w' w'') :
    Ca Tryz.prog 91 [v, fv] w fun r w' => ∃ z : Int, (r = .int .i64 z ∧ -1 ≤ z ∧ (0 ≤ z ↔ ll.any q = true)) ∧ Sat w M0 [] w' := by
  obtain ⟨a, c, rfl, hsa⟩ := RdII.outI h
  refine q_of (Sat.nil w M0) Tryz.func91 rfl (by simp [Tryz.ntmps91]) ?_
  (refine q_seq ?_; refine q_region ?_; refine ql_pure tabOk rfl rfl ?_; refine q_nil ?_; (iterate 2 refine q_seq ?_); refine q_region ?_; (iterate 3 refine ql_pure tabOk rfl rfl ?_); refine q_nil ?_; refine q_block ?_)
  refine q_loop (σ := Nat) (fun k => k ≤ ll.length ∧ (ll.take k).any q = false) (fun k => ll.length - k) (fun k => [(0, .slice a ll.length c), (1, fv), (7, .int .i64 ll.length), (8, .int .i64 k)]) (fun _ => []) 0 ⟨by omega, rfl⟩ ⟨rfl, rfl, rfl, rfl, trivial⟩ (by repeat (first | exact Sp.nil | exact Sp.refl _ | refine Sp.cons (by repeat constructor) ?_)) ?_
  rintro k ⟨hk, hall⟩ K hK
  (refine q_seq ?_; refine q_region ?_; refine ql_pure tabOk rfl rfl ?_; refine q_nil ?_; refine q_seq ?_)
  refine q_if rfl (fun hc => ?_) (fun hc => ?_)
  · have hk2 : k < ll.length := by first | omega | (simp at hc; omega)
    clear hc
    obtain ⟨b, off, rfl⟩ := hsa (by omega)
    obtain ⟨ra, rc, hr, hcell⟩ := h.row k hk2
    have hm := List.getElem_mem hk2
    have e : (ll.take (k + 1)).any q = q ll[k] := by rw [List.take_succ_eq_append_getElem hk2, List.any_append, hall]; simp
    (refine q_skip ?_; refine q_seq ?_; refine q_block ?_; refine q_seq ?_; refine q_region ?_; (iterate 2 refine ql_pure tabOk rfl rfl ?_); refine q_nil ?_; refine q_seq ?_; refine q_region ?_; (iterate 3 refine ql_pure tabOk rfl rfl ?_))
    refine ql_index tabOk rfl rfl rfl rfl rfl (by omega) (by omega) ?_
    refine ql_load1 (v := .slice ra ll[k].length rc) tabOk rfl rfl rfl (fun w' hs => hcell w' hs.chg0) ?_
    skip
    refine ql_callFv (val := .bool (q ll[k])) rfl rfl rfl (fun w' hs => hq w' hs.chg0 _ ll[k] lo hi (RdE.keep hr hs.chg0) hm) ?_
    cases hqk : q ll[k] with
    | true =>
      have e2 : ll.any q = true := List.any_eq_true.2 ⟨_, hm, hqk⟩
      (refine q_nil ?_; refine q_cond_true rfl ?_; refine q_seq ?_; refine q_region ?_; (iterate 2 refine ql_pure tabOk rfl rfl ?_); refine q_nil ?_; refine q_ret ?_)
      refine q_fin tabOk rfl (by repeat (first | exact RVs.nil | apply RVs.tmp rfl | apply RVs.cellA rfl rfl (by repeat first | exact .head _ | refine .tail _ ?_) (by rfl) | apply RVs.cell1 rfl rfl (by repeat first | exact .head _ | refine .tail _ ?_))) fun w hs => ?_
      exact ⟨(k : Int), ⟨rfl, by omega, by simp [e2]⟩, hs⟩
    | false =>
      (refine q_nil ?_; refine q_cond_false rfl ?_; refine q_skip ?_; refine q_blk ?_; refine q_region ?_; refine ql_ar tabOk rfl rfl rfl rfl (by omega) (by omega) ?_; refine ql_pure tabOk rfl rfl ?_; refine q_nil ?_)
      exact hK (k + 1) _ _ ⟨by omega, by rw [e, hqk]⟩ (by omega) ⟨rfl, rfl, rfl, rfl, trivial⟩ (by repeat (first | exact Sp.nil | exact Sp.refl _ | refine Sp.cons (by repeat constructor) ?_))
  · obtain rfl : k = ll.length := by first | omega | (simp at hc; omega)
    rw [List.take_length] at hall
    (refine q_exit _ rfl ?_; refine q_seq ?_; refine q_region ?_; refine ql_pure tabOk rfl rfl ?_; refine q_nil ?_; refine q_ret ?_)
    refine q_fin tabOk rfl (by repeat (first | exact RVs.nil | apply RVs.tmp rfl | apply RVs.cellA rfl rfl (by repeat first | exact .head _ | refine .tail _ ?_) (by rfl) | apply RVs.cell1 rfl rfl (by repeat first | exact .head _ | refine .tail _ ?_))) fun w hs => ?_
    exact ⟨-1, ⟨rfl, by omega, by simp [hall]⟩, hs⟩
theorem containsII_ca (w : World) (lo hi : Nat) (v : Value) (ll : List (List Int)) (h : RdII w lo hi v ll) (hlen : ll.length ≤ 1000000) {fv : Value} (q : List Int → Bool)
    (hq : ∀ w', Chg [] w w' → ∀ (u : Value) (l : List Int) (lo2 hi2 : Nat), RdI w' lo2 hi2 u l → l ∈ ll → CaF Tryz.prog fv [u] w' fun x w'' => x = .bool (q l) ∧ Chg [] w' w'') :
    Ca Tryz.prog 23 [v, fv] w fun r w' => r = .bool (ll.any q) ∧ Chg [] w w' := by
  refine q_of (Sat.nil w M0) Tryz.func23 rfl (by simp [Tryz.ntmps23]) ?_
  (refine q_seq ?_; refine q_region ?_; refine ql_pure tabOk rfl rfl ?_; refine q_nil ?_; refine q_seq ?_; refine q_region ?_; (iterate 2 refine ql_pure tabOk rfl rfl ?_))
  refine ql_call (β := Int) (ψ := fun z r => r = .int .i64 z ∧ -1 ≤ z ∧ (0 ≤ z ↔ ll.any q = true)) (L' := fun _ => []) tabOk [] _ M0 rfl rfl rfl rfl (Sp.refl _) (fun _ h => h.elim) (fun w' hs => indexII_ca w' lo hi v ll (h.keep hs.chg0) hlen q (fun w'' hc => hq w'' (hs.chg0.trans hc))) ?_
  rintro z _ ⟨rfl, z1, z2⟩
  dsimp only [List.cons_append, List.nil_append]
  cases ha : ll.any q with
  | true =>
    have hz := z2.2 ha
    clear z2
    (refine ql_geqT tabOk rfl rfl rfl (by omega) ?_; refine ql_pure tabOk rfl rfl ?_; refine q_nil ?_; refine q_ret ?_)
    refine q_fin tabOk rfl (by repeat (first | exact RVs.nil | apply RVs.tmp rfl | apply RVs.cellA rfl rfl (by repeat first | exact .head _ | refine .tail _ ?_) (by rfl) | apply RVs.cell1 rfl rfl (by repeat first | exact .head _ | refine .tail _ ?_))) fun w hs => ?_
    exact ⟨by rfl, hs.chg0⟩
  | false =>
    have hz : ¬ 0 ≤ z := fun hh => by rw [z2.1 hh] at ha; cases ha
    clear z2
    (refine ql_geqF tabOk rfl rfl rfl (by omega) ?_; refine ql_pure tabOk rfl rfl ?_; refine q_nil ?_; refine q_ret ?_)
    refine q_fin tabOk rfl (by repeat (first | exact RVs.nil | apply RVs.tmp rfl | apply RVs.cellA rfl rfl (by repeat first | exact .head _ | refine .tail _ ?_) (by rfl) | apply RVs.cell1 rfl rfl (by repeat first | exact .head _ | refine .tail _ ?_))) fun w hs => ?_
    exact ⟨by rfl, hs.chg0⟩
end Go.Proofs.YtgeajgmefokifaaGreat

/- The plain law of CourseSpread. -/
namespace Go.Proofs.YtgeajgmefokifaaGreat
open Go

theorem area_any (c : List Int) (i : Int) : c.any (fun x => decide (x = i) && true) = decide (i ∈ c) := by
  rw [Bool.eq_iff_iff]
  simp only [List.any_eq_true, Bool.and_true, decide_eq_true_eq]
  exact ⟨fun ⟨x, h1, h2⟩ => h2 ▸ h1, fun h => ⟨i, h, rfl⟩⟩
theorem areaP_or {s : List Lp} (hs : StadR s) {a b c : List Int} (h : ∀ x ∈ c, x ∈ a ∨ x ∈ b) : ∀ k, k ≤ s.length → areaP s c k ≤ areaP s a k + areaP s b k
  | 0, _ => by simp [areaP]
  | k + 1, hk => by
    have ih := areaP_or hs h k (by omega)
    have hl := lpAt_right hs (i := (k : Int)) (by omega)
    have h1 : 0 ≤ (lpAt s k).len * (lpAt s k).wide := Int.mul_nonneg (by have := hl.len; omega) (by have := hl.wide; omega)
    simp only [areaP_succ, area_any, decide_eq_true_eq]
    by_cases hc : (k : Int) ∈ c
    · rw [if_pos hc]
      rcases h _ hc with ha | hb
      · rw [if_pos ha]; split <;> omega
      · rw [if_pos hb]; split <;> omega
    · rw [if_neg hc]; split <;> split <;> omega
theorem areaP_sub {s : List Lp} (hs : StadR s) {a c : List Int} (h : ∀ x ∈ c, x ∈ a) : ∀ k, k ≤ s.length → areaP s c k ≤ areaP s a k
  | 0, _ => by simp [areaP]
  | k + 1, hk => by
    have ih := areaP_sub hs h k (by omega)
    have hl := lpAt_right hs (i := (k : Int)) (by omega)
    have h1 : 0 ≤ (lpAt s k).len * (lpAt s k).wide := Int.mul_nonneg (by have := hl.len; omega) (by have := hl.wide; omega)
    simp only [areaP_succ, area_any, decide_eq_true_eq]
    by_cases hc : (k : Int) ∈ c
    · rw [if_pos hc, if_pos (h _ hc)]; omega
    · rw [if_neg hc]; split <;> omega
theorem areaP_pos {s : List Lp} (hs : StadR s) {c : List Int} {y : Nat} (hy : (y : Int) ∈ c) : ∀ k, k ≤ s.length → y < k → 1 ≤ areaP s c k
  | 0, _, h => by omega
  | k + 1, hk, hyk => by
    have hb := areaP_bd hs c k (by omega)
    have hl := lpAt_right hs (i := (k : Int)) (by omega)
    have h1 : 0 < (lpAt s k).len * (lpAt s k).wide := Int.mul_pos (by have := hl.len; omega) (by have := hl.wide; omega)
    simp only [areaP_succ, area_any, decide_eq_true_eq]
    rcases Nat.lt_or_eq_of_le (Nat.le_of_lt_succ hyk) with h2 | h2
    · have := areaP_pos hs hy k (by omega) h2
      split <;> omega
    · subst h2
      rw [if_pos hy]; omega
/-- Two courses together, and one lap more. -/
theorem spread_area {s : List Lp} (hs : StadR s) {a b both more : List Int} {y : Int} (ha : ∀ x ∈ a, 0 ≤ x ∧ x < s.length) (hy : y ∈ a) (h1 : both.Perm (a ++ b)) (h2 : more.Perm (a ++ [y])) :
    1 ≤ areaV s a ∧ areaV s more = areaV s a ∧ areaV s both ≤ areaV s a + areaV s b ∧ areaV s a ≤ areaV s both ∧ areaV s b ≤ areaV s both := by
  have hk := Nat.le_refl s.length
  have hyr := ha y hy
  refine ⟨?_, Int.le_antisymm (areaP_sub hs (fun x hx => ?_) _ hk) (areaP_sub hs (fun x hx => h2.mem_iff.2 (List.mem_append.2 (.inl hx))) _ hk), areaP_or hs (fun x hx => List.mem_append.1 (h1.mem_iff.1 hx)) _ hk, areaP_sub hs (fun x hx => h1.mem_iff.2 (List.mem_append.2 (.inl hx))) _ hk, areaP_sub hs (fun x hx => h1.mem_iff.2 (List.mem_append.2 (.inr hx))) _ hk⟩
  · exact areaP_pos hs (y := y.toNat) (by rwa [Int.toNat_of_nonneg hyr.1]) _ hk (by omega)
  · rcases List.mem_append.1 (h2.mem_iff.1 hx) with h | h
    · exact h
    · rw [List.mem_singleton.1 h]; exact hy
theorem covL_filter (s : List Lp) (r : Rl) (d v : Int) : covL s r d v = (allC s r).filter fun c => decide (snowV s c d ≤ v) := by
  unfold covL allC
  rw [List.filter_filter]
  congr 1
  funext c
  simp [Bool.and_comm]
theorem filter_le {α : Type} (f : α → Int) {v u : Int} (h : v ≤ u) : ∀ l : List α, (l.filter fun c => decide (f c ≤ v)).length ≤ (l.filter fun c => decide (f c ≤ u)).length
  | [] => by simp
  | c :: l => by
    have ih := filter_le f h l
    simp only [List.filter_cons, decide_eq_true_eq]
    by_cases h1 : f c ≤ v
    · rw [if_pos h1, if_pos (by omega)]; simp; exact ih
    · rw [if_neg h1]
      split
      · simp; omega
      · exact ih
theorem cov_mono (s : List Lp) (r : Rl) (d : Int) {v u : Int} (h : v ≤ u) : (covL s r d v).length ≤ (covL s r d u).length ∧ (covL s r d u).length ≤ (allC s r).length := by
  rw [covL_filter, covL_filter]
  exact ⟨filter_le _ h _, List.length_filter_le _ _⟩
theorem cov_mem {s : List Lp} {r : Rl} {d v : Int} {c : List Int} (h : c ∈ covL s r d v) : c ∈ allC s r ∧ snowV s c d ≤ v := by
  rw [covL_filter] at h
  obtain ⟨h1, h2⟩ := List.mem_filter.1 h
  exact ⟨h1, by simpa using h2⟩
theorem best_first {α : Type} (f : α → Int) : ∀ (l : List α) (m R : α), l.foldl (bestS fun a b => decide (f a < f b) && true) (some m) = some R →
    f R ≤ f m ∧ ((m :: l).filter fun c => decide (f c ≤ f R)).head? = some R
  | [], m, R, h => by
    cases h
    simp
  | c :: l, m, R, h => by
    rw [List.foldl_cons] at h
    by_cases hc : f c < f m
    · rw [bestS, if_pos (by simp [hc])] at h
      obtain ⟨h1, h2⟩ := best_first f l c R h
      refine ⟨by omega, ?_⟩
      rw [List.filter_cons, if_neg (by simp; omega)]
      exact h2
    · rw [bestS, if_neg (by simp; omega)] at h
      obtain ⟨h1, h2⟩ := best_first f l m R h
      refine ⟨h1, ?_⟩
      by_cases hm : f m ≤ f R
      · rw [List.filter_cons, if_pos (by simpa using hm)] at h2 ⊢
        exact h2
      · rw [List.filter_cons, if_neg (by simpa using hm)] at h2 ⊢
        rw [List.filter_cons, if_neg (by simp; omega)]
        exact h2
theorem cov_first {s : List Lp} {r : Rl} {d : Int} {R : List Int} (h : cheapO s r d (coursesL s.length (nL r)) = some R) : ∃ l, covL s r d (snowV s R d) = R :: l := by
  unfold cheapO at h
  rw [cheap_filter] at h
  rw [covL_filter]
  change (allC s r).foldl _ none = some R at h
  generalize allC s r = l at *
  cases l with
  | nil => cases h
  | cons m l =>
    rw [List.foldl_cons] at h
    have := (best_first (fun c => snowV s c d) l m R h).2
    generalize ((m :: l).filter fun c => decide (snowV s c d ≤ snowV s R d)) = q at *
    cases q with
    | nil => cases this
    | cons x q => cases this; exact ⟨q, rfl⟩
theorem cov_none {s : List Lp} {r : Rl} {d n : Int} (h : ∀ c ∈ allC s r, n ≤ snowV s c d) : covL s r d (n - 1) = [] := by
  rw [covL_filter, List.filter_eq_nil_iff]
  intro c hc
  have := h c hc
  simp; omega
theorem snow_ceil (x d v : Int) (hv : v = (x * d + 99) / 100) : x * d ≤ 100 * v ∧ 100 * (v - 1) < x * d := by
  generalize x * d = y at *
  omega
end Go.Proofs.YtgeajgmefokifaaGreat

/- The walk of CourseYielded. -/
namespace Go.Proofs.YtgeajgmefokifaaGreat
open Go Go.Eng

section
variable {K b : Nat} {bs : Value} {w0 w : World} {R : List Ck}
theorem madeS0 {most laps : Nat} (h1 : 1 ≤ most) (h2 : most ≤ 12) (h3 : 1 ≤ laps) (h4 : laps ≤ 6) (hby : DkB w0 0 w0.heap.size bs) (hs : Sat w0 M0 (dkP bs b K :: R) w) (hK : K < 100000) :
    Ca Tryz.prog 18 [.pointer (some ⟨b, 0, none⟩), .int .i64 most, .int .i64 laps] w fun v w' => ∃ y : Nat × Nat × List Lp × Rl, (v = .tuple #[.slice (some ⟨y.1, 0, none⟩) y.2.2.1.length y.2.1, .agg (rlC y.2.2.2).toArray] ∧ MadeS most laps y.2.2.1 y.2.2.2) ∧ Sat w (fun x => x = b) [.ow (.slice (some ⟨y.1, 0, none⟩) y.2.2.1.length y.2.1) 32 3 y.2.2.1.length (lpC y.2.2.1), dkP bs b (K + 100)] w' :=
  madeS_ca most laps h1 h2 h3 h4 K hK w b 0 w0.heap.size bs (hby.keep hs.chg0) (dk_new hs) (hs.all _ (.head _))
theorem picked0 {loops laps : Nat} (h1 : 1 ≤ loops) (h2 : loops ≤ 12) (h3 : 1 ≤ laps) (h4 : laps ≤ 6) (hby : DkB w0 0 w0.heap.size bs) (hs : Sat w0 M0 (dkP bs b K :: R) w) (hK : K < 100000) :
    Ca Tryz.prog 26 [.pointer (some ⟨b, 0, none⟩), .int .i64 loops, .int .i64 laps] w fun v w' => ∃ y : Nat × Nat × List Int, (v = .slice (some ⟨y.1, 0, none⟩) y.2.2.length y.2.1 ∧ y.2.2.length = laps ∧ (∀ x ∈ y.2.2, 0 ≤ x ∧ x < loops) ∧ srtB y.2.2 = true) ∧ Sat w (fun x => x = b) [.ow (.slice (some ⟨y.1, 0, none⟩) y.2.2.length y.2.1) 3 1 y.2.2.length (ints y.2.2), dkP bs b (K + 6)] w' :=
  picked_ca loops laps h1 h2 h3 h4 K hK w b 0 w0.heap.size bs (hby.keep hs.chg0) (dk_new hs) (hs.all _ (.head _))
end
end Go.Proofs.YtgeajgmefokifaaGreat

/- The walk of CourseSpread (seat Great). -/
namespace Go.Proofs.YtgeajgmefokifaaGreat
open Go Go.Eng

theorem eqcs_ca (w : World) (b : Nat) (x u : Value) (lo hi lo2 hi2 : Nat) (l c : List Int) {t : TypeId} (hb : Blk w b [u] t) (h1 : RdI w lo hi x l) (h2 : RdI w lo2 hi2 u c) (hl : l.length ≤ 1000000) (hc : c.length ≤ 1000000) :
    Ca Tryz.prog 35 [x, .pointer (some ⟨b, 0, none⟩)] w fun r w' => r = .bool (eqIB c l) ∧ Chg [] w w' := by
  refine q_of (Sat.nil w M0) Tryz.func35 rfl (by simp [Tryz.ntmps35]) ?_
  (refine q_seq ?_; refine q_region ?_; refine ql_pure tabOk rfl rfl ?_; refine q_nil ?_; refine q_seq ?_; refine q_region ?_; refine ql_loadP tabOk rfl rfl rfl (by assumption) (by rfl) ?_; refine ql_pure tabOk rfl rfl ?_)
  refine ql_callv (val := .bool (eqIB c l)) tabOk rfl rfl rfl rfl (fun w hs => ?_) ?_; exact eqIF_ca w lo2 hi2 lo hi u x c l (RdE.keep h2 hs.chg0) (RdE.keep h1 hs.chg0) hc hl
  (refine ql_pure tabOk rfl rfl ?_; refine q_nil ?_; refine q_ret ?_)
  refine q_fin tabOk rfl (by repeat (first | exact RVs.nil | apply RVs.tmp rfl | apply RVs.cellA rfl rfl (by repeat first | exact .head _ | refine .tail _ ?_) (by rfl) | apply RVs.cell1 rfl rfl (by repeat first | exact .head _ | refine .tail _ ?_))) fun w hs => ?_
  exact ⟨rfl, hs.chg0⟩
theorem isS_ca (w : World) (b lo hi lo2 hi2 : Nat) (v u : Value) (ll : List (List Int)) (c : List Int) {t : TypeId} (hb : Blk w b [u] t) (h : RdII w lo hi v ll) (hlen : ll.length ≤ 1000000) (hrow : ∀ l ∈ ll, l.length ≤ 1000000) (hu : RdI w lo2 hi2 u c) (hc : c.length ≤ 1000000) (hm : c ∈ ll) :
    Ca Tryz.prog 23 [v, .func (.func 35) #[] #[.pointer (some ⟨b, 0, none⟩)]] w fun r w' => r = .bool true ∧ Chg [] w w' := by
  have e : ll.any (fun l => eqIB c l) = true := List.any_eq_true.2 ⟨c, hm, eqIB_iff.2 rfl⟩
  have := containsII_ca w lo hi v ll h hlen (fv := .func (.func 35) #[] #[.pointer (some ⟨b, 0, none⟩)]) (fun l => eqIB c l) (fun w' hc' x l lo3 hi3 hx hm => CaF.of tabOk rfl (eqcs_ca w' b x u lo3 hi3 lo2 hi2 l c ((hc'.block b hb.lt (by simp)).trans hb) hx (RdE.keep hu hc') (hrow l hm) hc))
  rw [e] at this
  exact this
theorem meas_in {s : List Lp} {c : List Int} (hs : StadR s) (h1 : 1 ≤ c.length ∧ c.length ≤ 6) (h2 : ∀ x ∈ c, 0 ≤ x ∧ x < s.length) (h3 : srtB c = true) (depth : Int) (hd : 1 ≤ depth ∧ depth ≤ 200) : areaE s c = (areaV s c, 0) ∧ snowE s c depth = (snowV s c depth, 0) := by
  have h0 := stadV_iff.2 hs
  have h4 := listedV_iff.2 ⟨⟨by omega, by omega⟩, h2, h3⟩
  have h5 : wiB depth 1 200 = true := by unfold wiB; simp; omega
  have h6 : measV s c = 0 := by unfold measV; rw [if_neg (by omega)]; exact h4
  unfold areaE snowE
  rw [if_neg (by omega), if_neg (by omega), if_neg (by simp [h5])]
  exact ⟨rfl, rfl⟩
theorem covered0 {s : List Lp} {r : Rl} (hcr : CR s r) {d v : Int} (hd : 1 ≤ d ∧ d ≤ 200) (hv : 0 ≤ v ∧ v ≤ 10000000) (hA : (allC s r).length ≤ 300) : (coveredV s r d v).2 = 0 := by
  have h0 := checkS_iff.2 hcr
  have h5 : wiB d 1 200 = true := by unfold wiB; simp; omega
  have h6 : wiB v 0 10000000 = true := by unfold wiB; simp; omega
  have h7 := (cov_mono s r d (Int.le_refl v)).2
  unfold coveredV
  rw [if_neg (by omega), if_neg (by simp [h5, h6]), if_neg (by omega)]
theorem cheap6 {s : List Lp} {r : Rl} (hcr : CR s r) {d : Int} (hd : 1 ≤ d ∧ d ≤ 200) (ho : cheapO s r d (coursesL s.length (nL r)) = none) : (cheapV s r d).2.2 = 6 := by
  have h0 := checkS_iff.2 hcr
  have h5 : wiB d 1 200 = true := by unfold wiB; simp; omega
  unfold cheapV
  rw [if_neg (by omega), if_neg (by simp [h5]), ho]
theorem snow_pos {s : List Lp} (hs : StadR s) {c : List Int} {y d : Int} (hy : y ∈ c) (hr : 0 ≤ y ∧ y < s.length) (hd : 1 ≤ d) : 1 ≤ snowV s c d := by
  have h1 : 1 ≤ areaV s c := areaP_pos hs (y := y.toNat) (by rwa [Int.toNat_of_nonneg hr.1]) _ (Nat.le_refl _) (by omega)
  have h2 : 0 < areaV s c * d := Int.mul_pos (by omega) (by omega)
  unfold snowV
  generalize areaV s c * d = z at *
  omega
set_option maxRecDepth 20000 in
set_option maxHeartbeats 16000000 in
theorem courseSpread_ca (w : World) (a : Option Addr) (n c : Nat) (a2 : Option Addr) (n2 c2 : Nat) (dp : Int) (hdp : 0 ≤ dp ∧ dp < 256) (hbyb1 : DkB w 0 w.heap.size (.slice a n c)) (hbyb2 : DkB w 0 w.heap.size (.slice a2 n2 c2)) :
    Ca Tryz.prog 5 [.slice a n c, .slice a2 n2 c2, .int .u8 dp] w fun r w' => r = .bool true ∧ Chg [] w w' := by
  refine q_of (Sat.nil w M0) Tryz.func5 rfl (by simp [Tryz.ntmps5]) ?_
  (refine q_seq ?_; refine q_region ?_; refine ql_pure tabOk rfl rfl ?_; refine q_nil ?_; refine q_seq ?_; refine q_region ?_; refine ql_pure tabOk rfl rfl ?_)
  refine ql_call (β := Nat) tabOk [] _ M0 rfl rfl rfl rfl (Sp.refl _) (fun _ h => h.elim) (fun w' hs => of_ca w' a n c) ?_
  rintro b1 _ rfl
  skip
  refine ql_call (β := Nat × Nat × List Lp × Rl) (ψ := fun y v => v = .tuple #[.slice (some ⟨y.1, 0, none⟩) y.2.2.1.length y.2.1, .agg (rlC y.2.2.2).toArray] ∧ MadeS 6 4 y.2.2.1 y.2.2.2) (L' := fun y => [.ow (.slice (some ⟨y.1, 0, none⟩) y.2.2.1.length y.2.1) 32 3 y.2.2.1.length (lpC y.2.2.1), dkP (.slice a n c) b1 (0 + 100)]) tabOk [dkP (.slice a n c) b1 0] _ (fun x => x = b1) rfl rfl rfl rfl (Sp.cons (by repeat constructor) (Sp.refl _)) (fun x hx => ⟨_, .head _, hx⟩) (fun w' hs => madeS0 (most := 6) (laps := 4) (by omega) (by omega) (by omega) (by omega) hbyb1 hs (by omega)) ?_
  rintro ⟨g, cd, s, r⟩ _ ⟨rfl, hm⟩
  dsimp only [List.cons_append, List.nil_append] at hm ⊢
  have hcr := hm.cr (by omega) (by omega)
  have hn1 := hm.n1
  have hn2 := hm.n2
  have hlp := hm.lp
  have hnl : nL r ≤ 5 := by unfold nL; omega
  have hA1 : (allC s r).length ≤ 300 := allC_300 (by omega) hnl
  (refine ql_pure tabOk rfl rfl ?_; (iterate 2 refine ql_ext tabOk rfl rfl rfl ?_))
  refine ql_alloc zero27 rfl (fun b8 => ?_)
  (refine ql_pure tabOk rfl rfl ?_; refine ql_setA tabOk rfl rfl rfl rfl rfl (by repeat constructor) rfl ?_; refine q_nil ?_; refine q_seq ?_; refine q_region ?_; refine ql_pure tabOk rfl rfl ?_)
  refine ql_call (β := Nat) tabOk [] _ M0 rfl rfl rfl rfl (Sp.refl _) (fun _ h => h.elim) (fun w' hs => of_ca w' a2 n2 c2) ?_
  rintro b2 _ rfl
  (refine ql_pure tabOk rfl rfl ?_; refine q_nil ?_; refine q_seq ?_; refine q_region ?_; (iterate 2 refine ql_pure tabOk rfl rfl ?_))
  have hww : IntKind.i64.wrap dp = dp := by
    simp only [IntKind.wrap, IntKind.signed, IntKind.bits]
    simp [Int.bmod]
    omega
  rw [hww]
  (refine ql_remN rfl rfl rfl (by omega) (by omega) ?_; refine ql_ar tabOk rfl rfl rfl rfl (by omega) (by omega) ?_; refine ql_pure tabOk rfl rfl ?_; refine q_nil ?_; refine q_seq ?_; refine q_region ?_; (iterate 4 refine ql_pure tabOk rfl rfl ?_))
  obtain ⟨depth, hdep, hd⟩ : ∃ d : Int, d = 1 + dp % 200 ∧ 1 ≤ d ∧ d ≤ 200 := ⟨_, rfl, by omega, by omega⟩
  rw [← hdep]
  clear hdep hww
  skip
  refine ql_call (β := Int) (ψ := fun zq v => v = .int .i64 zq ∧ 1 ≤ zq ∧ zq ≤ 3) (L' := fun _ => [dkP (.slice a2 n2 c2) b2 (0 + 1)]) tabOk [dkP (.slice a2 n2 c2) b2 (0)] _ (fun x => x = b2) rfl rfl rfl rfl (Sp.cons (by repeat constructor) (Sp.refl _)) (fun x hx => ⟨_, .head _, hx⟩) (fun w' hs => btw0 hbyb2 hs (by omega) (by omega) (by omega) (by omega)) ?_; rintro la _ ⟨rfl, hla⟩
  skip
  obtain ⟨na, hna⟩ : ∃ m : Nat, (m : Int) = la := ⟨la.toNat, by omega⟩
  refine ql_call (β := Nat × Nat × List Int) (ψ := fun y v => v = .slice (some ⟨y.1, 0, none⟩) y.2.2.length y.2.1 ∧ y.2.2.length = na ∧ (∀ x ∈ y.2.2, 0 ≤ x ∧ x < s.length) ∧ srtB y.2.2 = true) (L' := fun y => [.ow (.slice (some ⟨y.1, 0, none⟩) y.2.2.length y.2.1) 3 1 y.2.2.length (ints y.2.2), dkP (.slice a2 n2 c2) b2 (0 + 1 + 6)]) tabOk [dkP (.slice a2 n2 c2) b2 (0 + 1)] _ (fun x => x = b2) rfl rfl rfl rfl (Sp.cons (by repeat constructor) (Sp.refl _)) (fun x hx => ⟨_, .head _, hx⟩) (fun w' hs => by rw [← hna]; exact picked0 (loops := s.length) (laps := na) (by omega) (by omega) (by omega) (by omega) hbyb2 hs (by omega)) ?_
  rintro ⟨pa, ca, A⟩ _ ⟨rfl, A1, A2, A3⟩
  dsimp only [List.cons_append, List.nil_append] at A1 A2 A3 ⊢
  ((iterate 4 refine ql_pure tabOk rfl rfl ?_))
  refine ql_call (β := Int) (ψ := fun zq v => v = .int .i64 zq ∧ 1 ≤ zq ∧ zq ≤ 3) (L' := fun _ => [dkP (.slice a2 n2 c2) b2 (0 + 1 + 6 + 1)]) tabOk [dkP (.slice a2 n2 c2) b2 (0 + 1 + 6)] _ (fun x => x = b2) rfl rfl rfl rfl (Sp.cons (by repeat constructor) (Sp.refl _)) (fun x hx => ⟨_, .head _, hx⟩) (fun w' hs => btw0 hbyb2 hs (by omega) (by omega) (by omega) (by omega)) ?_; rintro lb _ ⟨rfl, hlb⟩
  skip
  obtain ⟨nb, hnb⟩ : ∃ m : Nat, (m : Int) = lb := ⟨lb.toNat, by omega⟩
  refine ql_call (β := Nat × Nat × List Int) (ψ := fun y v => v = .slice (some ⟨y.1, 0, none⟩) y.2.2.length y.2.1 ∧ y.2.2.length = nb ∧ (∀ x ∈ y.2.2, 0 ≤ x ∧ x < s.length) ∧ srtB y.2.2 = true) (L' := fun y => [.ow (.slice (some ⟨y.1, 0, none⟩) y.2.2.length y.2.1) 3 1 y.2.2.length (ints y.2.2), dkP (.slice a2 n2 c2) b2 (0 + 1 + 6 + 1 + 6)]) tabOk [dkP (.slice a2 n2 c2) b2 (0 + 1 + 6 + 1)] _ (fun x => x = b2) rfl rfl rfl rfl (Sp.cons (by repeat constructor) (Sp.refl _)) (fun x hx => ⟨_, .head _, hx⟩) (fun w' hs => by rw [← hnb]; exact picked0 (loops := s.length) (laps := nb) (by omega) (by omega) (by omega) (by omega) hbyb2 hs (by omega)) ?_
  rintro ⟨pb, cb, B⟩ _ ⟨rfl, B1, B2, B3⟩
  dsimp only [List.cons_append, List.nil_append] at B1 B2 B3 ⊢
  ((iterate 2 refine ql_pure tabOk rfl rfl ?_); refine q_nil ?_; refine q_seq ?_; refine q_region ?_; refine ql_pure tabOk rfl rfl ?_)
  refine ql_call (β := Value) tabOk [] _ M0 rfl rfl rfl rfl (Sp.refl _) (fun _ h => h.elim) (fun w' hs => cloneI_ca w' 0 w'.heap.size (.slice (some ⟨pa, 0, none⟩) A.length ca) A (hs.rdI (t := 3) (by repeat first | exact .head _ | refine .tail _ ?_) rfl) (by omega)) ?_
  rintro _ q1 rfl
  dsimp only [List.cons_append, List.nil_append]
  (refine ql_pure tabOk rfl rfl ?_)
  refine ql_append (q := B.length) (news := ints B) slI rfl rfl rfl (fun v' => by repeat constructor) (fun w' hs => ⟨_, _, own_rd (hs.all (.ow (.slice (some ⟨pb, 0, none⟩) B.length cb) 3 1 B.length (ints B)) (by repeat first | exact .head _ | refine .tail _ ?_))⟩) (by simp [oneV]) (by omega) (by omega) (fun q2 => ?_)
  rw [← List.map_append, ← List.length_append]
  have hABl : (A ++ B).length = A.length + B.length := List.length_append
  have hABi : ∀ x ∈ A ++ B, 0 ≤ x ∧ x < s.length := fun x hx => by rcases List.mem_append.1 hx with h | h; exact A2 x h; exact B2 x h
  obtain ⟨AB, hAB⟩ : ∃ l, l = A ++ B := ⟨_, rfl⟩
  rw [← hAB] at hABl hABi ⊢
  refine ql_fact (fun w hs => hs.ownSome (v := q2) (by repeat first | exact .head _ | refine .tail _ ?_) (by omega)) ?_
  rintro ⟨pq, cq, rfl⟩
  (refine ql_pure tabOk rfl rfl ?_; refine q_nil ?_; refine q_seq ?_; refine q_region ?_; refine ql_pure tabOk rfl rfl ?_)
  refine ql_call (β := List Int) (ψ := fun L v => v = .tuple #[] ∧ L.Perm AB ∧ srtB L = true) (L' := fun L => [.ow (.slice (some ⟨pq, 0, none⟩) AB.length cq) 3 1 AB.length (ints L)]) tabOk [.ow (.slice (some ⟨pq, 0, none⟩) AB.length cq) 3 1 AB.length (ints AB)] _ (fun x => x = pq) rfl rfl rfl rfl (Sp.cons (by repeat constructor) (Sp.refl _)) (fun x hx => ⟨_, .head _, by rw [hx]; rfl⟩) (fun w' hs => sort_ca w' pq cq AB (by omega) (by omega) (hs.all _ (.head _))) ?_
  rintro C _ ⟨rfl, C1, C3⟩
  dsimp only [List.cons_append, List.nil_append] at C1 C3 ⊢
  have C2 : ∀ x ∈ C, 0 ≤ x ∧ x < s.length := fun x hx => hABi x (C1.mem_iff.1 hx)
  have C4 := C1.length_eq
  rw [← C4]
  (refine q_nil ?_; refine q_seq ?_; refine q_region ?_; refine ql_pure tabOk rfl rfl ?_)
  refine ql_call (β := Value) tabOk [] _ M0 rfl rfl rfl rfl (Sp.refl _) (fun _ h => h.elim) (fun w' hs => cloneI_ca w' 0 w'.heap.size (.slice (some ⟨pa, 0, none⟩) A.length ca) A (hs.rdI (t := 3) (by repeat first | exact .head _ | refine .tail _ ?_) rfl) (by omega)) ?_
  rintro _ q3 rfl
  dsimp only [List.cons_append, List.nil_append]
  ((iterate 4 refine ql_pure tabOk rfl rfl ?_))
  refine ql_call (β := Int) (ψ := fun zq v => v = .int .i64 zq ∧ 0 ≤ zq ∧ zq ≤ A.length - 1) (L' := fun _ => [dkP (.slice a2 n2 c2) b2 (0 + 1 + 6 + 1 + 6 + 1)]) tabOk [dkP (.slice a2 n2 c2) b2 (0 + 1 + 6 + 1 + 6)] _ (fun x => x = b2) rfl rfl rfl rfl (Sp.cons (by repeat constructor) (Sp.refl _)) (fun x hx => ⟨_, .head _, hx⟩) (fun w' hs => drw0 hbyb2 hs (by omega) (by omega)) ?_; rintro ix _ ⟨rfl, hix⟩
  obtain ⟨j, rfl⟩ : ∃ j : Nat, ix = (j : Int) := ⟨ix.toNat, by omega⟩
  have hj : j < A.length := by omega
  skip
  (refine ql_index tabOk rfl rfl rfl rfl rfl (by omega) (by omega) ?_; refine ql_load1 tabOk rfl rfl rfl (fun w hs => RdI.at (hs.rdI (v := .slice (some ⟨pa, 0, none⟩) A.length ca) (l := A) (t := 3) (by repeat first | exact .head _ | refine .tail _ ?_) rfl) j hj) ?_)
  have hAj : A[j] ∈ A := List.getElem_mem hj
  generalize A[j] = yy at *
  skip
  refine ql_mkS 3 [.int .i64 yy] rfl (by kernel_rfl) rfl (fun b7 => ?_)
  refine ql_append (q := 1) slI rfl rfl rfl (fun v' => by repeat constructor) (fun w' hs => ⟨_, _, Blk.rd (hs.blk (b := b7) (by repeat first | exact .head _ | refine .tail _ ?_)) rfl 1⟩) (by simp [oneV]) (by omega) (by omega) (fun q4 => ?_)
  have hADl : (A ++ [yy]).length = A.length + 1 := by simp
  have hADi : ∀ x ∈ A ++ [yy], 0 ≤ x ∧ x < s.length := fun x hx => by rcases List.mem_append.1 hx with h | h; exact A2 x h; rw [List.mem_singleton.1 h]; exact A2 yy hAj
  rw [show ints A ++ [Value.int .i64 yy] = ints (A ++ [yy]) by simp [ints], ← hADl]
  obtain ⟨AD, hAD⟩ : ∃ l, l = A ++ [yy] := ⟨_, rfl⟩
  rw [← hAD] at hADl hADi ⊢
  refine ql_fact (fun w hs => hs.ownSome (v := q4) (by repeat first | exact .head _ | refine .tail _ ?_) (by omega)) ?_
  rintro ⟨pr, cr, rfl⟩
  (refine ql_pure tabOk rfl rfl ?_; refine q_nil ?_; refine q_seq ?_; refine q_region ?_; refine ql_pure tabOk rfl rfl ?_)
  refine ql_call (β := List Int) (ψ := fun L v => v = .tuple #[] ∧ L.Perm AD ∧ srtB L = true) (L' := fun L => [.ow (.slice (some ⟨pr, 0, none⟩) AD.length cr) 3 1 AD.length (ints L)]) tabOk [.ow (.slice (some ⟨pr, 0, none⟩) AD.length cr) 3 1 AD.length (ints AD)] _ (fun x => x = pr) rfl rfl rfl rfl (Sp.cons (by repeat constructor) (Sp.refl _)) (fun x hx => ⟨_, .head _, by rw [hx]; rfl⟩) (fun w' hs => sort_ca w' pr cr AD (by omega) (by omega) (hs.all _ (.head _))) ?_
  rintro D _ ⟨rfl, D1, D3⟩
  dsimp only [List.cons_append, List.nil_append] at D1 D3 ⊢
  have D2 : ∀ x ∈ D, 0 ≤ x ∧ x < s.length := fun x hx => hADi x (D1.mem_iff.1 hx)
  have D4 := D1.length_eq
  rw [← D4]
  have eA := meas_in hcr.s (c := A) (by omega) A2 A3 depth hd
  have eB := meas_in hcr.s (c := B) (by omega) B2 B3 depth hd
  have eC := meas_in hcr.s (c := C) (by omega) C2 C3 depth hd
  have eD := meas_in hcr.s (c := D) (by omega) D2 D3 depth hd
  obtain ⟨s1, s2, s3, s4, s5⟩ := spread_area hcr.s (a := A) (b := B) (both := C) (more := D) A2 hAj (hAB ▸ C1) (hAD ▸ D1)
  obtain ⟨⟨t1, t2⟩, ⟨t3, t4⟩, t5, t6⟩ := snowV_bd hcr.s A hd
  have tB := (snowV_bd hcr.s B hd).1
  have tC := (snowV_bd hcr.s C hd).1
  have s6 := snow_ceil (areaV s A) depth (snowV s A depth) rfl
  (refine q_nil ?_; refine q_seq ?_; refine q_region ?_; (iterate 2 refine ql_pure tabOk rfl rfl ?_))
  refine ql_callv (val := .tuple #[.int .i64 (areaV s A), .int .i64 0]) tabOk rfl rfl rfl rfl (fun w hs => ?_) ?_; exact by have := areaE_ca w 0 w.heap.size 0 w.heap.size (some ⟨g, 0, none⟩) cd (.slice (some ⟨pa, 0, none⟩) A.length ca) s A (sat_rdL (t := 32) hs (by repeat first | exact .head _ | refine .tail _ ?_) rfl) (by omega) (hs.rdI (t := 3) (by repeat first | exact .head _ | refine .tail _ ?_) rfl) (by omega); rw [eA.1] at this; exact this
  (refine ql_pure tabOk rfl rfl ?_; (iterate 2 refine ql_ext tabOk rfl rfl rfl ?_); (iterate 2 refine ql_pure tabOk rfl rfl ?_); refine q_nil ?_; refine q_seq ?_; refine q_region ?_; (iterate 2 refine ql_pure tabOk rfl rfl ?_))
  refine ql_callv (val := .tuple #[.int .i64 (areaV s B), .int .i64 0]) tabOk rfl rfl rfl rfl (fun w hs => ?_) ?_; exact by have := areaE_ca w 0 w.heap.size 0 w.heap.size (some ⟨g, 0, none⟩) cd (.slice (some ⟨pb, 0, none⟩) B.length cb) s B (sat_rdL (t := 32) hs (by repeat first | exact .head _ | refine .tail _ ?_) rfl) (by omega) (hs.rdI (t := 3) (by repeat first | exact .head _ | refine .tail _ ?_) rfl) (by omega); rw [eB.1] at this; exact this
  (refine ql_pure tabOk rfl rfl ?_; (iterate 2 refine ql_ext tabOk rfl rfl rfl ?_); (iterate 2 refine ql_pure tabOk rfl rfl ?_); refine q_nil ?_; refine q_seq ?_; refine q_region ?_; (iterate 2 refine ql_pure tabOk rfl rfl ?_))
  refine ql_callv (val := .tuple #[.int .i64 (areaV s C), .int .i64 0]) tabOk rfl rfl rfl rfl (fun w hs => ?_) ?_; exact by have := areaE_ca w 0 w.heap.size 0 w.heap.size (some ⟨g, 0, none⟩) cd (.slice (some ⟨pq, 0, none⟩) C.length cq) s C (sat_rdL (t := 32) hs (by repeat first | exact .head _ | refine .tail _ ?_) rfl) (by omega) (hs.rdI (t := 3) (by repeat first | exact .head _ | refine .tail _ ?_) rfl) (by omega); rw [eC.1] at this; exact this
  (refine ql_pure tabOk rfl rfl ?_; (iterate 2 refine ql_ext tabOk rfl rfl rfl ?_); (iterate 2 refine ql_pure tabOk rfl rfl ?_); refine q_nil ?_; refine q_seq ?_; refine q_region ?_; (iterate 2 refine ql_pure tabOk rfl rfl ?_))
  refine ql_callv (val := .tuple #[.int .i64 (areaV s D), .int .i64 0]) tabOk rfl rfl rfl rfl (fun w hs => ?_) ?_; exact by have := areaE_ca w 0 w.heap.size 0 w.heap.size (some ⟨g, 0, none⟩) cd (.slice (some ⟨pr, 0, none⟩) D.length cr) s D (sat_rdL (t := 32) hs (by repeat first | exact .head _ | refine .tail _ ?_) rfl) (by omega) (hs.rdI (t := 3) (by repeat first | exact .head _ | refine .tail _ ?_) rfl) (by omega); rw [eD.1] at this; exact this
  (refine ql_pure tabOk rfl rfl ?_; (iterate 2 refine ql_ext tabOk rfl rfl rfl ?_); (iterate 2 refine ql_pure tabOk rfl rfl ?_); refine q_nil ?_; refine q_seq ?_; refine q_region ?_; (iterate 3 refine ql_pure tabOk rfl rfl ?_))
  refine ql_callv (val := .tuple #[.int .i64 (snowV s A depth), .int .i64 0]) tabOk rfl rfl rfl rfl (fun w hs => ?_) ?_; exact by have := snowE_ca w 0 w.heap.size 0 w.heap.size (some ⟨g, 0, none⟩) cd (.slice (some ⟨pa, 0, none⟩) A.length ca) s A depth (sat_rdL (t := 32) hs (by repeat first | exact .head _ | refine .tail _ ?_) rfl) (by omega) (hs.rdI (t := 3) (by repeat first | exact .head _ | refine .tail _ ?_) rfl) (by omega); rw [eA.2] at this; exact this
  clear eA eB eC eD
  generalize areaV s A = xA at *
  generalize areaV s B = xB at *
  generalize areaV s C = xC at *
  generalize areaV s D = xD at *
  generalize snowV s A depth = vA at *
  subst s2
  (refine ql_pure tabOk rfl rfl ?_; (iterate 2 refine ql_ext tabOk rfl rfl rfl ?_); (iterate 2 refine ql_pure tabOk rfl rfl ?_); refine q_nil ?_; (iterate 2 refine q_seq ?_); refine q_region ?_; refine ql_pure tabOk rfl rfl ?_; refine ql_neqF tabOk rfl rfl rfl (by omega) ?_; refine ql_pure tabOk rfl rfl ?_; refine ql_gyes rfl ?_; refine ql_pure tabOk rfl rfl ?_; refine ql_gyes rfl ?_; refine ql_neqF tabOk rfl rfl rfl (by omega) ?_; (iterate 2 refine ql_pure tabOk rfl rfl ?_); refine ql_gyes rfl ?_; refine ql_pure tabOk rfl rfl ?_; refine ql_gyes rfl ?_; refine ql_neqF tabOk rfl rfl rfl (by omega) ?_; (iterate 2 refine ql_pure tabOk rfl rfl ?_); refine ql_gyes rfl ?_; refine ql_pure tabOk rfl rfl ?_; refine ql_gyes rfl ?_; refine ql_neqF tabOk rfl rfl rfl (by omega) ?_; (iterate 2 refine ql_pure tabOk rfl rfl ?_); refine ql_gyes rfl ?_; refine ql_pure tabOk rfl rfl ?_; refine ql_gyes rfl ?_; refine ql_neqF tabOk rfl rfl rfl (by omega) ?_; (iterate 2 refine ql_pure tabOk rfl rfl ?_); refine ql_gyes rfl ?_; refine ql_pure tabOk rfl rfl ?_; refine ql_gyes rfl ?_; refine ql_lssF tabOk rfl rfl rfl (by omega) ?_; (iterate 2 refine ql_pure tabOk rfl rfl ?_); refine ql_gyes rfl ?_; refine ql_pure tabOk rfl rfl ?_; refine ql_gyes rfl ?_; refine ql_pure tabOk rfl rfl ?_; refine ql_gyes rfl ?_; refine ql_neqF tabOk rfl rfl rfl (by omega) ?_; (iterate 2 refine ql_pure tabOk rfl rfl ?_); refine ql_gyes rfl ?_; refine ql_pure tabOk rfl rfl ?_; refine ql_gyes rfl ?_; refine ql_pure tabOk rfl rfl ?_; refine ql_gyes rfl ?_; refine ql_pure tabOk rfl rfl ?_; refine ql_gyes rfl ?_; refine ql_ar tabOk rfl rfl rfl rfl (by omega) (by omega) ?_; refine ql_gyes rfl ?_; refine ql_gtrF tabOk rfl rfl rfl (by omega) ?_; (iterate 2 refine ql_pure tabOk rfl rfl ?_); refine ql_gyes rfl ?_; refine ql_pure tabOk rfl rfl ?_; refine ql_gyes rfl ?_; refine ql_pure tabOk rfl rfl ?_; refine ql_gyes rfl ?_; refine ql_pure tabOk rfl rfl ?_; refine ql_gyes rfl ?_; refine ql_pure tabOk rfl rfl ?_; refine ql_gyes rfl ?_; refine ql_lssF tabOk rfl rfl rfl (by omega) ?_; (iterate 2 refine ql_pure tabOk rfl rfl ?_); refine ql_gyes rfl ?_; refine ql_pure tabOk rfl rfl ?_; refine ql_gyes rfl ?_; refine ql_ar tabOk rfl rfl rfl rfl (by omega) (by omega) ?_; refine ql_gyes rfl ?_; refine ql_pure tabOk rfl rfl ?_; refine ql_gyes rfl ?_; refine ql_pure tabOk rfl rfl ?_; refine ql_gyes rfl ?_; refine ql_ar tabOk rfl rfl rfl rfl (by omega) (by omega) ?_; refine ql_gyes rfl ?_; refine ql_lssF tabOk rfl rfl rfl (by omega) ?_; (iterate 2 refine ql_pure tabOk rfl rfl ?_); refine ql_gyes rfl ?_; refine ql_pure tabOk rfl rfl ?_; refine ql_gyes rfl ?_; refine ql_ar tabOk rfl rfl rfl rfl (by omega) (by omega) ?_; refine ql_gyes rfl ?_; refine ql_ar tabOk rfl rfl rfl rfl (by omega) (by omega) ?_; refine ql_gyes rfl ?_; refine ql_pure tabOk rfl rfl ?_; refine ql_gyes rfl ?_; refine ql_pure tabOk rfl rfl ?_; refine ql_gyes rfl ?_; refine ql_ar tabOk rfl rfl rfl rfl (by omega) (by omega) ?_; refine ql_gyes rfl ?_; refine ql_geqF tabOk rfl rfl rfl (by omega) ?_; refine ql_pure tabOk rfl rfl ?_; refine q_nil ?_; refine q_cond_false rfl ?_; refine q_skip ?_; refine q_seq ?_; refine q_region ?_; refine ql_pure tabOk rfl rfl ?_; refine ql_loadAB tabOk rfl rfl rfl (by repeat first | exact .head _ | refine .tail _ ?_) (by rfl) (by rfl) ?_)
  refine ql_call (β := Value × List (Value × List Int)) tabOk [] _ M0 rfl rfl rfl rfl (Sp.refl _) (fun _ h => h.elim) (fun w' hs => all_ok w' 0 w'.heap.size (some ⟨g, 0, none⟩) cd s r (sat_rdL (t := 32) hs (by repeat first | exact .head _ | refine .tail _ ?_) rfl) hcr hA1) ?_
  rintro ⟨z1, xs⟩ _ ⟨rfl, hx⟩
  dsimp only [lsK, List.cons_append, List.nil_append] at hx ⊢
  have l1 := congrArg List.length hx
  rw [List.length_map] at l1
  have hrows : ∀ c ∈ allC s r, c.length ≤ 1000000 := fun c hc => by have := allC_len hcr hc; omega
  have hcin : ∀ q ∈ allC s r, (∀ x ∈ q, 0 ≤ x ∧ x < s.length) ∧ (q.length : Int) = r.laps ∧ srtB q = true := fun q hq => by
    obtain ⟨h1, h2⟩ := List.mem_filter.1 hq
    obtain ⟨m1, m2, m3⟩ := coursesL_mem.1 h1
    exact ⟨m2, by rw [m1]; unfold nL; omega, m3⟩
  refine ql_fact (fun w hs => hs.slice2 (v := z1) (by repeat first | exact .head _ | refine .tail _ ?_)) ?_
  rintro ⟨va, vc, rfl⟩
  (refine ql_pure tabOk rfl rfl ?_; (iterate 2 refine ql_ext tabOk rfl rfl rfl ?_); (iterate 2 refine ql_pure tabOk rfl rfl ?_); refine q_nil ?_; refine q_seq ?_; refine q_region ?_; refine ql_pure tabOk rfl rfl ?_; refine ql_loadAB tabOk rfl rfl rfl (by repeat first | exact .head _ | refine .tail _ ?_) (by rfl) (by rfl) ?_; refine ql_pure tabOk rfl rfl ?_)
  rcases cheap_best s r depth with ⟨hno, hall⟩ | ⟨R, hR, hRm, hbest⟩
  · have hl0 : (allC s r).length = 0 := by rw [hall]; rfl
    obtain ⟨KK1, hKK1⟩ : ∃ x : Nat, x = 0 + 1 + 6 + 1 + 6 + 1 := ⟨_, rfl⟩
    rw [← hKK1]
    refine ql_callv (val := .tuple #[.slice none 0 0, .int .i64 0, .int .i64 6]) tabOk rfl rfl rfl rfl (fun w hs => ?_) ?_; exact by have := cheap_no w 0 w.heap.size (some ⟨g, 0, none⟩) cd s r depth (sat_rdL (t := 32) hs (by repeat first | exact .head _ | refine .tail _ ?_) rfl) (by omega) (by rw [cheap6 hcr hd hno]; decide); rw [cheap6 hcr hd hno] at this; exact this
    (refine ql_pure tabOk rfl rfl ?_; (iterate 3 refine ql_ext tabOk rfl rfl rfl ?_); (iterate 3 refine ql_pure tabOk rfl rfl ?_); refine q_nil ?_; (iterate 2 refine q_seq ?_); refine q_region ?_; refine ql_pure tabOk rfl rfl ?_; refine ql_neqF tabOk rfl rfl rfl (by omega) ?_; refine ql_pure tabOk rfl rfl ?_; refine ql_gyes rfl ?_; refine ql_pure tabOk rfl rfl ?_; refine ql_gyes rfl ?_; refine ql_eqlF tabOk rfl rfl rfl (by omega) ?_; refine ql_gyes rfl ?_; refine ql_pure tabOk rfl rfl ?_; refine ql_gyes rfl ?_; refine ql_pure tabOk rfl rfl ?_; refine ql_gyes rfl ?_; refine ql_gtrF tabOk rfl rfl rfl (by omega) ?_; refine ql_gyes rfl ?_)
    refine ql_neb bool_b rfl rfl rfl ?_
    ((iterate 2 refine ql_pure tabOk rfl rfl ?_); refine ql_gyes rfl ?_; refine ql_pure tabOk rfl rfl ?_; refine ql_gyes rfl ?_; refine ql_neqT tabOk rfl rfl rfl (by omega) ?_; refine ql_gyes rfl ?_; refine ql_pure tabOk rfl rfl ?_; refine ql_gyes rfl ?_; refine ql_pure tabOk rfl rfl ?_; refine ql_gyes rfl ?_; refine ql_neqF tabOk rfl rfl rfl (by omega) ?_; refine ql_gyes rfl ?_; (iterate 2 refine ql_pure tabOk rfl rfl ?_); refine q_nil ?_; refine q_cond_false rfl ?_; refine q_skip ?_; refine q_seq ?_; refine q_region ?_; refine ql_pure tabOk rfl rfl ?_)
    refine ql_call (β := Int) (ψ := fun zq v => v = .int .i64 zq ∧ 0 ≤ zq ∧ zq ≤ 100000 - 1) (L' := fun _ => [dkP (.slice a2 n2 c2) b2 (KK1 + 1)]) tabOk [dkP (.slice a2 n2 c2) b2 (KK1)] _ (fun x => x = b2) rfl rfl rfl rfl (Sp.cons (by repeat constructor) (Sp.refl _)) (fun x hx => ⟨_, .head _, hx⟩) (fun w' hs => drw0 hbyb2 hs (by omega) (by omega)) ?_; rintro vol _ ⟨rfl, hvol⟩
    (refine ql_pure tabOk rfl rfl ?_; refine q_nil ?_; refine q_seq ?_; refine q_region ?_; refine ql_pure tabOk rfl rfl ?_; refine ql_loadAB tabOk rfl rfl rfl (by repeat first | exact .head _ | refine .tail _ ?_) (by rfl) (by rfl) ?_; (iterate 2 refine ql_pure tabOk rfl rfl ?_))
    refine ql_call (β := Value × List (Value × List Int)) tabOk [] _ M0 rfl rfl rfl rfl (Sp.refl _) (fun _ h => h.elim) (fun w' hs => cov_ok w' 0 w'.heap.size (some ⟨g, 0, none⟩) cd s r depth (vol) (sat_rdL (t := 32) hs (by repeat first | exact .head _ | refine .tail _ ?_) rfl) (by omega) (covered0 hcr hd (by omega) hA1)) ?_
    rintro ⟨z2, ls⟩ _ ⟨rfl, hl⟩
    dsimp only [lsK, List.cons_append, List.nil_append] at hl ⊢
    refine ql_fact (fun w hs => hs.slice2 (v := z2) (by repeat first | exact .head _ | refine .tail _ ?_)) ?_
    rintro ⟨ya, yc, rfl⟩
    (refine ql_pure tabOk rfl rfl ?_; (iterate 2 refine ql_ext tabOk rfl rfl rfl ?_); (iterate 2 refine ql_pure tabOk rfl rfl ?_); refine q_nil ?_; refine q_seq ?_)
    refine q_draw _ [dkP (.slice a2 n2 c2) b2 (KK1 + 1)] (Sp.cons (by repeat constructor) (Sp.refl _)) (by kernel_rfl) (by kernel_rfl) ?_
    (refine qf_pure tabOk rfl rfl rfl ?_; refine qf_loadAB tabOk rfl rfl rfl (by repeat first | exact .head _ | refine .tail _ ?_) (by rfl) (by rfl) ?_; (iterate 3 refine qf_pure tabOk rfl rfl rfl ?_))
    refine qf_call (β := Int) (ψ := fun zq v => v = .int .i64 zq ∧ 0 ≤ zq ∧ zq ≤ 50000 - 1) (L' := fun _ => [dkP (.slice a2 n2 c2) b2 (KK1 + 1 + 1)]) tabOk [dkP (.slice a2 n2 c2) b2 (KK1 + 1)] _ (fun x => x = b2) rfl rfl rfl rfl (Sp.cons (by repeat constructor) (Sp.refl _)) (fun x hx => ⟨_, .head _, hx⟩) (fun w' hs => drw0 hbyb2 hs (by omega) (by omega)) ?_; rintro dv _ ⟨rfl, hdv⟩
    (refine qf_ar tabOk rfl rfl rfl rfl (by omega) (by omega) ?_)
    refine qf_call (β := Value × List (Value × List Int)) tabOk [] _ M0 rfl rfl rfl rfl (Sp.refl _) (fun _ h => h.elim) (fun w' hs => cov_ok w' 0 w'.heap.size (some ⟨g, 0, none⟩) cd s r depth (vol + dv) (sat_rdL (t := 32) hs (by repeat first | exact .head _ | refine .tail _ ?_) rfl) (by omega) (covered0 hcr hd (by omega) hA1)) ?_
    rintro ⟨z3, ms⟩ _ ⟨rfl, hms⟩
    dsimp only [lsK, List.cons_append, List.nil_append] at hms ⊢
    refine qf_fact (fun w hs => hs.slice2 (v := z3) (by repeat first | exact .head _ | refine .tail _ ?_)) ?_
    rintro ⟨xa, xc, rfl⟩
    have l2 := congrArg List.length hl
    have l3 := congrArg List.length hms
    rw [List.length_map] at l2 l3
    have cm1 := (cov_mono s r depth (v := vol) (u := vol + dv) (by omega)).1
    have cm2 := (cov_mono s r depth (v := vol) (u := vol + dv) (by omega)).2
    have hlm : ∀ u q, (u, q) ∈ ls → q ∈ allC s r ∧ snowV s q depth ≤ vol := fun u q h => cov_mem (by rw [← hl]; exact List.mem_map.2 ⟨_, h, rfl⟩)
    (refine qf_pure tabOk rfl rfl rfl ?_; (iterate 2 refine qf_ext tabOk rfl rfl rfl ?_); (iterate 2 refine qf_pure tabOk rfl rfl rfl ?_); refine qf_nil ?_; (iterate 2 refine q_seq ?_); refine q_region ?_; refine ql_pure tabOk rfl rfl ?_; refine ql_neqF tabOk rfl rfl rfl (by omega) ?_; refine ql_pure tabOk rfl rfl ?_; refine ql_gyes rfl ?_; refine ql_pure tabOk rfl rfl ?_; refine ql_gyes rfl ?_; refine ql_neqF tabOk rfl rfl rfl (by omega) ?_; (iterate 2 refine ql_pure tabOk rfl rfl ?_); refine ql_gyes rfl ?_; refine ql_pure tabOk rfl rfl ?_; refine ql_gyes rfl ?_; refine ql_pure tabOk rfl rfl ?_; refine ql_gyes rfl ?_; refine ql_pure tabOk rfl rfl ?_; refine ql_gyes rfl ?_; refine ql_pure tabOk rfl rfl ?_; refine ql_gyes rfl ?_; refine ql_gtrF tabOk rfl rfl rfl (by omega) ?_; (iterate 2 refine ql_pure tabOk rfl rfl ?_); refine ql_gyes rfl ?_; refine ql_pure tabOk rfl rfl ?_; refine ql_gyes rfl ?_; refine ql_pure tabOk rfl rfl ?_; refine ql_gyes rfl ?_; refine ql_pure tabOk rfl rfl ?_; refine ql_gyes rfl ?_; refine ql_pure tabOk rfl rfl ?_; refine ql_gyes rfl ?_; refine ql_gtrF tabOk rfl rfl rfl (by omega) ?_; refine ql_pure tabOk rfl rfl ?_; refine q_nil ?_; refine q_cond_false rfl ?_; refine q_skip ?_; (iterate 2 refine q_seq ?_); refine q_region ?_; (iterate 3 refine ql_pure tabOk rfl rfl ?_); refine q_nil ?_; refine q_block ?_)
    refine q_loop (σ := Nat) (fun i => i ≤ ls.length) (fun i => ls.length - i) (fun i => [(7, .slice (some ⟨g, 0, none⟩) s.length cd), (8, .pointer (some ⟨b8, 0, none⟩)), (10, .int .i64 depth), (18, .int .i64 6), (25, .slice va xs.length vc), (26, .slice none 0 0), (27, .int .i64 0), (28, .int .i64 vol), (30, .slice xa ms.length xc), (241, .slice ya ls.length yc), (242, .int .i64 ls.length), (243, .int .i64 i)])
      (fun _ => [.ow (.slice xa ms.length xc) 22 1 ms.length (ms.map (·.1)), un (rowsO 3 ms), .ow (.slice ya ls.length yc) 22 1 ls.length (ls.map (·.1)), un (rowsO 3 ls), .ow (.slice va xs.length vc) 22 1 xs.length (xs.map (·.1)), un (rowsO 3 xs), .pt b8 (rlC r) 27, .ow (.slice (some ⟨g, 0, none⟩) s.length cd) 32 3 s.length (lpC s)]) 0 (by omega) ⟨rfl, rfl, rfl, rfl, rfl, rfl, rfl, rfl, rfl, rfl, rfl, rfl, trivial⟩ (by repeat (first | exact Sp.nil | exact Sp.refl _ | refine Sp.cons (by repeat constructor) ?_)) ?_
    rintro i hi K hK
    (refine q_seq ?_; refine q_region ?_; refine ql_lssF tabOk rfl rfl rfl (by omega) ?_; refine q_nil ?_; refine q_seq ?_; refine q_cond_false rfl ?_; refine q_exit _ rfl ?_; (iterate 2 refine q_seq ?_); refine q_region ?_; refine ql_pure tabOk rfl rfl ?_; refine ql_neqT tabOk rfl rfl rfl (by omega) ?_; refine q_nil ?_; refine q_cond_true rfl ?_; refine q_seq ?_; refine q_region ?_; (iterate 2 refine ql_pure tabOk rfl rfl ?_); refine ql_eqlT tabOk rfl rfl rfl (by omega) ?_; refine ql_pure tabOk rfl rfl ?_; refine ql_gyes rfl ?_)
    clear hK
    refine ql_callv (val := .bool true) tabOk rfl rfl rfl rfl (fun w hs => ?_) ?_; exact awake_ca w
    ((iterate 2 refine ql_pure tabOk rfl rfl ?_); refine q_nil ?_; refine q_ret ?_)
    refine q_fin tabOk rfl (by repeat (first | exact RVs.nil | apply RVs.tmp rfl | apply RVs.cellA rfl rfl (by repeat first | exact .head _ | refine .tail _ ?_) (by rfl) | apply RVs.cell1 rfl rfl (by repeat first | exact .head _ | refine .tail _ ?_))) fun w hs => ?_
    exact ⟨rfl, hs.chg0⟩
  · have hl0 : 0 < (allC s r).length := List.length_pos_of_mem hRm
    obtain ⟨KK1, hKK1⟩ : ∃ x : Nat, x = 0 + 1 + 6 + 1 + 6 + 1 := ⟨_, rfl⟩
    rw [← hKK1]
    obtain ⟨R1, R2, R3⟩ := hcin R hRm
    have eR := (meas_in hcr.s (c := R) (by omega) R1 R3 depth hd).2
    have hRb := (snowV_bd hcr.s R hd).2.2
    have hR0 : 0 < R.length := by omega
    have hRp := snow_pos (d := depth) hcr.s (List.getElem_mem hR0) (R1 _ (List.getElem_mem hR0)) hd.1
    obtain ⟨cR, hcR⟩ := cov_first (d := depth) hR
    have hcN := cov_none (d := depth) hbest
    clear hbest
    obtain ⟨nR, hnR⟩ : ∃ x : Int, x = snowV s R depth := ⟨_, rfl⟩
    rw [← hnR] at eR hRb hRp hcR hcN
    refine ql_call (β := Value) (ψ := fun y v => v = .tuple #[y, .int .i64 nR, .int .i64 0]) (L' := fun y => [.ow y 3 1 R.length (ints R)]) tabOk [] _ M0 rfl rfl rfl rfl (Sp.refl _) (fun _ h => h.elim) (fun w' hs => by
      rw [hnR]
      exact cheap_ok w' 0 w'.heap.size (some ⟨g, 0, none⟩) cd s r depth R (sat_rdL (t := 32) hs (by repeat first | exact .head _ | refine .tail _ ?_) rfl) hcr hd hR) ?_
    rintro cv _ rfl
    dsimp only [List.cons_append, List.nil_append]
    (refine ql_pure tabOk rfl rfl ?_; (iterate 3 refine ql_ext tabOk rfl rfl rfl ?_); (iterate 3 refine ql_pure tabOk rfl rfl ?_); refine q_nil ?_; (iterate 2 refine q_seq ?_); refine q_region ?_; refine ql_pure tabOk rfl rfl ?_; refine ql_neqF tabOk rfl rfl rfl (by omega) ?_; refine ql_pure tabOk rfl rfl ?_; refine ql_gyes rfl ?_; refine ql_pure tabOk rfl rfl ?_; refine ql_gyes rfl ?_; refine ql_eqlT tabOk rfl rfl rfl (by omega) ?_; refine ql_gyes rfl ?_; refine ql_pure tabOk rfl rfl ?_; refine ql_gyes rfl ?_; refine ql_pure tabOk rfl rfl ?_; refine ql_gyes rfl ?_; refine ql_gtrT tabOk rfl rfl rfl (by omega) ?_; refine ql_gyes rfl ?_)
    refine ql_neb bool_b rfl rfl rfl ?_
    ((iterate 2 refine ql_pure tabOk rfl rfl ?_); refine ql_gyes rfl ?_; refine ql_pure tabOk rfl rfl ?_; refine ql_gyes rfl ?_; refine ql_neqF tabOk rfl rfl rfl (by omega) ?_; refine ql_gyes rfl ?_; refine ql_pure tabOk rfl rfl ?_; (iterate 2 refine ql_gno rfl rfl rfl ?_); refine ql_gyes rfl ?_; (iterate 2 refine ql_pure tabOk rfl rfl ?_); refine q_nil ?_; refine q_cond_false rfl ?_; refine q_skip ?_; refine q_seq ?_; refine q_region ?_; refine ql_pure tabOk rfl rfl ?_)
    refine ql_call (β := Int) (ψ := fun zq v => v = .int .i64 zq ∧ 0 ≤ zq ∧ zq ≤ 100000 - 1) (L' := fun _ => [dkP (.slice a2 n2 c2) b2 (KK1 + 1)]) tabOk [dkP (.slice a2 n2 c2) b2 (KK1)] _ (fun x => x = b2) rfl rfl rfl rfl (Sp.cons (by repeat constructor) (Sp.refl _)) (fun x hx => ⟨_, .head _, hx⟩) (fun w' hs => drw0 hbyb2 hs (by omega) (by omega)) ?_; rintro vol _ ⟨rfl, hvol⟩
    (refine ql_pure tabOk rfl rfl ?_; refine q_nil ?_; refine q_seq ?_; refine q_region ?_; refine ql_pure tabOk rfl rfl ?_; refine ql_loadAB tabOk rfl rfl rfl (by repeat first | exact .head _ | refine .tail _ ?_) (by rfl) (by rfl) ?_; (iterate 2 refine ql_pure tabOk rfl rfl ?_))
    refine ql_call (β := Value × List (Value × List Int)) tabOk [] _ M0 rfl rfl rfl rfl (Sp.refl _) (fun _ h => h.elim) (fun w' hs => cov_ok w' 0 w'.heap.size (some ⟨g, 0, none⟩) cd s r depth (vol) (sat_rdL (t := 32) hs (by repeat first | exact .head _ | refine .tail _ ?_) rfl) (by omega) (covered0 hcr hd (by omega) hA1)) ?_
    rintro ⟨z2, ls⟩ _ ⟨rfl, hl⟩
    dsimp only [lsK, List.cons_append, List.nil_append] at hl ⊢
    refine ql_fact (fun w hs => hs.slice2 (v := z2) (by repeat first | exact .head _ | refine .tail _ ?_)) ?_
    rintro ⟨ya, yc, rfl⟩
    (refine ql_pure tabOk rfl rfl ?_; (iterate 2 refine ql_ext tabOk rfl rfl rfl ?_); (iterate 2 refine ql_pure tabOk rfl rfl ?_); refine q_nil ?_; refine q_seq ?_)
    refine q_draw _ [dkP (.slice a2 n2 c2) b2 (KK1 + 1)] (Sp.cons (by repeat constructor) (Sp.refl _)) (by kernel_rfl) (by kernel_rfl) ?_
    (refine qf_pure tabOk rfl rfl rfl ?_; refine qf_loadAB tabOk rfl rfl rfl (by repeat first | exact .head _ | refine .tail _ ?_) (by rfl) (by rfl) ?_; (iterate 3 refine qf_pure tabOk rfl rfl rfl ?_))
    refine qf_call (β := Int) (ψ := fun zq v => v = .int .i64 zq ∧ 0 ≤ zq ∧ zq ≤ 50000 - 1) (L' := fun _ => [dkP (.slice a2 n2 c2) b2 (KK1 + 1 + 1)]) tabOk [dkP (.slice a2 n2 c2) b2 (KK1 + 1)] _ (fun x => x = b2) rfl rfl rfl rfl (Sp.cons (by repeat constructor) (Sp.refl _)) (fun x hx => ⟨_, .head _, hx⟩) (fun w' hs => drw0 hbyb2 hs (by omega) (by omega)) ?_; rintro dv _ ⟨rfl, hdv⟩
    (refine qf_ar tabOk rfl rfl rfl rfl (by omega) (by omega) ?_)
    refine qf_call (β := Value × List (Value × List Int)) tabOk [] _ M0 rfl rfl rfl rfl (Sp.refl _) (fun _ h => h.elim) (fun w' hs => cov_ok w' 0 w'.heap.size (some ⟨g, 0, none⟩) cd s r depth (vol + dv) (sat_rdL (t := 32) hs (by repeat first | exact .head _ | refine .tail _ ?_) rfl) (by omega) (covered0 hcr hd (by omega) hA1)) ?_
    rintro ⟨z3, ms⟩ _ ⟨rfl, hms⟩
    dsimp only [lsK, List.cons_append, List.nil_append] at hms ⊢
    refine qf_fact (fun w hs => hs.slice2 (v := z3) (by repeat first | exact .head _ | refine .tail _ ?_)) ?_
    rintro ⟨xa, xc, rfl⟩
    have l2 := congrArg List.length hl
    have l3 := congrArg List.length hms
    rw [List.length_map] at l2 l3
    have cm1 := (cov_mono s r depth (v := vol) (u := vol + dv) (by omega)).1
    have cm2 := (cov_mono s r depth (v := vol) (u := vol + dv) (by omega)).2
    have hlm : ∀ u q, (u, q) ∈ ls → q ∈ allC s r ∧ snowV s q depth ≤ vol := fun u q h => cov_mem (by rw [← hl]; exact List.mem_map.2 ⟨_, h, rfl⟩)
    (refine qf_pure tabOk rfl rfl rfl ?_; (iterate 2 refine qf_ext tabOk rfl rfl rfl ?_); (iterate 2 refine qf_pure tabOk rfl rfl rfl ?_); refine qf_nil ?_; (iterate 2 refine q_seq ?_); refine q_region ?_; refine ql_pure tabOk rfl rfl ?_; refine ql_neqF tabOk rfl rfl rfl (by omega) ?_; refine ql_pure tabOk rfl rfl ?_; refine ql_gyes rfl ?_; refine ql_pure tabOk rfl rfl ?_; refine ql_gyes rfl ?_; refine ql_neqF tabOk rfl rfl rfl (by omega) ?_; (iterate 2 refine ql_pure tabOk rfl rfl ?_); refine ql_gyes rfl ?_; refine ql_pure tabOk rfl rfl ?_; refine ql_gyes rfl ?_; refine ql_pure tabOk rfl rfl ?_; refine ql_gyes rfl ?_; refine ql_pure tabOk rfl rfl ?_; refine ql_gyes rfl ?_; refine ql_pure tabOk rfl rfl ?_; refine ql_gyes rfl ?_; refine ql_gtrF tabOk rfl rfl rfl (by omega) ?_; (iterate 2 refine ql_pure tabOk rfl rfl ?_); refine ql_gyes rfl ?_; refine ql_pure tabOk rfl rfl ?_; refine ql_gyes rfl ?_; refine ql_pure tabOk rfl rfl ?_; refine ql_gyes rfl ?_; refine ql_pure tabOk rfl rfl ?_; refine ql_gyes rfl ?_; refine ql_pure tabOk rfl rfl ?_; refine ql_gyes rfl ?_; refine ql_gtrF tabOk rfl rfl rfl (by omega) ?_; refine ql_pure tabOk rfl rfl ?_; refine q_nil ?_; refine q_cond_false rfl ?_; refine q_skip ?_; (iterate 2 refine q_seq ?_); refine q_region ?_; (iterate 3 refine ql_pure tabOk rfl rfl ?_); refine q_nil ?_; refine q_block ?_)
    refine q_loop (σ := Nat) (fun i => i ≤ ls.length) (fun i => ls.length - i) (fun i => [(7, .slice (some ⟨g, 0, none⟩) s.length cd), (8, .pointer (some ⟨b8, 0, none⟩)), (10, .int .i64 depth), (18, .int .i64 0), (25, .slice va xs.length vc), (26, cv), (27, .int .i64 nR), (28, .int .i64 vol), (30, .slice xa ms.length xc), (241, .slice ya ls.length yc), (242, .int .i64 ls.length), (243, .int .i64 i)])
      (fun _ => [.ow (.slice xa ms.length xc) 22 1 ms.length (ms.map (·.1)), un (rowsO 3 ms), .ow (.slice ya ls.length yc) 22 1 ls.length (ls.map (·.1)), un (rowsO 3 ls), .ow (.slice va xs.length vc) 22 1 xs.length (xs.map (·.1)), un (rowsO 3 xs), .ow cv 3 1 R.length (ints R), .pt b8 (rlC r) 27, .ow (.slice (some ⟨g, 0, none⟩) s.length cd) 32 3 s.length (lpC s)]) 0 (by omega) ⟨rfl, rfl, rfl, rfl, rfl, rfl, rfl, rfl, rfl, rfl, rfl, rfl, trivial⟩ (by repeat (first | exact Sp.nil | exact Sp.refl _ | refine Sp.cons (by repeat constructor) ?_)) ?_
    rintro i hi K hK
    (refine q_seq ?_; refine q_region ?_; refine ql_pure tabOk rfl rfl ?_; refine q_nil ?_; refine q_seq ?_)
    refine q_if rfl (fun hc => ?_) (fun hc => ?_)
    · have hi2 : i < ls.length := by first | omega | (simp at hc; omega)
      clear hc
      have hmem : ls[i] ∈ ls := List.getElem_mem hi2
      generalize hxi : ls[i] = p at *
      obtain ⟨u, q⟩ := p
      have hqm := (hlm _ _ hmem).1
      have hqv := (hlm _ _ hmem).2
      have q1 := (hcin q hqm).1
      have q2 := (hcin q hqm).2.1
      have q3 := (hcin q hqm).2.2
      have eq := (meas_in hcr.s (c := q) (by omega) q1 q3 depth hd).2
      have hqb := (snowV_bd hcr.s q hd).2.2
      refine q_fact (fun w hs => hs.ownSome (v := .slice ya ls.length yc) (by repeat first | exact .head _ | refine .tail _ ?_) (by omega)) ?_
      rintro ⟨g0, d0, e⟩
      cases e
      refine q_fact (fun w hs => ls_slice hs (xs := ls) (t := 3) (by repeat first | exact .head _ | refine .tail _ ?_) hmem) ?_
      rintro ⟨ua, uc, rfl⟩
      (refine q_skip ?_; refine q_seq ?_; refine q_block ?_; refine q_seq ?_; refine q_region ?_)
      refine ql_index tabOk rfl rfl rfl rfl rfl (by omega) (by omega) ?_
      refine ql_load1 (v := .slice ua q.length uc) tabOk rfl rfl rfl (fun w hs => ls_cell hs (by repeat first | exact .head _ | refine .tail _ ?_) hi2 hxi) ?_
      skip
      refine ql_alloc zero22 rfl (fun b32 => ?_)
      (refine ql_set tabOk rfl rfl rfl rfl (by repeat constructor) ?_; refine q_nil ?_; refine q_seq ?_; refine q_region ?_; refine ql_pure tabOk rfl rfl ?_; refine ql_loadB tabOk rfl rfl rfl (by repeat first | exact .head _ | refine .tail _ ?_) (by rfl) ?_; refine ql_pure tabOk rfl rfl ?_)
      refine ql_callv (val := .tuple #[.int .i64 (snowV s q depth), .int .i64 0]) tabOk rfl rfl rfl rfl (fun w hs => ?_) ?_; exact by have := snowE_ca w 0 w.heap.size 0 w.heap.size (some ⟨g, 0, none⟩) cd (.slice ua q.length uc) s q depth (sat_rdL (t := 32) hs (by repeat first | exact .head _ | refine .tail _ ?_) rfl) (by omega) (ls_rd hs (xs := ls) (t := 3) (by repeat first | exact .head _ | refine .tail _ ?_) hmem) (by omega); rw [eq] at this; exact this
      clear eq
      generalize snowV s q depth = vq at *
      (refine ql_pure tabOk rfl rfl ?_; (iterate 2 refine ql_ext tabOk rfl rfl rfl ?_); (iterate 2 refine ql_pure tabOk rfl rfl ?_); refine q_nil ?_; refine q_seq ?_; refine q_region ?_; refine ql_pure tabOk rfl rfl ?_; refine ql_neqF tabOk rfl rfl rfl (by omega) ?_; refine ql_pure tabOk rfl rfl ?_; refine ql_gyes rfl ?_; refine ql_pure tabOk rfl rfl ?_; refine ql_gyes rfl ?_; refine ql_pure tabOk rfl rfl ?_; refine ql_gyes rfl ?_; refine ql_gtrF tabOk rfl rfl rfl (by omega) ?_; (iterate 2 refine ql_pure tabOk rfl rfl ?_); refine ql_gyes rfl ?_; refine ql_pure tabOk rfl rfl ?_; refine ql_gyes rfl ?_; refine ql_pure tabOk rfl rfl ?_; refine ql_gyes rfl ?_)
      refine ql_callv (val := .bool true) tabOk rfl rfl rfl rfl (fun w hs => ?_) ?_; exact isS_ca w b32 0 w.heap.size 0 w.heap.size (.slice va xs.length vc) (.slice ua q.length uc) (allC s r) q (hs.blk (b := b32) (by repeat first | exact .head _ | refine .tail _ ?_)) (hx ▸ ls_rdII hs (xs := xs) (t := 3) (t2 := 22) (n := xs.length) (by repeat first | exact .head _ | refine .tail _ ?_) (by repeat first | exact .head _ | refine .tail _ ?_)) (by omega) hrows (ls_rd hs (xs := ls) (t := 3) (by repeat first | exact .head _ | refine .tail _ ?_) hmem) (by omega) hqm
      (refine ql_gyes rfl ?_; (iterate 2 refine ql_pure tabOk rfl rfl ?_); refine q_nil ?_; refine q_cond_false rfl ?_; refine q_skip ?_; refine q_blk ?_; refine q_region ?_; refine ql_ar tabOk rfl rfl rfl rfl (by omega) (by omega) ?_; refine ql_pure tabOk rfl rfl ?_; refine q_nil ?_)
      exact hK (i + 1) _ _ (by omega) (by omega) ⟨rfl, rfl, rfl, rfl, rfl, rfl, rfl, rfl, rfl, rfl, rfl, rfl, trivial⟩ (by repeat (first | exact Sp.nil | exact Sp.refl _ | refine Sp.cons (by repeat constructor) ?_))
    · clear hc hK
      (refine q_exit _ rfl ?_; (iterate 2 refine q_seq ?_); refine q_region ?_; refine ql_pure tabOk rfl rfl ?_; refine ql_neqF tabOk rfl rfl rfl (by omega) ?_; refine q_nil ?_; refine q_cond_false rfl ?_; refine q_skip ?_; refine q_seq ?_; refine q_region ?_; (iterate 3 refine ql_pure tabOk rfl rfl ?_))
      refine ql_callv (val := .tuple #[.int .i64 nR, .int .i64 0]) tabOk rfl rfl rfl rfl (fun w hs => ?_) ?_; exact by have := snowE_ca w 0 w.heap.size 0 w.heap.size (some ⟨g, 0, none⟩) cd cv s R depth (sat_rdL (t := 32) hs (by repeat first | exact .head _ | refine .tail _ ?_) rfl) (by omega) (hs.rdI (t := 3) (by repeat first | exact .head _ | refine .tail _ ?_) rfl) (by omega); rw [eR] at this; exact this
      (refine ql_pure tabOk rfl rfl ?_; (iterate 2 refine ql_ext tabOk rfl rfl rfl ?_); (iterate 2 refine ql_pure tabOk rfl rfl ?_); refine q_nil ?_; refine q_seq ?_; refine q_region ?_; refine ql_pure tabOk rfl rfl ?_; refine ql_loadAB tabOk rfl rfl rfl (by repeat first | exact .head _ | refine .tail _ ?_) (by rfl) (by rfl) ?_; (iterate 2 refine ql_pure tabOk rfl rfl ?_))
      refine ql_call (β := Value × List (Value × List Int)) tabOk [] _ M0 rfl rfl rfl rfl (Sp.refl _) (fun _ h => h.elim) (fun w' hs => cov_ok w' 0 w'.heap.size (some ⟨g, 0, none⟩) cd s r depth nR (sat_rdL (t := 32) hs (by repeat first | exact .head _ | refine .tail _ ?_) rfl) (by omega) (covered0 hcr hd (by omega) hA1)) ?_
      rintro ⟨z4, ys⟩ _ ⟨rfl, hy⟩
      dsimp only [lsK, List.cons_append, List.nil_append] at hy ⊢
      refine ql_fact (fun w hs => hs.slice2 (v := z4) (by repeat first | exact .head _ | refine .tail _ ?_)) ?_
      rintro ⟨ua, uc, rfl⟩
      (refine ql_pure tabOk rfl rfl ?_; (iterate 2 refine ql_ext tabOk rfl rfl rfl ?_); (iterate 2 refine ql_pure tabOk rfl rfl ?_); refine q_nil ?_; refine q_seq ?_; refine q_region ?_; refine ql_pure tabOk rfl rfl ?_; refine ql_loadAB tabOk rfl rfl rfl (by repeat first | exact .head _ | refine .tail _ ?_) (by rfl) (by rfl) ?_; (iterate 2 refine ql_pure tabOk rfl rfl ?_); refine ql_ar tabOk rfl rfl rfl rfl (by omega) (by omega) ?_)
      refine ql_call (β := Value × List (Value × List Int)) tabOk [] _ M0 rfl rfl rfl rfl (Sp.refl _) (fun _ h => h.elim) (fun w' hs => cov_ok w' 0 w'.heap.size (some ⟨g, 0, none⟩) cd s r depth (nR - 1) (sat_rdL (t := 32) hs (by repeat first | exact .head _ | refine .tail _ ?_) rfl) (by omega) (covered0 hcr hd (by omega) hA1)) ?_
      rintro ⟨z5, zs⟩ _ ⟨rfl, hz⟩
      dsimp only [lsK, List.cons_append, List.nil_append] at hz ⊢
      refine ql_fact (fun w hs => hs.slice2 (v := z5) (by repeat first | exact .head _ | refine .tail _ ?_)) ?_
      rintro ⟨wa, wc, rfl⟩
      have hz0 : zs.length = 0 := by have := congrArg List.length hz; rw [List.length_map, hcN] at this; exact this
      rw [hcR] at hy
      obtain ⟨⟨u, R'⟩, ys', rfl⟩ : ∃ p l, ys = p :: l := by
        cases ys with
        | nil => cases hy
        | cons p l => exact ⟨p, l, rfl⟩
      obtain rfl : R' = R := by rw [List.map_cons] at hy; exact (List.cons.inj hy).1
      have hyl : 0 < ((u, R') :: ys').length := by simp
      refine ql_fact (fun w hs => hs.ownSome (v := .slice ua ((u, R') :: ys').length uc) (by repeat first | exact .head _ | refine .tail _ ?_) hyl) ?_
      rintro ⟨g0, d0, e⟩
      cases e
      refine ql_fact (fun w hs => ls_slice hs (xs := (u, R') :: ys') (t := 3) (by repeat first | exact .head _ | refine .tail _ ?_) (.head _)) ?_
      rintro ⟨ua, uc2, rfl⟩
      generalize hyy : (Value.slice ua R'.length uc2, R') :: ys' = yl at *
      have hy0 : yl[0]'hyl = (.slice ua R'.length uc2, R') := by subst hyy; rfl
      have hym : (.slice ua R'.length uc2, R') ∈ yl := by rw [← hyy]; exact .head _
      (refine ql_pure tabOk rfl rfl ?_; (iterate 2 refine ql_ext tabOk rfl rfl rfl ?_); (iterate 2 refine ql_pure tabOk rfl rfl ?_); refine q_nil ?_; refine q_seq ?_; refine q_region ?_; refine ql_pure tabOk rfl rfl ?_; refine ql_eqlT tabOk rfl rfl rfl (by omega) ?_; refine ql_pure tabOk rfl rfl ?_; refine ql_gyes rfl ?_; refine ql_pure tabOk rfl rfl ?_; refine ql_gyes rfl ?_; refine ql_eqlT tabOk rfl rfl rfl (by omega) ?_; (iterate 2 refine ql_pure tabOk rfl rfl ?_); refine ql_gyes rfl ?_; refine ql_pure tabOk rfl rfl ?_; refine ql_gyes rfl ?_; refine ql_eqlT tabOk rfl rfl rfl (by omega) ?_; (iterate 2 refine ql_pure tabOk rfl rfl ?_); refine ql_gyes rfl ?_; refine ql_pure tabOk rfl rfl ?_; refine ql_gyes rfl ?_; refine ql_pure tabOk rfl rfl ?_; refine ql_gyes rfl ?_; refine ql_eqlT tabOk rfl rfl rfl (by omega) ?_; (iterate 2 refine ql_pure tabOk rfl rfl ?_); refine ql_gyes rfl ?_; refine ql_pure tabOk rfl rfl ?_; refine ql_gyes rfl ?_; refine ql_pure tabOk rfl rfl ?_; refine ql_gyes rfl ?_; refine ql_gtrT tabOk rfl rfl rfl (by omega) ?_; (iterate 2 refine ql_pure tabOk rfl rfl ?_); refine ql_gyes rfl ?_; refine ql_pure tabOk rfl rfl ?_; refine ql_gyes rfl ?_)
      refine ql_index tabOk rfl rfl rfl rfl rfl (by omega) (by omega) ?_
      (refine ql_gyes rfl ?_)
      refine ql_load1 (v := .slice ua R'.length uc2) tabOk rfl rfl rfl (fun w hs => ls_cell hs (by repeat first | exact .head _ | refine .tail _ ?_) hyl hy0) ?_
      (refine ql_gyes rfl ?_; refine ql_pure tabOk rfl rfl ?_; refine ql_gyes rfl ?_)
      refine ql_callv (val := .bool true) tabOk rfl rfl rfl rfl (fun w hs => ?_) ?_; exact eqI_ca w 0 w.heap.size 0 w.heap.size (.slice ua R'.length uc2) cv R' (ls_rd hs (xs := yl) (t := 3) (by repeat first | exact .head _ | refine .tail _ ?_) hym) (hs.rdI (t := 3) (by repeat first | exact .head _ | refine .tail _ ?_) rfl) (by omega)
      ((iterate 2 refine ql_pure tabOk rfl rfl ?_); refine ql_gyes rfl ?_; refine ql_pure tabOk rfl rfl ?_; refine ql_gyes rfl ?_; refine ql_pure tabOk rfl rfl ?_; refine ql_gyes rfl ?_; refine ql_eqlT tabOk rfl rfl rfl (by omega) ?_; (iterate 2 refine ql_pure tabOk rfl rfl ?_); refine ql_gyes rfl ?_)
      refine ql_callv (val := .bool true) tabOk rfl rfl rfl rfl (fun w hs => ?_) ?_; exact awake_ca w
      ((iterate 2 refine ql_pure tabOk rfl rfl ?_); refine q_nil ?_; refine q_ret ?_)
      refine q_fin tabOk rfl (by repeat (first | exact RVs.nil | apply RVs.tmp rfl | apply RVs.cellA rfl rfl (by repeat first | exact .head _ | refine .tail _ ?_) (by rfl) | apply RVs.cell1 rfl rfl (by repeat first | exact .head _ | refine .tail _ ?_))) fun w hs => ?_
      exact ⟨rfl, hs.chg0⟩
end Go.Proofs.YtgeajgmefokifaaGreat
