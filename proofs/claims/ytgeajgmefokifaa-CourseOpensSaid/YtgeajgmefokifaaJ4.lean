/- My texts K23, K24, K25, K1, K26, K27, L0, E0, E1, E2, E3, E4, E5, L7, E6, E7, E8, E9, E10, E11, W5, E12, E13, joined: a claim takes at most 60 files. -/
import Derived.Test.YtgeajgmefokifaaJ3

/- Walks: lists compared. -/
namespace Go.Proofs.Ytgeajgmefokifaa
open Go Go.Eng

def eqIB (a b : List Int) : Bool := decide (a = b) && true
theorem eqIB_iff {a b : List Int} : eqIB a b = true ↔ a = b := by simp [eqIB]
set_option maxHeartbeats 1000000 in
theorem eqIF_ca (w : World) (lo hi lo2 hi2 : Nat) (v u : Value) (l m : List Int) (h1 : RdI w lo hi v l) (h2 : RdI w lo2 hi2 u m) (hlen : l.length ≤ 1000000) (hlen2 : m.length ≤ 1000000) :
    Ca Try.prog 26 [v, u] w fun r w' => r = .bool (eqIB l m) ∧ Chg [] w w' := by
  obtain ⟨a, ca, rfl, hsa⟩ := RdI.outI h1
  obtain ⟨b, cb, rfl, hsb⟩ := RdI.outI h2
  refine q_of (Sat.nil w M0) Try.func26 rfl (by simp [Try.ntmps26]) ?_
  (refine q_seq ?_; refine q_region ?_; refine ql_pure tabOk rfl rfl ?_; refine q_nil ?_; (iterate 2 refine q_seq ?_); refine q_region ?_; (iterate 5 refine ql_pure tabOk rfl rfl ?_); refine q_nil ?_)
  by_cases hll : l.length = m.length
  · rw [decide_eq_true (show (l.length : Int) = m.length by omega)]
    (refine q_cond_false rfl ?_; refine q_skip ?_; (iterate 2 refine q_seq ?_); refine q_region ?_; (iterate 3 refine ql_pure tabOk rfl rfl ?_); refine q_nil ?_; refine q_block ?_)
    refine q_loop (σ := Nat) (fun s => s ≤ l.length ∧ l.take s = m.take s) (fun s => l.length - s) (fun s => [(0, .slice a l.length ca), (1, .slice b m.length cb), (12, .int .i64 l.length), (13, .int .i64 s)]) (fun _ => []) 0 (by simp) ⟨rfl, rfl, rfl, rfl, trivial⟩ (by repeat (first | exact Sp.nil | exact Sp.refl _ | refine Sp.cons (by repeat constructor) ?_)) ?_
    rintro i ⟨hi, ht⟩ K hK
    (refine q_seq ?_; refine q_region ?_; refine ql_pure tabOk rfl rfl ?_; refine q_nil ?_; refine q_seq ?_)
    refine q_if rfl (fun hc => ?_) (fun hc => ?_)
    · have hi2 : i < l.length := by omega
      have hi3 : i < m.length := by omega
      clear hc
      obtain ⟨ba, oa, rfl⟩ := hsa (by omega)
      obtain ⟨bb, ob, rfl⟩ := hsb (by omega)
      (refine q_skip ?_; refine q_seq ?_; refine q_block ?_; refine q_seq ?_; refine q_region ?_; (iterate 2 refine ql_pure tabOk rfl rfl ?_); refine q_nil ?_; refine q_seq ?_)
      refine q_draw _ [] (Sp.refl _) (by kernel_rfl) (by kernel_rfl) ?_
      ((iterate 2 refine qf_pure tabOk rfl rfl rfl ?_))
      (refine qf_index tabOk rfl rfl rfl rfl rfl (by omega) (by omega) ?_; refine qf_load1 tabOk rfl rfl rfl (fun w hs => RdI.at (RdE.keep h1 hs.chg0) i hi2) ?_)
      ((iterate 2 refine qf_pure tabOk rfl rfl rfl ?_))
      (refine qf_index tabOk rfl rfl rfl rfl rfl (by omega) (by omega) ?_; refine qf_load1 tabOk rfl rfl rfl (fun w hs => RdI.at (RdE.keep h2 hs.chg0) i hi3) ?_)
      (refine qf_pure tabOk rfl rfl rfl ?_; refine qf_nil ?_)
      by_cases he : l[i] = m[i]
      · skip
        rw [decide_eq_true he]
        (refine q_cond_false rfl ?_; refine q_skip ?_; refine q_blk ?_; refine q_region ?_; refine ql_ar tabOk rfl rfl rfl rfl (by omega) (by omega) ?_; refine ql_pure tabOk rfl rfl ?_; refine q_nil ?_)
        exact hK (i + 1) _ _ ⟨by omega, by rw [List.take_succ_eq_append_getElem hi2, List.take_succ_eq_append_getElem hi3, ht, he]⟩ (by omega) ⟨rfl, rfl, rfl, rfl, trivial⟩ (by repeat (first | exact Sp.nil | exact Sp.refl _ | refine Sp.cons (by repeat constructor) ?_))
      · have e : eqIB l m = false := Bool.eq_false_iff.2 fun hh => he (by have := eqIB_iff.1 hh; subst this; rfl)
        rw [e, decide_eq_false he]
        (refine q_cond_true rfl ?_; refine q_seq ?_; refine q_region ?_; refine ql_pure tabOk rfl rfl ?_; refine q_nil ?_; refine q_ret ?_)
        refine q_fin tabOk rfl (by repeat (first | exact RVs.nil | apply RVs.tmp rfl | apply RVs.cellA rfl rfl (by repeat first | exact .head _ | refine .tail _ ?_) (by rfl) | apply RVs.cell1 rfl rfl (by repeat first | exact .head _ | refine .tail _ ?_))) fun w hs => ?_
        exact ⟨rfl, hs.chg0⟩
    · obtain rfl : i = l.length := by omega
      have e : eqIB l m = true := eqIB_iff.2 (by rw [List.take_length] at ht; rw [hll, List.take_length] at ht; exact ht)
      rw [e]
      (refine q_exit _ rfl ?_; refine q_seq ?_; refine q_region ?_; refine ql_pure tabOk rfl rfl ?_; refine q_nil ?_; refine q_ret ?_)
      refine q_fin tabOk rfl (by repeat (first | exact RVs.nil | apply RVs.tmp rfl | apply RVs.cellA rfl rfl (by repeat first | exact .head _ | refine .tail _ ?_) (by rfl) | apply RVs.cell1 rfl rfl (by repeat first | exact .head _ | refine .tail _ ?_))) fun w hs => ?_
      exact ⟨rfl, hs.chg0⟩
  · have e : eqIB l m = false := Bool.eq_false_iff.2 fun hh => hll (by rw [eqIB_iff.1 hh])
    rw [e, decide_eq_false (show ¬ (l.length : Int) = m.length by omega)]
    (refine q_cond_true rfl ?_; refine q_seq ?_; refine q_region ?_; refine ql_pure tabOk rfl rfl ?_; refine q_nil ?_; refine q_ret ?_)
    refine q_fin tabOk rfl (by repeat (first | exact RVs.nil | apply RVs.tmp rfl | apply RVs.cellA rfl rfl (by repeat first | exact .head _ | refine .tail _ ?_) (by rfl) | apply RVs.cell1 rfl rfl (by repeat first | exact .head _ | refine .tail _ ?_))) fun w hs => ?_
    exact ⟨rfl, hs.chg0⟩
theorem eqI_ca (w : World) (lo hi lo2 hi2 : Nat) (v u : Value) (l : List Int) (h1 : RdI w lo hi v l) (h2 : RdI w lo2 hi2 u l) (hlen : l.length ≤ 1000000) :
    Ca Try.prog 26 [v, u] w fun r w' => r = .bool true ∧ Chg [] w w' := by
  have h := eqIF_ca w lo hi lo2 hi2 v u l l h1 h2 hlen hlen
  rwa [eqIB_iff.2 rfl] at h

set_option maxHeartbeats 1000000 in
theorem eqII_ca (w : World) (lo hi lo2 hi2 : Nat) (v u : Value) (ll : List (List Int)) (h1 : RdII w lo hi v ll) (h2 : RdII w lo2 hi2 u ll) (hlen : ll.length ≤ 1000000) (hrow : ∀ l ∈ ll, l.length ≤ 1000000) :
    Ca Try.prog 32 [v, u] w fun r w' => r = .bool true ∧ Chg [] w w' := by
  obtain ⟨a, ca, rfl, hsa⟩ := RdII.outI h1
  obtain ⟨b, cb, rfl, hsb⟩ := RdII.outI h2
  refine q_of (Sat.nil w M0) Try.func32 rfl (by simp [Try.ntmps32]) ?_
  (refine q_seq ?_; refine q_region ?_; refine ql_pure tabOk rfl rfl ?_; refine q_nil ?_; (iterate 2 refine q_seq ?_); refine q_region ?_; (iterate 4 refine ql_pure tabOk rfl rfl ?_); refine ql_neqF tabOk rfl rfl rfl (by omega) ?_; refine q_nil ?_; refine q_cond_false rfl ?_; refine q_skip ?_; (iterate 2 refine q_seq ?_); refine q_region ?_; (iterate 3 refine ql_pure tabOk rfl rfl ?_); refine q_nil ?_; refine q_block ?_)
  refine q_loop (σ := Nat) (fun s => s ≤ ll.length) (fun s => ll.length - s) (fun s => [(0, .slice a ll.length ca), (1, .slice b ll.length cb), (12, .int .i64 ll.length), (13, .int .i64 s)]) (fun _ => []) 0 (by omega) ⟨rfl, rfl, rfl, rfl, trivial⟩ (by repeat (first | exact Sp.nil | exact Sp.refl _ | refine Sp.cons (by repeat constructor) ?_)) ?_
  intro i hi K hK
  (refine q_seq ?_; refine q_region ?_; refine ql_pure tabOk rfl rfl ?_; refine q_nil ?_; refine q_seq ?_)
  refine q_if rfl (fun hc => ?_) (fun hc => ?_)
  · have hi2 : i < ll.length := by omega
    clear hc
    obtain ⟨ba, oa, rfl⟩ := hsa (by omega)
    obtain ⟨bb, ob, rfl⟩ := hsb (by omega)
    obtain ⟨ar, cr, hr1, hc1⟩ := h1.row i hi2
    obtain ⟨br, dr, hr2, hc2⟩ := h2.row i hi2
    have hrl := hrow _ (List.getElem_mem hi2)
    (refine q_skip ?_; refine q_seq ?_; refine q_block ?_; refine q_seq ?_; refine q_region ?_; (iterate 2 refine ql_pure tabOk rfl rfl ?_); refine q_nil ?_; refine q_seq ?_)
    refine q_draw _ [] (Sp.refl _) (by kernel_rfl) (by kernel_rfl) ?_
    ((iterate 2 refine qf_pure tabOk rfl rfl rfl ?_))
    refine qf_index tabOk rfl rfl rfl rfl rfl (by omega) (by omega) ?_
    refine qf_load1 (v := .slice ar ll[i].length cr) tabOk rfl rfl rfl (fun w' hs => hc1 w' hs.chg0) ?_
    ((iterate 2 refine qf_pure tabOk rfl rfl rfl ?_))
    refine qf_index tabOk rfl rfl rfl rfl rfl (by omega) (by omega) ?_
    refine qf_load1 (v := .slice br ll[i].length dr) tabOk rfl rfl rfl (fun w' hs => hc2 w' hs.chg0) ?_
    skip
    refine qf_callv (val := .bool true) tabOk rfl rfl rfl rfl (fun w hs => ?_) ?_; exact eqI_ca w _ _ _ _ _ _ ll[i] (RdE.keep hr1 hs.chg0) (RdE.keep hr2 hs.chg0) hrl
    (refine qf_pure tabOk rfl rfl rfl ?_; refine qf_nil ?_; refine q_cond_false rfl ?_; refine q_skip ?_; refine q_blk ?_; refine q_region ?_; refine ql_ar tabOk rfl rfl rfl rfl (by omega) (by omega) ?_; refine ql_pure tabOk rfl rfl ?_; refine q_nil ?_)
    exact hK (i + 1) _ _ (by omega) (by omega) ⟨rfl, rfl, rfl, rfl, trivial⟩ (by repeat (first | exact Sp.nil | exact Sp.refl _ | refine Sp.cons (by repeat constructor) ?_))
  · (refine q_exit _ rfl ?_; refine q_seq ?_; refine q_region ?_; refine ql_pure tabOk rfl rfl ?_; refine q_nil ?_; refine q_ret ?_)
    refine q_fin tabOk rfl (by repeat (first | exact RVs.nil | apply RVs.tmp rfl | apply RVs.cellA rfl rfl (by repeat first | exact .head _ | refine .tail _ ?_) (by rfl) | apply RVs.cell1 rfl rfl (by repeat first | exact .head _ | refine .tail _ ?_))) fun w hs => ?_
    exact ⟨rfl, hs.chg0⟩

set_option maxHeartbeats 1000000 in
theorem eqR_ca (w : World) (lo hi lo2 hi2 : Nat) (v u : Value) (l : List Int) (h1 : RdI w lo hi v l) (h2 : RdI w lo2 hi2 u l) (hlen : l.length ≤ 1000000) :
    Ca Try.prog 49 [v, u] w fun r w' => r = .bool true ∧ Chg [] w w' := by
  obtain ⟨a, ca, rfl, hsa⟩ := RdI.outI h1
  obtain ⟨b, cb, rfl, hsb⟩ := RdI.outI h2
  refine q_of (Sat.nil w M0) Try.func49 rfl (by simp [Try.ntmps49]) ?_
  (refine q_seq ?_; refine q_region ?_; refine ql_pure tabOk rfl rfl ?_; refine q_nil ?_; (iterate 2 refine q_seq ?_); refine q_region ?_; (iterate 4 refine ql_pure tabOk rfl rfl ?_); refine ql_neqF tabOk rfl rfl rfl (by omega) ?_; refine q_nil ?_; refine q_cond_false rfl ?_; refine q_skip ?_; (iterate 2 refine q_seq ?_); refine q_region ?_; (iterate 3 refine ql_pure tabOk rfl rfl ?_); refine q_nil ?_; refine q_block ?_)
  refine q_loop (σ := Nat) (fun s => s ≤ l.length) (fun s => l.length - s) (fun s => [(0, .slice a l.length ca), (1, .slice b l.length cb), (12, .int .i64 l.length), (13, .int .i64 s)]) (fun _ => []) 0 (by omega) ⟨rfl, rfl, rfl, rfl, trivial⟩ (by repeat (first | exact Sp.nil | exact Sp.refl _ | refine Sp.cons (by repeat constructor) ?_)) ?_
  intro i hi K hK
  (refine q_seq ?_; refine q_region ?_; refine ql_pure tabOk rfl rfl ?_; refine q_nil ?_; refine q_seq ?_)
  refine q_if rfl (fun hc => ?_) (fun hc => ?_)
  · have hi2 : i < l.length := by omega
    clear hc
    obtain ⟨ba, oa, rfl⟩ := hsa (by omega)
    obtain ⟨bb, ob, rfl⟩ := hsb (by omega)
    (refine q_skip ?_; refine q_seq ?_; refine q_block ?_; refine q_seq ?_; refine q_region ?_; (iterate 2 refine ql_pure tabOk rfl rfl ?_); refine q_nil ?_; refine q_seq ?_)
    refine q_draw _ [] (Sp.refl _) (by kernel_rfl) (by kernel_rfl) ?_
    ((iterate 2 refine qf_pure tabOk rfl rfl rfl ?_))
    (refine qf_index tabOk rfl rfl rfl rfl rfl (by omega) (by omega) ?_; refine qf_load1 tabOk rfl rfl rfl (fun w hs => RdI.at (RdE.keep h1 hs.chg0) i hi2) ?_)
    ((iterate 2 refine qf_pure tabOk rfl rfl rfl ?_))
    (refine qf_index tabOk rfl rfl rfl rfl rfl (by omega) (by omega) ?_; refine qf_load1 tabOk rfl rfl rfl (fun w hs => RdI.at (RdE.keep h2 hs.chg0) i hi2) ?_)
    (refine qf_neqF tabOk rfl rfl rfl (by omega) ?_; refine qf_nil ?_; refine q_cond_false rfl ?_; refine q_skip ?_; refine q_blk ?_; refine q_region ?_; refine ql_ar tabOk rfl rfl rfl rfl (by omega) (by omega) ?_; refine ql_pure tabOk rfl rfl ?_; refine q_nil ?_)
    skip
    exact hK (i + 1) _ _ (by omega) (by omega) ⟨rfl, rfl, rfl, rfl, trivial⟩ (by repeat (first | exact Sp.nil | exact Sp.refl _ | refine Sp.cons (by repeat constructor) ?_))
  · (refine q_exit _ rfl ?_; refine q_seq ?_; refine q_region ?_; refine ql_pure tabOk rfl rfl ?_; refine q_nil ?_; refine q_ret ?_)
    refine q_fin tabOk rfl (by repeat (first | exact RVs.nil | apply RVs.tmp rfl | apply RVs.cellA rfl rfl (by repeat first | exact .head _ | refine .tail _ ?_) (by rfl) | apply RVs.cell1 rfl rfl (by repeat first | exact .head _ | refine .tail _ ?_))) fun w hs => ?_
    exact ⟨rfl, hs.chg0⟩

theorem spn_flat : flatB Try.prog 24 [some .i64, some .i64] = true := by kernel_rfl
set_option maxHeartbeats 1000000 in
theorem eqS_ca (w : World) (lo hi lo2 hi2 : Nat) (v u : Value) (l : List (Int × Int)) (h1 : RdS w lo hi v l) (h2 : RdS w lo2 hi2 u l) (hlen : l.length ≤ 1000000) :
    Ca Try.prog 59 [v, u] w fun r w' => r = .bool true ∧ Chg [] w w' := by
  obtain ⟨a, ca, rfl, hsa⟩ := RdS.outI h1
  obtain ⟨b, cb, rfl, hsb⟩ := RdS.outI h2
  refine q_of (Sat.nil w M0) Try.func59 rfl (by simp [Try.ntmps59]) ?_
  (refine q_seq ?_; refine q_region ?_; refine ql_pure tabOk rfl rfl ?_; refine q_nil ?_; (iterate 2 refine q_seq ?_); refine q_region ?_; (iterate 4 refine ql_pure tabOk rfl rfl ?_); refine ql_neqF tabOk rfl rfl rfl (by omega) ?_; refine q_nil ?_; refine q_cond_false rfl ?_; refine q_skip ?_; (iterate 2 refine q_seq ?_); refine q_region ?_; (iterate 3 refine ql_pure tabOk rfl rfl ?_); refine q_nil ?_; refine q_block ?_)
  refine q_loop (σ := Nat) (fun s => s ≤ l.length) (fun s => l.length - s) (fun s => [(0, .slice a l.length ca), (1, .slice b l.length cb), (12, .int .i64 l.length), (13, .int .i64 s)]) (fun _ => []) 0 (by omega) ⟨rfl, rfl, rfl, rfl, trivial⟩ (by repeat (first | exact Sp.nil | exact Sp.refl _ | refine Sp.cons (by repeat constructor) ?_)) ?_
  intro i hi K hK
  (refine q_seq ?_; refine q_region ?_; refine ql_pure tabOk rfl rfl ?_; refine q_nil ?_; refine q_seq ?_)
  refine q_if rfl (fun hc => ?_) (fun hc => ?_)
  · have hi2 : i < l.length := by omega
    clear hc
    obtain ⟨ba, oa, rfl⟩ := hsa (by omega)
    obtain ⟨bb, ob, rfl⟩ := hsb (by omega)
    (refine q_skip ?_; refine q_seq ?_; refine q_block ?_; refine q_seq ?_; refine q_region ?_; (iterate 2 refine ql_pure tabOk rfl rfl ?_); refine q_nil ?_; refine q_seq ?_)
    refine q_draw _ [] (Sp.refl _) (by kernel_rfl) (by kernel_rfl) ?_
    ((iterate 2 refine qf_pure tabOk rfl rfl rfl ?_))
    refine qf_index tabOk rfl rfl rfl rfl rfl (by omega) (by omega) ?_
    refine qf_loadA tabOk rfl rfl rfl rfl (fun w hs => RdS.at (RdE.keep h1 hs.chg0) i hi2) ?_
    ((iterate 2 refine qf_pure tabOk rfl rfl rfl ?_))
    refine qf_index tabOk rfl rfl rfl rfl rfl (by omega) (by omega) ?_
    refine qf_loadA tabOk rfl rfl rfl rfl (fun w hs => RdS.at (RdE.keep h2 hs.chg0) i hi2) ?_
    skip
    refine qf_neF [some .i64, some .i64] spn_flat rfl rfl rfl rfl rfl ?_
    rw [eqL_refl]
    (refine qf_nil ?_; refine q_cond_false rfl ?_; refine q_skip ?_; refine q_blk ?_; refine q_region ?_; refine ql_ar tabOk rfl rfl rfl rfl (by omega) (by omega) ?_; refine ql_pure tabOk rfl rfl ?_; refine q_nil ?_)
    exact hK (i + 1) _ _ (by omega) (by omega) ⟨rfl, rfl, rfl, rfl, trivial⟩ (by repeat (first | exact Sp.nil | exact Sp.refl _ | refine Sp.cons (by repeat constructor) ?_))
  · (refine q_exit _ rfl ?_; refine q_seq ?_; refine q_region ?_; refine ql_pure tabOk rfl rfl ?_; refine q_nil ?_; refine q_ret ?_)
    refine q_fin tabOk rfl (by repeat (first | exact RVs.nil | apply RVs.tmp rfl | apply RVs.cellA rfl rfl (by repeat first | exact .head _ | refine .tail _ ?_) (by rfl) | apply RVs.cell1 rfl rfl (by repeat first | exact .head _ | refine .tail _ ?_))) fun w hs => ?_
    exact ⟨rfl, hs.chg0⟩

theorem dy_nest : nestB Try.prog 73 [[some .i64, some .i64], [some .i64, some .i64], [some .i64, some .i64]] = true := by kernel_rfl
set_option maxHeartbeats 1000000 in
theorem eqD_ca (w : World) (lo hi lo2 hi2 : Nat) (v u : Value) (l : List Dy) (h1 : RdD w lo hi v l) (h2 : RdD w lo2 hi2 u l) (hlen : l.length ≤ 1000000) :
    Ca Try.prog 112 [v, u] w fun r w' => r = .bool true ∧ Chg [] w w' := by
  obtain ⟨a, ca, rfl, hsa⟩ := RdD.outI h1
  obtain ⟨b, cb, rfl, hsb⟩ := RdD.outI h2
  refine q_of (Sat.nil w M0) Try.func112 rfl (by simp [Try.ntmps112]) ?_
  (refine q_seq ?_; refine q_region ?_; refine ql_pure tabOk rfl rfl ?_; refine q_nil ?_; (iterate 2 refine q_seq ?_); refine q_region ?_; (iterate 4 refine ql_pure tabOk rfl rfl ?_); refine ql_neqF tabOk rfl rfl rfl (by omega) ?_; refine q_nil ?_; refine q_cond_false rfl ?_; refine q_skip ?_; (iterate 2 refine q_seq ?_); refine q_region ?_; (iterate 3 refine ql_pure tabOk rfl rfl ?_); refine q_nil ?_; refine q_block ?_)
  refine q_loop (σ := Nat) (fun s => s ≤ l.length) (fun s => l.length - s) (fun s => [(0, .slice a l.length ca), (1, .slice b l.length cb), (12, .int .i64 l.length), (13, .int .i64 s)]) (fun _ => []) 0 (by omega) ⟨rfl, rfl, rfl, rfl, trivial⟩ (by repeat (first | exact Sp.nil | exact Sp.refl _ | refine Sp.cons (by repeat constructor) ?_)) ?_
  intro i hi K hK
  (refine q_seq ?_; refine q_region ?_; refine ql_pure tabOk rfl rfl ?_; refine q_nil ?_; refine q_seq ?_)
  refine q_if rfl (fun hc => ?_) (fun hc => ?_)
  · have hi2 : i < l.length := by omega
    clear hc
    obtain ⟨ba, oa, rfl⟩ := hsa (by omega)
    obtain ⟨bb, ob, rfl⟩ := hsb (by omega)
    (refine q_skip ?_; refine q_seq ?_; refine q_block ?_; refine q_seq ?_; refine q_region ?_; (iterate 2 refine ql_pure tabOk rfl rfl ?_); refine q_nil ?_; refine q_seq ?_)
    refine q_draw _ [] (Sp.refl _) (by kernel_rfl) (by kernel_rfl) ?_
    ((iterate 2 refine qf_pure tabOk rfl rfl rfl ?_))
    refine qf_index tabOk rfl rfl rfl rfl rfl (by omega) (by omega) ?_
    refine qf_loadA tabOk rfl rfl rfl rfl (fun w hs => RdD.at (RdE.keep h1 hs.chg0) i hi2) ?_
    ((iterate 2 refine qf_pure tabOk rfl rfl rfl ?_))
    refine qf_index tabOk rfl rfl rfl rfl rfl (by omega) (by omega) ?_
    refine qf_loadA tabOk rfl rfl rfl rfl (fun w hs => RdD.at (RdE.keep h2 hs.chg0) i hi2) ?_
    skip
    refine qf_neN [[some .i64, some .i64], [some .i64, some .i64], [some .i64, some .i64]] dy_nest rfl rfl rfl rfl rfl ?_
    rw [eqL_refl]
    (refine qf_nil ?_; refine q_cond_false rfl ?_; refine q_skip ?_; refine q_blk ?_; refine q_region ?_; refine ql_ar tabOk rfl rfl rfl rfl (by omega) (by omega) ?_; refine ql_pure tabOk rfl rfl ?_; refine q_nil ?_)
    exact hK (i + 1) _ _ (by omega) (by omega) ⟨rfl, rfl, rfl, rfl, trivial⟩ (by repeat (first | exact Sp.nil | exact Sp.refl _ | refine Sp.cons (by repeat constructor) ?_))
  · (refine q_exit _ rfl ?_; refine q_seq ?_; refine q_region ?_; refine ql_pure tabOk rfl rfl ?_; refine q_nil ?_; refine q_ret ?_)
    refine q_fin tabOk rfl (by repeat (first | exact RVs.nil | apply RVs.tmp rfl | apply RVs.cellA rfl rfl (by repeat first | exact .head _ | refine .tail _ ?_) (by rfl) | apply RVs.cell1 rfl rfl (by repeat first | exact .head _ | refine .tail _ ?_))) fun w hs => ?_
    exact ⟨rfl, hs.chg0⟩
end Go.Proofs.Ytgeajgmefokifaa

/- Walks: the examples; awake. -/
namespace Go.Proofs.Ytgeajgmefokifaa
open Go Go.Eng

theorem Blk.rdS {w : World} {b : Nat} {l : List (Int × Int)} {cs : List Value} {t : TypeId} {c : Nat} (h : Blk w b cs t) (hc : cs = spC l) : RdS w 0 w.heap.size (.slice (some ⟨b, 0, none⟩) l.length c) l := by
  subst hc
  exact RdS.of ⟨spC_length l, .inr ⟨b, 0, c, rfl, fun _ => ⟨Nat.zero_le _, h.lt, h.lt⟩, fun j _ => by rw [Blk.cell h]; simp⟩⟩
theorem Blk.rdL {w : World} {b : Nat} {l : List Lp} {cs : List Value} {t : TypeId} {c : Nat} (h : Blk w b cs t) (hc : cs = lpC l) : RdL w 0 w.heap.size (.slice (some ⟨b, 0, none⟩) l.length c) l := by
  subst hc
  exact RdL.of ⟨lpC_length l, .inr ⟨b, 0, c, rfl, fun _ => ⟨Nat.zero_le _, h.lt, h.lt⟩, fun j _ => by rw [Blk.cell h]; simp⟩⟩
theorem Blk.rdD {w : World} {b : Nat} {l : List Dy} {cs : List Value} {t : TypeId} {c : Nat} (h : Blk w b cs t) (hc : cs = dyC l) : RdD w 0 w.heap.size (.slice (some ⟨b, 0, none⟩) l.length c) l := by
  subst hc
  exact RdD.of ⟨dyC_length l, .inr ⟨b, 0, c, rfl, fun _ => ⟨Nat.zero_le _, h.lt, h.lt⟩, fun j _ => by rw [Blk.cell h]; simp⟩⟩
theorem RdII.of {w : World} {lo hi : Nat} {v : Value} {ll : List (List Int)} {vs : List Value} (h : Rd w lo hi v 1 vs.length vs) (h1 : vs.length = ll.length) (h2 : ∀ i (h : i < vs.length) (h' : i < ll.length), RdI w lo hi vs[i] ll[i]) (h3 : ∀ e ∈ vs, oneV e = true) : RdII w lo hi v ll :=
  ⟨vs, RdE.one h h3, h1, h2⟩
theorem spanM_ca (a b : Int) (w : World) : Ca Try.prog 42 [.int .i64 a, .int .i64 b] w fun v w' => v = .agg #[.int .i64 a, .int .i64 b] ∧ Chg [] w w' := by
  refine q_of (Sat.nil w M0) Try.func42 rfl (by simp [Try.ntmps42]) ?_
  (refine q_seq ?_; refine q_region ?_)
  refine ql_alloc zero24 rfl (fun b2 => ?_)
  (refine q_nil ?_; refine q_seq ?_; refine q_region ?_; (iterate 2 refine ql_pure tabOk rfl rfl ?_))
  refine ql_mk #[.int .i64 a, .int .i64 b] rfl (by kernel_rfl) rfl ?_
  (refine ql_setA tabOk rfl rfl rfl rfl rfl (by repeat constructor) rfl ?_; refine q_nil ?_; refine q_ret ?_)
  refine q_fin tabOk rfl (by repeat (first | exact RVs.nil | apply RVs.tmp rfl | apply RVs.cellA rfl rfl (by repeat first | exact .head _ | refine .tail _ ?_) (by rfl) | apply RVs.cell1 rfl rfl (by repeat first | exact .head _ | refine .tail _ ?_))) fun w hs => ?_
  exact ⟨rfl, hs.chg0⟩
def threeS : List Lp := [⟨2000, 60, 6⟩, ⟨2500, 90, 6⟩, ⟨3000, 100, 6⟩]
def threeR : Rl := ⟨3, 7000, 7500, 200, 270, 2000, 3000, 6, 2⟩
def threeQ : Rl := ⟨3, 7000, 7000, 200, 270, 2000, 3000, 6, 1⟩
def shortW (n : Int) : Wn := ⟨500, 800, [⟨300, 300, 100, 200, 10, 20⟩, ⟨200, 400, 300, 600, 10, 20⟩, ⟨min n 500, n, 0, 100, 10, 20⟩]⟩
theorem three_ca (w : World) : Ca Try.prog 86 [] w fun v w' => ∃ b : Nat, v = .tuple #[.slice (some ⟨b, 0, none⟩) 3 3, .agg (rlC threeR).toArray] ∧ Sat w M0 [.pt b (lpC threeS) 31] w' := by
  refine q_of (Sat.nil w M0) Try.func86 rfl (by simp [Try.ntmps86]) ?_
  (refine q_seq ?_; refine q_region ?_; refine ql_pure tabOk rfl rfl ?_)
  refine ql_alloc zero26 rfl (fun b1 => ?_)
  (refine q_nil ?_; refine q_seq ?_; refine q_region ?_)
  refine ql_mk #[.int .i64 2000, .int .i64 60, .int .i64 6] rfl (by kernel_rfl) rfl ?_
  refine ql_mk #[.int .i64 2500, .int .i64 90, .int .i64 6] rfl (by kernel_rfl) rfl ?_
  refine ql_mk #[.int .i64 3000, .int .i64 100, .int .i64 6] rfl (by kernel_rfl) rfl ?_
  refine ql_mkS 31 (lpC threeS) rfl (by kernel_rfl) rfl (fun bn => ?_)
  refine ql_callv tabOk rfl rfl rfl rfl (fun w hs => spanM_ca _ _ w) ?_
  refine ql_callv tabOk rfl rfl rfl rfl (fun w hs => spanM_ca _ _ w) ?_
  refine ql_callv tabOk rfl rfl rfl rfl (fun w hs => spanM_ca _ _ w) ?_
  refine ql_mk #[.int .i64 3, .int .i64 7000, .int .i64 7500, .int .i64 200, .int .i64 270, .int .i64 2000, .int .i64 3000, .int .i64 6, .int .i64 2] rfl (by kernel_rfl) rfl ?_
  (refine ql_pure tabOk rfl rfl ?_; refine ql_setA tabOk rfl rfl rfl rfl rfl (by repeat constructor) rfl ?_; refine q_nil ?_; refine q_ret ?_)
  refine q_fin tabOk rfl (by repeat (first | exact RVs.nil | apply RVs.tmp rfl | apply RVs.cellA rfl rfl (by repeat first | exact .head _ | refine .tail _ ?_) (by rfl) | apply RVs.cell1 rfl rfl (by repeat first | exact .head _ | refine .tail _ ?_))) fun w hs => ?_
  exact ⟨bn, rfl, hs.sp (by repeat (first | exact Sp.nil | exact Sp.refl _ | refine Sp.cons (by repeat constructor) ?_))⟩
theorem short_ca (w : World) (n : Int) : Ca Try.prog 87 [.int .i64 n] w fun v w' => ∃ b : Nat, v = .agg #[.int .i64 500, .int .i64 800, .slice (some ⟨b, 0, none⟩) 3 3] ∧ Sat w M0 [.pt b (dyC (shortW n).days) 73] w' := by
  refine q_of (Sat.nil w M0) Try.func87 rfl (by simp [Try.ntmps87]) ?_
  (refine q_seq ?_; refine q_region ?_)
  refine ql_alloc zero61 rfl (fun b2 => ?_)
  (refine q_nil ?_; refine q_seq ?_; refine q_region ?_)
  refine ql_callv tabOk rfl rfl rfl rfl (fun w hs => spanM_ca _ _ w) ?_
  refine ql_callv tabOk rfl rfl rfl rfl (fun w hs => spanM_ca _ _ w) ?_
  refine ql_callv tabOk rfl rfl rfl rfl (fun w hs => spanM_ca _ _ w) ?_
  refine ql_mk #[.int .i64 300, .int .i64 300, .int .i64 100, .int .i64 200, .int .i64 10, .int .i64 20] rfl (by kernel_rfl) rfl ?_
  refine ql_callv tabOk rfl rfl rfl rfl (fun w hs => spanM_ca _ _ w) ?_
  refine ql_callv tabOk rfl rfl rfl rfl (fun w hs => spanM_ca _ _ w) ?_
  refine ql_callv tabOk rfl rfl rfl rfl (fun w hs => spanM_ca _ _ w) ?_
  refine ql_mk #[.int .i64 200, .int .i64 400, .int .i64 300, .int .i64 600, .int .i64 10, .int .i64 20] rfl (by kernel_rfl) rfl ?_
  ((iterate 3 refine ql_pure tabOk rfl rfl ?_))
  refine ql_callv tabOk rfl rfl rfl rfl (fun w hs => spanM_ca _ _ w) ?_
  refine ql_callv tabOk rfl rfl rfl rfl (fun w hs => spanM_ca _ _ w) ?_
  refine ql_callv tabOk rfl rfl rfl rfl (fun w hs => spanM_ca _ _ w) ?_
  refine ql_mk #[.int .i64 (min n 500), .int .i64 n, .int .i64 0, .int .i64 100, .int .i64 10, .int .i64 20] rfl (by kernel_rfl) rfl ?_
  refine ql_mkS 73 (dyC (shortW n).days) rfl (by kernel_rfl) rfl (fun bn => ?_)
  refine ql_mk #[.int .i64 500, .int .i64 800, .slice (some ⟨bn, 0, none⟩) 3 3] rfl (by kernel_rfl) rfl ?_
  (refine ql_setA tabOk rfl rfl rfl rfl rfl (by repeat constructor) rfl ?_; refine q_nil ?_; refine q_ret ?_)
  refine q_fin tabOk rfl (by repeat (first | exact RVs.nil | apply RVs.tmp rfl | apply RVs.cellA rfl rfl (by repeat first | exact .head _ | refine .tail _ ?_) (by rfl) | apply RVs.cell1 rfl rfl (by repeat first | exact .head _ | refine .tail _ ?_))) fun w hs => ?_
  exact ⟨bn, rfl, hs.sp (by repeat (first | exact Sp.nil | exact Sp.refl _ | refine Sp.cons (by repeat constructor) ?_))⟩
theorem aw_all : allC threeS threeR = [[0, 0, 2], [0, 1, 1], [0, 1, 2]] := by decide +kernel
theorem aw_cr : CR threeS threeR := checkS_iff.1 (by decide +kernel)
theorem aw_cr2 : CR threeS threeQ := checkS_iff.1 (by decide +kernel)
theorem aw_brk : (brokenV threeS threeR [1, 1, 1]).2 = 0 := by decide +kernel
theorem aw_brk2 : brkL threeS threeR [1, 1, 1] = [4] := by decide +kernel
theorem aw_cheap : cheapO threeS threeR 40 (coursesL threeS.length (nL threeR)) = some [0, 1, 1] := by decide +kernel
theorem aw_snow : snowV threeS [0, 1, 1] 40 = 10800 := by decide +kernel
theorem aw_yield : yieldO threeS threeQ (coursesL threeS.length (nL threeQ)) = some [0, 1, 2] := by decide +kernel
theorem aw_yield2 : brkL threeS threeQ [0, 1, 2] = [0] := by decide +kernel
theorem aw_first : firstV (shortW 500) = (2, 0) := by decide +kernel
theorem aw_proves : provesV (shortW 500) (-1) 2 = (360, 0) := by decide +kernel
theorem aw_ranges : rangesV (shortW 500) = [(280, 390), (160, 600)] := by decide +kernel
theorem aw_right : (shortW 500).Right := checkW_iff.1 (by decide +kernel)
theorem aw_least : leastV (shortW 100) = (460, 0) := by decide +kernel
theorem aw_room : roomV (shortW 100) = (540, 0) := by decide +kernel
end Go.Proofs.Ytgeajgmefokifaa

/- Walks: awake. -/
namespace Go.Proofs.Ytgeajgmefokifaa
open Go Go.Eng

theorem blk_II {w : World} {c1 c2 c3 c4 : Nat} {t1 t2 t3 t4 : TypeId} {l1 l2 l3 : List Int} (h1 : Blk w c1 (ints l1) t1) (h2 : Blk w c2 (ints l2) t2) (h3 : Blk w c3 (ints l3) t3)
    (h4 : Blk w c4 [.slice (some ⟨c1, 0, none⟩) l1.length l1.length, .slice (some ⟨c2, 0, none⟩) l2.length l2.length, .slice (some ⟨c3, 0, none⟩) l3.length l3.length] t4) : RdII w 0 w.heap.size (.slice (some ⟨c4, 0, none⟩) 3 3) [l1, l2, l3] := by
  refine RdII.of (vs := [.slice (some ⟨c1, 0, none⟩) l1.length l1.length, .slice (some ⟨c2, 0, none⟩) l2.length l2.length, .slice (some ⟨c3, 0, none⟩) l3.length l3.length]) ((Blk.rd h4 (by simp [oneV]) 3).wide (Nat.zero_le _) h4.lt) rfl (fun i hi hi' => ?_) (by simp [oneV])
  obtain rfl | rfl | rfl : i = 0 ∨ i = 1 ∨ i = 2 := by simp at hi; omega
  · exact Blk.rdI h1
  · exact Blk.rdI h2
  · exact Blk.rdI h3

theorem lsK_rd {w0 w : World} {M : Nat → Prop} {H : List Ck} {v : Value} {xs : List (Value × List Int)} (h : Sat w0 M H w) (h1 : Ck.ow v 27 1 xs.length (xs.map (·.1)) ∈ H) (h2 : un (rowsO 3 xs) ∈ H) : RdII w 0 w.heap.size v (xs.map (·.2)) :=
  rowsO_rd (h.mem h2) (h.mem h1)
set_option maxHeartbeats 4000000 in
set_option maxRecDepth 4000 in
theorem awake_ca (w : World) : Ca Try.prog 18 [] w fun v w' => v = .bool true ∧ Chg [] w w' := by
  refine q_of (Sat.nil w M0) Try.func18 rfl (by simp [Try.ntmps18]) ?_
  (refine q_seq ?_; refine q_region ?_; refine ql_pure tabOk rfl rfl ?_; refine q_nil ?_; refine q_seq ?_; refine q_region ?_)
  refine ql_call (β := Nat) tabOk [] _ M0 rfl rfl rfl rfl (Sp.refl _) (fun _ h => h.elim) (fun w' hs => three_ca w') ?_
  rintro bs _ rfl
  (refine ql_pure tabOk rfl rfl ?_; (iterate 2 refine ql_ext tabOk rfl rfl rfl ?_))
  refine ql_alloc zero26 rfl (fun b2 => ?_)
  (refine ql_pure tabOk rfl rfl ?_; refine ql_setA tabOk rfl rfl rfl rfl rfl (by repeat constructor) rfl ?_; refine q_nil ?_; refine q_seq ?_; refine q_region ?_; refine ql_pure tabOk rfl rfl ?_; refine ql_loadAB tabOk rfl rfl rfl (by repeat first | exact .head _ | refine .tail _ ?_) (by rfl) (by rfl) ?_)
  have hS : ∀ w', Blk w' bs (lpC threeS) 31 → RdL w' 0 w'.heap.size (.slice (some ⟨bs, 0, none⟩) threeS.length 3) threeS := fun w' hb => Blk.rdL hb rfl
  refine ql_call (β := Value × List (Value × List Int)) (ψ := fun y x => x = .tuple #[y.1, .int .i64 0] ∧ y.2.map (·.2) = allC threeS threeR) tabOk [] _ M0 rfl rfl rfl rfl (Sp.refl _) (fun _ h => h.elim) (fun w' hs => all_ok w' 0 w'.heap.size (some ⟨bs, 0, none⟩) 3 threeS threeR (hS w' (hs.blk (by repeat first | exact .head _ | refine .tail _ ?_))) aw_cr (by rw [aw_all]; decide)) ?_
  rintro ⟨va, xs⟩ _ ⟨rfl, hxs⟩
  rw [aw_all] at hxs
  dsimp only at hxs
  dsimp only [lsK, List.cons_append, List.nil_append]
  refine ql_fact (fun w hs => hs.slice (v := va) (by repeat first | exact .head _ | refine .tail _ ?_)) ?_
  rintro ⟨va1, va2, va3, rfl⟩
  (refine ql_pure tabOk rfl rfl ?_; (iterate 2 refine ql_ext tabOk rfl rfl rfl ?_); (iterate 2 refine ql_pure tabOk rfl rfl ?_); refine q_nil ?_; refine q_seq ?_; refine q_region ?_; refine ql_pure tabOk rfl rfl ?_; refine ql_loadAB tabOk rfl rfl rfl (by repeat first | exact .head _ | refine .tail _ ?_) (by rfl) (by rfl) ?_)
  refine ql_mkS 3 (ints [1, 1, 1]) rfl (by kernel_rfl) rfl (fun b3 => ?_)
  refine ql_call (β := Value) tabOk [] _ M0 rfl rfl rfl rfl (Sp.refl _) (fun _ h => h.elim) (fun w' hs => brok_ok w' 0 w'.heap.size 0 w'.heap.size (some ⟨bs, 0, none⟩) 3 _ threeS threeR [1, 1, 1] (hS w' (hs.blk (by repeat first | exact .head _ | refine .tail _ ?_))) (by decide) (Blk.rdI (l := [1, 1, 1]) (c := 3) (hs.blk (b := b3) (by repeat first | exact .head _ | refine .tail _ ?_))) (by decide) aw_brk) ?_
  rintro vb _ rfl
  rw [aw_brk2]
  dsimp only [List.cons_append, List.nil_append]
  refine ql_fact (fun w hs => hs.slice (v := vb) (by repeat first | exact .head _ | refine .tail _ ?_)) ?_
  rintro ⟨vb1, vb2, vb3, rfl⟩
  (refine ql_pure tabOk rfl rfl ?_; (iterate 2 refine ql_ext tabOk rfl rfl rfl ?_); (iterate 2 refine ql_pure tabOk rfl rfl ?_); refine q_nil ?_; refine q_seq ?_; refine q_region ?_; refine ql_pure tabOk rfl rfl ?_; refine ql_loadAB tabOk rfl rfl rfl (by repeat first | exact .head _ | refine .tail _ ?_) (by rfl) (by rfl) ?_)
  refine ql_call (β := Value) tabOk [] _ M0 rfl rfl rfl rfl (Sp.refl _) (fun _ h => h.elim) (fun w' hs => cheap_ok w' 0 w'.heap.size (some ⟨bs, 0, none⟩) 3 threeS threeR 40 [0, 1, 1] (hS w' (hs.blk (by repeat first | exact .head _ | refine .tail _ ?_))) aw_cr (by decide) aw_cheap) ?_
  rintro vc _ rfl
  rw [aw_snow]
  dsimp only [List.cons_append, List.nil_append]
  refine ql_fact (fun w hs => hs.slice (v := vc) (by repeat first | exact .head _ | refine .tail _ ?_)) ?_
  rintro ⟨vc1, vc2, vc3, rfl⟩
  (refine ql_pure tabOk rfl rfl ?_; (iterate 3 refine ql_ext tabOk rfl rfl rfl ?_); (iterate 3 refine ql_pure tabOk rfl rfl ?_); refine q_nil ?_; (iterate 2 refine q_seq ?_); refine q_region ?_; refine ql_pure tabOk rfl rfl ?_; refine ql_neqF tabOk rfl rfl rfl (by omega) ?_; refine ql_pure tabOk rfl rfl ?_; refine ql_gyes rfl ?_; refine ql_pure tabOk rfl rfl ?_; refine ql_gyes rfl ?_; refine ql_neqF tabOk rfl rfl rfl (by omega) ?_; (iterate 2 refine ql_pure tabOk rfl rfl ?_); refine ql_gyes rfl ?_; refine ql_pure tabOk rfl rfl ?_; refine ql_gyes rfl ?_; refine ql_neqF tabOk rfl rfl rfl (by omega) ?_; (iterate 2 refine ql_pure tabOk rfl rfl ?_); refine ql_gyes rfl ?_; refine ql_pure tabOk rfl rfl ?_; refine ql_gyes rfl ?_)
  refine ql_mkS 3 (ints [0, 0, 2]) rfl (by kernel_rfl) rfl (fun c1 => ?_)
  refine ql_gyes rfl ?_
  refine ql_mkS 3 (ints [0, 1, 1]) rfl (by kernel_rfl) rfl (fun c2 => ?_)
  refine ql_gyes rfl ?_
  refine ql_mkS 3 (ints [0, 1, 2]) rfl (by kernel_rfl) rfl (fun c3 => ?_)
  refine ql_gyes rfl ?_
  refine ql_mkS 27 [.slice (some ⟨c1, 0, none⟩) 3 3, .slice (some ⟨c2, 0, none⟩) 3 3, .slice (some ⟨c3, 0, none⟩) 3 3] rfl (by kernel_rfl) rfl (fun c4 => ?_)
  (refine ql_gyes rfl ?_)
  refine ql_callv (val := .bool true) tabOk rfl rfl rfl rfl (fun w hs => ?_) ?_; exact eqII_ca w 0 w.heap.size 0 w.heap.size _ _ [[0, 0, 2], [0, 1, 1], [0, 1, 2]] (hxs ▸ lsK_rd (v := .slice va1 va2 va3) (xs := xs) hs (by repeat first | exact .head _ | refine .tail _ ?_) (by repeat first | exact .head _ | refine .tail _ ?_)) (blk_II (l1 := [0, 0, 2]) (l2 := [0, 1, 1]) (l3 := [0, 1, 2]) (hs.blk (b := c1) (by repeat first | exact .head _ | refine .tail _ ?_)) (hs.blk (b := c2) (by repeat first | exact .head _ | refine .tail _ ?_)) (hs.blk (b := c3) (by repeat first | exact .head _ | refine .tail _ ?_)) (hs.blk (b := c4) (by repeat first | exact .head _ | refine .tail _ ?_))) (by decide) (by decide)
  (refine ql_gyes rfl ?_; (iterate 3 refine ql_pure tabOk rfl rfl ?_); refine ql_gyes rfl ?_; refine ql_pure tabOk rfl rfl ?_; refine ql_gyes rfl ?_)
  refine ql_mkS 88 (ints [4]) rfl (by kernel_rfl) rfl (fun c5 => ?_)
  refine ql_gyes rfl ?_
  refine ql_callv (val := .bool true) tabOk rfl rfl rfl rfl (fun w hs => ?_) ?_; exact eqR_ca w 0 w.heap.size 0 w.heap.size _ _ [4] (hs.rdI (v := .slice vb1 vb2 vb3) (l := [4]) (by repeat first | exact .head _ | refine .tail _ ?_) rfl) (Blk.rdI (l := [4]) (c := 1) (hs.blk (b := c5) (by repeat first | exact .head _ | refine .tail _ ?_))) (by decide)
  (refine ql_gyes rfl ?_; (iterate 3 refine ql_pure tabOk rfl rfl ?_); refine ql_gyes rfl ?_; refine ql_pure tabOk rfl rfl ?_; refine ql_gyes rfl ?_)
  refine ql_mkS 3 (ints [0, 1, 1]) rfl (by kernel_rfl) rfl (fun c6 => ?_)
  refine ql_gyes rfl ?_
  refine ql_callv (val := .bool true) tabOk rfl rfl rfl rfl (fun w hs => ?_) ?_; exact eqI_ca w 0 w.heap.size 0 w.heap.size _ _ [0, 1, 1] (hs.rdI (v := .slice vc1 vc2 vc3) (l := [0, 1, 1]) (by repeat first | exact .head _ | refine .tail _ ?_) rfl) (Blk.rdI (l := [0, 1, 1]) (c := 3) (hs.blk (b := c6) (by repeat first | exact .head _ | refine .tail _ ?_))) (by decide)
  (refine ql_gyes rfl ?_; (iterate 3 refine ql_pure tabOk rfl rfl ?_); refine ql_gyes rfl ?_; refine ql_pure tabOk rfl rfl ?_; refine ql_gyes rfl ?_; refine ql_neqF tabOk rfl rfl rfl (by omega) ?_; refine ql_pure tabOk rfl rfl ?_; refine q_nil ?_; refine q_cond_false rfl ?_; refine q_skip ?_; refine q_seq ?_; refine q_region ?_)
  refine ql_callv tabOk rfl rfl rfl rfl (fun w hs => spanM_ca _ _ w) ?_
  (refine ql_pure tabOk rfl rfl ?_; refine ql_st8 tabOk rfl rfl rfl rfl (by repeat constructor) ?_; refine ql_pure tabOk rfl rfl ?_)
  refine ql_stA (rlC threeQ) tabOk rfl rfl rfl rfl rfl (by repeat constructor) rfl rfl ?_
  (refine q_nil ?_; refine q_seq ?_; refine q_region ?_; refine ql_pure tabOk rfl rfl ?_; refine ql_loadAB tabOk rfl rfl rfl (by repeat first | exact .head _ | refine .tail _ ?_) (by rfl) (by rfl) ?_)
  refine ql_call (β := Value × Value) tabOk [] _ M0 rfl rfl rfl rfl (Sp.refl _) (fun _ h => h.elim) (fun w' hs => yield_ok w' 0 w'.heap.size (some ⟨bs, 0, none⟩) 3 threeS threeQ [0, 1, 2] (hS w' (hs.blk (by repeat first | exact .head _ | refine .tail _ ?_))) aw_cr2 aw_yield) ?_
  rintro ⟨vy, vz⟩ _ rfl
  rw [aw_yield2]
  dsimp only [List.cons_append, List.nil_append]
  refine ql_fact (fun w hs => hs.slice (v := vy) (by repeat first | exact .head _ | refine .tail _ ?_)) ?_
  rintro ⟨vy1, vy2, vy3, rfl⟩
  refine ql_fact (fun w hs => hs.slice (v := vz) (by repeat first | exact .head _ | refine .tail _ ?_)) ?_
  rintro ⟨vz1, vz2, vz3, rfl⟩
  (refine ql_pure tabOk rfl rfl ?_; (iterate 3 refine ql_ext tabOk rfl rfl rfl ?_); (iterate 3 refine ql_pure tabOk rfl rfl ?_); refine q_nil ?_; refine q_seq ?_; refine q_region ?_)
  have hD : ∀ n w' b, Blk w' b (dyC (shortW n).days) 73 → RdD w' 0 w'.heap.size (.slice (some ⟨b, 0, none⟩) (shortW n).days.length 3) (shortW n).days := fun n w' b hb => Blk.rdD hb rfl
  refine ql_call (β := Nat) tabOk [] _ M0 rfl rfl rfl rfl (Sp.refl _) (fun _ h => h.elim) (fun w' hs => short_ca w' 500) ?_
  rintro d1 _ rfl
  refine ql_callv (val := .tuple #[.int .i64 2, .int .i64 0]) tabOk rfl rfl rfl rfl (fun w hs => ?_) ?_; exact by have := first_ca w 0 w.heap.size (shortW 500) (some ⟨d1, 0, none⟩) 3 (hD 500 w d1 (hs.blk (by repeat first | exact .head _ | refine .tail _ ?_))) (by decide); rw [aw_first] at this; exact this
  (refine ql_pure tabOk rfl rfl ?_; (iterate 2 refine ql_ext tabOk rfl rfl rfl ?_); (iterate 2 refine ql_pure tabOk rfl rfl ?_); refine q_nil ?_; refine q_seq ?_; refine q_region ?_)
  refine ql_call (β := Nat) tabOk [] _ M0 rfl rfl rfl rfl (Sp.refl _) (fun _ h => h.elim) (fun w' hs => short_ca w' 500) ?_
  rintro d2 _ rfl
  refine ql_mk #[.int .i64 (-1), .int .i64 2] rfl (by kernel_rfl) rfl ?_
  refine ql_callv (val := .tuple #[.int .i64 360, .int .i64 0]) tabOk rfl rfl rfl rfl (fun w hs => ?_) ?_; exact by have := proves_ca w 0 w.heap.size (shortW 500) (some ⟨d2, 0, none⟩) 3 (-1) 2 (hD 500 w d2 (hs.blk (by repeat first | exact .head _ | refine .tail _ ?_))) (by decide); rw [aw_proves] at this; exact this
  (refine ql_pure tabOk rfl rfl ?_; (iterate 2 refine ql_ext tabOk rfl rfl rfl ?_); (iterate 2 refine ql_pure tabOk rfl rfl ?_); refine q_nil ?_; refine q_seq ?_; refine q_region ?_)
  refine ql_call (β := Nat) tabOk [] _ M0 rfl rfl rfl rfl (Sp.refl _) (fun _ h => h.elim) (fun w' hs => short_ca w' 500) ?_
  rintro d3 _ rfl
  refine ql_call (β := Value) tabOk [] _ M0 rfl rfl rfl rfl (Sp.refl _) (fun _ h => h.elim) (fun w' hs => ranges_ok w' 0 w'.heap.size (shortW 500) (some ⟨d3, 0, none⟩) 3 (hD 500 w' d3 (hs.blk (by repeat first | exact .head _ | refine .tail _ ?_))) aw_right) ?_
  rintro vx _ rfl
  rw [aw_ranges]
  dsimp only [List.cons_append, List.nil_append]
  refine ql_fact (fun w hs => hs.slice (v := vx) (by repeat first | exact .head _ | refine .tail _ ?_)) ?_
  rintro ⟨vx1, vx2, vx3, rfl⟩
  (refine ql_pure tabOk rfl rfl ?_; (iterate 2 refine ql_ext tabOk rfl rfl rfl ?_); (iterate 2 refine ql_pure tabOk rfl rfl ?_); refine q_nil ?_; (iterate 2 refine q_seq ?_); refine q_region ?_; refine ql_pure tabOk rfl rfl ?_; refine ql_neqF tabOk rfl rfl rfl (by omega) ?_; refine ql_pure tabOk rfl rfl ?_; refine ql_gyes rfl ?_; refine ql_pure tabOk rfl rfl ?_; refine ql_gyes rfl ?_; refine ql_neqF tabOk rfl rfl rfl (by omega) ?_; (iterate 2 refine ql_pure tabOk rfl rfl ?_); refine ql_gyes rfl ?_; refine ql_pure tabOk rfl rfl ?_; refine ql_gyes rfl ?_; refine ql_neqF tabOk rfl rfl rfl (by omega) ?_; (iterate 2 refine ql_pure tabOk rfl rfl ?_); refine ql_gyes rfl ?_; refine ql_pure tabOk rfl rfl ?_; refine ql_gyes rfl ?_; refine ql_neqF tabOk rfl rfl rfl (by omega) ?_; (iterate 2 refine ql_pure tabOk rfl rfl ?_); refine ql_gyes rfl ?_; refine ql_pure tabOk rfl rfl ?_; refine ql_gyes rfl ?_)
  refine ql_mkS 88 (ints [0]) rfl (by kernel_rfl) rfl (fun c7 => ?_)
  refine ql_gyes rfl ?_
  refine ql_callv (val := .bool true) tabOk rfl rfl rfl rfl (fun w hs => ?_) ?_; exact eqR_ca w 0 w.heap.size 0 w.heap.size _ _ [0] (hs.rdI (v := .slice vy1 vy2 vy3) (l := [0]) (by repeat first | exact .head _ | refine .tail _ ?_) rfl) (Blk.rdI (l := [0]) (c := 1) (hs.blk (b := c7) (by repeat first | exact .head _ | refine .tail _ ?_))) (by decide)
  (refine ql_gyes rfl ?_; (iterate 3 refine ql_pure tabOk rfl rfl ?_); refine ql_gyes rfl ?_; refine ql_pure tabOk rfl rfl ?_; refine ql_gyes rfl ?_)
  refine ql_mkS 3 (ints [0, 1, 2]) rfl (by kernel_rfl) rfl (fun c8 => ?_)
  refine ql_gyes rfl ?_
  refine ql_callv (val := .bool true) tabOk rfl rfl rfl rfl (fun w hs => ?_) ?_; exact eqI_ca w 0 w.heap.size 0 w.heap.size _ _ [0, 1, 2] (hs.rdI (v := .slice vz1 vz2 vz3) (l := [0, 1, 2]) (by repeat first | exact .head _ | refine .tail _ ?_) rfl) (Blk.rdI (l := [0, 1, 2]) (c := 3) (hs.blk (b := c8) (by repeat first | exact .head _ | refine .tail _ ?_))) (by decide)
  (refine ql_gyes rfl ?_; (iterate 3 refine ql_pure tabOk rfl rfl ?_); refine ql_gyes rfl ?_; refine ql_pure tabOk rfl rfl ?_; refine ql_gyes rfl ?_; refine ql_neqF tabOk rfl rfl rfl (by omega) ?_; (iterate 2 refine ql_pure tabOk rfl rfl ?_); refine ql_gyes rfl ?_; refine ql_pure tabOk rfl rfl ?_; refine ql_gyes rfl ?_; refine ql_neqF tabOk rfl rfl rfl (by omega) ?_; (iterate 2 refine ql_pure tabOk rfl rfl ?_); refine ql_gyes rfl ?_; refine ql_pure tabOk rfl rfl ?_; refine ql_gyes rfl ?_)
  refine ql_mk #[.int .i64 280, .int .i64 390] rfl (by kernel_rfl) rfl ?_
  refine ql_gyes rfl ?_
  refine ql_mk #[.int .i64 160, .int .i64 600] rfl (by kernel_rfl) rfl ?_
  refine ql_gyes rfl ?_
  refine ql_mkS 24 (spC [(280, 390), (160, 600)]) rfl (by kernel_rfl) rfl (fun c9 => ?_)
  refine ql_gyes rfl ?_
  refine ql_callv (val := .bool true) tabOk rfl rfl rfl rfl (fun w hs => ?_) ?_; exact eqS_ca w 0 w.heap.size 0 w.heap.size _ _ [(280, 390), (160, 600)] (own_rdS (t := 24) (hs.mem (c := .ow (.slice vx1 vx2 vx3) 24 2 2 (spC [(280, 390), (160, 600)])) (by repeat first | exact .head _ | refine .tail _ ?_)) rfl) (Blk.rdS (l := [(280, 390), (160, 600)]) (c := 2) (hs.blk (b := c9) (by repeat first | exact .head _ | refine .tail _ ?_)) rfl) (by decide)
  (refine ql_gyes rfl ?_; (iterate 2 refine ql_pure tabOk rfl rfl ?_); refine q_nil ?_; refine q_cond_false rfl ?_; refine q_skip ?_; refine q_seq ?_; refine q_region ?_)
  refine ql_call (β := Nat) tabOk [] _ M0 rfl rfl rfl rfl (Sp.refl _) (fun _ h => h.elim) (fun w' hs => short_ca w' 100) ?_
  rintro d4 _ rfl
  refine ql_callv (val := .tuple #[.int .i64 460, .int .i64 0]) tabOk rfl rfl rfl rfl (fun w hs => ?_) ?_; exact by have := least_ca w 0 w.heap.size (shortW 100) (some ⟨d4, 0, none⟩) 3 (hD 100 w d4 (hs.blk (by repeat first | exact .head _ | refine .tail _ ?_))) (by decide); rw [aw_least] at this; exact this
  (refine ql_pure tabOk rfl rfl ?_; (iterate 2 refine ql_ext tabOk rfl rfl rfl ?_); (iterate 2 refine ql_pure tabOk rfl rfl ?_); refine q_nil ?_; refine q_seq ?_; refine q_region ?_)
  refine ql_call (β := Nat) tabOk [] _ M0 rfl rfl rfl rfl (Sp.refl _) (fun _ h => h.elim) (fun w' hs => short_ca w' 100) ?_
  rintro d5 _ rfl
  refine ql_callv (val := .tuple #[.int .i64 540, .int .i64 0]) tabOk rfl rfl rfl rfl (fun w hs => ?_) ?_; exact by have := room_ca w 0 w.heap.size (shortW 100) (some ⟨d5, 0, none⟩) 3 (hD 100 w d5 (hs.blk (by repeat first | exact .head _ | refine .tail _ ?_))) (by decide); rw [aw_room] at this; exact this
  (refine ql_pure tabOk rfl rfl ?_; (iterate 2 refine ql_ext tabOk rfl rfl rfl ?_); (iterate 2 refine ql_pure tabOk rfl rfl ?_); refine q_nil ?_; refine q_seq ?_; refine q_region ?_; refine ql_pure tabOk rfl rfl ?_; refine ql_eqlT tabOk rfl rfl rfl (by omega) ?_; refine ql_pure tabOk rfl rfl ?_; refine ql_gyes rfl ?_; refine ql_pure tabOk rfl rfl ?_; refine ql_gyes rfl ?_; refine ql_eqlT tabOk rfl rfl rfl (by omega) ?_; (iterate 2 refine ql_pure tabOk rfl rfl ?_); refine ql_gyes rfl ?_; refine ql_pure tabOk rfl rfl ?_; refine ql_gyes rfl ?_; refine ql_eqlT tabOk rfl rfl rfl (by omega) ?_; (iterate 2 refine ql_pure tabOk rfl rfl ?_); refine ql_gyes rfl ?_; refine ql_pure tabOk rfl rfl ?_; refine ql_gyes rfl ?_; refine ql_eqlT tabOk rfl rfl rfl (by omega) ?_; (iterate 2 refine ql_pure tabOk rfl rfl ?_); refine q_nil ?_; refine q_ret ?_)
  refine q_fin tabOk rfl (by repeat (first | exact RVs.nil | apply RVs.tmp rfl | apply RVs.cellA rfl rfl (by repeat first | exact .head _ | refine .tail _ ?_) (by rfl) | apply RVs.cell1 rfl rfl (by repeat first | exact .head _ | refine .tail _ ?_))) fun w hs => ?_
  exact ⟨rfl, hs.chg0⟩
end Go.Proofs.Ytgeajgmefokifaa

/- Walks: klisterkit's deck. Only the ranges of what it deals are told. -/
namespace Go.Proofs.Ytgeajgmefokifaa
open Go Go.Eng

section
attribute [local irreducible] IntKind.wrap Int.tmod Int.tdiv

/-- The deck's own variable, after at most K cards. -/
def DkS (w : World) (b : Nat) (bs : Value) (K : Nat) : Prop :=
  ∃ next st, Blk w b [bs, .int .i64 next, .int .u32 st] 165 ∧ 0 ≤ next ∧ next ≤ K ∧ 0 ≤ st ∧ st < 4294967296
/-- Its bytes. -/
def DkB (w : World) (lo hi : Nat) (bs : Value) : Prop := ∃ nb cs, Rd w lo hi bs 1 nb cs ∧ (∀ c ∈ cs, ∃ x, c = .int .u8 x ∧ 0 ≤ x ∧ x < 256)
theorem DkB.keep {w w' : World} {lo hi : Nat} {bs : Value} (h : DkB w lo hi bs) (c : Chg [] w w') : DkB w' lo hi bs := by
  obtain ⟨nb, cs, h1, h2⟩ := h
  exact ⟨nb, cs, h1.keep c, h2⟩

end
/-- A deck, after at most K cards. -/
def dkP (bs : Value) (b K : Nat) : Ck := .gn (fun x => x = b) (fun w => DkS w b bs K) (fun w w' N h hc hN => by
  obtain ⟨next, st, h1, h2⟩ := h
  exact ⟨next, st, (hc.block b h1.lt (hN b rfl)).trans h1, h2⟩)

theorem DkS.mono {w : World} {b K K' : Nat} {bs : Value} (h : DkS w b bs K) (hk : K ≤ K') : DkS w b bs K' := by
  obtain ⟨next, st, h1, h2, h3, h4⟩ := h
  exact ⟨next, st, h1, h2, by omega, h4⟩
section
variable {K b : Nat} {bs : Value} {w0 w : World} {R : List Ck}
end
end Go.Proofs.Ytgeajgmefokifaa

/- Walks: a winter is made of numbers. -/
namespace Go.Proofs.Ytgeajgmefokifaa
open Go Go.Eng

structure DayB (d : Dy) : Prop where
  n : 0 ≤ d.n0 ∧ d.n0 ≤ 29 ∧ d.n0 ≤ d.n1 ∧ d.n1 ≤ d.n0 + 11
  m : 0 ≤ d.m0 ∧ d.m0 ≤ 39 ∧ d.m0 ≤ d.m1 ∧ d.m1 ≤ d.m0 + 19
  l : 0 ≤ d.l0 ∧ d.l0 ≤ 5 ∧ d.l0 ≤ d.l1 ∧ d.l1 ≤ d.l0 + 3
/-- What MadeWinter makes. -/
structure WinB (days : Nat) (x : Wn) : Prop where
  store : 20 ≤ x.store ∧ x.store ≤ 200
  stock : 0 ≤ x.stock ∧ x.stock ≤ x.store
  d1 : 1 ≤ x.days.length
  d2 : x.days.length ≤ days
  days : ∀ d ∈ x.days, DayB d
theorem WinB.right {days : Nat} {x : Wn} (h : WinB days x) (hd : days ≤ 60) : x.Right := by
  have h1 := h.store
  have h2 := h.d2
  refine ⟨by omega, h.stock, h.d1, by omega, fun d hdm => ?_⟩
  have := h.days d hdm
  have a := this.n
  have b := this.m
  have c := this.l
  exact ⟨by omega, by omega, by omega⟩
theorem dyC_snoc (l : List Dy) (d : Dy) : dyC (l ++ [d]) = dyC l ++ dyC [d] := by simp [dyC]
theorem dyC_one (l : List Dy) : ∀ c ∈ dyC l, oneV c = true := fun c hc => by obtain ⟨y, _, hy⟩ := List.mem_flatMap.1 hc; simp at hy; rcases hy with rfl | rfl | rfl | rfl | rfl | rfl <;> rfl
theorem slD : SlT Try.prog 59 73 6 48 (.agg #[.int .i64 0, .int .i64 0, .int .i64 0, .int .i64 0, .int .i64 0, .int .i64 0]) := ⟨by kernel_rfl, by kernel_rfl, by kernel_rfl, by decide⟩
theorem Blk.rdDy {w : World} {b : Nat} {d : Dy} {t : TypeId} (h : Blk w b (dyC [d]) t) : Rd w b (b + 1) (.slice (some ⟨b, 0, none⟩) 1 1) 6 1 (dyC [d]) :=
  ⟨rfl, .inr ⟨b, 0, 1, rfl, fun _ => ⟨Nat.le_refl _, Nat.lt_succ_self _, h.lt⟩, fun j _ => by rw [Blk.cell h]; simp⟩⟩
/-- The spans made so far. -/
structure DayI (i : Nat) (d : Dy) : Prop where
  n : 1 ≤ i → 0 ≤ d.n0 ∧ d.n0 ≤ 29 ∧ d.n0 ≤ d.n1 ∧ d.n1 ≤ d.n0 + 11
  m : 2 ≤ i → 0 ≤ d.m0 ∧ d.m0 ≤ 39 ∧ d.m0 ≤ d.m1 ∧ d.m1 ≤ d.m0 + 19
  l : 3 ≤ i → 0 ≤ d.l0 ∧ d.l0 ≤ 5 ∧ d.l0 ≤ d.l1 ∧ d.l1 ≤ d.l0 + 3

end Go.Proofs.Ytgeajgmefokifaa

/- Walks: a weather is drawn. -/
namespace Go.Proofs.Ytgeajgmefokifaa
open Go Go.Eng

theorem getD_snoc (l : List Int) (x : Int) (i : Nat) : (l ++ [x]).getD i 0 = if i < l.length then l.getD i 0 else if i = l.length then x else 0 := by
  simp only [List.getD_eq_getElem?_getD, List.getElem?_append]
  by_cases h : i < l.length
  · simp [h]
  · rw [if_neg h, if_neg h]
    by_cases h2 : i = l.length
    · subst h2; simp
    · rw [if_neg h2, List.getElem?_eq_none (by simp; omega)]
      rfl
/-- A weather of the first days. -/
structure WtP (days : List Dy) (k : Nat) (t : Wt) : Prop where
  ln : t.need.length = k
  lm : t.make.length = k
  ll : t.loss.length = k
  n : ∀ i, i < k → ∀ (h : i < days.length), days[i].n0 ≤ t.need.getD i 0 ∧ t.need.getD i 0 ≤ days[i].n1
  m : ∀ i, i < k → ∀ (h : i < days.length), days[i].m0 ≤ t.make.getD i 0 ∧ t.make.getD i 0 ≤ days[i].m1
  l : ∀ i, i < k → ∀ (h : i < days.length), days[i].l0 ≤ t.loss.getD i 0 ∧ t.loss.getD i 0 ≤ days[i].l1
theorem WtP.step {days : List Dy} {k : Nat} {t : Wt} (h : WtP days k t) (hk : k < days.length) {x y z : Int} (hx : days[k].n0 ≤ x ∧ x ≤ days[k].n1) (hy : days[k].m0 ≤ y ∧ y ≤ days[k].m1) (hz : days[k].l0 ≤ z ∧ z ≤ days[k].l1) : WtP days (k + 1) ⟨t.need ++ [x], t.make ++ [y], t.loss ++ [z]⟩ := by
  refine ⟨by simp [h.ln], by simp [h.lm], by simp [h.ll], fun i hi hd => ?_, fun i hi hd => ?_, fun i hi hd => ?_⟩
  · rw [getD_snoc, h.ln]
    split
    · exact h.n i (by assumption) hd
    · obtain rfl : i = k := by omega
      simpa using hx
  · rw [getD_snoc, h.lm]
    split
    · exact h.m i (by assumption) hd
    · obtain rfl : i = k := by omega
      simpa using hy
  · rw [getD_snoc, h.ll]
    split
    · exact h.l i (by assumption) hd
    · obtain rfl : i = k := by omega
      simpa using hz
theorem WtP.in {x : Wn} {t : Wt} (h : WtP x.days x.days.length t) : t.In x := ⟨h.ln, h.lm, h.ll, fun i hi => h.n i hi hi, fun i hi => h.m i hi hi, fun i hi => h.l i hi hi⟩
/-- The deck, and the days. -/
abbrev drL (bs : Value) (b K g c : Nat) (l : List Dy) : List Ck := [dkP bs b K, .ow (.slice (some ⟨g, 0, none⟩) l.length c) 73 6 l.length (dyC l)]

end Go.Proofs.Ytgeajgmefokifaa

/- What the laws of winters share. -/
namespace Go.Proofs.Ytgeajgmefokifaa
open Go Go.Eng

section
variable {K b g c : Nat} {bs : Value} {w0 w : World} {R : List Ck}
end
theorem first_cases {x : Wn} (hx : x.Right) : (firstV x = (0, 6) ∧ whyV x = ((0, 0), 6) ∧ (hapV x (worstW x)).fails = -1) ∨ ∃ f : Nat, f < x.days.length ∧ (hapV x (worstW x)).fails = f ∧ firstV x = ((f : Int), 0) ∧ whyV x = (((hapV x (worstW x)).full, (f : Int)), 0) := by
  have h0 := checkW_iff.2 hx
  rcases hap_fails_bd x (worstW x) hx.stock (worst_fine hx).need0 x.days.length with h | ⟨f, hf, h⟩
  · left
    have h : (hapV x (worstW x)).fails = -1 := h
    refine ⟨?_, ?_, h⟩
    · unfold firstV; rw [if_neg (by omega), if_pos h]
    · unfold whyV; rw [if_neg (by omega), if_pos h]
  · right
    have h' : (hapV x (worstW x)).fails = f := h
    refine ⟨f, hf, h, ?_, ?_⟩
    · unfold firstV; rw [if_neg (by omega), if_neg (by omega), h']
    · unfold whyV; rw [if_neg (by omega), if_neg (by omega), h']
end Go.Proofs.Ytgeajgmefokifaa

/- Walks of the reference: the error of a winter. -/
namespace Go.Proofs.Ytgeajgmefokifaa
open Go Go.Eng

theorem out_ca (n lo hi : Int) (w : World) : Ca Try.prog 92 [.int .i64 n, .int .i64 lo, .int .i64 hi] w fun v w' => v = .bool (!(wiB n lo hi)) ∧ Chg [] w w' := by
  refine q_of (Sat.nil w M0) Try.func92 rfl (by simp [Try.ntmps92]) ?_
  by_cases h1 : n < lo
  · (refine q_seq ?_; refine q_region ?_; refine ql_pure tabOk rfl rfl ?_; refine q_nil ?_; refine q_seq ?_; refine q_region ?_; (iterate 2 refine ql_pure tabOk rfl rfl ?_); refine ql_lssT tabOk rfl rfl rfl (by omega) ?_; refine ql_pure tabOk rfl rfl ?_; (iterate 3 refine ql_gno rfl rfl rfl ?_); (iterate 2 refine ql_pure tabOk rfl rfl ?_); refine q_nil ?_; refine q_ret ?_)
    refine q_fin tabOk rfl (by repeat (first | exact RVs.nil | apply RVs.tmp rfl | apply RVs.cellA rfl rfl (by repeat first | exact .head _ | refine .tail _ ?_) (by rfl) | apply RVs.cell1 rfl rfl (by repeat first | exact .head _ | refine .tail _ ?_))) fun w hs => ?_
    exact ⟨by simp [wiB, retV]; omega, hs.chg0⟩
  · by_cases h2 : n > hi
    · (refine q_seq ?_; refine q_region ?_; refine ql_pure tabOk rfl rfl ?_; refine q_nil ?_; refine q_seq ?_; refine q_region ?_; (iterate 2 refine ql_pure tabOk rfl rfl ?_); refine ql_lssF tabOk rfl rfl rfl (by omega) ?_; refine ql_pure tabOk rfl rfl ?_; refine ql_gyes rfl ?_; refine ql_pure tabOk rfl rfl ?_; refine ql_gyes rfl ?_; refine ql_pure tabOk rfl rfl ?_; refine ql_gyes rfl ?_; refine ql_gtrT tabOk rfl rfl rfl (by omega) ?_; (iterate 2 refine ql_pure tabOk rfl rfl ?_); refine q_nil ?_; refine q_ret ?_)
      refine q_fin tabOk rfl (by repeat (first | exact RVs.nil | apply RVs.tmp rfl | apply RVs.cellA rfl rfl (by repeat first | exact .head _ | refine .tail _ ?_) (by rfl) | apply RVs.cell1 rfl rfl (by repeat first | exact .head _ | refine .tail _ ?_))) fun w hs => ?_
      exact ⟨by simp [wiB, retV]; omega, hs.chg0⟩
    · (refine q_seq ?_; refine q_region ?_; refine ql_pure tabOk rfl rfl ?_; refine q_nil ?_; refine q_seq ?_; refine q_region ?_; (iterate 2 refine ql_pure tabOk rfl rfl ?_); refine ql_lssF tabOk rfl rfl rfl (by omega) ?_; refine ql_pure tabOk rfl rfl ?_; refine ql_gyes rfl ?_; refine ql_pure tabOk rfl rfl ?_; refine ql_gyes rfl ?_; refine ql_pure tabOk rfl rfl ?_; refine ql_gyes rfl ?_; refine ql_gtrF tabOk rfl rfl rfl (by omega) ?_; (iterate 2 refine ql_pure tabOk rfl rfl ?_); refine q_nil ?_; refine q_ret ?_)
      refine q_fin tabOk rfl (by repeat (first | exact RVs.nil | apply RVs.tmp rfl | apply RVs.cellA rfl rfl (by repeat first | exact .head _ | refine .tail _ ?_) (by rfl) | apply RVs.cell1 rfl rfl (by repeat first | exact .head _ | refine .tail _ ?_))) fun w hs => ?_
      exact ⟨by simp [wiB, retV]; omega, hs.chg0⟩
theorem wrong_ca (a b g : Int) (w : World) : Ca Try.prog 93 [.agg #[.int .i64 a, .int .i64 b], .int .i64 g] w fun v w' => v = .bool (!(spnB a b g)) ∧ Chg [] w w' := by
  refine q_of (Sat.nil w M0) Try.func93 rfl (by simp [Try.ntmps93]) ?_
  (refine q_seq ?_; refine q_region ?_)
  refine ql_box rfl rfl (fun b2 => ?_)
  by_cases h1 : a < 0
  · (refine ql_pure tabOk rfl rfl ?_; refine q_nil ?_; refine q_seq ?_; refine q_region ?_; refine ql_pure tabOk rfl rfl ?_; refine ql_loadB tabOk rfl rfl rfl (by repeat first | exact .head _ | refine .tail _ ?_) (by rfl) ?_; refine ql_lssT tabOk rfl rfl rfl (by omega) ?_; refine ql_pure tabOk rfl rfl ?_; (iterate 4 refine ql_gno rfl rfl rfl ?_); (iterate 2 refine ql_pure tabOk rfl rfl ?_); (iterate 5 refine ql_gno rfl rfl rfl ?_); (iterate 2 refine ql_pure tabOk rfl rfl ?_); refine q_nil ?_; refine q_ret ?_)
    refine q_fin tabOk rfl (by repeat (first | exact RVs.nil | apply RVs.tmp rfl | apply RVs.cellA rfl rfl (by repeat first | exact .head _ | refine .tail _ ?_) (by rfl) | apply RVs.cell1 rfl rfl (by repeat first | exact .head _ | refine .tail _ ?_))) fun w hs => ?_
    exact ⟨by simp [spnB, retV]; omega, hs.chg0⟩
  · by_cases h2 : b > g
    · (refine ql_pure tabOk rfl rfl ?_; refine q_nil ?_; refine q_seq ?_; refine q_region ?_; refine ql_pure tabOk rfl rfl ?_; refine ql_loadB tabOk rfl rfl rfl (by repeat first | exact .head _ | refine .tail _ ?_) (by rfl) ?_; refine ql_lssF tabOk rfl rfl rfl (by omega) ?_; refine ql_pure tabOk rfl rfl ?_; refine ql_gyes rfl ?_; refine ql_pure tabOk rfl rfl ?_; refine ql_gyes rfl ?_; refine ql_loadB tabOk rfl rfl rfl (by repeat first | exact .head _ | refine .tail _ ?_) (by rfl) ?_; refine ql_gyes rfl ?_; refine ql_pure tabOk rfl rfl ?_; refine ql_gyes rfl ?_; refine ql_gtrT tabOk rfl rfl rfl (by omega) ?_; (iterate 2 refine ql_pure tabOk rfl rfl ?_); (iterate 5 refine ql_gno rfl rfl rfl ?_); (iterate 2 refine ql_pure tabOk rfl rfl ?_); refine q_nil ?_; refine q_ret ?_)
      refine q_fin tabOk rfl (by repeat (first | exact RVs.nil | apply RVs.tmp rfl | apply RVs.cellA rfl rfl (by repeat first | exact .head _ | refine .tail _ ?_) (by rfl) | apply RVs.cell1 rfl rfl (by repeat first | exact .head _ | refine .tail _ ?_))) fun w hs => ?_
      exact ⟨by simp [spnB, retV]; omega, hs.chg0⟩
    · by_cases h3 : a > b
      · (refine ql_pure tabOk rfl rfl ?_; refine q_nil ?_; refine q_seq ?_; refine q_region ?_; refine ql_pure tabOk rfl rfl ?_; refine ql_loadB tabOk rfl rfl rfl (by repeat first | exact .head _ | refine .tail _ ?_) (by rfl) ?_; refine ql_lssF tabOk rfl rfl rfl (by omega) ?_; refine ql_pure tabOk rfl rfl ?_; refine ql_gyes rfl ?_; refine ql_pure tabOk rfl rfl ?_; refine ql_gyes rfl ?_; refine ql_loadB tabOk rfl rfl rfl (by repeat first | exact .head _ | refine .tail _ ?_) (by rfl) ?_; refine ql_gyes rfl ?_; refine ql_pure tabOk rfl rfl ?_; refine ql_gyes rfl ?_; refine ql_gtrF tabOk rfl rfl rfl (by omega) ?_; (iterate 2 refine ql_pure tabOk rfl rfl ?_); refine ql_gyes rfl ?_; refine ql_pure tabOk rfl rfl ?_; refine ql_gyes rfl ?_; refine ql_loadB tabOk rfl rfl rfl (by repeat first | exact .head _ | refine .tail _ ?_) (by rfl) ?_; refine ql_gyes rfl ?_; refine ql_pure tabOk rfl rfl ?_; refine ql_gyes rfl ?_; refine ql_loadB tabOk rfl rfl rfl (by repeat first | exact .head _ | refine .tail _ ?_) (by rfl) ?_; refine ql_gyes rfl ?_; refine ql_gtrT tabOk rfl rfl rfl (by omega) ?_; (iterate 2 refine ql_pure tabOk rfl rfl ?_); refine q_nil ?_; refine q_ret ?_)
        refine q_fin tabOk rfl (by repeat (first | exact RVs.nil | apply RVs.tmp rfl | apply RVs.cellA rfl rfl (by repeat first | exact .head _ | refine .tail _ ?_) (by rfl) | apply RVs.cell1 rfl rfl (by repeat first | exact .head _ | refine .tail _ ?_))) fun w hs => ?_
        exact ⟨by simp [spnB, retV]; omega, hs.chg0⟩
      · (refine ql_pure tabOk rfl rfl ?_; refine q_nil ?_; refine q_seq ?_; refine q_region ?_; refine ql_pure tabOk rfl rfl ?_; refine ql_loadB tabOk rfl rfl rfl (by repeat first | exact .head _ | refine .tail _ ?_) (by rfl) ?_; refine ql_lssF tabOk rfl rfl rfl (by omega) ?_; refine ql_pure tabOk rfl rfl ?_; refine ql_gyes rfl ?_; refine ql_pure tabOk rfl rfl ?_; refine ql_gyes rfl ?_; refine ql_loadB tabOk rfl rfl rfl (by repeat first | exact .head _ | refine .tail _ ?_) (by rfl) ?_; refine ql_gyes rfl ?_; refine ql_pure tabOk rfl rfl ?_; refine ql_gyes rfl ?_; refine ql_gtrF tabOk rfl rfl rfl (by omega) ?_; (iterate 2 refine ql_pure tabOk rfl rfl ?_); refine ql_gyes rfl ?_; refine ql_pure tabOk rfl rfl ?_; refine ql_gyes rfl ?_; refine ql_loadB tabOk rfl rfl rfl (by repeat first | exact .head _ | refine .tail _ ?_) (by rfl) ?_; refine ql_gyes rfl ?_; refine ql_pure tabOk rfl rfl ?_; refine ql_gyes rfl ?_; refine ql_loadB tabOk rfl rfl rfl (by repeat first | exact .head _ | refine .tail _ ?_) (by rfl) ?_; refine ql_gyes rfl ?_; refine ql_gtrF tabOk rfl rfl rfl (by omega) ?_; (iterate 2 refine ql_pure tabOk rfl rfl ?_); refine q_nil ?_; refine q_ret ?_)
        refine q_fin tabOk rfl (by repeat (first | exact RVs.nil | apply RVs.tmp rfl | apply RVs.cellA rfl rfl (by repeat first | exact .head _ | refine .tail _ ?_) (by rfl) | apply RVs.cell1 rfl rfl (by repeat first | exact .head _ | refine .tail _ ?_))) fun w hs => ?_
        exact ⟨by simp [spnB, retV]; omega, hs.chg0⟩
section
variable {w : World} {lo hi b off len cap : Nat} {l : List Dy}
theorem RdD.need (h : RdD w lo hi (.slice (some ⟨b, off, none⟩) len cap) l) (i : Nat) (hi : i < l.length) (j : Nat) (hj : j < 2) : w.cell? ⟨b, off + i * 6 + 0 + j, none⟩ = [Value.int .i64 l[i].n0, Value.int .i64 l[i].n1][j]? := by
  have := RdD.at h i hi (0 + j) (by omega)
  rw [← Nat.add_assoc] at this
  rw [this]
  match j, hj with
  | 0, _ => rfl
  | 1, _ => rfl
theorem RdD.make (h : RdD w lo hi (.slice (some ⟨b, off, none⟩) len cap) l) (i : Nat) (hi : i < l.length) (j : Nat) (hj : j < 2) : w.cell? ⟨b, off + i * 6 + 2 + j, none⟩ = [Value.int .i64 l[i].m0, Value.int .i64 l[i].m1][j]? := by
  have := RdD.at h i hi (2 + j) (by omega)
  rw [← Nat.add_assoc] at this
  rw [this]
  match j, hj with
  | 0, _ => rfl
  | 1, _ => rfl
theorem RdD.loss (h : RdD w lo hi (.slice (some ⟨b, off, none⟩) len cap) l) (i : Nat) (hi : i < l.length) (j : Nat) (hj : j < 2) : w.cell? ⟨b, off + i * 6 + 4 + j, none⟩ = [Value.int .i64 l[i].l0, Value.int .i64 l[i].l1][j]? := by
  have := RdD.at h i hi (4 + j) (by omega)
  rw [← Nat.add_assoc] at this
  rw [this]
  match j, hj with
  | 0, _ => rfl
  | 1, _ => rfl
end
set_option maxHeartbeats 1000000 in
theorem rcheckW_ca (w : World) (lo hi : Nat) (x : Wn) (a : Option Addr) (c : Nat) (h : RdD w lo hi (.slice a x.days.length c) x.days) (hlen : x.days.length ≤ 1000000) : Ca Try.prog 76 [.agg (wnC x a c).toArray] w fun r w' => r = .int .i64 (checkW x) ∧ Chg [] w w' := by
  obtain ⟨a', c', he, hsa⟩ := RdD.outI h
  cases he
  refine q_of (Sat.nil w M0) Try.func76 rfl (by simp [Try.ntmps76]) ?_
  (refine q_seq ?_; refine q_region ?_)
  refine ql_box rfl rfl (fun b1 => ?_)
  (refine ql_pure tabOk rfl rfl ?_; refine q_nil ?_; (iterate 2 refine q_seq ?_); refine q_region ?_; refine ql_pure tabOk rfl rfl ?_; refine ql_loadB tabOk rfl rfl rfl (by repeat first | exact .head _ | refine .tail _ ?_) (by rfl) ?_)
  refine ql_callv (val := .bool (!(wiB x.store 1 1000000))) tabOk rfl rfl rfl rfl (fun w hs => ?_) ?_; exact out_ca x.store 1 1000000 w
  cases h1 : wiB x.store 1 1000000 with
  | false =>
    (refine ql_pure tabOk rfl rfl ?_; (iterate 5 refine ql_gno rfl rfl rfl ?_); refine ql_pure tabOk rfl rfl ?_; refine q_nil ?_; refine q_cond_true rfl ?_; refine q_seq ?_; refine q_region ?_; refine ql_pure tabOk rfl rfl ?_; refine q_nil ?_; refine q_ret ?_)
    refine q_fin tabOk rfl (by repeat (first | exact RVs.nil | apply RVs.tmp rfl | apply RVs.cellA rfl rfl (by repeat first | exact .head _ | refine .tail _ ?_) (by rfl) | apply RVs.cell1 rfl rfl (by repeat first | exact .head _ | refine .tail _ ?_))) fun w hs => ?_
    exact ⟨by simp [wiB] at h1; simp only [retV, checkW]; rw [if_pos (by omega)], hs.chg0⟩
  | true =>
  have h1' := wiB_iff.1 h1
  (refine ql_pure tabOk rfl rfl ?_; refine ql_gyes rfl ?_; refine ql_pure tabOk rfl rfl ?_; refine ql_gyes rfl ?_; refine ql_loadB tabOk rfl rfl rfl (by repeat first | exact .head _ | refine .tail _ ?_) (by rfl) ?_; refine ql_gyes rfl ?_; refine ql_pure tabOk rfl rfl ?_; refine ql_gyes rfl ?_; refine ql_loadB tabOk rfl rfl rfl (by repeat first | exact .head _ | refine .tail _ ?_) (by rfl) ?_; refine ql_gyes rfl ?_)
  refine ql_callv (val := .bool (!(wiB x.stock 0 x.store))) tabOk rfl rfl rfl rfl (fun w hs => ?_) ?_; exact out_ca x.stock 0 x.store w
  cases h2 : wiB x.stock 0 x.store with
  | false =>
    (refine ql_pure tabOk rfl rfl ?_; refine q_nil ?_; refine q_cond_true rfl ?_; refine q_seq ?_; refine q_region ?_; refine ql_pure tabOk rfl rfl ?_; refine q_nil ?_; refine q_ret ?_)
    refine q_fin tabOk rfl (by repeat (first | exact RVs.nil | apply RVs.tmp rfl | apply RVs.cellA rfl rfl (by repeat first | exact .head _ | refine .tail _ ?_) (by rfl) | apply RVs.cell1 rfl rfl (by repeat first | exact .head _ | refine .tail _ ?_))) fun w hs => ?_
    exact ⟨by simp [wiB] at h2; simp only [retV, checkW]; rw [if_pos (by omega)], hs.chg0⟩
  | true =>
  have h2' := wiB_iff.1 h2
  by_cases h3 : x.days.length < 1
  · (refine ql_pure tabOk rfl rfl ?_; refine q_nil ?_; refine q_cond_false rfl ?_; refine q_skip ?_; (iterate 2 refine q_seq ?_); refine q_region ?_; refine ql_pure tabOk rfl rfl ?_; refine ql_loadB tabOk rfl rfl rfl (by repeat first | exact .head _ | refine .tail _ ?_) (by rfl) ?_; refine ql_pure tabOk rfl rfl ?_; refine ql_lssT tabOk rfl rfl rfl (by omega) ?_; refine ql_pure tabOk rfl rfl ?_; (iterate 4 refine ql_gno rfl rfl rfl ?_); refine ql_pure tabOk rfl rfl ?_; refine q_nil ?_; refine q_cond_true rfl ?_; refine q_seq ?_; refine q_region ?_; refine ql_pure tabOk rfl rfl ?_; refine q_nil ?_; refine q_ret ?_)
    refine q_fin tabOk rfl (by repeat (first | exact RVs.nil | apply RVs.tmp rfl | apply RVs.cellA rfl rfl (by repeat first | exact .head _ | refine .tail _ ?_) (by rfl) | apply RVs.cell1 rfl rfl (by repeat first | exact .head _ | refine .tail _ ?_))) fun w hs => ?_
    exact ⟨by simp only [retV, checkW]; rw [if_neg (by omega), if_pos (by omega)], hs.chg0⟩
  by_cases h4 : x.days.length > 60
  · (refine ql_pure tabOk rfl rfl ?_; refine q_nil ?_; refine q_cond_false rfl ?_; refine q_skip ?_; (iterate 2 refine q_seq ?_); refine q_region ?_; refine ql_pure tabOk rfl rfl ?_; refine ql_loadB tabOk rfl rfl rfl (by repeat first | exact .head _ | refine .tail _ ?_) (by rfl) ?_; refine ql_pure tabOk rfl rfl ?_; refine ql_lssF tabOk rfl rfl rfl (by omega) ?_; refine ql_pure tabOk rfl rfl ?_; refine ql_gyes rfl ?_; refine ql_pure tabOk rfl rfl ?_; refine ql_gyes rfl ?_; refine ql_loadB tabOk rfl rfl rfl (by repeat first | exact .head _ | refine .tail _ ?_) (by rfl) ?_; refine ql_gyes rfl ?_; refine ql_pure tabOk rfl rfl ?_; refine ql_gyes rfl ?_; refine ql_gtrT tabOk rfl rfl rfl (by omega) ?_; refine ql_pure tabOk rfl rfl ?_; refine q_nil ?_; refine q_cond_true rfl ?_; refine q_seq ?_; refine q_region ?_; refine ql_pure tabOk rfl rfl ?_; refine q_nil ?_; refine q_ret ?_)
    refine q_fin tabOk rfl (by repeat (first | exact RVs.nil | apply RVs.tmp rfl | apply RVs.cellA rfl rfl (by repeat first | exact .head _ | refine .tail _ ?_) (by rfl) | apply RVs.cell1 rfl rfl (by repeat first | exact .head _ | refine .tail _ ?_))) fun w hs => ?_
    exact ⟨by simp only [retV, checkW]; rw [if_neg (by omega), if_pos (by omega)], hs.chg0⟩
  have eC : checkW x = if x.days.all dayB = true then 0 else 3 := by
    unfold checkW
    rw [if_neg (by omega), if_neg (by omega)]
  obtain ⟨b, off, rfl⟩ := hsa (by omega)
  (refine ql_pure tabOk rfl rfl ?_; refine q_nil ?_; refine q_cond_false rfl ?_; refine q_skip ?_; (iterate 2 refine q_seq ?_); refine q_region ?_; refine ql_pure tabOk rfl rfl ?_; refine ql_loadB tabOk rfl rfl rfl (by repeat first | exact .head _ | refine .tail _ ?_) (by rfl) ?_; refine ql_pure tabOk rfl rfl ?_; refine ql_lssF tabOk rfl rfl rfl (by omega) ?_; refine ql_pure tabOk rfl rfl ?_; refine ql_gyes rfl ?_; refine ql_pure tabOk rfl rfl ?_; refine ql_gyes rfl ?_; refine ql_loadB tabOk rfl rfl rfl (by repeat first | exact .head _ | refine .tail _ ?_) (by rfl) ?_; refine ql_gyes rfl ?_; refine ql_pure tabOk rfl rfl ?_; refine ql_gyes rfl ?_; refine ql_gtrF tabOk rfl rfl rfl (by omega) ?_; refine ql_pure tabOk rfl rfl ?_; refine q_nil ?_; refine q_cond_false rfl ?_; refine q_skip ?_; (iterate 2 refine q_seq ?_); refine q_region ?_; refine ql_pure tabOk rfl rfl ?_; refine q_nil ?_; refine q_block ?_)
  refine q_loop (σ := Nat) (fun k => k ≤ x.days.length ∧ (x.days.take k).all dayB = true) (fun k => x.days.length - k) (fun k => [(1, .pointer (some ⟨b1, 0, none⟩)), (3, .int .i64 k)]) (fun _ => [.pt b1 (wnC x (some ⟨b, off, none⟩) c) 93]) 0 ⟨by omega, rfl⟩ ⟨rfl, rfl, trivial⟩ (by repeat (first | exact Sp.nil | exact Sp.refl _ | refine Sp.cons (by repeat constructor) ?_)) ?_
  rintro k ⟨hk, hall⟩ K hK
  ((iterate 2 refine q_seq ?_); refine q_region ?_; (iterate 2 refine ql_pure tabOk rfl rfl ?_); refine ql_loadB tabOk rfl rfl rfl (by repeat first | exact .head _ | refine .tail _ ?_) (by rfl) ?_; (iterate 2 refine ql_pure tabOk rfl rfl ?_); refine q_nil ?_)
  refine q_if rfl (fun hc => ?_) (fun hc => ?_)
  · have hk2 : k < x.days.length := by omega
    clear hc
    have e : (x.days.take (k + 1)).all dayB = dayB x.days[k] := by rw [List.take_succ_eq_append_getElem hk2, List.all_append, hall]; simp
    have e2 : dayB x.days[k] = false → x.days.all dayB = false := fun hh => List.all_eq_false.2 ⟨x.days[k], List.getElem_mem hk2, by simp [hh]⟩
    have e3 : dayB x.days[k] = (spnB x.days[k].n0 x.days[k].n1 100000 && spnB x.days[k].m0 x.days[k].m1 100000 && spnB x.days[k].l0 x.days[k].l1 100000) := rfl
    (refine q_skip ?_; refine q_seq ?_; refine q_block ?_; refine q_seq ?_; refine q_region ?_; refine ql_pure tabOk rfl rfl ?_; refine ql_loadB tabOk rfl rfl rfl (by repeat first | exact .head _ | refine .tail _ ?_) (by rfl) ?_; refine ql_pure tabOk rfl rfl ?_)
    refine ql_index tabOk rfl rfl rfl rfl rfl (by omega) (by omega) ?_
    (refine ql_pure tabOk rfl rfl ?_)
    refine ql_loadA tabOk rfl rfl rfl rfl (fun w hs => RdD.need (RdE.keep h hs.chg0) k hk2) ?_
    skip
    refine ql_callv (val := .bool (!(spnB x.days[k].n0 x.days[k].n1 100000))) tabOk rfl rfl rfl rfl (fun w hs => ?_) ?_; exact wrong_ca x.days[k].n0 x.days[k].n1 100000 w
    cases g1 : spnB x.days[k].n0 x.days[k].n1 100000 with
    | false =>
      (refine ql_pure tabOk rfl rfl ?_; (iterate 7 refine ql_gno rfl rfl rfl ?_); (iterate 2 refine ql_pure tabOk rfl rfl ?_); (iterate 7 refine ql_gno rfl rfl rfl ?_); refine ql_pure tabOk rfl rfl ?_; refine q_nil ?_; refine q_cond_true rfl ?_; refine q_seq ?_; refine q_region ?_; refine ql_pure tabOk rfl rfl ?_; refine q_nil ?_; refine q_ret ?_)
      refine q_fin tabOk rfl (by repeat (first | exact RVs.nil | apply RVs.tmp rfl | apply RVs.cellA rfl rfl (by repeat first | exact .head _ | refine .tail _ ?_) (by rfl) | apply RVs.cell1 rfl rfl (by repeat first | exact .head _ | refine .tail _ ?_))) fun w hs => ?_
      exact ⟨by rw [eC, e2 (by rw [e3, g1]; rfl)]; rfl, hs.chg0⟩
    | true =>
    (refine ql_pure tabOk rfl rfl ?_; refine ql_gyes rfl ?_; refine ql_pure tabOk rfl rfl ?_; refine ql_gyes rfl ?_; refine ql_loadB tabOk rfl rfl rfl (by repeat first | exact .head _ | refine .tail _ ?_) (by rfl) ?_; refine ql_gyes rfl ?_; refine ql_pure tabOk rfl rfl ?_; refine ql_gyes rfl ?_)
    refine ql_index tabOk rfl rfl rfl rfl rfl (by omega) (by omega) ?_
    (refine ql_gyes rfl ?_; refine ql_pure tabOk rfl rfl ?_; refine ql_gyes rfl ?_)
    refine ql_loadA tabOk rfl rfl rfl rfl (fun w hs => RdD.make (RdE.keep h hs.chg0) k hk2) ?_
    (refine ql_gyes rfl ?_)
    refine ql_callv (val := .bool (!(spnB x.days[k].m0 x.days[k].m1 100000))) tabOk rfl rfl rfl rfl (fun w hs => ?_) ?_; exact wrong_ca x.days[k].m0 x.days[k].m1 100000 w
    cases g2 : spnB x.days[k].m0 x.days[k].m1 100000 with
    | false =>
      ((iterate 2 refine ql_pure tabOk rfl rfl ?_); (iterate 7 refine ql_gno rfl rfl rfl ?_); refine ql_pure tabOk rfl rfl ?_; refine q_nil ?_; refine q_cond_true rfl ?_; refine q_seq ?_; refine q_region ?_; refine ql_pure tabOk rfl rfl ?_; refine q_nil ?_; refine q_ret ?_)
      refine q_fin tabOk rfl (by repeat (first | exact RVs.nil | apply RVs.tmp rfl | apply RVs.cellA rfl rfl (by repeat first | exact .head _ | refine .tail _ ?_) (by rfl) | apply RVs.cell1 rfl rfl (by repeat first | exact .head _ | refine .tail _ ?_))) fun w hs => ?_
      exact ⟨by rw [eC, e2 (by rw [e3, g1, g2]; rfl)]; rfl, hs.chg0⟩
    | true =>
    ((iterate 2 refine ql_pure tabOk rfl rfl ?_); refine ql_gyes rfl ?_; refine ql_pure tabOk rfl rfl ?_; refine ql_gyes rfl ?_; refine ql_loadB tabOk rfl rfl rfl (by repeat first | exact .head _ | refine .tail _ ?_) (by rfl) ?_; refine ql_gyes rfl ?_; refine ql_pure tabOk rfl rfl ?_; refine ql_gyes rfl ?_)
    refine ql_index tabOk rfl rfl rfl rfl rfl (by omega) (by omega) ?_
    (refine ql_gyes rfl ?_; refine ql_pure tabOk rfl rfl ?_; refine ql_gyes rfl ?_)
    refine ql_loadA tabOk rfl rfl rfl rfl (fun w hs => RdD.loss (RdE.keep h hs.chg0) k hk2) ?_
    (refine ql_gyes rfl ?_)
    refine ql_callv (val := .bool (!(spnB x.days[k].l0 x.days[k].l1 100000))) tabOk rfl rfl rfl rfl (fun w hs => ?_) ?_; exact wrong_ca x.days[k].l0 x.days[k].l1 100000 w
    cases g3 : spnB x.days[k].l0 x.days[k].l1 100000 with
    | false =>
      (refine ql_pure tabOk rfl rfl ?_; refine q_nil ?_; refine q_cond_true rfl ?_; refine q_seq ?_; refine q_region ?_; refine ql_pure tabOk rfl rfl ?_; refine q_nil ?_; refine q_ret ?_)
      refine q_fin tabOk rfl (by repeat (first | exact RVs.nil | apply RVs.tmp rfl | apply RVs.cellA rfl rfl (by repeat first | exact .head _ | refine .tail _ ?_) (by rfl) | apply RVs.cell1 rfl rfl (by repeat first | exact .head _ | refine .tail _ ?_))) fun w hs => ?_
      exact ⟨by rw [eC, e2 (by rw [e3, g1, g2, g3]; rfl)]; rfl, hs.chg0⟩
    | true =>
    (refine ql_pure tabOk rfl rfl ?_; refine q_nil ?_; refine q_cond_false rfl ?_; refine q_skip ?_; refine q_blk ?_; refine q_region ?_; refine ql_pure tabOk rfl rfl ?_; refine ql_ar tabOk rfl rfl rfl rfl (by omega) (by omega) ?_; refine ql_pure tabOk rfl rfl ?_; refine q_nil ?_)
    exact hK (k + 1) _ _ ⟨by omega, by rw [e, e3, g1, g2, g3]; rfl⟩ (by omega) ⟨rfl, rfl, trivial⟩ (by repeat (first | exact Sp.nil | exact Sp.refl _ | refine Sp.cons (by repeat constructor) ?_))
  · obtain rfl : k = x.days.length := by omega
    rw [List.take_length] at hall
    (refine q_exit _ rfl ?_; refine q_seq ?_; refine q_region ?_; refine ql_pure tabOk rfl rfl ?_; refine q_nil ?_; refine q_ret ?_)
    refine q_fin tabOk rfl (by repeat (first | exact RVs.nil | apply RVs.tmp rfl | apply RVs.cellA rfl rfl (by repeat first | exact .head _ | refine .tail _ ?_) (by rfl) | apply RVs.cell1 rfl rfl (by repeat first | exact .head _ | refine .tail _ ?_))) fun w hs => ?_
    exact ⟨by rw [eC, hall]; rfl, hs.chg0⟩
end Go.Proofs.Ytgeajgmefokifaa

/- Walks of the reference: the error of a weather. -/
namespace Go.Proofs.Ytgeajgmefokifaa
open Go Go.Eng

end Go.Proofs.Ytgeajgmefokifaa

/- Plain laws of what happens, step by step. -/
namespace Go.Proofs.Ytgeajgmefokifaa
open Go Go.Eng

theorem hap_next (x : Wn) (t : Wt) {k : Nat} (hf : (hapP x t k).fails = -1) : hapP x t (k + 1) = dayS x.store k (t.need.getD k 0) (t.make.getD k 0) (t.loss.getD k 0) (hapP x t k) := by
  rw [hapP, if_pos hf]
theorem hap_stop (x : Wn) (t : Wt) {k : Nat} (hk : k < x.days.length) (hf : (hapP x t k).fails = -1) (h : fullS x.store (hapP x t k).stock (t.make.getD k 0) (t.loss.getD k 0) < t.need.getD k 0) : (hapV x t).fails = (k : Int) ∧ (hapV x t).stocks = (hapP x t k).stocks ∧ (hapV x t).made = (hapP x t k).made := by
  have e := hap_next x t hf
  unfold dayS at e
  rw [if_pos h] at e
  have e2 : hapV x t = hapP x t (k + 1) := hapP_stay x t (k := k + 1) (by rw [e]; show ¬((k : Int) = -1); omega) _ hk
  rw [e2, e]
  exact ⟨rfl, rfl, rfl⟩
theorem hap_go (x : Wn) (t : Wt) {k : Nat} (hf : (hapP x t k).fails = -1) (h : ¬ fullS x.store (hapP x t k).stock (t.make.getD k 0) (t.loss.getD k 0) < t.need.getD k 0) :
    (hapP x t (k + 1)).fails = -1 ∧ (hapP x t (k + 1)).stock = fullS x.store (hapP x t k).stock (t.make.getD k 0) (t.loss.getD k 0) - t.need.getD k 0 ∧ ints (hapP x t (k + 1)).stocks = ints (hapP x t k).stocks ++ [.int .i64 (fullS x.store (hapP x t k).stock (t.make.getD k 0) (t.loss.getD k 0) - t.need.getD k 0)] ∧
      ints (hapP x t (k + 1)).made = ints (hapP x t k).made ++ [.int .i64 (madeOf x.store (hapP x t k).stock (t.make.getD k 0) (t.loss.getD k 0))] := by
  have e := hap_next x t hf
  unfold dayS at e
  rw [if_neg h] at e
  rw [e]
  exact ⟨rfl, rfl, by simp [ints], by simp [ints]⟩
end Go.Proofs.Ytgeajgmefokifaa

/- Walk of the reference: what happens in a weather. -/
namespace Go.Proofs.Ytgeajgmefokifaa
open Go Go.Eng

set_option maxHeartbeats 4000000 in
theorem rhap_ca (w : World) (lo hi : Nat) (x : Wn) (a : Option Addr) (c : Nat) (t : Wt) (v1 v2 v3 : Value) (h : RdD w lo hi (.slice a x.days.length c) x.days) (hx : x.Right) (ht : t.Fine x.days.length) (hw : WtR w t v1 v2 v3) :
    Ca Try.prog 81 [.agg (wnC x a c).toArray, v1, v2, v3] w fun r w' => ∃ y : Value × Value, r = .tuple #[y.1, y.2, .int .i64 (hapV x t).fails] ∧ Sat w M0 [.ow y.1 3 1 (hapV x t).stocks.length (ints (hapV x t).stocks), .ow y.2 3 1 (hapV x t).made.length (ints (hapV x t).made)] w' := by
  have hd2 := hx.d2
  have hd1 := hx.d1
  have hst := hx.store
  have hsk := hx.stock
  have k1 := ht.need
  have k2 := ht.make
  have k3 := ht.loss
  obtain ⟨lo1, hi1, r1⟩ := hw.n
  obtain ⟨lo2, hi2, r2⟩ := hw.m
  obtain ⟨lo3, hi3, r3⟩ := hw.l
  obtain ⟨a1, c1, rfl, hs1⟩ := RdI.outI r1
  obtain ⟨a2, c2, rfl, hs2⟩ := RdI.outI r2
  obtain ⟨a3, c3, rfl, hs3⟩ := RdI.outI r3
  obtain ⟨g1, f1, rfl⟩ := hs1 (by omega)
  obtain ⟨g2, f2, rfl⟩ := hs2 (by omega)
  obtain ⟨g3, f3, rfl⟩ := hs3 (by omega)
  refine q_of (Sat.nil w M0) Try.func81 rfl (by simp [Try.ntmps81]) ?_
  (refine q_seq ?_; refine q_region ?_)
  refine ql_box rfl rfl (fun b4 => ?_)
  ((iterate 3 refine ql_pure tabOk rfl rfl ?_); refine q_nil ?_; refine q_seq ?_; refine q_region ?_; (iterate 2 refine ql_pure tabOk rfl rfl ?_); refine q_nil ?_; refine q_seq ?_; refine q_region ?_; refine ql_pure tabOk rfl rfl ?_; refine ql_loadB tabOk rfl rfl rfl (by repeat first | exact .head _ | refine .tail _ ?_) (by rfl) ?_; refine ql_pure tabOk rfl rfl ?_; refine q_nil ?_; (iterate 2 refine q_seq ?_); refine q_region ?_; refine ql_pure tabOk rfl rfl ?_; refine q_nil ?_; refine q_block ?_)
  refine q_conv (H' := [.ow (.slice none 0 0) 3 1 0 (ints []), .ow (.slice none 0 0) 3 1 0 (ints []), .pt b4 (wnC x a c) 93]) (fun w' hs => (Sat.ownil (Sat.ownil hs 3 1) 3 1).sp (by repeat (first | exact Sp.nil | exact Sp.refl _ | refine Sp.cons (by repeat constructor) ?_))) ?_
  refine q_loop (σ := Nat × Value × Value) (fun s => s.1 ≤ x.days.length ∧ (hapP x t s.1).fails = -1) (fun s => x.days.length - s.1) (fun s => [(1, .slice (some ⟨g1, f1, none⟩) t.need.length c1), (2, .slice (some ⟨g2, f2, none⟩) t.make.length c2), (3, .slice (some ⟨g3, f3, none⟩) t.loss.length c3), (4, .pointer (some ⟨b4, 0, none⟩)), (11, s.2.1), (12, s.2.2), (13, .int .i64 (hapP x t s.1).stock), (14, .int .i64 s.1)])
    (fun s => [.ow s.2.1 3 1 s.1 (ints (hapP x t s.1).stocks), .ow s.2.2 3 1 s.1 (ints (hapP x t s.1).made), .pt b4 (wnC x a c) 93]) (0, .slice none 0 0, .slice none 0 0) ⟨by simp, rfl⟩ ⟨rfl, rfl, rfl, rfl, rfl, rfl, rfl, rfl, trivial⟩ (by repeat (first | exact Sp.nil | exact Sp.refl _ | refine Sp.cons (by repeat constructor) ?_)) ?_
  rintro ⟨k, v, u⟩ ⟨hk, hf⟩ K hK
  simp only at hk hf
  dsimp only
  have hok := hap_ok x t hx.stock ht.need0 k hf
  have hs0 := hok.nn k (Nat.le_refl _)
  have hs1 := hok.top
  rw [← hok.stock] at hs0 hs1
  have hL1 : (hapP x t k).stocks.length = k := by rw [hok.stocks]; simp
  have hL2 : (hapP x t k).made.length = k := by rw [hok.made]; simp
  clear hok
  ((iterate 2 refine q_seq ?_); refine q_region ?_; (iterate 2 refine ql_pure tabOk rfl rfl ?_); refine ql_loadB tabOk rfl rfl rfl (by repeat first | exact .head _ | refine .tail _ ?_) (by rfl) ?_; (iterate 2 refine ql_pure tabOk rfl rfl ?_); refine q_nil ?_)
  refine q_if rfl (fun hc => ?_) (fun hc => ?_)
  · have hk2 : k < x.days.length := by first | omega | (simp at hc; omega)
    clear hc
    have y1 : k < t.need.length := by omega
    have y2 : k < t.make.length := by omega
    have y3 : k < t.loss.length := by omega
    have z1 := ht.need0 _ (List.getElem_mem y1)
    have z2 := ht.make0 _ (List.getElem_mem y2)
    have z3 := ht.loss0 _ (List.getElem_mem y3)
    have hstop := hap_stop x t hk2 hf
    have hgo := hap_go x t hf
    rw [getD_at y1, getD_at y2, getD_at y3] at hstop hgo
    have hF := fullS_eq (store := x.store) (mk := t.make[k]) (ls := t.loss[k]) hs0
    have hM : madeOf x.store (hapP x t k).stock t.make[k] t.loss[k] = min t.make[k] (x.store - max 0 ((hapP x t k).stock - t.loss[k])) := by unfold madeOf lossOf; omega
    rw [hF] at hstop hgo
    rw [hM] at hgo
    clear hF hM
    generalize (hapP x t k).stock = s at *
    (refine q_skip ?_; refine q_seq ?_; refine q_block ?_; refine q_seq ?_; refine q_region ?_; (iterate 3 refine ql_pure tabOk rfl rfl ?_))
    (refine ql_index tabOk rfl rfl rfl rfl rfl (by omega) (by omega) ?_; refine ql_load1 tabOk rfl rfl rfl (fun w hs => RdI.at (RdE.keep r3 hs.chg0) k y3) ?_)
    (refine ql_ar tabOk rfl rfl rfl rfl (by omega) (by omega) ?_; refine ql_pure tabOk rfl rfl ?_; refine q_nil ?_; (iterate 2 refine q_seq ?_); refine q_region ?_; (iterate 2 refine ql_pure tabOk rfl rfl ?_); refine q_nil ?_)
    refine q_if rfl (fun hc => ?_) (fun hc => ?_)
    · skip
      (refine q_region ?_; refine ql_pure tabOk rfl rfl ?_; refine q_nil ?_; refine q_seq ?_; refine q_region ?_; (iterate 2 refine ql_pure tabOk rfl rfl ?_))
      (refine ql_index tabOk rfl rfl rfl rfl rfl (by omega) (by omega) ?_; refine ql_load1 tabOk rfl rfl rfl (fun w hs => RdI.at (RdE.keep r2 hs.chg0) k y2) ?_)
      (refine ql_pure tabOk rfl rfl ?_; refine q_nil ?_; (iterate 2 refine q_seq ?_); refine q_region ?_; (iterate 2 refine ql_pure tabOk rfl rfl ?_); refine ql_ar tabOk rfl rfl rfl rfl (by omega) (by omega) ?_; refine ql_pure tabOk rfl rfl ?_; refine ql_loadB tabOk rfl rfl rfl (by repeat first | exact .head _ | refine .tail _ ?_) (by rfl) ?_; refine ql_pure tabOk rfl rfl ?_; refine q_nil ?_)
      refine q_if rfl (fun hc => ?_) (fun hc => ?_)
      · skip
        (refine q_region ?_; refine ql_pure tabOk rfl rfl ?_; refine ql_loadB tabOk rfl rfl rfl (by repeat first | exact .head _ | refine .tail _ ?_) (by rfl) ?_; refine ql_pure tabOk rfl rfl ?_; refine ql_ar tabOk rfl rfl rfl rfl (by omega) (by omega) ?_; refine ql_pure tabOk rfl rfl ?_; refine q_nil ?_; refine q_seq ?_; refine q_region ?_; (iterate 2 refine ql_pure tabOk rfl rfl ?_); refine ql_ar tabOk rfl rfl rfl rfl (by omega) (by omega) ?_; (iterate 2 refine ql_pure tabOk rfl rfl ?_))
        (refine ql_index tabOk rfl rfl rfl rfl rfl (by omega) (by omega) ?_; refine ql_load1 tabOk rfl rfl rfl (fun w hs => RdI.at (RdE.keep r1 hs.chg0) k y1) ?_)
        (refine ql_ar tabOk rfl rfl rfl rfl (by omega) (by omega) ?_; refine ql_pure tabOk rfl rfl ?_; refine q_nil ?_; (iterate 2 refine q_seq ?_); refine q_region ?_; (iterate 2 refine ql_pure tabOk rfl rfl ?_); refine q_nil ?_)
        refine q_if rfl (fun hc => ?_) (fun hc => ?_)
        · obtain ⟨p1, p2, p3⟩ := hstop (by omega)
          (refine q_seq ?_; refine q_region ?_; (iterate 6 refine ql_pure tabOk rfl rfl ?_); refine q_nil ?_; refine q_ret ?_)
          refine q_fin tabOk rfl (by repeat (first | exact RVs.nil | apply RVs.tmp rfl | apply RVs.cellA rfl rfl (by repeat first | exact .head _ | refine .tail _ ?_) (by rfl) | apply RVs.cell1 rfl rfl (by repeat first | exact .head _ | refine .tail _ ?_))) fun w hs => ?_
          exact ⟨(v, u), by rw [p1]; rfl, by rw [p2, p3, hL1, hL2]; exact hs.sp (by repeat (first | exact Sp.nil | exact Sp.refl _ | refine Sp.cons (by repeat constructor) ?_))⟩
        · obtain ⟨p1, p2, p3, p4⟩ := hgo (by omega)
          (refine q_skip ?_; refine q_region ?_; (iterate 2 refine ql_pure tabOk rfl rfl ?_))
          refine ql_mkS 3 [.int .i64 (0 + (x.store - 0) - t.need[k])] rfl (by kernel_rfl) rfl (fun c0 => ?_)
          refine ql_append (q := 1) slI rfl rfl rfl (fun v' => by repeat constructor) (fun w' hs => ⟨_, _, Blk.rd (hs.blk (b := c0) (by repeat first | exact .head _ | refine .tail _ ?_)) rfl 1⟩) (by simp [oneV]) (by omega) (by omega) (fun u0 => ?_)
          ((iterate 2 refine ql_pure tabOk rfl rfl ?_))
          refine ql_mkS 3 [.int .i64 ((x.store - 0))] rfl (by kernel_rfl) rfl (fun c1 => ?_)
          refine ql_append (q := 1) slI rfl rfl rfl (fun v' => by repeat constructor) (fun w' hs => ⟨_, _, Blk.rd (hs.blk (b := c1) (by repeat first | exact .head _ | refine .tail _ ?_)) rfl 1⟩) (by simp [oneV]) (by omega) (by omega) (fun u1 => ?_)
          ((iterate 2 refine ql_pure tabOk rfl rfl ?_); refine q_nil ?_; refine q_blk ?_; refine q_region ?_; refine ql_pure tabOk rfl rfl ?_; refine ql_ar tabOk rfl rfl rfl rfl (by omega) (by omega) ?_; refine ql_pure tabOk rfl rfl ?_; refine q_nil ?_)
          refine hK (k + 1, u0, u1) _ _ ⟨by dsimp only; omega, p1⟩ (by dsimp only; omega) ⟨rfl, rfl, rfl, rfl, rfl, rfl, lookI rfl (by rw [p2]; omega), rfl, trivial⟩ (by dsimp only; rw [p3, p4, show min (max 0 (s - t.loss[k]) + t.make[k]) x.store - t.need[k] = 0 + (x.store - 0) - t.need[k] by omega, show min t.make[k] (x.store - max 0 (s - t.loss[k])) = (x.store - 0) by omega]; repeat (first | exact Sp.nil | exact Sp.refl _ | refine Sp.cons (by repeat constructor) ?_))
      · skip
        (refine q_skip ?_; refine q_seq ?_; refine q_region ?_; (iterate 2 refine ql_pure tabOk rfl rfl ?_); refine ql_ar tabOk rfl rfl rfl rfl (by omega) (by omega) ?_; (iterate 2 refine ql_pure tabOk rfl rfl ?_))
        (refine ql_index tabOk rfl rfl rfl rfl rfl (by omega) (by omega) ?_; refine ql_load1 tabOk rfl rfl rfl (fun w hs => RdI.at (RdE.keep r1 hs.chg0) k y1) ?_)
        (refine ql_ar tabOk rfl rfl rfl rfl (by omega) (by omega) ?_; refine ql_pure tabOk rfl rfl ?_; refine q_nil ?_; (iterate 2 refine q_seq ?_); refine q_region ?_; (iterate 2 refine ql_pure tabOk rfl rfl ?_); refine q_nil ?_)
        refine q_if rfl (fun hc => ?_) (fun hc => ?_)
        · obtain ⟨p1, p2, p3⟩ := hstop (by omega)
          (refine q_seq ?_; refine q_region ?_; (iterate 6 refine ql_pure tabOk rfl rfl ?_); refine q_nil ?_; refine q_ret ?_)
          refine q_fin tabOk rfl (by repeat (first | exact RVs.nil | apply RVs.tmp rfl | apply RVs.cellA rfl rfl (by repeat first | exact .head _ | refine .tail _ ?_) (by rfl) | apply RVs.cell1 rfl rfl (by repeat first | exact .head _ | refine .tail _ ?_))) fun w hs => ?_
          exact ⟨(v, u), by rw [p1]; rfl, by rw [p2, p3, hL1, hL2]; exact hs.sp (by repeat (first | exact Sp.nil | exact Sp.refl _ | refine Sp.cons (by repeat constructor) ?_))⟩
        · obtain ⟨p1, p2, p3, p4⟩ := hgo (by omega)
          (refine q_skip ?_; refine q_region ?_; (iterate 2 refine ql_pure tabOk rfl rfl ?_))
          refine ql_mkS 3 [.int .i64 (0 + t.make[k] - t.need[k])] rfl (by kernel_rfl) rfl (fun c0 => ?_)
          refine ql_append (q := 1) slI rfl rfl rfl (fun v' => by repeat constructor) (fun w' hs => ⟨_, _, Blk.rd (hs.blk (b := c0) (by repeat first | exact .head _ | refine .tail _ ?_)) rfl 1⟩) (by simp [oneV]) (by omega) (by omega) (fun u0 => ?_)
          ((iterate 2 refine ql_pure tabOk rfl rfl ?_))
          refine ql_mkS 3 [.int .i64 (t.make[k])] rfl (by kernel_rfl) rfl (fun c1 => ?_)
          refine ql_append (q := 1) slI rfl rfl rfl (fun v' => by repeat constructor) (fun w' hs => ⟨_, _, Blk.rd (hs.blk (b := c1) (by repeat first | exact .head _ | refine .tail _ ?_)) rfl 1⟩) (by simp [oneV]) (by omega) (by omega) (fun u1 => ?_)
          ((iterate 2 refine ql_pure tabOk rfl rfl ?_); refine q_nil ?_; refine q_blk ?_; refine q_region ?_; refine ql_pure tabOk rfl rfl ?_; refine ql_ar tabOk rfl rfl rfl rfl (by omega) (by omega) ?_; refine ql_pure tabOk rfl rfl ?_; refine q_nil ?_)
          refine hK (k + 1, u0, u1) _ _ ⟨by dsimp only; omega, p1⟩ (by dsimp only; omega) ⟨rfl, rfl, rfl, rfl, rfl, rfl, lookI rfl (by rw [p2]; omega), rfl, trivial⟩ (by dsimp only; rw [p3, p4, show min (max 0 (s - t.loss[k]) + t.make[k]) x.store - t.need[k] = 0 + t.make[k] - t.need[k] by omega, show min t.make[k] (x.store - max 0 (s - t.loss[k])) = t.make[k] by omega]; repeat (first | exact Sp.nil | exact Sp.refl _ | refine Sp.cons (by repeat constructor) ?_))
    · skip
      (refine q_skip ?_; refine q_seq ?_; refine q_region ?_; (iterate 2 refine ql_pure tabOk rfl rfl ?_))
      (refine ql_index tabOk rfl rfl rfl rfl rfl (by omega) (by omega) ?_; refine ql_load1 tabOk rfl rfl rfl (fun w hs => RdI.at (RdE.keep r2 hs.chg0) k y2) ?_)
      (refine ql_pure tabOk rfl rfl ?_; refine q_nil ?_; (iterate 2 refine q_seq ?_); refine q_region ?_; (iterate 2 refine ql_pure tabOk rfl rfl ?_); refine ql_ar tabOk rfl rfl rfl rfl (by omega) (by omega) ?_; refine ql_pure tabOk rfl rfl ?_; refine ql_loadB tabOk rfl rfl rfl (by repeat first | exact .head _ | refine .tail _ ?_) (by rfl) ?_; refine ql_pure tabOk rfl rfl ?_; refine q_nil ?_)
      refine q_if rfl (fun hc => ?_) (fun hc => ?_)
      · skip
        (refine q_region ?_; refine ql_pure tabOk rfl rfl ?_; refine ql_loadB tabOk rfl rfl rfl (by repeat first | exact .head _ | refine .tail _ ?_) (by rfl) ?_; refine ql_pure tabOk rfl rfl ?_; refine ql_ar tabOk rfl rfl rfl rfl (by omega) (by omega) ?_; refine ql_pure tabOk rfl rfl ?_; refine q_nil ?_; refine q_seq ?_; refine q_region ?_; (iterate 2 refine ql_pure tabOk rfl rfl ?_); refine ql_ar tabOk rfl rfl rfl rfl (by omega) (by omega) ?_; (iterate 2 refine ql_pure tabOk rfl rfl ?_))
        (refine ql_index tabOk rfl rfl rfl rfl rfl (by omega) (by omega) ?_; refine ql_load1 tabOk rfl rfl rfl (fun w hs => RdI.at (RdE.keep r1 hs.chg0) k y1) ?_)
        (refine ql_ar tabOk rfl rfl rfl rfl (by omega) (by omega) ?_; refine ql_pure tabOk rfl rfl ?_; refine q_nil ?_; (iterate 2 refine q_seq ?_); refine q_region ?_; (iterate 2 refine ql_pure tabOk rfl rfl ?_); refine q_nil ?_)
        refine q_if rfl (fun hc => ?_) (fun hc => ?_)
        · obtain ⟨p1, p2, p3⟩ := hstop (by omega)
          (refine q_seq ?_; refine q_region ?_; (iterate 6 refine ql_pure tabOk rfl rfl ?_); refine q_nil ?_; refine q_ret ?_)
          refine q_fin tabOk rfl (by repeat (first | exact RVs.nil | apply RVs.tmp rfl | apply RVs.cellA rfl rfl (by repeat first | exact .head _ | refine .tail _ ?_) (by rfl) | apply RVs.cell1 rfl rfl (by repeat first | exact .head _ | refine .tail _ ?_))) fun w hs => ?_
          exact ⟨(v, u), by rw [p1]; rfl, by rw [p2, p3, hL1, hL2]; exact hs.sp (by repeat (first | exact Sp.nil | exact Sp.refl _ | refine Sp.cons (by repeat constructor) ?_))⟩
        · obtain ⟨p1, p2, p3, p4⟩ := hgo (by omega)
          (refine q_skip ?_; refine q_region ?_; (iterate 2 refine ql_pure tabOk rfl rfl ?_))
          refine ql_mkS 3 [.int .i64 ((s - t.loss[k]) + (x.store - (s - t.loss[k])) - t.need[k])] rfl (by kernel_rfl) rfl (fun c0 => ?_)
          refine ql_append (q := 1) slI rfl rfl rfl (fun v' => by repeat constructor) (fun w' hs => ⟨_, _, Blk.rd (hs.blk (b := c0) (by repeat first | exact .head _ | refine .tail _ ?_)) rfl 1⟩) (by simp [oneV]) (by omega) (by omega) (fun u0 => ?_)
          ((iterate 2 refine ql_pure tabOk rfl rfl ?_))
          refine ql_mkS 3 [.int .i64 ((x.store - (s - t.loss[k])))] rfl (by kernel_rfl) rfl (fun c1 => ?_)
          refine ql_append (q := 1) slI rfl rfl rfl (fun v' => by repeat constructor) (fun w' hs => ⟨_, _, Blk.rd (hs.blk (b := c1) (by repeat first | exact .head _ | refine .tail _ ?_)) rfl 1⟩) (by simp [oneV]) (by omega) (by omega) (fun u1 => ?_)
          ((iterate 2 refine ql_pure tabOk rfl rfl ?_); refine q_nil ?_; refine q_blk ?_; refine q_region ?_; refine ql_pure tabOk rfl rfl ?_; refine ql_ar tabOk rfl rfl rfl rfl (by omega) (by omega) ?_; refine ql_pure tabOk rfl rfl ?_; refine q_nil ?_)
          refine hK (k + 1, u0, u1) _ _ ⟨by dsimp only; omega, p1⟩ (by dsimp only; omega) ⟨rfl, rfl, rfl, rfl, rfl, rfl, lookI rfl (by rw [p2]; omega), rfl, trivial⟩ (by dsimp only; rw [p3, p4, show min (max 0 (s - t.loss[k]) + t.make[k]) x.store - t.need[k] = (s - t.loss[k]) + (x.store - (s - t.loss[k])) - t.need[k] by omega, show min t.make[k] (x.store - max 0 (s - t.loss[k])) = (x.store - (s - t.loss[k])) by omega]; repeat (first | exact Sp.nil | exact Sp.refl _ | refine Sp.cons (by repeat constructor) ?_))
      · skip
        (refine q_skip ?_; refine q_seq ?_; refine q_region ?_; (iterate 2 refine ql_pure tabOk rfl rfl ?_); refine ql_ar tabOk rfl rfl rfl rfl (by omega) (by omega) ?_; (iterate 2 refine ql_pure tabOk rfl rfl ?_))
        (refine ql_index tabOk rfl rfl rfl rfl rfl (by omega) (by omega) ?_; refine ql_load1 tabOk rfl rfl rfl (fun w hs => RdI.at (RdE.keep r1 hs.chg0) k y1) ?_)
        (refine ql_ar tabOk rfl rfl rfl rfl (by omega) (by omega) ?_; refine ql_pure tabOk rfl rfl ?_; refine q_nil ?_; (iterate 2 refine q_seq ?_); refine q_region ?_; (iterate 2 refine ql_pure tabOk rfl rfl ?_); refine q_nil ?_)
        refine q_if rfl (fun hc => ?_) (fun hc => ?_)
        · obtain ⟨p1, p2, p3⟩ := hstop (by omega)
          (refine q_seq ?_; refine q_region ?_; (iterate 6 refine ql_pure tabOk rfl rfl ?_); refine q_nil ?_; refine q_ret ?_)
          refine q_fin tabOk rfl (by repeat (first | exact RVs.nil | apply RVs.tmp rfl | apply RVs.cellA rfl rfl (by repeat first | exact .head _ | refine .tail _ ?_) (by rfl) | apply RVs.cell1 rfl rfl (by repeat first | exact .head _ | refine .tail _ ?_))) fun w hs => ?_
          exact ⟨(v, u), by rw [p1]; rfl, by rw [p2, p3, hL1, hL2]; exact hs.sp (by repeat (first | exact Sp.nil | exact Sp.refl _ | refine Sp.cons (by repeat constructor) ?_))⟩
        · obtain ⟨p1, p2, p3, p4⟩ := hgo (by omega)
          (refine q_skip ?_; refine q_region ?_; (iterate 2 refine ql_pure tabOk rfl rfl ?_))
          refine ql_mkS 3 [.int .i64 ((s - t.loss[k]) + t.make[k] - t.need[k])] rfl (by kernel_rfl) rfl (fun c0 => ?_)
          refine ql_append (q := 1) slI rfl rfl rfl (fun v' => by repeat constructor) (fun w' hs => ⟨_, _, Blk.rd (hs.blk (b := c0) (by repeat first | exact .head _ | refine .tail _ ?_)) rfl 1⟩) (by simp [oneV]) (by omega) (by omega) (fun u0 => ?_)
          ((iterate 2 refine ql_pure tabOk rfl rfl ?_))
          refine ql_mkS 3 [.int .i64 (t.make[k])] rfl (by kernel_rfl) rfl (fun c1 => ?_)
          refine ql_append (q := 1) slI rfl rfl rfl (fun v' => by repeat constructor) (fun w' hs => ⟨_, _, Blk.rd (hs.blk (b := c1) (by repeat first | exact .head _ | refine .tail _ ?_)) rfl 1⟩) (by simp [oneV]) (by omega) (by omega) (fun u1 => ?_)
          ((iterate 2 refine ql_pure tabOk rfl rfl ?_); refine q_nil ?_; refine q_blk ?_; refine q_region ?_; refine ql_pure tabOk rfl rfl ?_; refine ql_ar tabOk rfl rfl rfl rfl (by omega) (by omega) ?_; refine ql_pure tabOk rfl rfl ?_; refine q_nil ?_)
          refine hK (k + 1, u0, u1) _ _ ⟨by dsimp only; omega, p1⟩ (by dsimp only; omega) ⟨rfl, rfl, rfl, rfl, rfl, rfl, lookI rfl (by rw [p2]; omega), rfl, trivial⟩ (by dsimp only; rw [p3, p4, show min (max 0 (s - t.loss[k]) + t.make[k]) x.store - t.need[k] = (s - t.loss[k]) + t.make[k] - t.need[k] by omega, show min t.make[k] (x.store - max 0 (s - t.loss[k])) = t.make[k] by omega]; repeat (first | exact Sp.nil | exact Sp.refl _ | refine Sp.cons (by repeat constructor) ?_))
  · obtain rfl : k = x.days.length := by omega
    (refine q_exit _ rfl ?_; refine q_seq ?_; refine q_region ?_; (iterate 5 refine ql_pure tabOk rfl rfl ?_); refine q_nil ?_; refine q_ret ?_)
    refine q_fin tabOk rfl (by repeat (first | exact RVs.nil | apply RVs.tmp rfl | apply RVs.cellA rfl rfl (by repeat first | exact .head _ | refine .tail _ ?_) (by rfl) | apply RVs.cell1 rfl rfl (by repeat first | exact .head _ | refine .tail _ ?_))) fun w hs => ?_
    exact ⟨(v, u), by rw [hapV, hf]; rfl, by rw [hapV, hL1, hL2]; exact hs.sp (by repeat (first | exact Sp.nil | exact Sp.refl _ | refine Sp.cons (by repeat constructor) ?_))⟩
end Go.Proofs.Ytgeajgmefokifaa

/- Walk of the reference: the ends of a winter's spans. -/
namespace Go.Proofs.Ytgeajgmefokifaa
open Go Go.Eng

theorem map_snocI (l : List Dy) (f : Dy → Int) {k : Nat} (h : k < l.length) : ints ((l.take (k + 1)).map f) = ints ((l.take k).map f) ++ [.int .i64 (f l[k])] := by
  rw [List.take_succ_eq_append_getElem h]
  simp only [ints, List.map_append, List.map_cons, List.map_nil]
set_option maxRecDepth 20000 in
set_option maxHeartbeats 8000000 in
theorem rworst_ca (w : World) (lo hi : Nat) (x : Wn) (a : Option Addr) (c : Nat) (h : RdD w lo hi (.slice a x.days.length c) x.days) (hlen : x.days.length ≤ 1000000) :
    Ca Try.prog 78 [.agg (wnC x a c).toArray, .bool true] w fun r w' => ∃ y : Value × Value × Value, r = .tuple #[y.1, y.2.1, y.2.2] ∧ Sat w M0 [.ow y.1 3 1 x.days.length (ints (worstW x).need), .ow y.2.1 3 1 x.days.length (ints (worstW x).make), .ow y.2.2 3 1 x.days.length (ints (worstW x).loss)] w' := by
  obtain ⟨a', c', he, hsa⟩ := RdD.outI h
  cases he
  refine q_of (Sat.nil w M0) Try.func78 rfl (by simp [Try.ntmps78]) ?_
  (refine q_seq ?_; refine q_region ?_)
  refine ql_box rfl rfl (fun b2 => ?_)
  ((iterate 3 refine ql_pure tabOk rfl rfl ?_); refine q_nil ?_; refine q_seq ?_; refine q_region ?_; (iterate 3 refine ql_pure tabOk rfl rfl ?_); refine q_nil ?_; (iterate 2 refine q_seq ?_); refine q_region ?_; refine ql_pure tabOk rfl rfl ?_; refine q_nil ?_; refine q_block ?_)
  refine q_conv (H' := [.ow (.slice none 0 0) 3 1 0 (ints []), .ow (.slice none 0 0) 3 1 0 (ints []), .ow (.slice none 0 0) 3 1 0 (ints []), .pt b2 (wnC x a c) 93]) (fun w' hs => (Sat.ownil (Sat.ownil (Sat.ownil hs 3 1) 3 1) 3 1).sp (by repeat (first | exact Sp.nil | exact Sp.refl _ | refine Sp.cons (by repeat constructor) ?_))) ?_
  refine q_loop (σ := Nat × Value × Value × Value) (fun s => s.1 ≤ x.days.length) (fun s => x.days.length - s.1) (fun s => [(1, .bool true), (2, .pointer (some ⟨b2, 0, none⟩)), (7, s.2.1), (8, s.2.2.1), (9, s.2.2.2), (10, .int .i64 s.1)])
    (fun s => [.ow s.2.1 3 1 s.1 (ints ((x.days.take s.1).map (·.n1))), .ow s.2.2.1 3 1 s.1 (ints ((x.days.take s.1).map (·.m0))), .ow s.2.2.2 3 1 s.1 (ints ((x.days.take s.1).map (·.l1))), .pt b2 (wnC x a c) 93]) (0, .slice none 0 0, .slice none 0 0, .slice none 0 0) (by simp) ⟨rfl, rfl, rfl, rfl, rfl, rfl, trivial⟩ (by repeat (first | exact Sp.nil | exact Sp.refl _ | refine Sp.cons (by repeat constructor) ?_)) ?_
  rintro ⟨k, v1, v2, v3⟩ hk K hK
  simp only at hk
  dsimp only
  ((iterate 2 refine q_seq ?_); refine q_region ?_; (iterate 2 refine ql_pure tabOk rfl rfl ?_); refine ql_loadB tabOk rfl rfl rfl (by repeat first | exact .head _ | refine .tail _ ?_) (by rfl) ?_; (iterate 2 refine ql_pure tabOk rfl rfl ?_); refine q_nil ?_)
  refine q_if rfl (fun hc => ?_) (fun hc => ?_)
  · have hk2 : k < x.days.length := by first | omega | (simp at hc; omega)
    clear hc
    obtain ⟨b, off, rfl⟩ := hsa (by omega)
    have e1 := map_snocI x.days (·.n1) hk2
    have e2 := map_snocI x.days (·.m0) hk2
    have e3 := map_snocI x.days (·.l1) hk2
    (refine q_skip ?_; refine q_seq ?_; refine q_block ?_; refine q_seq ?_; refine q_region ?_; refine ql_pure tabOk rfl rfl ?_; refine ql_loadB tabOk rfl rfl rfl (by repeat first | exact .head _ | refine .tail _ ?_) (by rfl) ?_; refine ql_pure tabOk rfl rfl ?_)
    refine ql_index tabOk rfl rfl rfl rfl rfl (by omega) (by omega) ?_
    skip
    refine ql_loadA tabOk rfl rfl rfl rfl (fun w hs => RdD.at (RdE.keep h hs.chg0) k hk2) ?_
    skip
    refine ql_alloc zero176 rfl (fun b11 => ?_)
    (refine ql_setA tabOk rfl rfl rfl rfl rfl (by repeat constructor) rfl ?_; refine q_nil ?_; refine q_seq ?_; refine q_region ?_; refine ql_pure tabOk rfl rfl ?_; refine q_nil ?_; refine q_cond_true rfl ?_)
    generalize x.days[k] = d at *
    obtain ⟨n0, n1, m0, m1, l0, l1⟩ := d
    dsimp only at e1 e2 e3 ⊢
    refine q_drawT (.alt (chainT [1, 2, 3, 4] (.alt (chainT [0, 5] (.alt (chainT [7, 8, 9, 10] (.alt (chainT [6, 11] (chainT [13, 14, 15, 16] (chainT [12, 17, 18, 19, 20] (.nil)))) (chainT [13, 14, 15, 16] (chainT [6, 11] (chainT [12, 17, 18, 19, 20] (.nil)))))) (chainT [13, 14, 15, 16] (chainT [7, 8, 9, 10] (chainT [6, 11] (chainT [12, 17, 18, 19, 20] (.nil))))))) (.alt (chainT [7, 8, 9, 10] (.alt (chainT [0, 5] (.alt (chainT [6, 11] (chainT [13, 14, 15, 16] (chainT [12, 17, 18, 19, 20] (.nil)))) (chainT [13, 14, 15, 16] (chainT [6, 11] (chainT [12, 17, 18, 19, 20] (.nil)))))) (chainT [13, 14, 15, 16] (chainT [0, 5] (chainT [6, 11] (chainT [12, 17, 18, 19, 20] (.nil))))))) (chainT [13, 14, 15, 16] (.alt (chainT [0, 5] (chainT [7, 8, 9, 10] (chainT [6, 11] (chainT [12, 17, 18, 19, 20] (.nil))))) (chainT [7, 8, 9, 10] (chainT [0, 5] (chainT [6, 11] (chainT [12, 17, 18, 19, 20] (.nil)))))))))) (.alt (chainT [7, 8, 9, 10] (.alt (chainT [1, 2, 3, 4] (.alt (chainT [0, 5] (.alt (chainT [6, 11] (chainT [13, 14, 15, 16] (chainT [12, 17, 18, 19, 20] (.nil)))) (chainT [13, 14, 15, 16] (chainT [6, 11] (chainT [12, 17, 18, 19, 20] (.nil)))))) (chainT [13, 14, 15, 16] (chainT [0, 5] (chainT [6, 11] (chainT [12, 17, 18, 19, 20] (.nil))))))) (chainT [13, 14, 15, 16] (chainT [1, 2, 3, 4] (chainT [0, 5] (chainT [6, 11] (chainT [12, 17, 18, 19, 20] (.nil)))))))) (chainT [13, 14, 15, 16] (.alt (chainT [1, 2, 3, 4] (.alt (chainT [0, 5] (chainT [7, 8, 9, 10] (chainT [6, 11] (chainT [12, 17, 18, 19, 20] (.nil))))) (chainT [7, 8, 9, 10] (chainT [0, 5] (chainT [6, 11] (chainT [12, 17, 18, 19, 20] (.nil))))))) (chainT [7, 8, 9, 10] (chainT [1, 2, 3, 4] (chainT [0, 5] (chainT [6, 11] (chainT [12, 17, 18, 19, 20] (.nil)))))))))) _ [.ow v1 3 1 k (ints ((x.days.take k).map (·.n1))), .ow v2 3 1 k (ints ((x.days.take k).map (·.m0))), .ow v3 3 1 k (ints ((x.days.take k).map (·.l1)))] (Sp.cons (by repeat constructor) (Sp.cons (by repeat constructor) (Sp.cons (by repeat constructor) (Sp.refl _)))) (by kernel_rfl) (by kernel_rfl) ?_
    refine qt_let (σ := Nat × Value × Nat × Value × Nat × Value × Unit) (.nil) (fun ⟨lt0, ap0, lt1, ap1, lt2, ap2, ()⟩ => [(1, .bool true), (2, .pointer (some ⟨b2, 0, none⟩)), (10, .int .i64 k), (7, ap0), (8, ap1), (9, ap2)]) (fun ⟨lt0, ap0, lt1, ap1, lt2, ap2, ()⟩ => [.ow ap0 3 1 (k + 1) (ints ((x.days.take k).map (·.n1)) ++ [.int .i64 n1]), .ow ap1 3 1 (k + 1) (ints ((x.days.take k).map (·.m0)) ++ [.int .i64 m0]), .ow ap2 3 1 (k + 1) (ints ((x.days.take k).map (·.l1)) ++ [.int .i64 l1])]) ?_ (fun hS4_5_10_11_16_17 => ?_)
    · rintro ⟨lt0, ap0, lt1, ap1, lt2, ap2, _⟩
      refine qt_nil ?_
      (refine q_blk ?_; refine q_region ?_; refine ql_pure tabOk rfl rfl ?_; refine ql_ar tabOk rfl rfl rfl rfl (by omega) (by omega) ?_; refine ql_pure tabOk rfl rfl ?_; refine q_nil ?_)
      exact (hK (k + 1, ap0, ap1, ap2) _ _ (by simp only; omega) (by simp only; omega) ⟨rfl, rfl, rfl, rfl, rfl, rfl, trivial⟩ (by dsimp only; rw [e1, e2, e3]; repeat (first | exact Sp.nil | exact Sp.refl _ | refine Sp.cons (by repeat constructor) ?_)))
    refine qt_let (σ := Nat × Value × Nat × Value × Nat × Unit) (chainT [12, 17, 18, 19, 20] (.nil)) (fun ⟨lt0, ap0, lt1, ap1, lt2, ()⟩ => [(1, .bool true), (2, .pointer (some ⟨b2, 0, none⟩)), (10, .int .i64 k), (11, .pointer (some ⟨b11, 0, none⟩)), (7, v1), (8, v2), (9, v3), (30, ap0), (36, ap1), (41, .slice (some ⟨lt2, 0, none⟩) 1 1)]) (fun ⟨lt0, ap0, lt1, ap1, lt2, ()⟩ => [.ow ap0 3 1 (k + 1) (ints ((x.days.take k).map (·.n1)) ++ [.int .i64 n1]), .ow ap1 3 1 (k + 1) (ints ((x.days.take k).map (·.m0)) ++ [.int .i64 m0]), .ow v3 3 1 k (ints ((x.days.take k).map (·.l1))), .pt lt2 [.int .i64 l1] 3]) ?_ (fun hS4_5_10_11_16 => ?_)
    · rintro ⟨lt0, ap0, lt1, ap1, lt2, _⟩
      refine qt_seg (by repeat (first | exact PickL.nil | (apply PickL.cons; rfl))) fun K1 hK1 => ?_
      (refine qf_pure tabOk rfl rfl rfl ?_)
      refine qf_append (q := 1) slI rfl rfl rfl (fun v' => by repeat constructor) (fun w' hs => ⟨_, _, Blk.rd (hs.blk (b := lt2) (by repeat first | exact .head _ | refine .tail _ ?_)) rfl 1⟩) (by simp [oneV]) (by omega) (by omega) (fun ap2 => ?_)
      ((iterate 3 refine qf_pure tabOk rfl rfl rfl ?_); refine qf_nil ?_)
      exact hK1 _ _ (hS4_5_10_11_16_17 ⟨lt0, ap0, lt1, ap1, lt2, ap2, ()⟩ _ _ ⟨rfl, rfl, rfl, rfl, rfl, rfl, trivial⟩ (by repeat (first | exact Sp.nil | exact Sp.refl _ | refine Sp.cons (by repeat constructor) ?_)))
    refine qt_let (σ := Nat × Value × Nat × Value × Unit) (chainT [13, 14, 15, 16] (chainT [12, 17, 18, 19, 20] (.nil))) (fun ⟨lt0, ap0, lt1, ap1, ()⟩ => [(1, .bool true), (2, .pointer (some ⟨b2, 0, none⟩)), (10, .int .i64 k), (11, .pointer (some ⟨b11, 0, none⟩)), (7, v1), (8, v2), (9, v3), (30, ap0), (36, ap1)]) (fun ⟨lt0, ap0, lt1, ap1, ()⟩ => [.ow ap0 3 1 (k + 1) (ints ((x.days.take k).map (·.n1)) ++ [.int .i64 n1]), .ow ap1 3 1 (k + 1) (ints ((x.days.take k).map (·.m0)) ++ [.int .i64 m0]), .ow v3 3 1 k (ints ((x.days.take k).map (·.l1)))]) ?_ (fun hS4_5_10_11 => ?_)
    · rintro ⟨lt0, ap0, lt1, ap1, _⟩
      refine qt_seg (by repeat (first | exact PickL.nil | (apply PickL.cons; rfl))) fun K1 hK1 => ?_
      ((iterate 2 refine qf_pure tabOk rfl rfl rfl ?_); refine qf_loadB tabOk rfl rfl rfl (by repeat first | exact .head _ | refine .tail _ ?_) (by rfl) ?_)
      refine qf_mkS 3 [.int .i64 l1] rfl (by kernel_rfl) rfl (fun lt2 => ?_)
      (refine qf_nil ?_)
      exact hK1 _ _ (hS4_5_10_11_16 ⟨lt0, ap0, lt1, ap1, lt2, ()⟩ _ _ ⟨rfl, rfl, rfl, rfl, rfl, rfl, rfl, rfl, rfl, rfl, trivial⟩ (by repeat (first | exact Sp.nil | exact Sp.refl _ | refine Sp.cons (by repeat constructor) ?_)))
    refine qt_let (σ := Nat × Value × Nat × Nat × Unit) (chainT [6, 11] (chainT [12, 17, 18, 19, 20] (.nil))) (fun ⟨lt0, ap0, lt1, lt2, ()⟩ => [(1, .bool true), (2, .pointer (some ⟨b2, 0, none⟩)), (10, .int .i64 k), (11, .pointer (some ⟨b11, 0, none⟩)), (7, v1), (8, v2), (9, v3), (30, ap0), (35, .slice (some ⟨lt1, 0, none⟩) 1 1), (41, .slice (some ⟨lt2, 0, none⟩) 1 1)]) (fun ⟨lt0, ap0, lt1, lt2, ()⟩ => [.ow ap0 3 1 (k + 1) (ints ((x.days.take k).map (·.n1)) ++ [.int .i64 n1]), .ow v2 3 1 k (ints ((x.days.take k).map (·.m0))), .pt lt1 [.int .i64 m0] 3, .ow v3 3 1 k (ints ((x.days.take k).map (·.l1))), .pt lt2 [.int .i64 l1] 3]) ?_ (fun hS4_5_10_16 => ?_)
    · rintro ⟨lt0, ap0, lt1, lt2, _⟩
      refine qt_seg (by repeat (first | exact PickL.nil | (apply PickL.cons; rfl))) fun K1 hK1 => ?_
      (refine qf_pure tabOk rfl rfl rfl ?_)
      refine qf_append (q := 1) slI rfl rfl rfl (fun v' => by repeat constructor) (fun w' hs => ⟨_, _, Blk.rd (hs.blk (b := lt1) (by repeat first | exact .head _ | refine .tail _ ?_)) rfl 1⟩) (by simp [oneV]) (by omega) (by omega) (fun ap1 => ?_)
      (refine qf_nil ?_)
      exact hK1 _ _ (hS4_5_10_11_16 ⟨lt0, ap0, lt1, ap1, lt2, ()⟩ _ _ ⟨rfl, rfl, rfl, rfl, rfl, rfl, rfl, rfl, rfl, rfl, trivial⟩ (by repeat (first | exact Sp.nil | exact Sp.refl _ | refine Sp.cons (by repeat constructor) ?_)))
    refine qt_let (σ := Nat × Value × Nat × Unit) (.alt (chainT [6, 11] (chainT [13, 14, 15, 16] (chainT [12, 17, 18, 19, 20] (.nil)))) (chainT [13, 14, 15, 16] (chainT [6, 11] (chainT [12, 17, 18, 19, 20] (.nil))))) (fun ⟨lt0, ap0, lt1, ()⟩ => [(1, .bool true), (2, .pointer (some ⟨b2, 0, none⟩)), (10, .int .i64 k), (11, .pointer (some ⟨b11, 0, none⟩)), (7, v1), (8, v2), (9, v3), (30, ap0), (35, .slice (some ⟨lt1, 0, none⟩) 1 1)]) (fun ⟨lt0, ap0, lt1, ()⟩ => [.ow ap0 3 1 (k + 1) (ints ((x.days.take k).map (·.n1)) ++ [.int .i64 n1]), .ow v2 3 1 k (ints ((x.days.take k).map (·.m0))), .pt lt1 [.int .i64 m0] 3, .ow v3 3 1 k (ints ((x.days.take k).map (·.l1)))]) ?_ (fun hS4_5_10 => ?_)
    · rintro ⟨lt0, ap0, lt1, _⟩
      refine qt_alt ?_ ?_
      · skip
        refine qt_seg (by repeat (first | exact PickL.nil | (apply PickL.cons; rfl))) fun K1 hK1 => ?_
        (refine qf_pure tabOk rfl rfl rfl ?_)
        refine qf_append (q := 1) slI rfl rfl rfl (fun v' => by repeat constructor) (fun w' hs => ⟨_, _, Blk.rd (hs.blk (b := lt1) (by repeat first | exact .head _ | refine .tail _ ?_)) rfl 1⟩) (by simp [oneV]) (by omega) (by omega) (fun ap1 => ?_)
        (refine qf_nil ?_)
        exact hK1 _ _ (hS4_5_10_11 ⟨lt0, ap0, lt1, ap1, ()⟩ _ _ ⟨rfl, rfl, rfl, rfl, rfl, rfl, rfl, rfl, rfl, trivial⟩ (by repeat (first | exact Sp.nil | exact Sp.refl _ | refine Sp.cons (by repeat constructor) ?_)))
      · skip
        refine qt_seg (by repeat (first | exact PickL.nil | (apply PickL.cons; rfl))) fun K1 hK1 => ?_
        ((iterate 2 refine qf_pure tabOk rfl rfl rfl ?_); refine qf_loadB tabOk rfl rfl rfl (by repeat first | exact .head _ | refine .tail _ ?_) (by rfl) ?_)
        refine qf_mkS 3 [.int .i64 l1] rfl (by kernel_rfl) rfl (fun lt2 => ?_)
        (refine qf_nil ?_)
        exact hK1 _ _ (hS4_5_10_16 ⟨lt0, ap0, lt1, lt2, ()⟩ _ _ ⟨rfl, rfl, rfl, rfl, rfl, rfl, rfl, rfl, rfl, rfl, trivial⟩ (by repeat (first | exact Sp.nil | exact Sp.refl _ | refine Sp.cons (by repeat constructor) ?_)))
    refine qt_let (σ := Nat × Value × Nat × Unit) (chainT [7, 8, 9, 10] (chainT [6, 11] (chainT [12, 17, 18, 19, 20] (.nil)))) (fun ⟨lt0, ap0, lt2, ()⟩ => [(1, .bool true), (2, .pointer (some ⟨b2, 0, none⟩)), (10, .int .i64 k), (11, .pointer (some ⟨b11, 0, none⟩)), (7, v1), (8, v2), (9, v3), (30, ap0), (41, .slice (some ⟨lt2, 0, none⟩) 1 1)]) (fun ⟨lt0, ap0, lt2, ()⟩ => [.ow ap0 3 1 (k + 1) (ints ((x.days.take k).map (·.n1)) ++ [.int .i64 n1]), .ow v2 3 1 k (ints ((x.days.take k).map (·.m0))), .ow v3 3 1 k (ints ((x.days.take k).map (·.l1))), .pt lt2 [.int .i64 l1] 3]) ?_ (fun hS4_5_16 => ?_)
    · rintro ⟨lt0, ap0, lt2, _⟩
      refine qt_seg (by repeat (first | exact PickL.nil | (apply PickL.cons; rfl))) fun K1 hK1 => ?_
      ((iterate 2 refine qf_pure tabOk rfl rfl rfl ?_); refine qf_loadB tabOk rfl rfl rfl (by repeat first | exact .head _ | refine .tail _ ?_) (by rfl) ?_)
      refine qf_mkS 3 [.int .i64 m0] rfl (by kernel_rfl) rfl (fun lt1 => ?_)
      (refine qf_nil ?_)
      exact hK1 _ _ (hS4_5_10_16 ⟨lt0, ap0, lt1, lt2, ()⟩ _ _ ⟨rfl, rfl, rfl, rfl, rfl, rfl, rfl, rfl, rfl, rfl, trivial⟩ (by repeat (first | exact Sp.nil | exact Sp.refl _ | refine Sp.cons (by repeat constructor) ?_)))
    refine qt_let (σ := Nat × Nat × Nat × Unit) (chainT [0, 5] (chainT [6, 11] (chainT [12, 17, 18, 19, 20] (.nil)))) (fun ⟨lt0, lt1, lt2, ()⟩ => [(1, .bool true), (2, .pointer (some ⟨b2, 0, none⟩)), (10, .int .i64 k), (11, .pointer (some ⟨b11, 0, none⟩)), (7, v1), (8, v2), (9, v3), (29, .slice (some ⟨lt0, 0, none⟩) 1 1), (35, .slice (some ⟨lt1, 0, none⟩) 1 1), (41, .slice (some ⟨lt2, 0, none⟩) 1 1)]) (fun ⟨lt0, lt1, lt2, ()⟩ => [.ow v1 3 1 k (ints ((x.days.take k).map (·.n1))), .pt lt0 [.int .i64 n1] 3, .ow v2 3 1 k (ints ((x.days.take k).map (·.m0))), .pt lt1 [.int .i64 m0] 3, .ow v3 3 1 k (ints ((x.days.take k).map (·.l1))), .pt lt2 [.int .i64 l1] 3]) ?_ (fun hS4_10_16 => ?_)
    · rintro ⟨lt0, lt1, lt2, _⟩
      refine qt_seg (by repeat (first | exact PickL.nil | (apply PickL.cons; rfl))) fun K1 hK1 => ?_
      (refine qf_pure tabOk rfl rfl rfl ?_)
      refine qf_append (q := 1) slI rfl rfl rfl (fun v' => by repeat constructor) (fun w' hs => ⟨_, _, Blk.rd (hs.blk (b := lt0) (by repeat first | exact .head _ | refine .tail _ ?_)) rfl 1⟩) (by simp [oneV]) (by omega) (by omega) (fun ap0 => ?_)
      (refine qf_nil ?_)
      exact hK1 _ _ (hS4_5_10_16 ⟨lt0, ap0, lt1, lt2, ()⟩ _ _ ⟨rfl, rfl, rfl, rfl, rfl, rfl, rfl, rfl, rfl, rfl, trivial⟩ (by repeat (first | exact Sp.nil | exact Sp.refl _ | refine Sp.cons (by repeat constructor) ?_)))
    refine qt_let (σ := Nat × Value × Unit) (.alt (chainT [7, 8, 9, 10] (.alt (chainT [6, 11] (chainT [13, 14, 15, 16] (chainT [12, 17, 18, 19, 20] (.nil)))) (chainT [13, 14, 15, 16] (chainT [6, 11] (chainT [12, 17, 18, 19, 20] (.nil)))))) (chainT [13, 14, 15, 16] (chainT [7, 8, 9, 10] (chainT [6, 11] (chainT [12, 17, 18, 19, 20] (.nil)))))) (fun ⟨lt0, ap0, ()⟩ => [(1, .bool true), (2, .pointer (some ⟨b2, 0, none⟩)), (10, .int .i64 k), (11, .pointer (some ⟨b11, 0, none⟩)), (7, v1), (8, v2), (9, v3), (30, ap0)]) (fun ⟨lt0, ap0, ()⟩ => [.ow ap0 3 1 (k + 1) (ints ((x.days.take k).map (·.n1)) ++ [.int .i64 n1]), .ow v2 3 1 k (ints ((x.days.take k).map (·.m0))), .ow v3 3 1 k (ints ((x.days.take k).map (·.l1)))]) ?_ (fun hS4_5 => ?_)
    · rintro ⟨lt0, ap0, _⟩
      refine qt_alt ?_ ?_
      · skip
        refine qt_seg (by repeat (first | exact PickL.nil | (apply PickL.cons; rfl))) fun K1 hK1 => ?_
        ((iterate 2 refine qf_pure tabOk rfl rfl rfl ?_); refine qf_loadB tabOk rfl rfl rfl (by repeat first | exact .head _ | refine .tail _ ?_) (by rfl) ?_)
        refine qf_mkS 3 [.int .i64 m0] rfl (by kernel_rfl) rfl (fun lt1 => ?_)
        (refine qf_nil ?_)
        exact hK1 _ _ (hS4_5_10 ⟨lt0, ap0, lt1, ()⟩ _ _ ⟨rfl, rfl, rfl, rfl, rfl, rfl, rfl, rfl, rfl, trivial⟩ (by repeat (first | exact Sp.nil | exact Sp.refl _ | refine Sp.cons (by repeat constructor) ?_)))
      · skip
        refine qt_seg (by repeat (first | exact PickL.nil | (apply PickL.cons; rfl))) fun K1 hK1 => ?_
        ((iterate 2 refine qf_pure tabOk rfl rfl rfl ?_); refine qf_loadB tabOk rfl rfl rfl (by repeat first | exact .head _ | refine .tail _ ?_) (by rfl) ?_)
        refine qf_mkS 3 [.int .i64 l1] rfl (by kernel_rfl) rfl (fun lt2 => ?_)
        (refine qf_nil ?_)
        exact hK1 _ _ (hS4_5_16 ⟨lt0, ap0, lt2, ()⟩ _ _ ⟨rfl, rfl, rfl, rfl, rfl, rfl, rfl, rfl, rfl, trivial⟩ (by repeat (first | exact Sp.nil | exact Sp.refl _ | refine Sp.cons (by repeat constructor) ?_)))
    refine qt_let (σ := Nat × Nat × Unit) (.alt (chainT [0, 5] (.alt (chainT [6, 11] (chainT [13, 14, 15, 16] (chainT [12, 17, 18, 19, 20] (.nil)))) (chainT [13, 14, 15, 16] (chainT [6, 11] (chainT [12, 17, 18, 19, 20] (.nil)))))) (chainT [13, 14, 15, 16] (chainT [0, 5] (chainT [6, 11] (chainT [12, 17, 18, 19, 20] (.nil)))))) (fun ⟨lt0, lt1, ()⟩ => [(1, .bool true), (2, .pointer (some ⟨b2, 0, none⟩)), (10, .int .i64 k), (11, .pointer (some ⟨b11, 0, none⟩)), (7, v1), (8, v2), (9, v3), (29, .slice (some ⟨lt0, 0, none⟩) 1 1), (35, .slice (some ⟨lt1, 0, none⟩) 1 1)]) (fun ⟨lt0, lt1, ()⟩ => [.ow v1 3 1 k (ints ((x.days.take k).map (·.n1))), .pt lt0 [.int .i64 n1] 3, .ow v2 3 1 k (ints ((x.days.take k).map (·.m0))), .pt lt1 [.int .i64 m0] 3, .ow v3 3 1 k (ints ((x.days.take k).map (·.l1)))]) ?_ (fun hS4_10 => ?_)
    · rintro ⟨lt0, lt1, _⟩
      refine qt_alt ?_ ?_
      · skip
        refine qt_seg (by repeat (first | exact PickL.nil | (apply PickL.cons; rfl))) fun K1 hK1 => ?_
        (refine qf_pure tabOk rfl rfl rfl ?_)
        refine qf_append (q := 1) slI rfl rfl rfl (fun v' => by repeat constructor) (fun w' hs => ⟨_, _, Blk.rd (hs.blk (b := lt0) (by repeat first | exact .head _ | refine .tail _ ?_)) rfl 1⟩) (by simp [oneV]) (by omega) (by omega) (fun ap0 => ?_)
        (refine qf_nil ?_)
        exact hK1 _ _ (hS4_5_10 ⟨lt0, ap0, lt1, ()⟩ _ _ ⟨rfl, rfl, rfl, rfl, rfl, rfl, rfl, rfl, rfl, trivial⟩ (by repeat (first | exact Sp.nil | exact Sp.refl _ | refine Sp.cons (by repeat constructor) ?_)))
      · skip
        refine qt_seg (by repeat (first | exact PickL.nil | (apply PickL.cons; rfl))) fun K1 hK1 => ?_
        ((iterate 2 refine qf_pure tabOk rfl rfl rfl ?_); refine qf_loadB tabOk rfl rfl rfl (by repeat first | exact .head _ | refine .tail _ ?_) (by rfl) ?_)
        refine qf_mkS 3 [.int .i64 l1] rfl (by kernel_rfl) rfl (fun lt2 => ?_)
        (refine qf_nil ?_)
        exact hK1 _ _ (hS4_10_16 ⟨lt0, lt1, lt2, ()⟩ _ _ ⟨rfl, rfl, rfl, rfl, rfl, rfl, rfl, rfl, rfl, rfl, trivial⟩ (by repeat (first | exact Sp.nil | exact Sp.refl _ | refine Sp.cons (by repeat constructor) ?_)))
    refine qt_let (σ := Nat × Nat × Unit) (.alt (chainT [0, 5] (chainT [7, 8, 9, 10] (chainT [6, 11] (chainT [12, 17, 18, 19, 20] (.nil))))) (chainT [7, 8, 9, 10] (chainT [0, 5] (chainT [6, 11] (chainT [12, 17, 18, 19, 20] (.nil)))))) (fun ⟨lt0, lt2, ()⟩ => [(1, .bool true), (2, .pointer (some ⟨b2, 0, none⟩)), (10, .int .i64 k), (11, .pointer (some ⟨b11, 0, none⟩)), (7, v1), (8, v2), (9, v3), (29, .slice (some ⟨lt0, 0, none⟩) 1 1), (41, .slice (some ⟨lt2, 0, none⟩) 1 1)]) (fun ⟨lt0, lt2, ()⟩ => [.ow v1 3 1 k (ints ((x.days.take k).map (·.n1))), .pt lt0 [.int .i64 n1] 3, .ow v2 3 1 k (ints ((x.days.take k).map (·.m0))), .ow v3 3 1 k (ints ((x.days.take k).map (·.l1))), .pt lt2 [.int .i64 l1] 3]) ?_ (fun hS4_16 => ?_)
    · rintro ⟨lt0, lt2, _⟩
      refine qt_alt ?_ ?_
      · skip
        refine qt_seg (by repeat (first | exact PickL.nil | (apply PickL.cons; rfl))) fun K1 hK1 => ?_
        (refine qf_pure tabOk rfl rfl rfl ?_)
        refine qf_append (q := 1) slI rfl rfl rfl (fun v' => by repeat constructor) (fun w' hs => ⟨_, _, Blk.rd (hs.blk (b := lt0) (by repeat first | exact .head _ | refine .tail _ ?_)) rfl 1⟩) (by simp [oneV]) (by omega) (by omega) (fun ap0 => ?_)
        (refine qf_nil ?_)
        exact hK1 _ _ (hS4_5_16 ⟨lt0, ap0, lt2, ()⟩ _ _ ⟨rfl, rfl, rfl, rfl, rfl, rfl, rfl, rfl, rfl, trivial⟩ (by repeat (first | exact Sp.nil | exact Sp.refl _ | refine Sp.cons (by repeat constructor) ?_)))
      · skip
        refine qt_seg (by repeat (first | exact PickL.nil | (apply PickL.cons; rfl))) fun K1 hK1 => ?_
        ((iterate 2 refine qf_pure tabOk rfl rfl rfl ?_); refine qf_loadB tabOk rfl rfl rfl (by repeat first | exact .head _ | refine .tail _ ?_) (by rfl) ?_)
        refine qf_mkS 3 [.int .i64 m0] rfl (by kernel_rfl) rfl (fun lt1 => ?_)
        (refine qf_nil ?_)
        exact hK1 _ _ (hS4_10_16 ⟨lt0, lt1, lt2, ()⟩ _ _ ⟨rfl, rfl, rfl, rfl, rfl, rfl, rfl, rfl, rfl, rfl, trivial⟩ (by repeat (first | exact Sp.nil | exact Sp.refl _ | refine Sp.cons (by repeat constructor) ?_)))
    refine qt_let (σ := Nat × Nat × Unit) (chainT [1, 2, 3, 4] (chainT [0, 5] (chainT [6, 11] (chainT [12, 17, 18, 19, 20] (.nil))))) (fun ⟨lt1, lt2, ()⟩ => [(1, .bool true), (2, .pointer (some ⟨b2, 0, none⟩)), (10, .int .i64 k), (11, .pointer (some ⟨b11, 0, none⟩)), (7, v1), (8, v2), (9, v3), (35, .slice (some ⟨lt1, 0, none⟩) 1 1), (41, .slice (some ⟨lt2, 0, none⟩) 1 1)]) (fun ⟨lt1, lt2, ()⟩ => [.ow v1 3 1 k (ints ((x.days.take k).map (·.n1))), .ow v2 3 1 k (ints ((x.days.take k).map (·.m0))), .pt lt1 [.int .i64 m0] 3, .ow v3 3 1 k (ints ((x.days.take k).map (·.l1))), .pt lt2 [.int .i64 l1] 3]) ?_ (fun hS10_16 => ?_)
    · rintro ⟨lt1, lt2, _⟩
      refine qt_seg (by repeat (first | exact PickL.nil | (apply PickL.cons; rfl))) fun K1 hK1 => ?_
      ((iterate 2 refine qf_pure tabOk rfl rfl rfl ?_); refine qf_loadB tabOk rfl rfl rfl (by repeat first | exact .head _ | refine .tail _ ?_) (by rfl) ?_)
      refine qf_mkS 3 [.int .i64 n1] rfl (by kernel_rfl) rfl (fun lt0 => ?_)
      (refine qf_nil ?_)
      exact hK1 _ _ (hS4_10_16 ⟨lt0, lt1, lt2, ()⟩ _ _ ⟨rfl, rfl, rfl, rfl, rfl, rfl, rfl, rfl, rfl, rfl, trivial⟩ (by repeat (first | exact Sp.nil | exact Sp.refl _ | refine Sp.cons (by repeat constructor) ?_)))
    refine qt_let (σ := Nat × Unit) (.alt (chainT [0, 5] (.alt (chainT [7, 8, 9, 10] (.alt (chainT [6, 11] (chainT [13, 14, 15, 16] (chainT [12, 17, 18, 19, 20] (.nil)))) (chainT [13, 14, 15, 16] (chainT [6, 11] (chainT [12, 17, 18, 19, 20] (.nil)))))) (chainT [13, 14, 15, 16] (chainT [7, 8, 9, 10] (chainT [6, 11] (chainT [12, 17, 18, 19, 20] (.nil))))))) (.alt (chainT [7, 8, 9, 10] (.alt (chainT [0, 5] (.alt (chainT [6, 11] (chainT [13, 14, 15, 16] (chainT [12, 17, 18, 19, 20] (.nil)))) (chainT [13, 14, 15, 16] (chainT [6, 11] (chainT [12, 17, 18, 19, 20] (.nil)))))) (chainT [13, 14, 15, 16] (chainT [0, 5] (chainT [6, 11] (chainT [12, 17, 18, 19, 20] (.nil))))))) (chainT [13, 14, 15, 16] (.alt (chainT [0, 5] (chainT [7, 8, 9, 10] (chainT [6, 11] (chainT [12, 17, 18, 19, 20] (.nil))))) (chainT [7, 8, 9, 10] (chainT [0, 5] (chainT [6, 11] (chainT [12, 17, 18, 19, 20] (.nil))))))))) (fun ⟨lt0, ()⟩ => [(1, .bool true), (2, .pointer (some ⟨b2, 0, none⟩)), (10, .int .i64 k), (11, .pointer (some ⟨b11, 0, none⟩)), (7, v1), (8, v2), (9, v3), (29, .slice (some ⟨lt0, 0, none⟩) 1 1)]) (fun ⟨lt0, ()⟩ => [.ow v1 3 1 k (ints ((x.days.take k).map (·.n1))), .pt lt0 [.int .i64 n1] 3, .ow v2 3 1 k (ints ((x.days.take k).map (·.m0))), .ow v3 3 1 k (ints ((x.days.take k).map (·.l1)))]) ?_ (fun hS4 => ?_)
    · rintro ⟨lt0, _⟩
      refine qt_alt ?_ (qt_alt ?_ ?_)
      · skip
        refine qt_seg (by repeat (first | exact PickL.nil | (apply PickL.cons; rfl))) fun K1 hK1 => ?_
        (refine qf_pure tabOk rfl rfl rfl ?_)
        refine qf_append (q := 1) slI rfl rfl rfl (fun v' => by repeat constructor) (fun w' hs => ⟨_, _, Blk.rd (hs.blk (b := lt0) (by repeat first | exact .head _ | refine .tail _ ?_)) rfl 1⟩) (by simp [oneV]) (by omega) (by omega) (fun ap0 => ?_)
        (refine qf_nil ?_)
        exact hK1 _ _ (hS4_5 ⟨lt0, ap0, ()⟩ _ _ ⟨rfl, rfl, rfl, rfl, rfl, rfl, rfl, rfl, trivial⟩ (by repeat (first | exact Sp.nil | exact Sp.refl _ | refine Sp.cons (by repeat constructor) ?_)))
      · skip
        refine qt_seg (by repeat (first | exact PickL.nil | (apply PickL.cons; rfl))) fun K1 hK1 => ?_
        ((iterate 2 refine qf_pure tabOk rfl rfl rfl ?_); refine qf_loadB tabOk rfl rfl rfl (by repeat first | exact .head _ | refine .tail _ ?_) (by rfl) ?_)
        refine qf_mkS 3 [.int .i64 m0] rfl (by kernel_rfl) rfl (fun lt1 => ?_)
        (refine qf_nil ?_)
        exact hK1 _ _ (hS4_10 ⟨lt0, lt1, ()⟩ _ _ ⟨rfl, rfl, rfl, rfl, rfl, rfl, rfl, rfl, rfl, trivial⟩ (by repeat (first | exact Sp.nil | exact Sp.refl _ | refine Sp.cons (by repeat constructor) ?_)))
      · skip
        refine qt_seg (by repeat (first | exact PickL.nil | (apply PickL.cons; rfl))) fun K1 hK1 => ?_
        ((iterate 2 refine qf_pure tabOk rfl rfl rfl ?_); refine qf_loadB tabOk rfl rfl rfl (by repeat first | exact .head _ | refine .tail _ ?_) (by rfl) ?_)
        refine qf_mkS 3 [.int .i64 l1] rfl (by kernel_rfl) rfl (fun lt2 => ?_)
        (refine qf_nil ?_)
        exact hK1 _ _ (hS4_16 ⟨lt0, lt2, ()⟩ _ _ ⟨rfl, rfl, rfl, rfl, rfl, rfl, rfl, rfl, rfl, trivial⟩ (by repeat (first | exact Sp.nil | exact Sp.refl _ | refine Sp.cons (by repeat constructor) ?_)))
    refine qt_let (σ := Nat × Unit) (.alt (chainT [1, 2, 3, 4] (.alt (chainT [0, 5] (.alt (chainT [6, 11] (chainT [13, 14, 15, 16] (chainT [12, 17, 18, 19, 20] (.nil)))) (chainT [13, 14, 15, 16] (chainT [6, 11] (chainT [12, 17, 18, 19, 20] (.nil)))))) (chainT [13, 14, 15, 16] (chainT [0, 5] (chainT [6, 11] (chainT [12, 17, 18, 19, 20] (.nil))))))) (chainT [13, 14, 15, 16] (chainT [1, 2, 3, 4] (chainT [0, 5] (chainT [6, 11] (chainT [12, 17, 18, 19, 20] (.nil))))))) (fun ⟨lt1, ()⟩ => [(1, .bool true), (2, .pointer (some ⟨b2, 0, none⟩)), (10, .int .i64 k), (11, .pointer (some ⟨b11, 0, none⟩)), (7, v1), (8, v2), (9, v3), (35, .slice (some ⟨lt1, 0, none⟩) 1 1)]) (fun ⟨lt1, ()⟩ => [.ow v1 3 1 k (ints ((x.days.take k).map (·.n1))), .ow v2 3 1 k (ints ((x.days.take k).map (·.m0))), .pt lt1 [.int .i64 m0] 3, .ow v3 3 1 k (ints ((x.days.take k).map (·.l1)))]) ?_ (fun hS10 => ?_)
    · rintro ⟨lt1, _⟩
      refine qt_alt ?_ ?_
      · skip
        refine qt_seg (by repeat (first | exact PickL.nil | (apply PickL.cons; rfl))) fun K1 hK1 => ?_
        ((iterate 2 refine qf_pure tabOk rfl rfl rfl ?_); refine qf_loadB tabOk rfl rfl rfl (by repeat first | exact .head _ | refine .tail _ ?_) (by rfl) ?_)
        refine qf_mkS 3 [.int .i64 n1] rfl (by kernel_rfl) rfl (fun lt0 => ?_)
        (refine qf_nil ?_)
        exact hK1 _ _ (hS4_10 ⟨lt0, lt1, ()⟩ _ _ ⟨rfl, rfl, rfl, rfl, rfl, rfl, rfl, rfl, rfl, trivial⟩ (by repeat (first | exact Sp.nil | exact Sp.refl _ | refine Sp.cons (by repeat constructor) ?_)))
      · skip
        refine qt_seg (by repeat (first | exact PickL.nil | (apply PickL.cons; rfl))) fun K1 hK1 => ?_
        ((iterate 2 refine qf_pure tabOk rfl rfl rfl ?_); refine qf_loadB tabOk rfl rfl rfl (by repeat first | exact .head _ | refine .tail _ ?_) (by rfl) ?_)
        refine qf_mkS 3 [.int .i64 l1] rfl (by kernel_rfl) rfl (fun lt2 => ?_)
        (refine qf_nil ?_)
        exact hK1 _ _ (hS10_16 ⟨lt1, lt2, ()⟩ _ _ ⟨rfl, rfl, rfl, rfl, rfl, rfl, rfl, rfl, rfl, trivial⟩ (by repeat (first | exact Sp.nil | exact Sp.refl _ | refine Sp.cons (by repeat constructor) ?_)))
    refine qt_let (σ := Nat × Unit) (.alt (chainT [1, 2, 3, 4] (.alt (chainT [0, 5] (chainT [7, 8, 9, 10] (chainT [6, 11] (chainT [12, 17, 18, 19, 20] (.nil))))) (chainT [7, 8, 9, 10] (chainT [0, 5] (chainT [6, 11] (chainT [12, 17, 18, 19, 20] (.nil))))))) (chainT [7, 8, 9, 10] (chainT [1, 2, 3, 4] (chainT [0, 5] (chainT [6, 11] (chainT [12, 17, 18, 19, 20] (.nil))))))) (fun ⟨lt2, ()⟩ => [(1, .bool true), (2, .pointer (some ⟨b2, 0, none⟩)), (10, .int .i64 k), (11, .pointer (some ⟨b11, 0, none⟩)), (7, v1), (8, v2), (9, v3), (41, .slice (some ⟨lt2, 0, none⟩) 1 1)]) (fun ⟨lt2, ()⟩ => [.ow v1 3 1 k (ints ((x.days.take k).map (·.n1))), .ow v2 3 1 k (ints ((x.days.take k).map (·.m0))), .ow v3 3 1 k (ints ((x.days.take k).map (·.l1))), .pt lt2 [.int .i64 l1] 3]) ?_ (fun hS16 => ?_)
    · rintro ⟨lt2, _⟩
      refine qt_alt ?_ ?_
      · skip
        refine qt_seg (by repeat (first | exact PickL.nil | (apply PickL.cons; rfl))) fun K1 hK1 => ?_
        ((iterate 2 refine qf_pure tabOk rfl rfl rfl ?_); refine qf_loadB tabOk rfl rfl rfl (by repeat first | exact .head _ | refine .tail _ ?_) (by rfl) ?_)
        refine qf_mkS 3 [.int .i64 n1] rfl (by kernel_rfl) rfl (fun lt0 => ?_)
        (refine qf_nil ?_)
        exact hK1 _ _ (hS4_16 ⟨lt0, lt2, ()⟩ _ _ ⟨rfl, rfl, rfl, rfl, rfl, rfl, rfl, rfl, rfl, trivial⟩ (by repeat (first | exact Sp.nil | exact Sp.refl _ | refine Sp.cons (by repeat constructor) ?_)))
      · skip
        refine qt_seg (by repeat (first | exact PickL.nil | (apply PickL.cons; rfl))) fun K1 hK1 => ?_
        ((iterate 2 refine qf_pure tabOk rfl rfl rfl ?_); refine qf_loadB tabOk rfl rfl rfl (by repeat first | exact .head _ | refine .tail _ ?_) (by rfl) ?_)
        refine qf_mkS 3 [.int .i64 m0] rfl (by kernel_rfl) rfl (fun lt1 => ?_)
        (refine qf_nil ?_)
        exact hK1 _ _ (hS10_16 ⟨lt1, lt2, ()⟩ _ _ ⟨rfl, rfl, rfl, rfl, rfl, rfl, rfl, rfl, rfl, trivial⟩ (by repeat (first | exact Sp.nil | exact Sp.refl _ | refine Sp.cons (by repeat constructor) ?_)))
    refine qt_alt ?_ (qt_alt ?_ ?_)
    · skip
      refine qt_seg (by repeat (first | exact PickL.nil | (apply PickL.cons; rfl))) fun K1 hK1 => ?_
      ((iterate 2 refine qf_pure tabOk rfl rfl rfl ?_); refine qf_loadB tabOk rfl rfl rfl (by repeat first | exact .head _ | refine .tail _ ?_) (by rfl) ?_)
      refine qf_mkS 3 [.int .i64 n1] rfl (by kernel_rfl) rfl (fun lt0 => ?_)
      (refine qf_nil ?_)
      exact hK1 _ _ (hS4 ⟨lt0, ()⟩ _ _ ⟨rfl, rfl, rfl, rfl, rfl, rfl, rfl, rfl, trivial⟩ (by repeat (first | exact Sp.nil | exact Sp.refl _ | refine Sp.cons (by repeat constructor) ?_)))
    · skip
      refine qt_seg (by repeat (first | exact PickL.nil | (apply PickL.cons; rfl))) fun K1 hK1 => ?_
      ((iterate 2 refine qf_pure tabOk rfl rfl rfl ?_); refine qf_loadB tabOk rfl rfl rfl (by repeat first | exact .head _ | refine .tail _ ?_) (by rfl) ?_)
      refine qf_mkS 3 [.int .i64 m0] rfl (by kernel_rfl) rfl (fun lt1 => ?_)
      (refine qf_nil ?_)
      exact hK1 _ _ (hS10 ⟨lt1, ()⟩ _ _ ⟨rfl, rfl, rfl, rfl, rfl, rfl, rfl, rfl, trivial⟩ (by repeat (first | exact Sp.nil | exact Sp.refl _ | refine Sp.cons (by repeat constructor) ?_)))
    · skip
      refine qt_seg (by repeat (first | exact PickL.nil | (apply PickL.cons; rfl))) fun K1 hK1 => ?_
      ((iterate 2 refine qf_pure tabOk rfl rfl rfl ?_); refine qf_loadB tabOk rfl rfl rfl (by repeat first | exact .head _ | refine .tail _ ?_) (by rfl) ?_)
      refine qf_mkS 3 [.int .i64 l1] rfl (by kernel_rfl) rfl (fun lt2 => ?_)
      (refine qf_nil ?_)
      exact hK1 _ _ (hS16 ⟨lt2, ()⟩ _ _ ⟨rfl, rfl, rfl, rfl, rfl, rfl, rfl, rfl, trivial⟩ (by repeat (first | exact Sp.nil | exact Sp.refl _ | refine Sp.cons (by repeat constructor) ?_)))
  · obtain rfl : k = x.days.length := by omega
    clear hc hK
    (refine q_exit _ rfl ?_; refine q_seq ?_; refine q_region ?_; (iterate 6 refine ql_pure tabOk rfl rfl ?_); refine q_nil ?_; refine q_ret ?_)
    refine q_fin tabOk rfl (by repeat (first | exact RVs.nil | apply RVs.tmp rfl | apply RVs.cellA rfl rfl (by repeat first | exact .head _ | refine .tail _ ?_) (by rfl) | apply RVs.cell1 rfl rfl (by repeat first | exact .head _ | refine .tail _ ?_))) fun w hs => ?_
    exact ⟨(v1, v2, v3), rfl, by rw [List.take_length] at hs; exact hs.sp (by repeat (first | exact Sp.nil | exact Sp.refl _ | refine Sp.cons (by repeat constructor) ?_))⟩
set_option maxRecDepth 20000 in
set_option maxHeartbeats 8000000 in
theorem rbest_ca (w : World) (lo hi : Nat) (x : Wn) (a : Option Addr) (c : Nat) (h : RdD w lo hi (.slice a x.days.length c) x.days) (hlen : x.days.length ≤ 1000000) :
    Ca Try.prog 78 [.agg (wnC x a c).toArray, .bool false] w fun r w' => ∃ y : Value × Value × Value, r = .tuple #[y.1, y.2.1, y.2.2] ∧ Sat w M0 [.ow y.1 3 1 x.days.length (ints (bestW x).need), .ow y.2.1 3 1 x.days.length (ints (bestW x).make), .ow y.2.2 3 1 x.days.length (ints (bestW x).loss)] w' := by
  obtain ⟨a', c', he, hsa⟩ := RdD.outI h
  cases he
  refine q_of (Sat.nil w M0) Try.func78 rfl (by simp [Try.ntmps78]) ?_
  (refine q_seq ?_; refine q_region ?_)
  refine ql_box rfl rfl (fun b2 => ?_)
  ((iterate 3 refine ql_pure tabOk rfl rfl ?_); refine q_nil ?_; refine q_seq ?_; refine q_region ?_; (iterate 3 refine ql_pure tabOk rfl rfl ?_); refine q_nil ?_; (iterate 2 refine q_seq ?_); refine q_region ?_; refine ql_pure tabOk rfl rfl ?_; refine q_nil ?_; refine q_block ?_)
  refine q_conv (H' := [.ow (.slice none 0 0) 3 1 0 (ints []), .ow (.slice none 0 0) 3 1 0 (ints []), .ow (.slice none 0 0) 3 1 0 (ints []), .pt b2 (wnC x a c) 93]) (fun w' hs => (Sat.ownil (Sat.ownil (Sat.ownil hs 3 1) 3 1) 3 1).sp (by repeat (first | exact Sp.nil | exact Sp.refl _ | refine Sp.cons (by repeat constructor) ?_))) ?_
  refine q_loop (σ := Nat × Value × Value × Value) (fun s => s.1 ≤ x.days.length) (fun s => x.days.length - s.1) (fun s => [(1, .bool false), (2, .pointer (some ⟨b2, 0, none⟩)), (7, s.2.1), (8, s.2.2.1), (9, s.2.2.2), (10, .int .i64 s.1)])
    (fun s => [.ow s.2.1 3 1 s.1 (ints ((x.days.take s.1).map (·.n0))), .ow s.2.2.1 3 1 s.1 (ints ((x.days.take s.1).map (·.m1))), .ow s.2.2.2 3 1 s.1 (ints ((x.days.take s.1).map (·.l0))), .pt b2 (wnC x a c) 93]) (0, .slice none 0 0, .slice none 0 0, .slice none 0 0) (by simp) ⟨rfl, rfl, rfl, rfl, rfl, rfl, trivial⟩ (by repeat (first | exact Sp.nil | exact Sp.refl _ | refine Sp.cons (by repeat constructor) ?_)) ?_
  rintro ⟨k, v1, v2, v3⟩ hk K hK
  simp only at hk
  dsimp only
  ((iterate 2 refine q_seq ?_); refine q_region ?_; (iterate 2 refine ql_pure tabOk rfl rfl ?_); refine ql_loadB tabOk rfl rfl rfl (by repeat first | exact .head _ | refine .tail _ ?_) (by rfl) ?_; (iterate 2 refine ql_pure tabOk rfl rfl ?_); refine q_nil ?_)
  refine q_if rfl (fun hc => ?_) (fun hc => ?_)
  · have hk2 : k < x.days.length := by first | omega | (simp at hc; omega)
    clear hc
    obtain ⟨b, off, rfl⟩ := hsa (by omega)
    have e1 := map_snocI x.days (·.n0) hk2
    have e2 := map_snocI x.days (·.m1) hk2
    have e3 := map_snocI x.days (·.l0) hk2
    (refine q_skip ?_; refine q_seq ?_; refine q_block ?_; refine q_seq ?_; refine q_region ?_; refine ql_pure tabOk rfl rfl ?_; refine ql_loadB tabOk rfl rfl rfl (by repeat first | exact .head _ | refine .tail _ ?_) (by rfl) ?_; refine ql_pure tabOk rfl rfl ?_)
    refine ql_index tabOk rfl rfl rfl rfl rfl (by omega) (by omega) ?_
    skip
    refine ql_loadA tabOk rfl rfl rfl rfl (fun w hs => RdD.at (RdE.keep h hs.chg0) k hk2) ?_
    skip
    refine ql_alloc zero176 rfl (fun b11 => ?_)
    (refine ql_setA tabOk rfl rfl rfl rfl rfl (by repeat constructor) rfl ?_; refine q_nil ?_; refine q_seq ?_; refine q_region ?_; refine ql_pure tabOk rfl rfl ?_; refine q_nil ?_; refine q_cond_false rfl ?_)
    generalize x.days[k] = d at *
    obtain ⟨n0, n1, m0, m1, l0, l1⟩ := d
    dsimp only at e1 e2 e3 ⊢
    refine q_drawT (.alt (chainT [1, 2, 3, 4] (.alt (chainT [0, 5] (.alt (chainT [7, 8, 9, 10] (.alt (chainT [6, 11] (chainT [13, 14, 15, 16] (chainT [12, 17, 18, 19, 20] (.nil)))) (chainT [13, 14, 15, 16] (chainT [6, 11] (chainT [12, 17, 18, 19, 20] (.nil)))))) (chainT [13, 14, 15, 16] (chainT [7, 8, 9, 10] (chainT [6, 11] (chainT [12, 17, 18, 19, 20] (.nil))))))) (.alt (chainT [7, 8, 9, 10] (.alt (chainT [0, 5] (.alt (chainT [6, 11] (chainT [13, 14, 15, 16] (chainT [12, 17, 18, 19, 20] (.nil)))) (chainT [13, 14, 15, 16] (chainT [6, 11] (chainT [12, 17, 18, 19, 20] (.nil)))))) (chainT [13, 14, 15, 16] (chainT [0, 5] (chainT [6, 11] (chainT [12, 17, 18, 19, 20] (.nil))))))) (chainT [13, 14, 15, 16] (.alt (chainT [0, 5] (chainT [7, 8, 9, 10] (chainT [6, 11] (chainT [12, 17, 18, 19, 20] (.nil))))) (chainT [7, 8, 9, 10] (chainT [0, 5] (chainT [6, 11] (chainT [12, 17, 18, 19, 20] (.nil)))))))))) (.alt (chainT [7, 8, 9, 10] (.alt (chainT [1, 2, 3, 4] (.alt (chainT [0, 5] (.alt (chainT [6, 11] (chainT [13, 14, 15, 16] (chainT [12, 17, 18, 19, 20] (.nil)))) (chainT [13, 14, 15, 16] (chainT [6, 11] (chainT [12, 17, 18, 19, 20] (.nil)))))) (chainT [13, 14, 15, 16] (chainT [0, 5] (chainT [6, 11] (chainT [12, 17, 18, 19, 20] (.nil))))))) (chainT [13, 14, 15, 16] (chainT [1, 2, 3, 4] (chainT [0, 5] (chainT [6, 11] (chainT [12, 17, 18, 19, 20] (.nil)))))))) (chainT [13, 14, 15, 16] (.alt (chainT [1, 2, 3, 4] (.alt (chainT [0, 5] (chainT [7, 8, 9, 10] (chainT [6, 11] (chainT [12, 17, 18, 19, 20] (.nil))))) (chainT [7, 8, 9, 10] (chainT [0, 5] (chainT [6, 11] (chainT [12, 17, 18, 19, 20] (.nil))))))) (chainT [7, 8, 9, 10] (chainT [1, 2, 3, 4] (chainT [0, 5] (chainT [6, 11] (chainT [12, 17, 18, 19, 20] (.nil)))))))))) _ [.ow v1 3 1 k (ints ((x.days.take k).map (·.n0))), .ow v2 3 1 k (ints ((x.days.take k).map (·.m1))), .ow v3 3 1 k (ints ((x.days.take k).map (·.l0)))] (Sp.cons (by repeat constructor) (Sp.cons (by repeat constructor) (Sp.cons (by repeat constructor) (Sp.refl _)))) (by kernel_rfl) (by kernel_rfl) ?_
    refine qt_let (σ := Nat × Value × Nat × Value × Nat × Value × Unit) (.nil) (fun ⟨lt0, ap0, lt1, ap1, lt2, ap2, ()⟩ => [(1, .bool false), (2, .pointer (some ⟨b2, 0, none⟩)), (10, .int .i64 k), (7, ap0), (8, ap1), (9, ap2)]) (fun ⟨lt0, ap0, lt1, ap1, lt2, ap2, ()⟩ => [.ow ap0 3 1 (k + 1) (ints ((x.days.take k).map (·.n0)) ++ [.int .i64 n0]), .ow ap1 3 1 (k + 1) (ints ((x.days.take k).map (·.m1)) ++ [.int .i64 m1]), .ow ap2 3 1 (k + 1) (ints ((x.days.take k).map (·.l0)) ++ [.int .i64 l0])]) ?_ (fun hS4_5_10_11_16_17 => ?_)
    · rintro ⟨lt0, ap0, lt1, ap1, lt2, ap2, _⟩
      refine qt_nil ?_
      (refine q_blk ?_; refine q_region ?_; refine ql_pure tabOk rfl rfl ?_; refine ql_ar tabOk rfl rfl rfl rfl (by omega) (by omega) ?_; refine ql_pure tabOk rfl rfl ?_; refine q_nil ?_)
      exact (hK (k + 1, ap0, ap1, ap2) _ _ (by simp only; omega) (by simp only; omega) ⟨rfl, rfl, rfl, rfl, rfl, rfl, trivial⟩ (by dsimp only; rw [e1, e2, e3]; repeat (first | exact Sp.nil | exact Sp.refl _ | refine Sp.cons (by repeat constructor) ?_)))
    refine qt_let (σ := Nat × Value × Nat × Value × Nat × Unit) (chainT [12, 17, 18, 19, 20] (.nil)) (fun ⟨lt0, ap0, lt1, ap1, lt2, ()⟩ => [(1, .bool false), (2, .pointer (some ⟨b2, 0, none⟩)), (10, .int .i64 k), (11, .pointer (some ⟨b11, 0, none⟩)), (7, v1), (8, v2), (9, v3), (48, ap0), (54, ap1), (59, .slice (some ⟨lt2, 0, none⟩) 1 1)]) (fun ⟨lt0, ap0, lt1, ap1, lt2, ()⟩ => [.ow ap0 3 1 (k + 1) (ints ((x.days.take k).map (·.n0)) ++ [.int .i64 n0]), .ow ap1 3 1 (k + 1) (ints ((x.days.take k).map (·.m1)) ++ [.int .i64 m1]), .ow v3 3 1 k (ints ((x.days.take k).map (·.l0))), .pt lt2 [.int .i64 l0] 3]) ?_ (fun hS4_5_10_11_16 => ?_)
    · rintro ⟨lt0, ap0, lt1, ap1, lt2, _⟩
      refine qt_seg (by repeat (first | exact PickL.nil | (apply PickL.cons; rfl))) fun K1 hK1 => ?_
      (refine qf_pure tabOk rfl rfl rfl ?_)
      refine qf_append (q := 1) slI rfl rfl rfl (fun v' => by repeat constructor) (fun w' hs => ⟨_, _, Blk.rd (hs.blk (b := lt2) (by repeat first | exact .head _ | refine .tail _ ?_)) rfl 1⟩) (by simp [oneV]) (by omega) (by omega) (fun ap2 => ?_)
      ((iterate 3 refine qf_pure tabOk rfl rfl rfl ?_); refine qf_nil ?_)
      exact hK1 _ _ (hS4_5_10_11_16_17 ⟨lt0, ap0, lt1, ap1, lt2, ap2, ()⟩ _ _ ⟨rfl, rfl, rfl, rfl, rfl, rfl, trivial⟩ (by repeat (first | exact Sp.nil | exact Sp.refl _ | refine Sp.cons (by repeat constructor) ?_)))
    refine qt_let (σ := Nat × Value × Nat × Value × Unit) (chainT [13, 14, 15, 16] (chainT [12, 17, 18, 19, 20] (.nil))) (fun ⟨lt0, ap0, lt1, ap1, ()⟩ => [(1, .bool false), (2, .pointer (some ⟨b2, 0, none⟩)), (10, .int .i64 k), (11, .pointer (some ⟨b11, 0, none⟩)), (7, v1), (8, v2), (9, v3), (48, ap0), (54, ap1)]) (fun ⟨lt0, ap0, lt1, ap1, ()⟩ => [.ow ap0 3 1 (k + 1) (ints ((x.days.take k).map (·.n0)) ++ [.int .i64 n0]), .ow ap1 3 1 (k + 1) (ints ((x.days.take k).map (·.m1)) ++ [.int .i64 m1]), .ow v3 3 1 k (ints ((x.days.take k).map (·.l0)))]) ?_ (fun hS4_5_10_11 => ?_)
    · rintro ⟨lt0, ap0, lt1, ap1, _⟩
      refine qt_seg (by repeat (first | exact PickL.nil | (apply PickL.cons; rfl))) fun K1 hK1 => ?_
      ((iterate 2 refine qf_pure tabOk rfl rfl rfl ?_); refine qf_loadB tabOk rfl rfl rfl (by repeat first | exact .head _ | refine .tail _ ?_) (by rfl) ?_)
      refine qf_mkS 3 [.int .i64 l0] rfl (by kernel_rfl) rfl (fun lt2 => ?_)
      (refine qf_nil ?_)
      exact hK1 _ _ (hS4_5_10_11_16 ⟨lt0, ap0, lt1, ap1, lt2, ()⟩ _ _ ⟨rfl, rfl, rfl, rfl, rfl, rfl, rfl, rfl, rfl, rfl, trivial⟩ (by repeat (first | exact Sp.nil | exact Sp.refl _ | refine Sp.cons (by repeat constructor) ?_)))
    refine qt_let (σ := Nat × Value × Nat × Nat × Unit) (chainT [6, 11] (chainT [12, 17, 18, 19, 20] (.nil))) (fun ⟨lt0, ap0, lt1, lt2, ()⟩ => [(1, .bool false), (2, .pointer (some ⟨b2, 0, none⟩)), (10, .int .i64 k), (11, .pointer (some ⟨b11, 0, none⟩)), (7, v1), (8, v2), (9, v3), (48, ap0), (53, .slice (some ⟨lt1, 0, none⟩) 1 1), (59, .slice (some ⟨lt2, 0, none⟩) 1 1)]) (fun ⟨lt0, ap0, lt1, lt2, ()⟩ => [.ow ap0 3 1 (k + 1) (ints ((x.days.take k).map (·.n0)) ++ [.int .i64 n0]), .ow v2 3 1 k (ints ((x.days.take k).map (·.m1))), .pt lt1 [.int .i64 m1] 3, .ow v3 3 1 k (ints ((x.days.take k).map (·.l0))), .pt lt2 [.int .i64 l0] 3]) ?_ (fun hS4_5_10_16 => ?_)
    · rintro ⟨lt0, ap0, lt1, lt2, _⟩
      refine qt_seg (by repeat (first | exact PickL.nil | (apply PickL.cons; rfl))) fun K1 hK1 => ?_
      (refine qf_pure tabOk rfl rfl rfl ?_)
      refine qf_append (q := 1) slI rfl rfl rfl (fun v' => by repeat constructor) (fun w' hs => ⟨_, _, Blk.rd (hs.blk (b := lt1) (by repeat first | exact .head _ | refine .tail _ ?_)) rfl 1⟩) (by simp [oneV]) (by omega) (by omega) (fun ap1 => ?_)
      (refine qf_nil ?_)
      exact hK1 _ _ (hS4_5_10_11_16 ⟨lt0, ap0, lt1, ap1, lt2, ()⟩ _ _ ⟨rfl, rfl, rfl, rfl, rfl, rfl, rfl, rfl, rfl, rfl, trivial⟩ (by repeat (first | exact Sp.nil | exact Sp.refl _ | refine Sp.cons (by repeat constructor) ?_)))
    refine qt_let (σ := Nat × Value × Nat × Unit) (.alt (chainT [6, 11] (chainT [13, 14, 15, 16] (chainT [12, 17, 18, 19, 20] (.nil)))) (chainT [13, 14, 15, 16] (chainT [6, 11] (chainT [12, 17, 18, 19, 20] (.nil))))) (fun ⟨lt0, ap0, lt1, ()⟩ => [(1, .bool false), (2, .pointer (some ⟨b2, 0, none⟩)), (10, .int .i64 k), (11, .pointer (some ⟨b11, 0, none⟩)), (7, v1), (8, v2), (9, v3), (48, ap0), (53, .slice (some ⟨lt1, 0, none⟩) 1 1)]) (fun ⟨lt0, ap0, lt1, ()⟩ => [.ow ap0 3 1 (k + 1) (ints ((x.days.take k).map (·.n0)) ++ [.int .i64 n0]), .ow v2 3 1 k (ints ((x.days.take k).map (·.m1))), .pt lt1 [.int .i64 m1] 3, .ow v3 3 1 k (ints ((x.days.take k).map (·.l0)))]) ?_ (fun hS4_5_10 => ?_)
    · rintro ⟨lt0, ap0, lt1, _⟩
      refine qt_alt ?_ ?_
      · skip
        refine qt_seg (by repeat (first | exact PickL.nil | (apply PickL.cons; rfl))) fun K1 hK1 => ?_
        (refine qf_pure tabOk rfl rfl rfl ?_)
        refine qf_append (q := 1) slI rfl rfl rfl (fun v' => by repeat constructor) (fun w' hs => ⟨_, _, Blk.rd (hs.blk (b := lt1) (by repeat first | exact .head _ | refine .tail _ ?_)) rfl 1⟩) (by simp [oneV]) (by omega) (by omega) (fun ap1 => ?_)
        (refine qf_nil ?_)
        exact hK1 _ _ (hS4_5_10_11 ⟨lt0, ap0, lt1, ap1, ()⟩ _ _ ⟨rfl, rfl, rfl, rfl, rfl, rfl, rfl, rfl, rfl, trivial⟩ (by repeat (first | exact Sp.nil | exact Sp.refl _ | refine Sp.cons (by repeat constructor) ?_)))
      · skip
        refine qt_seg (by repeat (first | exact PickL.nil | (apply PickL.cons; rfl))) fun K1 hK1 => ?_
        ((iterate 2 refine qf_pure tabOk rfl rfl rfl ?_); refine qf_loadB tabOk rfl rfl rfl (by repeat first | exact .head _ | refine .tail _ ?_) (by rfl) ?_)
        refine qf_mkS 3 [.int .i64 l0] rfl (by kernel_rfl) rfl (fun lt2 => ?_)
        (refine qf_nil ?_)
        exact hK1 _ _ (hS4_5_10_16 ⟨lt0, ap0, lt1, lt2, ()⟩ _ _ ⟨rfl, rfl, rfl, rfl, rfl, rfl, rfl, rfl, rfl, rfl, trivial⟩ (by repeat (first | exact Sp.nil | exact Sp.refl _ | refine Sp.cons (by repeat constructor) ?_)))
    refine qt_let (σ := Nat × Value × Nat × Unit) (chainT [7, 8, 9, 10] (chainT [6, 11] (chainT [12, 17, 18, 19, 20] (.nil)))) (fun ⟨lt0, ap0, lt2, ()⟩ => [(1, .bool false), (2, .pointer (some ⟨b2, 0, none⟩)), (10, .int .i64 k), (11, .pointer (some ⟨b11, 0, none⟩)), (7, v1), (8, v2), (9, v3), (48, ap0), (59, .slice (some ⟨lt2, 0, none⟩) 1 1)]) (fun ⟨lt0, ap0, lt2, ()⟩ => [.ow ap0 3 1 (k + 1) (ints ((x.days.take k).map (·.n0)) ++ [.int .i64 n0]), .ow v2 3 1 k (ints ((x.days.take k).map (·.m1))), .ow v3 3 1 k (ints ((x.days.take k).map (·.l0))), .pt lt2 [.int .i64 l0] 3]) ?_ (fun hS4_5_16 => ?_)
    · rintro ⟨lt0, ap0, lt2, _⟩
      refine qt_seg (by repeat (first | exact PickL.nil | (apply PickL.cons; rfl))) fun K1 hK1 => ?_
      ((iterate 2 refine qf_pure tabOk rfl rfl rfl ?_); refine qf_loadB tabOk rfl rfl rfl (by repeat first | exact .head _ | refine .tail _ ?_) (by rfl) ?_)
      refine qf_mkS 3 [.int .i64 m1] rfl (by kernel_rfl) rfl (fun lt1 => ?_)
      (refine qf_nil ?_)
      exact hK1 _ _ (hS4_5_10_16 ⟨lt0, ap0, lt1, lt2, ()⟩ _ _ ⟨rfl, rfl, rfl, rfl, rfl, rfl, rfl, rfl, rfl, rfl, trivial⟩ (by repeat (first | exact Sp.nil | exact Sp.refl _ | refine Sp.cons (by repeat constructor) ?_)))
    refine qt_let (σ := Nat × Nat × Nat × Unit) (chainT [0, 5] (chainT [6, 11] (chainT [12, 17, 18, 19, 20] (.nil)))) (fun ⟨lt0, lt1, lt2, ()⟩ => [(1, .bool false), (2, .pointer (some ⟨b2, 0, none⟩)), (10, .int .i64 k), (11, .pointer (some ⟨b11, 0, none⟩)), (7, v1), (8, v2), (9, v3), (47, .slice (some ⟨lt0, 0, none⟩) 1 1), (53, .slice (some ⟨lt1, 0, none⟩) 1 1), (59, .slice (some ⟨lt2, 0, none⟩) 1 1)]) (fun ⟨lt0, lt1, lt2, ()⟩ => [.ow v1 3 1 k (ints ((x.days.take k).map (·.n0))), .pt lt0 [.int .i64 n0] 3, .ow v2 3 1 k (ints ((x.days.take k).map (·.m1))), .pt lt1 [.int .i64 m1] 3, .ow v3 3 1 k (ints ((x.days.take k).map (·.l0))), .pt lt2 [.int .i64 l0] 3]) ?_ (fun hS4_10_16 => ?_)
    · rintro ⟨lt0, lt1, lt2, _⟩
      refine qt_seg (by repeat (first | exact PickL.nil | (apply PickL.cons; rfl))) fun K1 hK1 => ?_
      (refine qf_pure tabOk rfl rfl rfl ?_)
      refine qf_append (q := 1) slI rfl rfl rfl (fun v' => by repeat constructor) (fun w' hs => ⟨_, _, Blk.rd (hs.blk (b := lt0) (by repeat first | exact .head _ | refine .tail _ ?_)) rfl 1⟩) (by simp [oneV]) (by omega) (by omega) (fun ap0 => ?_)
      (refine qf_nil ?_)
      exact hK1 _ _ (hS4_5_10_16 ⟨lt0, ap0, lt1, lt2, ()⟩ _ _ ⟨rfl, rfl, rfl, rfl, rfl, rfl, rfl, rfl, rfl, rfl, trivial⟩ (by repeat (first | exact Sp.nil | exact Sp.refl _ | refine Sp.cons (by repeat constructor) ?_)))
    refine qt_let (σ := Nat × Value × Unit) (.alt (chainT [7, 8, 9, 10] (.alt (chainT [6, 11] (chainT [13, 14, 15, 16] (chainT [12, 17, 18, 19, 20] (.nil)))) (chainT [13, 14, 15, 16] (chainT [6, 11] (chainT [12, 17, 18, 19, 20] (.nil)))))) (chainT [13, 14, 15, 16] (chainT [7, 8, 9, 10] (chainT [6, 11] (chainT [12, 17, 18, 19, 20] (.nil)))))) (fun ⟨lt0, ap0, ()⟩ => [(1, .bool false), (2, .pointer (some ⟨b2, 0, none⟩)), (10, .int .i64 k), (11, .pointer (some ⟨b11, 0, none⟩)), (7, v1), (8, v2), (9, v3), (48, ap0)]) (fun ⟨lt0, ap0, ()⟩ => [.ow ap0 3 1 (k + 1) (ints ((x.days.take k).map (·.n0)) ++ [.int .i64 n0]), .ow v2 3 1 k (ints ((x.days.take k).map (·.m1))), .ow v3 3 1 k (ints ((x.days.take k).map (·.l0)))]) ?_ (fun hS4_5 => ?_)
    · rintro ⟨lt0, ap0, _⟩
      refine qt_alt ?_ ?_
      · skip
        refine qt_seg (by repeat (first | exact PickL.nil | (apply PickL.cons; rfl))) fun K1 hK1 => ?_
        ((iterate 2 refine qf_pure tabOk rfl rfl rfl ?_); refine qf_loadB tabOk rfl rfl rfl (by repeat first | exact .head _ | refine .tail _ ?_) (by rfl) ?_)
        refine qf_mkS 3 [.int .i64 m1] rfl (by kernel_rfl) rfl (fun lt1 => ?_)
        (refine qf_nil ?_)
        exact hK1 _ _ (hS4_5_10 ⟨lt0, ap0, lt1, ()⟩ _ _ ⟨rfl, rfl, rfl, rfl, rfl, rfl, rfl, rfl, rfl, trivial⟩ (by repeat (first | exact Sp.nil | exact Sp.refl _ | refine Sp.cons (by repeat constructor) ?_)))
      · skip
        refine qt_seg (by repeat (first | exact PickL.nil | (apply PickL.cons; rfl))) fun K1 hK1 => ?_
        ((iterate 2 refine qf_pure tabOk rfl rfl rfl ?_); refine qf_loadB tabOk rfl rfl rfl (by repeat first | exact .head _ | refine .tail _ ?_) (by rfl) ?_)
        refine qf_mkS 3 [.int .i64 l0] rfl (by kernel_rfl) rfl (fun lt2 => ?_)
        (refine qf_nil ?_)
        exact hK1 _ _ (hS4_5_16 ⟨lt0, ap0, lt2, ()⟩ _ _ ⟨rfl, rfl, rfl, rfl, rfl, rfl, rfl, rfl, rfl, trivial⟩ (by repeat (first | exact Sp.nil | exact Sp.refl _ | refine Sp.cons (by repeat constructor) ?_)))
    refine qt_let (σ := Nat × Nat × Unit) (.alt (chainT [0, 5] (.alt (chainT [6, 11] (chainT [13, 14, 15, 16] (chainT [12, 17, 18, 19, 20] (.nil)))) (chainT [13, 14, 15, 16] (chainT [6, 11] (chainT [12, 17, 18, 19, 20] (.nil)))))) (chainT [13, 14, 15, 16] (chainT [0, 5] (chainT [6, 11] (chainT [12, 17, 18, 19, 20] (.nil)))))) (fun ⟨lt0, lt1, ()⟩ => [(1, .bool false), (2, .pointer (some ⟨b2, 0, none⟩)), (10, .int .i64 k), (11, .pointer (some ⟨b11, 0, none⟩)), (7, v1), (8, v2), (9, v3), (47, .slice (some ⟨lt0, 0, none⟩) 1 1), (53, .slice (some ⟨lt1, 0, none⟩) 1 1)]) (fun ⟨lt0, lt1, ()⟩ => [.ow v1 3 1 k (ints ((x.days.take k).map (·.n0))), .pt lt0 [.int .i64 n0] 3, .ow v2 3 1 k (ints ((x.days.take k).map (·.m1))), .pt lt1 [.int .i64 m1] 3, .ow v3 3 1 k (ints ((x.days.take k).map (·.l0)))]) ?_ (fun hS4_10 => ?_)
    · rintro ⟨lt0, lt1, _⟩
      refine qt_alt ?_ ?_
      · skip
        refine qt_seg (by repeat (first | exact PickL.nil | (apply PickL.cons; rfl))) fun K1 hK1 => ?_
        (refine qf_pure tabOk rfl rfl rfl ?_)
        refine qf_append (q := 1) slI rfl rfl rfl (fun v' => by repeat constructor) (fun w' hs => ⟨_, _, Blk.rd (hs.blk (b := lt0) (by repeat first | exact .head _ | refine .tail _ ?_)) rfl 1⟩) (by simp [oneV]) (by omega) (by omega) (fun ap0 => ?_)
        (refine qf_nil ?_)
        exact hK1 _ _ (hS4_5_10 ⟨lt0, ap0, lt1, ()⟩ _ _ ⟨rfl, rfl, rfl, rfl, rfl, rfl, rfl, rfl, rfl, trivial⟩ (by repeat (first | exact Sp.nil | exact Sp.refl _ | refine Sp.cons (by repeat constructor) ?_)))
      · skip
        refine qt_seg (by repeat (first | exact PickL.nil | (apply PickL.cons; rfl))) fun K1 hK1 => ?_
        ((iterate 2 refine qf_pure tabOk rfl rfl rfl ?_); refine qf_loadB tabOk rfl rfl rfl (by repeat first | exact .head _ | refine .tail _ ?_) (by rfl) ?_)
        refine qf_mkS 3 [.int .i64 l0] rfl (by kernel_rfl) rfl (fun lt2 => ?_)
        (refine qf_nil ?_)
        exact hK1 _ _ (hS4_10_16 ⟨lt0, lt1, lt2, ()⟩ _ _ ⟨rfl, rfl, rfl, rfl, rfl, rfl, rfl, rfl, rfl, rfl, trivial⟩ (by repeat (first | exact Sp.nil | exact Sp.refl _ | refine Sp.cons (by repeat constructor) ?_)))
    refine qt_let (σ := Nat × Nat × Unit) (.alt (chainT [0, 5] (chainT [7, 8, 9, 10] (chainT [6, 11] (chainT [12, 17, 18, 19, 20] (.nil))))) (chainT [7, 8, 9, 10] (chainT [0, 5] (chainT [6, 11] (chainT [12, 17, 18, 19, 20] (.nil)))))) (fun ⟨lt0, lt2, ()⟩ => [(1, .bool false), (2, .pointer (some ⟨b2, 0, none⟩)), (10, .int .i64 k), (11, .pointer (some ⟨b11, 0, none⟩)), (7, v1), (8, v2), (9, v3), (47, .slice (some ⟨lt0, 0, none⟩) 1 1), (59, .slice (some ⟨lt2, 0, none⟩) 1 1)]) (fun ⟨lt0, lt2, ()⟩ => [.ow v1 3 1 k (ints ((x.days.take k).map (·.n0))), .pt lt0 [.int .i64 n0] 3, .ow v2 3 1 k (ints ((x.days.take k).map (·.m1))), .ow v3 3 1 k (ints ((x.days.take k).map (·.l0))), .pt lt2 [.int .i64 l0] 3]) ?_ (fun hS4_16 => ?_)
    · rintro ⟨lt0, lt2, _⟩
      refine qt_alt ?_ ?_
      · skip
        refine qt_seg (by repeat (first | exact PickL.nil | (apply PickL.cons; rfl))) fun K1 hK1 => ?_
        (refine qf_pure tabOk rfl rfl rfl ?_)
        refine qf_append (q := 1) slI rfl rfl rfl (fun v' => by repeat constructor) (fun w' hs => ⟨_, _, Blk.rd (hs.blk (b := lt0) (by repeat first | exact .head _ | refine .tail _ ?_)) rfl 1⟩) (by simp [oneV]) (by omega) (by omega) (fun ap0 => ?_)
        (refine qf_nil ?_)
        exact hK1 _ _ (hS4_5_16 ⟨lt0, ap0, lt2, ()⟩ _ _ ⟨rfl, rfl, rfl, rfl, rfl, rfl, rfl, rfl, rfl, trivial⟩ (by repeat (first | exact Sp.nil | exact Sp.refl _ | refine Sp.cons (by repeat constructor) ?_)))
      · skip
        refine qt_seg (by repeat (first | exact PickL.nil | (apply PickL.cons; rfl))) fun K1 hK1 => ?_
        ((iterate 2 refine qf_pure tabOk rfl rfl rfl ?_); refine qf_loadB tabOk rfl rfl rfl (by repeat first | exact .head _ | refine .tail _ ?_) (by rfl) ?_)
        refine qf_mkS 3 [.int .i64 m1] rfl (by kernel_rfl) rfl (fun lt1 => ?_)
        (refine qf_nil ?_)
        exact hK1 _ _ (hS4_10_16 ⟨lt0, lt1, lt2, ()⟩ _ _ ⟨rfl, rfl, rfl, rfl, rfl, rfl, rfl, rfl, rfl, rfl, trivial⟩ (by repeat (first | exact Sp.nil | exact Sp.refl _ | refine Sp.cons (by repeat constructor) ?_)))
    refine qt_let (σ := Nat × Nat × Unit) (chainT [1, 2, 3, 4] (chainT [0, 5] (chainT [6, 11] (chainT [12, 17, 18, 19, 20] (.nil))))) (fun ⟨lt1, lt2, ()⟩ => [(1, .bool false), (2, .pointer (some ⟨b2, 0, none⟩)), (10, .int .i64 k), (11, .pointer (some ⟨b11, 0, none⟩)), (7, v1), (8, v2), (9, v3), (53, .slice (some ⟨lt1, 0, none⟩) 1 1), (59, .slice (some ⟨lt2, 0, none⟩) 1 1)]) (fun ⟨lt1, lt2, ()⟩ => [.ow v1 3 1 k (ints ((x.days.take k).map (·.n0))), .ow v2 3 1 k (ints ((x.days.take k).map (·.m1))), .pt lt1 [.int .i64 m1] 3, .ow v3 3 1 k (ints ((x.days.take k).map (·.l0))), .pt lt2 [.int .i64 l0] 3]) ?_ (fun hS10_16 => ?_)
    · rintro ⟨lt1, lt2, _⟩
      refine qt_seg (by repeat (first | exact PickL.nil | (apply PickL.cons; rfl))) fun K1 hK1 => ?_
      ((iterate 2 refine qf_pure tabOk rfl rfl rfl ?_); refine qf_loadB tabOk rfl rfl rfl (by repeat first | exact .head _ | refine .tail _ ?_) (by rfl) ?_)
      refine qf_mkS 3 [.int .i64 n0] rfl (by kernel_rfl) rfl (fun lt0 => ?_)
      (refine qf_nil ?_)
      exact hK1 _ _ (hS4_10_16 ⟨lt0, lt1, lt2, ()⟩ _ _ ⟨rfl, rfl, rfl, rfl, rfl, rfl, rfl, rfl, rfl, rfl, trivial⟩ (by repeat (first | exact Sp.nil | exact Sp.refl _ | refine Sp.cons (by repeat constructor) ?_)))
    refine qt_let (σ := Nat × Unit) (.alt (chainT [0, 5] (.alt (chainT [7, 8, 9, 10] (.alt (chainT [6, 11] (chainT [13, 14, 15, 16] (chainT [12, 17, 18, 19, 20] (.nil)))) (chainT [13, 14, 15, 16] (chainT [6, 11] (chainT [12, 17, 18, 19, 20] (.nil)))))) (chainT [13, 14, 15, 16] (chainT [7, 8, 9, 10] (chainT [6, 11] (chainT [12, 17, 18, 19, 20] (.nil))))))) (.alt (chainT [7, 8, 9, 10] (.alt (chainT [0, 5] (.alt (chainT [6, 11] (chainT [13, 14, 15, 16] (chainT [12, 17, 18, 19, 20] (.nil)))) (chainT [13, 14, 15, 16] (chainT [6, 11] (chainT [12, 17, 18, 19, 20] (.nil)))))) (chainT [13, 14, 15, 16] (chainT [0, 5] (chainT [6, 11] (chainT [12, 17, 18, 19, 20] (.nil))))))) (chainT [13, 14, 15, 16] (.alt (chainT [0, 5] (chainT [7, 8, 9, 10] (chainT [6, 11] (chainT [12, 17, 18, 19, 20] (.nil))))) (chainT [7, 8, 9, 10] (chainT [0, 5] (chainT [6, 11] (chainT [12, 17, 18, 19, 20] (.nil))))))))) (fun ⟨lt0, ()⟩ => [(1, .bool false), (2, .pointer (some ⟨b2, 0, none⟩)), (10, .int .i64 k), (11, .pointer (some ⟨b11, 0, none⟩)), (7, v1), (8, v2), (9, v3), (47, .slice (some ⟨lt0, 0, none⟩) 1 1)]) (fun ⟨lt0, ()⟩ => [.ow v1 3 1 k (ints ((x.days.take k).map (·.n0))), .pt lt0 [.int .i64 n0] 3, .ow v2 3 1 k (ints ((x.days.take k).map (·.m1))), .ow v3 3 1 k (ints ((x.days.take k).map (·.l0)))]) ?_ (fun hS4 => ?_)
    · rintro ⟨lt0, _⟩
      refine qt_alt ?_ (qt_alt ?_ ?_)
      · skip
        refine qt_seg (by repeat (first | exact PickL.nil | (apply PickL.cons; rfl))) fun K1 hK1 => ?_
        (refine qf_pure tabOk rfl rfl rfl ?_)
        refine qf_append (q := 1) slI rfl rfl rfl (fun v' => by repeat constructor) (fun w' hs => ⟨_, _, Blk.rd (hs.blk (b := lt0) (by repeat first | exact .head _ | refine .tail _ ?_)) rfl 1⟩) (by simp [oneV]) (by omega) (by omega) (fun ap0 => ?_)
        (refine qf_nil ?_)
        exact hK1 _ _ (hS4_5 ⟨lt0, ap0, ()⟩ _ _ ⟨rfl, rfl, rfl, rfl, rfl, rfl, rfl, rfl, trivial⟩ (by repeat (first | exact Sp.nil | exact Sp.refl _ | refine Sp.cons (by repeat constructor) ?_)))
      · skip
        refine qt_seg (by repeat (first | exact PickL.nil | (apply PickL.cons; rfl))) fun K1 hK1 => ?_
        ((iterate 2 refine qf_pure tabOk rfl rfl rfl ?_); refine qf_loadB tabOk rfl rfl rfl (by repeat first | exact .head _ | refine .tail _ ?_) (by rfl) ?_)
        refine qf_mkS 3 [.int .i64 m1] rfl (by kernel_rfl) rfl (fun lt1 => ?_)
        (refine qf_nil ?_)
        exact hK1 _ _ (hS4_10 ⟨lt0, lt1, ()⟩ _ _ ⟨rfl, rfl, rfl, rfl, rfl, rfl, rfl, rfl, rfl, trivial⟩ (by repeat (first | exact Sp.nil | exact Sp.refl _ | refine Sp.cons (by repeat constructor) ?_)))
      · skip
        refine qt_seg (by repeat (first | exact PickL.nil | (apply PickL.cons; rfl))) fun K1 hK1 => ?_
        ((iterate 2 refine qf_pure tabOk rfl rfl rfl ?_); refine qf_loadB tabOk rfl rfl rfl (by repeat first | exact .head _ | refine .tail _ ?_) (by rfl) ?_)
        refine qf_mkS 3 [.int .i64 l0] rfl (by kernel_rfl) rfl (fun lt2 => ?_)
        (refine qf_nil ?_)
        exact hK1 _ _ (hS4_16 ⟨lt0, lt2, ()⟩ _ _ ⟨rfl, rfl, rfl, rfl, rfl, rfl, rfl, rfl, rfl, trivial⟩ (by repeat (first | exact Sp.nil | exact Sp.refl _ | refine Sp.cons (by repeat constructor) ?_)))
    refine qt_let (σ := Nat × Unit) (.alt (chainT [1, 2, 3, 4] (.alt (chainT [0, 5] (.alt (chainT [6, 11] (chainT [13, 14, 15, 16] (chainT [12, 17, 18, 19, 20] (.nil)))) (chainT [13, 14, 15, 16] (chainT [6, 11] (chainT [12, 17, 18, 19, 20] (.nil)))))) (chainT [13, 14, 15, 16] (chainT [0, 5] (chainT [6, 11] (chainT [12, 17, 18, 19, 20] (.nil))))))) (chainT [13, 14, 15, 16] (chainT [1, 2, 3, 4] (chainT [0, 5] (chainT [6, 11] (chainT [12, 17, 18, 19, 20] (.nil))))))) (fun ⟨lt1, ()⟩ => [(1, .bool false), (2, .pointer (some ⟨b2, 0, none⟩)), (10, .int .i64 k), (11, .pointer (some ⟨b11, 0, none⟩)), (7, v1), (8, v2), (9, v3), (53, .slice (some ⟨lt1, 0, none⟩) 1 1)]) (fun ⟨lt1, ()⟩ => [.ow v1 3 1 k (ints ((x.days.take k).map (·.n0))), .ow v2 3 1 k (ints ((x.days.take k).map (·.m1))), .pt lt1 [.int .i64 m1] 3, .ow v3 3 1 k (ints ((x.days.take k).map (·.l0)))]) ?_ (fun hS10 => ?_)
    · rintro ⟨lt1, _⟩
      refine qt_alt ?_ ?_
      · skip
        refine qt_seg (by repeat (first | exact PickL.nil | (apply PickL.cons; rfl))) fun K1 hK1 => ?_
        ((iterate 2 refine qf_pure tabOk rfl rfl rfl ?_); refine qf_loadB tabOk rfl rfl rfl (by repeat first | exact .head _ | refine .tail _ ?_) (by rfl) ?_)
        refine qf_mkS 3 [.int .i64 n0] rfl (by kernel_rfl) rfl (fun lt0 => ?_)
        (refine qf_nil ?_)
        exact hK1 _ _ (hS4_10 ⟨lt0, lt1, ()⟩ _ _ ⟨rfl, rfl, rfl, rfl, rfl, rfl, rfl, rfl, rfl, trivial⟩ (by repeat (first | exact Sp.nil | exact Sp.refl _ | refine Sp.cons (by repeat constructor) ?_)))
      · skip
        refine qt_seg (by repeat (first | exact PickL.nil | (apply PickL.cons; rfl))) fun K1 hK1 => ?_
        ((iterate 2 refine qf_pure tabOk rfl rfl rfl ?_); refine qf_loadB tabOk rfl rfl rfl (by repeat first | exact .head _ | refine .tail _ ?_) (by rfl) ?_)
        refine qf_mkS 3 [.int .i64 l0] rfl (by kernel_rfl) rfl (fun lt2 => ?_)
        (refine qf_nil ?_)
        exact hK1 _ _ (hS10_16 ⟨lt1, lt2, ()⟩ _ _ ⟨rfl, rfl, rfl, rfl, rfl, rfl, rfl, rfl, rfl, trivial⟩ (by repeat (first | exact Sp.nil | exact Sp.refl _ | refine Sp.cons (by repeat constructor) ?_)))
    refine qt_let (σ := Nat × Unit) (.alt (chainT [1, 2, 3, 4] (.alt (chainT [0, 5] (chainT [7, 8, 9, 10] (chainT [6, 11] (chainT [12, 17, 18, 19, 20] (.nil))))) (chainT [7, 8, 9, 10] (chainT [0, 5] (chainT [6, 11] (chainT [12, 17, 18, 19, 20] (.nil))))))) (chainT [7, 8, 9, 10] (chainT [1, 2, 3, 4] (chainT [0, 5] (chainT [6, 11] (chainT [12, 17, 18, 19, 20] (.nil))))))) (fun ⟨lt2, ()⟩ => [(1, .bool false), (2, .pointer (some ⟨b2, 0, none⟩)), (10, .int .i64 k), (11, .pointer (some ⟨b11, 0, none⟩)), (7, v1), (8, v2), (9, v3), (59, .slice (some ⟨lt2, 0, none⟩) 1 1)]) (fun ⟨lt2, ()⟩ => [.ow v1 3 1 k (ints ((x.days.take k).map (·.n0))), .ow v2 3 1 k (ints ((x.days.take k).map (·.m1))), .ow v3 3 1 k (ints ((x.days.take k).map (·.l0))), .pt lt2 [.int .i64 l0] 3]) ?_ (fun hS16 => ?_)
    · rintro ⟨lt2, _⟩
      refine qt_alt ?_ ?_
      · skip
        refine qt_seg (by repeat (first | exact PickL.nil | (apply PickL.cons; rfl))) fun K1 hK1 => ?_
        ((iterate 2 refine qf_pure tabOk rfl rfl rfl ?_); refine qf_loadB tabOk rfl rfl rfl (by repeat first | exact .head _ | refine .tail _ ?_) (by rfl) ?_)
        refine qf_mkS 3 [.int .i64 n0] rfl (by kernel_rfl) rfl (fun lt0 => ?_)
        (refine qf_nil ?_)
        exact hK1 _ _ (hS4_16 ⟨lt0, lt2, ()⟩ _ _ ⟨rfl, rfl, rfl, rfl, rfl, rfl, rfl, rfl, rfl, trivial⟩ (by repeat (first | exact Sp.nil | exact Sp.refl _ | refine Sp.cons (by repeat constructor) ?_)))
      · skip
        refine qt_seg (by repeat (first | exact PickL.nil | (apply PickL.cons; rfl))) fun K1 hK1 => ?_
        ((iterate 2 refine qf_pure tabOk rfl rfl rfl ?_); refine qf_loadB tabOk rfl rfl rfl (by repeat first | exact .head _ | refine .tail _ ?_) (by rfl) ?_)
        refine qf_mkS 3 [.int .i64 m1] rfl (by kernel_rfl) rfl (fun lt1 => ?_)
        (refine qf_nil ?_)
        exact hK1 _ _ (hS10_16 ⟨lt1, lt2, ()⟩ _ _ ⟨rfl, rfl, rfl, rfl, rfl, rfl, rfl, rfl, rfl, trivial⟩ (by repeat (first | exact Sp.nil | exact Sp.refl _ | refine Sp.cons (by repeat constructor) ?_)))
    refine qt_alt ?_ (qt_alt ?_ ?_)
    · skip
      refine qt_seg (by repeat (first | exact PickL.nil | (apply PickL.cons; rfl))) fun K1 hK1 => ?_
      ((iterate 2 refine qf_pure tabOk rfl rfl rfl ?_); refine qf_loadB tabOk rfl rfl rfl (by repeat first | exact .head _ | refine .tail _ ?_) (by rfl) ?_)
      refine qf_mkS 3 [.int .i64 n0] rfl (by kernel_rfl) rfl (fun lt0 => ?_)
      (refine qf_nil ?_)
      exact hK1 _ _ (hS4 ⟨lt0, ()⟩ _ _ ⟨rfl, rfl, rfl, rfl, rfl, rfl, rfl, rfl, trivial⟩ (by repeat (first | exact Sp.nil | exact Sp.refl _ | refine Sp.cons (by repeat constructor) ?_)))
    · skip
      refine qt_seg (by repeat (first | exact PickL.nil | (apply PickL.cons; rfl))) fun K1 hK1 => ?_
      ((iterate 2 refine qf_pure tabOk rfl rfl rfl ?_); refine qf_loadB tabOk rfl rfl rfl (by repeat first | exact .head _ | refine .tail _ ?_) (by rfl) ?_)
      refine qf_mkS 3 [.int .i64 m1] rfl (by kernel_rfl) rfl (fun lt1 => ?_)
      (refine qf_nil ?_)
      exact hK1 _ _ (hS10 ⟨lt1, ()⟩ _ _ ⟨rfl, rfl, rfl, rfl, rfl, rfl, rfl, rfl, trivial⟩ (by repeat (first | exact Sp.nil | exact Sp.refl _ | refine Sp.cons (by repeat constructor) ?_)))
    · skip
      refine qt_seg (by repeat (first | exact PickL.nil | (apply PickL.cons; rfl))) fun K1 hK1 => ?_
      ((iterate 2 refine qf_pure tabOk rfl rfl rfl ?_); refine qf_loadB tabOk rfl rfl rfl (by repeat first | exact .head _ | refine .tail _ ?_) (by rfl) ?_)
      refine qf_mkS 3 [.int .i64 l0] rfl (by kernel_rfl) rfl (fun lt2 => ?_)
      (refine qf_nil ?_)
      exact hK1 _ _ (hS16 ⟨lt2, ()⟩ _ _ ⟨rfl, rfl, rfl, rfl, rfl, rfl, rfl, rfl, trivial⟩ (by repeat (first | exact Sp.nil | exact Sp.refl _ | refine Sp.cons (by repeat constructor) ?_)))
  · obtain rfl : k = x.days.length := by omega
    clear hc hK
    (refine q_exit _ rfl ?_; refine q_seq ?_; refine q_region ?_; (iterate 6 refine ql_pure tabOk rfl rfl ?_); refine q_nil ?_; refine q_ret ?_)
    refine q_fin tabOk rfl (by repeat (first | exact RVs.nil | apply RVs.tmp rfl | apply RVs.cellA rfl rfl (by repeat first | exact .head _ | refine .tail _ ?_) (by rfl) | apply RVs.cell1 rfl rfl (by repeat first | exact .head _ | refine .tail _ ?_))) fun w hs => ?_
    exact ⟨(v1, v2, v3), rfl, by rw [List.take_length] at hs; exact hs.sp (by repeat (first | exact Sp.nil | exact Sp.refl _ | refine Sp.cons (by repeat constructor) ?_))⟩
end Go.Proofs.Ytgeajgmefokifaa

/- Walks: winters and weathers compared that are equal. -/
namespace Go.Proofs.Ytgeajgmefokifaa
open Go Go.Eng

theorem sameW_ca (w : World) (lo hi lo2 hi2 : Nat) (x : Wn) (a b : Option Addr) (c d : Nat) (h1 : RdD w lo hi (.slice a x.days.length c) x.days) (h2 : RdD w lo2 hi2 (.slice b x.days.length d) x.days) (hlen : x.days.length ≤ 1000000) :
    Ca Try.prog 60 [.agg (wnC x a c).toArray, .agg (wnC x b d).toArray] w fun r w' => r = .bool true ∧ Chg [] w w' := by
  refine q_of (Sat.nil w M0) Try.func60 rfl (by simp [Try.ntmps60]) ?_
  (refine q_seq ?_; refine q_region ?_)
  refine ql_box rfl rfl (fun b2 => ?_)
  refine ql_box rfl rfl (fun b3 => ?_)
  (refine ql_pure tabOk rfl rfl ?_; refine q_nil ?_; refine q_seq ?_; refine q_region ?_; refine ql_pure tabOk rfl rfl ?_; refine ql_loadB tabOk rfl rfl rfl (by repeat first | exact .head _ | refine .tail _ ?_) (by rfl) ?_; refine ql_pure tabOk rfl rfl ?_; refine ql_loadB tabOk rfl rfl rfl (by repeat first | exact .head _ | refine .tail _ ?_) (by rfl) ?_; refine ql_eqlT tabOk rfl rfl rfl (by omega) ?_; refine ql_pure tabOk rfl rfl ?_; refine ql_gyes rfl ?_; refine ql_pure tabOk rfl rfl ?_; refine ql_gyes rfl ?_; refine ql_loadB tabOk rfl rfl rfl (by repeat first | exact .head _ | refine .tail _ ?_) (by rfl) ?_; refine ql_gyes rfl ?_; refine ql_pure tabOk rfl rfl ?_; refine ql_gyes rfl ?_; refine ql_loadB tabOk rfl rfl rfl (by repeat first | exact .head _ | refine .tail _ ?_) (by rfl) ?_; refine ql_gyes rfl ?_; refine ql_eqlT tabOk rfl rfl rfl (by omega) ?_; (iterate 2 refine ql_pure tabOk rfl rfl ?_); refine ql_gyes rfl ?_; refine ql_pure tabOk rfl rfl ?_; refine ql_gyes rfl ?_; refine ql_loadB tabOk rfl rfl rfl (by repeat first | exact .head _ | refine .tail _ ?_) (by rfl) ?_; refine ql_gyes rfl ?_; refine ql_pure tabOk rfl rfl ?_; refine ql_gyes rfl ?_; refine ql_loadB tabOk rfl rfl rfl (by repeat first | exact .head _ | refine .tail _ ?_) (by rfl) ?_; refine ql_gyes rfl ?_)
  refine ql_callv (val := .bool true) tabOk rfl rfl rfl rfl (fun w hs => ?_) ?_; exact eqD_ca w lo hi lo2 hi2 _ _ x.days (RdE.keep h1 hs.chg0) (RdE.keep h2 hs.chg0) hlen
  ((iterate 2 refine ql_pure tabOk rfl rfl ?_); refine q_nil ?_; refine q_ret ?_)
  refine q_fin tabOk rfl (by repeat (first | exact RVs.nil | apply RVs.tmp rfl | apply RVs.cellA rfl rfl (by repeat first | exact .head _ | refine .tail _ ?_) (by rfl) | apply RVs.cell1 rfl rfl (by repeat first | exact .head _ | refine .tail _ ?_))) fun w hs => ?_
  exact ⟨rfl, hs.chg0⟩
end Go.Proofs.Ytgeajgmefokifaa

/- Winters that are copied, and whose days are changed. -/
namespace Go.Proofs.Ytgeajgmefokifaa
open Go Go.Eng

/-! The cells of days -/
def fldD (d : Dy) : Nat → Int
  | 0 => d.n0
  | 1 => d.n1
  | 2 => d.m0
  | 3 => d.m1
  | 4 => d.l0
  | _ => d.l1
def setD (d : Dy) (f : Nat) (v : Int) : Dy :=
  match f with
  | 0 => { d with n0 := v }
  | 1 => { d with n1 := v }
  | 2 => { d with m0 := v }
  | 3 => { d with m1 := v }
  | 4 => { d with l0 := v }
  | _ => { d with l1 := v }
/-- Days in a block, with room behind them. -/
abbrev dyB (g : Nat) (l : List Dy) (sp : List Value) : Ck := .pt g (dyC l ++ sp) 73
section
variable {P : Program} {T : Tab} {ro : Cx} {n : Nat} {F : Fin} {w0 : World} {M : Nat → Prop} {k : List It} {ops : Array Oper} {rest : List Oper} {e : Env} {H Hq : List Ck}
end
/-! Copies -/
theorem cloneD_ca (w : World) (lo hi : Nat) (v : Value) (l : List Dy) (h : RdD w lo hi v l) (hlen : l.length ≤ 1000000) : Ca Try.prog 106 [v] w fun r w' => ∃ u : Value, r = u ∧ Sat w M0 [.ow u 73 6 l.length (dyC l)] w' := by
  obtain ⟨a, ca, rfl, _⟩ := RdD.outI h
  refine q_of (Sat.nil w M0) Try.func106 rfl (by simp [Try.ntmps106]) ?_
  (refine q_seq ?_; refine q_region ?_; refine ql_pure tabOk rfl rfl ?_; refine q_nil ?_; refine q_seq ?_; refine q_region ?_; refine ql_pure tabOk rfl rfl ?_)
  refine ql_conv (H' := [.ow (.slice none 0 0) 73 6 0 []]) (fun w' hs => Sat.ownil hs 73 6) ?_
  refine ql_append (q := l.length) slD rfl rfl rfl (fun v' => by repeat constructor) (fun w' hs => ⟨lo, hi, RdD.row (RdE.keep h hs.chg0)⟩) (dyC_one l) (by omega) (by omega) (fun u => ?_)
  (refine ql_pure tabOk rfl rfl ?_; refine q_nil ?_; refine q_ret ?_)
  refine q_fin tabOk rfl (by repeat (first | exact RVs.nil | apply RVs.tmp rfl | apply RVs.cellA rfl rfl (by repeat first | exact .head _ | refine .tail _ ?_) (by rfl) | apply RVs.cell1 rfl rfl (by repeat first | exact .head _ | refine .tail _ ?_))) fun w hs => ?_
  exact ⟨u, rfl, by simpa using hs⟩
theorem cloneW_ca (w : World) (lo hi : Nat) (x : Wn) (a : Option Addr) (c : Nat) (h : RdD w lo hi (.slice a x.days.length c) x.days) (hlen : x.days.length ≤ 1000000) :
    Ca Try.prog 41 [.agg (wnC x a c).toArray] w fun r w' => ∃ y : Option Addr × Nat, r = .agg (wnC x y.1 y.2).toArray ∧ Sat w M0 [.ow (.slice y.1 x.days.length y.2) 73 6 x.days.length (dyC x.days)] w' := by
  refine q_of (Sat.nil w M0) Try.func41 rfl (by simp [Try.ntmps41]) ?_
  (refine q_seq ?_; refine q_region ?_)
  refine ql_box rfl rfl (fun b1 => ?_)
  refine ql_alloc zero61 rfl (fun b2 => ?_)
  (refine q_nil ?_; refine q_seq ?_)
  refine q_draw _ [.pt b2 _ _] (Sp.cons (by repeat constructor) (Sp.refl _)) (by kernel_rfl) (by kernel_rfl) ?_
  (refine qf_pure tabOk rfl rfl rfl ?_; refine qf_loadB tabOk rfl rfl rfl (by repeat first | exact .head _ | refine .tail _ ?_) (by rfl) ?_; refine qf_pure tabOk rfl rfl rfl ?_; refine qf_loadB tabOk rfl rfl rfl (by repeat first | exact .head _ | refine .tail _ ?_) (by rfl) ?_; refine qf_pure tabOk rfl rfl rfl ?_; refine qf_loadB tabOk rfl rfl rfl (by repeat first | exact .head _ | refine .tail _ ?_) (by rfl) ?_)
  refine qf_call (β := Value) tabOk [] _ M0 rfl rfl rfl rfl (Sp.refl _) (fun _ h => h.elim) (fun w' hs => cloneD_ca w' lo hi _ x.days (RdE.keep h hs.chg0) hlen) ?_
  rintro _ u rfl
  dsimp only [List.cons_append, List.nil_append]
  refine qf_fact (fun w hs => hs.slice2 (v := u) (by repeat first | exact .head _ | refine .tail _ ?_)) ?_
  rintro ⟨ua, uc, rfl⟩
  skip
  refine qf_mk #[.int .i64 x.stock, .int .i64 x.store, .slice ua x.days.length uc] rfl (by kernel_rfl) rfl ?_
  (refine qf_setA tabOk rfl rfl rfl rfl rfl (by repeat constructor) rfl ?_; refine qf_nil ?_; refine q_ret ?_)
  refine q_fin tabOk rfl (by repeat (first | exact RVs.nil | apply RVs.tmp rfl | apply RVs.cellA rfl rfl (by repeat first | exact .head _ | refine .tail _ ?_) (by rfl) | apply RVs.cell1 rfl rfl (by repeat first | exact .head _ | refine .tail _ ?_))) fun w hs => ?_
  exact ⟨(ua, uc), rfl, hs.sp (by repeat (first | exact Sp.nil | exact Sp.refl _ | refine Sp.cons (by repeat constructor) ?_))⟩
end Go.Proofs.Ytgeajgmefokifaa

/- Walks: a weather copied. -/
namespace Go.Proofs.Ytgeajgmefokifaa
open Go Go.Eng

end Go.Proofs.Ytgeajgmefokifaa

/- Walk: a winter of the reference. -/
namespace Go.Proofs.Ytgeajgmefokifaa
open Go Go.Eng

theorem slDr : SlT Try.prog 91 176 6 48 (.agg #[.int .i64 0, .int .i64 0, .int .i64 0, .int .i64 0, .int .i64 0, .int .i64 0]) := ⟨by kernel_rfl, by kernel_rfl, by kernel_rfl, by decide⟩
theorem dyC_take (l : List Dy) {k : Nat} (h : k < l.length) : dyC (l.take (k + 1)) = dyC (l.take k) ++ dyC [l[k]] := by
  rw [List.take_succ_eq_append_getElem h]
  exact dyC_snoc _ _
set_option maxHeartbeats 2000000 in
theorem rwin_ca (w : World) (lo hi : Nat) (x : Wn) (a : Option Addr) (c : Nat) (h : RdD w lo hi (.slice a x.days.length c) x.days) (hlen : x.days.length ≤ 1000000) :
    Ca Try.prog 51 [.agg (wnC x a c).toArray] w fun r w' => ∃ y : Option Addr × Nat, r = .agg (wnC x y.1 y.2).toArray ∧ Sat w M0 [.ow (.slice y.1 x.days.length y.2) 176 6 x.days.length (dyC x.days)] w' := by
  obtain ⟨a', c', he, hsa⟩ := RdD.outI h
  cases he
  refine q_of (Sat.nil w M0) Try.func51 rfl (by simp [Try.ntmps51]) ?_
  (refine q_seq ?_; refine q_region ?_)
  refine ql_box rfl rfl (fun b1 => ?_)
  refine ql_alloc zero93 rfl (fun b2 => ?_)
  (refine q_nil ?_; refine q_seq ?_; refine q_region ?_; refine ql_pure tabOk rfl rfl ?_; refine ql_loadB tabOk rfl rfl rfl (by repeat first | exact .head _ | refine .tail _ ?_) (by rfl) ?_; refine ql_pure tabOk rfl rfl ?_; refine ql_loadB tabOk rfl rfl rfl (by repeat first | exact .head _ | refine .tail _ ?_) (by rfl) ?_)
  refine ql_mk #[.int .i64 x.stock, .int .i64 x.store, .slice none 0 0] rfl (by kernel_rfl) rfl ?_
  skip
  refine ql_alloc zero93 rfl (fun b3 => ?_)
  (refine ql_setA tabOk rfl rfl rfl rfl rfl (by repeat constructor) rfl ?_; refine q_nil ?_; (iterate 2 refine q_seq ?_); refine q_region ?_; refine ql_pure tabOk rfl rfl ?_; refine ql_loadB tabOk rfl rfl rfl (by repeat first | exact .head _ | refine .tail _ ?_) (by rfl) ?_; (iterate 2 refine ql_pure tabOk rfl rfl ?_); refine q_nil ?_; refine q_block ?_)
  refine q_conv (H' := [.pt b3 [.int .i64 x.stock, .int .i64 x.store, .slice none 0 0] 93, .ow (.slice none 0 0) 176 6 0 (dyC []), .pt b1 (wnC x a c) 61, .pt b2 [.int .i64 0, .int .i64 0, .slice none 0 0] 93]) (fun w' hs => (Sat.ownil hs 176 6).sp (by repeat (first | exact Sp.nil | exact Sp.refl _ | refine Sp.cons (by repeat constructor) ?_))) ?_
  refine q_loop (σ := Nat × Value) (fun s => s.1 ≤ x.days.length) (fun s => x.days.length - s.1) (fun s => [(2, .pointer (some ⟨b2, 0, none⟩)), (3, .pointer (some ⟨b3, 0, none⟩)), (12, .slice a x.days.length c), (13, .int .i64 x.days.length), (14, .int .i64 s.1)])
    (fun s => [.pt b3 [.int .i64 x.stock, .int .i64 x.store, s.2] 93, .ow s.2 176 6 s.1 (dyC (x.days.take s.1)), .pt b1 (wnC x a c) 61, .pt b2 [.int .i64 0, .int .i64 0, .slice none 0 0] 93]) (0, .slice none 0 0) (by simp) ⟨rfl, rfl, rfl, rfl, rfl, trivial⟩ (by repeat (first | exact Sp.nil | exact Sp.refl _ | refine Sp.cons (by repeat constructor) ?_)) ?_
  rintro ⟨k, dv⟩ hk K hK
  simp only at hk
  dsimp only
  (refine q_seq ?_; refine q_region ?_; refine ql_pure tabOk rfl rfl ?_; refine q_nil ?_; refine q_seq ?_)
  refine q_if rfl (fun hc => ?_) (fun hc => ?_)
  · have hk2 : k < x.days.length := by first | omega | (simp at hc; omega)
    clear hc
    obtain ⟨b, off, rfl⟩ := hsa (by omega)
    have e1 := dyC_take x.days hk2
    (refine q_skip ?_; refine q_seq ?_; refine q_block ?_; refine q_seq ?_; refine q_region ?_)
    refine ql_index tabOk rfl rfl rfl rfl rfl (by omega) (by omega) ?_
    skip
    refine ql_loadA tabOk rfl rfl rfl rfl (fun w hs => RdD.at (RdE.keep h hs.chg0) k hk2) ?_
    skip
    refine ql_alloc zero73 rfl (fun b5 => ?_)
    (refine ql_setA tabOk rfl rfl rfl rfl rfl (by repeat constructor) rfl ?_; refine q_nil ?_; refine q_region ?_; refine ql_pure tabOk rfl rfl ?_; refine ql_loadB tabOk rfl rfl rfl (by repeat first | exact .head _ | refine .tail _ ?_) (by rfl) ?_; refine ql_loadAB tabOk rfl rfl rfl (by repeat first | exact .head _ | refine .tail _ ?_) (by rfl) (by rfl) ?_)
    generalize x.days[k] = d at *
    obtain ⟨n0, n1, m0, m1, l0, l1⟩ := d
    dsimp only at e1 ⊢
    refine ql_mkS 176 (dyC [⟨n0, n1, m0, m1, l0, l1⟩]) rfl (by kernel_rfl) rfl (fun bn => ?_)
    refine ql_append (q := 1) slDr rfl rfl rfl (fun v' => by repeat constructor) (fun w' hs => ⟨_, _, Blk.rdDy (hs.blk (b := bn) (by repeat first | exact .head _ | refine .tail _ ?_))⟩) (dyC_one _) (by omega) (by omega) (fun u => ?_)
    refine ql_fact (fun w hs => hs.slice (v := u) (by repeat first | exact .head _ | refine .tail _ ?_)) ?_
    rintro ⟨a1, g1, d1, rfl⟩
    (refine ql_pure tabOk rfl rfl ?_; refine ql_st2 tabOk rfl rfl rfl rfl (by repeat constructor) ?_; refine q_nil ?_; refine q_blk ?_; refine q_region ?_; refine ql_ar tabOk rfl rfl rfl rfl (by omega) (by omega) ?_; refine ql_pure tabOk rfl rfl ?_; refine q_nil ?_)
    exact hK (k + 1, .slice a1 g1 d1) _ _ (by simp only; omega) (by simp only; omega) ⟨rfl, rfl, rfl, rfl, rfl, trivial⟩ (by dsimp only; rw [e1]; repeat (first | exact Sp.nil | exact Sp.refl _ | refine Sp.cons (by repeat constructor) ?_))
  · obtain rfl : k = x.days.length := by omega
    clear hc hK
    rw [List.take_length]
    refine q_fact (fun w hs => hs.slice2 (v := dv) (by repeat first | exact .head _ | refine .tail _ ?_)) ?_
    rintro ⟨ua, uc, rfl⟩
    (refine q_exit _ rfl ?_; refine q_seq ?_; refine q_region ?_; refine ql_loadAB tabOk rfl rfl rfl (by repeat first | exact .head _ | refine .tail _ ?_) (by rfl) (by rfl) ?_; refine ql_setA tabOk rfl rfl rfl rfl rfl (by repeat constructor) rfl ?_; refine q_nil ?_; refine q_ret ?_)
    refine q_fin tabOk rfl (by repeat (first | exact RVs.nil | apply RVs.tmp rfl | apply RVs.cellA rfl rfl (by repeat first | exact .head _ | refine .tail _ ?_) (by rfl) | apply RVs.cell1 rfl rfl (by repeat first | exact .head _ | refine .tail _ ?_))) fun w hs => ?_
    exact ⟨(ua, uc), rfl, hs.sp (by repeat (first | exact Sp.nil | exact Sp.refl _ | refine Sp.cons (by repeat constructor) ?_))⟩
end Go.Proofs.Ytgeajgmefokifaa

/- Walks: whether there are too many days, or numbers. -/
namespace Go.Proofs.Ytgeajgmefokifaa
open Go Go.Eng

def longB (n : Nat) (ll : List (List Int)) : Bool := (ll.any fun l => decide (70 < l.length) && true) || (decide (65 < n) && true)
theorem longB_no {n : Nat} {ll : List (List Int)} (h : longB n ll = false) : n ≤ 65 ∧ ∀ l ∈ ll, l.length ≤ 70 := by
  simp only [longB, Bool.and_true, Bool.or_eq_false_iff, List.any_eq_false, decide_eq_true_eq, decide_eq_false_iff_not] at h
  exact ⟨by omega, fun l hl => by have := h.1 l hl; omega⟩
set_option maxHeartbeats 1000000 in
theorem longW_ca (w : World) (lo hi : Nat) (x : Wn) (a : Option Addr) (c : Nat) (v : Value) (ll : List (List Int)) (h : RdII w lo hi v ll) (hlen : ll.length ≤ 1000) (hrow : ∀ l ∈ ll, l.length ≤ maxLen) (hx : x.days.length ≤ maxLen) :
    Ca Try.prog 50 [.agg (wnC x a c).toArray, v] w fun r w' => r = .bool (longB x.days.length ll) ∧ Chg [] w w' := by
  obtain ⟨la, lc, rfl, hsa⟩ := RdII.outI h
  simp only [maxLen] at hrow hx
  refine q_of (Sat.nil w M0) Try.func50 rfl (by simp [Try.ntmps50]) ?_
  (refine q_seq ?_; refine q_region ?_)
  refine ql_box rfl rfl (fun b2 => ?_)
  (refine ql_pure tabOk rfl rfl ?_; refine q_nil ?_; (iterate 2 refine q_seq ?_); refine q_region ?_; (iterate 3 refine ql_pure tabOk rfl rfl ?_); refine q_nil ?_; refine q_block ?_)
  refine q_loop (σ := Nat) (fun k => k ≤ ll.length ∧ ∀ l ∈ ll.take k, l.length ≤ 70) (fun k => ll.length - k) (fun k => [(2, .pointer (some ⟨b2, 0, none⟩)), (7, .slice la ll.length lc), (8, .int .i64 ll.length), (9, .int .i64 k)]) (fun _ => [.pt b2 (wnC x a c) 61]) 0 ⟨by omega, by simp⟩ ⟨rfl, rfl, rfl, rfl, trivial⟩ (by repeat (first | exact Sp.nil | exact Sp.refl _ | refine Sp.cons (by repeat constructor) ?_)) ?_
  rintro k ⟨hk, hall⟩ K hK
  (refine q_seq ?_; refine q_region ?_; refine ql_pure tabOk rfl rfl ?_; refine q_nil ?_; refine q_seq ?_)
  refine q_if rfl (fun hc => ?_) (fun hc => ?_)
  · have hk2 : k < ll.length := by omega
    clear hc
    obtain ⟨b, off, rfl⟩ := hsa (by omega)
    obtain ⟨ra, rc, hr, hcell⟩ := h.row k hk2
    have hl := hrow _ (List.getElem_mem hk2)
    (refine q_skip ?_; refine q_seq ?_; refine q_block ?_; refine q_seq ?_; refine q_region ?_)
    refine ql_index tabOk rfl rfl rfl rfl rfl (by omega) (by omega) ?_
    refine ql_load1 (v := .slice ra ll[k].length rc) tabOk rfl rfl rfl (fun w' hs => hcell w' hs.chg0) ?_
    (refine ql_pure tabOk rfl rfl ?_; refine q_nil ?_; refine q_seq ?_; refine q_region ?_; (iterate 3 refine ql_pure tabOk rfl rfl ?_); refine q_nil ?_)
    refine q_if rfl (fun hc => ?_) (fun hc => ?_)
    · have e : longB x.days.length ll = true := by
        unfold longB
        rw [List.any_eq_true.2 ⟨ll[k], List.getElem_mem hk2, by simp; omega⟩]
        rfl
      (refine q_seq ?_; refine q_region ?_; refine ql_pure tabOk rfl rfl ?_; refine q_nil ?_; refine q_ret ?_)
      refine q_fin tabOk rfl (by repeat (first | exact RVs.nil | apply RVs.tmp rfl | apply RVs.cellA rfl rfl (by repeat first | exact .head _ | refine .tail _ ?_) (by rfl) | apply RVs.cell1 rfl rfl (by repeat first | exact .head _ | refine .tail _ ?_))) fun w hs => ?_
      exact ⟨by rw [e]; rfl, hs.chg0⟩
    · (refine q_skip ?_; refine q_blk ?_; refine q_region ?_; refine ql_ar tabOk rfl rfl rfl rfl (by omega) (by omega) ?_; refine ql_pure tabOk rfl rfl ?_; refine q_nil ?_)
      exact hK (k + 1) _ _ ⟨by omega, fun l hl => by
        rw [List.take_succ_eq_append_getElem hk2] at hl
        rcases List.mem_append.1 hl with hl | hl
        · exact hall l hl
        · obtain rfl := List.mem_singleton.1 hl
          omega⟩ (by omega) ⟨rfl, rfl, rfl, rfl, trivial⟩ (by repeat (first | exact Sp.nil | exact Sp.refl _ | refine Sp.cons (by repeat constructor) ?_))
  · obtain rfl : k = ll.length := by omega
    rw [List.take_length] at hall
    have e : longB x.days.length ll = (decide (65 < x.days.length) && true) := by
      unfold longB
      rw [List.any_eq_false.2 (fun l hl => by have := hall l hl; simp; omega)]
      rfl
    by_cases h6 : 65 < x.days.length
    · (refine q_exit _ rfl ?_; refine q_seq ?_; refine q_region ?_; refine ql_pure tabOk rfl rfl ?_; refine ql_loadB tabOk rfl rfl rfl (by repeat first | exact .head _ | refine .tail _ ?_) (by rfl) ?_; refine ql_pure tabOk rfl rfl ?_; refine ql_gtrT tabOk rfl rfl rfl (by omega) ?_; refine ql_pure tabOk rfl rfl ?_; refine q_nil ?_; refine q_ret ?_)
      refine q_fin tabOk rfl (by repeat (first | exact RVs.nil | apply RVs.tmp rfl | apply RVs.cellA rfl rfl (by repeat first | exact .head _ | refine .tail _ ?_) (by rfl) | apply RVs.cell1 rfl rfl (by repeat first | exact .head _ | refine .tail _ ?_))) fun w hs => ?_
      exact ⟨by rw [e]; simp [h6, retV], hs.chg0⟩
    · (refine q_exit _ rfl ?_; refine q_seq ?_; refine q_region ?_; refine ql_pure tabOk rfl rfl ?_; refine ql_loadB tabOk rfl rfl rfl (by repeat first | exact .head _ | refine .tail _ ?_) (by rfl) ?_; refine ql_pure tabOk rfl rfl ?_; refine ql_gtrF tabOk rfl rfl rfl (by omega) ?_; refine ql_pure tabOk rfl rfl ?_; refine q_nil ?_; refine q_ret ?_)
      refine q_fin tabOk rfl (by repeat (first | exact RVs.nil | apply RVs.tmp rfl | apply RVs.cellA rfl rfl (by repeat first | exact .head _ | refine .tail _ ?_) (by rfl) | apply RVs.cell1 rfl rfl (by repeat first | exact .head _ | refine .tail _ ?_))) fun w hs => ?_
      exact ⟨by rw [e]; simp [h6, retV], hs.chg0⟩
end Go.Proofs.Ytgeajgmefokifaa

/- Walk of the reference: piles. -/
namespace Go.Proofs.Ytgeajgmefokifaa
open Go Go.Eng

/-- Much is taken from piles, one after the other. -/
structure TkI (much : Int) (l : List Int) (k : Nat) (m : Int) (o : List Int) : Prop where
  kl : k ≤ l.length
  len : o.length = l.length
  mb : 0 ≤ m ∧ m ≤ much
  nn : ∀ x ∈ o, 0 ≤ x ∧ x ≤ 2000000
  eq : rremP much l = o.take k ++ rremP m (o.drop k)
theorem TkI.zero {much : Int} {l : List Int} (h : 0 ≤ much) (hl : ∀ x ∈ l, 0 ≤ x ∧ x ≤ 2000000) : TkI much l 0 much l := ⟨Nat.zero_le _, rfl, ⟨h, Int.le_refl _⟩, hl, by simp⟩
theorem TkI.step {much : Int} {l : List Int} {k : Nat} {m : Int} {o : List Int} (h : TkI much l k m o) (hk : k < o.length) (hm : 0 < m) {n : Int} (hn : n = min o[k] m) : TkI much l (k + 1) (m - n) (o.set k (o[k] - n)) := by
  subst hn
  have h0 := h.nn _ (List.getElem_mem hk)
  refine ⟨by have := h.len; omega, by simp [h.len], by have := h.mb; omega, fun x hx => ?_, ?_⟩
  · rcases List.mem_or_eq_of_mem_set hx with hx | rfl
    · exact h.nn x hx
    · omega
  · rw [h.eq, List.drop_eq_getElem_cons hk, rremP, if_pos (by omega)]
    have e1 : (o.set k (o[k] - min o[k] m)).take (k + 1) = o.take k ++ [o[k] - min o[k] m] := by
      rw [List.take_succ_eq_append_getElem (by simpa using hk), List.take_set_of_le (Nat.le_refl _)]
      simp
    have e2 : (o.set k (o[k] - min o[k] m)).drop (k + 1) = o.drop (k + 1) := by rw [List.drop_set_of_lt (by omega)]
    rw [e1, e2]
    simp
theorem TkI.full {much : Int} {l : List Int} {k : Nat} {m : Int} {o : List Int} (h : TkI much l k m o) (hk : ¬ k < o.length) : o = rremP much l := by
  have h1 := h.len
  have h2 := h.kl
  rw [h.eq, List.drop_eq_nil_of_le (by omega), List.take_of_length_le (by omega)]
  simp [rremP]
theorem TkI.done {much : Int} {l : List Int} {k : Nat} {m : Int} {o : List Int} (h : TkI much l k m o) (hm : ¬ m > 0) : o = rremP much l := by
  obtain rfl : m = 0 := by have := h.mb; omega
  rw [h.eq, rremP_zero, List.take_append_drop]
end Go.Proofs.Ytgeajgmefokifaa

/- Walks of the reference: the first day that can fail; whether a winter is held. -/
namespace Go.Proofs.Ytgeajgmefokifaa
open Go Go.Eng

theorem wtN_R {w0 w : World} {M : Nat → Prop} {H : List Ck} {v1 v2 v3 : Value} {t : Wt} {n : Nat} (h : Sat w0 M H w) (e : t.Fine n) (m1 : .ow v1 3 1 n (ints t.need) ∈ H) (m2 : .ow v2 3 1 n (ints t.make) ∈ H) (m3 : .ow v3 3 1 n (ints t.loss) ∈ H) : WtR w t v1 v2 v3 :=
  wtK_R h (by rw [e.need]; exact m1) (by rw [e.make]; exact m2) (by rw [e.loss]; exact m3)
set_option maxHeartbeats 2000000 in
theorem rfirst_ca (w : World) (lo hi : Nat) (x : Wn) (a : Option Addr) (c : Nat) (h : RdD w lo hi (.slice a x.days.length c) x.days) (hlen : x.days.length ≤ 1000000) :
    Ca Try.prog 52 [.agg (wnC x a c).toArray] w fun r w' => r = .tuple #[.int .i64 (firstV x).1, .int .i64 (firstV x).2] ∧ Chg [] w w' := by
  refine q_of (Sat.nil w M0) Try.func52 rfl (by simp [Try.ntmps52]) ?_
  (refine q_seq ?_; refine q_region ?_)
  refine ql_box rfl rfl (fun b1 => ?_)
  ((iterate 2 refine ql_pure tabOk rfl rfl ?_); refine q_nil ?_; (iterate 2 refine q_seq ?_); refine q_region ?_; refine ql_loadAB tabOk rfl rfl rfl (by repeat first | exact .head _ | refine .tail _ ?_) (by rfl) (by rfl) ?_)
  refine ql_callv (val := .int .i64 (checkW x)) tabOk rfl rfl rfl rfl (fun w hs => ?_) ?_; exact rcheckW_ca w lo hi x a c (RdE.keep h hs.chg0) hlen
  by_cases h0 : checkW x = 0
  · have hx := checkW_iff.1 h0
    have hd := hx.d2
    have e : firstV x = if (hapV x (worstW x)).fails = -1 then (0, 6) else ((hapV x (worstW x)).fails, 0) := by unfold firstV; rw [if_neg (by omega)]
    rw [e, h0]
    (refine ql_pure tabOk rfl rfl ?_; refine q_nil ?_; refine q_seq ?_; refine q_region ?_; refine ql_pure tabOk rfl rfl ?_; refine ql_neqF tabOk rfl rfl rfl (by omega) ?_; refine q_nil ?_; refine q_cond_false rfl ?_; refine q_skip ?_; refine q_seq ?_; refine q_region ?_; refine ql_loadAB tabOk rfl rfl rfl (by repeat first | exact .head _ | refine .tail _ ?_) (by rfl) (by rfl) ?_)
    refine ql_call (β := Value × Value × Value) tabOk [] _ M0 rfl rfl rfl rfl (Sp.refl _) (fun _ h => h.elim) (fun w' hs => rworst_ca w' lo hi x a c (RdE.keep h hs.chg0) hlen) ?_
    rintro ⟨v1, v2, v3⟩ _ rfl
    dsimp only [List.cons_append, List.nil_append]
    (refine ql_pure tabOk rfl rfl ?_; (iterate 3 refine ql_ext tabOk rfl rfl rfl ?_); (iterate 3 refine ql_pure tabOk rfl rfl ?_); refine q_nil ?_; refine q_seq ?_; refine q_region ?_; refine ql_loadAB tabOk rfl rfl rfl (by repeat first | exact .head _ | refine .tail _ ?_) (by rfl) (by rfl) ?_; (iterate 3 refine ql_pure tabOk rfl rfl ?_))
    refine ql_call (β := Value × Value) tabOk [] _ M0 rfl rfl rfl rfl (Sp.refl _) (fun _ h => h.elim) (fun w' hs => rhap_ca w' lo hi x a c (worstW x) v1 v2 v3 (RdE.keep h hs.chg0) hx (worst_fine hx) (wtN_R (H := [.ow v1 3 1 x.days.length (ints (worstW x).need), .ow v2 3 1 x.days.length (ints (worstW x).make), .ow v3 3 1 x.days.length (ints (worstW x).loss), .pt b1 (wnC x a c) 93]) hs (worst_fine hx) (by repeat first | exact .head _ | refine .tail _ ?_) (by repeat first | exact .head _ | refine .tail _ ?_) (by repeat first | exact .head _ | refine .tail _ ?_))) ?_
    rintro ⟨y1, y2⟩ _ rfl
    dsimp only [List.cons_append, List.nil_append]
    have hb := hap_fails_bd x (worstW x) hx.stock (worst_fine hx).need0 x.days.length
    change (hapV x (worstW x)).fails = -1 ∨ ∃ f : Nat, f < x.days.length ∧ (hapV x (worstW x)).fails = f at hb
    generalize (hapV x (worstW x)).fails = z at *
    rcases hb with rfl | ⟨f, hf, rfl⟩
    · (refine ql_pure tabOk rfl rfl ?_; (iterate 3 refine ql_ext tabOk rfl rfl rfl ?_); (iterate 3 refine ql_pure tabOk rfl rfl ?_); refine q_nil ?_; (iterate 2 refine q_seq ?_); refine q_region ?_; refine ql_pure tabOk rfl rfl ?_; refine ql_lssT tabOk rfl rfl rfl (by omega) ?_; refine q_nil ?_; refine q_cond_true rfl ?_; refine q_seq ?_; refine q_region ?_; (iterate 2 refine ql_pure tabOk rfl rfl ?_); refine q_nil ?_; refine q_ret ?_)
      refine q_fin tabOk rfl (by repeat (first | exact RVs.nil | apply RVs.tmp rfl | apply RVs.cellA rfl rfl (by repeat first | exact .head _ | refine .tail _ ?_) (by rfl) | apply RVs.cell1 rfl rfl (by repeat first | exact .head _ | refine .tail _ ?_))) fun w hs => ?_
      exact ⟨rfl, hs.chg0⟩
    · rw [if_neg (by omega)]
      (refine ql_pure tabOk rfl rfl ?_; (iterate 3 refine ql_ext tabOk rfl rfl rfl ?_); (iterate 3 refine ql_pure tabOk rfl rfl ?_); refine q_nil ?_; (iterate 2 refine q_seq ?_); refine q_region ?_; refine ql_pure tabOk rfl rfl ?_; refine ql_lssF tabOk rfl rfl rfl (by omega) ?_; refine q_nil ?_; refine q_cond_false rfl ?_; refine q_skip ?_; refine q_seq ?_; refine q_region ?_; (iterate 3 refine ql_pure tabOk rfl rfl ?_); refine q_nil ?_; refine q_ret ?_)
      refine q_fin tabOk rfl (by repeat (first | exact RVs.nil | apply RVs.tmp rfl | apply RVs.cellA rfl rfl (by repeat first | exact .head _ | refine .tail _ ?_) (by rfl) | apply RVs.cell1 rfl rfl (by repeat first | exact .head _ | refine .tail _ ?_))) fun w hs => ?_
      exact ⟨rfl, hs.chg0⟩
  · have e : firstV x = (0, checkW x) := by unfold firstV; rw [if_pos h0]
    rw [e]
    rcases checkW_or x with h1 | h1 | h1
    · exact absurd h1 h0
    all_goals
      rw [h1]
      (refine ql_pure tabOk rfl rfl ?_; refine q_nil ?_; refine q_seq ?_; refine q_region ?_; refine ql_pure tabOk rfl rfl ?_; refine ql_neqT tabOk rfl rfl rfl (by omega) ?_; refine q_nil ?_; refine q_cond_true rfl ?_; refine q_seq ?_; refine q_region ?_; (iterate 3 refine ql_pure tabOk rfl rfl ?_); refine q_nil ?_; refine q_ret ?_)
      refine q_fin tabOk rfl (by repeat (first | exact RVs.nil | apply RVs.tmp rfl | apply RVs.cellA rfl rfl (by repeat first | exact .head _ | refine .tail _ ?_) (by rfl) | apply RVs.cell1 rfl rfl (by repeat first | exact .head _ | refine .tail _ ?_))) fun w hs => ?_
      exact ⟨rfl, hs.chg0⟩
/-- Whether no day can fail. -/
def heldB (x : Wn) : Bool := decide ((firstV x).2 = 6) && true
theorem held_iff {x : Wn} (hx : x.Right) {s r : Int} (hs : 0 ≤ s ∧ s ≤ r) (hr : 1 ≤ r ∧ r ≤ 1000000) : heldB ⟨s, r, x.days⟩ = true ↔ (neededV x).1 ≤ s ∧ (neededV x).2 ≤ r := by
  have hr' : Wn.Right ⟨s, r, x.days⟩ := ⟨hr, hs, hx.d1, hx.d2, hx.days⟩
  rw [← needed_iff hx s r hs]
  unfold heldB firstV
  rw [if_neg (by simp [checkW_iff.2 hr'])]
  have e : (hapV ⟨s, r, x.days⟩ (worstW ⟨s, r, x.days⟩)).fails = (hapP ⟨s, r, x.days⟩ (worstW x) x.days.length).fails := rfl
  rw [e]
  split
  · rename_i h
    simp [h]
  · rename_i h
    simp [h]
theorem held_ca (w : World) (lo hi : Nat) (x : Wn) (a : Option Addr) (c : Nat) (s r : Int) (h : RdD w lo hi (.slice a x.days.length c) x.days) (hlen : x.days.length ≤ 1000000) :
    Ca Try.prog 109 [.agg (wnC x a c).toArray, .int .i64 s, .int .i64 r] w fun v w' => v = .bool (heldB ⟨s, r, x.days⟩) ∧ Chg [] w w' := by
  refine q_of (Sat.nil w M0) Try.func109 rfl (by simp [Try.ntmps109]) ?_
  (refine q_seq ?_; refine q_region ?_)
  refine ql_box rfl rfl (fun b3 => ?_)
  (refine ql_pure tabOk rfl rfl ?_; refine q_nil ?_; refine q_seq ?_; refine q_region ?_; (iterate 3 refine ql_pure tabOk rfl rfl ?_); refine ql_loadB tabOk rfl rfl rfl (by repeat first | exact .head _ | refine .tail _ ?_) (by rfl) ?_)
  refine ql_mk #[.int .i64 s, .int .i64 r, .slice a x.days.length c] rfl (by kernel_rfl) rfl ?_
  refine ql_callv (val := .tuple #[.int .i64 (firstV ⟨s, r, x.days⟩).1, .int .i64 (firstV ⟨s, r, x.days⟩).2]) tabOk rfl rfl rfl rfl (fun w hs => ?_) ?_; exact rfirst_ca w lo hi ⟨s, r, x.days⟩ a c (RdE.keep h hs.chg0) hlen
  by_cases h6 : (firstV ⟨s, r, x.days⟩).2 = 6
  · (refine ql_pure tabOk rfl rfl ?_; (iterate 2 refine ql_ext tabOk rfl rfl rfl ?_); (iterate 2 refine ql_pure tabOk rfl rfl ?_); refine q_nil ?_; refine q_seq ?_; refine q_region ?_; refine ql_pure tabOk rfl rfl ?_; refine ql_eqlT tabOk rfl rfl rfl (by omega) ?_; refine ql_pure tabOk rfl rfl ?_; refine q_nil ?_; refine q_ret ?_)
    refine q_fin tabOk rfl (by repeat (first | exact RVs.nil | apply RVs.tmp rfl | apply RVs.cellA rfl rfl (by repeat first | exact .head _ | refine .tail _ ?_) (by rfl) | apply RVs.cell1 rfl rfl (by repeat first | exact .head _ | refine .tail _ ?_))) fun w hs => ?_
    exact ⟨by simp [heldB, h6, retV], hs.chg0⟩
  · (refine ql_pure tabOk rfl rfl ?_; (iterate 2 refine ql_ext tabOk rfl rfl rfl ?_); (iterate 2 refine ql_pure tabOk rfl rfl ?_); refine q_nil ?_; refine q_seq ?_; refine q_region ?_; refine ql_pure tabOk rfl rfl ?_; refine ql_eqlF tabOk rfl rfl rfl (by omega) ?_; refine ql_pure tabOk rfl rfl ?_; refine q_nil ?_; refine q_ret ?_)
    refine q_fin tabOk rfl (by repeat (first | exact RVs.nil | apply RVs.tmp rfl | apply RVs.cellA rfl rfl (by repeat first | exact .head _ | refine .tail _ ?_) (by rfl) | apply RVs.cell1 rfl rfl (by repeat first | exact .head _ | refine .tail _ ?_))) fun w hs => ?_
    exact ⟨by simp [heldB, h6, retV], hs.chg0⟩
end Go.Proofs.Ytgeajgmefokifaa

/- Walk of the reference: proofs. -/
namespace Go.Proofs.Ytgeajgmefokifaa
open Go Go.Eng

/-- What is left, day by day. -/
def lfK (x : Wn) (frm : Int) (i : Nat) : Int := if i ≤ frm.toNat then x.stock else phK x frm (i - 1 - frm.toNat) - (worstW x).need.getD (i - 1) 0
theorem ph_at (x : Wn) {frm : Int} {i : Nat} (h : frm ≤ (i : Int)) (h1 : -1 ≤ frm) : phK x frm (i - frm.toNat) = if (i : Int) = frm then x.store else max 0 (lfK x frm i - (worstW x).loss.getD i 0) + (worstW x).make.getD i 0 := by
  by_cases h2 : (i : Int) = frm
  · rw [if_pos h2, show i - frm.toNat = 0 by omega, phK, if_neg (by omega)]
  · rw [if_neg h2]
    by_cases h3 : i ≤ frm.toNat
    · obtain rfl : i = 0 := by omega
      rw [lfK, if_pos h3, show 0 - frm.toNat = 0 by omega, phK, if_pos (by omega)]
    · rw [lfK, if_neg h3, show i - frm.toNat = (i - 1 - frm.toNat) + 1 by omega, phK, show frm.toNat + (i - 1 - frm.toNat) = i - 1 by omega, show i - 1 + 1 = i by omega]
theorem lf_succ (x : Wn) {frm : Int} {i : Nat} (h : frm ≤ (i : Int)) : lfK x frm (i + 1) = phK x frm (i - frm.toNat) - (worstW x).need.getD i 0 := by
  rw [lfK, if_neg (by omega)]
  rfl
theorem lf_bd {x : Wn} (hx : x.Right) (frm : Int) {i : Nat} (hi : i ≤ 100) : -200000 ≤ lfK x frm i ∧ lfK x frm i ≤ 30000000 := by
  unfold lfK
  split
  · have := hx.stock
    have := hx.store
    omega
  · have h1 := ph_nn hx frm (i - 1 - frm.toNat)
    have h2 := ph_bd hx frm (i - 1 - frm.toNat)
    have h3 := getD_in (worst_fine hx).need0 (by omega) (by omega) (i - 1)
    omega
theorem proves_end {x : Wn} (hx : x.Right) {frm : Int} {d : Nat} (hd : d < x.days.length) (hf : -1 ≤ frm ∧ frm ≤ d) (hall : ∀ j, frm.toNat ≤ j → j < d → (worstW x).need.getD j 0 ≤ phK x frm (j - frm.toNat)) :
    provesV x frm d = if lfK x frm (d + 1) ≥ 0 then (0, 8) else (-lfK x frm (d + 1), 0) := by
  rw [lf_succ x hf.2]
  unfold provesV
  rw [if_neg (by simp [checkW_iff.2 hx]), if_neg (by omega)]
  simp only [Int.toNat_natCast]
  rw [if_neg (by
    rw [Bool.not_eq_false, phAll_iff]
    intro k hk
    have := hall (frm.toNat + k) (by omega) (by omega)
    rwa [show frm.toNat + k - frm.toNat = k by omega] at this)]
  split
  · rw [if_pos (by omega)]
  · rw [if_neg (by omega)]
    congr 1
    omega
theorem proves_stop {x : Wn} (hx : x.Right) {frm : Int} {d i : Nat} (hd : d < x.days.length) (hf : -1 ≤ frm ∧ frm ≤ d) (hi : frm ≤ (i : Int)) (hid : i < d) (h : lfK x frm (i + 1) < 0) : provesV x frm d = (0, 8) := by
  rw [lf_succ x hi] at h
  unfold provesV
  rw [if_neg (by simp [checkW_iff.2 hx]), if_neg (by omega)]
  simp only [Int.toNat_natCast]
  rw [if_pos]
  cases hp : phAll x frm (d - frm.toNat) with
  | false => rfl
  | true =>
    have := phAll_iff.1 hp (i - frm.toNat) (by omega)
    rw [show frm.toNat + (i - frm.toNat) = i by omega] at this
    omega
set_option maxHeartbeats 4000000 in
theorem rproves_ca (w : World) (lo hi : Nat) (x : Wn) (a : Option Addr) (c : Nat) (frm day : Int) (h : RdD w lo hi (.slice a x.days.length c) x.days) (hlen : x.days.length ≤ 1000000) :
    Ca Try.prog 54 [.agg (wnC x a c).toArray, .int .i64 frm, .int .i64 day] w fun r w' => r = .tuple #[.int .i64 (provesV x frm day).1, .int .i64 (provesV x frm day).2] ∧ Chg [] w w' := by
  obtain ⟨a', c', he, hsa⟩ := RdD.outI h
  cases he
  refine q_of (Sat.nil w M0) Try.func54 rfl (by simp [Try.ntmps54]) ?_
  (refine q_seq ?_; refine q_region ?_)
  refine ql_box rfl rfl (fun b3 => ?_)
  ((iterate 2 refine ql_pure tabOk rfl rfl ?_); refine q_nil ?_; (iterate 2 refine q_seq ?_); refine q_region ?_; refine ql_loadAB tabOk rfl rfl rfl (by repeat first | exact .head _ | refine .tail _ ?_) (by rfl) (by rfl) ?_)
  refine ql_callv (val := .int .i64 (checkW x)) tabOk rfl rfl rfl rfl (fun w hs => ?_) ?_; exact rcheckW_ca w lo hi x a c (RdE.keep h hs.chg0) hlen
  by_cases h0 : checkW x ≠ 0
  · have e : provesV x frm day = (0, checkW x) := by unfold provesV; rw [if_pos h0]
    rw [e]
    rcases checkW_or x with h1 | h1 | h1
    · exact absurd h1 h0
    all_goals
      rw [h1]
      (refine ql_pure tabOk rfl rfl ?_; refine q_nil ?_; refine q_seq ?_; refine q_region ?_; refine ql_pure tabOk rfl rfl ?_; refine ql_neqT tabOk rfl rfl rfl (by omega) ?_; refine q_nil ?_; refine q_cond_true rfl ?_; refine q_seq ?_; refine q_region ?_; (iterate 3 refine ql_pure tabOk rfl rfl ?_); refine q_nil ?_; refine q_ret ?_)
      refine q_fin tabOk rfl (by repeat (first | exact RVs.nil | apply RVs.tmp rfl | apply RVs.cellA rfl rfl (by repeat first | exact .head _ | refine .tail _ ?_) (by rfl) | apply RVs.cell1 rfl rfl (by repeat first | exact .head _ | refine .tail _ ?_))) fun w hs => ?_
      exact ⟨rfl, hs.chg0⟩
  have h0 : checkW x = 0 := by omega
  have hx := checkW_iff.1 h0
  have hd2 := hx.d2
  have hd1 := hx.d1
  have hun := proves_unknown hx (frm := frm) (day := day)
  rw [h0]
  (refine ql_pure tabOk rfl rfl ?_; refine q_nil ?_; refine q_seq ?_; refine q_region ?_; refine ql_pure tabOk rfl rfl ?_; refine ql_neqF tabOk rfl rfl rfl (by omega) ?_; refine q_nil ?_; refine q_cond_false rfl ?_; refine q_skip ?_; (iterate 2 refine q_seq ?_); refine q_region ?_; (iterate 2 refine ql_pure tabOk rfl rfl ?_); refine ql_loadB tabOk rfl rfl rfl (by repeat first | exact .head _ | refine .tail _ ?_) (by rfl) ?_; refine ql_pure tabOk rfl rfl ?_; refine ql_ar tabOk rfl rfl rfl rfl (by omega) (by omega) ?_)
  refine ql_callv (val := .bool (!(wiB day 0 ((x.days.length : Int) - 1)))) tabOk rfl rfl rfl rfl (fun w hs => ?_) ?_; exact out_ca day 0 ((x.days.length : Int) - 1) w
  cases g1 : wiB day 0 ((x.days.length : Int) - 1) with
  | false =>
    have g1' : ¬(0 ≤ day ∧ day ≤ (x.days.length : Int) - 1) := fun hh => by rw [wiB_iff.2 hh] at g1; cases g1
    have e : provesV x frm day = (0, 1) := by rcases proves_or hx frm day with hh | hh | hh <;> first | exact hh | (have := hun.2 (by omega); rw [hh] at this; cases this) | (have := hun.2 (by omega); omega)
    (refine ql_pure tabOk rfl rfl ?_; (iterate 3 refine ql_gno rfl rfl rfl ?_); refine ql_pure tabOk rfl rfl ?_; refine q_nil ?_; refine q_cond_true rfl ?_; refine q_seq ?_; refine q_region ?_; (iterate 2 refine ql_pure tabOk rfl rfl ?_); refine q_nil ?_; refine q_ret ?_)
    refine q_fin tabOk rfl (by repeat (first | exact RVs.nil | apply RVs.tmp rfl | apply RVs.cellA rfl rfl (by repeat first | exact .head _ | refine .tail _ ?_) (by rfl) | apply RVs.cell1 rfl rfl (by repeat first | exact .head _ | refine .tail _ ?_))) fun w hs => ?_
    exact ⟨by rw [e]; rfl, hs.chg0⟩
  | true =>
  have g1' := wiB_iff.1 g1
  (refine ql_pure tabOk rfl rfl ?_; refine ql_gyes rfl ?_; refine ql_pure tabOk rfl rfl ?_; refine ql_gyes rfl ?_; refine ql_pure tabOk rfl rfl ?_; refine ql_gyes rfl ?_)
  refine ql_callv (val := .bool (!(wiB frm (-1) day))) tabOk rfl rfl rfl rfl (fun w hs => ?_) ?_; exact out_ca frm (-1) day w
  cases g2 : wiB frm (-1) day with
  | false =>
    have g2' : ¬(-1 ≤ frm ∧ frm ≤ day) := fun hh => by rw [wiB_iff.2 hh] at g2; cases g2
    have e : provesV x frm day = (0, 1) := by rcases proves_or hx frm day with hh | hh | hh <;> first | exact hh | (have := hun.2 (by omega); rw [hh] at this; cases this) | (have := hun.2 (by omega); omega)
    (refine ql_pure tabOk rfl rfl ?_; refine q_nil ?_; refine q_cond_true rfl ?_; refine q_seq ?_; refine q_region ?_; (iterate 2 refine ql_pure tabOk rfl rfl ?_); refine q_nil ?_; refine q_ret ?_)
    refine q_fin tabOk rfl (by repeat (first | exact RVs.nil | apply RVs.tmp rfl | apply RVs.cellA rfl rfl (by repeat first | exact .head _ | refine .tail _ ?_) (by rfl) | apply RVs.cell1 rfl rfl (by repeat first | exact .head _ | refine .tail _ ?_))) fun w hs => ?_
    exact ⟨by rw [e]; rfl, hs.chg0⟩
  | true =>
  have g2' := wiB_iff.1 g2
  clear g1 g2 hun
  obtain ⟨d, rfl⟩ : ∃ d : Nat, day = d := ⟨day.toNat, by omega⟩
  have hd : d < x.days.length := by omega
  obtain ⟨b, off, rfl⟩ := hsa (by omega)
  (refine ql_pure tabOk rfl rfl ?_; refine q_nil ?_; refine q_cond_false rfl ?_; refine q_skip ?_; refine q_seq ?_; refine q_region ?_; refine ql_pure tabOk rfl rfl ?_; refine ql_loadB tabOk rfl rfl rfl (by repeat first | exact .head _ | refine .tail _ ?_) (by rfl) ?_; refine ql_pure tabOk rfl rfl ?_; refine q_nil ?_; (iterate 2 refine q_seq ?_); refine q_region ?_; refine ql_pure tabOk rfl rfl ?_; refine q_nil ?_; refine q_block ?_)
  refine q_loop (σ := Nat) (fun i => i ≤ d + 1 ∧ ∀ j, frm.toNat ≤ j → j < i → j < d → (worstW x).need.getD j 0 ≤ phK x frm (j - frm.toNat)) (fun i => d + 1 - i) (fun i => [(1, .int .i64 frm), (2, .int .i64 d), (3, .pointer (some ⟨b3, 0, none⟩)), (9, .int .i64 (lfK x frm i)), (10, .int .i64 i)]) (fun _ => [.pt b3 (wnC x (some ⟨b, off, none⟩) c) 93]) 0 ⟨by omega, by omega⟩ ⟨rfl, rfl, rfl, lookI rfl (by unfold lfK; rw [if_pos (by omega)]), rfl, trivial⟩ (by repeat (first | exact Sp.nil | exact Sp.refl _ | refine Sp.cons (by repeat constructor) ?_)) ?_
  rintro i ⟨hi, hall⟩ K hK
  by_cases hc : (i : Int) ≤ d
  · have hi2 : i < x.days.length := by omega
    have w1 := worst_get x i hi2
    have hdr := hx.days _ (List.getElem_mem hi2)
    have hdn := hdr.n
    have hdm := hdr.m
    have hdl := hdr.l
    have hbd := lf_bd hx frm (i := i) (by omega)
    have hst := hx.store
    ((iterate 2 refine q_seq ?_); refine q_region ?_; (iterate 2 refine ql_pure tabOk rfl rfl ?_); refine ql_leqT tabOk rfl rfl rfl (by omega) ?_; refine q_nil ?_; refine q_cond_true rfl ?_; refine q_skip ?_; refine q_seq ?_; refine q_block ?_; refine q_seq ?_; refine q_region ?_; refine ql_pure tabOk rfl rfl ?_; refine ql_loadB tabOk rfl rfl rfl (by repeat first | exact .head _ | refine .tail _ ?_) (by rfl) ?_; refine ql_pure tabOk rfl rfl ?_)
    refine ql_index tabOk rfl rfl rfl rfl rfl (by omega) (by omega) ?_
    skip
    refine ql_loadA tabOk rfl rfl rfl rfl (fun w hs => RdD.at (RdE.keep h hs.chg0) i hi2) ?_
    skip
    refine ql_alloc zero176 rfl (fun b11 => ?_)
    by_cases hlt : (i : Int) < frm
    · have e : lfK x frm (i + 1) = lfK x frm i := by unfold lfK; rw [if_pos (by omega), if_pos (by omega)]
      (refine ql_setA tabOk rfl rfl rfl rfl rfl (by repeat constructor) rfl ?_; refine q_nil ?_; (iterate 2 refine q_seq ?_); refine q_region ?_; (iterate 2 refine ql_pure tabOk rfl rfl ?_); refine ql_lssT tabOk rfl rfl rfl (by omega) ?_; refine q_nil ?_; refine q_cond_true rfl ?_; refine q_exit _ rfl ?_; refine q_region ?_; refine ql_pure tabOk rfl rfl ?_; refine ql_ar tabOk rfl rfl rfl rfl (by omega) (by omega) ?_; refine ql_pure tabOk rfl rfl ?_; refine q_nil ?_)
      exact hK (i + 1) _ _ ⟨by omega, fun j h1 h2 h3 => hall j h1 (by omega) h3⟩ (by omega) ⟨rfl, rfl, rfl, lookI rfl e.symm, rfl, trivial⟩ (by repeat (first | exact Sp.nil | exact Sp.refl _ | refine Sp.cons (by repeat constructor) ?_))
    · have e1 := ph_at x (frm := frm) (i := i) (by omega) g2'.1
      have e2 := lf_succ x (frm := frm) (i := i) (by omega)
      rw [w1.1] at e2
      rw [w1.2.1, w1.2.2] at e1
      have hend : i = d → provesV x frm d = if lfK x frm (i + 1) ≥ 0 then (0, 8) else (-lfK x frm (i + 1), 0) := fun hh => by
        subst hh
        exact proves_end hx hd g2' (fun j h1 h2 => hall j h1 (by omega) (by omega))
      have hstop := proves_stop hx hd g2' (i := i) (by omega)
      have hnx : ∀ j, lfK x frm (i + 1) ≥ 0 ∨ i = d → frm.toNat ≤ j → j < i + 1 → j < d → (worstW x).need.getD j 0 ≤ phK x frm (j - frm.toNat) := fun j h0 h1 h2 h3 => by
        by_cases hj : j = i
        · subst hj
          rw [w1.1]
          omega
        · exact hall j h1 (by omega) h3
      generalize hL1 : lfK x frm (i + 1) = L1 at *
      generalize lfK x frm i = L0 at *
      generalize phK x frm (i - frm.toNat) = P0 at *
      generalize x.days[i] = dd at *
      obtain ⟨n0, n1, m0, m1, l0, l1⟩ := dd
      dsimp only at hdn hdm hdl e1 e2 ⊢
      by_cases hif : (i : Int) = frm
      · rw [if_pos hif] at e1
        by_cases hz : L1 < 0
        · by_cases hid : i < d
          · have e := hstop hid hz
            (refine ql_setA tabOk rfl rfl rfl rfl rfl (by repeat constructor) rfl ?_; refine q_nil ?_; (iterate 2 refine q_seq ?_); refine q_region ?_; (iterate 2 refine ql_pure tabOk rfl rfl ?_); refine ql_lssF tabOk rfl rfl rfl (by omega) ?_; refine q_nil ?_; refine q_cond_false rfl ?_; refine q_skip ?_; refine q_seq ?_; refine q_region ?_; refine ql_pure tabOk rfl rfl ?_; refine ql_loadB tabOk rfl rfl rfl (by repeat first | exact .head _ | refine .tail _ ?_) (by rfl) ?_; refine ql_pure tabOk rfl rfl ?_; refine q_nil ?_; (iterate 2 refine q_seq ?_); refine q_region ?_; (iterate 2 refine ql_pure tabOk rfl rfl ?_); refine ql_neqF tabOk rfl rfl rfl (by omega) ?_; refine q_nil ?_; refine q_cond_false rfl ?_; refine q_skip ?_; refine q_seq ?_; refine q_region ?_; (iterate 3 refine ql_pure tabOk rfl rfl ?_); refine ql_loadB tabOk rfl rfl rfl (by repeat first | exact .head _ | refine .tail _ ?_) (by rfl) ?_; refine ql_ar tabOk rfl rfl rfl rfl (by omega) (by omega) ?_; refine ql_pure tabOk rfl rfl ?_; refine q_nil ?_; refine q_seq ?_; refine q_region ?_; refine ql_pure tabOk rfl rfl ?_; refine ql_lssT tabOk rfl rfl rfl (by omega) ?_; refine ql_pure tabOk rfl rfl ?_; refine ql_gyes rfl ?_; refine ql_pure tabOk rfl rfl ?_; refine ql_gyes rfl ?_; refine ql_pure tabOk rfl rfl ?_; refine ql_gyes rfl ?_; refine ql_lssT tabOk rfl rfl rfl (by omega) ?_; refine ql_pure tabOk rfl rfl ?_; refine q_nil ?_; refine q_cond_true rfl ?_; refine q_seq ?_; refine q_region ?_; (iterate 2 refine ql_pure tabOk rfl rfl ?_); refine q_nil ?_; refine q_ret ?_)
            refine q_fin tabOk rfl (by repeat (first | exact RVs.nil | apply RVs.tmp rfl | apply RVs.cellA rfl rfl (by repeat first | exact .head _ | refine .tail _ ?_) (by rfl) | apply RVs.cell1 rfl rfl (by repeat first | exact .head _ | refine .tail _ ?_))) fun w hs => ?_
            exact ⟨by rw [e]; rfl, hs.chg0⟩
          · (refine ql_setA tabOk rfl rfl rfl rfl rfl (by repeat constructor) rfl ?_; refine q_nil ?_; (iterate 2 refine q_seq ?_); refine q_region ?_; (iterate 2 refine ql_pure tabOk rfl rfl ?_); refine ql_lssF tabOk rfl rfl rfl (by omega) ?_; refine q_nil ?_; refine q_cond_false rfl ?_; refine q_skip ?_; refine q_seq ?_; refine q_region ?_; refine ql_pure tabOk rfl rfl ?_; refine ql_loadB tabOk rfl rfl rfl (by repeat first | exact .head _ | refine .tail _ ?_) (by rfl) ?_; refine ql_pure tabOk rfl rfl ?_; refine q_nil ?_; (iterate 2 refine q_seq ?_); refine q_region ?_; (iterate 2 refine ql_pure tabOk rfl rfl ?_); refine ql_neqF tabOk rfl rfl rfl (by omega) ?_; refine q_nil ?_; refine q_cond_false rfl ?_; refine q_skip ?_; refine q_seq ?_; refine q_region ?_; (iterate 3 refine ql_pure tabOk rfl rfl ?_); refine ql_loadB tabOk rfl rfl rfl (by repeat first | exact .head _ | refine .tail _ ?_) (by rfl) ?_; refine ql_ar tabOk rfl rfl rfl rfl (by omega) (by omega) ?_; refine ql_pure tabOk rfl rfl ?_; refine q_nil ?_; refine q_seq ?_; refine q_region ?_; refine ql_pure tabOk rfl rfl ?_; refine ql_lssT tabOk rfl rfl rfl (by omega) ?_; refine ql_pure tabOk rfl rfl ?_; refine ql_gyes rfl ?_; refine ql_pure tabOk rfl rfl ?_; refine ql_gyes rfl ?_; refine ql_pure tabOk rfl rfl ?_; refine ql_gyes rfl ?_; refine ql_lssF tabOk rfl rfl rfl (by omega) ?_; refine ql_pure tabOk rfl rfl ?_; refine q_nil ?_; refine q_cond_false rfl ?_; refine q_skip ?_; refine q_blk ?_; refine q_region ?_; refine ql_pure tabOk rfl rfl ?_; refine ql_ar tabOk rfl rfl rfl rfl (by omega) (by omega) ?_; refine ql_pure tabOk rfl rfl ?_; refine q_nil ?_)
            exact hK (i + 1) _ _ ⟨by omega, fun j => hnx j (by omega)⟩ (by omega) ⟨rfl, rfl, rfl, lookI rfl (by omega), rfl, trivial⟩ (by repeat (first | exact Sp.nil | exact Sp.refl _ | refine Sp.cons (by repeat constructor) ?_))
        · (refine ql_setA tabOk rfl rfl rfl rfl rfl (by repeat constructor) rfl ?_; refine q_nil ?_; (iterate 2 refine q_seq ?_); refine q_region ?_; (iterate 2 refine ql_pure tabOk rfl rfl ?_); refine ql_lssF tabOk rfl rfl rfl (by omega) ?_; refine q_nil ?_; refine q_cond_false rfl ?_; refine q_skip ?_; refine q_seq ?_; refine q_region ?_; refine ql_pure tabOk rfl rfl ?_; refine ql_loadB tabOk rfl rfl rfl (by repeat first | exact .head _ | refine .tail _ ?_) (by rfl) ?_; refine ql_pure tabOk rfl rfl ?_; refine q_nil ?_; (iterate 2 refine q_seq ?_); refine q_region ?_; (iterate 2 refine ql_pure tabOk rfl rfl ?_); refine ql_neqF tabOk rfl rfl rfl (by omega) ?_; refine q_nil ?_; refine q_cond_false rfl ?_; refine q_skip ?_; refine q_seq ?_; refine q_region ?_; (iterate 3 refine ql_pure tabOk rfl rfl ?_); refine ql_loadB tabOk rfl rfl rfl (by repeat first | exact .head _ | refine .tail _ ?_) (by rfl) ?_; refine ql_ar tabOk rfl rfl rfl rfl (by omega) (by omega) ?_; refine ql_pure tabOk rfl rfl ?_; refine q_nil ?_; refine q_seq ?_; refine q_region ?_; refine ql_pure tabOk rfl rfl ?_; refine ql_lssF tabOk rfl rfl rfl (by omega) ?_; refine ql_pure tabOk rfl rfl ?_; (iterate 3 refine ql_gno rfl rfl rfl ?_); refine ql_pure tabOk rfl rfl ?_; refine q_nil ?_; refine q_cond_false rfl ?_; refine q_skip ?_; refine q_blk ?_; refine q_region ?_; refine ql_pure tabOk rfl rfl ?_; refine ql_ar tabOk rfl rfl rfl rfl (by omega) (by omega) ?_; refine ql_pure tabOk rfl rfl ?_; refine q_nil ?_)
          exact hK (i + 1) _ _ ⟨by omega, fun j => hnx j (by omega)⟩ (by omega) ⟨rfl, rfl, rfl, lookI rfl (by omega), rfl, trivial⟩ (by repeat (first | exact Sp.nil | exact Sp.refl _ | refine Sp.cons (by repeat constructor) ?_))
      · rw [if_neg hif] at e1
        by_cases hg : L0 > l1
        · skip
          by_cases hz : L1 < 0
          · by_cases hid : i < d
            · have e := hstop hid hz
              (refine ql_setA tabOk rfl rfl rfl rfl rfl (by repeat constructor) rfl ?_; refine q_nil ?_; (iterate 2 refine q_seq ?_); refine q_region ?_; (iterate 2 refine ql_pure tabOk rfl rfl ?_); refine ql_lssF tabOk rfl rfl rfl (by omega) ?_; refine q_nil ?_; refine q_cond_false rfl ?_; refine q_skip ?_; refine q_seq ?_; refine q_region ?_; refine ql_pure tabOk rfl rfl ?_; refine ql_loadB tabOk rfl rfl rfl (by repeat first | exact .head _ | refine .tail _ ?_) (by rfl) ?_; refine ql_pure tabOk rfl rfl ?_; refine q_nil ?_; (iterate 2 refine q_seq ?_); refine q_region ?_; (iterate 2 refine ql_pure tabOk rfl rfl ?_); refine ql_neqT tabOk rfl rfl rfl (by omega) ?_; refine q_nil ?_; refine q_cond_true rfl ?_; refine q_seq ?_; refine q_region ?_; (iterate 2 refine ql_pure tabOk rfl rfl ?_); refine ql_loadB tabOk rfl rfl rfl (by repeat first | exact .head _ | refine .tail _ ?_) (by rfl) ?_; refine ql_pure tabOk rfl rfl ?_; refine q_nil ?_; refine q_seq ?_; refine q_region ?_; (iterate 3 refine ql_pure tabOk rfl rfl ?_); refine ql_loadB tabOk rfl rfl rfl (by repeat first | exact .head _ | refine .tail _ ?_) (by rfl) ?_; refine ql_gtrT tabOk rfl rfl rfl (by omega) ?_; refine q_nil ?_; refine q_cond_true rfl ?_; refine q_region ?_; (iterate 2 refine ql_pure tabOk rfl rfl ?_); refine ql_ar tabOk rfl rfl rfl rfl (by omega) (by omega) ?_; (iterate 2 refine ql_pure tabOk rfl rfl ?_); refine ql_loadB tabOk rfl rfl rfl (by repeat first | exact .head _ | refine .tail _ ?_) (by rfl) ?_; refine ql_ar tabOk rfl rfl rfl rfl (by omega) (by omega) ?_; refine ql_pure tabOk rfl rfl ?_; refine q_nil ?_; refine q_seq ?_; refine q_region ?_; (iterate 3 refine ql_pure tabOk rfl rfl ?_); refine ql_loadB tabOk rfl rfl rfl (by repeat first | exact .head _ | refine .tail _ ?_) (by rfl) ?_; refine ql_ar tabOk rfl rfl rfl rfl (by omega) (by omega) ?_; refine ql_pure tabOk rfl rfl ?_; refine q_nil ?_; refine q_seq ?_; refine q_region ?_; refine ql_pure tabOk rfl rfl ?_; refine ql_lssT tabOk rfl rfl rfl (by omega) ?_; refine ql_pure tabOk rfl rfl ?_; refine ql_gyes rfl ?_; refine ql_pure tabOk rfl rfl ?_; refine ql_gyes rfl ?_; refine ql_pure tabOk rfl rfl ?_; refine ql_gyes rfl ?_; refine ql_lssT tabOk rfl rfl rfl (by omega) ?_; refine ql_pure tabOk rfl rfl ?_; refine q_nil ?_; refine q_cond_true rfl ?_; refine q_seq ?_; refine q_region ?_; (iterate 2 refine ql_pure tabOk rfl rfl ?_); refine q_nil ?_; refine q_ret ?_)
              refine q_fin tabOk rfl (by repeat (first | exact RVs.nil | apply RVs.tmp rfl | apply RVs.cellA rfl rfl (by repeat first | exact .head _ | refine .tail _ ?_) (by rfl) | apply RVs.cell1 rfl rfl (by repeat first | exact .head _ | refine .tail _ ?_))) fun w hs => ?_
              exact ⟨by rw [e]; rfl, hs.chg0⟩
            · (refine ql_setA tabOk rfl rfl rfl rfl rfl (by repeat constructor) rfl ?_; refine q_nil ?_; (iterate 2 refine q_seq ?_); refine q_region ?_; (iterate 2 refine ql_pure tabOk rfl rfl ?_); refine ql_lssF tabOk rfl rfl rfl (by omega) ?_; refine q_nil ?_; refine q_cond_false rfl ?_; refine q_skip ?_; refine q_seq ?_; refine q_region ?_; refine ql_pure tabOk rfl rfl ?_; refine ql_loadB tabOk rfl rfl rfl (by repeat first | exact .head _ | refine .tail _ ?_) (by rfl) ?_; refine ql_pure tabOk rfl rfl ?_; refine q_nil ?_; (iterate 2 refine q_seq ?_); refine q_region ?_; (iterate 2 refine ql_pure tabOk rfl rfl ?_); refine ql_neqT tabOk rfl rfl rfl (by omega) ?_; refine q_nil ?_; refine q_cond_true rfl ?_; refine q_seq ?_; refine q_region ?_; (iterate 2 refine ql_pure tabOk rfl rfl ?_); refine ql_loadB tabOk rfl rfl rfl (by repeat first | exact .head _ | refine .tail _ ?_) (by rfl) ?_; refine ql_pure tabOk rfl rfl ?_; refine q_nil ?_; refine q_seq ?_; refine q_region ?_; (iterate 3 refine ql_pure tabOk rfl rfl ?_); refine ql_loadB tabOk rfl rfl rfl (by repeat first | exact .head _ | refine .tail _ ?_) (by rfl) ?_; refine ql_gtrT tabOk rfl rfl rfl (by omega) ?_; refine q_nil ?_; refine q_cond_true rfl ?_; refine q_region ?_; (iterate 2 refine ql_pure tabOk rfl rfl ?_); refine ql_ar tabOk rfl rfl rfl rfl (by omega) (by omega) ?_; (iterate 2 refine ql_pure tabOk rfl rfl ?_); refine ql_loadB tabOk rfl rfl rfl (by repeat first | exact .head _ | refine .tail _ ?_) (by rfl) ?_; refine ql_ar tabOk rfl rfl rfl rfl (by omega) (by omega) ?_; refine ql_pure tabOk rfl rfl ?_; refine q_nil ?_; refine q_seq ?_; refine q_region ?_; (iterate 3 refine ql_pure tabOk rfl rfl ?_); refine ql_loadB tabOk rfl rfl rfl (by repeat first | exact .head _ | refine .tail _ ?_) (by rfl) ?_; refine ql_ar tabOk rfl rfl rfl rfl (by omega) (by omega) ?_; refine ql_pure tabOk rfl rfl ?_; refine q_nil ?_; refine q_seq ?_; refine q_region ?_; refine ql_pure tabOk rfl rfl ?_; refine ql_lssT tabOk rfl rfl rfl (by omega) ?_; refine ql_pure tabOk rfl rfl ?_; refine ql_gyes rfl ?_; refine ql_pure tabOk rfl rfl ?_; refine ql_gyes rfl ?_; refine ql_pure tabOk rfl rfl ?_; refine ql_gyes rfl ?_; refine ql_lssF tabOk rfl rfl rfl (by omega) ?_; refine ql_pure tabOk rfl rfl ?_; refine q_nil ?_; refine q_cond_false rfl ?_; refine q_skip ?_; refine q_blk ?_; refine q_region ?_; refine ql_pure tabOk rfl rfl ?_; refine ql_ar tabOk rfl rfl rfl rfl (by omega) (by omega) ?_; refine ql_pure tabOk rfl rfl ?_; refine q_nil ?_)
              exact hK (i + 1) _ _ ⟨by omega, fun j => hnx j (by omega)⟩ (by omega) ⟨rfl, rfl, rfl, lookI rfl (by omega), rfl, trivial⟩ (by repeat (first | exact Sp.nil | exact Sp.refl _ | refine Sp.cons (by repeat constructor) ?_))
          · (refine ql_setA tabOk rfl rfl rfl rfl rfl (by repeat constructor) rfl ?_; refine q_nil ?_; (iterate 2 refine q_seq ?_); refine q_region ?_; (iterate 2 refine ql_pure tabOk rfl rfl ?_); refine ql_lssF tabOk rfl rfl rfl (by omega) ?_; refine q_nil ?_; refine q_cond_false rfl ?_; refine q_skip ?_; refine q_seq ?_; refine q_region ?_; refine ql_pure tabOk rfl rfl ?_; refine ql_loadB tabOk rfl rfl rfl (by repeat first | exact .head _ | refine .tail _ ?_) (by rfl) ?_; refine ql_pure tabOk rfl rfl ?_; refine q_nil ?_; (iterate 2 refine q_seq ?_); refine q_region ?_; (iterate 2 refine ql_pure tabOk rfl rfl ?_); refine ql_neqT tabOk rfl rfl rfl (by omega) ?_; refine q_nil ?_; refine q_cond_true rfl ?_; refine q_seq ?_; refine q_region ?_; (iterate 2 refine ql_pure tabOk rfl rfl ?_); refine ql_loadB tabOk rfl rfl rfl (by repeat first | exact .head _ | refine .tail _ ?_) (by rfl) ?_; refine ql_pure tabOk rfl rfl ?_; refine q_nil ?_; refine q_seq ?_; refine q_region ?_; (iterate 3 refine ql_pure tabOk rfl rfl ?_); refine ql_loadB tabOk rfl rfl rfl (by repeat first | exact .head _ | refine .tail _ ?_) (by rfl) ?_; refine ql_gtrT tabOk rfl rfl rfl (by omega) ?_; refine q_nil ?_; refine q_cond_true rfl ?_; refine q_region ?_; (iterate 2 refine ql_pure tabOk rfl rfl ?_); refine ql_ar tabOk rfl rfl rfl rfl (by omega) (by omega) ?_; (iterate 2 refine ql_pure tabOk rfl rfl ?_); refine ql_loadB tabOk rfl rfl rfl (by repeat first | exact .head _ | refine .tail _ ?_) (by rfl) ?_; refine ql_ar tabOk rfl rfl rfl rfl (by omega) (by omega) ?_; refine ql_pure tabOk rfl rfl ?_; refine q_nil ?_; refine q_seq ?_; refine q_region ?_; (iterate 3 refine ql_pure tabOk rfl rfl ?_); refine ql_loadB tabOk rfl rfl rfl (by repeat first | exact .head _ | refine .tail _ ?_) (by rfl) ?_; refine ql_ar tabOk rfl rfl rfl rfl (by omega) (by omega) ?_; refine ql_pure tabOk rfl rfl ?_; refine q_nil ?_; refine q_seq ?_; refine q_region ?_; refine ql_pure tabOk rfl rfl ?_; refine ql_lssF tabOk rfl rfl rfl (by omega) ?_; refine ql_pure tabOk rfl rfl ?_; (iterate 3 refine ql_gno rfl rfl rfl ?_); refine ql_pure tabOk rfl rfl ?_; refine q_nil ?_; refine q_cond_false rfl ?_; refine q_skip ?_; refine q_blk ?_; refine q_region ?_; refine ql_pure tabOk rfl rfl ?_; refine ql_ar tabOk rfl rfl rfl rfl (by omega) (by omega) ?_; refine ql_pure tabOk rfl rfl ?_; refine q_nil ?_)
            exact hK (i + 1) _ _ ⟨by omega, fun j => hnx j (by omega)⟩ (by omega) ⟨rfl, rfl, rfl, lookI rfl (by omega), rfl, trivial⟩ (by repeat (first | exact Sp.nil | exact Sp.refl _ | refine Sp.cons (by repeat constructor) ?_))
        · skip
          by_cases hz : L1 < 0
          · by_cases hid : i < d
            · have e := hstop hid hz
              (refine ql_setA tabOk rfl rfl rfl rfl rfl (by repeat constructor) rfl ?_; refine q_nil ?_; (iterate 2 refine q_seq ?_); refine q_region ?_; (iterate 2 refine ql_pure tabOk rfl rfl ?_); refine ql_lssF tabOk rfl rfl rfl (by omega) ?_; refine q_nil ?_; refine q_cond_false rfl ?_; refine q_skip ?_; refine q_seq ?_; refine q_region ?_; refine ql_pure tabOk rfl rfl ?_; refine ql_loadB tabOk rfl rfl rfl (by repeat first | exact .head _ | refine .tail _ ?_) (by rfl) ?_; refine ql_pure tabOk rfl rfl ?_; refine q_nil ?_; (iterate 2 refine q_seq ?_); refine q_region ?_; (iterate 2 refine ql_pure tabOk rfl rfl ?_); refine ql_neqT tabOk rfl rfl rfl (by omega) ?_; refine q_nil ?_; refine q_cond_true rfl ?_; refine q_seq ?_; refine q_region ?_; (iterate 2 refine ql_pure tabOk rfl rfl ?_); refine ql_loadB tabOk rfl rfl rfl (by repeat first | exact .head _ | refine .tail _ ?_) (by rfl) ?_; refine ql_pure tabOk rfl rfl ?_; refine q_nil ?_; refine q_seq ?_; refine q_region ?_; (iterate 3 refine ql_pure tabOk rfl rfl ?_); refine ql_loadB tabOk rfl rfl rfl (by repeat first | exact .head _ | refine .tail _ ?_) (by rfl) ?_; refine ql_gtrF tabOk rfl rfl rfl (by omega) ?_; refine q_nil ?_; refine q_cond_false rfl ?_; refine q_skip ?_; refine q_seq ?_; refine q_region ?_; (iterate 3 refine ql_pure tabOk rfl rfl ?_); refine ql_loadB tabOk rfl rfl rfl (by repeat first | exact .head _ | refine .tail _ ?_) (by rfl) ?_; refine ql_ar tabOk rfl rfl rfl rfl (by omega) (by omega) ?_; refine ql_pure tabOk rfl rfl ?_; refine q_nil ?_; refine q_seq ?_; refine q_region ?_; refine ql_pure tabOk rfl rfl ?_; refine ql_lssT tabOk rfl rfl rfl (by omega) ?_; refine ql_pure tabOk rfl rfl ?_; refine ql_gyes rfl ?_; refine ql_pure tabOk rfl rfl ?_; refine ql_gyes rfl ?_; refine ql_pure tabOk rfl rfl ?_; refine ql_gyes rfl ?_; refine ql_lssT tabOk rfl rfl rfl (by omega) ?_; refine ql_pure tabOk rfl rfl ?_; refine q_nil ?_; refine q_cond_true rfl ?_; refine q_seq ?_; refine q_region ?_; (iterate 2 refine ql_pure tabOk rfl rfl ?_); refine q_nil ?_; refine q_ret ?_)
              refine q_fin tabOk rfl (by repeat (first | exact RVs.nil | apply RVs.tmp rfl | apply RVs.cellA rfl rfl (by repeat first | exact .head _ | refine .tail _ ?_) (by rfl) | apply RVs.cell1 rfl rfl (by repeat first | exact .head _ | refine .tail _ ?_))) fun w hs => ?_
              exact ⟨by rw [e]; rfl, hs.chg0⟩
            · (refine ql_setA tabOk rfl rfl rfl rfl rfl (by repeat constructor) rfl ?_; refine q_nil ?_; (iterate 2 refine q_seq ?_); refine q_region ?_; (iterate 2 refine ql_pure tabOk rfl rfl ?_); refine ql_lssF tabOk rfl rfl rfl (by omega) ?_; refine q_nil ?_; refine q_cond_false rfl ?_; refine q_skip ?_; refine q_seq ?_; refine q_region ?_; refine ql_pure tabOk rfl rfl ?_; refine ql_loadB tabOk rfl rfl rfl (by repeat first | exact .head _ | refine .tail _ ?_) (by rfl) ?_; refine ql_pure tabOk rfl rfl ?_; refine q_nil ?_; (iterate 2 refine q_seq ?_); refine q_region ?_; (iterate 2 refine ql_pure tabOk rfl rfl ?_); refine ql_neqT tabOk rfl rfl rfl (by omega) ?_; refine q_nil ?_; refine q_cond_true rfl ?_; refine q_seq ?_; refine q_region ?_; (iterate 2 refine ql_pure tabOk rfl rfl ?_); refine ql_loadB tabOk rfl rfl rfl (by repeat first | exact .head _ | refine .tail _ ?_) (by rfl) ?_; refine ql_pure tabOk rfl rfl ?_; refine q_nil ?_; refine q_seq ?_; refine q_region ?_; (iterate 3 refine ql_pure tabOk rfl rfl ?_); refine ql_loadB tabOk rfl rfl rfl (by repeat first | exact .head _ | refine .tail _ ?_) (by rfl) ?_; refine ql_gtrF tabOk rfl rfl rfl (by omega) ?_; refine q_nil ?_; refine q_cond_false rfl ?_; refine q_skip ?_; refine q_seq ?_; refine q_region ?_; (iterate 3 refine ql_pure tabOk rfl rfl ?_); refine ql_loadB tabOk rfl rfl rfl (by repeat first | exact .head _ | refine .tail _ ?_) (by rfl) ?_; refine ql_ar tabOk rfl rfl rfl rfl (by omega) (by omega) ?_; refine ql_pure tabOk rfl rfl ?_; refine q_nil ?_; refine q_seq ?_; refine q_region ?_; refine ql_pure tabOk rfl rfl ?_; refine ql_lssT tabOk rfl rfl rfl (by omega) ?_; refine ql_pure tabOk rfl rfl ?_; refine ql_gyes rfl ?_; refine ql_pure tabOk rfl rfl ?_; refine ql_gyes rfl ?_; refine ql_pure tabOk rfl rfl ?_; refine ql_gyes rfl ?_; refine ql_lssF tabOk rfl rfl rfl (by omega) ?_; refine ql_pure tabOk rfl rfl ?_; refine q_nil ?_; refine q_cond_false rfl ?_; refine q_skip ?_; refine q_blk ?_; refine q_region ?_; refine ql_pure tabOk rfl rfl ?_; refine ql_ar tabOk rfl rfl rfl rfl (by omega) (by omega) ?_; refine ql_pure tabOk rfl rfl ?_; refine q_nil ?_)
              exact hK (i + 1) _ _ ⟨by omega, fun j => hnx j (by omega)⟩ (by omega) ⟨rfl, rfl, rfl, lookI rfl (by omega), rfl, trivial⟩ (by repeat (first | exact Sp.nil | exact Sp.refl _ | refine Sp.cons (by repeat constructor) ?_))
          · (refine ql_setA tabOk rfl rfl rfl rfl rfl (by repeat constructor) rfl ?_; refine q_nil ?_; (iterate 2 refine q_seq ?_); refine q_region ?_; (iterate 2 refine ql_pure tabOk rfl rfl ?_); refine ql_lssF tabOk rfl rfl rfl (by omega) ?_; refine q_nil ?_; refine q_cond_false rfl ?_; refine q_skip ?_; refine q_seq ?_; refine q_region ?_; refine ql_pure tabOk rfl rfl ?_; refine ql_loadB tabOk rfl rfl rfl (by repeat first | exact .head _ | refine .tail _ ?_) (by rfl) ?_; refine ql_pure tabOk rfl rfl ?_; refine q_nil ?_; (iterate 2 refine q_seq ?_); refine q_region ?_; (iterate 2 refine ql_pure tabOk rfl rfl ?_); refine ql_neqT tabOk rfl rfl rfl (by omega) ?_; refine q_nil ?_; refine q_cond_true rfl ?_; refine q_seq ?_; refine q_region ?_; (iterate 2 refine ql_pure tabOk rfl rfl ?_); refine ql_loadB tabOk rfl rfl rfl (by repeat first | exact .head _ | refine .tail _ ?_) (by rfl) ?_; refine ql_pure tabOk rfl rfl ?_; refine q_nil ?_; refine q_seq ?_; refine q_region ?_; (iterate 3 refine ql_pure tabOk rfl rfl ?_); refine ql_loadB tabOk rfl rfl rfl (by repeat first | exact .head _ | refine .tail _ ?_) (by rfl) ?_; refine ql_gtrF tabOk rfl rfl rfl (by omega) ?_; refine q_nil ?_; refine q_cond_false rfl ?_; refine q_skip ?_; refine q_seq ?_; refine q_region ?_; (iterate 3 refine ql_pure tabOk rfl rfl ?_); refine ql_loadB tabOk rfl rfl rfl (by repeat first | exact .head _ | refine .tail _ ?_) (by rfl) ?_; refine ql_ar tabOk rfl rfl rfl rfl (by omega) (by omega) ?_; refine ql_pure tabOk rfl rfl ?_; refine q_nil ?_; refine q_seq ?_; refine q_region ?_; refine ql_pure tabOk rfl rfl ?_; refine ql_lssF tabOk rfl rfl rfl (by omega) ?_; refine ql_pure tabOk rfl rfl ?_; (iterate 3 refine ql_gno rfl rfl rfl ?_); refine ql_pure tabOk rfl rfl ?_; refine q_nil ?_; refine q_cond_false rfl ?_; refine q_skip ?_; refine q_blk ?_; refine q_region ?_; refine ql_pure tabOk rfl rfl ?_; refine ql_ar tabOk rfl rfl rfl rfl (by omega) (by omega) ?_; refine ql_pure tabOk rfl rfl ?_; refine q_nil ?_)
            exact hK (i + 1) _ _ ⟨by omega, fun j => hnx j (by omega)⟩ (by omega) ⟨rfl, rfl, rfl, lookI rfl (by omega), rfl, trivial⟩ (by repeat (first | exact Sp.nil | exact Sp.refl _ | refine Sp.cons (by repeat constructor) ?_))
  · obtain rfl : i = d + 1 := by omega
    have e := proves_end hx hd g2' (fun j h1 h2 => hall j h1 (by omega) h2)
    have hbd := lf_bd hx frm (i := d + 1) (by omega)
    generalize lfK x frm (d + 1) = L at *
    by_cases hL : L ≥ 0
    · rw [if_pos hL] at e
      ((iterate 2 refine q_seq ?_); refine q_region ?_; (iterate 2 refine ql_pure tabOk rfl rfl ?_); refine ql_leqF tabOk rfl rfl rfl (by omega) ?_; refine q_nil ?_; refine q_cond_false rfl ?_; refine q_exit _ rfl ?_; (iterate 2 refine q_seq ?_); refine q_region ?_; refine ql_pure tabOk rfl rfl ?_; refine ql_geqT tabOk rfl rfl rfl (by omega) ?_; refine q_nil ?_; refine q_cond_true rfl ?_; refine q_seq ?_; refine q_region ?_; (iterate 2 refine ql_pure tabOk rfl rfl ?_); refine q_nil ?_; refine q_ret ?_)
      refine q_fin tabOk rfl (by repeat (first | exact RVs.nil | apply RVs.tmp rfl | apply RVs.cellA rfl rfl (by repeat first | exact .head _ | refine .tail _ ?_) (by rfl) | apply RVs.cell1 rfl rfl (by repeat first | exact .head _ | refine .tail _ ?_))) fun w hs => ?_
      exact ⟨by rw [e]; rfl, hs.chg0⟩
    · rw [if_neg hL] at e
      ((iterate 2 refine q_seq ?_); refine q_region ?_; (iterate 2 refine ql_pure tabOk rfl rfl ?_); refine ql_leqF tabOk rfl rfl rfl (by omega) ?_; refine q_nil ?_; refine q_cond_false rfl ?_; refine q_exit _ rfl ?_; (iterate 2 refine q_seq ?_); refine q_region ?_; refine ql_pure tabOk rfl rfl ?_; refine ql_geqF tabOk rfl rfl rfl (by omega) ?_; refine q_nil ?_; refine q_cond_false rfl ?_; refine q_skip ?_; refine q_seq ?_; refine q_region ?_; refine ql_pure tabOk rfl rfl ?_; refine ql_neg tabOk rfl rfl (by omega) (by omega) ?_; (iterate 2 refine ql_pure tabOk rfl rfl ?_); refine q_nil ?_; refine q_ret ?_)
      refine q_fin tabOk rfl (by repeat (first | exact RVs.nil | apply RVs.tmp rfl | apply RVs.cellA rfl rfl (by repeat first | exact .head _ | refine .tail _ ?_) (by rfl) | apply RVs.cell1 rfl rfl (by repeat first | exact .head _ | refine .tail _ ?_))) fun w hs => ?_
      exact ⟨by rw [e]; rfl, hs.chg0⟩
end Go.Proofs.Ytgeajgmefokifaa

/- Plain laws of winters: more stock, more room, more snow made, less need and less loss. -/
namespace Go.Proofs.Ytgeajgmefokifaa
open Go

structure RichD (d d' : Dy) : Prop where
  n : d'.n0 = d.n0 ∧ d.n0 ≤ d'.n1 ∧ d'.n1 ≤ d.n1
  m : d'.m1 = d.m1 ∧ d.m0 ≤ d'.m0 ∧ d'.m0 ≤ d.m1
  l : d'.l0 = d.l0 ∧ d.l0 ≤ d'.l1 ∧ d'.l1 ≤ d.l1
structure RichL (l l' : List Dy) : Prop where
  len : l'.length = l.length
  all : ∀ i (h : i < l.length) (h' : i < l'.length), RichD l[i] l'[i]
theorem least_eq {w : Wn} (hw : w.Right) : leastV w = if w.store < max (neededV w).1 (neededV w).2 then (0, 6) else ((neededV w).1, 0) := by unfold leastV; rw [if_neg (by simp [checkW_iff.2 hw])]
theorem room_eq {w : Wn} (hw : w.Right) : roomV w = if w.stock < (neededV w).1 ∨ 1000000 < (neededV w).2 then (0, 6) else (max (max 1 w.stock) (neededV w).2, 0) := by unfold roomV; rw [if_neg (by simp [checkW_iff.2 hw])]
end Go.Proofs.Ytgeajgmefokifaa

/- Walks of the reference: the least stock and the least store. -/
namespace Go.Proofs.Ytgeajgmefokifaa
open Go Go.Eng

set_option maxHeartbeats 4000000 in
theorem rleast_ca (w : World) (lo hi : Nat) (x : Wn) (a : Option Addr) (c : Nat) (h : RdD w lo hi (.slice a x.days.length c) x.days) (hlen : x.days.length ≤ 1000000) :
    Ca Try.prog 55 [.agg (wnC x a c).toArray] w fun r w' => r = .tuple #[.int .i64 (leastV x).1, .int .i64 (leastV x).2] ∧ Chg [] w w' := by
  refine q_of (Sat.nil w M0) Try.func55 rfl (by simp [Try.ntmps55]) ?_
  (refine q_seq ?_; refine q_region ?_)
  refine ql_box rfl rfl (fun b1 => ?_)
  ((iterate 2 refine ql_pure tabOk rfl rfl ?_); refine q_nil ?_; (iterate 2 refine q_seq ?_); refine q_region ?_; refine ql_loadAB tabOk rfl rfl rfl (by repeat first | exact .head _ | refine .tail _ ?_) (by rfl) (by rfl) ?_)
  refine ql_callv (val := .int .i64 (checkW x)) tabOk rfl rfl rfl rfl (fun w hs => ?_) ?_; exact rcheckW_ca w lo hi x a c (RdE.keep h hs.chg0) hlen
  by_cases h0 : checkW x ≠ 0
  · have e : leastV x = (0, checkW x) := by unfold leastV; rw [if_pos h0]
    rw [e]
    rcases checkW_or x with h1 | h1 | h1
    · exact absurd h1 h0
    all_goals
      rw [h1]
      (refine ql_pure tabOk rfl rfl ?_; refine q_nil ?_; refine q_seq ?_; refine q_region ?_; refine ql_pure tabOk rfl rfl ?_; refine ql_neqT tabOk rfl rfl rfl (by omega) ?_; refine q_nil ?_; refine q_cond_true rfl ?_; refine q_seq ?_; refine q_region ?_; (iterate 3 refine ql_pure tabOk rfl rfl ?_); refine q_nil ?_; refine q_ret ?_)
      refine q_fin tabOk rfl (by repeat (first | exact RVs.nil | apply RVs.tmp rfl | apply RVs.cellA rfl rfl (by repeat first | exact .head _ | refine .tail _ ?_) (by rfl) | apply RVs.cell1 rfl rfl (by repeat first | exact .head _ | refine .tail _ ?_))) fun w hs => ?_
      exact ⟨rfl, hs.chg0⟩
  have h0 : checkW x = 0 := by omega
  have hx := checkW_iff.1 h0
  have hst := hx.store
  have e := least_eq hx
  have hnd := nd_bd hx x.days.length
  have hheld : ∀ n : Int, 0 ≤ n ∧ n ≤ x.store → (heldB ⟨n, x.store, x.days⟩ = true ↔ (neededV x).1 ≤ n ∧ (neededV x).2 ≤ x.store) := fun n hn => held_iff hx hn hst
  rw [h0, e]
  change (0 ≤ (neededV x).1 ∧ _) ∧ 0 ≤ (neededV x).2 ∧ _ at hnd
  generalize neededV x = N at *
  (refine ql_pure tabOk rfl rfl ?_; refine q_nil ?_; refine q_seq ?_; refine q_region ?_; refine ql_pure tabOk rfl rfl ?_; refine ql_neqF tabOk rfl rfl rfl (by omega) ?_; refine q_nil ?_; refine q_cond_false rfl ?_; refine q_skip ?_; (iterate 2 refine q_seq ?_); refine q_region ?_; refine ql_loadAB tabOk rfl rfl rfl (by repeat first | exact .head _ | refine .tail _ ?_) (by rfl) (by rfl) ?_; refine ql_pure tabOk rfl rfl ?_; refine ql_loadB tabOk rfl rfl rfl (by repeat first | exact .head _ | refine .tail _ ?_) (by rfl) ?_; refine ql_pure tabOk rfl rfl ?_; refine ql_loadB tabOk rfl rfl rfl (by repeat first | exact .head _ | refine .tail _ ?_) (by rfl) ?_)
  refine ql_callv (val := .bool (heldB ⟨x.store, x.store, x.days⟩)) tabOk rfl rfl rfl rfl (fun w hs => ?_) ?_; exact held_ca w lo hi x a c x.store x.store (RdE.keep h hs.chg0) hlen
  cases hb : heldB ⟨x.store, x.store, x.days⟩ with
  | false =>
    have h2 := (hheld x.store (by omega)).2
    have h3 : x.store < max N.1 N.2 := by
      refine Classical.byContradiction fun hh => ?_
      rw [h2 (by omega)] at hb
      cases hb
    rw [if_pos h3]
    (refine ql_pure tabOk rfl rfl ?_; refine q_nil ?_; refine q_cond_true rfl ?_; refine q_seq ?_; refine q_region ?_; (iterate 2 refine ql_pure tabOk rfl rfl ?_); refine q_nil ?_; refine q_ret ?_)
    refine q_fin tabOk rfl (by repeat (first | exact RVs.nil | apply RVs.tmp rfl | apply RVs.cellA rfl rfl (by repeat first | exact .head _ | refine .tail _ ?_) (by rfl) | apply RVs.cell1 rfl rfl (by repeat first | exact .head _ | refine .tail _ ?_))) fun w hs => ?_
    exact ⟨rfl, hs.chg0⟩
  | true =>
  have h2 := (hheld x.store (by omega)).1 hb
  rw [if_neg (by omega)]
  (refine ql_pure tabOk rfl rfl ?_; refine q_nil ?_; refine q_cond_false rfl ?_; refine q_skip ?_; refine q_seq ?_)
  refine q_draw _ [] (Sp.refl _) (by kernel_rfl) (by kernel_rfl) ?_
  (refine qf_pure tabOk rfl rfl rfl ?_; refine qf_loadB tabOk rfl rfl rfl (by repeat first | exact .head _ | refine .tail _ ?_) (by rfl) ?_; (iterate 2 refine qf_pure tabOk rfl rfl rfl ?_); refine qf_nil ?_; refine q_seq ?_; refine q_block ?_)
  refine q_loop (σ := Int × Int) (fun s => (-1 ≤ s.1 ∧ s.1 < s.2 ∧ s.2 ≤ x.store) ∧ N.1 ≤ s.2 ∧ (s.1 = -1 ∨ s.1 < N.1)) (fun s => (s.2 - s.1).toNat) (fun s => [(1, .pointer (some ⟨b1, 0, none⟩)), (5, .int .i64 s.1), (6, .int .i64 s.2)]) (fun _ => [.pt b1 (wnC x a c) 93]) (-1, x.store) ⟨by simp only; omega, by simp only; omega, .inl rfl⟩ ⟨rfl, rfl, rfl, trivial⟩ (by repeat (first | exact Sp.nil | exact Sp.refl _ | refine Sp.cons (by repeat constructor) ?_)) ?_
  rintro ⟨l, u⟩ ⟨hlu, hu, hl⟩ K hK
  simp only at hlu hu hl
  dsimp only
  by_cases hgo : u - l > 1
  · have hn : l < (l + u) / 2 ∧ (l + u) / 2 < u ∧ 0 ≤ (l + u) / 2 := by omega
    have hq := hheld ((l + u) / 2) (by omega)
    ((iterate 2 refine q_seq ?_); refine q_region ?_; (iterate 2 refine ql_pure tabOk rfl rfl ?_); refine ql_ar tabOk rfl rfl rfl rfl (by omega) (by omega) ?_; refine ql_gtrT tabOk rfl rfl rfl (by omega) ?_; refine q_nil ?_; refine q_cond_true rfl ?_; refine q_skip ?_; refine q_block ?_; refine q_seq ?_; refine q_region ?_; (iterate 2 refine ql_pure tabOk rfl rfl ?_); refine ql_ar tabOk rfl rfl rfl rfl (by omega) (by omega) ?_; refine ql_quoN rfl rfl rfl (by omega) (by omega) (by omega) ?_; refine ql_pure tabOk rfl rfl ?_; refine q_nil ?_; refine q_seq ?_; refine q_region ?_; refine ql_pure tabOk rfl rfl ?_; refine ql_geqT tabOk rfl rfl rfl (by omega) ?_; refine ql_pure tabOk rfl rfl ?_; refine ql_gyes rfl ?_; refine ql_loadAB tabOk rfl rfl rfl (by repeat first | exact .head _ | refine .tail _ ?_) (by rfl) (by rfl) ?_; refine ql_gyes rfl ?_; refine ql_pure tabOk rfl rfl ?_; refine ql_gyes rfl ?_; refine ql_pure tabOk rfl rfl ?_; refine ql_gyes rfl ?_; refine ql_loadB tabOk rfl rfl rfl (by repeat first | exact .head _ | refine .tail _ ?_) (by rfl) ?_; refine ql_gyes rfl ?_)
    refine ql_callv (val := .bool (heldB ⟨(l + u) / 2, x.store, x.days⟩)) tabOk rfl rfl rfl rfl (fun w hs => ?_) ?_; exact held_ca w lo hi x a c ((l + u) / 2) x.store (RdE.keep h hs.chg0) hlen
    generalize (l + u) / 2 = n at *
    cases hb2 : heldB ⟨n, x.store, x.days⟩ with
    | true =>
      have h5 := hq.1 hb2
      (refine ql_pure tabOk rfl rfl ?_; refine q_nil ?_; refine q_cond_true rfl ?_; refine q_region ?_; (iterate 2 refine ql_pure tabOk rfl rfl ?_); refine q_nil ?_; refine q_blk ?_)
      exact hK (l, n) _ _ ⟨by simp only; omega, by simp only; omega, hl⟩ (by simp only; omega) ⟨rfl, rfl, rfl, trivial⟩ (by repeat (first | exact Sp.nil | exact Sp.refl _ | refine Sp.cons (by repeat constructor) ?_))
    | false =>
      have h5 : ¬ N.1 ≤ n := fun hh => by rw [hq.2 ⟨hh, h2.2⟩] at hb2; cases hb2
      (refine ql_pure tabOk rfl rfl ?_; refine q_nil ?_; refine q_cond_false rfl ?_; refine q_region ?_; (iterate 2 refine ql_pure tabOk rfl rfl ?_); refine q_nil ?_; refine q_blk ?_)
      exact hK (n, u) _ _ ⟨by simp only; omega, by simp only; omega, .inr (by simp only; omega)⟩ (by simp only; omega) ⟨rfl, rfl, rfl, trivial⟩ (by repeat (first | exact Sp.nil | exact Sp.refl _ | refine Sp.cons (by repeat constructor) ?_))
  · obtain rfl : u = N.1 := by omega
    ((iterate 2 refine q_seq ?_); refine q_region ?_; (iterate 2 refine ql_pure tabOk rfl rfl ?_); refine ql_ar tabOk rfl rfl rfl rfl (by omega) (by omega) ?_; refine ql_gtrF tabOk rfl rfl rfl (by omega) ?_; refine q_nil ?_; refine q_cond_false rfl ?_; refine q_exit _ rfl ?_; refine q_seq ?_; refine q_region ?_; (iterate 3 refine ql_pure tabOk rfl rfl ?_); refine q_nil ?_; refine q_ret ?_)
    refine q_fin tabOk rfl (by repeat (first | exact RVs.nil | apply RVs.tmp rfl | apply RVs.cellA rfl rfl (by repeat first | exact .head _ | refine .tail _ ?_) (by rfl) | apply RVs.cell1 rfl rfl (by repeat first | exact .head _ | refine .tail _ ?_))) fun w hs => ?_
    exact ⟨rfl, hs.chg0⟩
set_option maxHeartbeats 4000000 in
theorem rroom_ca (w : World) (lo hi : Nat) (x : Wn) (a : Option Addr) (c : Nat) (h : RdD w lo hi (.slice a x.days.length c) x.days) (hlen : x.days.length ≤ 1000000) :
    Ca Try.prog 56 [.agg (wnC x a c).toArray] w fun r w' => r = .tuple #[.int .i64 (roomV x).1, .int .i64 (roomV x).2] ∧ Chg [] w w' := by
  refine q_of (Sat.nil w M0) Try.func56 rfl (by simp [Try.ntmps56]) ?_
  (refine q_seq ?_; refine q_region ?_)
  refine ql_box rfl rfl (fun b1 => ?_)
  ((iterate 2 refine ql_pure tabOk rfl rfl ?_); refine q_nil ?_; (iterate 2 refine q_seq ?_); refine q_region ?_; refine ql_loadAB tabOk rfl rfl rfl (by repeat first | exact .head _ | refine .tail _ ?_) (by rfl) (by rfl) ?_)
  refine ql_callv (val := .int .i64 (checkW x)) tabOk rfl rfl rfl rfl (fun w hs => ?_) ?_; exact rcheckW_ca w lo hi x a c (RdE.keep h hs.chg0) hlen
  by_cases h0 : checkW x ≠ 0
  · have e : roomV x = (0, checkW x) := by unfold roomV; rw [if_pos h0]
    rw [e]
    rcases checkW_or x with h1 | h1 | h1
    · exact absurd h1 h0
    all_goals
      rw [h1]
      (refine ql_pure tabOk rfl rfl ?_; refine q_nil ?_; refine q_seq ?_; refine q_region ?_; refine ql_pure tabOk rfl rfl ?_; refine ql_neqT tabOk rfl rfl rfl (by omega) ?_; refine q_nil ?_; refine q_cond_true rfl ?_; refine q_seq ?_; refine q_region ?_; (iterate 3 refine ql_pure tabOk rfl rfl ?_); refine q_nil ?_; refine q_ret ?_)
      refine q_fin tabOk rfl (by repeat (first | exact RVs.nil | apply RVs.tmp rfl | apply RVs.cellA rfl rfl (by repeat first | exact .head _ | refine .tail _ ?_) (by rfl) | apply RVs.cell1 rfl rfl (by repeat first | exact .head _ | refine .tail _ ?_))) fun w hs => ?_
      exact ⟨rfl, hs.chg0⟩
  have h0 : checkW x = 0 := by omega
  have hx := checkW_iff.1 h0
  have hst := hx.store
  have hsk := hx.stock
  have e := room_eq hx
  have hnd := nd_bd hx x.days.length
  have hheld : ∀ n : Int, x.stock ≤ n ∧ 1 ≤ n ∧ n ≤ 1000000 → (heldB ⟨x.stock, n, x.days⟩ = true ↔ (neededV x).1 ≤ x.stock ∧ (neededV x).2 ≤ n) := fun n hn => held_iff hx ⟨hsk.1, hn.1⟩ hn.2
  rw [h0, e]
  change (0 ≤ (neededV x).1 ∧ _) ∧ 0 ≤ (neededV x).2 ∧ _ at hnd
  generalize neededV x = N at *
  (refine ql_pure tabOk rfl rfl ?_; refine q_nil ?_; refine q_seq ?_; refine q_region ?_; refine ql_pure tabOk rfl rfl ?_; refine ql_neqF tabOk rfl rfl rfl (by omega) ?_; refine q_nil ?_; refine q_cond_false rfl ?_; refine q_skip ?_; (iterate 2 refine q_seq ?_); refine q_region ?_; refine ql_loadAB tabOk rfl rfl rfl (by repeat first | exact .head _ | refine .tail _ ?_) (by rfl) (by rfl) ?_; refine ql_pure tabOk rfl rfl ?_; refine ql_loadB tabOk rfl rfl rfl (by repeat first | exact .head _ | refine .tail _ ?_) (by rfl) ?_)
  refine ql_callv (val := .bool (heldB ⟨x.stock, 1000000, x.days⟩)) tabOk rfl rfl rfl rfl (fun w hs => ?_) ?_; exact held_ca w lo hi x a c x.stock 1000000 (RdE.keep h hs.chg0) hlen
  cases hb : heldB ⟨x.stock, 1000000, x.days⟩ with
  | false =>
    have h2 := (hheld 1000000 (by omega)).2
    have h3 : x.stock < N.1 ∨ 1000000 < N.2 := by
      refine Classical.byContradiction fun hh => ?_
      rw [h2 (by omega)] at hb
      cases hb
    rw [if_pos h3]
    (refine ql_pure tabOk rfl rfl ?_; refine q_nil ?_; refine q_cond_true rfl ?_; refine q_seq ?_; refine q_region ?_; (iterate 2 refine ql_pure tabOk rfl rfl ?_); refine q_nil ?_; refine q_ret ?_)
    refine q_fin tabOk rfl (by repeat (first | exact RVs.nil | apply RVs.tmp rfl | apply RVs.cellA rfl rfl (by repeat first | exact .head _ | refine .tail _ ?_) (by rfl) | apply RVs.cell1 rfl rfl (by repeat first | exact .head _ | refine .tail _ ?_))) fun w hs => ?_
    exact ⟨rfl, hs.chg0⟩
  | true =>
  have h2 := (hheld 1000000 (by omega)).1 hb
  rw [if_neg (by omega)]
  by_cases hz : x.stock - 1 < 0
  · (refine ql_pure tabOk rfl rfl ?_; refine q_nil ?_; refine q_cond_false rfl ?_; refine q_skip ?_; refine q_seq ?_; refine q_region ?_; refine ql_pure tabOk rfl rfl ?_; refine ql_loadB tabOk rfl rfl rfl (by repeat first | exact .head _ | refine .tail _ ?_) (by rfl) ?_; refine ql_ar tabOk rfl rfl rfl rfl (by omega) (by omega) ?_; (iterate 2 refine ql_pure tabOk rfl rfl ?_); refine q_nil ?_; (iterate 2 refine q_seq ?_); refine q_region ?_; refine ql_pure tabOk rfl rfl ?_; refine ql_lssT tabOk rfl rfl rfl (by omega) ?_; refine q_nil ?_; refine q_cond_true rfl ?_; refine q_region ?_; refine ql_pure tabOk rfl rfl ?_; refine q_nil ?_; refine q_seq ?_; refine q_block ?_)
    refine q_loop (σ := Int × Int) (fun s => (max 0 (x.stock - 1) ≤ s.1 ∧ s.1 < s.2 ∧ s.2 ≤ 1000000) ∧ N.2 ≤ s.2 ∧ (s.1 = max 0 (x.stock - 1) ∨ s.1 < N.2)) (fun s => (s.2 - s.1).toNat) (fun s => [(1, .pointer (some ⟨b1, 0, none⟩)), (5, .int .i64 s.1), (6, .int .i64 s.2)]) (fun _ => [.pt b1 (wnC x a c) 93]) (max 0 (x.stock - 1), 1000000) ⟨by simp only; omega, by simp only; omega, .inl rfl⟩ ⟨rfl, lookI rfl (by simp only; omega), rfl, trivial⟩ (by repeat (first | exact Sp.nil | exact Sp.refl _ | refine Sp.cons (by repeat constructor) ?_)) ?_
    rintro ⟨l, u⟩ ⟨hlu, hu, hl⟩ K hK
    simp only at hlu hu hl
    dsimp only
    by_cases hgo : u - l > 1
    · have hn : l < (l + u) / 2 ∧ (l + u) / 2 < u ∧ 0 ≤ (l + u) / 2 := by omega
      have hq := hheld ((l + u) / 2) (by omega)
      ((iterate 2 refine q_seq ?_); refine q_region ?_; (iterate 2 refine ql_pure tabOk rfl rfl ?_); refine ql_ar tabOk rfl rfl rfl rfl (by omega) (by omega) ?_; refine ql_gtrT tabOk rfl rfl rfl (by omega) ?_; refine q_nil ?_; refine q_cond_true rfl ?_; refine q_skip ?_; refine q_block ?_; refine q_seq ?_; refine q_region ?_; (iterate 2 refine ql_pure tabOk rfl rfl ?_); refine ql_ar tabOk rfl rfl rfl rfl (by omega) (by omega) ?_; refine ql_quoN rfl rfl rfl (by omega) (by omega) (by omega) ?_; refine ql_pure tabOk rfl rfl ?_; refine q_nil ?_; refine q_seq ?_; refine q_region ?_; refine ql_loadAB tabOk rfl rfl rfl (by repeat first | exact .head _ | refine .tail _ ?_) (by rfl) (by rfl) ?_; refine ql_pure tabOk rfl rfl ?_; refine ql_loadB tabOk rfl rfl rfl (by repeat first | exact .head _ | refine .tail _ ?_) (by rfl) ?_; refine ql_pure tabOk rfl rfl ?_)
      refine ql_callv (val := .bool (heldB ⟨x.stock, (l + u) / 2, x.days⟩)) tabOk rfl rfl rfl rfl (fun w hs => ?_) ?_; exact held_ca w lo hi x a c x.stock ((l + u) / 2) (RdE.keep h hs.chg0) hlen
      generalize (l + u) / 2 = n at *
      cases hb2 : heldB ⟨x.stock, n, x.days⟩ with
      | true =>
        have h5 := hq.1 hb2
        (refine q_nil ?_; refine q_cond_true rfl ?_; refine q_region ?_; (iterate 2 refine ql_pure tabOk rfl rfl ?_); refine q_nil ?_; refine q_blk ?_)
        exact hK (l, n) _ _ ⟨by simp only; omega, by simp only; omega, hl⟩ (by simp only; omega) ⟨rfl, rfl, rfl, trivial⟩ (by repeat (first | exact Sp.nil | exact Sp.refl _ | refine Sp.cons (by repeat constructor) ?_))
      | false =>
        have h5 : ¬ N.2 ≤ n := fun hh => by rw [hq.2 ⟨h2.1, hh⟩] at hb2; cases hb2
        (refine q_nil ?_; refine q_cond_false rfl ?_; refine q_region ?_; (iterate 2 refine ql_pure tabOk rfl rfl ?_); refine q_nil ?_; refine q_blk ?_)
        exact hK (n, u) _ _ ⟨by simp only; omega, by simp only; omega, .inr (by simp only; omega)⟩ (by simp only; omega) ⟨rfl, rfl, rfl, trivial⟩ (by repeat (first | exact Sp.nil | exact Sp.refl _ | refine Sp.cons (by repeat constructor) ?_))
    · obtain rfl : u = max (max 1 x.stock) N.2 := by omega
      ((iterate 2 refine q_seq ?_); refine q_region ?_; (iterate 2 refine ql_pure tabOk rfl rfl ?_); refine ql_ar tabOk rfl rfl rfl rfl (by omega) (by omega) ?_; refine ql_gtrF tabOk rfl rfl rfl (by omega) ?_; refine q_nil ?_; refine q_cond_false rfl ?_; refine q_exit _ rfl ?_; refine q_seq ?_; refine q_region ?_; (iterate 3 refine ql_pure tabOk rfl rfl ?_); refine q_nil ?_; refine q_ret ?_)
      refine q_fin tabOk rfl (by repeat (first | exact RVs.nil | apply RVs.tmp rfl | apply RVs.cellA rfl rfl (by repeat first | exact .head _ | refine .tail _ ?_) (by rfl) | apply RVs.cell1 rfl rfl (by repeat first | exact .head _ | refine .tail _ ?_))) fun w hs => ?_
      exact ⟨rfl, hs.chg0⟩
  · (refine ql_pure tabOk rfl rfl ?_; refine q_nil ?_; refine q_cond_false rfl ?_; refine q_skip ?_; refine q_seq ?_; refine q_region ?_; refine ql_pure tabOk rfl rfl ?_; refine ql_loadB tabOk rfl rfl rfl (by repeat first | exact .head _ | refine .tail _ ?_) (by rfl) ?_; refine ql_ar tabOk rfl rfl rfl rfl (by omega) (by omega) ?_; (iterate 2 refine ql_pure tabOk rfl rfl ?_); refine q_nil ?_; (iterate 2 refine q_seq ?_); refine q_region ?_; refine ql_pure tabOk rfl rfl ?_; refine ql_lssF tabOk rfl rfl rfl (by omega) ?_; refine q_nil ?_; refine q_cond_false rfl ?_; refine q_skip ?_; refine q_seq ?_; refine q_block ?_)
    refine q_loop (σ := Int × Int) (fun s => (max 0 (x.stock - 1) ≤ s.1 ∧ s.1 < s.2 ∧ s.2 ≤ 1000000) ∧ N.2 ≤ s.2 ∧ (s.1 = max 0 (x.stock - 1) ∨ s.1 < N.2)) (fun s => (s.2 - s.1).toNat) (fun s => [(1, .pointer (some ⟨b1, 0, none⟩)), (5, .int .i64 s.1), (6, .int .i64 s.2)]) (fun _ => [.pt b1 (wnC x a c) 93]) (max 0 (x.stock - 1), 1000000) ⟨by simp only; omega, by simp only; omega, .inl rfl⟩ ⟨rfl, lookI rfl (by simp only; omega), rfl, trivial⟩ (by repeat (first | exact Sp.nil | exact Sp.refl _ | refine Sp.cons (by repeat constructor) ?_)) ?_
    rintro ⟨l, u⟩ ⟨hlu, hu, hl⟩ K hK
    simp only at hlu hu hl
    dsimp only
    by_cases hgo : u - l > 1
    · have hn : l < (l + u) / 2 ∧ (l + u) / 2 < u ∧ 0 ≤ (l + u) / 2 := by omega
      have hq := hheld ((l + u) / 2) (by omega)
      ((iterate 2 refine q_seq ?_); refine q_region ?_; (iterate 2 refine ql_pure tabOk rfl rfl ?_); refine ql_ar tabOk rfl rfl rfl rfl (by omega) (by omega) ?_; refine ql_gtrT tabOk rfl rfl rfl (by omega) ?_; refine q_nil ?_; refine q_cond_true rfl ?_; refine q_skip ?_; refine q_block ?_; refine q_seq ?_; refine q_region ?_; (iterate 2 refine ql_pure tabOk rfl rfl ?_); refine ql_ar tabOk rfl rfl rfl rfl (by omega) (by omega) ?_; refine ql_quoN rfl rfl rfl (by omega) (by omega) (by omega) ?_; refine ql_pure tabOk rfl rfl ?_; refine q_nil ?_; refine q_seq ?_; refine q_region ?_; refine ql_loadAB tabOk rfl rfl rfl (by repeat first | exact .head _ | refine .tail _ ?_) (by rfl) (by rfl) ?_; refine ql_pure tabOk rfl rfl ?_; refine ql_loadB tabOk rfl rfl rfl (by repeat first | exact .head _ | refine .tail _ ?_) (by rfl) ?_; refine ql_pure tabOk rfl rfl ?_)
      refine ql_callv (val := .bool (heldB ⟨x.stock, (l + u) / 2, x.days⟩)) tabOk rfl rfl rfl rfl (fun w hs => ?_) ?_; exact held_ca w lo hi x a c x.stock ((l + u) / 2) (RdE.keep h hs.chg0) hlen
      generalize (l + u) / 2 = n at *
      cases hb2 : heldB ⟨x.stock, n, x.days⟩ with
      | true =>
        have h5 := hq.1 hb2
        (refine q_nil ?_; refine q_cond_true rfl ?_; refine q_region ?_; (iterate 2 refine ql_pure tabOk rfl rfl ?_); refine q_nil ?_; refine q_blk ?_)
        exact hK (l, n) _ _ ⟨by simp only; omega, by simp only; omega, hl⟩ (by simp only; omega) ⟨rfl, rfl, rfl, trivial⟩ (by repeat (first | exact Sp.nil | exact Sp.refl _ | refine Sp.cons (by repeat constructor) ?_))
      | false =>
        have h5 : ¬ N.2 ≤ n := fun hh => by rw [hq.2 ⟨h2.1, hh⟩] at hb2; cases hb2
        (refine q_nil ?_; refine q_cond_false rfl ?_; refine q_region ?_; (iterate 2 refine ql_pure tabOk rfl rfl ?_); refine q_nil ?_; refine q_blk ?_)
        exact hK (n, u) _ _ ⟨by simp only; omega, by simp only; omega, .inr (by simp only; omega)⟩ (by simp only; omega) ⟨rfl, rfl, rfl, trivial⟩ (by repeat (first | exact Sp.nil | exact Sp.refl _ | refine Sp.cons (by repeat constructor) ?_))
    · obtain rfl : u = max (max 1 x.stock) N.2 := by omega
      ((iterate 2 refine q_seq ?_); refine q_region ?_; (iterate 2 refine ql_pure tabOk rfl rfl ?_); refine ql_ar tabOk rfl rfl rfl rfl (by omega) (by omega) ?_; refine ql_gtrF tabOk rfl rfl rfl (by omega) ?_; refine q_nil ?_; refine q_cond_false rfl ?_; refine q_exit _ rfl ?_; refine q_seq ?_; refine q_region ?_; (iterate 3 refine ql_pure tabOk rfl rfl ?_); refine q_nil ?_; refine q_ret ?_)
      refine q_fin tabOk rfl (by repeat (first | exact RVs.nil | apply RVs.tmp rfl | apply RVs.cellA rfl rfl (by repeat first | exact .head _ | refine .tail _ ?_) (by rfl) | apply RVs.cell1 rfl rfl (by repeat first | exact .head _ | refine .tail _ ?_))) fun w hs => ?_
      exact ⟨rfl, hs.chg0⟩
end Go.Proofs.Ytgeajgmefokifaa

/- Walk of the reference: the ranges of stocks. -/
namespace Go.Proofs.Ytgeajgmefokifaa
open Go Go.Eng

set_option maxHeartbeats 4000000 in
theorem rranges_ok (w : World) (lo hi : Nat) (x : Wn) (a : Option Addr) (c : Nat) (h : RdD w lo hi (.slice a x.days.length c) x.days) (hx : x.Right) :
    Ca Try.prog 58 [.agg (wnC x a c).toArray] w fun r w' => ∃ v : Value, r = .tuple #[v, .int .i64 0] ∧ Sat w M0 [.ow v 24 2 (rangesV x).length (spC (rangesV x))] w' := by
  have hn := hx.d2
  refine q_of (Sat.nil w M0) Try.func58 rfl (by simp [Try.ntmps58]) ?_
  (refine q_seq ?_; refine q_region ?_)
  refine ql_box rfl rfl (fun b1 => ?_)
  ((iterate 2 refine ql_pure tabOk rfl rfl ?_); refine q_nil ?_; (iterate 2 refine q_seq ?_); refine q_region ?_; refine ql_loadAB tabOk rfl rfl rfl (by repeat first | exact .head _ | refine .tail _ ?_) (by rfl) (by rfl) ?_)
  refine ql_callv (val := .int .i64 0) tabOk rfl rfl rfl rfl (fun w hs => ?_) ?_; exact by have := rcheckW_ca w lo hi x a c (RdE.keep h hs.chg0) (by omega); rw [checkW_iff.2 hx] at this; exact this
  (refine ql_pure tabOk rfl rfl ?_; refine q_nil ?_; refine q_seq ?_; refine q_region ?_; refine ql_pure tabOk rfl rfl ?_; refine ql_neqF tabOk rfl rfl rfl (by omega) ?_; refine q_nil ?_; refine q_cond_false rfl ?_; refine q_skip ?_; refine q_seq ?_; refine q_region ?_; refine ql_loadAB tabOk rfl rfl rfl (by repeat first | exact .head _ | refine .tail _ ?_) (by rfl) (by rfl) ?_)
  refine ql_call (β := Value × Value × Value) tabOk [] _ M0 rfl rfl rfl rfl (Sp.refl _) (fun _ h => h.elim) (fun w' hs => rworst_ca w' lo hi x a c (RdE.keep h hs.chg0) (by omega)) ?_
  rintro ⟨v1, v2, v3⟩ _ rfl
  dsimp only [List.cons_append, List.nil_append]
  (refine ql_pure tabOk rfl rfl ?_; (iterate 3 refine ql_ext tabOk rfl rfl rfl ?_); (iterate 3 refine ql_pure tabOk rfl rfl ?_); refine q_nil ?_; refine q_seq ?_; refine q_region ?_; refine ql_loadAB tabOk rfl rfl rfl (by repeat first | exact .head _ | refine .tail _ ?_) (by rfl) (by rfl) ?_; (iterate 3 refine ql_pure tabOk rfl rfl ?_))
  refine ql_call (β := Value × Value) tabOk [] _ M0 rfl rfl rfl rfl (Sp.refl _) (fun _ h => h.elim) (fun w' hs => rhap_ca w' lo hi x a c (worstW x) v1 v2 v3 (RdE.keep h hs.chg0) hx (worst_fine hx) (wtN_R (H := [.ow v1 3 1 x.days.length (ints (worstW x).need), .ow v2 3 1 x.days.length (ints (worstW x).make), .ow v3 3 1 x.days.length (ints (worstW x).loss), .pt b1 (wnC x a c) 93]) hs (worst_fine hx) (by repeat first | exact .head _ | refine .tail _ ?_) (by repeat first | exact .head _ | refine .tail _ ?_) (by repeat first | exact .head _ | refine .tail _ ?_))) ?_
  rintro ⟨y1, y2⟩ _ rfl
  dsimp only [List.cons_append, List.nil_append]
  (refine ql_pure tabOk rfl rfl ?_; (iterate 3 refine ql_ext tabOk rfl rfl rfl ?_); (iterate 3 refine ql_pure tabOk rfl rfl ?_); refine q_nil ?_; refine q_seq ?_; refine q_region ?_; refine ql_loadAB tabOk rfl rfl rfl (by repeat first | exact .head _ | refine .tail _ ?_) (by rfl) (by rfl) ?_)
  refine ql_call (β := Value × Value × Value) tabOk [] _ M0 rfl rfl rfl rfl (Sp.refl _) (fun _ h => h.elim) (fun w' hs => rbest_ca w' lo hi x a c (RdE.keep h hs.chg0) (by omega)) ?_
  rintro ⟨u1, u2, u3⟩ _ rfl
  dsimp only [List.cons_append, List.nil_append]
  (refine ql_pure tabOk rfl rfl ?_; (iterate 3 refine ql_ext tabOk rfl rfl rfl ?_); (iterate 3 refine ql_pure tabOk rfl rfl ?_); refine q_nil ?_; refine q_seq ?_; refine q_region ?_; refine ql_loadAB tabOk rfl rfl rfl (by repeat first | exact .head _ | refine .tail _ ?_) (by rfl) (by rfl) ?_; (iterate 3 refine ql_pure tabOk rfl rfl ?_))
  refine ql_call (β := Value × Value) tabOk [] _ M0 rfl rfl rfl rfl (Sp.refl _) (fun _ h => h.elim) (fun w' hs => rhap_ca w' lo hi x a c (bestW x) u1 u2 u3 (RdE.keep h hs.chg0) hx (best_fine hx) (by
    have hs' : Sat w M0 [.ow u1 3 1 x.days.length (ints (bestW x).need), .ow u2 3 1 x.days.length (ints (bestW x).make), .ow u3 3 1 x.days.length (ints (bestW x).loss), .ow y1 3 1 (hapV x (worstW x)).stocks.length (ints (hapV x (worstW x)).stocks), .ow y2 3 1 (hapV x (worstW x)).made.length (ints (hapV x (worstW x)).made), .ow v1 3 1 x.days.length (ints (worstW x).need), .ow v2 3 1 x.days.length (ints (worstW x).make), .ow v3 3 1 x.days.length (ints (worstW x).loss), .pt b1 (wnC x a c) 93] w' := hs
    exact wtN_R hs' (best_fine hx) (by repeat first | exact .head _ | refine .tail _ ?_) (by repeat first | exact .head _ | refine .tail _ ?_) (by repeat first | exact .head _ | refine .tail _ ?_))) ?_
  rintro ⟨z1, z2⟩ _ rfl
  dsimp only [List.cons_append, List.nil_append]
  have hc1 := count_le hx (worst_fine hx) (best_fine hx) (fun k hk => sq_worst (best_in hx) k hk)
  have hc2 := (hap_len hx (worst_fine hx)).1
  have hc3 := (hap_len hx (best_fine hx)).1
  rw [rngL_eq]
  generalize hapV x (worstW x) = S at *
  generalize hapV x (bestW x) = T at *
  (refine ql_pure tabOk rfl rfl ?_; (iterate 3 refine ql_ext tabOk rfl rfl rfl ?_); (iterate 3 refine ql_pure tabOk rfl rfl ?_); refine q_nil ?_; refine q_seq ?_; refine q_region ?_; refine ql_pure tabOk rfl rfl ?_; refine q_nil ?_; (iterate 2 refine q_seq ?_); refine q_region ?_; refine ql_pure tabOk rfl rfl ?_; refine q_nil ?_; refine q_block ?_)
  refine q_conv (H' := [.ow (.slice none 0 0) 24 2 0 (spC []), .ow y1 3 1 S.stocks.length (ints S.stocks), .ow z1 3 1 T.stocks.length (ints T.stocks)])
    (fun w' hs => (Sat.ownil hs 24 2).sp (by repeat (first | exact Sp.nil | exact Sp.refl _ | refine Sp.cons (by repeat constructor) ?_))) ?_
  refine q_fact (fun w hs => hs.slice2 (v := y1) (by repeat first | exact .head _ | refine .tail _ ?_)) ?_
  rintro ⟨sa, sc, rfl⟩
  refine q_fact (fun w hs => hs.slice2 (v := z1) (by repeat first | exact .head _ | refine .tail _ ?_)) ?_
  rintro ⟨ta, tc, rfl⟩
  refine q_loop (σ := Nat × Value) (fun s => s.1 ≤ S.stocks.length) (fun s => S.stocks.length - s.1) (fun s => [(8, .slice sa S.stocks.length sc), (11, .slice ta T.stocks.length tc), (14, s.2), (15, .int .i64 s.1)])
    (fun s => [.ow s.2 24 2 s.1 (spC (rngP S.stocks T.stocks s.1)), .ow (.slice sa S.stocks.length sc) 3 1 S.stocks.length (ints S.stocks), .ow (.slice ta T.stocks.length tc) 3 1 T.stocks.length (ints T.stocks)]) (0, .slice none 0 0) (by simp) ⟨rfl, rfl, rfl, rfl, trivial⟩ (by repeat (first | exact Sp.nil | exact Sp.refl _ | refine Sp.cons (by repeat constructor) ?_)) ?_
  rintro ⟨k, v⟩ hk K hK
  simp only at hk
  dsimp only
  ((iterate 2 refine q_seq ?_); refine q_region ?_; (iterate 4 refine ql_pure tabOk rfl rfl ?_); refine q_nil ?_)
  refine q_if rfl (fun hc => ?_) (fun hc => ?_)
  · have hk2 : k < S.stocks.length := by omega
    have hk3 : k < T.stocks.length := by omega
    clear hc
    refine q_fact (fun w hs => hs.ownSome (v := .slice sa S.stocks.length sc) (by repeat first | exact .head _ | refine .tail _ ?_) (by omega)) ?_
    rintro ⟨e1, f1, z1⟩
    cases z1
    refine q_fact (fun w hs => hs.ownSome (v := .slice ta T.stocks.length tc) (by repeat first | exact .head _ | refine .tail _ ?_) (by omega)) ?_
    rintro ⟨e2, f2, z2⟩
    cases z2
    (refine q_skip ?_; refine q_seq ?_; refine q_block ?_)
    refine q_draw _ [.ow v 24 2 k (spC (rngP S.stocks T.stocks k))] (Sp.cons (by repeat constructor) (Sp.refl _)) (by kernel_rfl) (by kernel_rfl) ?_
    ((iterate 3 refine qf_pure tabOk rfl rfl rfl ?_))
    (refine qf_index tabOk rfl rfl rfl rfl rfl (by omega) (by omega) ?_; refine qf_load1 tabOk rfl rfl rfl (fun w hs => RdI.at (hs.rdI (v := .slice (some ⟨e1, 0, none⟩) S.stocks.length sc) (l := S.stocks) (by repeat first | exact .head _ | refine .tail _ ?_) rfl) k hk2) ?_)
    ((iterate 2 refine qf_pure tabOk rfl rfl rfl ?_))
    (refine qf_index tabOk rfl rfl rfl rfl rfl (by omega) (by omega) ?_; refine qf_load1 tabOk rfl rfl rfl (fun w hs => RdI.at (hs.rdI (v := .slice (some ⟨e2, 0, none⟩) T.stocks.length tc) (l := T.stocks) (by repeat first | exact .head _ | refine .tail _ ?_) rfl) k hk3) ?_)
    skip
    refine qf_mk #[.int .i64 S.stocks[k], .int .i64 T.stocks[k]] rfl (by kernel_rfl) rfl ?_
    refine qf_mkS 24 [.int .i64 S.stocks[k], .int .i64 T.stocks[k]] rfl (by kernel_rfl) rfl (fun bn => ?_)
    refine qf_append (q := 1) slSp rfl rfl rfl (fun v' => by repeat constructor) (fun w' hs => ⟨_, _, Blk.rdSp (hs.blk (b := bn) (by repeat first | exact .head _ | refine .tail _ ?_))⟩) (spC_one _) (by omega) (by omega) (fun u => ?_)
    (refine qf_pure tabOk rfl rfl rfl ?_; refine qf_nil ?_; refine q_blk ?_; refine q_region ?_; refine ql_pure tabOk rfl rfl ?_; refine ql_ar tabOk rfl rfl rfl rfl (by omega) (by omega) ?_; refine ql_pure tabOk rfl rfl ?_; refine q_nil ?_)
    have f : spC (rngP S.stocks T.stocks (k + 1)) = spC (rngP S.stocks T.stocks k) ++ spC [(S.stocks[k], T.stocks[k])] := by rw [rngP_succ, getD_at hk2, getD_at hk3]; simp [spC]
    exact hK (k + 1, u) _ _ (by simp only; omega) (by simp only; omega) ⟨rfl, rfl, rfl, rfl, trivial⟩ (by dsimp only; rw [f]; repeat (first | exact Sp.nil | exact Sp.refl _ | refine Sp.cons (by repeat constructor) ?_))
  · obtain rfl : k = S.stocks.length := by omega
    clear hc hK
    (refine q_exit _ rfl ?_; refine q_seq ?_; refine q_region ?_; (iterate 3 refine ql_pure tabOk rfl rfl ?_); refine q_nil ?_; refine q_ret ?_)
    refine q_fin tabOk rfl (by repeat (first | exact RVs.nil | apply RVs.tmp rfl | apply RVs.cellA rfl rfl (by repeat first | exact .head _ | refine .tail _ ?_) (by rfl) | apply RVs.cell1 rfl rfl (by repeat first | exact .head _ | refine .tail _ ?_))) fun w hs => ?_
    have e1 : (rngL S.stocks T.stocks).length = S.stocks.length := by simp [rngL]
    refine ⟨_, rfl, ?_⟩
    rw [e1]
    exact hs.sp (by repeat (first | exact Sp.nil | exact Sp.refl _ | refine Sp.cons (by repeat constructor) ?_))
theorem rranges_no (w : World) (lo hi : Nat) (x : Wn) (a : Option Addr) (c : Nat) (h : RdD w lo hi (.slice a x.days.length c) x.days) (hlen : x.days.length ≤ 1000000) (hx : checkW x ≠ 0) :
    Ca Try.prog 58 [.agg (wnC x a c).toArray] w fun r w' => r = .tuple #[.slice none 0 0, .int .i64 (checkW x)] ∧ Chg [] w w' := by
  refine q_of (Sat.nil w M0) Try.func58 rfl (by simp [Try.ntmps58]) ?_
  (refine q_seq ?_; refine q_region ?_)
  refine ql_box rfl rfl (fun b1 => ?_)
  ((iterate 2 refine ql_pure tabOk rfl rfl ?_); refine q_nil ?_; (iterate 2 refine q_seq ?_); refine q_region ?_; refine ql_loadAB tabOk rfl rfl rfl (by repeat first | exact .head _ | refine .tail _ ?_) (by rfl) (by rfl) ?_)
  refine ql_callv (val := .int .i64 (checkW x)) tabOk rfl rfl rfl rfl (fun w hs => ?_) ?_; exact rcheckW_ca w lo hi x a c (RdE.keep h hs.chg0) (by omega)
  rcases checkW_or x with h1 | h1 | h1
  · exact absurd h1 hx
  all_goals
    rw [h1]
    (refine ql_pure tabOk rfl rfl ?_; refine q_nil ?_; refine q_seq ?_; refine q_region ?_; refine ql_pure tabOk rfl rfl ?_; refine ql_neqT tabOk rfl rfl rfl (by omega) ?_; refine q_nil ?_; refine q_cond_true rfl ?_; refine q_seq ?_; refine q_region ?_; (iterate 3 refine ql_pure tabOk rfl rfl ?_); refine q_nil ?_; refine q_ret ?_)
    refine q_fin tabOk rfl (by repeat (first | exact RVs.nil | apply RVs.tmp rfl | apply RVs.cellA rfl rfl (by repeat first | exact .head _ | refine .tail _ ?_) (by rfl) | apply RVs.cell1 rfl rfl (by repeat first | exact .head _ | refine .tail _ ?_))) fun w hs => ?_
    exact ⟨rfl, hs.chg0⟩
end Go.Proofs.Ytgeajgmefokifaa
