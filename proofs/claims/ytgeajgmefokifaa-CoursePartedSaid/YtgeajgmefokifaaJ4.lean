/- My texts K23, K24, K25, K1, K26, K27, L0, L7, W5, L8, W6, L9, L10, W7, L11a, L2, L11, joined: a claim takes at most 60 files. -/
import Derived.Test.YtgeajgmefokifaaJ3

/- Walks: lists compared. -/
namespace Go.Proofs.Ytgeajgmefokifaa
open Go Go.Eng

def eqIB (a b : List Int) : Bool := decide (a = b) && true
theorem eqIB_iff {a b : List Int} : eqIB a b = true ↔ a = b := by simp [eqIB]
set_option maxHeartbeats 1000000 in
theorem eqIF_ca (w : World) (lo hi lo2 hi2 : Nat) (v u : Value) (l m : List Int) (h1 : RdI w lo hi v l) (h2 : RdI w lo2 hi2 u m) (hlen : l.length ≤ 1000000) (hlen2 : m.length ≤ 1000000) :
    Ca Try.prog 26 [v, u] w fun r w' => r = .bool (eqIB l m) ∧ Chg [] w w' := by
  obtain ⟨a, ca, rfl, hsa⟩ := RdI.outI h1
  obtain ⟨b, cb, rfl, hsb⟩ := RdI.outI h2
  refine q_of (Sat.nil w M0) Try.func26 rfl (by simp [Try.ntmps26]) ?_
  (refine q_seq ?_; refine q_region ?_; refine ql_pure tabOk rfl rfl ?_; refine q_nil ?_; (iterate 2 refine q_seq ?_); refine q_region ?_; (iterate 5 refine ql_pure tabOk rfl rfl ?_); refine q_nil ?_)
  by_cases hll : l.length = m.length
  · rw [decide_eq_true (show (l.length : Int) = m.length by omega)]
    (refine q_cond_false rfl ?_; refine q_skip ?_; (iterate 2 refine q_seq ?_); refine q_region ?_; (iterate 3 refine ql_pure tabOk rfl rfl ?_); refine q_nil ?_; refine q_block ?_)
    refine q_loop (σ := Nat) (fun s => s ≤ l.length ∧ l.take s = m.take s) (fun s => l.length - s) (fun s => [(0, .slice a l.length ca), (1, .slice b m.length cb), (12, .int .i64 l.length), (13, .int .i64 s)]) (fun _ => []) 0 (by simp) ⟨rfl, rfl, rfl, rfl, trivial⟩ (by repeat (first | exact Sp.nil | exact Sp.refl _ | refine Sp.cons (by repeat constructor) ?_)) ?_
    rintro i ⟨hi, ht⟩ K hK
    (refine q_seq ?_; refine q_region ?_; refine ql_pure tabOk rfl rfl ?_; refine q_nil ?_; refine q_seq ?_)
    refine q_if rfl (fun hc => ?_) (fun hc => ?_)
    · have hi2 : i < l.length := by omega
      have hi3 : i < m.length := by omega
      clear hc
      obtain ⟨ba, oa, rfl⟩ := hsa (by omega)
      obtain ⟨bb, ob, rfl⟩ := hsb (by omega)
      (refine q_skip ?_; refine q_seq ?_; refine q_block ?_; refine q_seq ?_; refine q_region ?_; (iterate 2 refine ql_pure tabOk rfl rfl ?_); refine q_nil ?_; refine q_seq ?_)
      refine q_draw _ [] (Sp.refl _) (by kernel_rfl) (by kernel_rfl) ?_
      ((iterate 2 refine qf_pure tabOk rfl rfl rfl ?_))
      (refine qf_index tabOk rfl rfl rfl rfl rfl (by omega) (by omega) ?_; refine qf_load1 tabOk rfl rfl rfl (fun w hs => RdI.at (RdE.keep h1 hs.chg0) i hi2) ?_)
      ((iterate 2 refine qf_pure tabOk rfl rfl rfl ?_))
      (refine qf_index tabOk rfl rfl rfl rfl rfl (by omega) (by omega) ?_; refine qf_load1 tabOk rfl rfl rfl (fun w hs => RdI.at (RdE.keep h2 hs.chg0) i hi3) ?_)
      (refine qf_pure tabOk rfl rfl rfl ?_; refine qf_nil ?_)
      by_cases he : l[i] = m[i]
      · skip
        rw [decide_eq_true he]
        (refine q_cond_false rfl ?_; refine q_skip ?_; refine q_blk ?_; refine q_region ?_; refine ql_ar tabOk rfl rfl rfl rfl (by omega) (by omega) ?_; refine ql_pure tabOk rfl rfl ?_; refine q_nil ?_)
        exact hK (i + 1) _ _ ⟨by omega, by rw [List.take_succ_eq_append_getElem hi2, List.take_succ_eq_append_getElem hi3, ht, he]⟩ (by omega) ⟨rfl, rfl, rfl, rfl, trivial⟩ (by repeat (first | exact Sp.nil | exact Sp.refl _ | refine Sp.cons (by repeat constructor) ?_))
      · have e : eqIB l m = false := Bool.eq_false_iff.2 fun hh => he (by have := eqIB_iff.1 hh; subst this; rfl)
        rw [e, decide_eq_false he]
        (refine q_cond_true rfl ?_; refine q_seq ?_; refine q_region ?_; refine ql_pure tabOk rfl rfl ?_; refine q_nil ?_; refine q_ret ?_)
        refine q_fin tabOk rfl (by repeat (first | exact RVs.nil | apply RVs.tmp rfl | apply RVs.cellA rfl rfl (by repeat first | exact .head _ | refine .tail _ ?_) (by rfl) | apply RVs.cell1 rfl rfl (by repeat first | exact .head _ | refine .tail _ ?_))) fun w hs => ?_
        exact ⟨rfl, hs.chg0⟩
    · obtain rfl : i = l.length := by omega
      have e : eqIB l m = true := eqIB_iff.2 (by rw [List.take_length] at ht; rw [hll, List.take_length] at ht; exact ht)
      rw [e]
      (refine q_exit _ rfl ?_; refine q_seq ?_; refine q_region ?_; refine ql_pure tabOk rfl rfl ?_; refine q_nil ?_; refine q_ret ?_)
      refine q_fin tabOk rfl (by repeat (first | exact RVs.nil | apply RVs.tmp rfl | apply RVs.cellA rfl rfl (by repeat first | exact .head _ | refine .tail _ ?_) (by rfl) | apply RVs.cell1 rfl rfl (by repeat first | exact .head _ | refine .tail _ ?_))) fun w hs => ?_
      exact ⟨rfl, hs.chg0⟩
  · have e : eqIB l m = false := Bool.eq_false_iff.2 fun hh => hll (by rw [eqIB_iff.1 hh])
    rw [e, decide_eq_false (show ¬ (l.length : Int) = m.length by omega)]
    (refine q_cond_true rfl ?_; refine q_seq ?_; refine q_region ?_; refine ql_pure tabOk rfl rfl ?_; refine q_nil ?_; refine q_ret ?_)
    refine q_fin tabOk rfl (by repeat (first | exact RVs.nil | apply RVs.tmp rfl | apply RVs.cellA rfl rfl (by repeat first | exact .head _ | refine .tail _ ?_) (by rfl) | apply RVs.cell1 rfl rfl (by repeat first | exact .head _ | refine .tail _ ?_))) fun w hs => ?_
    exact ⟨rfl, hs.chg0⟩
theorem eqI_ca (w : World) (lo hi lo2 hi2 : Nat) (v u : Value) (l : List Int) (h1 : RdI w lo hi v l) (h2 : RdI w lo2 hi2 u l) (hlen : l.length ≤ 1000000) :
    Ca Try.prog 26 [v, u] w fun r w' => r = .bool true ∧ Chg [] w w' := by
  have h := eqIF_ca w lo hi lo2 hi2 v u l l h1 h2 hlen hlen
  rwa [eqIB_iff.2 rfl] at h

set_option maxHeartbeats 1000000 in
theorem eqII_ca (w : World) (lo hi lo2 hi2 : Nat) (v u : Value) (ll : List (List Int)) (h1 : RdII w lo hi v ll) (h2 : RdII w lo2 hi2 u ll) (hlen : ll.length ≤ 1000000) (hrow : ∀ l ∈ ll, l.length ≤ 1000000) :
    Ca Try.prog 32 [v, u] w fun r w' => r = .bool true ∧ Chg [] w w' := by
  obtain ⟨a, ca, rfl, hsa⟩ := RdII.outI h1
  obtain ⟨b, cb, rfl, hsb⟩ := RdII.outI h2
  refine q_of (Sat.nil w M0) Try.func32 rfl (by simp [Try.ntmps32]) ?_
  (refine q_seq ?_; refine q_region ?_; refine ql_pure tabOk rfl rfl ?_; refine q_nil ?_; (iterate 2 refine q_seq ?_); refine q_region ?_; (iterate 4 refine ql_pure tabOk rfl rfl ?_); refine ql_neqF tabOk rfl rfl rfl (by omega) ?_; refine q_nil ?_; refine q_cond_false rfl ?_; refine q_skip ?_; (iterate 2 refine q_seq ?_); refine q_region ?_; (iterate 3 refine ql_pure tabOk rfl rfl ?_); refine q_nil ?_; refine q_block ?_)
  refine q_loop (σ := Nat) (fun s => s ≤ ll.length) (fun s => ll.length - s) (fun s => [(0, .slice a ll.length ca), (1, .slice b ll.length cb), (12, .int .i64 ll.length), (13, .int .i64 s)]) (fun _ => []) 0 (by omega) ⟨rfl, rfl, rfl, rfl, trivial⟩ (by repeat (first | exact Sp.nil | exact Sp.refl _ | refine Sp.cons (by repeat constructor) ?_)) ?_
  intro i hi K hK
  (refine q_seq ?_; refine q_region ?_; refine ql_pure tabOk rfl rfl ?_; refine q_nil ?_; refine q_seq ?_)
  refine q_if rfl (fun hc => ?_) (fun hc => ?_)
  · have hi2 : i < ll.length := by omega
    clear hc
    obtain ⟨ba, oa, rfl⟩ := hsa (by omega)
    obtain ⟨bb, ob, rfl⟩ := hsb (by omega)
    obtain ⟨ar, cr, hr1, hc1⟩ := h1.row i hi2
    obtain ⟨br, dr, hr2, hc2⟩ := h2.row i hi2
    have hrl := hrow _ (List.getElem_mem hi2)
    (refine q_skip ?_; refine q_seq ?_; refine q_block ?_; refine q_seq ?_; refine q_region ?_; (iterate 2 refine ql_pure tabOk rfl rfl ?_); refine q_nil ?_; refine q_seq ?_)
    refine q_draw _ [] (Sp.refl _) (by kernel_rfl) (by kernel_rfl) ?_
    ((iterate 2 refine qf_pure tabOk rfl rfl rfl ?_))
    refine qf_index tabOk rfl rfl rfl rfl rfl (by omega) (by omega) ?_
    refine qf_load1 (v := .slice ar ll[i].length cr) tabOk rfl rfl rfl (fun w' hs => hc1 w' hs.chg0) ?_
    ((iterate 2 refine qf_pure tabOk rfl rfl rfl ?_))
    refine qf_index tabOk rfl rfl rfl rfl rfl (by omega) (by omega) ?_
    refine qf_load1 (v := .slice br ll[i].length dr) tabOk rfl rfl rfl (fun w' hs => hc2 w' hs.chg0) ?_
    skip
    refine qf_callv (val := .bool true) tabOk rfl rfl rfl rfl (fun w hs => ?_) ?_; exact eqI_ca w _ _ _ _ _ _ ll[i] (RdE.keep hr1 hs.chg0) (RdE.keep hr2 hs.chg0) hrl
    (refine qf_pure tabOk rfl rfl rfl ?_; refine qf_nil ?_; refine q_cond_false rfl ?_; refine q_skip ?_; refine q_blk ?_; refine q_region ?_; refine ql_ar tabOk rfl rfl rfl rfl (by omega) (by omega) ?_; refine ql_pure tabOk rfl rfl ?_; refine q_nil ?_)
    exact hK (i + 1) _ _ (by omega) (by omega) ⟨rfl, rfl, rfl, rfl, trivial⟩ (by repeat (first | exact Sp.nil | exact Sp.refl _ | refine Sp.cons (by repeat constructor) ?_))
  · (refine q_exit _ rfl ?_; refine q_seq ?_; refine q_region ?_; refine ql_pure tabOk rfl rfl ?_; refine q_nil ?_; refine q_ret ?_)
    refine q_fin tabOk rfl (by repeat (first | exact RVs.nil | apply RVs.tmp rfl | apply RVs.cellA rfl rfl (by repeat first | exact .head _ | refine .tail _ ?_) (by rfl) | apply RVs.cell1 rfl rfl (by repeat first | exact .head _ | refine .tail _ ?_))) fun w hs => ?_
    exact ⟨rfl, hs.chg0⟩

set_option maxHeartbeats 1000000 in
theorem eqR_ca (w : World) (lo hi lo2 hi2 : Nat) (v u : Value) (l : List Int) (h1 : RdI w lo hi v l) (h2 : RdI w lo2 hi2 u l) (hlen : l.length ≤ 1000000) :
    Ca Try.prog 49 [v, u] w fun r w' => r = .bool true ∧ Chg [] w w' := by
  obtain ⟨a, ca, rfl, hsa⟩ := RdI.outI h1
  obtain ⟨b, cb, rfl, hsb⟩ := RdI.outI h2
  refine q_of (Sat.nil w M0) Try.func49 rfl (by simp [Try.ntmps49]) ?_
  (refine q_seq ?_; refine q_region ?_; refine ql_pure tabOk rfl rfl ?_; refine q_nil ?_; (iterate 2 refine q_seq ?_); refine q_region ?_; (iterate 4 refine ql_pure tabOk rfl rfl ?_); refine ql_neqF tabOk rfl rfl rfl (by omega) ?_; refine q_nil ?_; refine q_cond_false rfl ?_; refine q_skip ?_; (iterate 2 refine q_seq ?_); refine q_region ?_; (iterate 3 refine ql_pure tabOk rfl rfl ?_); refine q_nil ?_; refine q_block ?_)
  refine q_loop (σ := Nat) (fun s => s ≤ l.length) (fun s => l.length - s) (fun s => [(0, .slice a l.length ca), (1, .slice b l.length cb), (12, .int .i64 l.length), (13, .int .i64 s)]) (fun _ => []) 0 (by omega) ⟨rfl, rfl, rfl, rfl, trivial⟩ (by repeat (first | exact Sp.nil | exact Sp.refl _ | refine Sp.cons (by repeat constructor) ?_)) ?_
  intro i hi K hK
  (refine q_seq ?_; refine q_region ?_; refine ql_pure tabOk rfl rfl ?_; refine q_nil ?_; refine q_seq ?_)
  refine q_if rfl (fun hc => ?_) (fun hc => ?_)
  · have hi2 : i < l.length := by omega
    clear hc
    obtain ⟨ba, oa, rfl⟩ := hsa (by omega)
    obtain ⟨bb, ob, rfl⟩ := hsb (by omega)
    (refine q_skip ?_; refine q_seq ?_; refine q_block ?_; refine q_seq ?_; refine q_region ?_; (iterate 2 refine ql_pure tabOk rfl rfl ?_); refine q_nil ?_; refine q_seq ?_)
    refine q_draw _ [] (Sp.refl _) (by kernel_rfl) (by kernel_rfl) ?_
    ((iterate 2 refine qf_pure tabOk rfl rfl rfl ?_))
    (refine qf_index tabOk rfl rfl rfl rfl rfl (by omega) (by omega) ?_; refine qf_load1 tabOk rfl rfl rfl (fun w hs => RdI.at (RdE.keep h1 hs.chg0) i hi2) ?_)
    ((iterate 2 refine qf_pure tabOk rfl rfl rfl ?_))
    (refine qf_index tabOk rfl rfl rfl rfl rfl (by omega) (by omega) ?_; refine qf_load1 tabOk rfl rfl rfl (fun w hs => RdI.at (RdE.keep h2 hs.chg0) i hi2) ?_)
    (refine qf_neqF tabOk rfl rfl rfl (by omega) ?_; refine qf_nil ?_; refine q_cond_false rfl ?_; refine q_skip ?_; refine q_blk ?_; refine q_region ?_; refine ql_ar tabOk rfl rfl rfl rfl (by omega) (by omega) ?_; refine ql_pure tabOk rfl rfl ?_; refine q_nil ?_)
    skip
    exact hK (i + 1) _ _ (by omega) (by omega) ⟨rfl, rfl, rfl, rfl, trivial⟩ (by repeat (first | exact Sp.nil | exact Sp.refl _ | refine Sp.cons (by repeat constructor) ?_))
  · (refine q_exit _ rfl ?_; refine q_seq ?_; refine q_region ?_; refine ql_pure tabOk rfl rfl ?_; refine q_nil ?_; refine q_ret ?_)
    refine q_fin tabOk rfl (by repeat (first | exact RVs.nil | apply RVs.tmp rfl | apply RVs.cellA rfl rfl (by repeat first | exact .head _ | refine .tail _ ?_) (by rfl) | apply RVs.cell1 rfl rfl (by repeat first | exact .head _ | refine .tail _ ?_))) fun w hs => ?_
    exact ⟨rfl, hs.chg0⟩

theorem spn_flat : flatB Try.prog 24 [some .i64, some .i64] = true := by kernel_rfl
set_option maxHeartbeats 1000000 in
theorem eqS_ca (w : World) (lo hi lo2 hi2 : Nat) (v u : Value) (l : List (Int × Int)) (h1 : RdS w lo hi v l) (h2 : RdS w lo2 hi2 u l) (hlen : l.length ≤ 1000000) :
    Ca Try.prog 59 [v, u] w fun r w' => r = .bool true ∧ Chg [] w w' := by
  obtain ⟨a, ca, rfl, hsa⟩ := RdS.outI h1
  obtain ⟨b, cb, rfl, hsb⟩ := RdS.outI h2
  refine q_of (Sat.nil w M0) Try.func59 rfl (by simp [Try.ntmps59]) ?_
  (refine q_seq ?_; refine q_region ?_; refine ql_pure tabOk rfl rfl ?_; refine q_nil ?_; (iterate 2 refine q_seq ?_); refine q_region ?_; (iterate 4 refine ql_pure tabOk rfl rfl ?_); refine ql_neqF tabOk rfl rfl rfl (by omega) ?_; refine q_nil ?_; refine q_cond_false rfl ?_; refine q_skip ?_; (iterate 2 refine q_seq ?_); refine q_region ?_; (iterate 3 refine ql_pure tabOk rfl rfl ?_); refine q_nil ?_; refine q_block ?_)
  refine q_loop (σ := Nat) (fun s => s ≤ l.length) (fun s => l.length - s) (fun s => [(0, .slice a l.length ca), (1, .slice b l.length cb), (12, .int .i64 l.length), (13, .int .i64 s)]) (fun _ => []) 0 (by omega) ⟨rfl, rfl, rfl, rfl, trivial⟩ (by repeat (first | exact Sp.nil | exact Sp.refl _ | refine Sp.cons (by repeat constructor) ?_)) ?_
  intro i hi K hK
  (refine q_seq ?_; refine q_region ?_; refine ql_pure tabOk rfl rfl ?_; refine q_nil ?_; refine q_seq ?_)
  refine q_if rfl (fun hc => ?_) (fun hc => ?_)
  · have hi2 : i < l.length := by omega
    clear hc
    obtain ⟨ba, oa, rfl⟩ := hsa (by omega)
    obtain ⟨bb, ob, rfl⟩ := hsb (by omega)
    (refine q_skip ?_; refine q_seq ?_; refine q_block ?_; refine q_seq ?_; refine q_region ?_; (iterate 2 refine ql_pure tabOk rfl rfl ?_); refine q_nil ?_; refine q_seq ?_)
    refine q_draw _ [] (Sp.refl _) (by kernel_rfl) (by kernel_rfl) ?_
    ((iterate 2 refine qf_pure tabOk rfl rfl rfl ?_))
    refine qf_index tabOk rfl rfl rfl rfl rfl (by omega) (by omega) ?_
    refine qf_loadA tabOk rfl rfl rfl rfl (fun w hs => RdS.at (RdE.keep h1 hs.chg0) i hi2) ?_
    ((iterate 2 refine qf_pure tabOk rfl rfl rfl ?_))
    refine qf_index tabOk rfl rfl rfl rfl rfl (by omega) (by omega) ?_
    refine qf_loadA tabOk rfl rfl rfl rfl (fun w hs => RdS.at (RdE.keep h2 hs.chg0) i hi2) ?_
    skip
    refine qf_neF [some .i64, some .i64] spn_flat rfl rfl rfl rfl rfl ?_
    rw [eqL_refl]
    (refine qf_nil ?_; refine q_cond_false rfl ?_; refine q_skip ?_; refine q_blk ?_; refine q_region ?_; refine ql_ar tabOk rfl rfl rfl rfl (by omega) (by omega) ?_; refine ql_pure tabOk rfl rfl ?_; refine q_nil ?_)
    exact hK (i + 1) _ _ (by omega) (by omega) ⟨rfl, rfl, rfl, rfl, trivial⟩ (by repeat (first | exact Sp.nil | exact Sp.refl _ | refine Sp.cons (by repeat constructor) ?_))
  · (refine q_exit _ rfl ?_; refine q_seq ?_; refine q_region ?_; refine ql_pure tabOk rfl rfl ?_; refine q_nil ?_; refine q_ret ?_)
    refine q_fin tabOk rfl (by repeat (first | exact RVs.nil | apply RVs.tmp rfl | apply RVs.cellA rfl rfl (by repeat first | exact .head _ | refine .tail _ ?_) (by rfl) | apply RVs.cell1 rfl rfl (by repeat first | exact .head _ | refine .tail _ ?_))) fun w hs => ?_
    exact ⟨rfl, hs.chg0⟩

end Go.Proofs.Ytgeajgmefokifaa

/- Walks: the examples; awake. -/
namespace Go.Proofs.Ytgeajgmefokifaa
open Go Go.Eng

theorem Blk.rdS {w : World} {b : Nat} {l : List (Int × Int)} {cs : List Value} {t : TypeId} {c : Nat} (h : Blk w b cs t) (hc : cs = spC l) : RdS w 0 w.heap.size (.slice (some ⟨b, 0, none⟩) l.length c) l := by
  subst hc
  exact RdS.of ⟨spC_length l, .inr ⟨b, 0, c, rfl, fun _ => ⟨Nat.zero_le _, h.lt, h.lt⟩, fun j _ => by rw [Blk.cell h]; simp⟩⟩
theorem Blk.rdL {w : World} {b : Nat} {l : List Lp} {cs : List Value} {t : TypeId} {c : Nat} (h : Blk w b cs t) (hc : cs = lpC l) : RdL w 0 w.heap.size (.slice (some ⟨b, 0, none⟩) l.length c) l := by
  subst hc
  exact RdL.of ⟨lpC_length l, .inr ⟨b, 0, c, rfl, fun _ => ⟨Nat.zero_le _, h.lt, h.lt⟩, fun j _ => by rw [Blk.cell h]; simp⟩⟩
theorem Blk.rdD {w : World} {b : Nat} {l : List Dy} {cs : List Value} {t : TypeId} {c : Nat} (h : Blk w b cs t) (hc : cs = dyC l) : RdD w 0 w.heap.size (.slice (some ⟨b, 0, none⟩) l.length c) l := by
  subst hc
  exact RdD.of ⟨dyC_length l, .inr ⟨b, 0, c, rfl, fun _ => ⟨Nat.zero_le _, h.lt, h.lt⟩, fun j _ => by rw [Blk.cell h]; simp⟩⟩
theorem RdII.of {w : World} {lo hi : Nat} {v : Value} {ll : List (List Int)} {vs : List Value} (h : Rd w lo hi v 1 vs.length vs) (h1 : vs.length = ll.length) (h2 : ∀ i (h : i < vs.length) (h' : i < ll.length), RdI w lo hi vs[i] ll[i]) (h3 : ∀ e ∈ vs, oneV e = true) : RdII w lo hi v ll :=
  ⟨vs, RdE.one h h3, h1, h2⟩
theorem spanM_ca (a b : Int) (w : World) : Ca Try.prog 42 [.int .i64 a, .int .i64 b] w fun v w' => v = .agg #[.int .i64 a, .int .i64 b] ∧ Chg [] w w' := by
  refine q_of (Sat.nil w M0) Try.func42 rfl (by simp [Try.ntmps42]) ?_
  (refine q_seq ?_; refine q_region ?_)
  refine ql_alloc zero24 rfl (fun b2 => ?_)
  (refine q_nil ?_; refine q_seq ?_; refine q_region ?_; (iterate 2 refine ql_pure tabOk rfl rfl ?_))
  refine ql_mk #[.int .i64 a, .int .i64 b] rfl (by kernel_rfl) rfl ?_
  (refine ql_setA tabOk rfl rfl rfl rfl rfl (by repeat constructor) rfl ?_; refine q_nil ?_; refine q_ret ?_)
  refine q_fin tabOk rfl (by repeat (first | exact RVs.nil | apply RVs.tmp rfl | apply RVs.cellA rfl rfl (by repeat first | exact .head _ | refine .tail _ ?_) (by rfl) | apply RVs.cell1 rfl rfl (by repeat first | exact .head _ | refine .tail _ ?_))) fun w hs => ?_
  exact ⟨rfl, hs.chg0⟩
def threeS : List Lp := [⟨2000, 60, 6⟩, ⟨2500, 90, 6⟩, ⟨3000, 100, 6⟩]
def threeR : Rl := ⟨3, 7000, 7500, 200, 270, 2000, 3000, 6, 2⟩
def threeQ : Rl := ⟨3, 7000, 7000, 200, 270, 2000, 3000, 6, 1⟩
def shortW (n : Int) : Wn := ⟨500, 800, [⟨300, 300, 100, 200, 10, 20⟩, ⟨200, 400, 300, 600, 10, 20⟩, ⟨min n 500, n, 0, 100, 10, 20⟩]⟩
theorem three_ca (w : World) : Ca Try.prog 86 [] w fun v w' => ∃ b : Nat, v = .tuple #[.slice (some ⟨b, 0, none⟩) 3 3, .agg (rlC threeR).toArray] ∧ Sat w M0 [.pt b (lpC threeS) 31] w' := by
  refine q_of (Sat.nil w M0) Try.func86 rfl (by simp [Try.ntmps86]) ?_
  (refine q_seq ?_; refine q_region ?_; refine ql_pure tabOk rfl rfl ?_)
  refine ql_alloc zero26 rfl (fun b1 => ?_)
  (refine q_nil ?_; refine q_seq ?_; refine q_region ?_)
  refine ql_mk #[.int .i64 2000, .int .i64 60, .int .i64 6] rfl (by kernel_rfl) rfl ?_
  refine ql_mk #[.int .i64 2500, .int .i64 90, .int .i64 6] rfl (by kernel_rfl) rfl ?_
  refine ql_mk #[.int .i64 3000, .int .i64 100, .int .i64 6] rfl (by kernel_rfl) rfl ?_
  refine ql_mkS 31 (lpC threeS) rfl (by kernel_rfl) rfl (fun bn => ?_)
  refine ql_callv tabOk rfl rfl rfl rfl (fun w hs => spanM_ca _ _ w) ?_
  refine ql_callv tabOk rfl rfl rfl rfl (fun w hs => spanM_ca _ _ w) ?_
  refine ql_callv tabOk rfl rfl rfl rfl (fun w hs => spanM_ca _ _ w) ?_
  refine ql_mk #[.int .i64 3, .int .i64 7000, .int .i64 7500, .int .i64 200, .int .i64 270, .int .i64 2000, .int .i64 3000, .int .i64 6, .int .i64 2] rfl (by kernel_rfl) rfl ?_
  (refine ql_pure tabOk rfl rfl ?_; refine ql_setA tabOk rfl rfl rfl rfl rfl (by repeat constructor) rfl ?_; refine q_nil ?_; refine q_ret ?_)
  refine q_fin tabOk rfl (by repeat (first | exact RVs.nil | apply RVs.tmp rfl | apply RVs.cellA rfl rfl (by repeat first | exact .head _ | refine .tail _ ?_) (by rfl) | apply RVs.cell1 rfl rfl (by repeat first | exact .head _ | refine .tail _ ?_))) fun w hs => ?_
  exact ⟨bn, rfl, hs.sp (by repeat (first | exact Sp.nil | exact Sp.refl _ | refine Sp.cons (by repeat constructor) ?_))⟩
theorem short_ca (w : World) (n : Int) : Ca Try.prog 87 [.int .i64 n] w fun v w' => ∃ b : Nat, v = .agg #[.int .i64 500, .int .i64 800, .slice (some ⟨b, 0, none⟩) 3 3] ∧ Sat w M0 [.pt b (dyC (shortW n).days) 73] w' := by
  refine q_of (Sat.nil w M0) Try.func87 rfl (by simp [Try.ntmps87]) ?_
  (refine q_seq ?_; refine q_region ?_)
  refine ql_alloc zero61 rfl (fun b2 => ?_)
  (refine q_nil ?_; refine q_seq ?_; refine q_region ?_)
  refine ql_callv tabOk rfl rfl rfl rfl (fun w hs => spanM_ca _ _ w) ?_
  refine ql_callv tabOk rfl rfl rfl rfl (fun w hs => spanM_ca _ _ w) ?_
  refine ql_callv tabOk rfl rfl rfl rfl (fun w hs => spanM_ca _ _ w) ?_
  refine ql_mk #[.int .i64 300, .int .i64 300, .int .i64 100, .int .i64 200, .int .i64 10, .int .i64 20] rfl (by kernel_rfl) rfl ?_
  refine ql_callv tabOk rfl rfl rfl rfl (fun w hs => spanM_ca _ _ w) ?_
  refine ql_callv tabOk rfl rfl rfl rfl (fun w hs => spanM_ca _ _ w) ?_
  refine ql_callv tabOk rfl rfl rfl rfl (fun w hs => spanM_ca _ _ w) ?_
  refine ql_mk #[.int .i64 200, .int .i64 400, .int .i64 300, .int .i64 600, .int .i64 10, .int .i64 20] rfl (by kernel_rfl) rfl ?_
  ((iterate 3 refine ql_pure tabOk rfl rfl ?_))
  refine ql_callv tabOk rfl rfl rfl rfl (fun w hs => spanM_ca _ _ w) ?_
  refine ql_callv tabOk rfl rfl rfl rfl (fun w hs => spanM_ca _ _ w) ?_
  refine ql_callv tabOk rfl rfl rfl rfl (fun w hs => spanM_ca _ _ w) ?_
  refine ql_mk #[.int .i64 (min n 500), .int .i64 n, .int .i64 0, .int .i64 100, .int .i64 10, .int .i64 20] rfl (by kernel_rfl) rfl ?_
  refine ql_mkS 73 (dyC (shortW n).days) rfl (by kernel_rfl) rfl (fun bn => ?_)
  refine ql_mk #[.int .i64 500, .int .i64 800, .slice (some ⟨bn, 0, none⟩) 3 3] rfl (by kernel_rfl) rfl ?_
  (refine ql_setA tabOk rfl rfl rfl rfl rfl (by repeat constructor) rfl ?_; refine q_nil ?_; refine q_ret ?_)
  refine q_fin tabOk rfl (by repeat (first | exact RVs.nil | apply RVs.tmp rfl | apply RVs.cellA rfl rfl (by repeat first | exact .head _ | refine .tail _ ?_) (by rfl) | apply RVs.cell1 rfl rfl (by repeat first | exact .head _ | refine .tail _ ?_))) fun w hs => ?_
  exact ⟨bn, rfl, hs.sp (by repeat (first | exact Sp.nil | exact Sp.refl _ | refine Sp.cons (by repeat constructor) ?_))⟩
theorem aw_all : allC threeS threeR = [[0, 0, 2], [0, 1, 1], [0, 1, 2]] := by decide +kernel
theorem aw_cr : CR threeS threeR := checkS_iff.1 (by decide +kernel)
theorem aw_cr2 : CR threeS threeQ := checkS_iff.1 (by decide +kernel)
theorem aw_brk : (brokenV threeS threeR [1, 1, 1]).2 = 0 := by decide +kernel
theorem aw_brk2 : brkL threeS threeR [1, 1, 1] = [4] := by decide +kernel
theorem aw_cheap : cheapO threeS threeR 40 (coursesL threeS.length (nL threeR)) = some [0, 1, 1] := by decide +kernel
theorem aw_snow : snowV threeS [0, 1, 1] 40 = 10800 := by decide +kernel
theorem aw_yield : yieldO threeS threeQ (coursesL threeS.length (nL threeQ)) = some [0, 1, 2] := by decide +kernel
theorem aw_yield2 : brkL threeS threeQ [0, 1, 2] = [0] := by decide +kernel
theorem aw_first : firstV (shortW 500) = (2, 0) := by decide +kernel
theorem aw_proves : provesV (shortW 500) (-1) 2 = (360, 0) := by decide +kernel
theorem aw_ranges : rangesV (shortW 500) = [(280, 390), (160, 600)] := by decide +kernel
theorem aw_right : (shortW 500).Right := checkW_iff.1 (by decide +kernel)
theorem aw_least : leastV (shortW 100) = (460, 0) := by decide +kernel
theorem aw_room : roomV (shortW 100) = (540, 0) := by decide +kernel
end Go.Proofs.Ytgeajgmefokifaa

/- Walks: awake. -/
namespace Go.Proofs.Ytgeajgmefokifaa
open Go Go.Eng

theorem blk_II {w : World} {c1 c2 c3 c4 : Nat} {t1 t2 t3 t4 : TypeId} {l1 l2 l3 : List Int} (h1 : Blk w c1 (ints l1) t1) (h2 : Blk w c2 (ints l2) t2) (h3 : Blk w c3 (ints l3) t3)
    (h4 : Blk w c4 [.slice (some ⟨c1, 0, none⟩) l1.length l1.length, .slice (some ⟨c2, 0, none⟩) l2.length l2.length, .slice (some ⟨c3, 0, none⟩) l3.length l3.length] t4) : RdII w 0 w.heap.size (.slice (some ⟨c4, 0, none⟩) 3 3) [l1, l2, l3] := by
  refine RdII.of (vs := [.slice (some ⟨c1, 0, none⟩) l1.length l1.length, .slice (some ⟨c2, 0, none⟩) l2.length l2.length, .slice (some ⟨c3, 0, none⟩) l3.length l3.length]) ((Blk.rd h4 (by simp [oneV]) 3).wide (Nat.zero_le _) h4.lt) rfl (fun i hi hi' => ?_) (by simp [oneV])
  obtain rfl | rfl | rfl : i = 0 ∨ i = 1 ∨ i = 2 := by simp at hi; omega
  · exact Blk.rdI h1
  · exact Blk.rdI h2
  · exact Blk.rdI h3

theorem lsK_rd {w0 w : World} {M : Nat → Prop} {H : List Ck} {v : Value} {xs : List (Value × List Int)} (h : Sat w0 M H w) (h1 : Ck.ow v 27 1 xs.length (xs.map (·.1)) ∈ H) (h2 : un (rowsO 3 xs) ∈ H) : RdII w 0 w.heap.size v (xs.map (·.2)) :=
  rowsO_rd (h.mem h2) (h.mem h1)
set_option maxHeartbeats 4000000 in
set_option maxRecDepth 4000 in
theorem awake_ca (w : World) : Ca Try.prog 18 [] w fun v w' => v = .bool true ∧ Chg [] w w' := by
  refine q_of (Sat.nil w M0) Try.func18 rfl (by simp [Try.ntmps18]) ?_
  (refine q_seq ?_; refine q_region ?_; refine ql_pure tabOk rfl rfl ?_; refine q_nil ?_; refine q_seq ?_; refine q_region ?_)
  refine ql_call (β := Nat) tabOk [] _ M0 rfl rfl rfl rfl (Sp.refl _) (fun _ h => h.elim) (fun w' hs => three_ca w') ?_
  rintro bs _ rfl
  (refine ql_pure tabOk rfl rfl ?_; (iterate 2 refine ql_ext tabOk rfl rfl rfl ?_))
  refine ql_alloc zero26 rfl (fun b2 => ?_)
  (refine ql_pure tabOk rfl rfl ?_; refine ql_setA tabOk rfl rfl rfl rfl rfl (by repeat constructor) rfl ?_; refine q_nil ?_; refine q_seq ?_; refine q_region ?_; refine ql_pure tabOk rfl rfl ?_; refine ql_loadAB tabOk rfl rfl rfl (by repeat first | exact .head _ | refine .tail _ ?_) (by rfl) (by rfl) ?_)
  have hS : ∀ w', Blk w' bs (lpC threeS) 31 → RdL w' 0 w'.heap.size (.slice (some ⟨bs, 0, none⟩) threeS.length 3) threeS := fun w' hb => Blk.rdL hb rfl
  refine ql_call (β := Value × List (Value × List Int)) (ψ := fun y x => x = .tuple #[y.1, .int .i64 0] ∧ y.2.map (·.2) = allC threeS threeR) tabOk [] _ M0 rfl rfl rfl rfl (Sp.refl _) (fun _ h => h.elim) (fun w' hs => all_ok w' 0 w'.heap.size (some ⟨bs, 0, none⟩) 3 threeS threeR (hS w' (hs.blk (by repeat first | exact .head _ | refine .tail _ ?_))) aw_cr (by rw [aw_all]; decide)) ?_
  rintro ⟨va, xs⟩ _ ⟨rfl, hxs⟩
  rw [aw_all] at hxs
  dsimp only at hxs
  dsimp only [lsK, List.cons_append, List.nil_append]
  refine ql_fact (fun w hs => hs.slice (v := va) (by repeat first | exact .head _ | refine .tail _ ?_)) ?_
  rintro ⟨va1, va2, va3, rfl⟩
  (refine ql_pure tabOk rfl rfl ?_; (iterate 2 refine ql_ext tabOk rfl rfl rfl ?_); (iterate 2 refine ql_pure tabOk rfl rfl ?_); refine q_nil ?_; refine q_seq ?_; refine q_region ?_; refine ql_pure tabOk rfl rfl ?_; refine ql_loadAB tabOk rfl rfl rfl (by repeat first | exact .head _ | refine .tail _ ?_) (by rfl) (by rfl) ?_)
  refine ql_mkS 3 (ints [1, 1, 1]) rfl (by kernel_rfl) rfl (fun b3 => ?_)
  refine ql_call (β := Value) tabOk [] _ M0 rfl rfl rfl rfl (Sp.refl _) (fun _ h => h.elim) (fun w' hs => brok_ok w' 0 w'.heap.size 0 w'.heap.size (some ⟨bs, 0, none⟩) 3 _ threeS threeR [1, 1, 1] (hS w' (hs.blk (by repeat first | exact .head _ | refine .tail _ ?_))) (by decide) (Blk.rdI (l := [1, 1, 1]) (c := 3) (hs.blk (b := b3) (by repeat first | exact .head _ | refine .tail _ ?_))) (by decide) aw_brk) ?_
  rintro vb _ rfl
  rw [aw_brk2]
  dsimp only [List.cons_append, List.nil_append]
  refine ql_fact (fun w hs => hs.slice (v := vb) (by repeat first | exact .head _ | refine .tail _ ?_)) ?_
  rintro ⟨vb1, vb2, vb3, rfl⟩
  (refine ql_pure tabOk rfl rfl ?_; (iterate 2 refine ql_ext tabOk rfl rfl rfl ?_); (iterate 2 refine ql_pure tabOk rfl rfl ?_); refine q_nil ?_; refine q_seq ?_; refine q_region ?_; refine ql_pure tabOk rfl rfl ?_; refine ql_loadAB tabOk rfl rfl rfl (by repeat first | exact .head _ | refine .tail _ ?_) (by rfl) (by rfl) ?_)
  refine ql_call (β := Value) tabOk [] _ M0 rfl rfl rfl rfl (Sp.refl _) (fun _ h => h.elim) (fun w' hs => cheap_ok w' 0 w'.heap.size (some ⟨bs, 0, none⟩) 3 threeS threeR 40 [0, 1, 1] (hS w' (hs.blk (by repeat first | exact .head _ | refine .tail _ ?_))) aw_cr (by decide) aw_cheap) ?_
  rintro vc _ rfl
  rw [aw_snow]
  dsimp only [List.cons_append, List.nil_append]
  refine ql_fact (fun w hs => hs.slice (v := vc) (by repeat first | exact .head _ | refine .tail _ ?_)) ?_
  rintro ⟨vc1, vc2, vc3, rfl⟩
  (refine ql_pure tabOk rfl rfl ?_; (iterate 3 refine ql_ext tabOk rfl rfl rfl ?_); (iterate 3 refine ql_pure tabOk rfl rfl ?_); refine q_nil ?_; (iterate 2 refine q_seq ?_); refine q_region ?_; refine ql_pure tabOk rfl rfl ?_; refine ql_neqF tabOk rfl rfl rfl (by omega) ?_; refine ql_pure tabOk rfl rfl ?_; refine ql_gyes rfl ?_; refine ql_pure tabOk rfl rfl ?_; refine ql_gyes rfl ?_; refine ql_neqF tabOk rfl rfl rfl (by omega) ?_; (iterate 2 refine ql_pure tabOk rfl rfl ?_); refine ql_gyes rfl ?_; refine ql_pure tabOk rfl rfl ?_; refine ql_gyes rfl ?_; refine ql_neqF tabOk rfl rfl rfl (by omega) ?_; (iterate 2 refine ql_pure tabOk rfl rfl ?_); refine ql_gyes rfl ?_; refine ql_pure tabOk rfl rfl ?_; refine ql_gyes rfl ?_)
  refine ql_mkS 3 (ints [0, 0, 2]) rfl (by kernel_rfl) rfl (fun c1 => ?_)
  refine ql_gyes rfl ?_
  refine ql_mkS 3 (ints [0, 1, 1]) rfl (by kernel_rfl) rfl (fun c2 => ?_)
  refine ql_gyes rfl ?_
  refine ql_mkS 3 (ints [0, 1, 2]) rfl (by kernel_rfl) rfl (fun c3 => ?_)
  refine ql_gyes rfl ?_
  refine ql_mkS 27 [.slice (some ⟨c1, 0, none⟩) 3 3, .slice (some ⟨c2, 0, none⟩) 3 3, .slice (some ⟨c3, 0, none⟩) 3 3] rfl (by kernel_rfl) rfl (fun c4 => ?_)
  (refine ql_gyes rfl ?_)
  refine ql_callv (val := .bool true) tabOk rfl rfl rfl rfl (fun w hs => ?_) ?_; exact eqII_ca w 0 w.heap.size 0 w.heap.size _ _ [[0, 0, 2], [0, 1, 1], [0, 1, 2]] (hxs ▸ lsK_rd (v := .slice va1 va2 va3) (xs := xs) hs (by repeat first | exact .head _ | refine .tail _ ?_) (by repeat first | exact .head _ | refine .tail _ ?_)) (blk_II (l1 := [0, 0, 2]) (l2 := [0, 1, 1]) (l3 := [0, 1, 2]) (hs.blk (b := c1) (by repeat first | exact .head _ | refine .tail _ ?_)) (hs.blk (b := c2) (by repeat first | exact .head _ | refine .tail _ ?_)) (hs.blk (b := c3) (by repeat first | exact .head _ | refine .tail _ ?_)) (hs.blk (b := c4) (by repeat first | exact .head _ | refine .tail _ ?_))) (by decide) (by decide)
  (refine ql_gyes rfl ?_; (iterate 3 refine ql_pure tabOk rfl rfl ?_); refine ql_gyes rfl ?_; refine ql_pure tabOk rfl rfl ?_; refine ql_gyes rfl ?_)
  refine ql_mkS 88 (ints [4]) rfl (by kernel_rfl) rfl (fun c5 => ?_)
  refine ql_gyes rfl ?_
  refine ql_callv (val := .bool true) tabOk rfl rfl rfl rfl (fun w hs => ?_) ?_; exact eqR_ca w 0 w.heap.size 0 w.heap.size _ _ [4] (hs.rdI (v := .slice vb1 vb2 vb3) (l := [4]) (by repeat first | exact .head _ | refine .tail _ ?_) rfl) (Blk.rdI (l := [4]) (c := 1) (hs.blk (b := c5) (by repeat first | exact .head _ | refine .tail _ ?_))) (by decide)
  (refine ql_gyes rfl ?_; (iterate 3 refine ql_pure tabOk rfl rfl ?_); refine ql_gyes rfl ?_; refine ql_pure tabOk rfl rfl ?_; refine ql_gyes rfl ?_)
  refine ql_mkS 3 (ints [0, 1, 1]) rfl (by kernel_rfl) rfl (fun c6 => ?_)
  refine ql_gyes rfl ?_
  refine ql_callv (val := .bool true) tabOk rfl rfl rfl rfl (fun w hs => ?_) ?_; exact eqI_ca w 0 w.heap.size 0 w.heap.size _ _ [0, 1, 1] (hs.rdI (v := .slice vc1 vc2 vc3) (l := [0, 1, 1]) (by repeat first | exact .head _ | refine .tail _ ?_) rfl) (Blk.rdI (l := [0, 1, 1]) (c := 3) (hs.blk (b := c6) (by repeat first | exact .head _ | refine .tail _ ?_))) (by decide)
  (refine ql_gyes rfl ?_; (iterate 3 refine ql_pure tabOk rfl rfl ?_); refine ql_gyes rfl ?_; refine ql_pure tabOk rfl rfl ?_; refine ql_gyes rfl ?_; refine ql_neqF tabOk rfl rfl rfl (by omega) ?_; refine ql_pure tabOk rfl rfl ?_; refine q_nil ?_; refine q_cond_false rfl ?_; refine q_skip ?_; refine q_seq ?_; refine q_region ?_)
  refine ql_callv tabOk rfl rfl rfl rfl (fun w hs => spanM_ca _ _ w) ?_
  (refine ql_pure tabOk rfl rfl ?_; refine ql_st8 tabOk rfl rfl rfl rfl (by repeat constructor) ?_; refine ql_pure tabOk rfl rfl ?_)
  refine ql_stA (rlC threeQ) tabOk rfl rfl rfl rfl rfl (by repeat constructor) rfl rfl ?_
  (refine q_nil ?_; refine q_seq ?_; refine q_region ?_; refine ql_pure tabOk rfl rfl ?_; refine ql_loadAB tabOk rfl rfl rfl (by repeat first | exact .head _ | refine .tail _ ?_) (by rfl) (by rfl) ?_)
  refine ql_call (β := Value × Value) tabOk [] _ M0 rfl rfl rfl rfl (Sp.refl _) (fun _ h => h.elim) (fun w' hs => yield_ok w' 0 w'.heap.size (some ⟨bs, 0, none⟩) 3 threeS threeQ [0, 1, 2] (hS w' (hs.blk (by repeat first | exact .head _ | refine .tail _ ?_))) aw_cr2 aw_yield) ?_
  rintro ⟨vy, vz⟩ _ rfl
  rw [aw_yield2]
  dsimp only [List.cons_append, List.nil_append]
  refine ql_fact (fun w hs => hs.slice (v := vy) (by repeat first | exact .head _ | refine .tail _ ?_)) ?_
  rintro ⟨vy1, vy2, vy3, rfl⟩
  refine ql_fact (fun w hs => hs.slice (v := vz) (by repeat first | exact .head _ | refine .tail _ ?_)) ?_
  rintro ⟨vz1, vz2, vz3, rfl⟩
  (refine ql_pure tabOk rfl rfl ?_; (iterate 3 refine ql_ext tabOk rfl rfl rfl ?_); (iterate 3 refine ql_pure tabOk rfl rfl ?_); refine q_nil ?_; refine q_seq ?_; refine q_region ?_)
  have hD : ∀ n w' b, Blk w' b (dyC (shortW n).days) 73 → RdD w' 0 w'.heap.size (.slice (some ⟨b, 0, none⟩) (shortW n).days.length 3) (shortW n).days := fun n w' b hb => Blk.rdD hb rfl
  refine ql_call (β := Nat) tabOk [] _ M0 rfl rfl rfl rfl (Sp.refl _) (fun _ h => h.elim) (fun w' hs => short_ca w' 500) ?_
  rintro d1 _ rfl
  refine ql_callv (val := .tuple #[.int .i64 2, .int .i64 0]) tabOk rfl rfl rfl rfl (fun w hs => ?_) ?_; exact by have := first_ca w 0 w.heap.size (shortW 500) (some ⟨d1, 0, none⟩) 3 (hD 500 w d1 (hs.blk (by repeat first | exact .head _ | refine .tail _ ?_))) (by decide); rw [aw_first] at this; exact this
  (refine ql_pure tabOk rfl rfl ?_; (iterate 2 refine ql_ext tabOk rfl rfl rfl ?_); (iterate 2 refine ql_pure tabOk rfl rfl ?_); refine q_nil ?_; refine q_seq ?_; refine q_region ?_)
  refine ql_call (β := Nat) tabOk [] _ M0 rfl rfl rfl rfl (Sp.refl _) (fun _ h => h.elim) (fun w' hs => short_ca w' 500) ?_
  rintro d2 _ rfl
  refine ql_mk #[.int .i64 (-1), .int .i64 2] rfl (by kernel_rfl) rfl ?_
  refine ql_callv (val := .tuple #[.int .i64 360, .int .i64 0]) tabOk rfl rfl rfl rfl (fun w hs => ?_) ?_; exact by have := proves_ca w 0 w.heap.size (shortW 500) (some ⟨d2, 0, none⟩) 3 (-1) 2 (hD 500 w d2 (hs.blk (by repeat first | exact .head _ | refine .tail _ ?_))) (by decide); rw [aw_proves] at this; exact this
  (refine ql_pure tabOk rfl rfl ?_; (iterate 2 refine ql_ext tabOk rfl rfl rfl ?_); (iterate 2 refine ql_pure tabOk rfl rfl ?_); refine q_nil ?_; refine q_seq ?_; refine q_region ?_)
  refine ql_call (β := Nat) tabOk [] _ M0 rfl rfl rfl rfl (Sp.refl _) (fun _ h => h.elim) (fun w' hs => short_ca w' 500) ?_
  rintro d3 _ rfl
  refine ql_call (β := Value) tabOk [] _ M0 rfl rfl rfl rfl (Sp.refl _) (fun _ h => h.elim) (fun w' hs => ranges_ok w' 0 w'.heap.size (shortW 500) (some ⟨d3, 0, none⟩) 3 (hD 500 w' d3 (hs.blk (by repeat first | exact .head _ | refine .tail _ ?_))) aw_right) ?_
  rintro vx _ rfl
  rw [aw_ranges]
  dsimp only [List.cons_append, List.nil_append]
  refine ql_fact (fun w hs => hs.slice (v := vx) (by repeat first | exact .head _ | refine .tail _ ?_)) ?_
  rintro ⟨vx1, vx2, vx3, rfl⟩
  (refine ql_pure tabOk rfl rfl ?_; (iterate 2 refine ql_ext tabOk rfl rfl rfl ?_); (iterate 2 refine ql_pure tabOk rfl rfl ?_); refine q_nil ?_; (iterate 2 refine q_seq ?_); refine q_region ?_; refine ql_pure tabOk rfl rfl ?_; refine ql_neqF tabOk rfl rfl rfl (by omega) ?_; refine ql_pure tabOk rfl rfl ?_; refine ql_gyes rfl ?_; refine ql_pure tabOk rfl rfl ?_; refine ql_gyes rfl ?_; refine ql_neqF tabOk rfl rfl rfl (by omega) ?_; (iterate 2 refine ql_pure tabOk rfl rfl ?_); refine ql_gyes rfl ?_; refine ql_pure tabOk rfl rfl ?_; refine ql_gyes rfl ?_; refine ql_neqF tabOk rfl rfl rfl (by omega) ?_; (iterate 2 refine ql_pure tabOk rfl rfl ?_); refine ql_gyes rfl ?_; refine ql_pure tabOk rfl rfl ?_; refine ql_gyes rfl ?_; refine ql_neqF tabOk rfl rfl rfl (by omega) ?_; (iterate 2 refine ql_pure tabOk rfl rfl ?_); refine ql_gyes rfl ?_; refine ql_pure tabOk rfl rfl ?_; refine ql_gyes rfl ?_)
  refine ql_mkS 88 (ints [0]) rfl (by kernel_rfl) rfl (fun c7 => ?_)
  refine ql_gyes rfl ?_
  refine ql_callv (val := .bool true) tabOk rfl rfl rfl rfl (fun w hs => ?_) ?_; exact eqR_ca w 0 w.heap.size 0 w.heap.size _ _ [0] (hs.rdI (v := .slice vy1 vy2 vy3) (l := [0]) (by repeat first | exact .head _ | refine .tail _ ?_) rfl) (Blk.rdI (l := [0]) (c := 1) (hs.blk (b := c7) (by repeat first | exact .head _ | refine .tail _ ?_))) (by decide)
  (refine ql_gyes rfl ?_; (iterate 3 refine ql_pure tabOk rfl rfl ?_); refine ql_gyes rfl ?_; refine ql_pure tabOk rfl rfl ?_; refine ql_gyes rfl ?_)
  refine ql_mkS 3 (ints [0, 1, 2]) rfl (by kernel_rfl) rfl (fun c8 => ?_)
  refine ql_gyes rfl ?_
  refine ql_callv (val := .bool true) tabOk rfl rfl rfl rfl (fun w hs => ?_) ?_; exact eqI_ca w 0 w.heap.size 0 w.heap.size _ _ [0, 1, 2] (hs.rdI (v := .slice vz1 vz2 vz3) (l := [0, 1, 2]) (by repeat first | exact .head _ | refine .tail _ ?_) rfl) (Blk.rdI (l := [0, 1, 2]) (c := 3) (hs.blk (b := c8) (by repeat first | exact .head _ | refine .tail _ ?_))) (by decide)
  (refine ql_gyes rfl ?_; (iterate 3 refine ql_pure tabOk rfl rfl ?_); refine ql_gyes rfl ?_; refine ql_pure tabOk rfl rfl ?_; refine ql_gyes rfl ?_; refine ql_neqF tabOk rfl rfl rfl (by omega) ?_; (iterate 2 refine ql_pure tabOk rfl rfl ?_); refine ql_gyes rfl ?_; refine ql_pure tabOk rfl rfl ?_; refine ql_gyes rfl ?_; refine ql_neqF tabOk rfl rfl rfl (by omega) ?_; (iterate 2 refine ql_pure tabOk rfl rfl ?_); refine ql_gyes rfl ?_; refine ql_pure tabOk rfl rfl ?_; refine ql_gyes rfl ?_)
  refine ql_mk #[.int .i64 280, .int .i64 390] rfl (by kernel_rfl) rfl ?_
  refine ql_gyes rfl ?_
  refine ql_mk #[.int .i64 160, .int .i64 600] rfl (by kernel_rfl) rfl ?_
  refine ql_gyes rfl ?_
  refine ql_mkS 24 (spC [(280, 390), (160, 600)]) rfl (by kernel_rfl) rfl (fun c9 => ?_)
  refine ql_gyes rfl ?_
  refine ql_callv (val := .bool true) tabOk rfl rfl rfl rfl (fun w hs => ?_) ?_; exact eqS_ca w 0 w.heap.size 0 w.heap.size _ _ [(280, 390), (160, 600)] (own_rdS (t := 24) (hs.mem (c := .ow (.slice vx1 vx2 vx3) 24 2 2 (spC [(280, 390), (160, 600)])) (by repeat first | exact .head _ | refine .tail _ ?_)) rfl) (Blk.rdS (l := [(280, 390), (160, 600)]) (c := 2) (hs.blk (b := c9) (by repeat first | exact .head _ | refine .tail _ ?_)) rfl) (by decide)
  (refine ql_gyes rfl ?_; (iterate 2 refine ql_pure tabOk rfl rfl ?_); refine q_nil ?_; refine q_cond_false rfl ?_; refine q_skip ?_; refine q_seq ?_; refine q_region ?_)
  refine ql_call (β := Nat) tabOk [] _ M0 rfl rfl rfl rfl (Sp.refl _) (fun _ h => h.elim) (fun w' hs => short_ca w' 100) ?_
  rintro d4 _ rfl
  refine ql_callv (val := .tuple #[.int .i64 460, .int .i64 0]) tabOk rfl rfl rfl rfl (fun w hs => ?_) ?_; exact by have := least_ca w 0 w.heap.size (shortW 100) (some ⟨d4, 0, none⟩) 3 (hD 100 w d4 (hs.blk (by repeat first | exact .head _ | refine .tail _ ?_))) (by decide); rw [aw_least] at this; exact this
  (refine ql_pure tabOk rfl rfl ?_; (iterate 2 refine ql_ext tabOk rfl rfl rfl ?_); (iterate 2 refine ql_pure tabOk rfl rfl ?_); refine q_nil ?_; refine q_seq ?_; refine q_region ?_)
  refine ql_call (β := Nat) tabOk [] _ M0 rfl rfl rfl rfl (Sp.refl _) (fun _ h => h.elim) (fun w' hs => short_ca w' 100) ?_
  rintro d5 _ rfl
  refine ql_callv (val := .tuple #[.int .i64 540, .int .i64 0]) tabOk rfl rfl rfl rfl (fun w hs => ?_) ?_; exact by have := room_ca w 0 w.heap.size (shortW 100) (some ⟨d5, 0, none⟩) 3 (hD 100 w d5 (hs.blk (by repeat first | exact .head _ | refine .tail _ ?_))) (by decide); rw [aw_room] at this; exact this
  (refine ql_pure tabOk rfl rfl ?_; (iterate 2 refine ql_ext tabOk rfl rfl rfl ?_); (iterate 2 refine ql_pure tabOk rfl rfl ?_); refine q_nil ?_; refine q_seq ?_; refine q_region ?_; refine ql_pure tabOk rfl rfl ?_; refine ql_eqlT tabOk rfl rfl rfl (by omega) ?_; refine ql_pure tabOk rfl rfl ?_; refine ql_gyes rfl ?_; refine ql_pure tabOk rfl rfl ?_; refine ql_gyes rfl ?_; refine ql_eqlT tabOk rfl rfl rfl (by omega) ?_; (iterate 2 refine ql_pure tabOk rfl rfl ?_); refine ql_gyes rfl ?_; refine ql_pure tabOk rfl rfl ?_; refine ql_gyes rfl ?_; refine ql_eqlT tabOk rfl rfl rfl (by omega) ?_; (iterate 2 refine ql_pure tabOk rfl rfl ?_); refine ql_gyes rfl ?_; refine ql_pure tabOk rfl rfl ?_; refine ql_gyes rfl ?_; refine ql_eqlT tabOk rfl rfl rfl (by omega) ?_; (iterate 2 refine ql_pure tabOk rfl rfl ?_); refine q_nil ?_; refine q_ret ?_)
  refine q_fin tabOk rfl (by repeat (first | exact RVs.nil | apply RVs.tmp rfl | apply RVs.cellA rfl rfl (by repeat first | exact .head _ | refine .tail _ ?_) (by rfl) | apply RVs.cell1 rfl rfl (by repeat first | exact .head _ | refine .tail _ ?_))) fun w hs => ?_
  exact ⟨rfl, hs.chg0⟩
end Go.Proofs.Ytgeajgmefokifaa

/- Walks: klisterkit's deck. Only the ranges of what it deals are told. -/
namespace Go.Proofs.Ytgeajgmefokifaa
open Go Go.Eng

section
attribute [local irreducible] IntKind.wrap Int.tmod Int.tdiv

/-- The deck's own variable, after at most K cards. -/
def DkS (w : World) (b : Nat) (bs : Value) (K : Nat) : Prop :=
  ∃ next st, Blk w b [bs, .int .i64 next, .int .u32 st] 165 ∧ 0 ≤ next ∧ next ≤ K ∧ 0 ≤ st ∧ st < 4294967296
/-- Its bytes. -/
def DkB (w : World) (lo hi : Nat) (bs : Value) : Prop := ∃ nb cs, Rd w lo hi bs 1 nb cs ∧ (∀ c ∈ cs, ∃ x, c = .int .u8 x ∧ 0 ≤ x ∧ x < 256)
theorem DkB.keep {w w' : World} {lo hi : Nat} {bs : Value} (h : DkB w lo hi bs) (c : Chg [] w w') : DkB w' lo hi bs := by
  obtain ⟨nb, cs, h1, h2⟩ := h
  exact ⟨nb, cs, h1.keep c, h2⟩

set_option maxHeartbeats 1000000 in
theorem draw_ca (n : Int) (K : Nat) (hK : K < 4611686018427387904) (w : World) (b lo hi : Nat) (bs : Value) (hby : DkB w lo hi bs) (hlh : hi ≤ b) (hd : DkS w b bs K) :
    Ca Try.prog 39 [.pointer (some ⟨b, 0, none⟩), .int .i64 n] w fun v w' => ∃ r, v = .int .i64 r ∧ 0 ≤ r ∧ (r < n ∨ r = 0) ∧ Chg [b] w w' ∧ w'.heap.size = w.heap.size ∧ DkS w' b bs (K + 1) := by
  obtain ⟨nb, cs, hrd, hcs⟩ := hby
  obtain ⟨next, st, hb, hn0, hnK, hs0, hs1⟩ := hd
  have hd : DkS w b bs (K + 1) := ⟨next, st, hb, hn0, by omega, hs0, hs1⟩
  obtain ⟨a, cap, rfl, hsl⟩ := hrd.out
  refine ca_of Try.func39 rfl (by simp [Try.ntmps39]) ?_
  (refine y_seq ?_; refine y_region ?_; refine yl_pure tabOk rfl rfl ?_; (iterate 2 refine y_seq ?_); refine y_region ?_; (iterate 3 refine yl_pure tabOk rfl rfl ?_))
  refine yl_split rfl rfl (fun hc => ?_) (fun hc => ?_)
  · ((iterate 6 refine yl_guard_no rfl rfl rfl ?_); refine yl_pure tabOk rfl rfl ?_; refine y_cond_true rfl ?_; refine y_seq ?_; refine y_region ?_; refine yl_pure tabOk rfl rfl ?_; refine y_ret ?_)
    exact y_fin1 rfl rfl ⟨0, rfl, by omega, .inr rfl, Chg.refl _ _, rfl, hd⟩
  (refine yl_guard_yes rfl ?_; refine yl_pure tabOk rfl rfl ?_; refine yl_guard_yes rfl ?_; refine yl_pure tabOk rfl rfl ?_; refine yl_guard_yes rfl ?_; refine yl_pure tabOk rfl rfl ?_; refine yl_guard_yes rfl ?_; refine yl_loadB tabOk rfl rfl rfl (by assumption) (by rfl) ?_; refine yl_guard_yes rfl ?_; refine yl_pure tabOk rfl rfl ?_; refine yl_guard_yes rfl ?_; (iterate 2 refine yl_pure tabOk rfl rfl ?_); refine yl_nil ?_)
  have hn := of_decide_eq_false hc
  refine y_if rfl (fun hc => ?_) (fun hc => ?_)
  · (refine y_seq ?_; refine y_region ?_; refine yl_pure tabOk rfl rfl ?_; refine y_ret ?_)
    exact y_fin1 rfl rfl ⟨0, rfl, by omega, .inr rfl, Chg.refl _ _, rfl, hd⟩
  have hnb : 0 < nb := by omega
  obtain ⟨bb, off, rfl, hcell⟩ := hsl hnb
  (refine y_skip ?_; refine y_seq ?_)
  refine y_draw [] (by kernel_rfl) (by kernel_rfl) (fun w1 hc1 hs1 => ?_)
  have hb1 := hb.keep hc1
  ((iterate 3 refine yf_pure tabOk rfl rfl rfl ?_); refine yf_loadB tabOk rfl rfl rfl (by assumption) (by first | assumption | simp) (by rfl) ?_; (iterate 3 refine yf_pure tabOk rfl rfl rfl ?_); refine yf_loadB tabOk rfl rfl rfl (by assumption) (by first | assumption | simp) (by rfl) ?_; (iterate 3 refine yf_pure tabOk rfl rfl rfl ?_); refine yf_loadB tabOk rfl rfl rfl (by assumption) (by first | assumption | simp) (by rfl) ?_; refine yf_pure tabOk rfl rfl rfl ?_)
  have hlen : cs.length = nb := by have := hrd.1; omega
  have hm := tmod_pos hn0 (by omega : (0 : Int) < nb)
  refine yf_rem rfl rfl (by omega) rfl ?_
  refine yf_index tabOk rfl rfl rfl rfl rfl hm.1 hm.2 ?_
  obtain ⟨x, hx, hx0, hx1⟩ := hcs (cs[(next.tmod nb).toNat]'(by omega)) (List.getElem_mem _)
  refine yf_load1 tabOk rfl rfl rfl (fun w' hw' => ?_) (v := .int .u8 x) ?_
  · have h1 := ((hrd.keep hc1).keep hw').cell rfl (next.tmod nb).toNat (by omega)
    rw [Nat.mul_one, h1, List.getElem?_eq_getElem (by omega), hx]
  ((iterate 4 refine yf_pure tabOk rfl rfl rfl ?_); refine yf_loadB tabOk rfl rfl rfl (by assumption) (by first | assumption | simp) (by rfl) ?_; (iterate 3 refine yf_pure tabOk rfl rfl rfl ?_); refine yf_loadB tabOk rfl rfl rfl (by assumption) (by first | assumption | simp) (by rfl) ?_; refine yf_pure tabOk rfl rfl rfl ?_)
  refine yf_quo rfl rfl (by omega) rfl ?_
  ((iterate 3 refine yf_pure tabOk rfl rfl rfl ?_); refine y_seq ?_; refine y_region ?_; (iterate 3 refine yl_pure tabOk rfl rfl ?_); refine yl_loadB tabOk rfl rfl rfl (by assumption) (by rfl) ?_; (iterate 3 refine yl_pure tabOk rfl rfl ?_))
  refine yl_store1 tabOk rfl rfl rfl rfl (by assumption) (by simp) (fun w2 hc2 hs2 hb2 => ?_)
  (refine y_seq ?_; refine y_region ?_; (iterate 4 refine yl_pure tabOk rfl rfl ?_); refine yl_loadB tabOk rfl rfl rfl (by assumption) (by rfl) ?_; (iterate 7 refine yl_pure tabOk rfl rfl ?_))
  refine yl_rem rfl rfl (by omega) rfl ?_
  ((iterate 2 refine yl_pure tabOk rfl rfl ?_))
  refine yl_store1 tabOk rfl rfl rfl rfl (by assumption) (by simp) (fun w3 hc3 hs3 hb3 => ?_)
  have hc03 : Chg [b] w w3 := (hc1.nil.trans hc2).trans hc3
  generalize hq : IntKind.u32.wrap (IntKind.i64.wrap (next.tdiv nb)) = q at *
  clear hq
  generalize hz : Int.tmod _ 65519 = z at *
  have hz0 : 0 ≤ z ∧ z < 65519 := by rw [← hz]; exact tmod_pos (wu32_range _).1 (by omega)
  clear hz
  have hd3 : DkS w3 b (.slice (some ⟨bb, off, none⟩) nb cap) (K + 1) := by
    refine ⟨next + 1, z, ?_, by omega, by omega, hz0.1, by omega⟩
    rw [w64 (by omega) (by omega)] at hb3
    exact hb3
  have hfin : ∀ y : Int, ∃ r, Value.int .i64 ((IntKind.i64.wrap (IntKind.u32.wrap y)).tmod n) = .int .i64 r ∧ 0 ≤ r ∧ (r < n ∨ r = 0) ∧ Chg [b] w w3 ∧ w3.heap.size = w.heap.size ∧ DkS w3 b (.slice (some ⟨bb, off, none⟩) nb cap) (K + 1) := by
    intro y
    have h1 := wu32_range y
    have h2 : IntKind.i64.wrap (IntKind.u32.wrap y) = IntKind.u32.wrap y := w64 (by omega) (by omega)
    rw [h2]
    have h3 := tmod_pos h1.1 (by omega : (0 : Int) < n)
    exact ⟨_, rfl, h3.1, .inl h3.2, hc03, by omega, hd3⟩
  ((iterate 2 refine y_seq ?_); refine y_region ?_; (iterate 3 refine yl_pure tabOk rfl rfl ?_))
  refine yl_split rfl rfl (fun hc => ?_) (fun hc => ?_)
  · (refine yl_guard_yes rfl ?_; refine yl_pure tabOk rfl rfl ?_; refine yl_guard_yes rfl ?_; (iterate 2 refine yl_pure tabOk rfl rfl ?_); refine yl_nil ?_)
    refine y_if rfl (fun hc => ?_) (fun hc => ?_)
    · (refine y_seq ?_; refine y_region ?_; (iterate 3 refine yl_pure tabOk rfl rfl ?_))
      refine yl_rem rfl rfl (by omega) rfl ?_
      (refine yl_pure tabOk rfl rfl ?_; refine y_ret ?_)
      exact y_fin1 rfl rfl (hfin _)
    · (refine y_skip ?_; refine y_seq ?_; refine y_region ?_; (iterate 3 refine yl_pure tabOk rfl rfl ?_); refine yl_loadB tabOk rfl rfl rfl (by assumption) (by rfl) ?_; (iterate 5 refine yl_pure tabOk rfl rfl ?_))
      refine yl_rem rfl rfl (by omega) rfl ?_
      (refine yl_pure tabOk rfl rfl ?_; refine y_ret ?_)
      exact y_fin1 rfl rfl (hfin _)
  · ((iterate 2 refine yl_guard_no rfl rfl rfl ?_); refine yl_pure tabOk rfl rfl ?_; refine y_cond_false rfl ?_; refine y_skip ?_; refine y_seq ?_; refine y_region ?_; (iterate 3 refine yl_pure tabOk rfl rfl ?_); refine yl_loadB tabOk rfl rfl rfl (by assumption) (by rfl) ?_; (iterate 5 refine yl_pure tabOk rfl rfl ?_))
    refine yl_rem rfl rfl (by omega) rfl ?_
    (refine yl_pure tabOk rfl rfl ?_; refine y_ret ?_)
    exact y_fin1 rfl rfl (hfin _)


end
/-- A deck, after at most K cards. -/
def dkP (bs : Value) (b K : Nat) : Ck := .gn (fun x => x = b) (fun w => DkS w b bs K) (fun w w' N h hc hN => by
  obtain ⟨next, st, h1, h2⟩ := h
  exact ⟨next, st, (hc.block b h1.lt (hN b rfl)).trans h1, h2⟩)

theorem drawP_ca (n : Int) (K : Nat) (hK : K < 4611686018427387904) (w : World) (b lo hi : Nat) (bs : Value) (hby : DkB w lo hi bs) (hlh : hi ≤ b) (hd : DkS w b bs K) :
    Ca Try.prog 39 [.pointer (some ⟨b, 0, none⟩), .int .i64 n] w fun v w' => ∃ x : Int, (v = .int .i64 x ∧ 0 ≤ x ∧ (x < n ∨ x = 0)) ∧ Sat w (fun x => x = b) [dkP bs b (K + 1)] w' :=
  (draw_ca n K hK w b lo hi bs hby hlh hd).mono fun v w' ⟨r, h1, h2, h3, h4, h5, h6⟩ =>
    ⟨r, ⟨h1, h2, h3⟩, ⟨h4.os, h4.tape, h4.output, h4.size, fun k hk hkb => h4.block k hk (by simpa using hkb)⟩, by simpa [dkP, Ck.p] using h6, .cons (by simp) .nil, fun c hc x hx => by
      obtain rfl : c = dkP bs b (K + 1) := by simpa using hc
      obtain rfl : x = b := hx
      obtain ⟨_, _, h7, _⟩ := h6
      exact ⟨h7.lt, .inl rfl⟩⟩



theorem dk_sat {w : World} {b K : Nat} {bs : Value} (hd : DkS w b bs K) : Sat w (fun x => x = b) [dkP bs b K] w :=
  ⟨ChgP.refl _ _, by simpa [dkP, Ck.p] using hd, .cons (by simp) .nil, fun c hc x hx => by
    obtain rfl : c = dkP bs b K := by simpa using hc
    obtain rfl : x = b := hx
    obtain ⟨_, _, h7, _⟩ := hd
    exact ⟨h7.lt, .inl rfl⟩⟩

theorem between_ca (l h : Int) (hl : -1000000 ≤ l) (hh : h ≤ 1000000) (hlh2 : l ≤ h) (K : Nat) (hK : K < 4611686018427387904) (w : World) (b lo hi : Nat) (bs : Value) (hby : DkB w lo hi bs) (hlh : hi ≤ b) (hd : DkS w b bs K) :
    Ca Try.prog 38 [.pointer (some ⟨b, 0, none⟩), .int .i64 l, .int .i64 h] w fun v w' => ∃ x : Int, (v = .int .i64 x ∧ l ≤ x ∧ x ≤ h) ∧ Sat w (fun x => x = b) [dkP bs b (K + 1)] w' := by
  refine q_of (dk_sat hd) Try.func38 rfl (by simp [Try.ntmps38]) ?_
  (refine q_seq ?_; refine q_region ?_; refine ql_pure tabOk rfl rfl ?_; refine q_nil ?_; refine q_seq ?_; refine q_region ?_; (iterate 4 refine ql_pure tabOk rfl rfl ?_); (iterate 2 refine ql_ar tabOk rfl rfl rfl rfl (by omega) (by omega) ?_))
  refine ql_call (β := Int) (ψ := fun x v => v = .int .i64 x ∧ 0 ≤ x ∧ (x < h - l + 1 ∨ x = 0)) (L' := fun _ => [dkP bs b (K + 1)]) tabOk [dkP bs b K] [] (fun x => x = b) rfl rfl rfl rfl (Sp.refl _) (fun x hx => ⟨_, .head _, hx⟩) (fun w' hs => drawP_ca (h - l + 1) K hK w' b lo hi bs (by
    obtain ⟨nb, cs, h1, h2⟩ := hby
    exact ⟨nb, cs, h1.chg (N := [b]) ⟨hs.chg.os, hs.chg.tape, hs.chg.output, hs.chg.size, fun k hk hkb => hs.chg.block k hk (by simpa using hkb)⟩ (fun k hk => .inr (by simp at hk; omega)), h2⟩) hlh (hs.all _ (.head _))) ?_
  rintro x _ ⟨rfl, hx0, hx1⟩
  (refine ql_ar tabOk rfl rfl rfl rfl (by omega) (by omega) ?_; refine ql_pure tabOk rfl rfl ?_; refine q_nil ?_; refine q_ret ?_)
  refine q_fin tabOk rfl (by repeat (first | exact RVs.nil | apply RVs.tmp rfl | apply RVs.cellA rfl rfl (by repeat first | exact .head _ | refine .tail _ ?_) (by rfl) | apply RVs.cell1 rfl rfl (by repeat first | exact .head _ | refine .tail _ ?_))) fun w hs => ?_
  exact ⟨_, ⟨rfl, by omega, by omega⟩, hs⟩



theorem of_ca (w : World) (a : Option Addr) (n c : Nat) : Ca Try.prog 36 [.slice a n c] w fun v w' => ∃ b : Nat, v = .pointer (some ⟨b, 0, none⟩) ∧ Sat w M0 [dkP (.slice a n c) b 0] w' := by
  refine q_of (Sat.nil w M0) Try.func36 rfl (by simp [Try.ntmps36]) ?_
  (refine q_seq ?_; refine q_region ?_; refine ql_pure tabOk rfl rfl ?_; refine q_nil ?_; refine q_seq ?_; refine q_region ?_; refine ql_pure tabOk rfl rfl ?_)
  refine ql_mk #[.slice a n c, .int .i64 0, .int .u32 17] rfl (by kernel_rfl) rfl ?_
  skip
  refine ql_box rfl rfl (fun b1 => ?_)
  (refine ql_pure tabOk rfl rfl ?_; refine q_nil ?_; refine q_ret ?_)
  refine q_fin tabOk rfl (by repeat (first | exact RVs.nil | apply RVs.tmp rfl | apply RVs.cellA rfl rfl (by repeat first | exact .head _ | refine .tail _ ?_) (by rfl) | apply RVs.cell1 rfl rfl (by repeat first | exact .head _ | refine .tail _ ?_))) fun w hs => ?_
  refine ⟨b1, rfl, ⟨hs.chg, fun d hd => ?_, .cons (by simp) .nil, fun d hd x hx => ?_⟩⟩
  · obtain rfl : d = dkP (.slice a n c) b1 0 := by simpa using hd
    exact ⟨0, 17, hs.all _ (.head _), by omega, by omega, by omega, by omega⟩
  · obtain rfl : d = dkP (.slice a n c) b1 0 := by simpa using hd
    obtain rfl : x = b1 := hx
    exact hs.bd _ (.head _) x rfl



theorem DkB.keepP {w w' : World} {lo hi b : Nat} {bs : Value} (h : DkB w lo hi bs) (hlh : hi ≤ b) (hc : ChgP (fun x => x = b) w w') : DkB w' lo hi bs := by
  obtain ⟨nb, cs, h1, h2⟩ := h
  exact ⟨nb, cs, h1.chg (N := [b]) ⟨hc.os, hc.tape, hc.output, hc.size, fun k hk hkb => hc.block k hk (by simpa using hkb)⟩ (fun k hk => .inr (by simp at hk; omega)), h2⟩
theorem DkS.mono {w : World} {b K K' : Nat} {bs : Value} (h : DkS w b bs K) (hk : K ≤ K') : DkS w b bs K' := by
  obtain ⟨next, st, h1, h2, h3, h4⟩ := h
  exact ⟨next, st, h1, h2, by omega, h4⟩
theorem Sat.dk {w0 w : World} {M : Nat → Prop} {R : List Ck} {b K K' : Nat} {bs : Value} (h : Sat w0 M (dkP bs b K :: R) w) (hk : K ≤ K') : Sat w0 M (dkP bs b K' :: R) w := h.turn (fun _ h => h) (fun h => DkS.mono h hk)



section
variable {K b : Nat} {bs : Value} {w0 w : World} {R : List Ck}
theorem dk_new (hs : Sat w0 M0 (dkP bs b K :: R) w) : w0.heap.size ≤ b := (hs.bd _ (.head _) b rfl).2.resolve_left (fun h => h)
end
end Go.Proofs.Ytgeajgmefokifaa

/- Walks: a winter is made of numbers. -/
namespace Go.Proofs.Ytgeajgmefokifaa
open Go Go.Eng

structure DayB (d : Dy) : Prop where
  n : 0 ≤ d.n0 ∧ d.n0 ≤ 29 ∧ d.n0 ≤ d.n1 ∧ d.n1 ≤ d.n0 + 11
  m : 0 ≤ d.m0 ∧ d.m0 ≤ 39 ∧ d.m0 ≤ d.m1 ∧ d.m1 ≤ d.m0 + 19
  l : 0 ≤ d.l0 ∧ d.l0 ≤ 5 ∧ d.l0 ≤ d.l1 ∧ d.l1 ≤ d.l0 + 3
/-- What MadeWinter makes. -/
structure WinB (days : Nat) (x : Wn) : Prop where
  store : 20 ≤ x.store ∧ x.store ≤ 200
  stock : 0 ≤ x.stock ∧ x.stock ≤ x.store
  d1 : 1 ≤ x.days.length
  d2 : x.days.length ≤ days
  days : ∀ d ∈ x.days, DayB d
theorem WinB.right {days : Nat} {x : Wn} (h : WinB days x) (hd : days ≤ 60) : x.Right := by
  have h1 := h.store
  have h2 := h.d2
  refine ⟨by omega, h.stock, h.d1, by omega, fun d hdm => ?_⟩
  have := h.days d hdm
  have a := this.n
  have b := this.m
  have c := this.l
  exact ⟨by omega, by omega, by omega⟩
theorem coin_ca (n : Int) (hn : 1 ≤ n) (K : Nat) (hK : K < 1000000) (w : World) (b lo hi : Nat) (bs : Value) (hby : DkB w lo hi bs) (hlh : hi ≤ b) (hd : DkS w b bs K) :
    Ca Try.prog 103 [.pointer (some ⟨b, 0, none⟩), .int .i64 n] w fun v w' => ∃ x : Bool, v = .bool x ∧ Sat w (fun x => x = b) [dkP bs b (K + 1)] w' := by
  refine q_of (dk_sat hd) Try.func103 rfl (by simp [Try.ntmps103]) ?_
  (refine q_seq ?_; refine q_region ?_; refine ql_pure tabOk rfl rfl ?_; refine q_nil ?_; refine q_seq ?_; refine q_region ?_; (iterate 2 refine ql_pure tabOk rfl rfl ?_))
  refine ql_call (β := Int) (ψ := fun x v => v = .int .i64 x ∧ 0 ≤ x ∧ (x < n ∨ x = 0)) (L' := fun _ => [dkP bs b (K + 1)]) tabOk [dkP bs b (K)] _ (fun x => x = b) rfl rfl rfl rfl (Sp.cons (by repeat constructor) (Sp.refl _)) (fun x hx => ⟨_, .head _, hx⟩) (fun w' hs => drawP_ca (n) (K) (by omega) w' b lo hi bs (hby.keepP hlh hs.chg) hlh (hs.all _ (.head _))) ?_; rintro x _ ⟨rfl, hx⟩
  ((iterate 2 refine ql_pure tabOk rfl rfl ?_); refine q_nil ?_; refine q_ret ?_)
  refine q_fin tabOk rfl (by repeat (first | exact RVs.nil | apply RVs.tmp rfl | apply RVs.cellA rfl rfl (by repeat first | exact .head _ | refine .tail _ ?_) (by rfl) | apply RVs.cell1 rfl rfl (by repeat first | exact .head _ | refine .tail _ ?_))) fun w hs => ?_
  exact ⟨_, rfl, hs⟩

theorem dyC_snoc (l : List Dy) (d : Dy) : dyC (l ++ [d]) = dyC l ++ dyC [d] := by simp [dyC]
theorem dyC_one (l : List Dy) : ∀ c ∈ dyC l, oneV c = true := fun c hc => by obtain ⟨y, _, hy⟩ := List.mem_flatMap.1 hc; simp at hy; rcases hy with rfl | rfl | rfl | rfl | rfl | rfl <;> rfl
theorem slD : SlT Try.prog 59 73 6 48 (.agg #[.int .i64 0, .int .i64 0, .int .i64 0, .int .i64 0, .int .i64 0, .int .i64 0]) := ⟨by kernel_rfl, by kernel_rfl, by kernel_rfl, by decide⟩
theorem Blk.rdDy {w : World} {b : Nat} {d : Dy} {t : TypeId} (h : Blk w b (dyC [d]) t) : Rd w b (b + 1) (.slice (some ⟨b, 0, none⟩) 1 1) 6 1 (dyC [d]) :=
  ⟨rfl, .inr ⟨b, 0, 1, rfl, fun _ => ⟨Nat.le_refl _, Nat.lt_succ_self _, h.lt⟩, fun j _ => by rw [Blk.cell h]; simp⟩⟩
/-- The spans made so far. -/
structure DayI (i : Nat) (d : Dy) : Prop where
  n : 1 ≤ i → 0 ≤ d.n0 ∧ d.n0 ≤ 29 ∧ d.n0 ≤ d.n1 ∧ d.n1 ≤ d.n0 + 11
  m : 2 ≤ i → 0 ≤ d.m0 ∧ d.m0 ≤ 39 ∧ d.m0 ≤ d.m1 ∧ d.m1 ≤ d.m0 + 19
  l : 3 ≤ i → 0 ≤ d.l0 ∧ d.l0 ≤ 5 ∧ d.l0 ≤ d.l1 ∧ d.l1 ≤ d.l0 + 3

set_option maxHeartbeats 4000000 in
theorem madeW_ca (days : Nat) (h1 : 1 ≤ days) (h2 : days ≤ 60) (K : Nat) (hK : K < 100000) (w : World) (b lo hi : Nat) (bs : Value) (hby : DkB w lo hi bs) (hlh : hi ≤ b) (hd : DkS w b bs K) :
    Ca Try.prog 35 [.pointer (some ⟨b, 0, none⟩), .int .i64 days] w fun v w' => ∃ y : Nat × Nat × Wn, (v = .agg (wnC y.2.2 (some ⟨y.1, 0, none⟩) y.2.1).toArray ∧ WinB days y.2.2) ∧ Sat w (fun x => x = b) [.ow (.slice (some ⟨y.1, 0, none⟩) y.2.2.days.length y.2.1) 73 6 y.2.2.days.length (dyC y.2.2.days), dkP bs b (K + 1000)] w' := by
  refine q_of (dk_sat hd) Try.func35 rfl (by simp [Try.ntmps35]) ?_
  (refine q_seq ?_; refine q_region ?_)
  refine ql_alloc zero61 rfl (fun b4 => ?_)
  (refine q_nil ?_; refine q_seq ?_; refine q_region ?_; refine ql_pure tabOk rfl rfl ?_)
  refine ql_call (β := Int) (ψ := fun x v => v = .int .i64 x ∧ 20 ≤ x ∧ x ≤ 200) (L' := fun _ => [dkP bs b (K + 1)]) tabOk [dkP bs b (K)] _ (fun x => x = b) rfl rfl rfl rfl (Sp.cons (by repeat constructor) (Sp.refl _)) (fun x hx => ⟨_, .head _, hx⟩) (fun w' hs => between_ca (20) (200) (by omega) (by omega) (by omega) (K) (by omega) w' b lo hi bs (hby.keepP hlh hs.chg) hlh (hs.all _ (.head _))) ?_; rintro sto _ ⟨rfl, hsto⟩
  refine ql_mk #[.int .i64 0, .int .i64 sto, .slice none 0 0] rfl (by kernel_rfl) rfl ?_
  refine ql_alloc zero61 rfl (fun b5 => ?_)
  (refine ql_setA tabOk rfl rfl rfl rfl rfl (by repeat constructor) rfl ?_; refine q_nil ?_; refine q_seq ?_; refine q_region ?_; (iterate 2 refine ql_pure tabOk rfl rfl ?_); refine ql_loadB tabOk rfl rfl rfl (by repeat first | exact .head _ | refine .tail _ ?_) (by rfl) ?_; refine ql_ar tabOk rfl rfl rfl rfl (by omega) (by omega) ?_)
  refine ql_call (β := Int) (ψ := fun x v => v = .int .i64 x ∧ 0 ≤ x ∧ (x < sto + 1 ∨ x = 0)) (L' := fun _ => [dkP bs b (K + 1 + 1)]) tabOk [dkP bs b (K + 1)] _ (fun x => x = b) rfl rfl rfl rfl (Sp.cons (by repeat constructor) (Sp.refl _)) (fun x hx => ⟨_, .head _, hx⟩) (fun w' hs => drawP_ca (sto + 1) (K + 1) (by omega) w' b lo hi bs (hby.keepP hlh hs.chg) hlh (hs.all _ (.head _))) ?_; rintro stk _ ⟨rfl, hstk⟩
  (refine ql_pure tabOk rfl rfl ?_; refine ql_st0 tabOk rfl rfl rfl rfl (by repeat constructor) ?_; refine q_nil ?_; (iterate 2 refine q_seq ?_); refine q_region ?_; (iterate 2 refine ql_pure tabOk rfl rfl ?_))
  refine ql_call (β := Int) (ψ := fun x v => v = .int .i64 x ∧ 1 ≤ x ∧ x ≤ days) (L' := fun _ => [dkP bs b (K + 2 + 1)]) tabOk [dkP bs b (K + 2)] _ (fun x => x = b) rfl rfl rfl rfl (Sp.cons (by repeat constructor) (Sp.refl _)) (fun x hx => ⟨_, .head _, hx⟩) (fun w' hs => between_ca (1) (days) (by omega) (by omega) (by omega) (K + 2) (by omega) w' b lo hi bs (hby.keepP hlh hs.chg) hlh (hs.all _ (.head _))) ?_; rintro cnt _ ⟨rfl, hcnt⟩
  (refine ql_pure tabOk rfl rfl ?_; refine q_nil ?_; refine q_block ?_)
  obtain ⟨cn, rfl⟩ := Int.eq_ofNat_of_zero_le (show 0 ≤ cnt by omega)
  have hcn : 1 ≤ cn ∧ cn ≤ days := by omega
  clear hcnt
  refine q_conv (H' := [.pt b5 [.int .i64 stk, .int .i64 sto, .slice none 0 0] 61, .ow (.slice none 0 0) 73 6 0 (dyC []), dkP bs b (K + 3 + 8 * 0), .pt b4 [.int .i64 0, .int .i64 0, .slice none 0 0] 61])
    (fun w' hs => (Sat.ownil hs 73 6).sp (by repeat (first | exact Sp.nil | exact Sp.refl _ | refine Sp.cons (by repeat constructor) ?_))) ?_
  refine q_loop (σ := Value × List Dy) (fun s => s.2.length ≤ cn ∧ ∀ d ∈ s.2, DayB d) (fun s => cn - s.2.length) (fun s => [(0, .pointer (some ⟨b, 0, none⟩)), (4, .pointer (some ⟨b4, 0, none⟩)), (5, .pointer (some ⟨b5, 0, none⟩)), (21, .int .i64 cn), (22, .int .i64 s.2.length)])
    (fun s => [.pt b5 [.int .i64 stk, .int .i64 sto, s.1] 61, .ow s.1 73 6 s.2.length (dyC s.2), dkP bs b (K + 3 + 8 * s.2.length), .pt b4 [.int .i64 0, .int .i64 0, .slice none 0 0] 61]) (.slice none 0 0, []) (by simp) ⟨rfl, rfl, rfl, rfl, rfl, trivial⟩ (by repeat (first | exact Sp.nil | exact Sp.refl _ | refine Sp.cons (by repeat constructor) ?_)) ?_
  rintro ⟨v, l⟩ ⟨hl, hB⟩ K1 hK1
  simp only at hl hB
  dsimp only
  (refine q_seq ?_; refine q_region ?_; refine ql_pure tabOk rfl rfl ?_; refine q_nil ?_; refine q_seq ?_)
  refine q_if rfl (fun hc => ?_) (fun hc => ?_)
  · have hl2 : l.length < cn := by omega
    clear hc
    obtain ⟨k, hk⟩ : ∃ k, k = l.length := ⟨_, rfl⟩
    rw [← hk]
    (refine q_skip ?_; refine q_seq ?_; refine q_block ?_; refine q_seq ?_; refine q_region ?_)
    refine ql_alloc zero73 rfl (fun b6 => ?_)
    (refine q_nil ?_; (iterate 2 refine q_seq ?_); refine q_region ?_; (iterate 3 refine ql_pure tabOk rfl rfl ?_))
    refine ql_mkS 83 [.pointer (some ⟨b6, 0, none⟩), .pointer (some ⟨b6, 2, none⟩), .pointer (some ⟨b6, 4, none⟩)] rfl (by kernel_rfl) rfl (fun bp => ?_)
    ((iterate 2 refine ql_pure tabOk rfl rfl ?_); refine q_nil ?_)
    refine q_cut (σ := {d : Dy // DayB d}) (fun d => [(0, .pointer (some ⟨b, 0, none⟩)), (4, .pointer (some ⟨b4, 0, none⟩)), (5, .pointer (some ⟨b5, 0, none⟩)), (6, .pointer (some ⟨b6, 0, none⟩)), (21, .int .i64 cn), (22, .int .i64 k)])
      (fun d => [.pt b6 (dyC [d.1]) 73, dkP bs b (K + 3 + 8 * k + 6), .pt b5 [.int .i64 stk, .int .i64 sto, v] 61, .ow v 73 6 k (dyC l), .pt b4 [.int .i64 0, .int .i64 0, .slice none 0 0] 61]) ?_ (fun KK hKK => ?_)
    rotate_left
    · skip
      (refine q_block ?_)
      refine q_loop (σ := Nat × Dy) (fun s => s.1 ≤ 3 ∧ DayI s.1 s.2) (fun s => 3 - s.1) (fun s => [(0, .pointer (some ⟨b, 0, none⟩)), (4, .pointer (some ⟨b4, 0, none⟩)), (5, .pointer (some ⟨b5, 0, none⟩)), (6, .pointer (some ⟨b6, 0, none⟩)), (21, .int .i64 cn), (22, .int .i64 k), (27, .slice (some ⟨bp, 0, none⟩) 3 3), (28, .int .i64 3), (29, .int .i64 s.1)])
        (fun s => [.pt bp [.pointer (some ⟨b6, 0, none⟩), .pointer (some ⟨b6, 2, none⟩), .pointer (some ⟨b6, 4, none⟩)] 83, .pt b6 (dyC [s.2]) 73, dkP bs b (K + 3 + 8 * k + 2 * s.1), .pt b5 [.int .i64 stk, .int .i64 sto, v] 61, .ow v 73 6 k (dyC l), .pt b4 [.int .i64 0, .int .i64 0, .slice none 0 0] 61]) (0, ⟨0, 0, 0, 0, 0, 0⟩) ⟨by decide, ⟨by omega, by omega, by omega⟩⟩ ⟨rfl, rfl, rfl, rfl, rfl, rfl, rfl, rfl, rfl, trivial⟩ (by repeat (first | exact Sp.nil | exact Sp.refl _ | refine Sp.cons (by repeat constructor) ?_)) ?_
      rintro ⟨i, d⟩ ⟨hi3, hdI⟩ K2 hK2
      simp only at hi3 hdI
      dsimp only
      obtain rfl | rfl | rfl | rfl : i = 0 ∨ i = 1 ∨ i = 2 ∨ i = 3 := by omega
      · skip
        (refine q_seq ?_; refine q_region ?_; refine ql_lssT tabOk rfl rfl rfl (by omega) ?_; refine q_nil ?_; refine q_seq ?_; refine q_cond_true rfl ?_; refine q_skip ?_; refine q_seq ?_; refine q_block ?_; refine q_seq ?_; refine q_region ?_; refine ql_pure tabOk rfl rfl ?_)
        refine ql_index tabOk rfl rfl rfl rfl rfl (by decide) (by decide) ?_
        (refine ql_loadB tabOk rfl rfl rfl (by repeat first | exact .head _ | refine .tail _ ?_) (by rfl) ?_; (iterate 2 refine ql_pure tabOk rfl rfl ?_); refine q_nil ?_; refine q_seq ?_; refine q_region ?_; refine ql_pure tabOk rfl rfl ?_)
        refine ql_mkS 3 [.int .i64 30, .int .i64 40, .int .i64 6] rfl (by kernel_rfl) rfl (fun c1 => ?_)
        (refine ql_pure tabOk rfl rfl ?_)
        refine ql_index tabOk rfl rfl rfl rfl rfl (by decide) (by decide) ?_
        (refine ql_loadB tabOk rfl rfl rfl (by repeat first | exact .head _ | refine .tail _ ?_) (by rfl) ?_)
        refine ql_call (β := Int) (ψ := fun x v => v = .int .i64 x ∧ 0 ≤ x ∧ (x < 30 ∨ x = 0)) (L' := fun _ => [dkP bs b (K + 3 + 8 * k + 2 * 0 + 1)]) tabOk [dkP bs b (K + 3 + 8 * k + 2 * 0)] _ (fun x => x = b) rfl rfl rfl rfl (Sp.cons (by repeat constructor) (Sp.refl _)) (fun x hx => ⟨_, .head _, hx⟩) (fun w' hs => drawP_ca (30) (K + 3 + 8 * k + 2 * 0) (by omega) w' b lo hi bs (hby.keepP hlh hs.chg) hlh (hs.all _ (.head _))) ?_; rintro x _ ⟨rfl, hx⟩
        (refine ql_pure tabOk rfl rfl ?_; refine q_nil ?_; refine q_region ?_; (iterate 4 refine ql_pure tabOk rfl rfl ?_))
        refine ql_mkS 3 [.int .i64 12, .int .i64 20, .int .i64 4] rfl (by kernel_rfl) rfl (fun c2 => ?_)
        (refine ql_pure tabOk rfl rfl ?_)
        refine ql_index tabOk rfl rfl rfl rfl rfl (by decide) (by decide) ?_
        (refine ql_loadB tabOk rfl rfl rfl (by repeat first | exact .head _ | refine .tail _ ?_) (by rfl) ?_)
        refine ql_call (β := Int) (ψ := fun x v => v = .int .i64 x ∧ 0 ≤ x ∧ (x < 12 ∨ x = 0)) (L' := fun _ => [dkP bs b (K + 3 + 8 * k + 2 * 0 + 1 + 1)]) tabOk [dkP bs b (K + 3 + 8 * k + 2 * 0 + 1)] _ (fun x => x = b) rfl rfl rfl rfl (Sp.cons (by repeat constructor) (Sp.refl _)) (fun x hx => ⟨_, .head _, hx⟩) (fun w' hs => drawP_ca (12) (K + 3 + 8 * k + 2 * 0 + 1) (by omega) w' b lo hi bs (hby.keepP hlh hs.chg) hlh (hs.all _ (.head _))) ?_; rintro y _ ⟨rfl, hy⟩
        (refine ql_ar tabOk rfl rfl rfl rfl (by omega) (by omega) ?_)
        refine ql_callv tabOk rfl rfl rfl rfl (fun w hs => spanM_ca _ _ w) ?_
        (refine ql_pure tabOk rfl rfl ?_)
        refine ql_stA [.int .i64 x, .int .i64 (x + y), .int .i64 d.m0, .int .i64 d.m1, .int .i64 d.l0, .int .i64 d.l1] tabOk rfl rfl rfl rfl rfl (by repeat constructor) rfl rfl ?_
        (refine q_nil ?_; refine q_blk ?_; refine q_region ?_; refine ql_ar tabOk rfl rfl rfl rfl (by omega) (by omega) ?_; refine ql_pure tabOk rfl rfl ?_; refine q_nil ?_)
        exact hK2 (1, ⟨x, (x + y), d.m0, d.m1, d.l0, d.l1⟩) _ _ ⟨by dsimp only; omega, fun h => ⟨by dsimp only; omega, by dsimp only; omega, by dsimp only; omega, by dsimp only; omega⟩, fun h => by dsimp only at h; omega, fun h => by dsimp only at h; omega⟩ (by dsimp only; omega) ⟨rfl, rfl, rfl, rfl, rfl, rfl, rfl, rfl, rfl, trivial⟩ (by repeat (first | exact Sp.nil | exact Sp.refl _ | refine Sp.cons (by repeat constructor) ?_))
      · skip
        (refine q_seq ?_; refine q_region ?_; refine ql_lssT tabOk rfl rfl rfl (by omega) ?_; refine q_nil ?_; refine q_seq ?_; refine q_cond_true rfl ?_; refine q_skip ?_; refine q_seq ?_; refine q_block ?_; refine q_seq ?_; refine q_region ?_; refine ql_pure tabOk rfl rfl ?_)
        refine ql_index tabOk rfl rfl rfl rfl rfl (by decide) (by decide) ?_
        (refine ql_loadB tabOk rfl rfl rfl (by repeat first | exact .head _ | refine .tail _ ?_) (by rfl) ?_; (iterate 2 refine ql_pure tabOk rfl rfl ?_); refine q_nil ?_; refine q_seq ?_; refine q_region ?_; refine ql_pure tabOk rfl rfl ?_)
        refine ql_mkS 3 [.int .i64 30, .int .i64 40, .int .i64 6] rfl (by kernel_rfl) rfl (fun c1 => ?_)
        (refine ql_pure tabOk rfl rfl ?_)
        refine ql_index tabOk rfl rfl rfl rfl rfl (by decide) (by decide) ?_
        (refine ql_loadB tabOk rfl rfl rfl (by repeat first | exact .head _ | refine .tail _ ?_) (by rfl) ?_)
        refine ql_call (β := Int) (ψ := fun x v => v = .int .i64 x ∧ 0 ≤ x ∧ (x < 40 ∨ x = 0)) (L' := fun _ => [dkP bs b (K + 3 + 8 * k + 2 * 1 + 1)]) tabOk [dkP bs b (K + 3 + 8 * k + 2 * 1)] _ (fun x => x = b) rfl rfl rfl rfl (Sp.cons (by repeat constructor) (Sp.refl _)) (fun x hx => ⟨_, .head _, hx⟩) (fun w' hs => drawP_ca (40) (K + 3 + 8 * k + 2 * 1) (by omega) w' b lo hi bs (hby.keepP hlh hs.chg) hlh (hs.all _ (.head _))) ?_; rintro x _ ⟨rfl, hx⟩
        (refine ql_pure tabOk rfl rfl ?_; refine q_nil ?_; refine q_region ?_; (iterate 4 refine ql_pure tabOk rfl rfl ?_))
        refine ql_mkS 3 [.int .i64 12, .int .i64 20, .int .i64 4] rfl (by kernel_rfl) rfl (fun c2 => ?_)
        (refine ql_pure tabOk rfl rfl ?_)
        refine ql_index tabOk rfl rfl rfl rfl rfl (by decide) (by decide) ?_
        (refine ql_loadB tabOk rfl rfl rfl (by repeat first | exact .head _ | refine .tail _ ?_) (by rfl) ?_)
        refine ql_call (β := Int) (ψ := fun x v => v = .int .i64 x ∧ 0 ≤ x ∧ (x < 20 ∨ x = 0)) (L' := fun _ => [dkP bs b (K + 3 + 8 * k + 2 * 1 + 1 + 1)]) tabOk [dkP bs b (K + 3 + 8 * k + 2 * 1 + 1)] _ (fun x => x = b) rfl rfl rfl rfl (Sp.cons (by repeat constructor) (Sp.refl _)) (fun x hx => ⟨_, .head _, hx⟩) (fun w' hs => drawP_ca (20) (K + 3 + 8 * k + 2 * 1 + 1) (by omega) w' b lo hi bs (hby.keepP hlh hs.chg) hlh (hs.all _ (.head _))) ?_; rintro y _ ⟨rfl, hy⟩
        (refine ql_ar tabOk rfl rfl rfl rfl (by omega) (by omega) ?_)
        refine ql_callv tabOk rfl rfl rfl rfl (fun w hs => spanM_ca _ _ w) ?_
        (refine ql_pure tabOk rfl rfl ?_)
        refine ql_stA [.int .i64 d.n0, .int .i64 d.n1, .int .i64 x, .int .i64 (x + y), .int .i64 d.l0, .int .i64 d.l1] tabOk rfl rfl rfl rfl rfl (by repeat constructor) rfl rfl ?_
        (refine q_nil ?_; refine q_blk ?_; refine q_region ?_; refine ql_ar tabOk rfl rfl rfl rfl (by omega) (by omega) ?_; refine ql_pure tabOk rfl rfl ?_; refine q_nil ?_)
        exact hK2 (2, ⟨d.n0, d.n1, x, (x + y), d.l0, d.l1⟩) _ _ ⟨by dsimp only; omega, fun h => hdI.n (by omega), fun h => ⟨by dsimp only; omega, by dsimp only; omega, by dsimp only; omega, by dsimp only; omega⟩, fun h => by dsimp only at h; omega⟩ (by dsimp only; omega) ⟨rfl, rfl, rfl, rfl, rfl, rfl, rfl, rfl, rfl, trivial⟩ (by repeat (first | exact Sp.nil | exact Sp.refl _ | refine Sp.cons (by repeat constructor) ?_))
      · skip
        (refine q_seq ?_; refine q_region ?_; refine ql_lssT tabOk rfl rfl rfl (by omega) ?_; refine q_nil ?_; refine q_seq ?_; refine q_cond_true rfl ?_; refine q_skip ?_; refine q_seq ?_; refine q_block ?_; refine q_seq ?_; refine q_region ?_; refine ql_pure tabOk rfl rfl ?_)
        refine ql_index tabOk rfl rfl rfl rfl rfl (by decide) (by decide) ?_
        (refine ql_loadB tabOk rfl rfl rfl (by repeat first | exact .head _ | refine .tail _ ?_) (by rfl) ?_; (iterate 2 refine ql_pure tabOk rfl rfl ?_); refine q_nil ?_; refine q_seq ?_; refine q_region ?_; refine ql_pure tabOk rfl rfl ?_)
        refine ql_mkS 3 [.int .i64 30, .int .i64 40, .int .i64 6] rfl (by kernel_rfl) rfl (fun c1 => ?_)
        (refine ql_pure tabOk rfl rfl ?_)
        refine ql_index tabOk rfl rfl rfl rfl rfl (by decide) (by decide) ?_
        (refine ql_loadB tabOk rfl rfl rfl (by repeat first | exact .head _ | refine .tail _ ?_) (by rfl) ?_)
        refine ql_call (β := Int) (ψ := fun x v => v = .int .i64 x ∧ 0 ≤ x ∧ (x < 6 ∨ x = 0)) (L' := fun _ => [dkP bs b (K + 3 + 8 * k + 2 * 2 + 1)]) tabOk [dkP bs b (K + 3 + 8 * k + 2 * 2)] _ (fun x => x = b) rfl rfl rfl rfl (Sp.cons (by repeat constructor) (Sp.refl _)) (fun x hx => ⟨_, .head _, hx⟩) (fun w' hs => drawP_ca (6) (K + 3 + 8 * k + 2 * 2) (by omega) w' b lo hi bs (hby.keepP hlh hs.chg) hlh (hs.all _ (.head _))) ?_; rintro x _ ⟨rfl, hx⟩
        (refine ql_pure tabOk rfl rfl ?_; refine q_nil ?_; refine q_region ?_; (iterate 4 refine ql_pure tabOk rfl rfl ?_))
        refine ql_mkS 3 [.int .i64 12, .int .i64 20, .int .i64 4] rfl (by kernel_rfl) rfl (fun c2 => ?_)
        (refine ql_pure tabOk rfl rfl ?_)
        refine ql_index tabOk rfl rfl rfl rfl rfl (by decide) (by decide) ?_
        (refine ql_loadB tabOk rfl rfl rfl (by repeat first | exact .head _ | refine .tail _ ?_) (by rfl) ?_)
        refine ql_call (β := Int) (ψ := fun x v => v = .int .i64 x ∧ 0 ≤ x ∧ (x < 4 ∨ x = 0)) (L' := fun _ => [dkP bs b (K + 3 + 8 * k + 2 * 2 + 1 + 1)]) tabOk [dkP bs b (K + 3 + 8 * k + 2 * 2 + 1)] _ (fun x => x = b) rfl rfl rfl rfl (Sp.cons (by repeat constructor) (Sp.refl _)) (fun x hx => ⟨_, .head _, hx⟩) (fun w' hs => drawP_ca (4) (K + 3 + 8 * k + 2 * 2 + 1) (by omega) w' b lo hi bs (hby.keepP hlh hs.chg) hlh (hs.all _ (.head _))) ?_; rintro y _ ⟨rfl, hy⟩
        (refine ql_ar tabOk rfl rfl rfl rfl (by omega) (by omega) ?_)
        refine ql_callv tabOk rfl rfl rfl rfl (fun w hs => spanM_ca _ _ w) ?_
        (refine ql_pure tabOk rfl rfl ?_)
        refine ql_stA [.int .i64 d.n0, .int .i64 d.n1, .int .i64 d.m0, .int .i64 d.m1, .int .i64 x, .int .i64 (x + y)] tabOk rfl rfl rfl rfl rfl (by repeat constructor) rfl rfl ?_
        (refine q_nil ?_; refine q_blk ?_; refine q_region ?_; refine ql_ar tabOk rfl rfl rfl rfl (by omega) (by omega) ?_; refine ql_pure tabOk rfl rfl ?_; refine q_nil ?_)
        exact hK2 (3, ⟨d.n0, d.n1, d.m0, d.m1, x, (x + y)⟩) _ _ ⟨by dsimp only; omega, fun h => hdI.n (by omega), fun h => hdI.m (by omega), fun h => ⟨by dsimp only; omega, by dsimp only; omega, by dsimp only; omega, by dsimp only; omega⟩⟩ (by dsimp only; omega) ⟨rfl, rfl, rfl, rfl, rfl, rfl, rfl, rfl, rfl, trivial⟩ (by repeat (first | exact Sp.nil | exact Sp.refl _ | refine Sp.cons (by repeat constructor) ?_))
      · (refine q_seq ?_; refine q_region ?_; refine ql_lssF tabOk rfl rfl rfl (by omega) ?_; refine q_nil ?_; refine q_seq ?_; refine q_cond_false rfl ?_; refine q_exit _ rfl ?_)
        exact hKK ⟨d, hdI.n (by omega), hdI.m (by omega), hdI.l (by omega)⟩ _ _ ⟨rfl, rfl, rfl, rfl, rfl, rfl, trivial⟩ (by repeat (first | exact Sp.nil | exact Sp.refl _ | refine Sp.cons (by repeat constructor) ?_))
    rintro ⟨d, hdB⟩
    dsimp only
    ((iterate 2 refine q_seq ?_); refine q_region ?_; refine ql_pure tabOk rfl rfl ?_)
    refine ql_call (β := Bool) (L' := fun _ => [dkP bs b (K + 3 + 8 * k + 6 + 1)]) tabOk [dkP bs b (K + 3 + 8 * k + 6)] _ (fun x => x = b) rfl rfl rfl rfl (Sp.cons (by repeat constructor) (Sp.refl _)) (fun x hx => ⟨_, .head _, hx⟩) (fun w' hs => coin_ca 4 (by omega) (K + 3 + 8 * k + 6) (by omega) w' b lo hi bs (hby.keepP hlh hs.chg) hlh (hs.all _ (.head _))) ?_
    rintro co _ rfl
    dsimp only [List.cons_append, List.nil_append]
    (refine q_nil ?_)
    refine q_cut (σ := {d : Dy // DayB d}) (fun d => [(0, .pointer (some ⟨b, 0, none⟩)), (4, .pointer (some ⟨b4, 0, none⟩)), (5, .pointer (some ⟨b5, 0, none⟩)), (6, .pointer (some ⟨b6, 0, none⟩)), (21, .int .i64 cn), (22, .int .i64 k)])
      (fun d => [.pt b6 (dyC [d.1]) 73, dkP bs b (K + 3 + 8 * k + 8), .pt b5 [.int .i64 stk, .int .i64 sto, v] 61, .ow v 73 6 k (dyC l), .pt b4 [.int .i64 0, .int .i64 0, .slice none 0 0] 61]) ?_ (fun KK hKK => ?_)
    rotate_left
    · cases co
      · (refine q_cond_false rfl ?_; refine q_skip ?_)
        refine q_conv (H' := [dkP bs b (K + 3 + 8 * k + 8), .pt b6 (dyC [d]) 73, .pt b5 [.int .i64 stk, .int .i64 sto, v] 61, .ow v 73 6 k (dyC l), .pt b4 [.int .i64 0, .int .i64 0, .slice none 0 0] 61]) (fun w' hs => Sat.dk (K := K + 3 + 8 * k + 6 + 1) (hs.sp (by repeat (first | exact Sp.nil | exact Sp.refl _ | refine Sp.cons (by repeat constructor) ?_))) (by omega)) ?_
        exact hKK ⟨d, hdB⟩ _ _ ⟨rfl, rfl, rfl, rfl, rfl, rfl, trivial⟩ (by repeat (first | exact Sp.nil | exact Sp.refl _ | refine Sp.cons (by repeat constructor) ?_))
      · (refine q_cond_true rfl ?_; refine q_region ?_; refine ql_pure tabOk rfl rfl ?_)
        refine ql_call (β := Int) (ψ := fun x v => v = .int .i64 x ∧ 0 ≤ x ∧ (x < 3 ∨ x = 0)) (L' := fun _ => [dkP bs b (K + 3 + 8 * k + 6 + 1 + 1)]) tabOk [dkP bs b (K + 3 + 8 * k + 6 + 1)] _ (fun x => x = b) rfl rfl rfl rfl (Sp.cons (by repeat constructor) (Sp.refl _)) (fun x hx => ⟨_, .head _, hx⟩) (fun w' hs => drawP_ca (3) (K + 3 + 8 * k + 6 + 1) (by omega) w' b lo hi bs (hby.keepP hlh hs.chg) hlh (hs.all _ (.head _))) ?_; rintro x _ ⟨rfl, hx⟩
        refine ql_callv tabOk rfl rfl rfl rfl (fun w hs => spanM_ca _ _ w) ?_
        (refine ql_pure tabOk rfl rfl ?_)
        refine ql_stA [.int .i64 d.n0, .int .i64 d.n1, .int .i64 0, .int .i64 x, .int .i64 d.l0, .int .i64 d.l1] tabOk rfl rfl rfl rfl rfl (by repeat constructor) rfl rfl ?_
        (refine q_nil ?_)
        exact hKK ⟨⟨d.n0, d.n1, 0, x, d.l0, d.l1⟩, hdB.n, by dsimp only; omega, hdB.l⟩ _ _ ⟨rfl, rfl, rfl, rfl, rfl, rfl, trivial⟩ (by repeat (first | exact Sp.nil | exact Sp.refl _ | refine Sp.cons (by repeat constructor) ?_))
    clear hdB
    rintro ⟨d, hdB⟩
    dsimp only
    (refine q_region ?_; refine ql_pure tabOk rfl rfl ?_; refine ql_loadB tabOk rfl rfl rfl (by repeat first | exact .head _ | refine .tail _ ?_) (by rfl) ?_; refine ql_loadAB tabOk rfl rfl rfl (by repeat first | exact .head _ | refine .tail _ ?_) (by rfl) (by rfl) ?_)
    refine ql_mkS 73 (dyC [d]) rfl (by kernel_rfl) rfl (fun bn => ?_)
    refine ql_append (q := 1) slD rfl rfl rfl (fun v' => by repeat constructor) (fun w' hs => ⟨_, _, Blk.rdDy (hs.blk (b := bn) (by repeat first | exact .head _ | refine .tail _ ?_))⟩) (dyC_one _) (by omega) (by omega) (fun u => ?_)
    refine ql_fact (fun w hs => hs.slice (v := u) (by repeat first | exact .head _ | refine .tail _ ?_)) ?_
    rintro ⟨a1, g1, d1, rfl⟩
    (refine ql_pure tabOk rfl rfl ?_; refine ql_st2 tabOk rfl rfl rfl rfl (by repeat constructor) ?_; refine q_nil ?_; refine q_blk ?_; refine q_region ?_; refine ql_ar tabOk rfl rfl rfl rfl (by omega) (by omega) ?_; refine ql_pure tabOk rfl rfl ?_; refine q_nil ?_)
    refine hK1 (.slice a1 g1 d1, l ++ [d]) _ _ ⟨by simp; omega, ?_⟩ (by simp; omega) ⟨rfl, rfl, rfl, rfl, lookI rfl (by simp; omega), trivial⟩ (by dsimp only; rw [dyC_snoc, List.length_append, List.length_singleton, ← hk]; repeat (first | exact Sp.nil | exact Sp.refl _ | refine Sp.cons (by repeat constructor) ?_))
    intro z hz
    rcases List.mem_append.1 hz with hz | hz
    · exact hB z hz
    · obtain rfl : z = d := by simpa using hz
      exact hdB
  · have hk : l.length = cn := by omega
    refine q_fact (fun w hs => hs.ownSome (v := v) (by repeat first | exact .head _ | refine .tail _ ?_) (by omega)) ?_
    rintro ⟨g, c, rfl⟩
    (refine q_exit _ rfl ?_; refine q_seq ?_; refine q_region ?_; refine ql_loadAB tabOk rfl rfl rfl (by repeat first | exact .head _ | refine .tail _ ?_) (by rfl) (by rfl) ?_; refine ql_setA tabOk rfl rfl rfl rfl rfl (by repeat constructor) rfl ?_; refine q_nil ?_; refine q_ret ?_)
    refine q_fin tabOk rfl (by repeat (first | exact RVs.nil | apply RVs.tmp rfl | apply RVs.cellA rfl rfl (by repeat first | exact .head _ | refine .tail _ ?_) (by rfl) | apply RVs.cell1 rfl rfl (by repeat first | exact .head _ | refine .tail _ ?_))) fun w hs => ?_
    refine ⟨(g, c, ⟨stk, sto, l⟩), ⟨rfl, by dsimp only; omega, by dsimp only; omega, by dsimp only; omega, by dsimp only; omega, hB⟩, ?_⟩
    exact (Sat.dk (K := K + 3 + 8 * l.length) (K' := K + 1000) (R := [.ow (.slice (some ⟨g, 0, none⟩) l.length c) 73 6 l.length (dyC l)]) (hs.sp (by repeat (first | exact Sp.nil | exact Sp.refl _ | refine Sp.cons (by repeat constructor) ?_))) (by omega)).sp (by repeat (first | exact Sp.nil | exact Sp.refl _ | refine Sp.cons (by repeat constructor) ?_))
end Go.Proofs.Ytgeajgmefokifaa

/- Walks: a weather is drawn. -/
namespace Go.Proofs.Ytgeajgmefokifaa
open Go Go.Eng

theorem getD_snoc (l : List Int) (x : Int) (i : Nat) : (l ++ [x]).getD i 0 = if i < l.length then l.getD i 0 else if i = l.length then x else 0 := by
  simp only [List.getD_eq_getElem?_getD, List.getElem?_append]
  by_cases h : i < l.length
  · simp [h]
  · rw [if_neg h, if_neg h]
    by_cases h2 : i = l.length
    · subst h2; simp
    · rw [if_neg h2, List.getElem?_eq_none (by simp; omega)]
      rfl
/-- A weather of the first days. -/
structure WtP (days : List Dy) (k : Nat) (t : Wt) : Prop where
  ln : t.need.length = k
  lm : t.make.length = k
  ll : t.loss.length = k
  n : ∀ i, i < k → ∀ (h : i < days.length), days[i].n0 ≤ t.need.getD i 0 ∧ t.need.getD i 0 ≤ days[i].n1
  m : ∀ i, i < k → ∀ (h : i < days.length), days[i].m0 ≤ t.make.getD i 0 ∧ t.make.getD i 0 ≤ days[i].m1
  l : ∀ i, i < k → ∀ (h : i < days.length), days[i].l0 ≤ t.loss.getD i 0 ∧ t.loss.getD i 0 ≤ days[i].l1
theorem WtP.step {days : List Dy} {k : Nat} {t : Wt} (h : WtP days k t) (hk : k < days.length) {x y z : Int} (hx : days[k].n0 ≤ x ∧ x ≤ days[k].n1) (hy : days[k].m0 ≤ y ∧ y ≤ days[k].m1) (hz : days[k].l0 ≤ z ∧ z ≤ days[k].l1) : WtP days (k + 1) ⟨t.need ++ [x], t.make ++ [y], t.loss ++ [z]⟩ := by
  refine ⟨by simp [h.ln], by simp [h.lm], by simp [h.ll], fun i hi hd => ?_, fun i hi hd => ?_, fun i hi hd => ?_⟩
  · rw [getD_snoc, h.ln]
    split
    · exact h.n i (by assumption) hd
    · obtain rfl : i = k := by omega
      simpa using hx
  · rw [getD_snoc, h.lm]
    split
    · exact h.m i (by assumption) hd
    · obtain rfl : i = k := by omega
      simpa using hy
  · rw [getD_snoc, h.ll]
    split
    · exact h.l i (by assumption) hd
    · obtain rfl : i = k := by omega
      simpa using hz
theorem WtP.in {x : Wn} {t : Wt} (h : WtP x.days x.days.length t) : t.In x := ⟨h.ln, h.lm, h.ll, fun i hi => h.n i hi hi, fun i hi => h.m i hi hi, fun i hi => h.l i hi hi⟩
theorem DkB.keepM {w w' : World} {lo hi : Nat} {bs : Value} {M : Nat → Prop} (h : DkB w lo hi bs) (hM : ∀ k, M k → hi ≤ k) (hc : ChgP M w w') : DkB w' lo hi bs := by
  obtain ⟨nb, cs, h1, h2⟩ := h
  refine ⟨nb, cs, ⟨h1.1, ?_⟩, h2⟩
  rcases h1.2 with h3 | ⟨b, off, cap, hv, hb, hcell⟩
  · exact .inl h3
  · refine .inr ⟨b, off, cap, hv, fun hp => ⟨(hb hp).1, (hb hp).2.1, Nat.lt_of_lt_of_le (hb hp).2.2 hc.size⟩, fun j hj => ?_⟩
    rw [← hcell j hj]
    have hnb : 0 < cs.length := by omega
    exact World.cell?_of_block (w := w) (hc.block b (hb hnb).2.2 (fun hm => by have := hM b hm; have := (hb hnb).2.1; omega))
/-- The deck, and the days. -/
abbrev drL (bs : Value) (b K g c : Nat) (l : List Dy) : List Ck := [dkP bs b K, .ow (.slice (some ⟨g, 0, none⟩) l.length c) 73 6 l.length (dyC l)]

set_option maxHeartbeats 4000000 in
theorem drawn_ca (x : Wn) (hx : x.Right) (K : Nat) (hK : K < 100000) (w : World) (b g c lo hi : Nat) (bs : Value) (hby : DkB w lo hi bs) (hM : ∀ k, DL (drL bs b K g c x.days) k → hi ≤ k) (hs0 : Sat w (DL (drL bs b K g c x.days)) (drL bs b K g c x.days) w) :
    Ca Try.prog 61 [.pointer (some ⟨b, 0, none⟩), .agg (wnC x (some ⟨g, 0, none⟩) c).toArray] w fun v w' => ∃ y : (Value × Value × Value) × Wt, (v = .agg #[y.1.1, y.1.2.1, y.1.2.2] ∧ y.2.In x) ∧ Sat w (DL (drL bs b K g c x.days)) (wtK y.1.1 y.1.2.1 y.1.2.2 y.2 ++ drL bs b (K + 200) g c x.days) w' := by
  have hd2 := hx.d2
  have hd1 := hx.d1
  have hlb : hi ≤ b := hM b ⟨_, .head _, rfl⟩
  refine q_of hs0 Try.func61 rfl (by simp [Try.ntmps61]) ?_
  (refine q_seq ?_; refine q_region ?_)
  refine ql_box rfl rfl (fun b3 => ?_)
  refine ql_alloc zero107 rfl (fun b4 => ?_)
  (refine q_nil ?_; refine q_seq ?_; refine q_region ?_)
  refine ql_alloc zero107 rfl (fun b5 => ?_)
  (refine q_nil ?_; (iterate 2 refine q_seq ?_); refine q_region ?_; refine ql_pure tabOk rfl rfl ?_; refine ql_loadB tabOk rfl rfl rfl (by repeat first | exact .head _ | refine .tail _ ?_) (by rfl) ?_; (iterate 2 refine ql_pure tabOk rfl rfl ?_); refine q_nil ?_; refine q_block ?_)
  refine q_conv (H' := [.pt b5 [.slice none 0 0, .slice none 0 0, .slice none 0 0] 107, .ow (.slice none 0 0) 3 1 0 (ints []), .ow (.slice none 0 0) 3 1 0 (ints []), .ow (.slice none 0 0) 3 1 0 (ints []), dkP bs b (K + 3 * 0), .ow (.slice (some ⟨g, 0, none⟩) x.days.length c) 73 6 x.days.length (dyC x.days), .pt b4 [.slice none 0 0, .slice none 0 0, .slice none 0 0] 107])
    (fun w' hs => (Sat.ownil (Sat.ownil (Sat.ownil hs 3 1) 3 1) 3 1).sp (by repeat (first | exact Sp.nil | exact Sp.refl _ | refine Sp.cons (by repeat constructor) ?_))) ?_
  refine q_loop (σ := Nat × (Value × Value × Value) × Wt) (fun s => s.1 ≤ x.days.length ∧ WtP x.days s.1 s.2.2) (fun s => x.days.length - s.1) (fun s => [(0, .pointer (some ⟨b, 0, none⟩)), (4, .pointer (some ⟨b4, 0, none⟩)), (5, .pointer (some ⟨b5, 0, none⟩)), (9, .slice (some ⟨g, 0, none⟩) x.days.length c), (10, .int .i64 x.days.length), (11, .int .i64 s.1)])
    (fun s => [.pt b5 [s.2.1.1, s.2.1.2.1, s.2.1.2.2] 107, .ow s.2.1.1 3 1 s.1 (ints s.2.2.need), .ow s.2.1.2.1 3 1 s.1 (ints s.2.2.make), .ow s.2.1.2.2 3 1 s.1 (ints s.2.2.loss), dkP bs b (K + 3 * s.1), .ow (.slice (some ⟨g, 0, none⟩) x.days.length c) 73 6 x.days.length (dyC x.days), .pt b4 [.slice none 0 0, .slice none 0 0, .slice none 0 0] 107])
    (0, (.slice none 0 0, .slice none 0 0, .slice none 0 0), ⟨[], [], []⟩) ⟨by simp, ⟨rfl, rfl, rfl, fun i h => by simp at h, fun i h => by simp at h, fun i h => by simp at h⟩⟩ ⟨rfl, rfl, rfl, rfl, rfl, rfl, trivial⟩ (Sp.refl _) ?_
  rintro ⟨k, ⟨v1, v2, v3⟩, t⟩ ⟨hk, hP⟩ KK hKK
  simp only at hk hP
  dsimp only
  (refine q_seq ?_; refine q_region ?_; refine ql_pure tabOk rfl rfl ?_; refine q_nil ?_; refine q_seq ?_)
  refine q_if rfl (fun hc => ?_) (fun hc => ?_)
  · have hk2 : k < x.days.length := by omega
    clear hc
    have hR := hx.days _ (List.getElem_mem hk2)
    have hRn := hR.n
    have hRm := hR.m
    have hRl := hR.l
    have hst := fun {a b c} h1 h2 h3 => hP.step hk2 (x := a) (y := b) (z := c) h1 h2 h3
    (refine q_skip ?_; refine q_seq ?_; refine q_block ?_; refine q_seq ?_; refine q_region ?_)
    refine ql_index tabOk rfl rfl rfl rfl rfl (by omega) (by omega) ?_
    refine ql_loadA tabOk rfl rfl rfl rfl (fun w hs => RdD.at (own_rdD (t := 73) (hs.mem (c := .ow (.slice (some ⟨g, 0, none⟩) x.days.length c) 73 6 x.days.length (dyC x.days)) (by repeat first | exact .head _ | refine .tail _ ?_)) rfl) k hk2) ?_
    skip
    refine ql_alloc zero73 rfl (fun b7 => ?_)
    (refine ql_setA tabOk rfl rfl rfl rfl rfl (by repeat constructor) rfl ?_; refine q_nil ?_)
    generalize x.days[k] = d at *
    obtain ⟨n0, n1, m0, m1, l0, l1⟩ := d
    dsimp only at hRn hRm hRl hst ⊢
    refine q_drawS2 36 [.pt b7 [.int .i64 n0, .int .i64 n1, .int .i64 m0, .int .i64 m1, .int .i64 l0, .int .i64 l1] 73, .pt b5 [v1, v2, v3] 107, .ow (.slice (some ⟨g, 0, none⟩) x.days.length c) 73 6 x.days.length (dyC x.days), .pt b4 [.slice none 0 0, .slice none 0 0, .slice none 0 0] 107] [.ow v1 3 1 k (ints t.need), .ow v2 3 1 k (ints t.make), .ow v3 3 1 k (ints t.loss), dkP bs b (K + 3 * k)] [.ow (.slice (some ⟨g, 0, none⟩) x.days.length c) 73 6 x.days.length (dyC x.days), .pt b4 [.slice none 0 0, .slice none 0 0, .slice none 0 0] 107] [.pt b5 [v1, v2, v3] 107]
      (by repeat (first | exact Sp.nil | exact Sp.refl _ | refine Sp.cons (by repeat constructor) ?_)) (by repeat (first | exact Sp.nil | exact Sp.refl _ | refine Sp.cons (by repeat constructor) ?_)) (by kernel_rfl) (by kernel_rfl) (by kernel_rfl) fun K1 hK1 => ?_
    (refine qf_pure tabOk rfl rfl rfl ?_; refine qf_loadB tabOk rfl rfl rfl (by repeat first | exact .head _ | refine .tail _ ?_) (by rfl) ?_; (iterate 3 refine qf_pure tabOk rfl rfl rfl ?_); refine qf_loadB tabOk rfl rfl rfl (by repeat first | exact .head _ | refine .tail _ ?_) (by rfl) ?_; (iterate 2 refine qf_pure tabOk rfl rfl rfl ?_); refine qf_loadB tabOk rfl rfl rfl (by repeat first | exact .head _ | refine .tail _ ?_) (by rfl) ?_)
    refine qf_call (β := Int) (ψ := fun x v => v = .int .i64 x ∧ n0 ≤ x ∧ x ≤ n1) (L' := fun _ => [dkP bs b (K + 3 * k + 0 + 1)]) tabOk [dkP bs b (K + 3 * k + 0)] _ (fun x => x = b) rfl rfl rfl rfl (Sp.cons (by repeat constructor) (Sp.refl _)) (fun x hx => ⟨_, .head _, hx⟩) (fun w' hs => between_ca n0 n1 (by omega) (by omega) (by omega) (K + 3 * k + 0) (by omega) w' b lo hi bs (hby.keepM hM hs.chg) hlb (hs.all _ (.head _))) ?_
    rintro nx _ ⟨rfl, hnx⟩
    refine qf_mkS 3 [.int .i64 nx] rfl (by kernel_rfl) rfl (fun c0 => ?_)
    refine qf_append (q := 1) slI rfl rfl rfl (fun v' => by repeat constructor) (fun w' hs => ⟨_, _, Blk.rd (hs.blk (b := c0) (by repeat first | exact .head _ | refine .tail _ ?_)) rfl 1⟩) (by simp [oneV]) (by omega) (by omega) (fun u0 => ?_)
    (refine qf_pure tabOk rfl rfl rfl ?_; refine qf_loadB tabOk rfl rfl rfl (by repeat first | exact .head _ | refine .tail _ ?_) (by rfl) ?_; (iterate 3 refine qf_pure tabOk rfl rfl rfl ?_); refine qf_loadB tabOk rfl rfl rfl (by repeat first | exact .head _ | refine .tail _ ?_) (by rfl) ?_; (iterate 2 refine qf_pure tabOk rfl rfl rfl ?_); refine qf_loadB tabOk rfl rfl rfl (by repeat first | exact .head _ | refine .tail _ ?_) (by rfl) ?_)
    refine qf_call (β := Int) (ψ := fun x v => v = .int .i64 x ∧ m0 ≤ x ∧ x ≤ m1) (L' := fun _ => [dkP bs b (K + 3 * k + 1 + 1)]) tabOk [dkP bs b (K + 3 * k + 1)] _ (fun x => x = b) rfl rfl rfl rfl (Sp.cons (by repeat constructor) (Sp.refl _)) (fun x hx => ⟨_, .head _, hx⟩) (fun w' hs => between_ca m0 m1 (by omega) (by omega) (by omega) (K + 3 * k + 1) (by omega) w' b lo hi bs (hby.keepM hM hs.chg) hlb (hs.all _ (.head _))) ?_
    rintro mx _ ⟨rfl, hmx⟩
    refine qf_mkS 3 [.int .i64 mx] rfl (by kernel_rfl) rfl (fun c1 => ?_)
    refine qf_append (q := 1) slI rfl rfl rfl (fun v' => by repeat constructor) (fun w' hs => ⟨_, _, Blk.rd (hs.blk (b := c1) (by repeat first | exact .head _ | refine .tail _ ?_)) rfl 1⟩) (by simp [oneV]) (by omega) (by omega) (fun u1 => ?_)
    (refine qf_pure tabOk rfl rfl rfl ?_; refine qf_loadB tabOk rfl rfl rfl (by repeat first | exact .head _ | refine .tail _ ?_) (by rfl) ?_; (iterate 3 refine qf_pure tabOk rfl rfl rfl ?_); refine qf_loadB tabOk rfl rfl rfl (by repeat first | exact .head _ | refine .tail _ ?_) (by rfl) ?_; (iterate 2 refine qf_pure tabOk rfl rfl rfl ?_); refine qf_loadB tabOk rfl rfl rfl (by repeat first | exact .head _ | refine .tail _ ?_) (by rfl) ?_)
    refine qf_call (β := Int) (ψ := fun x v => v = .int .i64 x ∧ l0 ≤ x ∧ x ≤ l1) (L' := fun _ => [dkP bs b (K + 3 * k + 2 + 1)]) tabOk [dkP bs b (K + 3 * k + 2)] _ (fun x => x = b) rfl rfl rfl rfl (Sp.cons (by repeat constructor) (Sp.refl _)) (fun x hx => ⟨_, .head _, hx⟩) (fun w' hs => between_ca l0 l1 (by omega) (by omega) (by omega) (K + 3 * k + 2) (by omega) w' b lo hi bs (hby.keepM hM hs.chg) hlb (hs.all _ (.head _))) ?_
    rintro lx _ ⟨rfl, hlx⟩
    refine qf_mkS 3 [.int .i64 lx] rfl (by kernel_rfl) rfl (fun c2 => ?_)
    refine qf_append (q := 1) slI rfl rfl rfl (fun v' => by repeat constructor) (fun w' hs => ⟨_, _, Blk.rd (hs.blk (b := c2) (by repeat first | exact .head _ | refine .tail _ ?_)) rfl 1⟩) (by simp [oneV]) (by omega) (by omega) (fun u2 => ?_)
    (refine qf_nil ?_)
    refine hK1 _ _ [.pt b5 [v1, v2, v3] 107, .ow u0 3 1 (k + 1) (ints t.need ++ [.int .i64 nx]), .ow u1 3 1 (k + 1) (ints t.make ++ [.int .i64 mx]), .ow u2 3 1 (k + 1) (ints t.loss ++ [.int .i64 lx]), dkP bs b (K + 3 * k + 2 + 1)] (by repeat (first | exact Sp.nil | exact Sp.refl _ | refine Sp.cons (by repeat constructor) ?_)) ?_
    refine qf_fact (fun w hs => hs.slice (v := u0) (by repeat first | exact .head _ | refine .tail _ ?_)) ?_
    rintro ⟨a1, g1, d1, rfl⟩
    refine qf_fact (fun w hs => hs.slice (v := u1) (by repeat first | exact .head _ | refine .tail _ ?_)) ?_
    rintro ⟨a2, g2, d2, rfl⟩
    refine qf_fact (fun w hs => hs.slice (v := u2) (by repeat first | exact .head _ | refine .tail _ ?_)) ?_
    rintro ⟨a3, g3, d3, rfl⟩
    (refine qf_pure tabOk rfl rfl rfl ?_; refine qf_st0 tabOk rfl rfl rfl rfl (by repeat constructor) ?_; refine qf_pure tabOk rfl rfl rfl ?_; refine qf_st1 tabOk rfl rfl rfl rfl (by repeat constructor) ?_; refine qf_pure tabOk rfl rfl rfl ?_; refine qf_st2 tabOk rfl rfl rfl rfl (by repeat constructor) ?_; refine qf_nil ?_; refine q_blk ?_; refine q_region ?_; refine ql_ar tabOk rfl rfl rfl rfl (by omega) (by omega) ?_; refine ql_pure tabOk rfl rfl ?_; refine q_nil ?_)
    have f1 : ints (t.need ++ [nx]) = ints t.need ++ [.int .i64 nx] := by simp [ints]
    have f2 : ints (t.make ++ [mx]) = ints t.make ++ [.int .i64 mx] := by simp [ints]
    have f3 : ints (t.loss ++ [lx]) = ints t.loss ++ [.int .i64 lx] := by simp [ints]
    exact hKK (k + 1, (.slice a1 g1 d1, .slice a2 g2 d2, .slice a3 g3 d3), ⟨t.need ++ [nx], t.make ++ [mx], t.loss ++ [lx]⟩) _ _ ⟨by dsimp only; omega, hst hnx hmx hlx⟩ (by dsimp only; omega) ⟨rfl, rfl, rfl, rfl, rfl, rfl, trivial⟩ (by dsimp only; rw [f1, f2, f3]; repeat (first | exact Sp.nil | exact Sp.refl _ | refine Sp.cons (by repeat constructor) ?_))
  · obtain rfl : k = x.days.length := by omega
    clear hc hKK
    refine q_fact (fun w hs => hs.slice (v := v1) (by repeat first | exact .head _ | refine .tail _ ?_)) ?_
    rintro ⟨a1, g1, d1, rfl⟩
    refine q_fact (fun w hs => hs.slice (v := v2) (by repeat first | exact .head _ | refine .tail _ ?_)) ?_
    rintro ⟨a2, g2, d2, rfl⟩
    refine q_fact (fun w hs => hs.slice (v := v3) (by repeat first | exact .head _ | refine .tail _ ?_)) ?_
    rintro ⟨a3, g3, d3, rfl⟩
    (refine q_exit _ rfl ?_; refine q_seq ?_; refine q_region ?_; refine ql_loadAB tabOk rfl rfl rfl (by repeat first | exact .head _ | refine .tail _ ?_) (by rfl) (by rfl) ?_; refine ql_setA tabOk rfl rfl rfl rfl rfl (by repeat constructor) rfl ?_; refine q_nil ?_; refine q_ret ?_)
    refine q_fin tabOk rfl (by repeat (first | exact RVs.nil | apply RVs.tmp rfl | apply RVs.cellA rfl rfl (by repeat first | exact .head _ | refine .tail _ ?_) (by rfl) | apply RVs.cell1 rfl rfl (by repeat first | exact .head _ | refine .tail _ ?_))) fun w hs => ?_
    refine ⟨((.slice a1 g1 d1, .slice a2 g2 d2, .slice a3 g3 d3), t), ⟨rfl, hP.in⟩, ?_⟩
    dsimp only [wtK]
    rw [hP.ln, hP.lm, hP.ll]
    exact (Sat.dk (K := K + 3 * x.days.length) (K' := K + 200) (R := [.ow (.slice a1 g1 d1) 3 1 x.days.length (ints t.need), .ow (.slice a2 g2 d2) 3 1 x.days.length (ints t.make), .ow (.slice a3 g3 d3) 3 1 x.days.length (ints t.loss), .ow (.slice (some ⟨g, 0, none⟩) x.days.length c) 73 6 x.days.length (dyC x.days)]) (hs.sp (by repeat (first | exact Sp.nil | exact Sp.refl _ | refine Sp.cons (by repeat constructor) ?_))) (by omega)).sp (by repeat (first | exact Sp.nil | exact Sp.refl _ | refine Sp.cons (by repeat constructor) ?_))
end Go.Proofs.Ytgeajgmefokifaa

/- What the laws of winters share. -/
namespace Go.Proofs.Ytgeajgmefokifaa
open Go Go.Eng

section
variable {K b g c : Nat} {bs : Value} {w0 w : World} {R : List Ck}
theorem madeW0 {days : Nat} (hby : DkB w0 0 w0.heap.size bs) (hs : Sat w0 M0 (dkP bs b K :: R) w) (h1 : 1 ≤ days) (h2 : days ≤ 60) (hK : K < 100000) :
    Ca Try.prog 35 [.pointer (some ⟨b, 0, none⟩), .int .i64 days] w fun v w' => ∃ y : Nat × Nat × Wn, (v = .agg (wnC y.2.2 (some ⟨y.1, 0, none⟩) y.2.1).toArray ∧ WinB days y.2.2) ∧ Sat w (fun x => x = b) [.ow (.slice (some ⟨y.1, 0, none⟩) y.2.2.days.length y.2.1) 73 6 y.2.2.days.length (dyC y.2.2.days), dkP bs b (K + 1000)] w' :=
  madeW_ca days h1 h2 K hK w b 0 w0.heap.size bs (hby.keep hs.chg0) (dk_new hs) (hs.all _ (.head _))
theorem drawn0 {x : Wn} (hx : x.Right) (hby : DkB w0 0 w0.heap.size bs) (hs : Sat w0 M0 (drL bs b K g c x.days ++ R) w) (hK : K < 100000) :
    Ca Try.prog 61 [.pointer (some ⟨b, 0, none⟩), .agg (wnC x (some ⟨g, 0, none⟩) c).toArray] w fun v w' => ∃ y : (Value × Value × Value) × Wt, (v = .agg #[y.1.1, y.1.2.1, y.1.2.2] ∧ y.2.In x) ∧ Sat w (DL (drL bs b K g c x.days)) (wtK y.1.1 y.1.2.1 y.1.2.2 y.2 ++ drL bs b (K + 200) g c x.days) w' :=
  drawn_ca x hx K hK w b g c 0 w0.heap.size bs (hby.keep hs.chg0) (fun k ⟨d, hd, hk⟩ => (hs.bd d (List.mem_append_left _ hd) k hk).2.resolve_left (fun h => h)) (Sat.self hs)
/-- Days that are owned can be read. -/
theorem days_rd {M : Nat → Prop} {H : List Ck} {x : Wn} (hs : Sat w0 M H w) (hm : .ow (.slice (some ⟨g, 0, none⟩) x.days.length c) 73 6 x.days.length (dyC x.days) ∈ H) : RdD w 0 w.heap.size (.slice (some ⟨g, 0, none⟩) x.days.length c) x.days :=
  own_rdD (t := 73) (hs.mem hm) rfl
end
end Go.Proofs.Ytgeajgmefokifaa

/- Winters that are copied, and whose days are changed. -/
namespace Go.Proofs.Ytgeajgmefokifaa
open Go Go.Eng

/-! The cells of days -/
def fldD (d : Dy) : Nat → Int
  | 0 => d.n0
  | 1 => d.n1
  | 2 => d.m0
  | 3 => d.m1
  | 4 => d.l0
  | _ => d.l1
def setD (d : Dy) (f : Nat) (v : Int) : Dy :=
  match f with
  | 0 => { d with n0 := v }
  | 1 => { d with n1 := v }
  | 2 => { d with m0 := v }
  | 3 => { d with m1 := v }
  | 4 => { d with l0 := v }
  | _ => { d with l1 := v }
/-- Days in a block, with room behind them. -/
abbrev dyB (g : Nat) (l : List Dy) (sp : List Value) : Ck := .pt g (dyC l ++ sp) 73
section
variable {P : Program} {T : Tab} {ro : Cx} {n : Nat} {F : Fin} {w0 : World} {M : Nat → Prop} {k : List It} {ops : Array Oper} {rest : List Oper} {e : Env} {H Hq : List Ck}
end
/-! Copies -/
end Go.Proofs.Ytgeajgmefokifaa

/- Plain laws of winters: more stock, more room, more snow made, less need and less loss. -/
namespace Go.Proofs.Ytgeajgmefokifaa
open Go

structure RichD (d d' : Dy) : Prop where
  n : d'.n0 = d.n0 ∧ d.n0 ≤ d'.n1 ∧ d'.n1 ≤ d.n1
  m : d'.m1 = d.m1 ∧ d.m0 ≤ d'.m0 ∧ d'.m0 ≤ d.m1
  l : d'.l0 = d.l0 ∧ d.l0 ≤ d'.l1 ∧ d'.l1 ≤ d.l1
structure RichL (l l' : List Dy) : Prop where
  len : l'.length = l.length
  all : ∀ i (h : i < l.length) (h' : i < l'.length), RichD l[i] l'[i]
end Go.Proofs.Ytgeajgmefokifaa

/- The walk of CourseMore. -/
namespace Go.Proofs.Ytgeajgmefokifaa
open Go Go.Eng

section
variable {P : Program} {T : Tab} {ro : Cx} {n : Nat} {F : Fin} {w0 : World} {M : Nat → Prop} {k : List It} {ops : Array Oper} {rest : List Oper} {e : Env} {H Hq : List Ck}
end
/-- The days made richer so far. -/
structure RichI (l0 : List Dy) (k : Nat) (l : List Dy) : Prop where
  len : l.length = l0.length
  done : ∀ i, i < k → ∀ (h : i < l0.length) (h' : i < l.length), RichD l0[i] l[i]
  rest : ∀ i, k ≤ i → ∀ (h : i < l0.length) (h' : i < l.length), l[i] = l0[i]
theorem RichI.step {l0 l : List Dy} {k : Nat} (h : RichI l0 k l) (hk : k < l0.length) {d : Dy} (hd : RichD l0[k] d) : RichI l0 (k + 1) (l.set k d) := by
  refine ⟨by simp [h.len], fun i hi h1 h2 => ?_, fun i hi h1 h2 => ?_⟩
  · by_cases hik : i = k
    · subst hik
      simpa using hd
    · rw [List.getElem_set_ne (by omega)]
      exact h.done i (by omega) h1 (by simpa using h2)
  · rw [List.getElem_set_ne (by omega)]
    exact h.rest i (by omega) h1 (by simpa using h2)
theorem RichD.right {d d' : Dy} (h : RichD d d') (hd : d.Right) : d'.Right := by
  have a := h.n
  have b := h.m
  have c := h.l
  have a' := hd.n
  have b' := hd.m
  have c' := hd.l
  exact ⟨by omega, by omega, by omega⟩

end Go.Proofs.Ytgeajgmefokifaa

/- Plain laws of proofs: a day that needs less, and a day on which more is made. -/
namespace Go.Proofs.Ytgeajgmefokifaa
open Go

/-- A winter with one day changed. -/
def putD (w : Wn) (i : Nat) (d : Dy) : Wn := ⟨w.stock, w.store, w.days.set i d⟩
end Go.Proofs.Ytgeajgmefokifaa

/- The walk of CourseProved. -/
namespace Go.Proofs.Ytgeajgmefokifaa
open Go Go.Eng

section
variable {P : Program} {T : Tab} {ro : Cx} {n : Nat} {F : Fin} {w0 : World} {M : Nat → Prop} {k : List It} {ops : Array Oper} {rest : List Oper} {e : Env} {H Hq : List Ck}
end
end Go.Proofs.Ytgeajgmefokifaa

/- The walk of CourseProved. -/
namespace Go.Proofs.Ytgeajgmefokifaa
open Go Go.Eng

section
variable {P : Program} {ro : Cx} {n : Nat} {F : Fin} {w0 : World} {M : Nat → Prop} {k : List It} {ops : Array Oper} {rest : List Oper} {e : Env} {R : List Ck}
end

end Go.Proofs.Ytgeajgmefokifaa

/- The plain law of CourseParted: twice as much of everything; a winter that is parted after a day. -/
namespace Go.Proofs.Ytgeajgmefokifaa

theorem sq_congr {x y : Wn} {t u : Wt} (h0 : x.stock = y.stock) (h1 : x.store = y.store) (n : Nat) (hn : ∀ i, i < n → t.need.getD i 0 = u.need.getD i 0) (hm : ∀ i, i < n → t.make.getD i 0 = u.make.getD i 0) (hl : ∀ i, i < n → t.loss.getD i 0 = u.loss.getD i 0) : ∀ k, k ≤ n → sq x t k = sq y u k
  | 0, _ => h0
  | k + 1, hk => by
    have ih := sq_congr h0 h1 n hn hm hl k (by omega)
    simp only [sq]
    rw [ih, h1, hn k (by omega), hm k (by omega), hl k (by omega)]
theorem hap_char {x : Wn} {t : Wt} (hx : x.Right) (ht : t.In x) : ∃ c, (hapV x t).stocks.length = c ∧ c ≤ x.days.length ∧ (hapV x t).stocks = (List.range c).map (fun i => sq x t (i + 1)) ∧ (∀ j, j ≤ c → 0 ≤ sq x t j ∧ sq x t j ≤ x.store) ∧ (c = x.days.length ∨ c < x.days.length ∧ sq x t (c + 1) < 0) := by
  obtain ⟨c, h1, h2, h3, _, h4, _, _, _, h5⟩ := hap_count hx (in_fine hx ht)
  exact ⟨c, h1, h2, h3, h4, h5.imp (·.2) (·.2)⟩

/-! Twice as much -/
def dblD (d : Dy) : Dy := ⟨2 * d.n0, 2 * d.n1, 2 * d.m0, 2 * d.m1, 2 * d.l0, 2 * d.l1⟩
def dblL (l : List Int) : List Int := l.map (2 * ·)
def dblW (x : Wn) : Wn := ⟨2 * x.stock, 2 * x.store, x.days.map dblD⟩
def dblT (t : Wt) : Wt := ⟨dblL t.need, dblL t.make, dblL t.loss⟩
theorem dblL_get (l : List Int) (i : Nat) : (dblL l).getD i 0 = 2 * l.getD i 0 := by
  simp only [dblL, List.getD_eq_getElem?_getD, List.getElem?_map]
  cases l[i]? <;> simp
theorem dblL_len (l : List Int) : (dblL l).length = l.length := by simp [dblL]
theorem sq_dbl (x : Wn) (t : Wt) : ∀ k, sq (dblW x) (dblT t) k = 2 * sq x t k
  | 0 => rfl
  | k + 1 => by
    have ih := sq_dbl x t k
    simp only [sq]
    rw [ih]
    simp only [dblT, dblL_get, dblW]
    omega
theorem dbl_right {x : Wn} (hx : x.Right) (h1 : x.store ≤ 500000) (h2 : ∀ d ∈ x.days, d.n1 ≤ 50000 ∧ d.m1 ≤ 50000 ∧ d.l1 ≤ 50000) : (dblW x).Right := by
  have a := hx.store
  have b := hx.stock
  refine ⟨?_, ?_, ?_, ?_, ?_⟩
  · simp only [dblW]; omega
  · simp only [dblW]; omega
  · simp only [dblW, List.length_map]; exact hx.d1
  · simp only [dblW, List.length_map]; exact hx.d2
  · intro d hd
    simp only [dblW, List.mem_map] at hd
    obtain ⟨e, he, rfl⟩ := hd
    have c := h2 e he
    have r := hx.days e he
    have r1 := r.n
    have r2 := r.m
    have r3 := r.l
    refine ⟨?_, ?_, ?_⟩ <;> simp only [dblD] <;> omega
theorem dbl_in {x : Wn} {t : Wt} (h : t.In x) : (dblT t).In (dblW x) := by
  refine ⟨?_, ?_, ?_, fun i hi => ?_, fun i hi => ?_, fun i hi => ?_⟩
  · simp only [dblT, dblW, dblL_len, List.length_map]; exact h.need
  · simp only [dblT, dblW, dblL_len, List.length_map]; exact h.make
  · simp only [dblT, dblW, dblL_len, List.length_map]; exact h.loss
  · simp only [dblW, List.length_map] at hi
    simp only [dblT, dblW, dblL_get, List.getElem_map, dblD]
    have := h.n i hi
    omega
  · simp only [dblW, List.length_map] at hi
    simp only [dblT, dblW, dblL_get, List.getElem_map, dblD]
    have := h.m i hi
    omega
  · simp only [dblW, List.length_map] at hi
    simp only [dblT, dblW, dblL_get, List.getElem_map, dblD]
    have := h.l i hi
    omega
theorem stocks_dbl {x : Wn} {t : Wt} (hx : x.Right) (hx2 : (dblW x).Right) (ht : t.In x) : (hapV (dblW x) (dblT t)).stocks = dblL (hapV x t).stocks := by
  obtain ⟨c, h1, h2, h3, h4, h5⟩ := hap_char hx ht
  obtain ⟨c', g1, g2, g3, g4, g5⟩ := hap_char hx2 (dbl_in ht)
  have hn : (dblW x).days.length = x.days.length := by simp [dblW]
  rw [hn] at g2 g5
  have e : c' = c := by
    rcases Nat.lt_trichotomy c' c with h | h | h
    · rcases g5 with g | ⟨_, g⟩
      · omega
      · rw [sq_dbl] at g
        have := (h4 (c' + 1) (by omega)).1
        omega
    · exact h
    · rcases h5 with g | ⟨_, g⟩
      · omega
      · have := (g4 (c + 1) (by omega)).1
        rw [sq_dbl] at this
        omega
  subst e
  rw [g3, h3, dblL, List.map_map]
  exact List.map_congr_left fun i _ => sq_dbl x t (i + 1)

/-! A winter that is parted -/
def dropW (x : Wn) (k : Nat) (s : Int) : Wn := ⟨s, x.store, x.days.drop k⟩
def dropT (t : Wt) (k : Nat) : Wt := ⟨t.need.drop k, t.make.drop k, t.loss.drop k⟩
def takeW (x : Wn) (k : Nat) : Wn := ⟨x.stock, x.store, x.days.take k⟩
theorem drop_get (l : List Int) (k i : Nat) : (l.drop k).getD i 0 = l.getD (k + i) 0 := by
  simp [List.getD_eq_getElem?_getD, List.getElem?_drop]
theorem sq_drop (x : Wn) (t : Wt) (k : Nat) : ∀ j, sq (dropW x k (sq x t k)) (dropT t k) j = sq x t (k + j)
  | 0 => rfl
  | j + 1 => by
    rw [← Nat.add_assoc]
    simp only [sq]
    rw [sq_drop x t k j]
    simp only [dropT, drop_get]
    rfl
theorem drop_right {x : Wn} (hx : x.Right) {k : Nat} (hk : k < x.days.length) {s : Int} (hs : 0 ≤ s ∧ s ≤ x.store) : (dropW x k s).Right := by
  have := hx.d2
  refine ⟨hx.store, hs, ?_, ?_, fun d hd => hx.days d (List.mem_of_mem_drop hd)⟩
  · simp only [dropW, List.length_drop]; omega
  · simp only [dropW, List.length_drop]; omega
theorem take_right {x : Wn} (hx : x.Right) {k : Nat} (h1 : 1 ≤ k) (hk : k ≤ x.days.length) : (takeW x k).Right := by
  have := hx.d2
  refine ⟨hx.store, hx.stock, ?_, ?_, fun d hd => hx.days d (List.mem_of_mem_take hd)⟩
  · simp only [takeW, List.length_take]; omega
  · simp only [takeW, List.length_take]; omega
theorem drop_in {x : Wn} {t : Wt} (h : t.In x) (k : Nat) (s : Int) : (dropT t k).In (dropW x k s) := by
  refine ⟨?_, ?_, ?_, fun i hi => ?_, fun i hi => ?_, fun i hi => ?_⟩
  · simp only [dropT, dropW, List.length_drop, h.need]
  · simp only [dropT, dropW, List.length_drop, h.make]
  · simp only [dropT, dropW, List.length_drop, h.loss]
  · simp only [dropW, List.length_drop] at hi
    simp only [dropT, dropW, drop_get, List.getElem_drop]
    exact h.n (k + i) (by omega)
  · simp only [dropW, List.length_drop] at hi
    simp only [dropT, dropW, drop_get, List.getElem_drop]
    exact h.m (k + i) (by omega)
  · simp only [dropW, List.length_drop] at hi
    simp only [dropT, dropW, drop_get, List.getElem_drop]
    exact h.l (k + i) (by omega)
theorem stocks_drop {x : Wn} {t : Wt} (hx : x.Right) (ht : t.In x) {k : Nat} (hk : k < x.days.length) (hc : k ≤ (hapV x t).stocks.length) : 0 ≤ sq x t k ∧ sq x t k ≤ x.store ∧ (hapV (dropW x k (sq x t k)) (dropT t k)).stocks = (hapV x t).stocks.drop k := by
  obtain ⟨c, h1, h2, h3, h4, h5⟩ := hap_char hx ht
  rw [h1] at hc
  have hs := h4 k hc
  refine ⟨hs.1, hs.2, ?_⟩
  obtain ⟨c', g1, g2, g3, g4, g5⟩ := hap_char (drop_right hx hk hs) (drop_in ht k _)
  have hn : (dropW x k (sq x t k)).days.length = x.days.length - k := by simp [dropW]
  rw [hn] at g2 g5
  have e : c' = c - k := by
    rcases Nat.lt_trichotomy c' (c - k) with h | h | h
    · rcases g5 with g | ⟨_, g⟩
      · omega
      · rw [sq_drop] at g
        have := (h4 (k + (c' + 1)) (by omega)).1
        omega
    · exact h
    · rcases h5 with g | ⟨_, g⟩
      · omega
      · have := (g4 (c - k + 1) (by omega)).1
        rw [sq_drop, show k + (c - k + 1) = c + 1 by omega] at this
        omega
  subst e
  rw [g3, h3]
  refine List.ext_getElem (by simp) fun i a b => ?_
  simp only [List.getElem_map, List.getElem_range, List.getElem_drop]
  rw [sq_drop]
  rfl

/-! The first day that fails -/
theorem firstV_none {x : Wn} (hx : x.Right) (h : ∀ j, j ≤ x.days.length → 0 ≤ sq x (worstW x) j) : firstV x = (0, 6) := by
  have e : (hapV x (worstW x)).fails = -1 := (hap_none_iff x (worstW x) hx.stock (worst_fine hx).need0 _).2 h
  simp [firstV, checkW_iff.2 hx, e]
theorem firstV_some {x : Wn} (hx : x.Right) {f : Nat} (hf : f < x.days.length) (h1 : sq x (worstW x) (f + 1) < 0) (h : ∀ j, j ≤ f → 0 ≤ sq x (worstW x) j) : firstV x = ((f : Int), 0) := by
  have e : (hapV x (worstW x)).fails = (f : Int) := (hap_fail_iff x (worstW x) hx.stock (worst_fine hx).need0 _ f).2 ⟨hf, h1, h⟩
  have e2 : ¬(f : Int) = -1 := by omega
  simp [firstV, checkW_iff.2 hx, e, e2]
theorem firstV_or {x : Wn} (hx : x.Right) : (firstV x = (0, 6) ∧ ∀ j, j ≤ x.days.length → 0 ≤ sq x (worstW x) j) ∨ ∃ f : Nat, firstV x = ((f : Int), 0) ∧ f < x.days.length ∧ sq x (worstW x) (f + 1) < 0 ∧ ∀ j, j ≤ f → 0 ≤ sq x (worstW x) j := by
  rcases hap_fails_bd x (worstW x) hx.stock (worst_fine hx).need0 x.days.length with h | ⟨f, hf, h⟩
  · have := (hap_none_iff x (worstW x) hx.stock (worst_fine hx).need0 _).1 h
    exact .inl ⟨firstV_none hx this, this⟩
  · have := (hap_fail_iff x (worstW x) hx.stock (worst_fine hx).need0 _ f).1 h
    exact .inr ⟨f, firstV_some hx this.1 this.2.1 this.2.2, this⟩
theorem sq_take (x : Wn) (k : Nat) {j : Nat} (hj : j ≤ k) : sq (takeW x k) (worstW (takeW x k)) j = sq x (worstW x) j := by
  refine sq_congr (x := takeW x k) (y := x) (t := worstW (takeW x k)) (u := worstW x) rfl rfl k (fun i hi => ?_) (fun i hi => ?_) (fun i hi => ?_) j hj <;>
  · simp only [worstW, takeW, List.getD_eq_getElem?_getD, List.getElem?_map, List.getElem?_take]
    rw [if_pos hi]
theorem first_take {x : Wn} (hx : x.Right) {k : Nat} (h1 : 1 ≤ k) (hk : k ≤ x.days.length) :
    (∃ f : Nat, firstV (takeW x k) = ((f : Int), 0) ∧ firstV x = ((f : Int), 0)) ∨ (firstV (takeW x k) = (0, 6) ∧ ∀ j, j ≤ k → 0 ≤ sq x (worstW x) j) := by
  have hn : (takeW x k).days.length = k := by simp [takeW]; omega
  rcases firstV_or (take_right hx h1 hk) with ⟨a, b⟩ | ⟨f, a, b, c, d⟩
  · rw [hn] at b
    exact .inr ⟨a, fun j hj => by rw [← sq_take x k hj]; exact b j hj⟩
  · rw [hn] at b
    rw [sq_take x k (by omega)] at c
    exact .inl ⟨f, a, firstV_some hx (by omega) c fun j hj => by rw [← sq_take x k (by omega)]; exact d j hj⟩
theorem worst_drop (x : Wn) (k : Nat) (s : Int) : worstW (dropW x k s) = dropT (worstW x) k := by simp [worstW, dropW, dropT]
theorem first_drop {x : Wn} (hx : x.Right) {k : Nat} (hk : k < x.days.length) (h : ∀ j, j ≤ k → 0 ≤ sq x (worstW x) j) : 0 ≤ sq x (worstW x) k ∧ sq x (worstW x) k ≤ x.store ∧
    ((firstV (dropW x k (sq x (worstW x) k)) = (0, 6) ∧ firstV x = (0, 6)) ∨ ∃ f : Nat, f + k < x.days.length ∧ firstV (dropW x k (sq x (worstW x) k)) = ((f : Int), 0) ∧ firstV x = (((f + k : Nat) : Int), 0)) := by
  have hc : k ≤ (hapV x (worstW x)).stocks.length := by
    obtain ⟨c, h1, h2, h3, h4, h5⟩ := hap_char hx (worst_in hx)
    rw [h1]
    rcases h5 with g | ⟨_, g⟩
    · omega
    · refine Nat.le_of_not_lt fun hlt => ?_
      have := h (c + 1) (by omega)
      omega
  obtain ⟨s1, s2, _⟩ := stocks_drop hx (worst_in hx) hk hc
  refine ⟨s1, s2, ?_⟩
  have hn : (dropW x k (sq x (worstW x) k)).days.length = x.days.length - k := by simp [dropW]
  rcases firstV_or (drop_right hx hk ⟨s1, s2⟩) with ⟨a, b⟩ | ⟨f, a, b, c, d⟩
  · rw [hn] at b
    refine .inl ⟨a, firstV_none hx fun j hj => ?_⟩
    rcases Nat.lt_or_ge j k with hlt | hge
    · exact h j (by omega)
    · have := b (j - k) (by omega)
      rw [worst_drop, sq_drop, show k + (j - k) = j by omega] at this
      exact this
  · rw [hn] at b
    rw [worst_drop, sq_drop] at c
    refine .inr ⟨f, by omega, a, firstV_some hx (by omega) (by rw [show f + k + 1 = k + (f + 1) by omega]; exact c) fun j hj => ?_⟩
    rcases Nat.lt_or_ge j k with hlt | hge
    · exact h j (by omega)
    · have := d (j - k) (by omega)
      rw [worst_drop, sq_drop, show k + (j - k) = j by omega] at this
      exact this
end Go.Proofs.Ytgeajgmefokifaa

/- Parts of readable slices. -/
namespace Go.Proofs.Ytgeajgmefokifaa
open Go Go.Eng
theorem own_cap {w0 w : World} {M : Nat → Prop} {H : List Ck} {e sz m n c : Nat} {a : Option Addr} {xs : List Value} (h : Sat w0 M H w) (hc : Ck.ow (.slice a n c) e sz m xs ∈ H) : n ≤ c := by
  have h1 : w.ownsRow 0 e sz (.slice a n c) m xs := h.all _ hc
  rcases h1.2 with ⟨h2, _⟩ | ⟨g, cap, cur, h2, _, _, h3⟩
  · injection h2 with _ h4 h5
    omega
  · injection h2 with _ h4 h5
    omega
/-- Where a part begins. -/
def frA (a : Option Addr) (c k sz : Nat) : Option Addr := if c = k then a else a.map (·.add (k * sz))
theorem rd_from {w : World} {lo hi n c sz k : Nat} {a : Option Addr} {cs : List Value} (h : Rd w lo hi (.slice a n c) sz n cs) (hk : k ≤ n) (hc : n ≤ c) : Rd w lo hi (.slice (frA a c k sz) (n - k) (c - k)) sz (n - k) (cs.drop (k * sz)) := by
  obtain ⟨h1, h2⟩ := h
  refine ⟨by rw [List.length_drop, h1, Nat.sub_mul], ?_⟩
  rcases h2 with ⟨h3, h4⟩ | ⟨b, off, cap, h3, h4, h5⟩
  · left
    subst h4
    obtain rfl : k = 0 := by omega
    refine ⟨?_, rfl⟩
    rcases h3 with h3 | ⟨a', cap, h3⟩
    · injection h3 with e1 e2 e3
      subst e1 e3
      left
      rfl
    · injection h3 with e1 e2 e3
      subst e1
      right
      unfold frA
      split
      · exact ⟨_, _, rfl⟩
      · exact ⟨_, _, rfl⟩
  · injection h3 with e1 e2 e3
    subst e1
    by_cases hz : c = k
    · left
      obtain rfl : k = n := by omega
      refine ⟨.inr ⟨⟨b, off, none⟩, c - k, ?_⟩, by omega⟩
      simp [frA, hz]
    · right
      refine ⟨b, off + k * sz, c - k, ?_, ?_, ?_⟩
      · simp [frA, hz, Addr.add_lit]
      · intro hp
        rw [List.length_drop] at hp
        exact h4 (by omega)
      · intro j hj
        rw [List.length_drop] at hj
        rw [List.getElem?_drop, Nat.add_assoc]
        exact h5 (k * sz + j) (by omega)
/-- Where a part up to an element begins. -/
def toA (a : Option Addr) (c : Nat) : Option Addr := if c = 0 then a else a.map (·.add 0)
theorem rd_to {w : World} {lo hi n c sz k : Nat} {a : Option Addr} {cs : List Value} (h : Rd w lo hi (.slice a n c) sz n cs) (hk : k ≤ n) (hk1 : 1 ≤ k) (hc : n ≤ c) : Rd w lo hi (.slice (toA a c) k c) sz k (cs.take (k * sz)) := by
  obtain ⟨h1, h2⟩ := h
  have hle : k * sz ≤ n * sz := Nat.mul_le_mul_right sz hk
  refine ⟨by rw [List.length_take, h1]; omega, ?_⟩
  rcases h2 with ⟨h3, h4⟩ | ⟨b, off, cap, h3, h4, h5⟩
  · omega
  · injection h3 with e1 e2 e3
    subst e1
    right
    refine ⟨b, off, c, ?_, ?_, ?_⟩
    · have hz : ¬c = 0 := by omega
      simp [toA, hz, Addr.add_lit]
    · intro hp
      rw [List.length_take] at hp
      exact h4 (by omega)
    · intro j hj
      rw [List.length_take] at hj
      rw [List.getElem?_take, if_pos (by omega)]
      exact h5 j (by omega)
theorem cells_drop {sz : Nat} : ∀ (k : Nat) (es : List Value), (∀ e ∈ es, e.cells.size = sz) → (cellsOf es).drop (k * sz) = cellsOf (es.drop k)
  | 0, es, _ => by simp
  | k + 1, [], _ => by simp [cellsOf]
  | k + 1, v :: es, h => by
    have hv : v.cells.toList.length = sz := by simpa using h v List.mem_cons_self
    have ih := cells_drop k es (fun e he => h e (List.mem_cons_of_mem _ he))
    have e1 : cellsOf (v :: es) = v.cells.toList ++ cellsOf es := by simp [cellsOf]
    rw [e1, Nat.succ_mul, Nat.add_comm, List.drop_append, List.drop_eq_nil_of_le (by omega), List.nil_append, List.drop_succ_cons, ← ih]
    congr 1
    omega
theorem cells_take {sz : Nat} : ∀ (k : Nat) (es : List Value), (∀ e ∈ es, e.cells.size = sz) → (cellsOf es).take (k * sz) = cellsOf (es.take k)
  | 0, es, _ => by simp [cellsOf]
  | k + 1, [], _ => by simp [cellsOf]
  | k + 1, v :: es, h => by
    have hv : v.cells.toList.length = sz := by simpa using h v List.mem_cons_self
    have ih := cells_take k es (fun e he => h e (List.mem_cons_of_mem _ he))
    have e1 : ∀ l : List Value, cellsOf (v :: l) = v.cells.toList ++ cellsOf l := fun l => by simp [cellsOf]
    rw [e1, Nat.succ_mul, Nat.add_comm, List.take_append, List.take_of_length_le (by omega), List.take_succ_cons, e1, ← ih]
    congr 2
    omega
theorem rdE_from {w : World} {lo hi n c sz k : Nat} {a : Option Addr} {es : List Value} (h : RdE w lo hi (.slice a n c) sz es) (hk : k ≤ n) (hn : n = es.length) (hc : n ≤ c) : RdE w lo hi (.slice (frA a c k sz) (n - k) (c - k)) sz (es.drop k) := by
  subst hn
  refine ⟨?_, fun e he => h.sz e (List.mem_of_mem_drop he)⟩
  have := rd_from h.rd hk hc
  rw [cells_drop k es h.sz] at this
  rw [List.length_drop]
  exact this
theorem rdE_to {w : World} {lo hi n c sz k : Nat} {a : Option Addr} {es : List Value} (h : RdE w lo hi (.slice a n c) sz es) (hk : k ≤ n) (hk1 : 1 ≤ k) (hn : n = es.length) (hc : n ≤ c) : RdE w lo hi (.slice (toA a c) k c) sz (es.take k) := by
  subst hn
  refine ⟨?_, fun e he => h.sz e (List.mem_of_mem_take he)⟩
  have := rd_to h.rd hk hk1 hc
  rw [cells_take k es h.sz] at this
  rw [List.length_take, Nat.min_eq_left hk]
  exact this
theorem rdD_from {w : World} {lo hi n c k : Nat} {a : Option Addr} {l : List Dy} (h : RdD w lo hi (.slice a n c) l) (hk : k ≤ n) (hn : n = l.length) (hc : n ≤ c) : RdD w lo hi (.slice (frA a c k 6) (n - k) (c - k)) (l.drop k) := by
  have := rdE_from h hk (by simpa using hn) hc
  rwa [← List.map_drop] at this
theorem rdD_to {w : World} {lo hi n c k : Nat} {a : Option Addr} {l : List Dy} (h : RdD w lo hi (.slice a n c) l) (hk : k ≤ n) (hk1 : 1 ≤ k) (hn : n = l.length) (hc : n ≤ c) : RdD w lo hi (.slice (toA a c) k c) (l.take k) := by
  have := rdE_to h hk hk1 (by simpa using hn) hc
  rwa [← List.map_take] at this
theorem rdI_from {w : World} {lo hi n c k : Nat} {a : Option Addr} {l : List Int} (h : RdI w lo hi (.slice a n c) l) (hk : k ≤ n) (hn : n = l.length) (hc : n ≤ c) : RdI w lo hi (.slice (frA a c k 1) (n - k) (c - k)) (l.drop k) := by
  have := rdE_from h hk (by simpa using hn) hc
  rwa [← List.map_drop] at this
section
variable {P : Program} {ro : Cx} {n : Nat} {F : Fin} {w0 : World} {M : Nat → Prop} {ks : List It} {ops : Array Oper} {rest : List Oper} {e : Env} {H Hq : List Ck}
theorem ql_from {d t et sz : Nat} {x lo : Operand} {a : Option Addr} {len cap : Nat} {kl : IntKind} (k : Nat) {ty : TypeId} {pos : String} {af : Array Edge} (hu : P.underlying t = some (.slice et)) (hsz : (P.info? et).map (·.size) = some sz)
    (hx : opv e x = some (.slice a len cap)) (hl : opv e lo = some (.int kl k)) (hd : Nat.blt d n = true) (h1 : k ≤ len)
    (h : QL P ro n F w0 M ks ops rest ((d, .slice (frA a cap k sz) (len - k) (cap - k)) :: e) H) : QL P ro n F w0 M ks ops (⟨some d, .slice t x (some lo) none none, ty, pos, af, none⟩ :: rest) e H :=
  ql_sliceFrom hu hsz hx hl hd (by omega) (by omega) (by rw [Int.toNat_natCast]; exact h)
theorem qf_from {d t et sz : Nat} {x lo : Operand} {a : Option Addr} {len cap : Nat} {kl : IntKind} (k : Nat) {ty : TypeId} {pos : String} {af : Array Edge} (hu : P.underlying t = some (.slice et)) (hsz : (P.info? et).map (·.size) = some sz)
    (hx : opv e x = some (.slice a len cap)) (hl : opv e lo = some (.int kl k)) (hd : Nat.blt d n = true) (h1 : k ≤ len)
    (h : QF P ro n F w0 M ks ops Hq rest ((d, .slice (frA a cap k sz) (len - k) (cap - k)) :: e) H) : QF P ro n F w0 M ks ops Hq (⟨some d, .slice t x (some lo) none none, ty, pos, af, none⟩ :: rest) e H :=
  qf_sliceFrom hu hsz hx hl hd (by omega) (by omega) (by rw [Int.toNat_natCast]; exact h)
theorem qf_to {d t et sz : Nat} {x lo : Operand} {a : Option Addr} {len cap : Nat} {kl : IntKind} (k : Nat) {ty : TypeId} {pos : String} {af : Array Edge} (hu : P.underlying t = some (.slice et)) (hsz : (P.info? et).map (·.size) = some sz)
    (hx : opv e x = some (.slice a len cap)) (hl : opv e lo = some (.int kl k)) (hd : Nat.blt d n = true) (h1 : k ≤ cap)
    (h : QF P ro n F w0 M ks ops Hq rest ((d, .slice (toA a cap) k cap) :: e) H) : QF P ro n F w0 M ks ops Hq (⟨some d, .slice t x none (some lo) none, ty, pos, af, none⟩ :: rest) e H :=
  qf_sliceTo hu hsz hx hl hd (by omega) (by omega) (by rw [Int.toNat_natCast]; exact h)
end
theorem ranges_at {x : Wn} (hx : x.Right) {k : Nat} (h1 : 1 ≤ k) (hk : k ≤ x.days.length) (h : ∀ j, j ≤ k → 0 ≤ sq x (worstW x) j) : k ≤ (rangesV x).length ∧ ∀ h : k - 1 < (rangesV x).length, ((rangesV x)[k - 1]).1 = sq x (worstW x) k := by
  have hl : (rangesV x).length = (hapV x (worstW x)).stocks.length := by simp [rangesV]
  obtain ⟨c, g1, g2, _, g4, g5⟩ := hap_char hx (worst_in hx)
  have hc : k ≤ c := by
    rcases g5 with g | ⟨_, g⟩
    · omega
    · refine Nat.le_of_not_lt fun hlt => ?_
      have := h (c + 1) (by omega)
      omega
  refine ⟨by omega, fun hh => ?_⟩
  simp only [rangesV, List.getElem_map, List.getElem_range]
  rw [stocks_at hx (in_fine hx (worst_in hx)) (by omega)]
  congr 1
  omega
end Go.Proofs.Ytgeajgmefokifaa

/- The walk of CourseLazy. -/
namespace Go.Proofs.Ytgeajgmefokifaa
open Go Go.Eng

theorem stocks_in {x : Wn} {t : Wt} (hx : x.Right) (ht : t.In x) (w : World) (lo hi : Nat) (a : Option Addr) (c : Nat) (v1 v2 v3 : Value) (h : RdD w lo hi (.slice a x.days.length c) x.days) (hw : WtR w t v1 v2 v3) :
    Ca Try.prog 62 [.agg (wnC x a c).toArray, .agg #[v1, v2, v3]] w fun r w' => ∃ v : Value, r = .tuple #[v, .int .i64 0] ∧ Sat w M0 [.ow v 3 1 (hapV x t).stocks.length (ints (hapV x t).stocks)] w' := by
  have h2 := hx.d2
  have h3 := ht.need
  have h4 := ht.make
  have h5 := ht.loss
  exact stocks_ok w lo hi x a c t v1 v2 v3 h (by omega) hw (by omega) (by omega) (by omega) (weatV_iff.2 ⟨hx, ht⟩)

end Go.Proofs.Ytgeajgmefokifaa

/- The walk of CourseParted. -/
namespace Go.Proofs.Ytgeajgmefokifaa
open Go Go.Eng

theorem stocks_late {x : Wn} {t : Wt} (hx : x.Right) (ht : t.In x) {k : Nat} (hk : k < x.days.length) (hc : k ≤ (hapV x t).stocks.length) (w : World) (a a1 a2 a3 : Option Addr) (c c1 c2 c3 : Nat) (h : RdD w 0 w.heap.size (.slice a x.days.length c) x.days) (hcap : x.days.length ≤ c)
    (r1 : RdI w 0 w.heap.size (.slice a1 t.need.length c1) t.need) (r2 : RdI w 0 w.heap.size (.slice a2 t.make.length c2) t.make) (r3 : RdI w 0 w.heap.size (.slice a3 t.loss.length c3) t.loss) (k1 : t.need.length ≤ c1) (k2 : t.make.length ≤ c2) (k3 : t.loss.length ≤ c3) (s : Int) (hs : s = sq x t k) :
    Ca Try.prog 62 [.agg #[.int .i64 s, .int .i64 x.store, .slice (frA a c k 6) (x.days.length - k) (c - k)], .agg #[.slice (frA a1 c1 k 1) (t.need.length - k) (c1 - k), .slice (frA a2 c2 k 1) (t.make.length - k) (c2 - k), .slice (frA a3 c3 k 1) (t.loss.length - k) (c3 - k)]] w
      fun r w' => ∃ v : Value, r = .tuple #[v, .int .i64 0] ∧ Sat w M0 [.ow v 3 1 ((hapV x t).stocks.length - k) (ints ((hapV x t).stocks.drop k))] w' := by
  obtain ⟨h1, h2, h3⟩ := stocks_drop hx ht hk hc
  subst hs
  have y1 := ht.need
  have y2 := ht.make
  have y3 := ht.loss
  have e : (dropW x k (sq x t k)).days.length = x.days.length - k := by simp [dropW]
  have := stocks_in (drop_right hx hk ⟨h1, h2⟩) (drop_in ht k _) w 0 w.heap.size (frA a c k 6) (c - k) _ _ _ (by rw [e]; exact rdD_from h (by omega) rfl hcap) (WtR.mk ⟨_, _, rdI_from r1 (by omega) rfl k1⟩ ⟨_, _, rdI_from r2 (by omega) rfl k2⟩ ⟨_, _, rdI_from r3 (by omega) rfl k3⟩)
  rw [h3, wnC, e, List.length_drop] at this
  exact this
theorem first_late {x : Wn} {k : Nat} (hn : x.days.length ≤ 60) (hk : k < x.days.length) (w : World) (a : Option Addr) (c : Nat) (h : RdD w 0 w.heap.size (.slice a x.days.length c) x.days) (hcap : x.days.length ≤ c) (s : Int) :
    Ca Try.prog 37 [.agg #[.int .i64 s, .int .i64 x.store, .slice (frA a c k 6) (x.days.length - k) (c - k)]] w fun r w' => r = .tuple #[.int .i64 (firstV (dropW x k s)).1, .int .i64 (firstV (dropW x k s)).2] ∧ Chg [] w w' := by
  have e : (dropW x k s).days.length = x.days.length - k := by simp [dropW]
  have := first_ca w 0 w.heap.size (dropW x k s) (frA a c k 6) (c - k) (by rw [e]; exact rdD_from h (by omega) rfl hcap) (by omega)
  rw [wnC, e] at this
  exact this
theorem first_early {x : Wn} {k : Nat} (hn : x.days.length ≤ 60) (h1 : 1 ≤ k) (hk : k ≤ x.days.length) (w : World) (a : Option Addr) (c : Nat) (h : RdD w 0 w.heap.size (.slice a x.days.length c) x.days) (hcap : x.days.length ≤ c) :
    Ca Try.prog 37 [.agg #[.int .i64 x.stock, .int .i64 x.store, .slice (toA a c) k c]] w fun r w' => r = .tuple #[.int .i64 (firstV (takeW x k)).1, .int .i64 (firstV (takeW x k)).2] ∧ Chg [] w w' := by
  have e : (takeW x k).days.length = k := by simp [takeW]; omega
  have := first_ca w 0 w.heap.size (takeW x k) (toA a c) c (by rw [e]; exact rdD_to h hk h1 rfl hcap) (by omega)
  rw [wnC, e] at this
  exact this
theorem dbl_snoc (l : List Int) {k : Nat} (h : k < l.length) : ints (dblL (l.take (k + 1))) = ints (dblL (l.take k)) ++ [.int .i64 (2 * l[k])] := by
  rw [List.take_succ_eq_append_getElem h]
  simp only [dblL, ints, List.map_append, List.map_cons, List.map_nil]
theorem dblD_snoc (l : List Dy) {k : Nat} (h : k < l.length) : dyC ((l.take (k + 1)).map dblD) = dyC ((l.take k).map dblD) ++ dyC [dblD l[k]] := by
  rw [List.take_succ_eq_append_getElem h, List.map_append]
  exact dyC_snoc _ _
set_option maxRecDepth 20000 in
set_option maxHeartbeats 8000000 in
theorem courseParted_ca (w : World) (a : Option Addr) (n c : Nat) (a2 : Option Addr) (n2 c2 : Nat) (wh : Int) (hwh : 0 ≤ wh ∧ wh < 256) (hbyb1 : DkB w 0 w.heap.size (.slice a n c)) (hbyb2 : DkB w 0 w.heap.size (.slice a2 n2 c2)) :
    Ca Try.prog 10 [.slice a n c, .slice a2 n2 c2, .int .u8 wh] w fun r w' => r = .bool true ∧ Chg [] w w' := by
  refine q_of (Sat.nil w M0) Try.func10 rfl (by simp [Try.ntmps10]) ?_
  (refine q_seq ?_; refine q_region ?_; refine ql_pure tabOk rfl rfl ?_; refine q_nil ?_; refine q_seq ?_; refine q_region ?_; refine ql_pure tabOk rfl rfl ?_)
  refine ql_call (β := Nat) tabOk [] _ M0 rfl rfl rfl rfl (Sp.refl _) (fun _ h => h.elim) (fun w' hs => of_ca w' a n c) ?_
  rintro b1 _ rfl
  skip
  refine ql_call (β := Nat × Nat × Wn) (ψ := fun y v => v = .agg (wnC y.2.2 (some ⟨y.1, 0, none⟩) y.2.1).toArray ∧ WinB 20 y.2.2) (L' := fun y => [.ow (.slice (some ⟨y.1, 0, none⟩) y.2.2.days.length y.2.1) 73 6 y.2.2.days.length (dyC y.2.2.days), dkP (.slice a n c) b1 (0 + 1000)]) tabOk [dkP (.slice a n c) b1 (0)] _ (fun x => x = b1) rfl rfl rfl rfl (Sp.cons (by repeat constructor) (Sp.refl _)) (fun x hx => ⟨_, .head _, hx⟩) (fun w' hs => madeW0 (days := 20) hbyb1 hs (by omega) (by omega) (by omega)) ?_; rintro ⟨g, cd, x⟩ _ ⟨rfl, hwx⟩; dsimp only [List.cons_append, List.nil_append] at hwx ⊢
  have hrx := hwx.right (by omega)
  skip
  refine ql_alloc zero61 rfl (fun b7 => ?_)
  (refine ql_setA tabOk rfl rfl rfl rfl rfl (by repeat constructor) rfl ?_; refine q_nil ?_; refine q_seq ?_)
  have hlen := hrx.d2
  have hl1 := hrx.d1
  refine q_cut (σ := {y : (Nat × Nat) × ((Option Addr × Nat) × (Option Addr × Nat) × Option Addr × Nat) × Wt // y.2.2.In x}) (fun y => [(2, .int .u8 wh), (7, .pointer (some ⟨b7, 0, none⟩)), (8, .pointer (some ⟨y.1.1.1, 0, none⟩))])
    (fun y => [.pt y.1.1.1 [.slice y.1.2.1.1.1 y.1.2.2.need.length y.1.2.1.1.2, .slice y.1.2.1.2.1.1 y.1.2.2.make.length y.1.2.1.2.1.2, .slice y.1.2.1.2.2.1 y.1.2.2.loss.length y.1.2.1.2.2.2] 107, .ow (.slice y.1.2.1.1.1 y.1.2.2.need.length y.1.2.1.1.2) 3 1 y.1.2.2.need.length (ints y.1.2.2.need), .ow (.slice y.1.2.1.2.1.1 y.1.2.2.make.length y.1.2.1.2.1.2) 3 1 y.1.2.2.make.length (ints y.1.2.2.make), .ow (.slice y.1.2.1.2.2.1 y.1.2.2.loss.length y.1.2.1.2.2.2) 3 1 y.1.2.2.loss.length (ints y.1.2.2.loss), .ow (.slice (some ⟨g, 0, none⟩) x.days.length cd) 73 6 x.days.length (dyC x.days), .pt b7 (wnC x (some ⟨g, 0, none⟩) cd) 61]) ?_ (fun K2 hK2 => ?_)
  rotate_left
  · skip
    refine q_drawT (.alt (chainT [0, 1] (.alt (chainT [2, 3, 4, 5] (.nil)) (chainT [4, 2, 3, 5] (.nil)))) (chainT [4, 0, 1, 2, 3, 5] (.nil))) _ [.ow (.slice (some ⟨g, 0, none⟩) x.days.length cd) 73 6 x.days.length (dyC x.days)] (Sp.cons (by repeat constructor) (Sp.refl _)) (by kernel_rfl) (by kernel_rfl) ?_
    refine qt_alt ?_ ?_
    · skip
      refine qt_seg (by repeat (first | exact PickL.nil | (apply PickL.cons; rfl))) fun K1 hK1 => ?_
      (refine qf_pure tabOk rfl rfl rfl ?_)
      refine qf_call (β := Nat) tabOk [] _ M0 rfl rfl rfl rfl (Sp.refl _) (fun _ h => h.elim) (fun w' hs => of_ca w' a2 n2 c2) ?_
      rintro b2 _ rfl
      have hrb2 := hrx
      (refine qf_nil ?_)
      refine hK1 _ _ ?_
      refine qt_alt ?_ ?_
      · skip
        refine qt_seg (by repeat (first | exact PickL.nil | (apply PickL.cons; rfl))) fun K1 hK1 => ?_
        (refine qf_loadAB tabOk rfl rfl rfl (by repeat first | exact .head _ | refine .tail _ ?_) (by rfl) (by rfl) ?_)
        refine qf_call (β := (Value × Value × Value) × Wt) (ψ := fun y v => v = .agg #[y.1.1, y.1.2.1, y.1.2.2] ∧ y.2.In x) (L' := fun y => wtK y.1.1 y.1.2.1 y.1.2.2 y.2 ++ drL ((.slice a2 n2 c2)) b2 (0 + 200) g cd x.days) tabOk (drL ((.slice a2 n2 c2)) b2 (0) g cd x.days) _ (DL (drL ((.slice a2 n2 c2)) b2 (0) g cd x.days)) rfl rfl rfl rfl (Sp.cons (by repeat constructor) (Sp.cons (by repeat constructor) (Sp.refl _))) (fun x hx => hx) (fun w' hs => drawn0 hrx hbyb2 hs (by omega)) ?_; rintro ⟨⟨u1, u2, u3⟩, t⟩ _ ⟨rfl, ht⟩; dsimp only [wtK, drL, List.cons_append, List.nil_append] at ht ⊢; refine qf_fact (fun w hs => hs.slice2 (v := u1) (by repeat first | exact .head _ | refine .tail _ ?_)) ?_; rintro ⟨au1, cu1, rfl⟩; refine qf_fact (fun w hs => hs.slice2 (v := u2) (by repeat first | exact .head _ | refine .tail _ ?_)) ?_; rintro ⟨au2, cu2, rfl⟩; refine qf_fact (fun w hs => hs.slice2 (v := u3) (by repeat first | exact .head _ | refine .tail _ ?_)) ?_; rintro ⟨au3, cu3, rfl⟩
        skip
        refine qf_alloc zero107 rfl (fun b8 => ?_)
        (refine qf_setA tabOk rfl rfl rfl rfl rfl (by repeat constructor) rfl ?_; refine qf_nil ?_)
        skip
        exact hK1 _ _ (qt_nil (hK2 ⟨((b8, b2), ((au1, cu1), (au2, cu2), au3, cu3), t), ht⟩ _ _ ⟨rfl, rfl, rfl, trivial⟩ (by repeat (first | exact Sp.nil | exact Sp.refl _ | refine Sp.cons (by repeat constructor) ?_))))
      · skip
        refine qt_seg (by repeat (first | exact PickL.nil | (apply PickL.cons; rfl))) fun K1 hK1 => ?_
        skip
        refine qf_alloc zero107 rfl (fun b8 => ?_)
        (refine qf_loadAB tabOk rfl rfl rfl (by repeat first | exact .head _ | refine .tail _ ?_) (by rfl) (by rfl) ?_)
        refine qf_call (β := (Value × Value × Value) × Wt) (ψ := fun y v => v = .agg #[y.1.1, y.1.2.1, y.1.2.2] ∧ y.2.In x) (L' := fun y => wtK y.1.1 y.1.2.1 y.1.2.2 y.2 ++ drL ((.slice a2 n2 c2)) b2 (0 + 200) g cd x.days) tabOk (drL ((.slice a2 n2 c2)) b2 (0) g cd x.days) _ (DL (drL ((.slice a2 n2 c2)) b2 (0) g cd x.days)) rfl rfl rfl rfl (Sp.cons (by repeat constructor) (Sp.cons (by repeat constructor) (Sp.refl _))) (fun x hx => hx) (fun w' hs => drawn0 hrx hbyb2 hs (by omega)) ?_; rintro ⟨⟨u1, u2, u3⟩, t⟩ _ ⟨rfl, ht⟩; dsimp only [wtK, drL, List.cons_append, List.nil_append] at ht ⊢; refine qf_fact (fun w hs => hs.slice2 (v := u1) (by repeat first | exact .head _ | refine .tail _ ?_)) ?_; rintro ⟨au1, cu1, rfl⟩; refine qf_fact (fun w hs => hs.slice2 (v := u2) (by repeat first | exact .head _ | refine .tail _ ?_)) ?_; rintro ⟨au2, cu2, rfl⟩; refine qf_fact (fun w hs => hs.slice2 (v := u3) (by repeat first | exact .head _ | refine .tail _ ?_)) ?_; rintro ⟨au3, cu3, rfl⟩
        (refine qf_setA tabOk rfl rfl rfl rfl rfl (by repeat constructor) rfl ?_; refine qf_nil ?_)
        skip
        exact hK1 _ _ (qt_nil (hK2 ⟨((b8, b2), ((au1, cu1), (au2, cu2), au3, cu3), t), ht⟩ _ _ ⟨rfl, rfl, rfl, trivial⟩ (by repeat (first | exact Sp.nil | exact Sp.refl _ | refine Sp.cons (by repeat constructor) ?_))))
    · skip
      refine qt_seg (by repeat (first | exact PickL.nil | (apply PickL.cons; rfl))) fun K1 hK1 => ?_
      skip
      refine qf_alloc zero107 rfl (fun b8 => ?_)
      (refine qf_pure tabOk rfl rfl rfl ?_)
      refine qf_call (β := Nat) tabOk [] _ M0 rfl rfl rfl rfl (Sp.refl _) (fun _ h => h.elim) (fun w' hs => of_ca w' a2 n2 c2) ?_
      rintro b2 _ rfl
      have hrb2 := hrx
      (refine qf_loadAB tabOk rfl rfl rfl (by repeat first | exact .head _ | refine .tail _ ?_) (by rfl) (by rfl) ?_)
      refine qf_call (β := (Value × Value × Value) × Wt) (ψ := fun y v => v = .agg #[y.1.1, y.1.2.1, y.1.2.2] ∧ y.2.In x) (L' := fun y => wtK y.1.1 y.1.2.1 y.1.2.2 y.2 ++ drL ((.slice a2 n2 c2)) b2 (0 + 200) g cd x.days) tabOk (drL ((.slice a2 n2 c2)) b2 (0) g cd x.days) _ (DL (drL ((.slice a2 n2 c2)) b2 (0) g cd x.days)) rfl rfl rfl rfl (Sp.cons (by repeat constructor) (Sp.cons (by repeat constructor) (Sp.refl _))) (fun x hx => hx) (fun w' hs => drawn0 hrx hbyb2 hs (by omega)) ?_; rintro ⟨⟨u1, u2, u3⟩, t⟩ _ ⟨rfl, ht⟩; dsimp only [wtK, drL, List.cons_append, List.nil_append] at ht ⊢; refine qf_fact (fun w hs => hs.slice2 (v := u1) (by repeat first | exact .head _ | refine .tail _ ?_)) ?_; rintro ⟨au1, cu1, rfl⟩; refine qf_fact (fun w hs => hs.slice2 (v := u2) (by repeat first | exact .head _ | refine .tail _ ?_)) ?_; rintro ⟨au2, cu2, rfl⟩; refine qf_fact (fun w hs => hs.slice2 (v := u3) (by repeat first | exact .head _ | refine .tail _ ?_)) ?_; rintro ⟨au3, cu3, rfl⟩
      (refine qf_setA tabOk rfl rfl rfl rfl rfl (by repeat constructor) rfl ?_; refine qf_nil ?_)
      skip
      exact hK1 _ _ (qt_nil (hK2 ⟨((b8, b2), ((au1, cu1), (au2, cu2), au3, cu3), t), ht⟩ _ _ ⟨rfl, rfl, rfl, trivial⟩ (by repeat (first | exact Sp.nil | exact Sp.refl _ | refine Sp.cons (by repeat constructor) ?_))))
  rintro ⟨⟨⟨b8, b2⟩, ⟨⟨au1, cu1⟩, ⟨au2, cu2⟩, au3, cu3⟩, t⟩, ht⟩
  dsimp only at ht ⊢
  have hfine := in_fine hrx ht
  have hst := hwx.store
  have hsk := hwx.stock
  (refine q_seq ?_; refine q_region ?_; (iterate 2 refine ql_loadAB tabOk rfl rfl rfl (by repeat first | exact .head _ | refine .tail _ ?_) (by rfl) (by rfl) ?_))
  refine ql_call (β := Value) tabOk [] _ M0 rfl rfl rfl rfl (Sp.refl _) (fun _ h => h.elim) (fun w' hs => stocks_in hrx ht w' 0 w'.heap.size (some ⟨g, 0, none⟩) cd _ _ _ (days_rd hs (by repeat first | exact .head _ | refine .tail _ ?_)) (wtK_R hs (by repeat first | exact .head _ | refine .tail _ ?_) (by repeat first | exact .head _ | refine .tail _ ?_) (by repeat first | exact .head _ | refine .tail _ ?_))) ?_
  rintro sv _ rfl
  dsimp only [List.cons_append, List.nil_append]
  refine ql_fact (fun w hs => hs.slice2 (v := sv) (by repeat first | exact .head _ | refine .tail _ ?_)) ?_
  rintro ⟨sa, sc, rfl⟩
  (refine ql_pure tabOk rfl rfl ?_; (iterate 2 refine ql_ext tabOk rfl rfl rfl ?_); (iterate 2 refine ql_pure tabOk rfl rfl ?_); refine q_nil ?_; (iterate 2 refine q_seq ?_); refine q_region ?_; refine ql_pure tabOk rfl rfl ?_; refine ql_neqF tabOk rfl rfl rfl (by omega) ?_; refine q_nil ?_; refine q_cond_false rfl ?_; refine q_skip ?_; refine q_seq ?_; refine q_region ?_; refine ql_pure tabOk rfl rfl ?_; refine ql_loadB tabOk rfl rfl rfl (by repeat first | exact .head _ | refine .tail _ ?_) (by rfl) ?_; refine ql_ar tabOk rfl rfl rfl rfl (by omega) (by omega) ?_; refine ql_pure tabOk rfl rfl ?_; refine ql_loadB tabOk rfl rfl rfl (by repeat first | exact .head _ | refine .tail _ ?_) (by rfl) ?_; refine ql_ar tabOk rfl rfl rfl rfl (by omega) (by omega) ?_)
  refine ql_mk #[.int .i64 (2 * x.stock), .int .i64 (2 * x.store), .slice none 0 0] rfl (by kernel_rfl) rfl ?_
  skip
  refine ql_mk #[.slice none 0 0, .slice none 0 0, .slice none 0 0] rfl (by kernel_rfl) rfl ?_
  skip
  refine ql_alloc zero61 rfl (fun b11 => ?_)
  skip
  refine ql_alloc zero107 rfl (fun b12 => ?_)
  ((iterate 2 refine ql_setA tabOk rfl rfl rfl rfl rfl (by repeat constructor) rfl ?_); refine q_nil ?_; (iterate 2 refine q_seq ?_); refine q_region ?_; refine ql_pure tabOk rfl rfl ?_; refine ql_loadB tabOk rfl rfl rfl (by repeat first | exact .head _ | refine .tail _ ?_) (by rfl) ?_; (iterate 2 refine ql_pure tabOk rfl rfl ?_); refine q_nil ?_; refine q_block ?_)
  have y1 := ht.need
  have y2 := ht.make
  have y3 := ht.loss
  have hdb : ∀ d ∈ x.days, DayB d := hwx.days
  have hrx2 : (dblW x).Right := dbl_right hrx (by omega) fun d hd => by
    have p1 := (hdb d hd).n
    have p2 := (hdb d hd).m
    have p3 := (hdb d hd).l
    omega
  have hS2 := stocks_dbl hrx hrx2 ht
  have hdr := fun {k : Nat} (h1 : k < x.days.length) (h2 : k ≤ (hapV x t).stocks.length) => stocks_drop hrx ht h1 h2
  refine q_conv (H' := [.pt b11 [.int .i64 (2 * x.stock), .int .i64 (2 * x.store), .slice none 0 0] 61, .pt b12 [.slice none 0 0, .slice none 0 0, .slice none 0 0] 107, .ow (.slice none 0 0) 73 6 0 (dyC []), .ow (.slice none 0 0) 3 1 0 (ints []), .ow (.slice none 0 0) 3 1 0 (ints []), .ow (.slice none 0 0) 3 1 0 (ints []), .pt b8 [.slice au1 t.need.length cu1, .slice au2 t.make.length cu2, .slice au3 t.loss.length cu3] 107, .ow (.slice au1 t.need.length cu1) 3 1 t.need.length (ints t.need), .ow (.slice au2 t.make.length cu2) 3 1 t.make.length (ints t.make), .ow (.slice au3 t.loss.length cu3) 3 1 t.loss.length (ints t.loss), .ow (.slice (some ⟨g, 0, none⟩) x.days.length cd) 73 6 x.days.length (dyC x.days), .pt b7 (wnC x (some ⟨g, 0, none⟩) cd) 61, .ow (.slice sa (hapV x t).stocks.length sc) 3 1 (hapV x t).stocks.length (ints (hapV x t).stocks)])
    (fun w' hs => (Sat.ownil (Sat.ownil (Sat.ownil (Sat.ownil hs 3 1) 3 1) 3 1) 73 6).sp (by repeat (first | exact Sp.nil | exact Sp.refl _ | refine Sp.cons (by repeat constructor) ?_))) ?_
  refine q_loop (σ := Nat × Value × Value × Value × Value) (fun s => s.1 ≤ x.days.length) (fun s => x.days.length - s.1) (fun s => [(2, .int .u8 wh), (7, .pointer (some ⟨b7, 0, none⟩)), (8, .pointer (some ⟨b8, 0, none⟩)), (9, .slice sa (hapV x t).stocks.length sc), (11, .pointer (some ⟨b11, 0, none⟩)), (12, .pointer (some ⟨b12, 0, none⟩)), (51, .slice (some ⟨g, 0, none⟩) x.days.length cd), (52, .int .i64 x.days.length), (53, .int .i64 s.1)])
    (fun s => [.pt b11 [.int .i64 (2 * x.stock), .int .i64 (2 * x.store), s.2.1] 61, .ow s.2.1 73 6 s.1 (dyC ((x.days.take s.1).map dblD)), .pt b12 [s.2.2.1, s.2.2.2.1, s.2.2.2.2] 107, .ow s.2.2.1 3 1 s.1 (ints (dblL (t.need.take s.1))), .ow s.2.2.2.1 3 1 s.1 (ints (dblL (t.make.take s.1))), .ow s.2.2.2.2 3 1 s.1 (ints (dblL (t.loss.take s.1))), .pt b8 [.slice au1 t.need.length cu1, .slice au2 t.make.length cu2, .slice au3 t.loss.length cu3] 107, .ow (.slice au1 t.need.length cu1) 3 1 t.need.length (ints t.need), .ow (.slice au2 t.make.length cu2) 3 1 t.make.length (ints t.make), .ow (.slice au3 t.loss.length cu3) 3 1 t.loss.length (ints t.loss), .ow (.slice (some ⟨g, 0, none⟩) x.days.length cd) 73 6 x.days.length (dyC x.days), .pt b7 (wnC x (some ⟨g, 0, none⟩) cd) 61, .ow (.slice sa (hapV x t).stocks.length sc) 3 1 (hapV x t).stocks.length (ints (hapV x t).stocks)])
    (0, .slice none 0 0, .slice none 0 0, .slice none 0 0, .slice none 0 0) (by simp) ⟨rfl, rfl, rfl, rfl, rfl, rfl, rfl, rfl, rfl, trivial⟩ (by simp only [List.take_zero, List.map_nil]; repeat (first | exact Sp.nil | exact Sp.refl _ | refine Sp.cons (by repeat constructor) ?_)) ?_
  rintro ⟨k, dv, v1, v2, v3⟩ hk K hK
  simp only at hk
  dsimp only
  (refine q_seq ?_; refine q_region ?_; refine ql_pure tabOk rfl rfl ?_; refine q_nil ?_; refine q_seq ?_)
  refine q_if rfl (fun hc => ?_) (fun hc => ?_)
  · have hk2 : k < x.days.length := by first | omega | (simp at hc; omega)
    clear hc
    have y1 : k < t.need.length := by omega
    have y2 : k < t.make.length := by omega
    have y3 : k < t.loss.length := by omega
    have z1 := hfine.need0 _ (List.getElem_mem y1)
    have z2 := hfine.make0 _ (List.getElem_mem y2)
    have z3 := hfine.loss0 _ (List.getElem_mem y3)
    have eD := dblD_snoc x.days hk2
    have e1 := dbl_snoc t.need y1
    have e2 := dbl_snoc t.make y2
    have e3 := dbl_snoc t.loss y3
    have hdk := hdb _ (List.getElem_mem hk2)
    have hn := hdk.n
    have hm := hdk.m
    have hl := hdk.l
    refine q_fact (fun w hs => hs.ownSome (v := .slice au1 t.need.length cu1) (by repeat first | exact .head _ | refine .tail _ ?_) (by omega)) ?_
    rintro ⟨g1, f1, zz1⟩
    cases zz1
    refine q_fact (fun w hs => hs.ownSome (v := .slice au2 t.make.length cu2) (by repeat first | exact .head _ | refine .tail _ ?_) (by omega)) ?_
    rintro ⟨g2, f2, zz2⟩
    cases zz2
    refine q_fact (fun w hs => hs.ownSome (v := .slice au3 t.loss.length cu3) (by repeat first | exact .head _ | refine .tail _ ?_) (by omega)) ?_
    rintro ⟨g3, f3, zz3⟩
    cases zz3
    (refine q_skip ?_; refine q_seq ?_; refine q_block ?_; refine q_seq ?_; refine q_region ?_; refine ql_pure tabOk rfl rfl ?_)
    refine ql_index tabOk rfl rfl rfl rfl rfl (by omega) (by omega) ?_
    refine ql_loadA tabOk rfl rfl rfl rfl (fun w hs => RdD.at (days_rd (x := x) hs (by repeat first | exact .head _ | refine .tail _ ?_)) k hk2) ?_
    skip
    refine ql_alloc zero73 rfl (fun b14 => ?_)
    (refine ql_pure tabOk rfl rfl ?_; refine ql_setA tabOk rfl rfl rfl rfl rfl (by repeat constructor) rfl ?_; refine q_nil ?_; refine q_seq ?_)
    generalize x.days[k] = d at *
    obtain ⟨n0, n1, m0, m1, l0, l1⟩ := d
    dsimp only [dblD] at hn hm hl eD ⊢
    refine q_drawS2 32 [.pt b14 [.int .i64 n0, .int .i64 n1, .int .i64 m0, .int .i64 m1, .int .i64 l0, .int .i64 l1] 73, .pt b11 [.int .i64 (2 * x.stock), .int .i64 (2 * x.store), dv] 61, .pt b12 [v1, v2, v3] 107, .ow v1 3 1 k (ints (dblL (t.need.take k))), .ow v2 3 1 k (ints (dblL (t.make.take k))), .ow v3 3 1 k (ints (dblL (t.loss.take k))), .pt b8 [.slice (some ⟨g1, 0, none⟩) t.need.length cu1, .slice (some ⟨g2, 0, none⟩) t.make.length cu2, .slice (some ⟨g3, 0, none⟩) t.loss.length cu3] 107, .ow (.slice (some ⟨g1, 0, none⟩) t.need.length cu1) 3 1 t.need.length (ints t.need), .ow (.slice (some ⟨g2, 0, none⟩) t.make.length cu2) 3 1 t.make.length (ints t.make), .ow (.slice (some ⟨g3, 0, none⟩) t.loss.length cu3) 3 1 t.loss.length (ints t.loss), .ow (.slice (some ⟨g, 0, none⟩) x.days.length cd) 73 6 x.days.length (dyC x.days), .pt b7 (wnC x (some ⟨g, 0, none⟩) cd) 61, .ow (.slice sa (hapV x t).stocks.length sc) 3 1 (hapV x t).stocks.length (ints (hapV x t).stocks)] [.ow dv 73 6 k (dyC ((x.days.take k).map dblD))] [.pt b14 [.int .i64 n0, .int .i64 n1, .int .i64 m0, .int .i64 m1, .int .i64 l0, .int .i64 l1] 73, .pt b12 [v1, v2, v3] 107, .ow v1 3 1 k (ints (dblL (t.need.take k))), .ow v2 3 1 k (ints (dblL (t.make.take k))), .ow v3 3 1 k (ints (dblL (t.loss.take k))), .pt b8 [.slice (some ⟨g1, 0, none⟩) t.need.length cu1, .slice (some ⟨g2, 0, none⟩) t.make.length cu2, .slice (some ⟨g3, 0, none⟩) t.loss.length cu3] 107, .ow (.slice (some ⟨g1, 0, none⟩) t.need.length cu1) 3 1 t.need.length (ints t.need), .ow (.slice (some ⟨g2, 0, none⟩) t.make.length cu2) 3 1 t.make.length (ints t.make), .ow (.slice (some ⟨g3, 0, none⟩) t.loss.length cu3) 3 1 t.loss.length (ints t.loss), .ow (.slice (some ⟨g, 0, none⟩) x.days.length cd) 73 6 x.days.length (dyC x.days), .pt b7 (wnC x (some ⟨g, 0, none⟩) cd) 61, .ow (.slice sa (hapV x t).stocks.length sc) 3 1 (hapV x t).stocks.length (ints (hapV x t).stocks)] [.pt b11 [.int .i64 (2 * x.stock), .int .i64 (2 * x.store), dv] 61] (by repeat (first | exact Sp.nil | exact Sp.refl _ | refine Sp.cons (by repeat constructor) ?_)) (by repeat (first | exact Sp.nil | exact Sp.refl _ | refine Sp.cons (by repeat constructor) ?_)) (by kernel_rfl) (by kernel_rfl) (by kernel_rfl) fun K1 hK1 => ?_
    (refine qf_pure tabOk rfl rfl rfl ?_; refine qf_loadB tabOk rfl rfl rfl (by repeat first | exact .head _ | refine .tail _ ?_) (by rfl) ?_; (iterate 2 refine qf_pure tabOk rfl rfl rfl ?_); refine qf_loadB tabOk rfl rfl rfl (by repeat first | exact .head _ | refine .tail _ ?_) (by rfl) ?_; refine qf_ar tabOk rfl rfl rfl rfl (by omega) (by omega) ?_; (iterate 2 refine qf_pure tabOk rfl rfl rfl ?_); refine qf_loadB tabOk rfl rfl rfl (by repeat first | exact .head _ | refine .tail _ ?_) (by rfl) ?_; refine qf_ar tabOk rfl rfl rfl rfl (by omega) (by omega) ?_)
    refine qf_callv tabOk rfl rfl rfl rfl (fun w hs => spanM_ca _ _ w) ?_
    ((iterate 2 refine qf_pure tabOk rfl rfl rfl ?_); refine qf_loadB tabOk rfl rfl rfl (by repeat first | exact .head _ | refine .tail _ ?_) (by rfl) ?_; refine qf_ar tabOk rfl rfl rfl rfl (by omega) (by omega) ?_; (iterate 2 refine qf_pure tabOk rfl rfl rfl ?_); refine qf_loadB tabOk rfl rfl rfl (by repeat first | exact .head _ | refine .tail _ ?_) (by rfl) ?_; refine qf_ar tabOk rfl rfl rfl rfl (by omega) (by omega) ?_)
    refine qf_callv tabOk rfl rfl rfl rfl (fun w hs => spanM_ca _ _ w) ?_
    ((iterate 2 refine qf_pure tabOk rfl rfl rfl ?_); refine qf_loadB tabOk rfl rfl rfl (by repeat first | exact .head _ | refine .tail _ ?_) (by rfl) ?_; refine qf_ar tabOk rfl rfl rfl rfl (by omega) (by omega) ?_; (iterate 2 refine qf_pure tabOk rfl rfl rfl ?_); refine qf_loadB tabOk rfl rfl rfl (by repeat first | exact .head _ | refine .tail _ ?_) (by rfl) ?_; refine qf_ar tabOk rfl rfl rfl rfl (by omega) (by omega) ?_)
    refine qf_callv tabOk rfl rfl rfl rfl (fun w hs => spanM_ca _ _ w) ?_
    skip
    refine qf_mk #[.int .i64 (2 * n0), .int .i64 (2 * n1), .int .i64 (2 * m0), .int .i64 (2 * m1), .int .i64 (2 * l0), .int .i64 (2 * l1)] rfl (by kernel_rfl) rfl ?_
    skip
    refine qf_mkS 73 (dyC [⟨2 * n0, 2 * n1, 2 * m0, 2 * m1, 2 * l0, 2 * l1⟩]) rfl (by kernel_rfl) rfl (fun bn => ?_)
    refine qf_append (q := 1) slD rfl rfl rfl (fun v' => by repeat constructor) (fun w' hs => ⟨_, _, Blk.rdDy (hs.blk (b := bn) (by repeat first | exact .head _ | refine .tail _ ?_))⟩) (dyC_one _) (by omega) (by omega) (fun u => ?_)
    (refine qf_nil ?_)
    refine hK1 _ _ [.ow u 73 6 (k + 1) (dyC ((x.days.take k).map dblD) ++ dyC [⟨2 * n0, 2 * n1, 2 * m0, 2 * m1, 2 * l0, 2 * l1⟩]), .pt b11 [.int .i64 (2 * x.stock), .int .i64 (2 * x.store), dv] 61] (by repeat (first | exact Sp.nil | exact Sp.refl _ | refine Sp.cons (by repeat constructor) ?_)) ?_
    refine qf_fact (fun w hs => hs.slice (v := u) (by repeat first | exact .head _ | refine .tail _ ?_)) ?_
    rintro ⟨da, dm, dc, rfl⟩
    (refine qf_pure tabOk rfl rfl rfl ?_; refine qf_st2 tabOk rfl rfl rfl rfl (by repeat constructor) ?_; refine qf_nil ?_)
    refine q_drawX (.alt (chainT [2, 3, 4, 5, 6, 7, 8] (.alt (chainT [0, 1, 9] (.alt (chainT [12, 13, 14, 15, 16, 17, 18] (.alt (chainT [10, 11, 19] (chainT [22, 23, 24, 25, 26, 27, 28] (chainT [20, 21, 29] (chainT [30, 31, 32, 33, 34, 35] .nil)))) (chainT [22, 23, 24, 25, 26, 27, 28] (chainT [10, 11, 19] (chainT [20, 21, 29] (chainT [30, 31, 32, 33, 34, 35] .nil)))))) (chainT [22, 23, 24, 25, 26, 27, 28] (chainT [12, 13, 14, 15, 16, 17, 18] (chainT [10, 11, 19] (chainT [20, 21, 29] (chainT [30, 31, 32, 33, 34, 35] .nil))))))) (.alt (chainT [12, 13, 14, 15, 16, 17, 18] (.alt (chainT [0, 1, 9] (.alt (chainT [10, 11, 19] (chainT [22, 23, 24, 25, 26, 27, 28] (chainT [20, 21, 29] (chainT [30, 31, 32, 33, 34, 35] .nil)))) (chainT [22, 23, 24, 25, 26, 27, 28] (chainT [10, 11, 19] (chainT [20, 21, 29] (chainT [30, 31, 32, 33, 34, 35] .nil)))))) (chainT [22, 23, 24, 25, 26, 27, 28] (chainT [0, 1, 9] (chainT [10, 11, 19] (chainT [20, 21, 29] (chainT [30, 31, 32, 33, 34, 35] .nil))))))) (chainT [22, 23, 24, 25, 26, 27, 28] (.alt (chainT [0, 1, 9] (chainT [12, 13, 14, 15, 16, 17, 18] (chainT [10, 11, 19] (chainT [20, 21, 29] (chainT [30, 31, 32, 33, 34, 35] .nil))))) (chainT [12, 13, 14, 15, 16, 17, 18] (chainT [0, 1, 9] (chainT [10, 11, 19] (chainT [20, 21, 29] (chainT [30, 31, 32, 33, 34, 35] .nil)))))))))) (.alt (chainT [12, 13, 14, 15, 16, 17, 18] (.alt (chainT [2, 3, 4, 5, 6, 7, 8] (.alt (chainT [0, 1, 9] (.alt (chainT [10, 11, 19] (chainT [22, 23, 24, 25, 26, 27, 28] (chainT [20, 21, 29] (chainT [30, 31, 32, 33, 34, 35] .nil)))) (chainT [22, 23, 24, 25, 26, 27, 28] (chainT [10, 11, 19] (chainT [20, 21, 29] (chainT [30, 31, 32, 33, 34, 35] .nil)))))) (chainT [22, 23, 24, 25, 26, 27, 28] (chainT [0, 1, 9] (chainT [10, 11, 19] (chainT [20, 21, 29] (chainT [30, 31, 32, 33, 34, 35] .nil))))))) (chainT [22, 23, 24, 25, 26, 27, 28] (chainT [2, 3, 4, 5, 6, 7, 8] (chainT [0, 1, 9] (chainT [10, 11, 19] (chainT [20, 21, 29] (chainT [30, 31, 32, 33, 34, 35] .nil)))))))) (chainT [22, 23, 24, 25, 26, 27, 28] (.alt (chainT [2, 3, 4, 5, 6, 7, 8] (.alt (chainT [0, 1, 9] (chainT [12, 13, 14, 15, 16, 17, 18] (chainT [10, 11, 19] (chainT [20, 21, 29] (chainT [30, 31, 32, 33, 34, 35] .nil))))) (chainT [12, 13, 14, 15, 16, 17, 18] (chainT [0, 1, 9] (chainT [10, 11, 19] (chainT [20, 21, 29] (chainT [30, 31, 32, 33, 34, 35] .nil))))))) (chainT [12, 13, 14, 15, 16, 17, 18] (chainT [2, 3, 4, 5, 6, 7, 8] (chainT [0, 1, 9] (chainT [10, 11, 19] (chainT [20, 21, 29] (chainT [30, 31, 32, 33, 34, 35] .nil)))))))))) [true, true, true, true, true, true, true, true, true, true, true, true, true, true, true, true, true, true, true, true, true, true, true, true, true, true, true, true, true, true, false, false, false, false, false, false] [.pt b12 [v1, v2, v3] 107, .pt b8 [.slice (some ⟨g1, 0, none⟩) t.need.length cu1, .slice (some ⟨g2, 0, none⟩) t.make.length cu2, .slice (some ⟨g3, 0, none⟩) t.loss.length cu3] 107, .ow (.slice (some ⟨g1, 0, none⟩) t.need.length cu1) 3 1 t.need.length (ints t.need), .ow (.slice (some ⟨g2, 0, none⟩) t.make.length cu2) 3 1 t.make.length (ints t.make), .ow (.slice (some ⟨g3, 0, none⟩) t.loss.length cu3) 3 1 t.loss.length (ints t.loss), .ow (.slice (some ⟨g, 0, none⟩) x.days.length cd) 73 6 x.days.length (dyC x.days), .pt b7 (wnC x (some ⟨g, 0, none⟩) cd) 61, .ow (.slice sa (hapV x t).stocks.length sc) 3 1 (hapV x t).stocks.length (ints (hapV x t).stocks), .pt b11 [.int .i64 (2 * x.stock), .int .i64 (2 * x.store), .slice da dm dc] 61, .ow (.slice da dm dc) 73 6 (k + 1) (dyC ((x.days.take k).map dblD) ++ dyC [⟨2 * n0, 2 * n1, 2 * m0, 2 * m1, 2 * l0, 2 * l1⟩])] [.ow v1 3 1 k (ints (dblL (t.need.take k))), .ow v2 3 1 k (ints (dblL (t.make.take k))), .ow v3 3 1 k (ints (dblL (t.loss.take k)))] [.pt b8 [.slice (some ⟨g1, 0, none⟩) t.need.length cu1, .slice (some ⟨g2, 0, none⟩) t.make.length cu2, .slice (some ⟨g3, 0, none⟩) t.loss.length cu3] 107, .ow (.slice (some ⟨g1, 0, none⟩) t.need.length cu1) 3 1 t.need.length (ints t.need), .ow (.slice (some ⟨g2, 0, none⟩) t.make.length cu2) 3 1 t.make.length (ints t.make), .ow (.slice (some ⟨g3, 0, none⟩) t.loss.length cu3) 3 1 t.loss.length (ints t.loss), .ow (.slice (some ⟨g, 0, none⟩) x.days.length cd) 73 6 x.days.length (dyC x.days), .pt b7 (wnC x (some ⟨g, 0, none⟩) cd) 61, .ow (.slice sa (hapV x t).stocks.length sc) 3 1 (hapV x t).stocks.length (ints (hapV x t).stocks), .pt b11 [.int .i64 (2 * x.stock), .int .i64 (2 * x.store), .slice da dm dc] 61, .ow (.slice da dm dc) 73 6 (k + 1) (dyC ((x.days.take k).map dblD) ++ dyC [⟨2 * n0, 2 * n1, 2 * m0, 2 * m1, 2 * l0, 2 * l1⟩])] [.pt b12 [v1, v2, v3] 107] (by repeat (first | exact Sp.nil | exact Sp.refl _ | refine Sp.cons (by repeat constructor) ?_)) (by repeat (first | exact Sp.nil | exact Sp.refl _ | refine Sp.cons (by repeat constructor) ?_)) (by kernel_rfl) (by kernel_rfl) (by kernel_rfl) ?_
    refine qx_let (σ := Nat × Value × Nat × Value × Nat × Value × Unit) (chainT [30, 31, 32, 33, 34, 35] .nil) (fun ⟨lt0, ap0, lt1, ap1, lt2, ap2, ()⟩ => [(2, .int .u8 wh), (7, .pointer (some ⟨b7, 0, none⟩)), (8, .pointer (some ⟨b8, 0, none⟩)), (9, .slice sa (hapV x t).stocks.length sc), (11, .pointer (some ⟨b11, 0, none⟩)), (12, .pointer (some ⟨b12, 0, none⟩)), (13, .int .i64 k), (51, .slice (some ⟨g, 0, none⟩) x.days.length cd), (52, .int .i64 x.days.length), (53, .int .i64 k), (100, ap0), (110, ap1), (120, ap2)]) (fun ⟨lt0, ap0, lt1, ap1, lt2, ap2, ()⟩ => [.ow ap0 3 1 (k + 1) (ints (dblL (t.need.take k)) ++ [.int .i64 (2 * t.need[k])]), .ow ap1 3 1 (k + 1) (ints (dblL (t.make.take k)) ++ [.int .i64 (2 * t.make[k])]), .ow ap2 3 1 (k + 1) (ints (dblL (t.loss.take k)) ++ [.int .i64 (2 * t.loss[k])]), .pt b12 [v1, v2, v3] 107, .pt b8 [.slice (some ⟨g1, 0, none⟩) t.need.length cu1, .slice (some ⟨g2, 0, none⟩) t.make.length cu2, .slice (some ⟨g3, 0, none⟩) t.loss.length cu3] 107, .ow (.slice (some ⟨g1, 0, none⟩) t.need.length cu1) 3 1 t.need.length (ints t.need), .ow (.slice (some ⟨g2, 0, none⟩) t.make.length cu2) 3 1 t.make.length (ints t.make), .ow (.slice (some ⟨g3, 0, none⟩) t.loss.length cu3) 3 1 t.loss.length (ints t.loss), .ow (.slice (some ⟨g, 0, none⟩) x.days.length cd) 73 6 x.days.length (dyC x.days), .pt b7 (wnC x (some ⟨g, 0, none⟩) cd) 61, .ow (.slice sa (hapV x t).stocks.length sc) 3 1 (hapV x t).stocks.length (ints (hapV x t).stocks), .pt b11 [.int .i64 (2 * x.stock), .int .i64 (2 * x.store), .slice da dm dc] 61, .ow (.slice da dm dc) 73 6 (k + 1) (dyC ((x.days.take k).map dblD) ++ dyC [⟨2 * n0, 2 * n1, 2 * m0, 2 * m1, 2 * l0, 2 * l1⟩])]) ?_ (fun hS8_9_18_19_28_29 => ?_)
    · rintro ⟨lt0, ap0, lt1, ap1, lt2, ap2, _⟩
      refine qx_F [.ow ap0 3 1 (k + 1) (ints (dblL (t.need.take k)) ++ [.int .i64 (2 * t.need[k])]), .ow ap1 3 1 (k + 1) (ints (dblL (t.make.take k)) ++ [.int .i64 (2 * t.make[k])]), .ow ap2 3 1 (k + 1) (ints (dblL (t.loss.take k)) ++ [.int .i64 (2 * t.loss[k])]), .pt b12 [v1, v2, v3] 107] (by repeat (first | exact PickL.nil | (apply PickL.cons; rfl))) rfl (by repeat (first | exact Sp.nil | exact Sp.refl _ | refine Sp.cons (by repeat constructor) ?_)) fun K1 hK1 => ?_
      refine qf_fact (fun w hs => hs.slice (v := ap0) (by repeat first | exact .head _ | refine .tail _ ?_)) ?_
      rintro ⟨w0, h0, d0, rfl⟩
      refine qf_fact (fun w hs => hs.slice (v := ap1) (by repeat first | exact .head _ | refine .tail _ ?_)) ?_
      rintro ⟨w1, h1, d1, rfl⟩
      refine qf_fact (fun w hs => hs.slice (v := ap2) (by repeat first | exact .head _ | refine .tail _ ?_)) ?_
      rintro ⟨w2, h2, d2, rfl⟩
      (refine qf_pure tabOk rfl rfl rfl ?_; refine qf_st0 tabOk rfl rfl rfl rfl (by repeat constructor) ?_; refine qf_pure tabOk rfl rfl rfl ?_; refine qf_st1 tabOk rfl rfl rfl rfl (by repeat constructor) ?_; refine qf_pure tabOk rfl rfl rfl ?_; refine qf_st2 tabOk rfl rfl rfl rfl (by repeat constructor) ?_; refine qf_nil ?_)
      refine hK1 _ _ (qx_nil ?_)
      (refine q_blk ?_; refine q_region ?_; refine ql_ar tabOk rfl rfl rfl rfl (by omega) (by omega) ?_; refine ql_pure tabOk rfl rfl ?_; refine q_nil ?_)
      exact hK (k + 1, .slice da dm dc, .slice w0 h0 d0, .slice w1 h1 d1, .slice w2 h2 d2) _ _ (by simp only; omega) (by simp only; omega) ⟨rfl, rfl, rfl, rfl, rfl, rfl, rfl, rfl, rfl, trivial⟩ (by dsimp only; rw [e1, e2, e3, eD]; repeat (first | exact Sp.nil | exact Sp.refl _ | refine Sp.cons (by repeat constructor) ?_))
    refine qx_let (σ := Nat × Value × Nat × Value × Nat × Unit) (chainT [20, 21, 29] (chainT [30, 31, 32, 33, 34, 35] .nil)) (fun ⟨lt0, ap0, lt1, ap1, lt2, ()⟩ => [(2, .int .u8 wh), (7, .pointer (some ⟨b7, 0, none⟩)), (8, .pointer (some ⟨b8, 0, none⟩)), (9, .slice sa (hapV x t).stocks.length sc), (11, .pointer (some ⟨b11, 0, none⟩)), (12, .pointer (some ⟨b12, 0, none⟩)), (13, .int .i64 k), (51, .slice (some ⟨g, 0, none⟩) x.days.length cd), (52, .int .i64 x.days.length), (53, .int .i64 k), (100, ap0), (110, ap1), (119, .slice (some ⟨lt2, 0, none⟩) 1 1)]) (fun ⟨lt0, ap0, lt1, ap1, lt2, ()⟩ => [.ow ap0 3 1 (k + 1) (ints (dblL (t.need.take k)) ++ [.int .i64 (2 * t.need[k])]), .ow ap1 3 1 (k + 1) (ints (dblL (t.make.take k)) ++ [.int .i64 (2 * t.make[k])]), .ow v3 3 1 k (ints (dblL (t.loss.take k))), .pt lt2 [.int .i64 (2 * t.loss[k])] 3, .pt b12 [v1, v2, v3] 107, .pt b8 [.slice (some ⟨g1, 0, none⟩) t.need.length cu1, .slice (some ⟨g2, 0, none⟩) t.make.length cu2, .slice (some ⟨g3, 0, none⟩) t.loss.length cu3] 107, .ow (.slice (some ⟨g1, 0, none⟩) t.need.length cu1) 3 1 t.need.length (ints t.need), .ow (.slice (some ⟨g2, 0, none⟩) t.make.length cu2) 3 1 t.make.length (ints t.make), .ow (.slice (some ⟨g3, 0, none⟩) t.loss.length cu3) 3 1 t.loss.length (ints t.loss), .ow (.slice (some ⟨g, 0, none⟩) x.days.length cd) 73 6 x.days.length (dyC x.days), .pt b7 (wnC x (some ⟨g, 0, none⟩) cd) 61, .ow (.slice sa (hapV x t).stocks.length sc) 3 1 (hapV x t).stocks.length (ints (hapV x t).stocks), .pt b11 [.int .i64 (2 * x.stock), .int .i64 (2 * x.store), .slice da dm dc] 61, .ow (.slice da dm dc) 73 6 (k + 1) (dyC ((x.days.take k).map dblD) ++ dyC [⟨2 * n0, 2 * n1, 2 * m0, 2 * m1, 2 * l0, 2 * l1⟩])]) ?_ (fun hS8_9_18_19_28 => ?_)
    · rintro ⟨lt0, ap0, lt1, ap1, lt2, _⟩
      refine qx_T [.ow ap0 3 1 (k + 1) (ints (dblL (t.need.take k)) ++ [.int .i64 (2 * t.need[k])]), .ow ap1 3 1 (k + 1) (ints (dblL (t.make.take k)) ++ [.int .i64 (2 * t.make[k])]), .ow v3 3 1 k (ints (dblL (t.loss.take k))), .pt lt2 [.int .i64 (2 * t.loss[k])] 3] (by repeat (first | exact PickL.nil | (apply PickL.cons; rfl))) rfl (by repeat (first | exact Sp.nil | exact Sp.refl _ | refine Sp.cons (by repeat constructor) ?_)) fun K1 hK1 => ?_
      (refine qf_pure tabOk rfl rfl rfl ?_; refine qf_loadB tabOk rfl rfl rfl (by repeat first | exact .head _ | refine .tail _ ?_) (by rfl) ?_)
      refine qf_append (q := 1) slI rfl rfl rfl (fun v' => by repeat constructor) (fun w' hs => ⟨_, _, Blk.rd (hs.blk (b := lt2) (by repeat first | exact .head _ | refine .tail _ ?_)) rfl 1⟩) (by simp [oneV]) (by omega) (by omega) (fun ap2 => ?_)
      (refine qf_nil ?_)
      exact hK1 _ _ (hS8_9_18_19_28_29 ⟨lt0, ap0, lt1, ap1, lt2, ap2, ()⟩ _ _ ⟨rfl, rfl, rfl, rfl, rfl, rfl, rfl, rfl, rfl, rfl, rfl, rfl, rfl, trivial⟩ (by repeat (first | exact Sp.nil | exact Sp.refl _ | refine Sp.cons (by repeat constructor) ?_)))
    refine qx_let (σ := Nat × Value × Nat × Value × Unit) (chainT [22, 23, 24, 25, 26, 27, 28] (chainT [20, 21, 29] (chainT [30, 31, 32, 33, 34, 35] .nil))) (fun ⟨lt0, ap0, lt1, ap1, ()⟩ => [(2, .int .u8 wh), (7, .pointer (some ⟨b7, 0, none⟩)), (8, .pointer (some ⟨b8, 0, none⟩)), (9, .slice sa (hapV x t).stocks.length sc), (11, .pointer (some ⟨b11, 0, none⟩)), (12, .pointer (some ⟨b12, 0, none⟩)), (13, .int .i64 k), (51, .slice (some ⟨g, 0, none⟩) x.days.length cd), (52, .int .i64 x.days.length), (53, .int .i64 k), (100, ap0), (110, ap1)]) (fun ⟨lt0, ap0, lt1, ap1, ()⟩ => [.ow ap0 3 1 (k + 1) (ints (dblL (t.need.take k)) ++ [.int .i64 (2 * t.need[k])]), .ow ap1 3 1 (k + 1) (ints (dblL (t.make.take k)) ++ [.int .i64 (2 * t.make[k])]), .ow v3 3 1 k (ints (dblL (t.loss.take k))), .pt b12 [v1, v2, v3] 107, .pt b8 [.slice (some ⟨g1, 0, none⟩) t.need.length cu1, .slice (some ⟨g2, 0, none⟩) t.make.length cu2, .slice (some ⟨g3, 0, none⟩) t.loss.length cu3] 107, .ow (.slice (some ⟨g1, 0, none⟩) t.need.length cu1) 3 1 t.need.length (ints t.need), .ow (.slice (some ⟨g2, 0, none⟩) t.make.length cu2) 3 1 t.make.length (ints t.make), .ow (.slice (some ⟨g3, 0, none⟩) t.loss.length cu3) 3 1 t.loss.length (ints t.loss), .ow (.slice (some ⟨g, 0, none⟩) x.days.length cd) 73 6 x.days.length (dyC x.days), .pt b7 (wnC x (some ⟨g, 0, none⟩) cd) 61, .ow (.slice sa (hapV x t).stocks.length sc) 3 1 (hapV x t).stocks.length (ints (hapV x t).stocks), .pt b11 [.int .i64 (2 * x.stock), .int .i64 (2 * x.store), .slice da dm dc] 61, .ow (.slice da dm dc) 73 6 (k + 1) (dyC ((x.days.take k).map dblD) ++ dyC [⟨2 * n0, 2 * n1, 2 * m0, 2 * m1, 2 * l0, 2 * l1⟩])]) ?_ (fun hS8_9_18_19 => ?_)
    · rintro ⟨lt0, ap0, lt1, ap1, _⟩
      refine qx_T [.ow ap0 3 1 (k + 1) (ints (dblL (t.need.take k)) ++ [.int .i64 (2 * t.need[k])]), .ow ap1 3 1 (k + 1) (ints (dblL (t.make.take k)) ++ [.int .i64 (2 * t.make[k])]), .ow v3 3 1 k (ints (dblL (t.loss.take k)))] (by repeat (first | exact PickL.nil | (apply PickL.cons; rfl))) rfl (by repeat (first | exact Sp.nil | exact Sp.refl _ | refine Sp.cons (by repeat constructor) ?_)) fun K1 hK1 => ?_
      (refine qf_pure tabOk rfl rfl rfl ?_; refine qf_loadB tabOk rfl rfl rfl (by repeat first | exact .head _ | refine .tail _ ?_) (by rfl) ?_; refine qf_pure tabOk rfl rfl rfl ?_)
      refine qf_index tabOk rfl rfl rfl rfl rfl (by omega) (by omega) ?_
      skip
      refine qf_load1 (v := .int .i64 t.loss[k]) tabOk rfl rfl rfl (fun w hs => RdI.at (hs.rdI (v := .slice (some ⟨g3, 0, none⟩) t.loss.length cu3) (l := t.loss) (by repeat first | exact .head _ | refine .tail _ ?_) rfl) k y3) ?_
      (refine qf_ar tabOk rfl rfl rfl rfl (by omega) (by omega) ?_)
      refine qf_mkS 3 [.int .i64 (2 * t.loss[k])] rfl (by kernel_rfl) rfl (fun lt2 => ?_)
      (refine qf_nil ?_)
      exact hK1 _ _ (hS8_9_18_19_28 ⟨lt0, ap0, lt1, ap1, lt2, ()⟩ _ _ ⟨rfl, rfl, rfl, rfl, rfl, rfl, rfl, rfl, rfl, rfl, rfl, rfl, rfl, trivial⟩ (by repeat (first | exact Sp.nil | exact Sp.refl _ | refine Sp.cons (by repeat constructor) ?_)))
    refine qx_let (σ := Nat × Value × Nat × Nat × Unit) (chainT [10, 11, 19] (chainT [20, 21, 29] (chainT [30, 31, 32, 33, 34, 35] .nil))) (fun ⟨lt0, ap0, lt1, lt2, ()⟩ => [(2, .int .u8 wh), (7, .pointer (some ⟨b7, 0, none⟩)), (8, .pointer (some ⟨b8, 0, none⟩)), (9, .slice sa (hapV x t).stocks.length sc), (11, .pointer (some ⟨b11, 0, none⟩)), (12, .pointer (some ⟨b12, 0, none⟩)), (13, .int .i64 k), (51, .slice (some ⟨g, 0, none⟩) x.days.length cd), (52, .int .i64 x.days.length), (53, .int .i64 k), (100, ap0), (109, .slice (some ⟨lt1, 0, none⟩) 1 1), (119, .slice (some ⟨lt2, 0, none⟩) 1 1)]) (fun ⟨lt0, ap0, lt1, lt2, ()⟩ => [.ow ap0 3 1 (k + 1) (ints (dblL (t.need.take k)) ++ [.int .i64 (2 * t.need[k])]), .ow v2 3 1 k (ints (dblL (t.make.take k))), .pt lt1 [.int .i64 (2 * t.make[k])] 3, .ow v3 3 1 k (ints (dblL (t.loss.take k))), .pt lt2 [.int .i64 (2 * t.loss[k])] 3, .pt b12 [v1, v2, v3] 107, .pt b8 [.slice (some ⟨g1, 0, none⟩) t.need.length cu1, .slice (some ⟨g2, 0, none⟩) t.make.length cu2, .slice (some ⟨g3, 0, none⟩) t.loss.length cu3] 107, .ow (.slice (some ⟨g1, 0, none⟩) t.need.length cu1) 3 1 t.need.length (ints t.need), .ow (.slice (some ⟨g2, 0, none⟩) t.make.length cu2) 3 1 t.make.length (ints t.make), .ow (.slice (some ⟨g3, 0, none⟩) t.loss.length cu3) 3 1 t.loss.length (ints t.loss), .ow (.slice (some ⟨g, 0, none⟩) x.days.length cd) 73 6 x.days.length (dyC x.days), .pt b7 (wnC x (some ⟨g, 0, none⟩) cd) 61, .ow (.slice sa (hapV x t).stocks.length sc) 3 1 (hapV x t).stocks.length (ints (hapV x t).stocks), .pt b11 [.int .i64 (2 * x.stock), .int .i64 (2 * x.store), .slice da dm dc] 61, .ow (.slice da dm dc) 73 6 (k + 1) (dyC ((x.days.take k).map dblD) ++ dyC [⟨2 * n0, 2 * n1, 2 * m0, 2 * m1, 2 * l0, 2 * l1⟩])]) ?_ (fun hS8_9_18_28 => ?_)
    · rintro ⟨lt0, ap0, lt1, lt2, _⟩
      refine qx_T [.ow ap0 3 1 (k + 1) (ints (dblL (t.need.take k)) ++ [.int .i64 (2 * t.need[k])]), .ow v2 3 1 k (ints (dblL (t.make.take k))), .pt lt1 [.int .i64 (2 * t.make[k])] 3, .ow v3 3 1 k (ints (dblL (t.loss.take k))), .pt lt2 [.int .i64 (2 * t.loss[k])] 3] (by repeat (first | exact PickL.nil | (apply PickL.cons; rfl))) rfl (by repeat (first | exact Sp.nil | exact Sp.refl _ | refine Sp.cons (by repeat constructor) ?_)) fun K1 hK1 => ?_
      (refine qf_pure tabOk rfl rfl rfl ?_; refine qf_loadB tabOk rfl rfl rfl (by repeat first | exact .head _ | refine .tail _ ?_) (by rfl) ?_)
      refine qf_append (q := 1) slI rfl rfl rfl (fun v' => by repeat constructor) (fun w' hs => ⟨_, _, Blk.rd (hs.blk (b := lt1) (by repeat first | exact .head _ | refine .tail _ ?_)) rfl 1⟩) (by simp [oneV]) (by omega) (by omega) (fun ap1 => ?_)
      (refine qf_nil ?_)
      exact hK1 _ _ (hS8_9_18_19_28 ⟨lt0, ap0, lt1, ap1, lt2, ()⟩ _ _ ⟨rfl, rfl, rfl, rfl, rfl, rfl, rfl, rfl, rfl, rfl, rfl, rfl, rfl, trivial⟩ (by repeat (first | exact Sp.nil | exact Sp.refl _ | refine Sp.cons (by repeat constructor) ?_)))
    refine qx_let (σ := Nat × Value × Nat × Unit) (.alt (chainT [10, 11, 19] (chainT [22, 23, 24, 25, 26, 27, 28] (chainT [20, 21, 29] (chainT [30, 31, 32, 33, 34, 35] .nil)))) (chainT [22, 23, 24, 25, 26, 27, 28] (chainT [10, 11, 19] (chainT [20, 21, 29] (chainT [30, 31, 32, 33, 34, 35] .nil))))) (fun ⟨lt0, ap0, lt1, ()⟩ => [(2, .int .u8 wh), (7, .pointer (some ⟨b7, 0, none⟩)), (8, .pointer (some ⟨b8, 0, none⟩)), (9, .slice sa (hapV x t).stocks.length sc), (11, .pointer (some ⟨b11, 0, none⟩)), (12, .pointer (some ⟨b12, 0, none⟩)), (13, .int .i64 k), (51, .slice (some ⟨g, 0, none⟩) x.days.length cd), (52, .int .i64 x.days.length), (53, .int .i64 k), (100, ap0), (109, .slice (some ⟨lt1, 0, none⟩) 1 1)]) (fun ⟨lt0, ap0, lt1, ()⟩ => [.ow ap0 3 1 (k + 1) (ints (dblL (t.need.take k)) ++ [.int .i64 (2 * t.need[k])]), .ow v2 3 1 k (ints (dblL (t.make.take k))), .pt lt1 [.int .i64 (2 * t.make[k])] 3, .ow v3 3 1 k (ints (dblL (t.loss.take k))), .pt b12 [v1, v2, v3] 107, .pt b8 [.slice (some ⟨g1, 0, none⟩) t.need.length cu1, .slice (some ⟨g2, 0, none⟩) t.make.length cu2, .slice (some ⟨g3, 0, none⟩) t.loss.length cu3] 107, .ow (.slice (some ⟨g1, 0, none⟩) t.need.length cu1) 3 1 t.need.length (ints t.need), .ow (.slice (some ⟨g2, 0, none⟩) t.make.length cu2) 3 1 t.make.length (ints t.make), .ow (.slice (some ⟨g3, 0, none⟩) t.loss.length cu3) 3 1 t.loss.length (ints t.loss), .ow (.slice (some ⟨g, 0, none⟩) x.days.length cd) 73 6 x.days.length (dyC x.days), .pt b7 (wnC x (some ⟨g, 0, none⟩) cd) 61, .ow (.slice sa (hapV x t).stocks.length sc) 3 1 (hapV x t).stocks.length (ints (hapV x t).stocks), .pt b11 [.int .i64 (2 * x.stock), .int .i64 (2 * x.store), .slice da dm dc] 61, .ow (.slice da dm dc) 73 6 (k + 1) (dyC ((x.days.take k).map dblD) ++ dyC [⟨2 * n0, 2 * n1, 2 * m0, 2 * m1, 2 * l0, 2 * l1⟩])]) ?_ (fun hS8_9_18 => ?_)
    · rintro ⟨lt0, ap0, lt1, _⟩
      refine qx_alt ?_ ?_
      · skip
        refine qx_T [.ow ap0 3 1 (k + 1) (ints (dblL (t.need.take k)) ++ [.int .i64 (2 * t.need[k])]), .ow v2 3 1 k (ints (dblL (t.make.take k))), .pt lt1 [.int .i64 (2 * t.make[k])] 3, .ow v3 3 1 k (ints (dblL (t.loss.take k)))] (by repeat (first | exact PickL.nil | (apply PickL.cons; rfl))) rfl (by repeat (first | exact Sp.nil | exact Sp.refl _ | refine Sp.cons (by repeat constructor) ?_)) fun K1 hK1 => ?_
        (refine qf_pure tabOk rfl rfl rfl ?_; refine qf_loadB tabOk rfl rfl rfl (by repeat first | exact .head _ | refine .tail _ ?_) (by rfl) ?_)
        refine qf_append (q := 1) slI rfl rfl rfl (fun v' => by repeat constructor) (fun w' hs => ⟨_, _, Blk.rd (hs.blk (b := lt1) (by repeat first | exact .head _ | refine .tail _ ?_)) rfl 1⟩) (by simp [oneV]) (by omega) (by omega) (fun ap1 => ?_)
        (refine qf_nil ?_)
        exact hK1 _ _ (hS8_9_18_19 ⟨lt0, ap0, lt1, ap1, ()⟩ _ _ ⟨rfl, rfl, rfl, rfl, rfl, rfl, rfl, rfl, rfl, rfl, rfl, rfl, trivial⟩ (by repeat (first | exact Sp.nil | exact Sp.refl _ | refine Sp.cons (by repeat constructor) ?_)))
      · skip
        refine qx_T [.ow ap0 3 1 (k + 1) (ints (dblL (t.need.take k)) ++ [.int .i64 (2 * t.need[k])]), .ow v2 3 1 k (ints (dblL (t.make.take k))), .pt lt1 [.int .i64 (2 * t.make[k])] 3, .ow v3 3 1 k (ints (dblL (t.loss.take k)))] (by repeat (first | exact PickL.nil | (apply PickL.cons; rfl))) rfl (by repeat (first | exact Sp.nil | exact Sp.refl _ | refine Sp.cons (by repeat constructor) ?_)) fun K1 hK1 => ?_
        (refine qf_pure tabOk rfl rfl rfl ?_; refine qf_loadB tabOk rfl rfl rfl (by repeat first | exact .head _ | refine .tail _ ?_) (by rfl) ?_; refine qf_pure tabOk rfl rfl rfl ?_)
        refine qf_index tabOk rfl rfl rfl rfl rfl (by omega) (by omega) ?_
        skip
        refine qf_load1 (v := .int .i64 t.loss[k]) tabOk rfl rfl rfl (fun w hs => RdI.at (hs.rdI (v := .slice (some ⟨g3, 0, none⟩) t.loss.length cu3) (l := t.loss) (by repeat first | exact .head _ | refine .tail _ ?_) rfl) k y3) ?_
        (refine qf_ar tabOk rfl rfl rfl rfl (by omega) (by omega) ?_)
        refine qf_mkS 3 [.int .i64 (2 * t.loss[k])] rfl (by kernel_rfl) rfl (fun lt2 => ?_)
        (refine qf_nil ?_)
        exact hK1 _ _ (hS8_9_18_28 ⟨lt0, ap0, lt1, lt2, ()⟩ _ _ ⟨rfl, rfl, rfl, rfl, rfl, rfl, rfl, rfl, rfl, rfl, rfl, rfl, rfl, trivial⟩ (by repeat (first | exact Sp.nil | exact Sp.refl _ | refine Sp.cons (by repeat constructor) ?_)))
    refine qx_let (σ := Nat × Value × Nat × Unit) (chainT [12, 13, 14, 15, 16, 17, 18] (chainT [10, 11, 19] (chainT [20, 21, 29] (chainT [30, 31, 32, 33, 34, 35] .nil)))) (fun ⟨lt0, ap0, lt2, ()⟩ => [(2, .int .u8 wh), (7, .pointer (some ⟨b7, 0, none⟩)), (8, .pointer (some ⟨b8, 0, none⟩)), (9, .slice sa (hapV x t).stocks.length sc), (11, .pointer (some ⟨b11, 0, none⟩)), (12, .pointer (some ⟨b12, 0, none⟩)), (13, .int .i64 k), (51, .slice (some ⟨g, 0, none⟩) x.days.length cd), (52, .int .i64 x.days.length), (53, .int .i64 k), (100, ap0), (119, .slice (some ⟨lt2, 0, none⟩) 1 1)]) (fun ⟨lt0, ap0, lt2, ()⟩ => [.ow ap0 3 1 (k + 1) (ints (dblL (t.need.take k)) ++ [.int .i64 (2 * t.need[k])]), .ow v2 3 1 k (ints (dblL (t.make.take k))), .ow v3 3 1 k (ints (dblL (t.loss.take k))), .pt lt2 [.int .i64 (2 * t.loss[k])] 3, .pt b12 [v1, v2, v3] 107, .pt b8 [.slice (some ⟨g1, 0, none⟩) t.need.length cu1, .slice (some ⟨g2, 0, none⟩) t.make.length cu2, .slice (some ⟨g3, 0, none⟩) t.loss.length cu3] 107, .ow (.slice (some ⟨g1, 0, none⟩) t.need.length cu1) 3 1 t.need.length (ints t.need), .ow (.slice (some ⟨g2, 0, none⟩) t.make.length cu2) 3 1 t.make.length (ints t.make), .ow (.slice (some ⟨g3, 0, none⟩) t.loss.length cu3) 3 1 t.loss.length (ints t.loss), .ow (.slice (some ⟨g, 0, none⟩) x.days.length cd) 73 6 x.days.length (dyC x.days), .pt b7 (wnC x (some ⟨g, 0, none⟩) cd) 61, .ow (.slice sa (hapV x t).stocks.length sc) 3 1 (hapV x t).stocks.length (ints (hapV x t).stocks), .pt b11 [.int .i64 (2 * x.stock), .int .i64 (2 * x.store), .slice da dm dc] 61, .ow (.slice da dm dc) 73 6 (k + 1) (dyC ((x.days.take k).map dblD) ++ dyC [⟨2 * n0, 2 * n1, 2 * m0, 2 * m1, 2 * l0, 2 * l1⟩])]) ?_ (fun hS8_9_28 => ?_)
    · rintro ⟨lt0, ap0, lt2, _⟩
      refine qx_T [.ow ap0 3 1 (k + 1) (ints (dblL (t.need.take k)) ++ [.int .i64 (2 * t.need[k])]), .ow v2 3 1 k (ints (dblL (t.make.take k))), .ow v3 3 1 k (ints (dblL (t.loss.take k))), .pt lt2 [.int .i64 (2 * t.loss[k])] 3] (by repeat (first | exact PickL.nil | (apply PickL.cons; rfl))) rfl (by repeat (first | exact Sp.nil | exact Sp.refl _ | refine Sp.cons (by repeat constructor) ?_)) fun K1 hK1 => ?_
      (refine qf_pure tabOk rfl rfl rfl ?_; refine qf_loadB tabOk rfl rfl rfl (by repeat first | exact .head _ | refine .tail _ ?_) (by rfl) ?_; refine qf_pure tabOk rfl rfl rfl ?_)
      refine qf_index tabOk rfl rfl rfl rfl rfl (by omega) (by omega) ?_
      skip
      refine qf_load1 (v := .int .i64 t.make[k]) tabOk rfl rfl rfl (fun w hs => RdI.at (hs.rdI (v := .slice (some ⟨g2, 0, none⟩) t.make.length cu2) (l := t.make) (by repeat first | exact .head _ | refine .tail _ ?_) rfl) k y2) ?_
      (refine qf_ar tabOk rfl rfl rfl rfl (by omega) (by omega) ?_)
      refine qf_mkS 3 [.int .i64 (2 * t.make[k])] rfl (by kernel_rfl) rfl (fun lt1 => ?_)
      (refine qf_nil ?_)
      exact hK1 _ _ (hS8_9_18_28 ⟨lt0, ap0, lt1, lt2, ()⟩ _ _ ⟨rfl, rfl, rfl, rfl, rfl, rfl, rfl, rfl, rfl, rfl, rfl, rfl, rfl, trivial⟩ (by repeat (first | exact Sp.nil | exact Sp.refl _ | refine Sp.cons (by repeat constructor) ?_)))
    refine qx_let (σ := Nat × Nat × Nat × Unit) (chainT [0, 1, 9] (chainT [10, 11, 19] (chainT [20, 21, 29] (chainT [30, 31, 32, 33, 34, 35] .nil)))) (fun ⟨lt0, lt1, lt2, ()⟩ => [(2, .int .u8 wh), (7, .pointer (some ⟨b7, 0, none⟩)), (8, .pointer (some ⟨b8, 0, none⟩)), (9, .slice sa (hapV x t).stocks.length sc), (11, .pointer (some ⟨b11, 0, none⟩)), (12, .pointer (some ⟨b12, 0, none⟩)), (13, .int .i64 k), (51, .slice (some ⟨g, 0, none⟩) x.days.length cd), (52, .int .i64 x.days.length), (53, .int .i64 k), (99, .slice (some ⟨lt0, 0, none⟩) 1 1), (109, .slice (some ⟨lt1, 0, none⟩) 1 1), (119, .slice (some ⟨lt2, 0, none⟩) 1 1)]) (fun ⟨lt0, lt1, lt2, ()⟩ => [.ow v1 3 1 k (ints (dblL (t.need.take k))), .pt lt0 [.int .i64 (2 * t.need[k])] 3, .ow v2 3 1 k (ints (dblL (t.make.take k))), .pt lt1 [.int .i64 (2 * t.make[k])] 3, .ow v3 3 1 k (ints (dblL (t.loss.take k))), .pt lt2 [.int .i64 (2 * t.loss[k])] 3, .pt b12 [v1, v2, v3] 107, .pt b8 [.slice (some ⟨g1, 0, none⟩) t.need.length cu1, .slice (some ⟨g2, 0, none⟩) t.make.length cu2, .slice (some ⟨g3, 0, none⟩) t.loss.length cu3] 107, .ow (.slice (some ⟨g1, 0, none⟩) t.need.length cu1) 3 1 t.need.length (ints t.need), .ow (.slice (some ⟨g2, 0, none⟩) t.make.length cu2) 3 1 t.make.length (ints t.make), .ow (.slice (some ⟨g3, 0, none⟩) t.loss.length cu3) 3 1 t.loss.length (ints t.loss), .ow (.slice (some ⟨g, 0, none⟩) x.days.length cd) 73 6 x.days.length (dyC x.days), .pt b7 (wnC x (some ⟨g, 0, none⟩) cd) 61, .ow (.slice sa (hapV x t).stocks.length sc) 3 1 (hapV x t).stocks.length (ints (hapV x t).stocks), .pt b11 [.int .i64 (2 * x.stock), .int .i64 (2 * x.store), .slice da dm dc] 61, .ow (.slice da dm dc) 73 6 (k + 1) (dyC ((x.days.take k).map dblD) ++ dyC [⟨2 * n0, 2 * n1, 2 * m0, 2 * m1, 2 * l0, 2 * l1⟩])]) ?_ (fun hS8_18_28 => ?_)
    · rintro ⟨lt0, lt1, lt2, _⟩
      refine qx_T [.ow v1 3 1 k (ints (dblL (t.need.take k))), .pt lt0 [.int .i64 (2 * t.need[k])] 3, .ow v2 3 1 k (ints (dblL (t.make.take k))), .pt lt1 [.int .i64 (2 * t.make[k])] 3, .ow v3 3 1 k (ints (dblL (t.loss.take k))), .pt lt2 [.int .i64 (2 * t.loss[k])] 3] (by repeat (first | exact PickL.nil | (apply PickL.cons; rfl))) rfl (by repeat (first | exact Sp.nil | exact Sp.refl _ | refine Sp.cons (by repeat constructor) ?_)) fun K1 hK1 => ?_
      (refine qf_pure tabOk rfl rfl rfl ?_; refine qf_loadB tabOk rfl rfl rfl (by repeat first | exact .head _ | refine .tail _ ?_) (by rfl) ?_)
      refine qf_append (q := 1) slI rfl rfl rfl (fun v' => by repeat constructor) (fun w' hs => ⟨_, _, Blk.rd (hs.blk (b := lt0) (by repeat first | exact .head _ | refine .tail _ ?_)) rfl 1⟩) (by simp [oneV]) (by omega) (by omega) (fun ap0 => ?_)
      (refine qf_nil ?_)
      exact hK1 _ _ (hS8_9_18_28 ⟨lt0, ap0, lt1, lt2, ()⟩ _ _ ⟨rfl, rfl, rfl, rfl, rfl, rfl, rfl, rfl, rfl, rfl, rfl, rfl, rfl, trivial⟩ (by repeat (first | exact Sp.nil | exact Sp.refl _ | refine Sp.cons (by repeat constructor) ?_)))
    refine qx_let (σ := Nat × Value × Unit) (.alt (chainT [12, 13, 14, 15, 16, 17, 18] (.alt (chainT [10, 11, 19] (chainT [22, 23, 24, 25, 26, 27, 28] (chainT [20, 21, 29] (chainT [30, 31, 32, 33, 34, 35] .nil)))) (chainT [22, 23, 24, 25, 26, 27, 28] (chainT [10, 11, 19] (chainT [20, 21, 29] (chainT [30, 31, 32, 33, 34, 35] .nil)))))) (chainT [22, 23, 24, 25, 26, 27, 28] (chainT [12, 13, 14, 15, 16, 17, 18] (chainT [10, 11, 19] (chainT [20, 21, 29] (chainT [30, 31, 32, 33, 34, 35] .nil)))))) (fun ⟨lt0, ap0, ()⟩ => [(2, .int .u8 wh), (7, .pointer (some ⟨b7, 0, none⟩)), (8, .pointer (some ⟨b8, 0, none⟩)), (9, .slice sa (hapV x t).stocks.length sc), (11, .pointer (some ⟨b11, 0, none⟩)), (12, .pointer (some ⟨b12, 0, none⟩)), (13, .int .i64 k), (51, .slice (some ⟨g, 0, none⟩) x.days.length cd), (52, .int .i64 x.days.length), (53, .int .i64 k), (100, ap0)]) (fun ⟨lt0, ap0, ()⟩ => [.ow ap0 3 1 (k + 1) (ints (dblL (t.need.take k)) ++ [.int .i64 (2 * t.need[k])]), .ow v2 3 1 k (ints (dblL (t.make.take k))), .ow v3 3 1 k (ints (dblL (t.loss.take k))), .pt b12 [v1, v2, v3] 107, .pt b8 [.slice (some ⟨g1, 0, none⟩) t.need.length cu1, .slice (some ⟨g2, 0, none⟩) t.make.length cu2, .slice (some ⟨g3, 0, none⟩) t.loss.length cu3] 107, .ow (.slice (some ⟨g1, 0, none⟩) t.need.length cu1) 3 1 t.need.length (ints t.need), .ow (.slice (some ⟨g2, 0, none⟩) t.make.length cu2) 3 1 t.make.length (ints t.make), .ow (.slice (some ⟨g3, 0, none⟩) t.loss.length cu3) 3 1 t.loss.length (ints t.loss), .ow (.slice (some ⟨g, 0, none⟩) x.days.length cd) 73 6 x.days.length (dyC x.days), .pt b7 (wnC x (some ⟨g, 0, none⟩) cd) 61, .ow (.slice sa (hapV x t).stocks.length sc) 3 1 (hapV x t).stocks.length (ints (hapV x t).stocks), .pt b11 [.int .i64 (2 * x.stock), .int .i64 (2 * x.store), .slice da dm dc] 61, .ow (.slice da dm dc) 73 6 (k + 1) (dyC ((x.days.take k).map dblD) ++ dyC [⟨2 * n0, 2 * n1, 2 * m0, 2 * m1, 2 * l0, 2 * l1⟩])]) ?_ (fun hS8_9 => ?_)
    · rintro ⟨lt0, ap0, _⟩
      refine qx_alt ?_ ?_
      · skip
        refine qx_T [.ow ap0 3 1 (k + 1) (ints (dblL (t.need.take k)) ++ [.int .i64 (2 * t.need[k])]), .ow v2 3 1 k (ints (dblL (t.make.take k))), .ow v3 3 1 k (ints (dblL (t.loss.take k)))] (by repeat (first | exact PickL.nil | (apply PickL.cons; rfl))) rfl (by repeat (first | exact Sp.nil | exact Sp.refl _ | refine Sp.cons (by repeat constructor) ?_)) fun K1 hK1 => ?_
        (refine qf_pure tabOk rfl rfl rfl ?_; refine qf_loadB tabOk rfl rfl rfl (by repeat first | exact .head _ | refine .tail _ ?_) (by rfl) ?_; refine qf_pure tabOk rfl rfl rfl ?_)
        refine qf_index tabOk rfl rfl rfl rfl rfl (by omega) (by omega) ?_
        skip
        refine qf_load1 (v := .int .i64 t.make[k]) tabOk rfl rfl rfl (fun w hs => RdI.at (hs.rdI (v := .slice (some ⟨g2, 0, none⟩) t.make.length cu2) (l := t.make) (by repeat first | exact .head _ | refine .tail _ ?_) rfl) k y2) ?_
        (refine qf_ar tabOk rfl rfl rfl rfl (by omega) (by omega) ?_)
        refine qf_mkS 3 [.int .i64 (2 * t.make[k])] rfl (by kernel_rfl) rfl (fun lt1 => ?_)
        (refine qf_nil ?_)
        exact hK1 _ _ (hS8_9_18 ⟨lt0, ap0, lt1, ()⟩ _ _ ⟨rfl, rfl, rfl, rfl, rfl, rfl, rfl, rfl, rfl, rfl, rfl, rfl, trivial⟩ (by repeat (first | exact Sp.nil | exact Sp.refl _ | refine Sp.cons (by repeat constructor) ?_)))
      · skip
        refine qx_T [.ow ap0 3 1 (k + 1) (ints (dblL (t.need.take k)) ++ [.int .i64 (2 * t.need[k])]), .ow v2 3 1 k (ints (dblL (t.make.take k))), .ow v3 3 1 k (ints (dblL (t.loss.take k)))] (by repeat (first | exact PickL.nil | (apply PickL.cons; rfl))) rfl (by repeat (first | exact Sp.nil | exact Sp.refl _ | refine Sp.cons (by repeat constructor) ?_)) fun K1 hK1 => ?_
        (refine qf_pure tabOk rfl rfl rfl ?_; refine qf_loadB tabOk rfl rfl rfl (by repeat first | exact .head _ | refine .tail _ ?_) (by rfl) ?_; refine qf_pure tabOk rfl rfl rfl ?_)
        refine qf_index tabOk rfl rfl rfl rfl rfl (by omega) (by omega) ?_
        skip
        refine qf_load1 (v := .int .i64 t.loss[k]) tabOk rfl rfl rfl (fun w hs => RdI.at (hs.rdI (v := .slice (some ⟨g3, 0, none⟩) t.loss.length cu3) (l := t.loss) (by repeat first | exact .head _ | refine .tail _ ?_) rfl) k y3) ?_
        (refine qf_ar tabOk rfl rfl rfl rfl (by omega) (by omega) ?_)
        refine qf_mkS 3 [.int .i64 (2 * t.loss[k])] rfl (by kernel_rfl) rfl (fun lt2 => ?_)
        (refine qf_nil ?_)
        exact hK1 _ _ (hS8_9_28 ⟨lt0, ap0, lt2, ()⟩ _ _ ⟨rfl, rfl, rfl, rfl, rfl, rfl, rfl, rfl, rfl, rfl, rfl, rfl, trivial⟩ (by repeat (first | exact Sp.nil | exact Sp.refl _ | refine Sp.cons (by repeat constructor) ?_)))
    refine qx_let (σ := Nat × Nat × Unit) (.alt (chainT [0, 1, 9] (.alt (chainT [10, 11, 19] (chainT [22, 23, 24, 25, 26, 27, 28] (chainT [20, 21, 29] (chainT [30, 31, 32, 33, 34, 35] .nil)))) (chainT [22, 23, 24, 25, 26, 27, 28] (chainT [10, 11, 19] (chainT [20, 21, 29] (chainT [30, 31, 32, 33, 34, 35] .nil)))))) (chainT [22, 23, 24, 25, 26, 27, 28] (chainT [0, 1, 9] (chainT [10, 11, 19] (chainT [20, 21, 29] (chainT [30, 31, 32, 33, 34, 35] .nil)))))) (fun ⟨lt0, lt1, ()⟩ => [(2, .int .u8 wh), (7, .pointer (some ⟨b7, 0, none⟩)), (8, .pointer (some ⟨b8, 0, none⟩)), (9, .slice sa (hapV x t).stocks.length sc), (11, .pointer (some ⟨b11, 0, none⟩)), (12, .pointer (some ⟨b12, 0, none⟩)), (13, .int .i64 k), (51, .slice (some ⟨g, 0, none⟩) x.days.length cd), (52, .int .i64 x.days.length), (53, .int .i64 k), (99, .slice (some ⟨lt0, 0, none⟩) 1 1), (109, .slice (some ⟨lt1, 0, none⟩) 1 1)]) (fun ⟨lt0, lt1, ()⟩ => [.ow v1 3 1 k (ints (dblL (t.need.take k))), .pt lt0 [.int .i64 (2 * t.need[k])] 3, .ow v2 3 1 k (ints (dblL (t.make.take k))), .pt lt1 [.int .i64 (2 * t.make[k])] 3, .ow v3 3 1 k (ints (dblL (t.loss.take k))), .pt b12 [v1, v2, v3] 107, .pt b8 [.slice (some ⟨g1, 0, none⟩) t.need.length cu1, .slice (some ⟨g2, 0, none⟩) t.make.length cu2, .slice (some ⟨g3, 0, none⟩) t.loss.length cu3] 107, .ow (.slice (some ⟨g1, 0, none⟩) t.need.length cu1) 3 1 t.need.length (ints t.need), .ow (.slice (some ⟨g2, 0, none⟩) t.make.length cu2) 3 1 t.make.length (ints t.make), .ow (.slice (some ⟨g3, 0, none⟩) t.loss.length cu3) 3 1 t.loss.length (ints t.loss), .ow (.slice (some ⟨g, 0, none⟩) x.days.length cd) 73 6 x.days.length (dyC x.days), .pt b7 (wnC x (some ⟨g, 0, none⟩) cd) 61, .ow (.slice sa (hapV x t).stocks.length sc) 3 1 (hapV x t).stocks.length (ints (hapV x t).stocks), .pt b11 [.int .i64 (2 * x.stock), .int .i64 (2 * x.store), .slice da dm dc] 61, .ow (.slice da dm dc) 73 6 (k + 1) (dyC ((x.days.take k).map dblD) ++ dyC [⟨2 * n0, 2 * n1, 2 * m0, 2 * m1, 2 * l0, 2 * l1⟩])]) ?_ (fun hS8_18 => ?_)
    · rintro ⟨lt0, lt1, _⟩
      refine qx_alt ?_ ?_
      · skip
        refine qx_T [.ow v1 3 1 k (ints (dblL (t.need.take k))), .pt lt0 [.int .i64 (2 * t.need[k])] 3, .ow v2 3 1 k (ints (dblL (t.make.take k))), .pt lt1 [.int .i64 (2 * t.make[k])] 3, .ow v3 3 1 k (ints (dblL (t.loss.take k)))] (by repeat (first | exact PickL.nil | (apply PickL.cons; rfl))) rfl (by repeat (first | exact Sp.nil | exact Sp.refl _ | refine Sp.cons (by repeat constructor) ?_)) fun K1 hK1 => ?_
        (refine qf_pure tabOk rfl rfl rfl ?_; refine qf_loadB tabOk rfl rfl rfl (by repeat first | exact .head _ | refine .tail _ ?_) (by rfl) ?_)
        refine qf_append (q := 1) slI rfl rfl rfl (fun v' => by repeat constructor) (fun w' hs => ⟨_, _, Blk.rd (hs.blk (b := lt0) (by repeat first | exact .head _ | refine .tail _ ?_)) rfl 1⟩) (by simp [oneV]) (by omega) (by omega) (fun ap0 => ?_)
        (refine qf_nil ?_)
        exact hK1 _ _ (hS8_9_18 ⟨lt0, ap0, lt1, ()⟩ _ _ ⟨rfl, rfl, rfl, rfl, rfl, rfl, rfl, rfl, rfl, rfl, rfl, rfl, trivial⟩ (by repeat (first | exact Sp.nil | exact Sp.refl _ | refine Sp.cons (by repeat constructor) ?_)))
      · skip
        refine qx_T [.ow v1 3 1 k (ints (dblL (t.need.take k))), .pt lt0 [.int .i64 (2 * t.need[k])] 3, .ow v2 3 1 k (ints (dblL (t.make.take k))), .pt lt1 [.int .i64 (2 * t.make[k])] 3, .ow v3 3 1 k (ints (dblL (t.loss.take k)))] (by repeat (first | exact PickL.nil | (apply PickL.cons; rfl))) rfl (by repeat (first | exact Sp.nil | exact Sp.refl _ | refine Sp.cons (by repeat constructor) ?_)) fun K1 hK1 => ?_
        (refine qf_pure tabOk rfl rfl rfl ?_; refine qf_loadB tabOk rfl rfl rfl (by repeat first | exact .head _ | refine .tail _ ?_) (by rfl) ?_; refine qf_pure tabOk rfl rfl rfl ?_)
        refine qf_index tabOk rfl rfl rfl rfl rfl (by omega) (by omega) ?_
        skip
        refine qf_load1 (v := .int .i64 t.loss[k]) tabOk rfl rfl rfl (fun w hs => RdI.at (hs.rdI (v := .slice (some ⟨g3, 0, none⟩) t.loss.length cu3) (l := t.loss) (by repeat first | exact .head _ | refine .tail _ ?_) rfl) k y3) ?_
        (refine qf_ar tabOk rfl rfl rfl rfl (by omega) (by omega) ?_)
        refine qf_mkS 3 [.int .i64 (2 * t.loss[k])] rfl (by kernel_rfl) rfl (fun lt2 => ?_)
        (refine qf_nil ?_)
        exact hK1 _ _ (hS8_18_28 ⟨lt0, lt1, lt2, ()⟩ _ _ ⟨rfl, rfl, rfl, rfl, rfl, rfl, rfl, rfl, rfl, rfl, rfl, rfl, rfl, trivial⟩ (by repeat (first | exact Sp.nil | exact Sp.refl _ | refine Sp.cons (by repeat constructor) ?_)))
    refine qx_let (σ := Nat × Nat × Unit) (.alt (chainT [0, 1, 9] (chainT [12, 13, 14, 15, 16, 17, 18] (chainT [10, 11, 19] (chainT [20, 21, 29] (chainT [30, 31, 32, 33, 34, 35] .nil))))) (chainT [12, 13, 14, 15, 16, 17, 18] (chainT [0, 1, 9] (chainT [10, 11, 19] (chainT [20, 21, 29] (chainT [30, 31, 32, 33, 34, 35] .nil)))))) (fun ⟨lt0, lt2, ()⟩ => [(2, .int .u8 wh), (7, .pointer (some ⟨b7, 0, none⟩)), (8, .pointer (some ⟨b8, 0, none⟩)), (9, .slice sa (hapV x t).stocks.length sc), (11, .pointer (some ⟨b11, 0, none⟩)), (12, .pointer (some ⟨b12, 0, none⟩)), (13, .int .i64 k), (51, .slice (some ⟨g, 0, none⟩) x.days.length cd), (52, .int .i64 x.days.length), (53, .int .i64 k), (99, .slice (some ⟨lt0, 0, none⟩) 1 1), (119, .slice (some ⟨lt2, 0, none⟩) 1 1)]) (fun ⟨lt0, lt2, ()⟩ => [.ow v1 3 1 k (ints (dblL (t.need.take k))), .pt lt0 [.int .i64 (2 * t.need[k])] 3, .ow v2 3 1 k (ints (dblL (t.make.take k))), .ow v3 3 1 k (ints (dblL (t.loss.take k))), .pt lt2 [.int .i64 (2 * t.loss[k])] 3, .pt b12 [v1, v2, v3] 107, .pt b8 [.slice (some ⟨g1, 0, none⟩) t.need.length cu1, .slice (some ⟨g2, 0, none⟩) t.make.length cu2, .slice (some ⟨g3, 0, none⟩) t.loss.length cu3] 107, .ow (.slice (some ⟨g1, 0, none⟩) t.need.length cu1) 3 1 t.need.length (ints t.need), .ow (.slice (some ⟨g2, 0, none⟩) t.make.length cu2) 3 1 t.make.length (ints t.make), .ow (.slice (some ⟨g3, 0, none⟩) t.loss.length cu3) 3 1 t.loss.length (ints t.loss), .ow (.slice (some ⟨g, 0, none⟩) x.days.length cd) 73 6 x.days.length (dyC x.days), .pt b7 (wnC x (some ⟨g, 0, none⟩) cd) 61, .ow (.slice sa (hapV x t).stocks.length sc) 3 1 (hapV x t).stocks.length (ints (hapV x t).stocks), .pt b11 [.int .i64 (2 * x.stock), .int .i64 (2 * x.store), .slice da dm dc] 61, .ow (.slice da dm dc) 73 6 (k + 1) (dyC ((x.days.take k).map dblD) ++ dyC [⟨2 * n0, 2 * n1, 2 * m0, 2 * m1, 2 * l0, 2 * l1⟩])]) ?_ (fun hS8_28 => ?_)
    · rintro ⟨lt0, lt2, _⟩
      refine qx_alt ?_ ?_
      · skip
        refine qx_T [.ow v1 3 1 k (ints (dblL (t.need.take k))), .pt lt0 [.int .i64 (2 * t.need[k])] 3, .ow v2 3 1 k (ints (dblL (t.make.take k))), .ow v3 3 1 k (ints (dblL (t.loss.take k))), .pt lt2 [.int .i64 (2 * t.loss[k])] 3] (by repeat (first | exact PickL.nil | (apply PickL.cons; rfl))) rfl (by repeat (first | exact Sp.nil | exact Sp.refl _ | refine Sp.cons (by repeat constructor) ?_)) fun K1 hK1 => ?_
        (refine qf_pure tabOk rfl rfl rfl ?_; refine qf_loadB tabOk rfl rfl rfl (by repeat first | exact .head _ | refine .tail _ ?_) (by rfl) ?_)
        refine qf_append (q := 1) slI rfl rfl rfl (fun v' => by repeat constructor) (fun w' hs => ⟨_, _, Blk.rd (hs.blk (b := lt0) (by repeat first | exact .head _ | refine .tail _ ?_)) rfl 1⟩) (by simp [oneV]) (by omega) (by omega) (fun ap0 => ?_)
        (refine qf_nil ?_)
        exact hK1 _ _ (hS8_9_28 ⟨lt0, ap0, lt2, ()⟩ _ _ ⟨rfl, rfl, rfl, rfl, rfl, rfl, rfl, rfl, rfl, rfl, rfl, rfl, trivial⟩ (by repeat (first | exact Sp.nil | exact Sp.refl _ | refine Sp.cons (by repeat constructor) ?_)))
      · skip
        refine qx_T [.ow v1 3 1 k (ints (dblL (t.need.take k))), .pt lt0 [.int .i64 (2 * t.need[k])] 3, .ow v2 3 1 k (ints (dblL (t.make.take k))), .ow v3 3 1 k (ints (dblL (t.loss.take k))), .pt lt2 [.int .i64 (2 * t.loss[k])] 3] (by repeat (first | exact PickL.nil | (apply PickL.cons; rfl))) rfl (by repeat (first | exact Sp.nil | exact Sp.refl _ | refine Sp.cons (by repeat constructor) ?_)) fun K1 hK1 => ?_
        (refine qf_pure tabOk rfl rfl rfl ?_; refine qf_loadB tabOk rfl rfl rfl (by repeat first | exact .head _ | refine .tail _ ?_) (by rfl) ?_; refine qf_pure tabOk rfl rfl rfl ?_)
        refine qf_index tabOk rfl rfl rfl rfl rfl (by omega) (by omega) ?_
        skip
        refine qf_load1 (v := .int .i64 t.make[k]) tabOk rfl rfl rfl (fun w hs => RdI.at (hs.rdI (v := .slice (some ⟨g2, 0, none⟩) t.make.length cu2) (l := t.make) (by repeat first | exact .head _ | refine .tail _ ?_) rfl) k y2) ?_
        (refine qf_ar tabOk rfl rfl rfl rfl (by omega) (by omega) ?_)
        refine qf_mkS 3 [.int .i64 (2 * t.make[k])] rfl (by kernel_rfl) rfl (fun lt1 => ?_)
        (refine qf_nil ?_)
        exact hK1 _ _ (hS8_18_28 ⟨lt0, lt1, lt2, ()⟩ _ _ ⟨rfl, rfl, rfl, rfl, rfl, rfl, rfl, rfl, rfl, rfl, rfl, rfl, rfl, trivial⟩ (by repeat (first | exact Sp.nil | exact Sp.refl _ | refine Sp.cons (by repeat constructor) ?_)))
    refine qx_let (σ := Nat × Nat × Unit) (chainT [2, 3, 4, 5, 6, 7, 8] (chainT [0, 1, 9] (chainT [10, 11, 19] (chainT [20, 21, 29] (chainT [30, 31, 32, 33, 34, 35] .nil))))) (fun ⟨lt1, lt2, ()⟩ => [(2, .int .u8 wh), (7, .pointer (some ⟨b7, 0, none⟩)), (8, .pointer (some ⟨b8, 0, none⟩)), (9, .slice sa (hapV x t).stocks.length sc), (11, .pointer (some ⟨b11, 0, none⟩)), (12, .pointer (some ⟨b12, 0, none⟩)), (13, .int .i64 k), (51, .slice (some ⟨g, 0, none⟩) x.days.length cd), (52, .int .i64 x.days.length), (53, .int .i64 k), (109, .slice (some ⟨lt1, 0, none⟩) 1 1), (119, .slice (some ⟨lt2, 0, none⟩) 1 1)]) (fun ⟨lt1, lt2, ()⟩ => [.ow v1 3 1 k (ints (dblL (t.need.take k))), .ow v2 3 1 k (ints (dblL (t.make.take k))), .pt lt1 [.int .i64 (2 * t.make[k])] 3, .ow v3 3 1 k (ints (dblL (t.loss.take k))), .pt lt2 [.int .i64 (2 * t.loss[k])] 3, .pt b12 [v1, v2, v3] 107, .pt b8 [.slice (some ⟨g1, 0, none⟩) t.need.length cu1, .slice (some ⟨g2, 0, none⟩) t.make.length cu2, .slice (some ⟨g3, 0, none⟩) t.loss.length cu3] 107, .ow (.slice (some ⟨g1, 0, none⟩) t.need.length cu1) 3 1 t.need.length (ints t.need), .ow (.slice (some ⟨g2, 0, none⟩) t.make.length cu2) 3 1 t.make.length (ints t.make), .ow (.slice (some ⟨g3, 0, none⟩) t.loss.length cu3) 3 1 t.loss.length (ints t.loss), .ow (.slice (some ⟨g, 0, none⟩) x.days.length cd) 73 6 x.days.length (dyC x.days), .pt b7 (wnC x (some ⟨g, 0, none⟩) cd) 61, .ow (.slice sa (hapV x t).stocks.length sc) 3 1 (hapV x t).stocks.length (ints (hapV x t).stocks), .pt b11 [.int .i64 (2 * x.stock), .int .i64 (2 * x.store), .slice da dm dc] 61, .ow (.slice da dm dc) 73 6 (k + 1) (dyC ((x.days.take k).map dblD) ++ dyC [⟨2 * n0, 2 * n1, 2 * m0, 2 * m1, 2 * l0, 2 * l1⟩])]) ?_ (fun hS18_28 => ?_)
    · rintro ⟨lt1, lt2, _⟩
      refine qx_T [.ow v1 3 1 k (ints (dblL (t.need.take k))), .ow v2 3 1 k (ints (dblL (t.make.take k))), .pt lt1 [.int .i64 (2 * t.make[k])] 3, .ow v3 3 1 k (ints (dblL (t.loss.take k))), .pt lt2 [.int .i64 (2 * t.loss[k])] 3] (by repeat (first | exact PickL.nil | (apply PickL.cons; rfl))) rfl (by repeat (first | exact Sp.nil | exact Sp.refl _ | refine Sp.cons (by repeat constructor) ?_)) fun K1 hK1 => ?_
      (refine qf_pure tabOk rfl rfl rfl ?_; refine qf_loadB tabOk rfl rfl rfl (by repeat first | exact .head _ | refine .tail _ ?_) (by rfl) ?_; refine qf_pure tabOk rfl rfl rfl ?_)
      refine qf_index tabOk rfl rfl rfl rfl rfl (by omega) (by omega) ?_
      skip
      refine qf_load1 (v := .int .i64 t.need[k]) tabOk rfl rfl rfl (fun w hs => RdI.at (hs.rdI (v := .slice (some ⟨g1, 0, none⟩) t.need.length cu1) (l := t.need) (by repeat first | exact .head _ | refine .tail _ ?_) rfl) k y1) ?_
      (refine qf_ar tabOk rfl rfl rfl rfl (by omega) (by omega) ?_)
      refine qf_mkS 3 [.int .i64 (2 * t.need[k])] rfl (by kernel_rfl) rfl (fun lt0 => ?_)
      (refine qf_nil ?_)
      exact hK1 _ _ (hS8_18_28 ⟨lt0, lt1, lt2, ()⟩ _ _ ⟨rfl, rfl, rfl, rfl, rfl, rfl, rfl, rfl, rfl, rfl, rfl, rfl, rfl, trivial⟩ (by repeat (first | exact Sp.nil | exact Sp.refl _ | refine Sp.cons (by repeat constructor) ?_)))
    refine qx_let (σ := Nat × Unit) (.alt (chainT [0, 1, 9] (.alt (chainT [12, 13, 14, 15, 16, 17, 18] (.alt (chainT [10, 11, 19] (chainT [22, 23, 24, 25, 26, 27, 28] (chainT [20, 21, 29] (chainT [30, 31, 32, 33, 34, 35] .nil)))) (chainT [22, 23, 24, 25, 26, 27, 28] (chainT [10, 11, 19] (chainT [20, 21, 29] (chainT [30, 31, 32, 33, 34, 35] .nil)))))) (chainT [22, 23, 24, 25, 26, 27, 28] (chainT [12, 13, 14, 15, 16, 17, 18] (chainT [10, 11, 19] (chainT [20, 21, 29] (chainT [30, 31, 32, 33, 34, 35] .nil))))))) (.alt (chainT [12, 13, 14, 15, 16, 17, 18] (.alt (chainT [0, 1, 9] (.alt (chainT [10, 11, 19] (chainT [22, 23, 24, 25, 26, 27, 28] (chainT [20, 21, 29] (chainT [30, 31, 32, 33, 34, 35] .nil)))) (chainT [22, 23, 24, 25, 26, 27, 28] (chainT [10, 11, 19] (chainT [20, 21, 29] (chainT [30, 31, 32, 33, 34, 35] .nil)))))) (chainT [22, 23, 24, 25, 26, 27, 28] (chainT [0, 1, 9] (chainT [10, 11, 19] (chainT [20, 21, 29] (chainT [30, 31, 32, 33, 34, 35] .nil))))))) (chainT [22, 23, 24, 25, 26, 27, 28] (.alt (chainT [0, 1, 9] (chainT [12, 13, 14, 15, 16, 17, 18] (chainT [10, 11, 19] (chainT [20, 21, 29] (chainT [30, 31, 32, 33, 34, 35] .nil))))) (chainT [12, 13, 14, 15, 16, 17, 18] (chainT [0, 1, 9] (chainT [10, 11, 19] (chainT [20, 21, 29] (chainT [30, 31, 32, 33, 34, 35] .nil))))))))) (fun ⟨lt0, ()⟩ => [(2, .int .u8 wh), (7, .pointer (some ⟨b7, 0, none⟩)), (8, .pointer (some ⟨b8, 0, none⟩)), (9, .slice sa (hapV x t).stocks.length sc), (11, .pointer (some ⟨b11, 0, none⟩)), (12, .pointer (some ⟨b12, 0, none⟩)), (13, .int .i64 k), (51, .slice (some ⟨g, 0, none⟩) x.days.length cd), (52, .int .i64 x.days.length), (53, .int .i64 k), (99, .slice (some ⟨lt0, 0, none⟩) 1 1)]) (fun ⟨lt0, ()⟩ => [.ow v1 3 1 k (ints (dblL (t.need.take k))), .pt lt0 [.int .i64 (2 * t.need[k])] 3, .ow v2 3 1 k (ints (dblL (t.make.take k))), .ow v3 3 1 k (ints (dblL (t.loss.take k))), .pt b12 [v1, v2, v3] 107, .pt b8 [.slice (some ⟨g1, 0, none⟩) t.need.length cu1, .slice (some ⟨g2, 0, none⟩) t.make.length cu2, .slice (some ⟨g3, 0, none⟩) t.loss.length cu3] 107, .ow (.slice (some ⟨g1, 0, none⟩) t.need.length cu1) 3 1 t.need.length (ints t.need), .ow (.slice (some ⟨g2, 0, none⟩) t.make.length cu2) 3 1 t.make.length (ints t.make), .ow (.slice (some ⟨g3, 0, none⟩) t.loss.length cu3) 3 1 t.loss.length (ints t.loss), .ow (.slice (some ⟨g, 0, none⟩) x.days.length cd) 73 6 x.days.length (dyC x.days), .pt b7 (wnC x (some ⟨g, 0, none⟩) cd) 61, .ow (.slice sa (hapV x t).stocks.length sc) 3 1 (hapV x t).stocks.length (ints (hapV x t).stocks), .pt b11 [.int .i64 (2 * x.stock), .int .i64 (2 * x.store), .slice da dm dc] 61, .ow (.slice da dm dc) 73 6 (k + 1) (dyC ((x.days.take k).map dblD) ++ dyC [⟨2 * n0, 2 * n1, 2 * m0, 2 * m1, 2 * l0, 2 * l1⟩])]) ?_ (fun hS8 => ?_)
    · rintro ⟨lt0, _⟩
      refine qx_alt ?_ (qx_alt ?_ ?_)
      · skip
        refine qx_T [.ow v1 3 1 k (ints (dblL (t.need.take k))), .pt lt0 [.int .i64 (2 * t.need[k])] 3, .ow v2 3 1 k (ints (dblL (t.make.take k))), .ow v3 3 1 k (ints (dblL (t.loss.take k)))] (by repeat (first | exact PickL.nil | (apply PickL.cons; rfl))) rfl (by repeat (first | exact Sp.nil | exact Sp.refl _ | refine Sp.cons (by repeat constructor) ?_)) fun K1 hK1 => ?_
        (refine qf_pure tabOk rfl rfl rfl ?_; refine qf_loadB tabOk rfl rfl rfl (by repeat first | exact .head _ | refine .tail _ ?_) (by rfl) ?_)
        refine qf_append (q := 1) slI rfl rfl rfl (fun v' => by repeat constructor) (fun w' hs => ⟨_, _, Blk.rd (hs.blk (b := lt0) (by repeat first | exact .head _ | refine .tail _ ?_)) rfl 1⟩) (by simp [oneV]) (by omega) (by omega) (fun ap0 => ?_)
        (refine qf_nil ?_)
        exact hK1 _ _ (hS8_9 ⟨lt0, ap0, ()⟩ _ _ ⟨rfl, rfl, rfl, rfl, rfl, rfl, rfl, rfl, rfl, rfl, rfl, trivial⟩ (by repeat (first | exact Sp.nil | exact Sp.refl _ | refine Sp.cons (by repeat constructor) ?_)))
      · skip
        refine qx_T [.ow v1 3 1 k (ints (dblL (t.need.take k))), .pt lt0 [.int .i64 (2 * t.need[k])] 3, .ow v2 3 1 k (ints (dblL (t.make.take k))), .ow v3 3 1 k (ints (dblL (t.loss.take k)))] (by repeat (first | exact PickL.nil | (apply PickL.cons; rfl))) rfl (by repeat (first | exact Sp.nil | exact Sp.refl _ | refine Sp.cons (by repeat constructor) ?_)) fun K1 hK1 => ?_
        (refine qf_pure tabOk rfl rfl rfl ?_; refine qf_loadB tabOk rfl rfl rfl (by repeat first | exact .head _ | refine .tail _ ?_) (by rfl) ?_; refine qf_pure tabOk rfl rfl rfl ?_)
        refine qf_index tabOk rfl rfl rfl rfl rfl (by omega) (by omega) ?_
        skip
        refine qf_load1 (v := .int .i64 t.make[k]) tabOk rfl rfl rfl (fun w hs => RdI.at (hs.rdI (v := .slice (some ⟨g2, 0, none⟩) t.make.length cu2) (l := t.make) (by repeat first | exact .head _ | refine .tail _ ?_) rfl) k y2) ?_
        (refine qf_ar tabOk rfl rfl rfl rfl (by omega) (by omega) ?_)
        refine qf_mkS 3 [.int .i64 (2 * t.make[k])] rfl (by kernel_rfl) rfl (fun lt1 => ?_)
        (refine qf_nil ?_)
        exact hK1 _ _ (hS8_18 ⟨lt0, lt1, ()⟩ _ _ ⟨rfl, rfl, rfl, rfl, rfl, rfl, rfl, rfl, rfl, rfl, rfl, rfl, trivial⟩ (by repeat (first | exact Sp.nil | exact Sp.refl _ | refine Sp.cons (by repeat constructor) ?_)))
      · skip
        refine qx_T [.ow v1 3 1 k (ints (dblL (t.need.take k))), .pt lt0 [.int .i64 (2 * t.need[k])] 3, .ow v2 3 1 k (ints (dblL (t.make.take k))), .ow v3 3 1 k (ints (dblL (t.loss.take k)))] (by repeat (first | exact PickL.nil | (apply PickL.cons; rfl))) rfl (by repeat (first | exact Sp.nil | exact Sp.refl _ | refine Sp.cons (by repeat constructor) ?_)) fun K1 hK1 => ?_
        (refine qf_pure tabOk rfl rfl rfl ?_; refine qf_loadB tabOk rfl rfl rfl (by repeat first | exact .head _ | refine .tail _ ?_) (by rfl) ?_; refine qf_pure tabOk rfl rfl rfl ?_)
        refine qf_index tabOk rfl rfl rfl rfl rfl (by omega) (by omega) ?_
        skip
        refine qf_load1 (v := .int .i64 t.loss[k]) tabOk rfl rfl rfl (fun w hs => RdI.at (hs.rdI (v := .slice (some ⟨g3, 0, none⟩) t.loss.length cu3) (l := t.loss) (by repeat first | exact .head _ | refine .tail _ ?_) rfl) k y3) ?_
        (refine qf_ar tabOk rfl rfl rfl rfl (by omega) (by omega) ?_)
        refine qf_mkS 3 [.int .i64 (2 * t.loss[k])] rfl (by kernel_rfl) rfl (fun lt2 => ?_)
        (refine qf_nil ?_)
        exact hK1 _ _ (hS8_28 ⟨lt0, lt2, ()⟩ _ _ ⟨rfl, rfl, rfl, rfl, rfl, rfl, rfl, rfl, rfl, rfl, rfl, rfl, trivial⟩ (by repeat (first | exact Sp.nil | exact Sp.refl _ | refine Sp.cons (by repeat constructor) ?_)))
    refine qx_let (σ := Nat × Unit) (.alt (chainT [2, 3, 4, 5, 6, 7, 8] (.alt (chainT [0, 1, 9] (.alt (chainT [10, 11, 19] (chainT [22, 23, 24, 25, 26, 27, 28] (chainT [20, 21, 29] (chainT [30, 31, 32, 33, 34, 35] .nil)))) (chainT [22, 23, 24, 25, 26, 27, 28] (chainT [10, 11, 19] (chainT [20, 21, 29] (chainT [30, 31, 32, 33, 34, 35] .nil)))))) (chainT [22, 23, 24, 25, 26, 27, 28] (chainT [0, 1, 9] (chainT [10, 11, 19] (chainT [20, 21, 29] (chainT [30, 31, 32, 33, 34, 35] .nil))))))) (chainT [22, 23, 24, 25, 26, 27, 28] (chainT [2, 3, 4, 5, 6, 7, 8] (chainT [0, 1, 9] (chainT [10, 11, 19] (chainT [20, 21, 29] (chainT [30, 31, 32, 33, 34, 35] .nil))))))) (fun ⟨lt1, ()⟩ => [(2, .int .u8 wh), (7, .pointer (some ⟨b7, 0, none⟩)), (8, .pointer (some ⟨b8, 0, none⟩)), (9, .slice sa (hapV x t).stocks.length sc), (11, .pointer (some ⟨b11, 0, none⟩)), (12, .pointer (some ⟨b12, 0, none⟩)), (13, .int .i64 k), (51, .slice (some ⟨g, 0, none⟩) x.days.length cd), (52, .int .i64 x.days.length), (53, .int .i64 k), (109, .slice (some ⟨lt1, 0, none⟩) 1 1)]) (fun ⟨lt1, ()⟩ => [.ow v1 3 1 k (ints (dblL (t.need.take k))), .ow v2 3 1 k (ints (dblL (t.make.take k))), .pt lt1 [.int .i64 (2 * t.make[k])] 3, .ow v3 3 1 k (ints (dblL (t.loss.take k))), .pt b12 [v1, v2, v3] 107, .pt b8 [.slice (some ⟨g1, 0, none⟩) t.need.length cu1, .slice (some ⟨g2, 0, none⟩) t.make.length cu2, .slice (some ⟨g3, 0, none⟩) t.loss.length cu3] 107, .ow (.slice (some ⟨g1, 0, none⟩) t.need.length cu1) 3 1 t.need.length (ints t.need), .ow (.slice (some ⟨g2, 0, none⟩) t.make.length cu2) 3 1 t.make.length (ints t.make), .ow (.slice (some ⟨g3, 0, none⟩) t.loss.length cu3) 3 1 t.loss.length (ints t.loss), .ow (.slice (some ⟨g, 0, none⟩) x.days.length cd) 73 6 x.days.length (dyC x.days), .pt b7 (wnC x (some ⟨g, 0, none⟩) cd) 61, .ow (.slice sa (hapV x t).stocks.length sc) 3 1 (hapV x t).stocks.length (ints (hapV x t).stocks), .pt b11 [.int .i64 (2 * x.stock), .int .i64 (2 * x.store), .slice da dm dc] 61, .ow (.slice da dm dc) 73 6 (k + 1) (dyC ((x.days.take k).map dblD) ++ dyC [⟨2 * n0, 2 * n1, 2 * m0, 2 * m1, 2 * l0, 2 * l1⟩])]) ?_ (fun hS18 => ?_)
    · rintro ⟨lt1, _⟩
      refine qx_alt ?_ ?_
      · skip
        refine qx_T [.ow v1 3 1 k (ints (dblL (t.need.take k))), .ow v2 3 1 k (ints (dblL (t.make.take k))), .pt lt1 [.int .i64 (2 * t.make[k])] 3, .ow v3 3 1 k (ints (dblL (t.loss.take k)))] (by repeat (first | exact PickL.nil | (apply PickL.cons; rfl))) rfl (by repeat (first | exact Sp.nil | exact Sp.refl _ | refine Sp.cons (by repeat constructor) ?_)) fun K1 hK1 => ?_
        (refine qf_pure tabOk rfl rfl rfl ?_; refine qf_loadB tabOk rfl rfl rfl (by repeat first | exact .head _ | refine .tail _ ?_) (by rfl) ?_; refine qf_pure tabOk rfl rfl rfl ?_)
        refine qf_index tabOk rfl rfl rfl rfl rfl (by omega) (by omega) ?_
        skip
        refine qf_load1 (v := .int .i64 t.need[k]) tabOk rfl rfl rfl (fun w hs => RdI.at (hs.rdI (v := .slice (some ⟨g1, 0, none⟩) t.need.length cu1) (l := t.need) (by repeat first | exact .head _ | refine .tail _ ?_) rfl) k y1) ?_
        (refine qf_ar tabOk rfl rfl rfl rfl (by omega) (by omega) ?_)
        refine qf_mkS 3 [.int .i64 (2 * t.need[k])] rfl (by kernel_rfl) rfl (fun lt0 => ?_)
        (refine qf_nil ?_)
        exact hK1 _ _ (hS8_18 ⟨lt0, lt1, ()⟩ _ _ ⟨rfl, rfl, rfl, rfl, rfl, rfl, rfl, rfl, rfl, rfl, rfl, rfl, trivial⟩ (by repeat (first | exact Sp.nil | exact Sp.refl _ | refine Sp.cons (by repeat constructor) ?_)))
      · skip
        refine qx_T [.ow v1 3 1 k (ints (dblL (t.need.take k))), .ow v2 3 1 k (ints (dblL (t.make.take k))), .pt lt1 [.int .i64 (2 * t.make[k])] 3, .ow v3 3 1 k (ints (dblL (t.loss.take k)))] (by repeat (first | exact PickL.nil | (apply PickL.cons; rfl))) rfl (by repeat (first | exact Sp.nil | exact Sp.refl _ | refine Sp.cons (by repeat constructor) ?_)) fun K1 hK1 => ?_
        (refine qf_pure tabOk rfl rfl rfl ?_; refine qf_loadB tabOk rfl rfl rfl (by repeat first | exact .head _ | refine .tail _ ?_) (by rfl) ?_; refine qf_pure tabOk rfl rfl rfl ?_)
        refine qf_index tabOk rfl rfl rfl rfl rfl (by omega) (by omega) ?_
        skip
        refine qf_load1 (v := .int .i64 t.loss[k]) tabOk rfl rfl rfl (fun w hs => RdI.at (hs.rdI (v := .slice (some ⟨g3, 0, none⟩) t.loss.length cu3) (l := t.loss) (by repeat first | exact .head _ | refine .tail _ ?_) rfl) k y3) ?_
        (refine qf_ar tabOk rfl rfl rfl rfl (by omega) (by omega) ?_)
        refine qf_mkS 3 [.int .i64 (2 * t.loss[k])] rfl (by kernel_rfl) rfl (fun lt2 => ?_)
        (refine qf_nil ?_)
        exact hK1 _ _ (hS18_28 ⟨lt1, lt2, ()⟩ _ _ ⟨rfl, rfl, rfl, rfl, rfl, rfl, rfl, rfl, rfl, rfl, rfl, rfl, trivial⟩ (by repeat (first | exact Sp.nil | exact Sp.refl _ | refine Sp.cons (by repeat constructor) ?_)))
    refine qx_let (σ := Nat × Unit) (.alt (chainT [2, 3, 4, 5, 6, 7, 8] (.alt (chainT [0, 1, 9] (chainT [12, 13, 14, 15, 16, 17, 18] (chainT [10, 11, 19] (chainT [20, 21, 29] (chainT [30, 31, 32, 33, 34, 35] .nil))))) (chainT [12, 13, 14, 15, 16, 17, 18] (chainT [0, 1, 9] (chainT [10, 11, 19] (chainT [20, 21, 29] (chainT [30, 31, 32, 33, 34, 35] .nil))))))) (chainT [12, 13, 14, 15, 16, 17, 18] (chainT [2, 3, 4, 5, 6, 7, 8] (chainT [0, 1, 9] (chainT [10, 11, 19] (chainT [20, 21, 29] (chainT [30, 31, 32, 33, 34, 35] .nil))))))) (fun ⟨lt2, ()⟩ => [(2, .int .u8 wh), (7, .pointer (some ⟨b7, 0, none⟩)), (8, .pointer (some ⟨b8, 0, none⟩)), (9, .slice sa (hapV x t).stocks.length sc), (11, .pointer (some ⟨b11, 0, none⟩)), (12, .pointer (some ⟨b12, 0, none⟩)), (13, .int .i64 k), (51, .slice (some ⟨g, 0, none⟩) x.days.length cd), (52, .int .i64 x.days.length), (53, .int .i64 k), (119, .slice (some ⟨lt2, 0, none⟩) 1 1)]) (fun ⟨lt2, ()⟩ => [.ow v1 3 1 k (ints (dblL (t.need.take k))), .ow v2 3 1 k (ints (dblL (t.make.take k))), .ow v3 3 1 k (ints (dblL (t.loss.take k))), .pt lt2 [.int .i64 (2 * t.loss[k])] 3, .pt b12 [v1, v2, v3] 107, .pt b8 [.slice (some ⟨g1, 0, none⟩) t.need.length cu1, .slice (some ⟨g2, 0, none⟩) t.make.length cu2, .slice (some ⟨g3, 0, none⟩) t.loss.length cu3] 107, .ow (.slice (some ⟨g1, 0, none⟩) t.need.length cu1) 3 1 t.need.length (ints t.need), .ow (.slice (some ⟨g2, 0, none⟩) t.make.length cu2) 3 1 t.make.length (ints t.make), .ow (.slice (some ⟨g3, 0, none⟩) t.loss.length cu3) 3 1 t.loss.length (ints t.loss), .ow (.slice (some ⟨g, 0, none⟩) x.days.length cd) 73 6 x.days.length (dyC x.days), .pt b7 (wnC x (some ⟨g, 0, none⟩) cd) 61, .ow (.slice sa (hapV x t).stocks.length sc) 3 1 (hapV x t).stocks.length (ints (hapV x t).stocks), .pt b11 [.int .i64 (2 * x.stock), .int .i64 (2 * x.store), .slice da dm dc] 61, .ow (.slice da dm dc) 73 6 (k + 1) (dyC ((x.days.take k).map dblD) ++ dyC [⟨2 * n0, 2 * n1, 2 * m0, 2 * m1, 2 * l0, 2 * l1⟩])]) ?_ (fun hS28 => ?_)
    · rintro ⟨lt2, _⟩
      refine qx_alt ?_ ?_
      · skip
        refine qx_T [.ow v1 3 1 k (ints (dblL (t.need.take k))), .ow v2 3 1 k (ints (dblL (t.make.take k))), .ow v3 3 1 k (ints (dblL (t.loss.take k))), .pt lt2 [.int .i64 (2 * t.loss[k])] 3] (by repeat (first | exact PickL.nil | (apply PickL.cons; rfl))) rfl (by repeat (first | exact Sp.nil | exact Sp.refl _ | refine Sp.cons (by repeat constructor) ?_)) fun K1 hK1 => ?_
        (refine qf_pure tabOk rfl rfl rfl ?_; refine qf_loadB tabOk rfl rfl rfl (by repeat first | exact .head _ | refine .tail _ ?_) (by rfl) ?_; refine qf_pure tabOk rfl rfl rfl ?_)
        refine qf_index tabOk rfl rfl rfl rfl rfl (by omega) (by omega) ?_
        skip
        refine qf_load1 (v := .int .i64 t.need[k]) tabOk rfl rfl rfl (fun w hs => RdI.at (hs.rdI (v := .slice (some ⟨g1, 0, none⟩) t.need.length cu1) (l := t.need) (by repeat first | exact .head _ | refine .tail _ ?_) rfl) k y1) ?_
        (refine qf_ar tabOk rfl rfl rfl rfl (by omega) (by omega) ?_)
        refine qf_mkS 3 [.int .i64 (2 * t.need[k])] rfl (by kernel_rfl) rfl (fun lt0 => ?_)
        (refine qf_nil ?_)
        exact hK1 _ _ (hS8_28 ⟨lt0, lt2, ()⟩ _ _ ⟨rfl, rfl, rfl, rfl, rfl, rfl, rfl, rfl, rfl, rfl, rfl, rfl, trivial⟩ (by repeat (first | exact Sp.nil | exact Sp.refl _ | refine Sp.cons (by repeat constructor) ?_)))
      · skip
        refine qx_T [.ow v1 3 1 k (ints (dblL (t.need.take k))), .ow v2 3 1 k (ints (dblL (t.make.take k))), .ow v3 3 1 k (ints (dblL (t.loss.take k))), .pt lt2 [.int .i64 (2 * t.loss[k])] 3] (by repeat (first | exact PickL.nil | (apply PickL.cons; rfl))) rfl (by repeat (first | exact Sp.nil | exact Sp.refl _ | refine Sp.cons (by repeat constructor) ?_)) fun K1 hK1 => ?_
        (refine qf_pure tabOk rfl rfl rfl ?_; refine qf_loadB tabOk rfl rfl rfl (by repeat first | exact .head _ | refine .tail _ ?_) (by rfl) ?_; refine qf_pure tabOk rfl rfl rfl ?_)
        refine qf_index tabOk rfl rfl rfl rfl rfl (by omega) (by omega) ?_
        skip
        refine qf_load1 (v := .int .i64 t.make[k]) tabOk rfl rfl rfl (fun w hs => RdI.at (hs.rdI (v := .slice (some ⟨g2, 0, none⟩) t.make.length cu2) (l := t.make) (by repeat first | exact .head _ | refine .tail _ ?_) rfl) k y2) ?_
        (refine qf_ar tabOk rfl rfl rfl rfl (by omega) (by omega) ?_)
        refine qf_mkS 3 [.int .i64 (2 * t.make[k])] rfl (by kernel_rfl) rfl (fun lt1 => ?_)
        (refine qf_nil ?_)
        exact hK1 _ _ (hS18_28 ⟨lt1, lt2, ()⟩ _ _ ⟨rfl, rfl, rfl, rfl, rfl, rfl, rfl, rfl, rfl, rfl, rfl, rfl, trivial⟩ (by repeat (first | exact Sp.nil | exact Sp.refl _ | refine Sp.cons (by repeat constructor) ?_)))
    refine qx_alt ?_ (qx_alt ?_ ?_)
    · skip
      refine qx_T [.ow v1 3 1 k (ints (dblL (t.need.take k))), .ow v2 3 1 k (ints (dblL (t.make.take k))), .ow v3 3 1 k (ints (dblL (t.loss.take k)))] (by repeat (first | exact PickL.nil | (apply PickL.cons; rfl))) rfl (by repeat (first | exact Sp.nil | exact Sp.refl _ | refine Sp.cons (by repeat constructor) ?_)) fun K1 hK1 => ?_
      (refine qf_pure tabOk rfl rfl rfl ?_; refine qf_loadB tabOk rfl rfl rfl (by repeat first | exact .head _ | refine .tail _ ?_) (by rfl) ?_; refine qf_pure tabOk rfl rfl rfl ?_)
      refine qf_index tabOk rfl rfl rfl rfl rfl (by omega) (by omega) ?_
      skip
      refine qf_load1 (v := .int .i64 t.need[k]) tabOk rfl rfl rfl (fun w hs => RdI.at (hs.rdI (v := .slice (some ⟨g1, 0, none⟩) t.need.length cu1) (l := t.need) (by repeat first | exact .head _ | refine .tail _ ?_) rfl) k y1) ?_
      (refine qf_ar tabOk rfl rfl rfl rfl (by omega) (by omega) ?_)
      refine qf_mkS 3 [.int .i64 (2 * t.need[k])] rfl (by kernel_rfl) rfl (fun lt0 => ?_)
      (refine qf_nil ?_)
      exact hK1 _ _ (hS8 ⟨lt0, ()⟩ _ _ ⟨rfl, rfl, rfl, rfl, rfl, rfl, rfl, rfl, rfl, rfl, rfl, trivial⟩ (by repeat (first | exact Sp.nil | exact Sp.refl _ | refine Sp.cons (by repeat constructor) ?_)))
    · skip
      refine qx_T [.ow v1 3 1 k (ints (dblL (t.need.take k))), .ow v2 3 1 k (ints (dblL (t.make.take k))), .ow v3 3 1 k (ints (dblL (t.loss.take k)))] (by repeat (first | exact PickL.nil | (apply PickL.cons; rfl))) rfl (by repeat (first | exact Sp.nil | exact Sp.refl _ | refine Sp.cons (by repeat constructor) ?_)) fun K1 hK1 => ?_
      (refine qf_pure tabOk rfl rfl rfl ?_; refine qf_loadB tabOk rfl rfl rfl (by repeat first | exact .head _ | refine .tail _ ?_) (by rfl) ?_; refine qf_pure tabOk rfl rfl rfl ?_)
      refine qf_index tabOk rfl rfl rfl rfl rfl (by omega) (by omega) ?_
      skip
      refine qf_load1 (v := .int .i64 t.make[k]) tabOk rfl rfl rfl (fun w hs => RdI.at (hs.rdI (v := .slice (some ⟨g2, 0, none⟩) t.make.length cu2) (l := t.make) (by repeat first | exact .head _ | refine .tail _ ?_) rfl) k y2) ?_
      (refine qf_ar tabOk rfl rfl rfl rfl (by omega) (by omega) ?_)
      refine qf_mkS 3 [.int .i64 (2 * t.make[k])] rfl (by kernel_rfl) rfl (fun lt1 => ?_)
      (refine qf_nil ?_)
      exact hK1 _ _ (hS18 ⟨lt1, ()⟩ _ _ ⟨rfl, rfl, rfl, rfl, rfl, rfl, rfl, rfl, rfl, rfl, rfl, trivial⟩ (by repeat (first | exact Sp.nil | exact Sp.refl _ | refine Sp.cons (by repeat constructor) ?_)))
    · skip
      refine qx_T [.ow v1 3 1 k (ints (dblL (t.need.take k))), .ow v2 3 1 k (ints (dblL (t.make.take k))), .ow v3 3 1 k (ints (dblL (t.loss.take k)))] (by repeat (first | exact PickL.nil | (apply PickL.cons; rfl))) rfl (by repeat (first | exact Sp.nil | exact Sp.refl _ | refine Sp.cons (by repeat constructor) ?_)) fun K1 hK1 => ?_
      (refine qf_pure tabOk rfl rfl rfl ?_; refine qf_loadB tabOk rfl rfl rfl (by repeat first | exact .head _ | refine .tail _ ?_) (by rfl) ?_; refine qf_pure tabOk rfl rfl rfl ?_)
      refine qf_index tabOk rfl rfl rfl rfl rfl (by omega) (by omega) ?_
      skip
      refine qf_load1 (v := .int .i64 t.loss[k]) tabOk rfl rfl rfl (fun w hs => RdI.at (hs.rdI (v := .slice (some ⟨g3, 0, none⟩) t.loss.length cu3) (l := t.loss) (by repeat first | exact .head _ | refine .tail _ ?_) rfl) k y3) ?_
      (refine qf_ar tabOk rfl rfl rfl rfl (by omega) (by omega) ?_)
      refine qf_mkS 3 [.int .i64 (2 * t.loss[k])] rfl (by kernel_rfl) rfl (fun lt2 => ?_)
      (refine qf_nil ?_)
      exact hK1 _ _ (hS28 ⟨lt2, ()⟩ _ _ ⟨rfl, rfl, rfl, rfl, rfl, rfl, rfl, rfl, rfl, rfl, rfl, trivial⟩ (by repeat (first | exact Sp.nil | exact Sp.refl _ | refine Sp.cons (by repeat constructor) ?_)))
  · obtain rfl : k = x.days.length := by omega
    clear hc hK
    have z1 : (dblW x).days = x.days.map dblD := rfl
    have q0 : (dblW x).days.length = x.days.length := by rw [z1, List.length_map]
    have q1 : (dblT t).need.length = x.days.length := by simp only [dblT, dblL_len]; exact y1
    have q2 : (dblT t).make.length = x.days.length := by simp only [dblT, dblL_len]; exact y2
    have q3 : (dblT t).loss.length = x.days.length := by simp only [dblT, dblL_len]; exact y3
    rw [List.take_length, List.take_of_length_le (l := t.need) (by omega), List.take_of_length_le (l := t.make) (by omega), List.take_of_length_le (l := t.loss) (by omega)]
    refine q_fact (fun w hs => (show ∃ g c, dv = Value.slice (some ⟨g, 0, none⟩) (dblW x).days.length c by rw [q0]; exact hs.ownSome (v := dv) (by repeat first | exact .head _ | refine .tail _ ?_) (by omega))) ?_
    rintro ⟨gd, dc, rfl⟩
    refine q_fact (fun w hs => (show ∃ a c, v1 = Value.slice a (dblT t).need.length c by rw [q1]; exact hs.slice2 (v := v1) (by repeat first | exact .head _ | refine .tail _ ?_))) ?_
    rintro ⟨bv1, dv1, rfl⟩
    refine q_fact (fun w hs => (show ∃ a c, v2 = Value.slice a (dblT t).make.length c by rw [q2]; exact hs.slice2 (v := v2) (by repeat first | exact .head _ | refine .tail _ ?_))) ?_
    rintro ⟨bv2, dv2, rfl⟩
    refine q_fact (fun w hs => (show ∃ a c, v3 = Value.slice a (dblT t).loss.length c by rw [q3]; exact hs.slice2 (v := v3) (by repeat first | exact .head _ | refine .tail _ ?_))) ?_
    rintro ⟨bv3, dv3, rfl⟩
    refine q_conv (H' := [.pt b11 (wnC (dblW x) (some ⟨gd, 0, none⟩) dc) 61, .ow (.slice (some ⟨gd, 0, none⟩) (dblW x).days.length dc) 73 6 (dblW x).days.length (dyC (dblW x).days), .pt b12 [.slice bv1 (dblT t).need.length dv1, .slice bv2 (dblT t).make.length dv2, .slice bv3 (dblT t).loss.length dv3] 107, .ow (.slice bv1 (dblT t).need.length dv1) 3 1 (dblT t).need.length (ints (dblT t).need), .ow (.slice bv2 (dblT t).make.length dv2) 3 1 (dblT t).make.length (ints (dblT t).make), .ow (.slice bv3 (dblT t).loss.length dv3) 3 1 (dblT t).loss.length (ints (dblT t).loss), .pt b8 [.slice au1 t.need.length cu1, .slice au2 t.make.length cu2, .slice au3 t.loss.length cu3] 107, .ow (.slice au1 t.need.length cu1) 3 1 t.need.length (ints t.need), .ow (.slice au2 t.make.length cu2) 3 1 t.make.length (ints t.make), .ow (.slice au3 t.loss.length cu3) 3 1 t.loss.length (ints t.loss), .ow (.slice (some ⟨g, 0, none⟩) x.days.length cd) 73 6 x.days.length (dyC x.days), .pt b7 (wnC x (some ⟨g, 0, none⟩) cd) 61, .ow (.slice sa (hapV x t).stocks.length sc) 3 1 (hapV x t).stocks.length (ints (hapV x t).stocks)])
      (fun w' hs => by simp only [wnC, q0, q1, q2, q3] at hs ⊢; exact hs.sp (by repeat (first | exact Sp.nil | exact Sp.refl _ | refine Sp.cons (by repeat constructor) ?_))) ?_
    (refine q_exit _ rfl ?_; refine q_seq ?_; refine q_region ?_; (iterate 2 refine ql_loadAB tabOk rfl rfl rfl (by repeat first | exact .head _ | refine .tail _ ?_) (by rfl) (by rfl) ?_))
    refine ql_call (β := Value) tabOk [] _ M0 rfl rfl rfl rfl (Sp.refl _) (fun _ h => h.elim) (fun w' hs => stocks_in hrx2 (dbl_in ht) w' 0 w'.heap.size (some ⟨gd, 0, none⟩) dc _ _ _ (days_rd hs (by repeat first | exact .head _ | refine .tail _ ?_)) (wtK_R hs (by repeat first | exact .head _ | refine .tail _ ?_) (by repeat first | exact .head _ | refine .tail _ ?_) (by repeat first | exact .head _ | refine .tail _ ?_))) ?_
    rintro dsv _ rfl
    rw [hS2, dblL_len]
    dsimp only [List.cons_append, List.nil_append]
    refine ql_fact (fun w hs => hs.slice2 (v := dsv) (by repeat first | exact .head _ | refine .tail _ ?_)) ?_
    rintro ⟨xa, xc, rfl⟩
    obtain ⟨cc, hc1, hc2, hc3, hc4, _⟩ := hap_char hrx ht
    have hat : ∀ k, (h : k < (hapV x t).stocks.length) → (hapV x t).stocks[k] = sq x t (k + 1) := fun k h => by simp only [hc3, List.getElem_map, List.getElem_range]
    have hbd : ∀ k, (h : k < (hapV x t).stocks.length) → 0 ≤ (hapV x t).stocks[k] ∧ (hapV x t).stocks[k] ≤ x.store := fun k h => by rw [hat k h]; exact hc4 (k + 1) (by omega)
    rw [← hc1] at hc2
    clear hc1 hc3 hc4 hS2
    generalize hA : (hapV x t).stocks = A at *
    (refine ql_pure tabOk rfl rfl ?_; (iterate 2 refine ql_ext tabOk rfl rfl rfl ?_); (iterate 2 refine ql_pure tabOk rfl rfl ?_); refine q_nil ?_; (iterate 2 refine q_seq ?_); refine q_region ?_; refine ql_pure tabOk rfl rfl ?_; refine ql_neqF tabOk rfl rfl rfl (by omega) ?_; refine ql_pure tabOk rfl rfl ?_; refine ql_gyes rfl ?_; refine ql_pure tabOk rfl rfl ?_; refine ql_gyes rfl ?_; refine ql_pure tabOk rfl rfl ?_; refine ql_gyes rfl ?_; refine ql_pure tabOk rfl rfl ?_; refine ql_gyes rfl ?_; refine ql_pure tabOk rfl rfl ?_; refine ql_gyes rfl ?_; refine ql_neqF tabOk rfl rfl rfl (by omega) ?_; refine ql_pure tabOk rfl rfl ?_; refine q_nil ?_; refine q_cond_false rfl ?_; refine q_skip ?_; (iterate 2 refine q_seq ?_); refine q_region ?_; (iterate 3 refine ql_pure tabOk rfl rfl ?_); refine q_nil ?_; refine q_block ?_)
    refine q_loop (σ := Nat) (fun k => k ≤ A.length) (fun k => A.length - k) (fun k => [(2, .int .u8 wh), (7, .pointer (some ⟨b7, 0, none⟩)), (8, .pointer (some ⟨b8, 0, none⟩)), (9, .slice sa A.length sc), (15, .slice xa A.length xc), (140, .slice sa A.length sc), (141, .int .i64 A.length), (142, .int .i64 k)])
      (fun _ => [.ow (.slice xa A.length xc) 3 1 A.length (ints (dblL A)), .ow (.slice sa A.length sc) 3 1 A.length (ints A), .pt b8 [.slice au1 t.need.length cu1, .slice au2 t.make.length cu2, .slice au3 t.loss.length cu3] 107, .ow (.slice au1 t.need.length cu1) 3 1 t.need.length (ints t.need), .ow (.slice au2 t.make.length cu2) 3 1 t.make.length (ints t.make), .ow (.slice au3 t.loss.length cu3) 3 1 t.loss.length (ints t.loss), .ow (.slice (some ⟨g, 0, none⟩) x.days.length cd) 73 6 x.days.length (dyC x.days), .pt b7 (wnC x (some ⟨g, 0, none⟩) cd) 61]) 0 (by omega) ⟨rfl, rfl, rfl, rfl, rfl, rfl, rfl, rfl, trivial⟩ (by repeat (first | exact Sp.nil | exact Sp.refl _ | refine Sp.cons (by repeat constructor) ?_)) ?_
    rintro k hk K hK
    (refine q_seq ?_; refine q_region ?_; refine ql_pure tabOk rfl rfl ?_; refine q_nil ?_; refine q_seq ?_)
    refine q_if rfl (fun hc => ?_) (fun hc => ?_)
    · have hk2 : k < A.length := by first | omega | (simp at hc; omega)
      clear hc
      have hkd : k < (dblL A).length := by rw [dblL_len]; exact hk2
      have ed : (dblL A)[k] = 2 * A[k] := by simp [dblL]
      have hb := hbd k hk2
      refine q_fact (fun w hs => hs.ownSome (v := .slice sa A.length sc) (by repeat first | exact .head _ | refine .tail _ ?_) (by omega)) ?_
      rintro ⟨e1, f1, zz1⟩
      cases zz1
      refine q_fact (fun w hs => hs.ownSome (v := .slice xa A.length xc) (by repeat first | exact .head _ | refine .tail _ ?_) (by omega)) ?_
      rintro ⟨e2, f2, zz2⟩
      cases zz2
      (refine q_skip ?_; refine q_seq ?_; refine q_block ?_; refine q_seq ?_; refine q_region ?_; refine ql_pure tabOk rfl rfl ?_)
      (refine ql_index tabOk rfl rfl rfl rfl rfl (by omega) (by omega) ?_; refine ql_load1 tabOk rfl rfl rfl (fun w hs => RdI.at (hs.rdI (v := .slice (some ⟨e1, 0, none⟩) A.length sc) (l := A) (by repeat first | exact .head _ | refine .tail _ ?_) rfl) k hk2) ?_)
      ((iterate 2 refine ql_pure tabOk rfl rfl ?_); refine q_nil ?_; refine q_seq ?_; refine q_region ?_; (iterate 2 refine ql_pure tabOk rfl rfl ?_))
      refine ql_index tabOk rfl rfl rfl rfl rfl (by omega) (by omega) ?_
      skip
      refine ql_load1 (v := .int .i64 (2 * A[k])) tabOk rfl rfl rfl (fun w hs => by rw [← ed]; exact RdI.at (hs.rdI (v := .slice (some ⟨e2, 0, none⟩) A.length xc) (l := dblL A) (by repeat first | exact .head _ | refine .tail _ ?_) (dblL_len A).symm) k hkd) ?_
      (refine ql_pure tabOk rfl rfl ?_; refine ql_ar tabOk rfl rfl rfl rfl (by omega) (by omega) ?_; refine ql_neqF tabOk rfl rfl rfl (by omega) ?_; refine q_nil ?_; refine q_cond_false rfl ?_; refine q_skip ?_; refine q_blk ?_; refine q_region ?_; refine ql_ar tabOk rfl rfl rfl rfl (by omega) (by omega) ?_; refine ql_pure tabOk rfl rfl ?_; refine q_nil ?_)
      exact hK (k + 1) _ _ (by omega) (by omega) ⟨rfl, rfl, rfl, rfl, rfl, rfl, rfl, rfl, trivial⟩ (by repeat (first | exact Sp.nil | exact Sp.refl _ | refine Sp.cons (by repeat constructor) ?_))
    · clear hc hK
      by_cases h0 : A.length = 0
      · (refine q_exit _ rfl ?_; (iterate 2 refine q_seq ?_); refine q_region ?_; (iterate 2 refine ql_pure tabOk rfl rfl ?_); refine ql_eqlT tabOk rfl rfl rfl (by omega) ?_; refine ql_pure tabOk rfl rfl ?_; (iterate 4 refine ql_gno rfl rfl rfl ?_); refine ql_pure tabOk rfl rfl ?_; refine q_nil ?_; refine q_cond_true rfl ?_; refine q_seq ?_; refine q_region ?_)
        refine ql_callv (val := .bool true) tabOk rfl rfl rfl rfl (fun w hs => ?_) ?_; exact awake_ca w
        (refine ql_pure tabOk rfl rfl ?_; refine q_nil ?_; refine q_ret ?_)
        refine q_fin tabOk rfl (by repeat (first | exact RVs.nil | apply RVs.tmp rfl | apply RVs.cellA rfl rfl (by repeat first | exact .head _ | refine .tail _ ?_) (by rfl) | apply RVs.cell1 rfl rfl (by repeat first | exact .head _ | refine .tail _ ?_))) fun w hs => ?_
        exact ⟨rfl, hs.chg0⟩
      by_cases hd1 : x.days.length = 1
      · (refine q_exit _ rfl ?_; (iterate 2 refine q_seq ?_); refine q_region ?_; (iterate 2 refine ql_pure tabOk rfl rfl ?_); refine ql_eqlF tabOk rfl rfl rfl (by omega) ?_; refine ql_pure tabOk rfl rfl ?_; refine ql_gyes rfl ?_; refine ql_pure tabOk rfl rfl ?_; refine ql_gyes rfl ?_; refine ql_loadB tabOk rfl rfl rfl (by repeat first | exact .head _ | refine .tail _ ?_) (by rfl) ?_; refine ql_gyes rfl ?_; refine ql_pure tabOk rfl rfl ?_; refine ql_gyes rfl ?_; refine ql_eqlT tabOk rfl rfl rfl (by omega) ?_; refine ql_pure tabOk rfl rfl ?_; refine q_nil ?_; refine q_cond_true rfl ?_; refine q_seq ?_; refine q_region ?_)
        refine ql_callv (val := .bool true) tabOk rfl rfl rfl rfl (fun w hs => ?_) ?_; exact awake_ca w
        (refine ql_pure tabOk rfl rfl ?_; refine q_nil ?_; refine q_ret ?_)
        refine q_fin tabOk rfl (by repeat (first | exact RVs.nil | apply RVs.tmp rfl | apply RVs.cellA rfl rfl (by repeat first | exact .head _ | refine .tail _ ?_) (by rfl) | apply RVs.cell1 rfl rfl (by repeat first | exact .head _ | refine .tail _ ?_))) fun w hs => ?_
        exact ⟨rfl, hs.chg0⟩
      (refine q_exit _ rfl ?_; (iterate 2 refine q_seq ?_); refine q_region ?_; (iterate 2 refine ql_pure tabOk rfl rfl ?_); refine ql_eqlF tabOk rfl rfl rfl (by omega) ?_; refine ql_pure tabOk rfl rfl ?_; refine ql_gyes rfl ?_; refine ql_pure tabOk rfl rfl ?_; refine ql_gyes rfl ?_; refine ql_loadB tabOk rfl rfl rfl (by repeat first | exact .head _ | refine .tail _ ?_) (by rfl) ?_; refine ql_gyes rfl ?_; refine ql_pure tabOk rfl rfl ?_; refine ql_gyes rfl ?_; refine ql_eqlF tabOk rfl rfl rfl (by omega) ?_; refine ql_pure tabOk rfl rfl ?_; refine q_nil ?_; refine q_cond_false rfl ?_; refine q_skip ?_; refine q_seq ?_; refine q_region ?_; (iterate 5 refine ql_pure tabOk rfl rfl ?_); refine ql_loadB tabOk rfl rfl rfl (by repeat first | exact .head _ | refine .tail _ ?_) (by rfl) ?_; refine ql_pure tabOk rfl rfl ?_; refine ql_ar tabOk rfl rfl rfl rfl (by omega) (by omega) ?_; refine ql_pure tabOk rfl rfl ?_)
      rw [show IntKind.i64.wrap wh = wh from w64 (by omega) (by omega)]
      refine ql_rem rfl rfl (by omega) rfl ?_
      have hr := tmod_pos hwh.1 (show (0 : Int) < min (A.length : Int) ((x.days.length : Int) - 1) by omega)
      generalize Int.tmod wh _ = r at *
      obtain ⟨k, hk⟩ : ∃ k : Nat, r = (k : Int) - 1 := ⟨(r + 1).toNat, by omega⟩
      subst hk
      have hk1 : 1 ≤ k := by omega
      have hk2 : k ≤ A.length := by omega
      have hk3 : k < x.days.length := by omega
      clear hr
      (refine ql_ar tabOk rfl rfl rfl rfl (by omega) (by omega) ?_; refine ql_pure tabOk rfl rfl ?_; refine q_nil ?_; refine q_seq ?_)
      rw [show (1 : Int) + ((k : Int) - 1) = k by omega]
      skip
      have hks : k - 1 < A.length := by omega
      obtain ⟨g1, g2, g3⟩ := hdr hk3 hk2
      have hA1 : A[k - 1] = sq x t k := by rw [hat (k - 1) hks]; congr 1; omega
      refine q_fact (fun w hs => hs.ownSome (v := .slice sa A.length sc) (by repeat first | exact .head _ | refine .tail _ ?_) (by omega)) ?_
      rintro ⟨e1, f1, zz1⟩
      cases zz1
      refine q_fact (fun w hs => own_cap hs (n := x.days.length) (c := cd) (a := some ⟨g, 0, none⟩) (by repeat first | exact .head _ | refine .tail _ ?_)) ?_
      intro cap0
      refine q_fact (fun w hs => own_cap hs (n := A.length) (c := sc) (a := some ⟨e1, 0, none⟩) (by repeat first | exact .head _ | refine .tail _ ?_)) ?_
      intro capA
      refine q_fact (fun w hs => own_cap hs (n := t.need.length) (c := cu1) (a := au1) (by repeat first | exact .head _ | refine .tail _ ?_)) ?_
      intro cap1
      refine q_fact (fun w hs => own_cap hs (n := t.make.length) (c := cu2) (a := au2) (by repeat first | exact .head _ | refine .tail _ ?_)) ?_
      intro cap2
      refine q_fact (fun w hs => own_cap hs (n := t.loss.length) (c := cu3) (a := au3) (by repeat first | exact .head _ | refine .tail _ ?_)) ?_
      intro cap3
      refine q_draw _ [] (Sp.refl _) (by kernel_rfl) (by kernel_rfl) ?_
      ((iterate 2 refine qf_pure tabOk rfl rfl rfl ?_); refine qf_ar tabOk rfl rfl rfl rfl (by omega) (by omega) ?_)
      refine qf_index tabOk rfl rfl rfl rfl rfl (by omega) (by omega) ?_
      rw [show ((k : Int) - 1).toNat = k - 1 by omega]
      skip
      refine qf_load1 (v := .int .i64 (sq x t k)) tabOk rfl rfl rfl (fun w hs => by rw [← hA1]; exact RdI.at (hs.rdI (v := .slice (some ⟨e1, 0, none⟩) A.length sc) (l := A) (by repeat first | exact .head _ | refine .tail _ ?_) rfl) (k - 1) hks) ?_
      (refine qf_pure tabOk rfl rfl rfl ?_; refine qf_loadB tabOk rfl rfl rfl (by repeat first | exact .head _ | refine .tail _ ?_) (by rfl) ?_; refine qf_pure tabOk rfl rfl rfl ?_; refine qf_loadB tabOk rfl rfl rfl (by repeat first | exact .head _ | refine .tail _ ?_) (by rfl) ?_; refine qf_pure tabOk rfl rfl rfl ?_)
      refine qf_from (et := 73) (sz := 6) k (by kernel_rfl) (by kernel_rfl) rfl rfl rfl (by omega) ?_
      skip
      refine qf_mk #[.int .i64 (sq x t k), .int .i64 x.store, .slice (frA (some ⟨g, 0, none⟩) cd k 6) (x.days.length - k) (cd - k)] rfl (by kernel_rfl) rfl ?_
      skip
      refine qf_alloc zero61 rfl (fun b20 => ?_)
      (refine qf_setA tabOk rfl rfl rfl rfl rfl (by repeat constructor) rfl ?_; refine qf_nil ?_; refine q_seq ?_)
      refine q_draw _ [] (Sp.refl _) (by kernel_rfl) (by kernel_rfl) ?_
      (refine qf_loadAB tabOk rfl rfl rfl (by repeat first | exact .head _ | refine .tail _ ?_) (by rfl) (by rfl) ?_; refine qf_pure tabOk rfl rfl rfl ?_; refine qf_loadB tabOk rfl rfl rfl (by repeat first | exact .head _ | refine .tail _ ?_) (by rfl) ?_; refine qf_pure tabOk rfl rfl rfl ?_)
      refine qf_from (et := 3) (sz := 1) k (by kernel_rfl) (by kernel_rfl) rfl rfl rfl (by omega) ?_
      (refine qf_pure tabOk rfl rfl rfl ?_; refine qf_loadB tabOk rfl rfl rfl (by repeat first | exact .head _ | refine .tail _ ?_) (by rfl) ?_; refine qf_pure tabOk rfl rfl rfl ?_)
      refine qf_from (et := 3) (sz := 1) k (by kernel_rfl) (by kernel_rfl) rfl rfl rfl (by omega) ?_
      (refine qf_pure tabOk rfl rfl rfl ?_; refine qf_loadB tabOk rfl rfl rfl (by repeat first | exact .head _ | refine .tail _ ?_) (by rfl) ?_; refine qf_pure tabOk rfl rfl rfl ?_)
      refine qf_from (et := 3) (sz := 1) k (by kernel_rfl) (by kernel_rfl) rfl rfl rfl (by omega) ?_
      skip
      refine qf_mk #[.slice (frA au1 cu1 k 1) (t.need.length - k) (cu1 - k), .slice (frA au2 cu2 k 1) (t.make.length - k) (cu2 - k), .slice (frA au3 cu3 k 1) (t.loss.length - k) (cu3 - k)] rfl (by kernel_rfl) rfl ?_
      skip
      refine qf_call (β := Value) (L' := fun v => [.ow v 3 1 (A.length - k) (ints (A.drop k))]) tabOk [] _ M0 rfl rfl rfl rfl (Sp.refl _) (fun _ h => h.elim) (fun w' hs => by have := stocks_late hrx ht hk3 (by rw [hA]; exact hk2) w' (some ⟨g, 0, none⟩) au1 au2 au3 cd cu1 cu2 cu3 (days_rd hs (by repeat first | exact .head _ | refine .tail _ ?_)) cap0 (hs.rdI (by repeat first | exact .head _ | refine .tail _ ?_) rfl) (hs.rdI (by repeat first | exact .head _ | refine .tail _ ?_) rfl) (hs.rdI (by repeat first | exact .head _ | refine .tail _ ?_) rfl) cap1 cap2 cap3 (sq x t k) rfl; rw [hA] at this; exact this) ?_
      rintro lv _ rfl
      dsimp only [List.cons_append, List.nil_append]
      refine qf_fact (fun w hs => hs.slice2 (v := lv) (by repeat first | exact .head _ | refine .tail _ ?_)) ?_
      rintro ⟨la, lc, rfl⟩
      (refine qf_pure tabOk rfl rfl rfl ?_; (iterate 2 refine qf_ext tabOk rfl rfl rfl ?_); (iterate 2 refine qf_pure tabOk rfl rfl rfl ?_); refine qf_nil ?_; (iterate 2 refine q_seq ?_); refine q_region ?_; refine ql_pure tabOk rfl rfl ?_; refine ql_neqF tabOk rfl rfl rfl (by omega) ?_; refine ql_pure tabOk rfl rfl ?_; refine ql_gyes rfl ?_; refine ql_pure tabOk rfl rfl ?_; refine ql_gyes rfl ?_; refine ql_pure tabOk rfl rfl ?_; refine ql_gyes rfl ?_; refine ql_pure tabOk rfl rfl ?_; refine ql_gyes rfl ?_)
      refine ql_from (et := 3) (sz := 1) k (by kernel_rfl) (by kernel_rfl) rfl rfl rfl (by omega) ?_
      (refine ql_gyes rfl ?_)
      refine ql_callv (val := .bool true) tabOk rfl rfl rfl rfl (fun w hs => ?_) ?_; exact eqI_ca w 0 w.heap.size 0 w.heap.size _ _ (A.drop k) (hs.rdI (v := .slice la (A.length - k) lc) (by repeat first | exact .head _ | refine .tail _ ?_) (by rw [List.length_drop])) (rdI_from (hs.rdI (v := .slice (some ⟨e1, 0, none⟩) A.length sc) (l := A) (by repeat first | exact .head _ | refine .tail _ ?_) rfl) hk2 rfl capA) (by rw [List.length_drop]; omega)
      (refine ql_gyes rfl ?_; (iterate 2 refine ql_pure tabOk rfl rfl ?_); refine q_nil ?_; refine q_cond_false rfl ?_; refine q_skip ?_; refine q_seq ?_; refine q_region ?_; refine ql_loadAB tabOk rfl rfl rfl (by repeat first | exact .head _ | refine .tail _ ?_) (by rfl) (by rfl) ?_)
      refine ql_callv (val := .tuple #[.int .i64 (firstV x).1, .int .i64 (firstV x).2]) tabOk rfl rfl rfl rfl (fun w hs => ?_) ?_; exact first_ca w 0 w.heap.size x (some ⟨g, 0, none⟩) cd (days_rd hs (by repeat first | exact .head _ | refine .tail _ ?_)) (by omega)
      (refine ql_pure tabOk rfl rfl ?_; (iterate 2 refine ql_ext tabOk rfl rfl rfl ?_); (iterate 2 refine ql_pure tabOk rfl rfl ?_); refine q_nil ?_; refine q_seq ?_)
      refine q_draw _ [] (Sp.refl _) (by kernel_rfl) (by kernel_rfl) ?_
      (refine qf_pure tabOk rfl rfl rfl ?_; refine qf_loadB tabOk rfl rfl rfl (by repeat first | exact .head _ | refine .tail _ ?_) (by rfl) ?_; refine qf_pure tabOk rfl rfl rfl ?_; refine qf_loadB tabOk rfl rfl rfl (by repeat first | exact .head _ | refine .tail _ ?_) (by rfl) ?_; refine qf_pure tabOk rfl rfl rfl ?_; refine qf_loadB tabOk rfl rfl rfl (by repeat first | exact .head _ | refine .tail _ ?_) (by rfl) ?_; refine qf_pure tabOk rfl rfl rfl ?_)
      refine qf_to (et := 73) (sz := 6) k (by kernel_rfl) (by kernel_rfl) rfl rfl rfl (by omega) ?_
      skip
      refine qf_mk #[.int .i64 x.stock, .int .i64 x.store, .slice (toA (some ⟨g, 0, none⟩) cd) k cd] rfl (by kernel_rfl) rfl ?_
      skip
      refine qf_callv (val := .tuple #[.int .i64 (firstV (takeW x k)).1, .int .i64 (firstV (takeW x k)).2]) tabOk rfl rfl rfl rfl (fun w hs => ?_) ?_; exact first_early hlen hk1 (by omega) w (some ⟨g, 0, none⟩) cd (days_rd hs (by repeat first | exact .head _ | refine .tail _ ?_)) cap0
      rcases first_take hrx hk1 (by omega) with ⟨f, h1, h2⟩ | ⟨h1, h2⟩
      · rw [h1, h2]
        dsimp only
        (refine qf_pure tabOk rfl rfl rfl ?_; (iterate 2 refine qf_ext tabOk rfl rfl rfl ?_); (iterate 2 refine qf_pure tabOk rfl rfl rfl ?_); refine qf_nil ?_; (iterate 2 refine q_seq ?_); refine q_region ?_; refine ql_pure tabOk rfl rfl ?_; refine ql_eqlT tabOk rfl rfl rfl (by omega) ?_; refine q_nil ?_; refine q_cond_true rfl ?_; refine q_seq ?_; refine q_region ?_; refine ql_pure tabOk rfl rfl ?_; refine ql_eqlT tabOk rfl rfl rfl (by omega) ?_; refine ql_pure tabOk rfl rfl ?_; refine ql_gyes rfl ?_; refine ql_pure tabOk rfl rfl ?_; refine ql_gyes rfl ?_; refine ql_pure tabOk rfl rfl ?_; refine ql_gyes rfl ?_; refine ql_eqlT tabOk rfl rfl rfl (by omega) ?_; (iterate 2 refine ql_pure tabOk rfl rfl ?_); refine ql_gyes rfl ?_)
        refine ql_callv (val := .bool true) tabOk rfl rfl rfl rfl (fun w hs => ?_) ?_; exact awake_ca w
        ((iterate 2 refine ql_pure tabOk rfl rfl ?_); refine q_nil ?_; refine q_ret ?_)
        refine q_fin tabOk rfl (by repeat (first | exact RVs.nil | apply RVs.tmp rfl | apply RVs.cellA rfl rfl (by repeat first | exact .head _ | refine .tail _ ?_) (by rfl) | apply RVs.cell1 rfl rfl (by repeat first | exact .head _ | refine .tail _ ?_))) fun w hs => ?_
        exact ⟨rfl, hs.chg0⟩
      · rw [h1]
        dsimp only
        obtain ⟨r1, r2⟩ := ranges_at hrx hk1 (by omega) h2
        obtain ⟨_, _, r3⟩ := first_drop hrx hk3 h2
        clear h1 h2
        (refine qf_pure tabOk rfl rfl rfl ?_; (iterate 2 refine qf_ext tabOk rfl rfl rfl ?_); (iterate 2 refine qf_pure tabOk rfl rfl rfl ?_); refine qf_nil ?_; (iterate 2 refine q_seq ?_); refine q_region ?_; refine ql_pure tabOk rfl rfl ?_; refine ql_eqlF tabOk rfl rfl rfl (by omega) ?_; refine q_nil ?_; refine q_cond_false rfl ?_; refine q_skip ?_; refine q_seq ?_; refine q_region ?_; refine ql_loadAB tabOk rfl rfl rfl (by repeat first | exact .head _ | refine .tail _ ?_) (by rfl) (by rfl) ?_)
        refine ql_call (β := Value) tabOk [] _ M0 rfl rfl rfl rfl (Sp.refl _) (fun _ h => h.elim) (fun w' hs => ranges_ok w' 0 w'.heap.size x (some ⟨g, 0, none⟩) cd (days_rd hs (by repeat first | exact .head _ | refine .tail _ ?_)) hrx) ?_
        rintro rv _ rfl
        dsimp only [List.cons_append, List.nil_append]
        generalize rangesV x = R at *
        refine ql_fact (fun w hs => hs.ownSome (v := rv) (by repeat first | exact .head _ | refine .tail _ ?_) (by omega)) ?_
        rintro ⟨gr, rc, rfl⟩
        have hRk : k - 1 < R.length := by omega
        have hR1 := r2 hRk
        (refine ql_pure tabOk rfl rfl ?_; (iterate 2 refine ql_ext tabOk rfl rfl rfl ?_); (iterate 2 refine ql_pure tabOk rfl rfl ?_); refine q_nil ?_; (iterate 2 refine q_seq ?_); refine q_region ?_; refine ql_pure tabOk rfl rfl ?_; refine ql_neqF tabOk rfl rfl rfl (by omega) ?_; refine ql_pure tabOk rfl rfl ?_; refine ql_gyes rfl ?_; refine ql_pure tabOk rfl rfl ?_; refine ql_gyes rfl ?_; refine ql_neqF tabOk rfl rfl rfl (by omega) ?_; (iterate 2 refine ql_pure tabOk rfl rfl ?_); refine ql_gyes rfl ?_; refine ql_pure tabOk rfl rfl ?_; refine ql_gyes rfl ?_; refine ql_pure tabOk rfl rfl ?_; refine ql_gyes rfl ?_; refine ql_pure tabOk rfl rfl ?_; refine ql_gyes rfl ?_; refine ql_lssF tabOk rfl rfl rfl (by omega) ?_; refine ql_pure tabOk rfl rfl ?_; refine q_nil ?_; refine q_cond_false rfl ?_; refine q_skip ?_; refine q_seq ?_; refine q_region ?_; (iterate 2 refine ql_pure tabOk rfl rfl ?_); refine ql_ar tabOk rfl rfl rfl rfl (by omega) (by omega) ?_)
        refine ql_index tabOk rfl rfl rfl rfl rfl (by omega) (by omega) ?_
        rw [show ((k : Int) - 1).toNat = k - 1 by omega]
        (refine ql_pure tabOk rfl rfl ?_)
        refine ql_load1 (v := .int .i64 (sq x (worstW x) k)) tabOk rfl rfl rfl (fun w hs => by rw [← hR1]; exact RdS.at0 (own_rdS (t := 24) (hs.mem (c := .ow (.slice (some ⟨gr, 0, none⟩) R.length rc) 24 2 R.length (spC R)) (by repeat first | exact .head _ | refine .tail _ ?_)) rfl) (k - 1) hRk) ?_
        (refine ql_pure tabOk rfl rfl ?_; refine ql_st0 tabOk rfl rfl rfl rfl (by repeat constructor) ?_; refine q_nil ?_; refine q_seq ?_; refine q_region ?_; refine ql_loadAB tabOk rfl rfl rfl (by repeat first | exact .head _ | refine .tail _ ?_) (by rfl) (by rfl) ?_)
        refine ql_callv (val := .tuple #[.int .i64 (firstV (dropW x k (sq x (worstW x) k))).1, .int .i64 (firstV (dropW x k (sq x (worstW x) k))).2]) tabOk rfl rfl rfl rfl (fun w hs => ?_) ?_; exact first_late hlen hk3 w (some ⟨g, 0, none⟩) cd (days_rd hs (by repeat first | exact .head _ | refine .tail _ ?_)) cap0 _
        rcases r3 with ⟨p1, p2⟩ | ⟨f, hfk, p1, p2⟩
        · rw [p1, p2]
          dsimp only
          (refine ql_pure tabOk rfl rfl ?_; (iterate 2 refine ql_ext tabOk rfl rfl rfl ?_); (iterate 2 refine ql_pure tabOk rfl rfl ?_); refine q_nil ?_; refine q_seq ?_; refine q_region ?_; (iterate 2 refine ql_pure tabOk rfl rfl ?_); refine ql_eqlT tabOk rfl rfl rfl (by omega) ?_; refine ql_pure tabOk rfl rfl ?_; refine ql_gyes rfl ?_; refine ql_pure tabOk rfl rfl ?_; refine ql_gyes rfl ?_; refine ql_neqT tabOk rfl rfl rfl (by omega) ?_; refine ql_gyes rfl ?_; refine ql_pure tabOk rfl rfl ?_; (iterate 5 refine ql_gno rfl rfl rfl ?_); refine ql_gyes rfl ?_; (iterate 3 refine ql_pure tabOk rfl rfl ?_); refine ql_gyes rfl ?_)
          refine ql_callv (val := .bool true) tabOk rfl rfl rfl rfl (fun w hs => ?_) ?_; exact awake_ca w
          ((iterate 2 refine ql_pure tabOk rfl rfl ?_); refine q_nil ?_; refine q_ret ?_)
          refine q_fin tabOk rfl (by repeat (first | exact RVs.nil | apply RVs.tmp rfl | apply RVs.cellA rfl rfl (by repeat first | exact .head _ | refine .tail _ ?_) (by rfl) | apply RVs.cell1 rfl rfl (by repeat first | exact .head _ | refine .tail _ ?_))) fun w hs => ?_
          exact ⟨rfl, hs.chg0⟩
        · rw [p1, p2]
          dsimp only
          (refine ql_pure tabOk rfl rfl ?_; (iterate 2 refine ql_ext tabOk rfl rfl rfl ?_); (iterate 2 refine ql_pure tabOk rfl rfl ?_); refine q_nil ?_; refine q_seq ?_; refine q_region ?_; (iterate 2 refine ql_pure tabOk rfl rfl ?_); refine ql_eqlT tabOk rfl rfl rfl (by omega) ?_; refine ql_pure tabOk rfl rfl ?_; refine ql_gyes rfl ?_; refine ql_pure tabOk rfl rfl ?_; refine ql_gyes rfl ?_; refine ql_neqF tabOk rfl rfl rfl (by omega) ?_; refine ql_gyes rfl ?_; refine ql_pure tabOk rfl rfl ?_; refine ql_gyes rfl ?_; refine ql_pure tabOk rfl rfl ?_; refine ql_gyes rfl ?_; refine ql_pure tabOk rfl rfl ?_; refine ql_gyes rfl ?_; refine ql_pure tabOk rfl rfl ?_; refine ql_gyes rfl ?_; refine ql_ar tabOk rfl rfl rfl rfl (by omega) (by omega) ?_; refine ql_gyes rfl ?_; refine ql_eqlT tabOk rfl rfl rfl (by omega) ?_; refine ql_gyes rfl ?_; (iterate 3 refine ql_pure tabOk rfl rfl ?_); refine ql_gyes rfl ?_)
          refine ql_callv (val := .bool true) tabOk rfl rfl rfl rfl (fun w hs => ?_) ?_; exact awake_ca w
          ((iterate 2 refine ql_pure tabOk rfl rfl ?_); refine q_nil ?_; refine q_ret ?_)
          refine q_fin tabOk rfl (by repeat (first | exact RVs.nil | apply RVs.tmp rfl | apply RVs.cellA rfl rfl (by repeat first | exact .head _ | refine .tail _ ?_) (by rfl) | apply RVs.cell1 rfl rfl (by repeat first | exact .head _ | refine .tail _ ?_))) fun w hs => ?_
          exact ⟨rfl, hs.chg0⟩
end Go.Proofs.Ytgeajgmefokifaa
