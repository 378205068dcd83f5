/- My texts K23, K24, K25, K1, K26, K27, L0, L2, W4, L5, L6, joined: a claim takes at most 60 files. -/
import Derived.Test.YtgeajgmefokifaaJ3

/- Walks: lists compared. -/
namespace Go.Proofs.Ytgeajgmefokifaa
open Go Go.Eng

def eqIB (a b : List Int) : Bool := decide (a = b) && true
theorem eqIB_iff {a b : List Int} : eqIB a b = true ↔ a = b := by simp [eqIB]
set_option maxHeartbeats 1000000 in
theorem eqIF_ca (w : World) (lo hi lo2 hi2 : Nat) (v u : Value) (l m : List Int) (h1 : RdI w lo hi v l) (h2 : RdI w lo2 hi2 u m) (hlen : l.length ≤ 1000000) (hlen2 : m.length ≤ 1000000) :
    Ca Try.prog 26 [v, u] w fun r w' => r = .bool (eqIB l m) ∧ Chg [] w w' := by
  obtain ⟨a, ca, rfl, hsa⟩ := RdI.outI h1
  obtain ⟨b, cb, rfl, hsb⟩ := RdI.outI h2
  refine q_of (Sat.nil w M0) Try.func26 rfl (by simp [Try.ntmps26]) ?_
  (refine q_seq ?_; refine q_region ?_; refine ql_pure tabOk rfl rfl ?_; refine q_nil ?_; (iterate 2 refine q_seq ?_); refine q_region ?_; (iterate 5 refine ql_pure tabOk rfl rfl ?_); refine q_nil ?_)
  by_cases hll : l.length = m.length
  · rw [decide_eq_true (show (l.length : Int) = m.length by omega)]
    (refine q_cond_false rfl ?_; refine q_skip ?_; (iterate 2 refine q_seq ?_); refine q_region ?_; (iterate 3 refine ql_pure tabOk rfl rfl ?_); refine q_nil ?_; refine q_block ?_)
    refine q_loop (σ := Nat) (fun s => s ≤ l.length ∧ l.take s = m.take s) (fun s => l.length - s) (fun s => [(0, .slice a l.length ca), (1, .slice b m.length cb), (12, .int .i64 l.length), (13, .int .i64 s)]) (fun _ => []) 0 (by simp) ⟨rfl, rfl, rfl, rfl, trivial⟩ (by repeat (first | exact Sp.nil | exact Sp.refl _ | refine Sp.cons (by repeat constructor) ?_)) ?_
    rintro i ⟨hi, ht⟩ K hK
    (refine q_seq ?_; refine q_region ?_; refine ql_pure tabOk rfl rfl ?_; refine q_nil ?_; refine q_seq ?_)
    refine q_if rfl (fun hc => ?_) (fun hc => ?_)
    · have hi2 : i < l.length := by omega
      have hi3 : i < m.length := by omega
      clear hc
      obtain ⟨ba, oa, rfl⟩ := hsa (by omega)
      obtain ⟨bb, ob, rfl⟩ := hsb (by omega)
      (refine q_skip ?_; refine q_seq ?_; refine q_block ?_; refine q_seq ?_; refine q_region ?_; (iterate 2 refine ql_pure tabOk rfl rfl ?_); refine q_nil ?_; refine q_seq ?_)
      refine q_draw _ [] (Sp.refl _) (by kernel_rfl) (by kernel_rfl) ?_
      ((iterate 2 refine qf_pure tabOk rfl rfl rfl ?_))
      (refine qf_index tabOk rfl rfl rfl rfl rfl (by omega) (by omega) ?_; refine qf_load1 tabOk rfl rfl rfl (fun w hs => RdI.at (RdE.keep h1 hs.chg0) i hi2) ?_)
      ((iterate 2 refine qf_pure tabOk rfl rfl rfl ?_))
      (refine qf_index tabOk rfl rfl rfl rfl rfl (by omega) (by omega) ?_; refine qf_load1 tabOk rfl rfl rfl (fun w hs => RdI.at (RdE.keep h2 hs.chg0) i hi3) ?_)
      (refine qf_pure tabOk rfl rfl rfl ?_; refine qf_nil ?_)
      by_cases he : l[i] = m[i]
      · skip
        rw [decide_eq_true he]
        (refine q_cond_false rfl ?_; refine q_skip ?_; refine q_blk ?_; refine q_region ?_; refine ql_ar tabOk rfl rfl rfl rfl (by omega) (by omega) ?_; refine ql_pure tabOk rfl rfl ?_; refine q_nil ?_)
        exact hK (i + 1) _ _ ⟨by omega, by rw [List.take_succ_eq_append_getElem hi2, List.take_succ_eq_append_getElem hi3, ht, he]⟩ (by omega) ⟨rfl, rfl, rfl, rfl, trivial⟩ (by repeat (first | exact Sp.nil | exact Sp.refl _ | refine Sp.cons (by repeat constructor) ?_))
      · have e : eqIB l m = false := Bool.eq_false_iff.2 fun hh => he (by have := eqIB_iff.1 hh; subst this; rfl)
        rw [e, decide_eq_false he]
        (refine q_cond_true rfl ?_; refine q_seq ?_; refine q_region ?_; refine ql_pure tabOk rfl rfl ?_; refine q_nil ?_; refine q_ret ?_)
        refine q_fin tabOk rfl (by repeat (first | exact RVs.nil | apply RVs.tmp rfl | apply RVs.cellA rfl rfl (by repeat first | exact .head _ | refine .tail _ ?_) (by rfl) | apply RVs.cell1 rfl rfl (by repeat first | exact .head _ | refine .tail _ ?_))) fun w hs => ?_
        exact ⟨rfl, hs.chg0⟩
    · obtain rfl : i = l.length := by omega
      have e : eqIB l m = true := eqIB_iff.2 (by rw [List.take_length] at ht; rw [hll, List.take_length] at ht; exact ht)
      rw [e]
      (refine q_exit _ rfl ?_; refine q_seq ?_; refine q_region ?_; refine ql_pure tabOk rfl rfl ?_; refine q_nil ?_; refine q_ret ?_)
      refine q_fin tabOk rfl (by repeat (first | exact RVs.nil | apply RVs.tmp rfl | apply RVs.cellA rfl rfl (by repeat first | exact .head _ | refine .tail _ ?_) (by rfl) | apply RVs.cell1 rfl rfl (by repeat first | exact .head _ | refine .tail _ ?_))) fun w hs => ?_
      exact ⟨rfl, hs.chg0⟩
  · have e : eqIB l m = false := Bool.eq_false_iff.2 fun hh => hll (by rw [eqIB_iff.1 hh])
    rw [e, decide_eq_false (show ¬ (l.length : Int) = m.length by omega)]
    (refine q_cond_true rfl ?_; refine q_seq ?_; refine q_region ?_; refine ql_pure tabOk rfl rfl ?_; refine q_nil ?_; refine q_ret ?_)
    refine q_fin tabOk rfl (by repeat (first | exact RVs.nil | apply RVs.tmp rfl | apply RVs.cellA rfl rfl (by repeat first | exact .head _ | refine .tail _ ?_) (by rfl) | apply RVs.cell1 rfl rfl (by repeat first | exact .head _ | refine .tail _ ?_))) fun w hs => ?_
    exact ⟨rfl, hs.chg0⟩
theorem eqI_ca (w : World) (lo hi lo2 hi2 : Nat) (v u : Value) (l : List Int) (h1 : RdI w lo hi v l) (h2 : RdI w lo2 hi2 u l) (hlen : l.length ≤ 1000000) :
    Ca Try.prog 26 [v, u] w fun r w' => r = .bool true ∧ Chg [] w w' := by
  have h := eqIF_ca w lo hi lo2 hi2 v u l l h1 h2 hlen hlen
  rwa [eqIB_iff.2 rfl] at h

set_option maxHeartbeats 1000000 in
theorem eqII_ca (w : World) (lo hi lo2 hi2 : Nat) (v u : Value) (ll : List (List Int)) (h1 : RdII w lo hi v ll) (h2 : RdII w lo2 hi2 u ll) (hlen : ll.length ≤ 1000000) (hrow : ∀ l ∈ ll, l.length ≤ 1000000) :
    Ca Try.prog 32 [v, u] w fun r w' => r = .bool true ∧ Chg [] w w' := by
  obtain ⟨a, ca, rfl, hsa⟩ := RdII.outI h1
  obtain ⟨b, cb, rfl, hsb⟩ := RdII.outI h2
  refine q_of (Sat.nil w M0) Try.func32 rfl (by simp [Try.ntmps32]) ?_
  (refine q_seq ?_; refine q_region ?_; refine ql_pure tabOk rfl rfl ?_; refine q_nil ?_; (iterate 2 refine q_seq ?_); refine q_region ?_; (iterate 4 refine ql_pure tabOk rfl rfl ?_); refine ql_neqF tabOk rfl rfl rfl (by omega) ?_; refine q_nil ?_; refine q_cond_false rfl ?_; refine q_skip ?_; (iterate 2 refine q_seq ?_); refine q_region ?_; (iterate 3 refine ql_pure tabOk rfl rfl ?_); refine q_nil ?_; refine q_block ?_)
  refine q_loop (σ := Nat) (fun s => s ≤ ll.length) (fun s => ll.length - s) (fun s => [(0, .slice a ll.length ca), (1, .slice b ll.length cb), (12, .int .i64 ll.length), (13, .int .i64 s)]) (fun _ => []) 0 (by omega) ⟨rfl, rfl, rfl, rfl, trivial⟩ (by repeat (first | exact Sp.nil | exact Sp.refl _ | refine Sp.cons (by repeat constructor) ?_)) ?_
  intro i hi K hK
  (refine q_seq ?_; refine q_region ?_; refine ql_pure tabOk rfl rfl ?_; refine q_nil ?_; refine q_seq ?_)
  refine q_if rfl (fun hc => ?_) (fun hc => ?_)
  · have hi2 : i < ll.length := by omega
    clear hc
    obtain ⟨ba, oa, rfl⟩ := hsa (by omega)
    obtain ⟨bb, ob, rfl⟩ := hsb (by omega)
    obtain ⟨ar, cr, hr1, hc1⟩ := h1.row i hi2
    obtain ⟨br, dr, hr2, hc2⟩ := h2.row i hi2
    have hrl := hrow _ (List.getElem_mem hi2)
    (refine q_skip ?_; refine q_seq ?_; refine q_block ?_; refine q_seq ?_; refine q_region ?_; (iterate 2 refine ql_pure tabOk rfl rfl ?_); refine q_nil ?_; refine q_seq ?_)
    refine q_draw _ [] (Sp.refl _) (by kernel_rfl) (by kernel_rfl) ?_
    ((iterate 2 refine qf_pure tabOk rfl rfl rfl ?_))
    refine qf_index tabOk rfl rfl rfl rfl rfl (by omega) (by omega) ?_
    refine qf_load1 (v := .slice ar ll[i].length cr) tabOk rfl rfl rfl (fun w' hs => hc1 w' hs.chg0) ?_
    ((iterate 2 refine qf_pure tabOk rfl rfl rfl ?_))
    refine qf_index tabOk rfl rfl rfl rfl rfl (by omega) (by omega) ?_
    refine qf_load1 (v := .slice br ll[i].length dr) tabOk rfl rfl rfl (fun w' hs => hc2 w' hs.chg0) ?_
    skip
    refine qf_callv (val := .bool true) tabOk rfl rfl rfl rfl (fun w hs => ?_) ?_; exact eqI_ca w _ _ _ _ _ _ ll[i] (RdE.keep hr1 hs.chg0) (RdE.keep hr2 hs.chg0) hrl
    (refine qf_pure tabOk rfl rfl rfl ?_; refine qf_nil ?_; refine q_cond_false rfl ?_; refine q_skip ?_; refine q_blk ?_; refine q_region ?_; refine ql_ar tabOk rfl rfl rfl rfl (by omega) (by omega) ?_; refine ql_pure tabOk rfl rfl ?_; refine q_nil ?_)
    exact hK (i + 1) _ _ (by omega) (by omega) ⟨rfl, rfl, rfl, rfl, trivial⟩ (by repeat (first | exact Sp.nil | exact Sp.refl _ | refine Sp.cons (by repeat constructor) ?_))
  · (refine q_exit _ rfl ?_; refine q_seq ?_; refine q_region ?_; refine ql_pure tabOk rfl rfl ?_; refine q_nil ?_; refine q_ret ?_)
    refine q_fin tabOk rfl (by repeat (first | exact RVs.nil | apply RVs.tmp rfl | apply RVs.cellA rfl rfl (by repeat first | exact .head _ | refine .tail _ ?_) (by rfl) | apply RVs.cell1 rfl rfl (by repeat first | exact .head _ | refine .tail _ ?_))) fun w hs => ?_
    exact ⟨rfl, hs.chg0⟩

set_option maxHeartbeats 1000000 in
theorem eqR_ca (w : World) (lo hi lo2 hi2 : Nat) (v u : Value) (l : List Int) (h1 : RdI w lo hi v l) (h2 : RdI w lo2 hi2 u l) (hlen : l.length ≤ 1000000) :
    Ca Try.prog 49 [v, u] w fun r w' => r = .bool true ∧ Chg [] w w' := by
  obtain ⟨a, ca, rfl, hsa⟩ := RdI.outI h1
  obtain ⟨b, cb, rfl, hsb⟩ := RdI.outI h2
  refine q_of (Sat.nil w M0) Try.func49 rfl (by simp [Try.ntmps49]) ?_
  (refine q_seq ?_; refine q_region ?_; refine ql_pure tabOk rfl rfl ?_; refine q_nil ?_; (iterate 2 refine q_seq ?_); refine q_region ?_; (iterate 4 refine ql_pure tabOk rfl rfl ?_); refine ql_neqF tabOk rfl rfl rfl (by omega) ?_; refine q_nil ?_; refine q_cond_false rfl ?_; refine q_skip ?_; (iterate 2 refine q_seq ?_); refine q_region ?_; (iterate 3 refine ql_pure tabOk rfl rfl ?_); refine q_nil ?_; refine q_block ?_)
  refine q_loop (σ := Nat) (fun s => s ≤ l.length) (fun s => l.length - s) (fun s => [(0, .slice a l.length ca), (1, .slice b l.length cb), (12, .int .i64 l.length), (13, .int .i64 s)]) (fun _ => []) 0 (by omega) ⟨rfl, rfl, rfl, rfl, trivial⟩ (by repeat (first | exact Sp.nil | exact Sp.refl _ | refine Sp.cons (by repeat constructor) ?_)) ?_
  intro i hi K hK
  (refine q_seq ?_; refine q_region ?_; refine ql_pure tabOk rfl rfl ?_; refine q_nil ?_; refine q_seq ?_)
  refine q_if rfl (fun hc => ?_) (fun hc => ?_)
  · have hi2 : i < l.length := by omega
    clear hc
    obtain ⟨ba, oa, rfl⟩ := hsa (by omega)
    obtain ⟨bb, ob, rfl⟩ := hsb (by omega)
    (refine q_skip ?_; refine q_seq ?_; refine q_block ?_; refine q_seq ?_; refine q_region ?_; (iterate 2 refine ql_pure tabOk rfl rfl ?_); refine q_nil ?_; refine q_seq ?_)
    refine q_draw _ [] (Sp.refl _) (by kernel_rfl) (by kernel_rfl) ?_
    ((iterate 2 refine qf_pure tabOk rfl rfl rfl ?_))
    (refine qf_index tabOk rfl rfl rfl rfl rfl (by omega) (by omega) ?_; refine qf_load1 tabOk rfl rfl rfl (fun w hs => RdI.at (RdE.keep h1 hs.chg0) i hi2) ?_)
    ((iterate 2 refine qf_pure tabOk rfl rfl rfl ?_))
    (refine qf_index tabOk rfl rfl rfl rfl rfl (by omega) (by omega) ?_; refine qf_load1 tabOk rfl rfl rfl (fun w hs => RdI.at (RdE.keep h2 hs.chg0) i hi2) ?_)
    (refine qf_neqF tabOk rfl rfl rfl (by omega) ?_; refine qf_nil ?_; refine q_cond_false rfl ?_; refine q_skip ?_; refine q_blk ?_; refine q_region ?_; refine ql_ar tabOk rfl rfl rfl rfl (by omega) (by omega) ?_; refine ql_pure tabOk rfl rfl ?_; refine q_nil ?_)
    skip
    exact hK (i + 1) _ _ (by omega) (by omega) ⟨rfl, rfl, rfl, rfl, trivial⟩ (by repeat (first | exact Sp.nil | exact Sp.refl _ | refine Sp.cons (by repeat constructor) ?_))
  · (refine q_exit _ rfl ?_; refine q_seq ?_; refine q_region ?_; refine ql_pure tabOk rfl rfl ?_; refine q_nil ?_; refine q_ret ?_)
    refine q_fin tabOk rfl (by repeat (first | exact RVs.nil | apply RVs.tmp rfl | apply RVs.cellA rfl rfl (by repeat first | exact .head _ | refine .tail _ ?_) (by rfl) | apply RVs.cell1 rfl rfl (by repeat first | exact .head _ | refine .tail _ ?_))) fun w hs => ?_
    exact ⟨rfl, hs.chg0⟩

theorem spn_flat : flatB Try.prog 24 [some .i64, some .i64] = true := by kernel_rfl
set_option maxHeartbeats 1000000 in
theorem eqS_ca (w : World) (lo hi lo2 hi2 : Nat) (v u : Value) (l : List (Int × Int)) (h1 : RdS w lo hi v l) (h2 : RdS w lo2 hi2 u l) (hlen : l.length ≤ 1000000) :
    Ca Try.prog 59 [v, u] w fun r w' => r = .bool true ∧ Chg [] w w' := by
  obtain ⟨a, ca, rfl, hsa⟩ := RdS.outI h1
  obtain ⟨b, cb, rfl, hsb⟩ := RdS.outI h2
  refine q_of (Sat.nil w M0) Try.func59 rfl (by simp [Try.ntmps59]) ?_
  (refine q_seq ?_; refine q_region ?_; refine ql_pure tabOk rfl rfl ?_; refine q_nil ?_; (iterate 2 refine q_seq ?_); refine q_region ?_; (iterate 4 refine ql_pure tabOk rfl rfl ?_); refine ql_neqF tabOk rfl rfl rfl (by omega) ?_; refine q_nil ?_; refine q_cond_false rfl ?_; refine q_skip ?_; (iterate 2 refine q_seq ?_); refine q_region ?_; (iterate 3 refine ql_pure tabOk rfl rfl ?_); refine q_nil ?_; refine q_block ?_)
  refine q_loop (σ := Nat) (fun s => s ≤ l.length) (fun s => l.length - s) (fun s => [(0, .slice a l.length ca), (1, .slice b l.length cb), (12, .int .i64 l.length), (13, .int .i64 s)]) (fun _ => []) 0 (by omega) ⟨rfl, rfl, rfl, rfl, trivial⟩ (by repeat (first | exact Sp.nil | exact Sp.refl _ | refine Sp.cons (by repeat constructor) ?_)) ?_
  intro i hi K hK
  (refine q_seq ?_; refine q_region ?_; refine ql_pure tabOk rfl rfl ?_; refine q_nil ?_; refine q_seq ?_)
  refine q_if rfl (fun hc => ?_) (fun hc => ?_)
  · have hi2 : i < l.length := by omega
    clear hc
    obtain ⟨ba, oa, rfl⟩ := hsa (by omega)
    obtain ⟨bb, ob, rfl⟩ := hsb (by omega)
    (refine q_skip ?_; refine q_seq ?_; refine q_block ?_; refine q_seq ?_; refine q_region ?_; (iterate 2 refine ql_pure tabOk rfl rfl ?_); refine q_nil ?_; refine q_seq ?_)
    refine q_draw _ [] (Sp.refl _) (by kernel_rfl) (by kernel_rfl) ?_
    ((iterate 2 refine qf_pure tabOk rfl rfl rfl ?_))
    refine qf_index tabOk rfl rfl rfl rfl rfl (by omega) (by omega) ?_
    refine qf_loadA tabOk rfl rfl rfl rfl (fun w hs => RdS.at (RdE.keep h1 hs.chg0) i hi2) ?_
    ((iterate 2 refine qf_pure tabOk rfl rfl rfl ?_))
    refine qf_index tabOk rfl rfl rfl rfl rfl (by omega) (by omega) ?_
    refine qf_loadA tabOk rfl rfl rfl rfl (fun w hs => RdS.at (RdE.keep h2 hs.chg0) i hi2) ?_
    skip
    refine qf_neF [some .i64, some .i64] spn_flat rfl rfl rfl rfl rfl ?_
    rw [eqL_refl]
    (refine qf_nil ?_; refine q_cond_false rfl ?_; refine q_skip ?_; refine q_blk ?_; refine q_region ?_; refine ql_ar tabOk rfl rfl rfl rfl (by omega) (by omega) ?_; refine ql_pure tabOk rfl rfl ?_; refine q_nil ?_)
    exact hK (i + 1) _ _ (by omega) (by omega) ⟨rfl, rfl, rfl, rfl, trivial⟩ (by repeat (first | exact Sp.nil | exact Sp.refl _ | refine Sp.cons (by repeat constructor) ?_))
  · (refine q_exit _ rfl ?_; refine q_seq ?_; refine q_region ?_; refine ql_pure tabOk rfl rfl ?_; refine q_nil ?_; refine q_ret ?_)
    refine q_fin tabOk rfl (by repeat (first | exact RVs.nil | apply RVs.tmp rfl | apply RVs.cellA rfl rfl (by repeat first | exact .head _ | refine .tail _ ?_) (by rfl) | apply RVs.cell1 rfl rfl (by repeat first | exact .head _ | refine .tail _ ?_))) fun w hs => ?_
    exact ⟨rfl, hs.chg0⟩

theorem pil_flat : flatB Try.prog 117 [some .i64, some .i64] = true := by kernel_rfl
end Go.Proofs.Ytgeajgmefokifaa

/- Walks: the examples; awake. -/
namespace Go.Proofs.Ytgeajgmefokifaa
open Go Go.Eng

theorem Blk.rdS {w : World} {b : Nat} {l : List (Int × Int)} {cs : List Value} {t : TypeId} {c : Nat} (h : Blk w b cs t) (hc : cs = spC l) : RdS w 0 w.heap.size (.slice (some ⟨b, 0, none⟩) l.length c) l := by
  subst hc
  exact RdS.of ⟨spC_length l, .inr ⟨b, 0, c, rfl, fun _ => ⟨Nat.zero_le _, h.lt, h.lt⟩, fun j _ => by rw [Blk.cell h]; simp⟩⟩
theorem Blk.rdL {w : World} {b : Nat} {l : List Lp} {cs : List Value} {t : TypeId} {c : Nat} (h : Blk w b cs t) (hc : cs = lpC l) : RdL w 0 w.heap.size (.slice (some ⟨b, 0, none⟩) l.length c) l := by
  subst hc
  exact RdL.of ⟨lpC_length l, .inr ⟨b, 0, c, rfl, fun _ => ⟨Nat.zero_le _, h.lt, h.lt⟩, fun j _ => by rw [Blk.cell h]; simp⟩⟩
theorem Blk.rdD {w : World} {b : Nat} {l : List Dy} {cs : List Value} {t : TypeId} {c : Nat} (h : Blk w b cs t) (hc : cs = dyC l) : RdD w 0 w.heap.size (.slice (some ⟨b, 0, none⟩) l.length c) l := by
  subst hc
  exact RdD.of ⟨dyC_length l, .inr ⟨b, 0, c, rfl, fun _ => ⟨Nat.zero_le _, h.lt, h.lt⟩, fun j _ => by rw [Blk.cell h]; simp⟩⟩
theorem RdII.of {w : World} {lo hi : Nat} {v : Value} {ll : List (List Int)} {vs : List Value} (h : Rd w lo hi v 1 vs.length vs) (h1 : vs.length = ll.length) (h2 : ∀ i (h : i < vs.length) (h' : i < ll.length), RdI w lo hi vs[i] ll[i]) (h3 : ∀ e ∈ vs, oneV e = true) : RdII w lo hi v ll :=
  ⟨vs, RdE.one h h3, h1, h2⟩
theorem spanM_ca (a b : Int) (w : World) : Ca Try.prog 42 [.int .i64 a, .int .i64 b] w fun v w' => v = .agg #[.int .i64 a, .int .i64 b] ∧ Chg [] w w' := by
  refine q_of (Sat.nil w M0) Try.func42 rfl (by simp [Try.ntmps42]) ?_
  (refine q_seq ?_; refine q_region ?_)
  refine ql_alloc zero24 rfl (fun b2 => ?_)
  (refine q_nil ?_; refine q_seq ?_; refine q_region ?_; (iterate 2 refine ql_pure tabOk rfl rfl ?_))
  refine ql_mk #[.int .i64 a, .int .i64 b] rfl (by kernel_rfl) rfl ?_
  (refine ql_setA tabOk rfl rfl rfl rfl rfl (by repeat constructor) rfl ?_; refine q_nil ?_; refine q_ret ?_)
  refine q_fin tabOk rfl (by repeat (first | exact RVs.nil | apply RVs.tmp rfl | apply RVs.cellA rfl rfl (by repeat first | exact .head _ | refine .tail _ ?_) (by rfl) | apply RVs.cell1 rfl rfl (by repeat first | exact .head _ | refine .tail _ ?_))) fun w hs => ?_
  exact ⟨rfl, hs.chg0⟩
def threeS : List Lp := [⟨2000, 60, 6⟩, ⟨2500, 90, 6⟩, ⟨3000, 100, 6⟩]
def threeR : Rl := ⟨3, 7000, 7500, 200, 270, 2000, 3000, 6, 2⟩
def threeQ : Rl := ⟨3, 7000, 7000, 200, 270, 2000, 3000, 6, 1⟩
def shortW (n : Int) : Wn := ⟨500, 800, [⟨300, 300, 100, 200, 10, 20⟩, ⟨200, 400, 300, 600, 10, 20⟩, ⟨min n 500, n, 0, 100, 10, 20⟩]⟩
theorem three_ca (w : World) : Ca Try.prog 86 [] w fun v w' => ∃ b : Nat, v = .tuple #[.slice (some ⟨b, 0, none⟩) 3 3, .agg (rlC threeR).toArray] ∧ Sat w M0 [.pt b (lpC threeS) 31] w' := by
  refine q_of (Sat.nil w M0) Try.func86 rfl (by simp [Try.ntmps86]) ?_
  (refine q_seq ?_; refine q_region ?_; refine ql_pure tabOk rfl rfl ?_)
  refine ql_alloc zero26 rfl (fun b1 => ?_)
  (refine q_nil ?_; refine q_seq ?_; refine q_region ?_)
  refine ql_mk #[.int .i64 2000, .int .i64 60, .int .i64 6] rfl (by kernel_rfl) rfl ?_
  refine ql_mk #[.int .i64 2500, .int .i64 90, .int .i64 6] rfl (by kernel_rfl) rfl ?_
  refine ql_mk #[.int .i64 3000, .int .i64 100, .int .i64 6] rfl (by kernel_rfl) rfl ?_
  refine ql_mkS 31 (lpC threeS) rfl (by kernel_rfl) rfl (fun bn => ?_)
  refine ql_callv tabOk rfl rfl rfl rfl (fun w hs => spanM_ca _ _ w) ?_
  refine ql_callv tabOk rfl rfl rfl rfl (fun w hs => spanM_ca _ _ w) ?_
  refine ql_callv tabOk rfl rfl rfl rfl (fun w hs => spanM_ca _ _ w) ?_
  refine ql_mk #[.int .i64 3, .int .i64 7000, .int .i64 7500, .int .i64 200, .int .i64 270, .int .i64 2000, .int .i64 3000, .int .i64 6, .int .i64 2] rfl (by kernel_rfl) rfl ?_
  (refine ql_pure tabOk rfl rfl ?_; refine ql_setA tabOk rfl rfl rfl rfl rfl (by repeat constructor) rfl ?_; refine q_nil ?_; refine q_ret ?_)
  refine q_fin tabOk rfl (by repeat (first | exact RVs.nil | apply RVs.tmp rfl | apply RVs.cellA rfl rfl (by repeat first | exact .head _ | refine .tail _ ?_) (by rfl) | apply RVs.cell1 rfl rfl (by repeat first | exact .head _ | refine .tail _ ?_))) fun w hs => ?_
  exact ⟨bn, rfl, hs.sp (by repeat (first | exact Sp.nil | exact Sp.refl _ | refine Sp.cons (by repeat constructor) ?_))⟩
theorem short_ca (w : World) (n : Int) : Ca Try.prog 87 [.int .i64 n] w fun v w' => ∃ b : Nat, v = .agg #[.int .i64 500, .int .i64 800, .slice (some ⟨b, 0, none⟩) 3 3] ∧ Sat w M0 [.pt b (dyC (shortW n).days) 73] w' := by
  refine q_of (Sat.nil w M0) Try.func87 rfl (by simp [Try.ntmps87]) ?_
  (refine q_seq ?_; refine q_region ?_)
  refine ql_alloc zero61 rfl (fun b2 => ?_)
  (refine q_nil ?_; refine q_seq ?_; refine q_region ?_)
  refine ql_callv tabOk rfl rfl rfl rfl (fun w hs => spanM_ca _ _ w) ?_
  refine ql_callv tabOk rfl rfl rfl rfl (fun w hs => spanM_ca _ _ w) ?_
  refine ql_callv tabOk rfl rfl rfl rfl (fun w hs => spanM_ca _ _ w) ?_
  refine ql_mk #[.int .i64 300, .int .i64 300, .int .i64 100, .int .i64 200, .int .i64 10, .int .i64 20] rfl (by kernel_rfl) rfl ?_
  refine ql_callv tabOk rfl rfl rfl rfl (fun w hs => spanM_ca _ _ w) ?_
  refine ql_callv tabOk rfl rfl rfl rfl (fun w hs => spanM_ca _ _ w) ?_
  refine ql_callv tabOk rfl rfl rfl rfl (fun w hs => spanM_ca _ _ w) ?_
  refine ql_mk #[.int .i64 200, .int .i64 400, .int .i64 300, .int .i64 600, .int .i64 10, .int .i64 20] rfl (by kernel_rfl) rfl ?_
  ((iterate 3 refine ql_pure tabOk rfl rfl ?_))
  refine ql_callv tabOk rfl rfl rfl rfl (fun w hs => spanM_ca _ _ w) ?_
  refine ql_callv tabOk rfl rfl rfl rfl (fun w hs => spanM_ca _ _ w) ?_
  refine ql_callv tabOk rfl rfl rfl rfl (fun w hs => spanM_ca _ _ w) ?_
  refine ql_mk #[.int .i64 (min n 500), .int .i64 n, .int .i64 0, .int .i64 100, .int .i64 10, .int .i64 20] rfl (by kernel_rfl) rfl ?_
  refine ql_mkS 73 (dyC (shortW n).days) rfl (by kernel_rfl) rfl (fun bn => ?_)
  refine ql_mk #[.int .i64 500, .int .i64 800, .slice (some ⟨bn, 0, none⟩) 3 3] rfl (by kernel_rfl) rfl ?_
  (refine ql_setA tabOk rfl rfl rfl rfl rfl (by repeat constructor) rfl ?_; refine q_nil ?_; refine q_ret ?_)
  refine q_fin tabOk rfl (by repeat (first | exact RVs.nil | apply RVs.tmp rfl | apply RVs.cellA rfl rfl (by repeat first | exact .head _ | refine .tail _ ?_) (by rfl) | apply RVs.cell1 rfl rfl (by repeat first | exact .head _ | refine .tail _ ?_))) fun w hs => ?_
  exact ⟨bn, rfl, hs.sp (by repeat (first | exact Sp.nil | exact Sp.refl _ | refine Sp.cons (by repeat constructor) ?_))⟩
theorem aw_all : allC threeS threeR = [[0, 0, 2], [0, 1, 1], [0, 1, 2]] := by decide +kernel
theorem aw_cr : CR threeS threeR := checkS_iff.1 (by decide +kernel)
theorem aw_cr2 : CR threeS threeQ := checkS_iff.1 (by decide +kernel)
theorem aw_brk : (brokenV threeS threeR [1, 1, 1]).2 = 0 := by decide +kernel
theorem aw_brk2 : brkL threeS threeR [1, 1, 1] = [4] := by decide +kernel
theorem aw_cheap : cheapO threeS threeR 40 (coursesL threeS.length (nL threeR)) = some [0, 1, 1] := by decide +kernel
theorem aw_snow : snowV threeS [0, 1, 1] 40 = 10800 := by decide +kernel
theorem aw_yield : yieldO threeS threeQ (coursesL threeS.length (nL threeQ)) = some [0, 1, 2] := by decide +kernel
theorem aw_yield2 : brkL threeS threeQ [0, 1, 2] = [0] := by decide +kernel
theorem aw_first : firstV (shortW 500) = (2, 0) := by decide +kernel
theorem aw_proves : provesV (shortW 500) (-1) 2 = (360, 0) := by decide +kernel
theorem aw_ranges : rangesV (shortW 500) = [(280, 390), (160, 600)] := by decide +kernel
theorem aw_right : (shortW 500).Right := checkW_iff.1 (by decide +kernel)
theorem aw_least : leastV (shortW 100) = (460, 0) := by decide +kernel
theorem aw_room : roomV (shortW 100) = (540, 0) := by decide +kernel
end Go.Proofs.Ytgeajgmefokifaa

/- Walks: awake. -/
namespace Go.Proofs.Ytgeajgmefokifaa
open Go Go.Eng

theorem blk_II {w : World} {c1 c2 c3 c4 : Nat} {t1 t2 t3 t4 : TypeId} {l1 l2 l3 : List Int} (h1 : Blk w c1 (ints l1) t1) (h2 : Blk w c2 (ints l2) t2) (h3 : Blk w c3 (ints l3) t3)
    (h4 : Blk w c4 [.slice (some ⟨c1, 0, none⟩) l1.length l1.length, .slice (some ⟨c2, 0, none⟩) l2.length l2.length, .slice (some ⟨c3, 0, none⟩) l3.length l3.length] t4) : RdII w 0 w.heap.size (.slice (some ⟨c4, 0, none⟩) 3 3) [l1, l2, l3] := by
  refine RdII.of (vs := [.slice (some ⟨c1, 0, none⟩) l1.length l1.length, .slice (some ⟨c2, 0, none⟩) l2.length l2.length, .slice (some ⟨c3, 0, none⟩) l3.length l3.length]) ((Blk.rd h4 (by simp [oneV]) 3).wide (Nat.zero_le _) h4.lt) rfl (fun i hi hi' => ?_) (by simp [oneV])
  obtain rfl | rfl | rfl : i = 0 ∨ i = 1 ∨ i = 2 := by simp at hi; omega
  · exact Blk.rdI h1
  · exact Blk.rdI h2
  · exact Blk.rdI h3

theorem lsK_rd {w0 w : World} {M : Nat → Prop} {H : List Ck} {v : Value} {xs : List (Value × List Int)} (h : Sat w0 M H w) (h1 : Ck.ow v 27 1 xs.length (xs.map (·.1)) ∈ H) (h2 : un (rowsO 3 xs) ∈ H) : RdII w 0 w.heap.size v (xs.map (·.2)) :=
  rowsO_rd (h.mem h2) (h.mem h1)
set_option maxHeartbeats 4000000 in
set_option maxRecDepth 4000 in
theorem awake_ca (w : World) : Ca Try.prog 18 [] w fun v w' => v = .bool true ∧ Chg [] w w' := by
  refine q_of (Sat.nil w M0) Try.func18 rfl (by simp [Try.ntmps18]) ?_
  (refine q_seq ?_; refine q_region ?_; refine ql_pure tabOk rfl rfl ?_; refine q_nil ?_; refine q_seq ?_; refine q_region ?_)
  refine ql_call (β := Nat) tabOk [] _ M0 rfl rfl rfl rfl (Sp.refl _) (fun _ h => h.elim) (fun w' hs => three_ca w') ?_
  rintro bs _ rfl
  (refine ql_pure tabOk rfl rfl ?_; (iterate 2 refine ql_ext tabOk rfl rfl rfl ?_))
  refine ql_alloc zero26 rfl (fun b2 => ?_)
  (refine ql_pure tabOk rfl rfl ?_; refine ql_setA tabOk rfl rfl rfl rfl rfl (by repeat constructor) rfl ?_; refine q_nil ?_; refine q_seq ?_; refine q_region ?_; refine ql_pure tabOk rfl rfl ?_; refine ql_loadAB tabOk rfl rfl rfl (by repeat first | exact .head _ | refine .tail _ ?_) (by rfl) (by rfl) ?_)
  have hS : ∀ w', Blk w' bs (lpC threeS) 31 → RdL w' 0 w'.heap.size (.slice (some ⟨bs, 0, none⟩) threeS.length 3) threeS := fun w' hb => Blk.rdL hb rfl
  refine ql_call (β := Value × List (Value × List Int)) (ψ := fun y x => x = .tuple #[y.1, .int .i64 0] ∧ y.2.map (·.2) = allC threeS threeR) tabOk [] _ M0 rfl rfl rfl rfl (Sp.refl _) (fun _ h => h.elim) (fun w' hs => all_ok w' 0 w'.heap.size (some ⟨bs, 0, none⟩) 3 threeS threeR (hS w' (hs.blk (by repeat first | exact .head _ | refine .tail _ ?_))) aw_cr (by rw [aw_all]; decide)) ?_
  rintro ⟨va, xs⟩ _ ⟨rfl, hxs⟩
  rw [aw_all] at hxs
  dsimp only at hxs
  dsimp only [lsK, List.cons_append, List.nil_append]
  refine ql_fact (fun w hs => hs.slice (v := va) (by repeat first | exact .head _ | refine .tail _ ?_)) ?_
  rintro ⟨va1, va2, va3, rfl⟩
  (refine ql_pure tabOk rfl rfl ?_; (iterate 2 refine ql_ext tabOk rfl rfl rfl ?_); (iterate 2 refine ql_pure tabOk rfl rfl ?_); refine q_nil ?_; refine q_seq ?_; refine q_region ?_; refine ql_pure tabOk rfl rfl ?_; refine ql_loadAB tabOk rfl rfl rfl (by repeat first | exact .head _ | refine .tail _ ?_) (by rfl) (by rfl) ?_)
  refine ql_mkS 3 (ints [1, 1, 1]) rfl (by kernel_rfl) rfl (fun b3 => ?_)
  refine ql_call (β := Value) tabOk [] _ M0 rfl rfl rfl rfl (Sp.refl _) (fun _ h => h.elim) (fun w' hs => brok_ok w' 0 w'.heap.size 0 w'.heap.size (some ⟨bs, 0, none⟩) 3 _ threeS threeR [1, 1, 1] (hS w' (hs.blk (by repeat first | exact .head _ | refine .tail _ ?_))) (by decide) (Blk.rdI (l := [1, 1, 1]) (c := 3) (hs.blk (b := b3) (by repeat first | exact .head _ | refine .tail _ ?_))) (by decide) aw_brk) ?_
  rintro vb _ rfl
  rw [aw_brk2]
  dsimp only [List.cons_append, List.nil_append]
  refine ql_fact (fun w hs => hs.slice (v := vb) (by repeat first | exact .head _ | refine .tail _ ?_)) ?_
  rintro ⟨vb1, vb2, vb3, rfl⟩
  (refine ql_pure tabOk rfl rfl ?_; (iterate 2 refine ql_ext tabOk rfl rfl rfl ?_); (iterate 2 refine ql_pure tabOk rfl rfl ?_); refine q_nil ?_; refine q_seq ?_; refine q_region ?_; refine ql_pure tabOk rfl rfl ?_; refine ql_loadAB tabOk rfl rfl rfl (by repeat first | exact .head _ | refine .tail _ ?_) (by rfl) (by rfl) ?_)
  refine ql_call (β := Value) tabOk [] _ M0 rfl rfl rfl rfl (Sp.refl _) (fun _ h => h.elim) (fun w' hs => cheap_ok w' 0 w'.heap.size (some ⟨bs, 0, none⟩) 3 threeS threeR 40 [0, 1, 1] (hS w' (hs.blk (by repeat first | exact .head _ | refine .tail _ ?_))) aw_cr (by decide) aw_cheap) ?_
  rintro vc _ rfl
  rw [aw_snow]
  dsimp only [List.cons_append, List.nil_append]
  refine ql_fact (fun w hs => hs.slice (v := vc) (by repeat first | exact .head _ | refine .tail _ ?_)) ?_
  rintro ⟨vc1, vc2, vc3, rfl⟩
  (refine ql_pure tabOk rfl rfl ?_; (iterate 3 refine ql_ext tabOk rfl rfl rfl ?_); (iterate 3 refine ql_pure tabOk rfl rfl ?_); refine q_nil ?_; (iterate 2 refine q_seq ?_); refine q_region ?_; refine ql_pure tabOk rfl rfl ?_; refine ql_neqF tabOk rfl rfl rfl (by omega) ?_; refine ql_pure tabOk rfl rfl ?_; refine ql_gyes rfl ?_; refine ql_pure tabOk rfl rfl ?_; refine ql_gyes rfl ?_; refine ql_neqF tabOk rfl rfl rfl (by omega) ?_; (iterate 2 refine ql_pure tabOk rfl rfl ?_); refine ql_gyes rfl ?_; refine ql_pure tabOk rfl rfl ?_; refine ql_gyes rfl ?_; refine ql_neqF tabOk rfl rfl rfl (by omega) ?_; (iterate 2 refine ql_pure tabOk rfl rfl ?_); refine ql_gyes rfl ?_; refine ql_pure tabOk rfl rfl ?_; refine ql_gyes rfl ?_)
  refine ql_mkS 3 (ints [0, 0, 2]) rfl (by kernel_rfl) rfl (fun c1 => ?_)
  refine ql_gyes rfl ?_
  refine ql_mkS 3 (ints [0, 1, 1]) rfl (by kernel_rfl) rfl (fun c2 => ?_)
  refine ql_gyes rfl ?_
  refine ql_mkS 3 (ints [0, 1, 2]) rfl (by kernel_rfl) rfl (fun c3 => ?_)
  refine ql_gyes rfl ?_
  refine ql_mkS 27 [.slice (some ⟨c1, 0, none⟩) 3 3, .slice (some ⟨c2, 0, none⟩) 3 3, .slice (some ⟨c3, 0, none⟩) 3 3] rfl (by kernel_rfl) rfl (fun c4 => ?_)
  (refine ql_gyes rfl ?_)
  refine ql_callv (val := .bool true) tabOk rfl rfl rfl rfl (fun w hs => ?_) ?_; exact eqII_ca w 0 w.heap.size 0 w.heap.size _ _ [[0, 0, 2], [0, 1, 1], [0, 1, 2]] (hxs ▸ lsK_rd (v := .slice va1 va2 va3) (xs := xs) hs (by repeat first | exact .head _ | refine .tail _ ?_) (by repeat first | exact .head _ | refine .tail _ ?_)) (blk_II (l1 := [0, 0, 2]) (l2 := [0, 1, 1]) (l3 := [0, 1, 2]) (hs.blk (b := c1) (by repeat first | exact .head _ | refine .tail _ ?_)) (hs.blk (b := c2) (by repeat first | exact .head _ | refine .tail _ ?_)) (hs.blk (b := c3) (by repeat first | exact .head _ | refine .tail _ ?_)) (hs.blk (b := c4) (by repeat first | exact .head _ | refine .tail _ ?_))) (by decide) (by decide)
  (refine ql_gyes rfl ?_; (iterate 3 refine ql_pure tabOk rfl rfl ?_); refine ql_gyes rfl ?_; refine ql_pure tabOk rfl rfl ?_; refine ql_gyes rfl ?_)
  refine ql_mkS 88 (ints [4]) rfl (by kernel_rfl) rfl (fun c5 => ?_)
  refine ql_gyes rfl ?_
  refine ql_callv (val := .bool true) tabOk rfl rfl rfl rfl (fun w hs => ?_) ?_; exact eqR_ca w 0 w.heap.size 0 w.heap.size _ _ [4] (hs.rdI (v := .slice vb1 vb2 vb3) (l := [4]) (by repeat first | exact .head _ | refine .tail _ ?_) rfl) (Blk.rdI (l := [4]) (c := 1) (hs.blk (b := c5) (by repeat first | exact .head _ | refine .tail _ ?_))) (by decide)
  (refine ql_gyes rfl ?_; (iterate 3 refine ql_pure tabOk rfl rfl ?_); refine ql_gyes rfl ?_; refine ql_pure tabOk rfl rfl ?_; refine ql_gyes rfl ?_)
  refine ql_mkS 3 (ints [0, 1, 1]) rfl (by kernel_rfl) rfl (fun c6 => ?_)
  refine ql_gyes rfl ?_
  refine ql_callv (val := .bool true) tabOk rfl rfl rfl rfl (fun w hs => ?_) ?_; exact eqI_ca w 0 w.heap.size 0 w.heap.size _ _ [0, 1, 1] (hs.rdI (v := .slice vc1 vc2 vc3) (l := [0, 1, 1]) (by repeat first | exact .head _ | refine .tail _ ?_) rfl) (Blk.rdI (l := [0, 1, 1]) (c := 3) (hs.blk (b := c6) (by repeat first | exact .head _ | refine .tail _ ?_))) (by decide)
  (refine ql_gyes rfl ?_; (iterate 3 refine ql_pure tabOk rfl rfl ?_); refine ql_gyes rfl ?_; refine ql_pure tabOk rfl rfl ?_; refine ql_gyes rfl ?_; refine ql_neqF tabOk rfl rfl rfl (by omega) ?_; refine ql_pure tabOk rfl rfl ?_; refine q_nil ?_; refine q_cond_false rfl ?_; refine q_skip ?_; refine q_seq ?_; refine q_region ?_)
  refine ql_callv tabOk rfl rfl rfl rfl (fun w hs => spanM_ca _ _ w) ?_
  (refine ql_pure tabOk rfl rfl ?_; refine ql_st8 tabOk rfl rfl rfl rfl (by repeat constructor) ?_; refine ql_pure tabOk rfl rfl ?_)
  refine ql_stA (rlC threeQ) tabOk rfl rfl rfl rfl rfl (by repeat constructor) rfl rfl ?_
  (refine q_nil ?_; refine q_seq ?_; refine q_region ?_; refine ql_pure tabOk rfl rfl ?_; refine ql_loadAB tabOk rfl rfl rfl (by repeat first | exact .head _ | refine .tail _ ?_) (by rfl) (by rfl) ?_)
  refine ql_call (β := Value × Value) tabOk [] _ M0 rfl rfl rfl rfl (Sp.refl _) (fun _ h => h.elim) (fun w' hs => yield_ok w' 0 w'.heap.size (some ⟨bs, 0, none⟩) 3 threeS threeQ [0, 1, 2] (hS w' (hs.blk (by repeat first | exact .head _ | refine .tail _ ?_))) aw_cr2 aw_yield) ?_
  rintro ⟨vy, vz⟩ _ rfl
  rw [aw_yield2]
  dsimp only [List.cons_append, List.nil_append]
  refine ql_fact (fun w hs => hs.slice (v := vy) (by repeat first | exact .head _ | refine .tail _ ?_)) ?_
  rintro ⟨vy1, vy2, vy3, rfl⟩
  refine ql_fact (fun w hs => hs.slice (v := vz) (by repeat first | exact .head _ | refine .tail _ ?_)) ?_
  rintro ⟨vz1, vz2, vz3, rfl⟩
  (refine ql_pure tabOk rfl rfl ?_; (iterate 3 refine ql_ext tabOk rfl rfl rfl ?_); (iterate 3 refine ql_pure tabOk rfl rfl ?_); refine q_nil ?_; refine q_seq ?_; refine q_region ?_)
  have hD : ∀ n w' b, Blk w' b (dyC (shortW n).days) 73 → RdD w' 0 w'.heap.size (.slice (some ⟨b, 0, none⟩) (shortW n).days.length 3) (shortW n).days := fun n w' b hb => Blk.rdD hb rfl
  refine ql_call (β := Nat) tabOk [] _ M0 rfl rfl rfl rfl (Sp.refl _) (fun _ h => h.elim) (fun w' hs => short_ca w' 500) ?_
  rintro d1 _ rfl
  refine ql_callv (val := .tuple #[.int .i64 2, .int .i64 0]) tabOk rfl rfl rfl rfl (fun w hs => ?_) ?_; exact by have := first_ca w 0 w.heap.size (shortW 500) (some ⟨d1, 0, none⟩) 3 (hD 500 w d1 (hs.blk (by repeat first | exact .head _ | refine .tail _ ?_))) (by decide); rw [aw_first] at this; exact this
  (refine ql_pure tabOk rfl rfl ?_; (iterate 2 refine ql_ext tabOk rfl rfl rfl ?_); (iterate 2 refine ql_pure tabOk rfl rfl ?_); refine q_nil ?_; refine q_seq ?_; refine q_region ?_)
  refine ql_call (β := Nat) tabOk [] _ M0 rfl rfl rfl rfl (Sp.refl _) (fun _ h => h.elim) (fun w' hs => short_ca w' 500) ?_
  rintro d2 _ rfl
  refine ql_mk #[.int .i64 (-1), .int .i64 2] rfl (by kernel_rfl) rfl ?_
  refine ql_callv (val := .tuple #[.int .i64 360, .int .i64 0]) tabOk rfl rfl rfl rfl (fun w hs => ?_) ?_; exact by have := proves_ca w 0 w.heap.size (shortW 500) (some ⟨d2, 0, none⟩) 3 (-1) 2 (hD 500 w d2 (hs.blk (by repeat first | exact .head _ | refine .tail _ ?_))) (by decide); rw [aw_proves] at this; exact this
  (refine ql_pure tabOk rfl rfl ?_; (iterate 2 refine ql_ext tabOk rfl rfl rfl ?_); (iterate 2 refine ql_pure tabOk rfl rfl ?_); refine q_nil ?_; refine q_seq ?_; refine q_region ?_)
  refine ql_call (β := Nat) tabOk [] _ M0 rfl rfl rfl rfl (Sp.refl _) (fun _ h => h.elim) (fun w' hs => short_ca w' 500) ?_
  rintro d3 _ rfl
  refine ql_call (β := Value) tabOk [] _ M0 rfl rfl rfl rfl (Sp.refl _) (fun _ h => h.elim) (fun w' hs => ranges_ok w' 0 w'.heap.size (shortW 500) (some ⟨d3, 0, none⟩) 3 (hD 500 w' d3 (hs.blk (by repeat first | exact .head _ | refine .tail _ ?_))) aw_right) ?_
  rintro vx _ rfl
  rw [aw_ranges]
  dsimp only [List.cons_append, List.nil_append]
  refine ql_fact (fun w hs => hs.slice (v := vx) (by repeat first | exact .head _ | refine .tail _ ?_)) ?_
  rintro ⟨vx1, vx2, vx3, rfl⟩
  (refine ql_pure tabOk rfl rfl ?_; (iterate 2 refine ql_ext tabOk rfl rfl rfl ?_); (iterate 2 refine ql_pure tabOk rfl rfl ?_); refine q_nil ?_; (iterate 2 refine q_seq ?_); refine q_region ?_; refine ql_pure tabOk rfl rfl ?_; refine ql_neqF tabOk rfl rfl rfl (by omega) ?_; refine ql_pure tabOk rfl rfl ?_; refine ql_gyes rfl ?_; refine ql_pure tabOk rfl rfl ?_; refine ql_gyes rfl ?_; refine ql_neqF tabOk rfl rfl rfl (by omega) ?_; (iterate 2 refine ql_pure tabOk rfl rfl ?_); refine ql_gyes rfl ?_; refine ql_pure tabOk rfl rfl ?_; refine ql_gyes rfl ?_; refine ql_neqF tabOk rfl rfl rfl (by omega) ?_; (iterate 2 refine ql_pure tabOk rfl rfl ?_); refine ql_gyes rfl ?_; refine ql_pure tabOk rfl rfl ?_; refine ql_gyes rfl ?_; refine ql_neqF tabOk rfl rfl rfl (by omega) ?_; (iterate 2 refine ql_pure tabOk rfl rfl ?_); refine ql_gyes rfl ?_; refine ql_pure tabOk rfl rfl ?_; refine ql_gyes rfl ?_)
  refine ql_mkS 88 (ints [0]) rfl (by kernel_rfl) rfl (fun c7 => ?_)
  refine ql_gyes rfl ?_
  refine ql_callv (val := .bool true) tabOk rfl rfl rfl rfl (fun w hs => ?_) ?_; exact eqR_ca w 0 w.heap.size 0 w.heap.size _ _ [0] (hs.rdI (v := .slice vy1 vy2 vy3) (l := [0]) (by repeat first | exact .head _ | refine .tail _ ?_) rfl) (Blk.rdI (l := [0]) (c := 1) (hs.blk (b := c7) (by repeat first | exact .head _ | refine .tail _ ?_))) (by decide)
  (refine ql_gyes rfl ?_; (iterate 3 refine ql_pure tabOk rfl rfl ?_); refine ql_gyes rfl ?_; refine ql_pure tabOk rfl rfl ?_; refine ql_gyes rfl ?_)
  refine ql_mkS 3 (ints [0, 1, 2]) rfl (by kernel_rfl) rfl (fun c8 => ?_)
  refine ql_gyes rfl ?_
  refine ql_callv (val := .bool true) tabOk rfl rfl rfl rfl (fun w hs => ?_) ?_; exact eqI_ca w 0 w.heap.size 0 w.heap.size _ _ [0, 1, 2] (hs.rdI (v := .slice vz1 vz2 vz3) (l := [0, 1, 2]) (by repeat first | exact .head _ | refine .tail _ ?_) rfl) (Blk.rdI (l := [0, 1, 2]) (c := 3) (hs.blk (b := c8) (by repeat first | exact .head _ | refine .tail _ ?_))) (by decide)
  (refine ql_gyes rfl ?_; (iterate 3 refine ql_pure tabOk rfl rfl ?_); refine ql_gyes rfl ?_; refine ql_pure tabOk rfl rfl ?_; refine ql_gyes rfl ?_; refine ql_neqF tabOk rfl rfl rfl (by omega) ?_; (iterate 2 refine ql_pure tabOk rfl rfl ?_); refine ql_gyes rfl ?_; refine ql_pure tabOk rfl rfl ?_; refine ql_gyes rfl ?_; refine ql_neqF tabOk rfl rfl rfl (by omega) ?_; (iterate 2 refine ql_pure tabOk rfl rfl ?_); refine ql_gyes rfl ?_; refine ql_pure tabOk rfl rfl ?_; refine ql_gyes rfl ?_)
  refine ql_mk #[.int .i64 280, .int .i64 390] rfl (by kernel_rfl) rfl ?_
  refine ql_gyes rfl ?_
  refine ql_mk #[.int .i64 160, .int .i64 600] rfl (by kernel_rfl) rfl ?_
  refine ql_gyes rfl ?_
  refine ql_mkS 24 (spC [(280, 390), (160, 600)]) rfl (by kernel_rfl) rfl (fun c9 => ?_)
  refine ql_gyes rfl ?_
  refine ql_callv (val := .bool true) tabOk rfl rfl rfl rfl (fun w hs => ?_) ?_; exact eqS_ca w 0 w.heap.size 0 w.heap.size _ _ [(280, 390), (160, 600)] (own_rdS (t := 24) (hs.mem (c := .ow (.slice vx1 vx2 vx3) 24 2 2 (spC [(280, 390), (160, 600)])) (by repeat first | exact .head _ | refine .tail _ ?_)) rfl) (Blk.rdS (l := [(280, 390), (160, 600)]) (c := 2) (hs.blk (b := c9) (by repeat first | exact .head _ | refine .tail _ ?_)) rfl) (by decide)
  (refine ql_gyes rfl ?_; (iterate 2 refine ql_pure tabOk rfl rfl ?_); refine q_nil ?_; refine q_cond_false rfl ?_; refine q_skip ?_; refine q_seq ?_; refine q_region ?_)
  refine ql_call (β := Nat) tabOk [] _ M0 rfl rfl rfl rfl (Sp.refl _) (fun _ h => h.elim) (fun w' hs => short_ca w' 100) ?_
  rintro d4 _ rfl
  refine ql_callv (val := .tuple #[.int .i64 460, .int .i64 0]) tabOk rfl rfl rfl rfl (fun w hs => ?_) ?_; exact by have := least_ca w 0 w.heap.size (shortW 100) (some ⟨d4, 0, none⟩) 3 (hD 100 w d4 (hs.blk (by repeat first | exact .head _ | refine .tail _ ?_))) (by decide); rw [aw_least] at this; exact this
  (refine ql_pure tabOk rfl rfl ?_; (iterate 2 refine ql_ext tabOk rfl rfl rfl ?_); (iterate 2 refine ql_pure tabOk rfl rfl ?_); refine q_nil ?_; refine q_seq ?_; refine q_region ?_)
  refine ql_call (β := Nat) tabOk [] _ M0 rfl rfl rfl rfl (Sp.refl _) (fun _ h => h.elim) (fun w' hs => short_ca w' 100) ?_
  rintro d5 _ rfl
  refine ql_callv (val := .tuple #[.int .i64 540, .int .i64 0]) tabOk rfl rfl rfl rfl (fun w hs => ?_) ?_; exact by have := room_ca w 0 w.heap.size (shortW 100) (some ⟨d5, 0, none⟩) 3 (hD 100 w d5 (hs.blk (by repeat first | exact .head _ | refine .tail _ ?_))) (by decide); rw [aw_room] at this; exact this
  (refine ql_pure tabOk rfl rfl ?_; (iterate 2 refine ql_ext tabOk rfl rfl rfl ?_); (iterate 2 refine ql_pure tabOk rfl rfl ?_); refine q_nil ?_; refine q_seq ?_; refine q_region ?_; refine ql_pure tabOk rfl rfl ?_; refine ql_eqlT tabOk rfl rfl rfl (by omega) ?_; refine ql_pure tabOk rfl rfl ?_; refine ql_gyes rfl ?_; refine ql_pure tabOk rfl rfl ?_; refine ql_gyes rfl ?_; refine ql_eqlT tabOk rfl rfl rfl (by omega) ?_; (iterate 2 refine ql_pure tabOk rfl rfl ?_); refine ql_gyes rfl ?_; refine ql_pure tabOk rfl rfl ?_; refine ql_gyes rfl ?_; refine ql_eqlT tabOk rfl rfl rfl (by omega) ?_; (iterate 2 refine ql_pure tabOk rfl rfl ?_); refine ql_gyes rfl ?_; refine ql_pure tabOk rfl rfl ?_; refine ql_gyes rfl ?_; refine ql_eqlT tabOk rfl rfl rfl (by omega) ?_; (iterate 2 refine ql_pure tabOk rfl rfl ?_); refine q_nil ?_; refine q_ret ?_)
  refine q_fin tabOk rfl (by repeat (first | exact RVs.nil | apply RVs.tmp rfl | apply RVs.cellA rfl rfl (by repeat first | exact .head _ | refine .tail _ ?_) (by rfl) | apply RVs.cell1 rfl rfl (by repeat first | exact .head _ | refine .tail _ ?_))) fun w hs => ?_
  exact ⟨rfl, hs.chg0⟩
end Go.Proofs.Ytgeajgmefokifaa

/- Walks: klisterkit's deck. Only the ranges of what it deals are told. -/
namespace Go.Proofs.Ytgeajgmefokifaa
open Go Go.Eng

section
attribute [local irreducible] IntKind.wrap Int.tmod Int.tdiv

/-- The deck's own variable, after at most K cards. -/
def DkS (w : World) (b : Nat) (bs : Value) (K : Nat) : Prop :=
  ∃ next st, Blk w b [bs, .int .i64 next, .int .u32 st] 165 ∧ 0 ≤ next ∧ next ≤ K ∧ 0 ≤ st ∧ st < 4294967296
/-- Its bytes. -/
def DkB (w : World) (lo hi : Nat) (bs : Value) : Prop := ∃ nb cs, Rd w lo hi bs 1 nb cs ∧ (∀ c ∈ cs, ∃ x, c = .int .u8 x ∧ 0 ≤ x ∧ x < 256)
theorem DkB.keep {w w' : World} {lo hi : Nat} {bs : Value} (h : DkB w lo hi bs) (c : Chg [] w w') : DkB w' lo hi bs := by
  obtain ⟨nb, cs, h1, h2⟩ := h
  exact ⟨nb, cs, h1.keep c, h2⟩

set_option maxHeartbeats 1000000 in
theorem draw_ca (n : Int) (K : Nat) (hK : K < 4611686018427387904) (w : World) (b lo hi : Nat) (bs : Value) (hby : DkB w lo hi bs) (hlh : hi ≤ b) (hd : DkS w b bs K) :
    Ca Try.prog 39 [.pointer (some ⟨b, 0, none⟩), .int .i64 n] w fun v w' => ∃ r, v = .int .i64 r ∧ 0 ≤ r ∧ (r < n ∨ r = 0) ∧ Chg [b] w w' ∧ w'.heap.size = w.heap.size ∧ DkS w' b bs (K + 1) := by
  obtain ⟨nb, cs, hrd, hcs⟩ := hby
  obtain ⟨next, st, hb, hn0, hnK, hs0, hs1⟩ := hd
  have hd : DkS w b bs (K + 1) := ⟨next, st, hb, hn0, by omega, hs0, hs1⟩
  obtain ⟨a, cap, rfl, hsl⟩ := hrd.out
  refine ca_of Try.func39 rfl (by simp [Try.ntmps39]) ?_
  (refine y_seq ?_; refine y_region ?_; refine yl_pure tabOk rfl rfl ?_; (iterate 2 refine y_seq ?_); refine y_region ?_; (iterate 3 refine yl_pure tabOk rfl rfl ?_))
  refine yl_split rfl rfl (fun hc => ?_) (fun hc => ?_)
  · ((iterate 6 refine yl_guard_no rfl rfl rfl ?_); refine yl_pure tabOk rfl rfl ?_; refine y_cond_true rfl ?_; refine y_seq ?_; refine y_region ?_; refine yl_pure tabOk rfl rfl ?_; refine y_ret ?_)
    exact y_fin1 rfl rfl ⟨0, rfl, by omega, .inr rfl, Chg.refl _ _, rfl, hd⟩
  (refine yl_guard_yes rfl ?_; refine yl_pure tabOk rfl rfl ?_; refine yl_guard_yes rfl ?_; refine yl_pure tabOk rfl rfl ?_; refine yl_guard_yes rfl ?_; refine yl_pure tabOk rfl rfl ?_; refine yl_guard_yes rfl ?_; refine yl_loadB tabOk rfl rfl rfl (by assumption) (by rfl) ?_; refine yl_guard_yes rfl ?_; refine yl_pure tabOk rfl rfl ?_; refine yl_guard_yes rfl ?_; (iterate 2 refine yl_pure tabOk rfl rfl ?_); refine yl_nil ?_)
  have hn := of_decide_eq_false hc
  refine y_if rfl (fun hc => ?_) (fun hc => ?_)
  · (refine y_seq ?_; refine y_region ?_; refine yl_pure tabOk rfl rfl ?_; refine y_ret ?_)
    exact y_fin1 rfl rfl ⟨0, rfl, by omega, .inr rfl, Chg.refl _ _, rfl, hd⟩
  have hnb : 0 < nb := by omega
  obtain ⟨bb, off, rfl, hcell⟩ := hsl hnb
  (refine y_skip ?_; refine y_seq ?_)
  refine y_draw [] (by kernel_rfl) (by kernel_rfl) (fun w1 hc1 hs1 => ?_)
  have hb1 := hb.keep hc1
  ((iterate 3 refine yf_pure tabOk rfl rfl rfl ?_); refine yf_loadB tabOk rfl rfl rfl (by assumption) (by first | assumption | simp) (by rfl) ?_; (iterate 3 refine yf_pure tabOk rfl rfl rfl ?_); refine yf_loadB tabOk rfl rfl rfl (by assumption) (by first | assumption | simp) (by rfl) ?_; (iterate 3 refine yf_pure tabOk rfl rfl rfl ?_); refine yf_loadB tabOk rfl rfl rfl (by assumption) (by first | assumption | simp) (by rfl) ?_; refine yf_pure tabOk rfl rfl rfl ?_)
  have hlen : cs.length = nb := by have := hrd.1; omega
  have hm := tmod_pos hn0 (by omega : (0 : Int) < nb)
  refine yf_rem rfl rfl (by omega) rfl ?_
  refine yf_index tabOk rfl rfl rfl rfl rfl hm.1 hm.2 ?_
  obtain ⟨x, hx, hx0, hx1⟩ := hcs (cs[(next.tmod nb).toNat]'(by omega)) (List.getElem_mem _)
  refine yf_load1 tabOk rfl rfl rfl (fun w' hw' => ?_) (v := .int .u8 x) ?_
  · have h1 := ((hrd.keep hc1).keep hw').cell rfl (next.tmod nb).toNat (by omega)
    rw [Nat.mul_one, h1, List.getElem?_eq_getElem (by omega), hx]
  ((iterate 4 refine yf_pure tabOk rfl rfl rfl ?_); refine yf_loadB tabOk rfl rfl rfl (by assumption) (by first | assumption | simp) (by rfl) ?_; (iterate 3 refine yf_pure tabOk rfl rfl rfl ?_); refine yf_loadB tabOk rfl rfl rfl (by assumption) (by first | assumption | simp) (by rfl) ?_; refine yf_pure tabOk rfl rfl rfl ?_)
  refine yf_quo rfl rfl (by omega) rfl ?_
  ((iterate 3 refine yf_pure tabOk rfl rfl rfl ?_); refine y_seq ?_; refine y_region ?_; (iterate 3 refine yl_pure tabOk rfl rfl ?_); refine yl_loadB tabOk rfl rfl rfl (by assumption) (by rfl) ?_; (iterate 3 refine yl_pure tabOk rfl rfl ?_))
  refine yl_store1 tabOk rfl rfl rfl rfl (by assumption) (by simp) (fun w2 hc2 hs2 hb2 => ?_)
  (refine y_seq ?_; refine y_region ?_; (iterate 4 refine yl_pure tabOk rfl rfl ?_); refine yl_loadB tabOk rfl rfl rfl (by assumption) (by rfl) ?_; (iterate 7 refine yl_pure tabOk rfl rfl ?_))
  refine yl_rem rfl rfl (by omega) rfl ?_
  ((iterate 2 refine yl_pure tabOk rfl rfl ?_))
  refine yl_store1 tabOk rfl rfl rfl rfl (by assumption) (by simp) (fun w3 hc3 hs3 hb3 => ?_)
  have hc03 : Chg [b] w w3 := (hc1.nil.trans hc2).trans hc3
  generalize hq : IntKind.u32.wrap (IntKind.i64.wrap (next.tdiv nb)) = q at *
  clear hq
  generalize hz : Int.tmod _ 65519 = z at *
  have hz0 : 0 ≤ z ∧ z < 65519 := by rw [← hz]; exact tmod_pos (wu32_range _).1 (by omega)
  clear hz
  have hd3 : DkS w3 b (.slice (some ⟨bb, off, none⟩) nb cap) (K + 1) := by
    refine ⟨next + 1, z, ?_, by omega, by omega, hz0.1, by omega⟩
    rw [w64 (by omega) (by omega)] at hb3
    exact hb3
  have hfin : ∀ y : Int, ∃ r, Value.int .i64 ((IntKind.i64.wrap (IntKind.u32.wrap y)).tmod n) = .int .i64 r ∧ 0 ≤ r ∧ (r < n ∨ r = 0) ∧ Chg [b] w w3 ∧ w3.heap.size = w.heap.size ∧ DkS w3 b (.slice (some ⟨bb, off, none⟩) nb cap) (K + 1) := by
    intro y
    have h1 := wu32_range y
    have h2 : IntKind.i64.wrap (IntKind.u32.wrap y) = IntKind.u32.wrap y := w64 (by omega) (by omega)
    rw [h2]
    have h3 := tmod_pos h1.1 (by omega : (0 : Int) < n)
    exact ⟨_, rfl, h3.1, .inl h3.2, hc03, by omega, hd3⟩
  ((iterate 2 refine y_seq ?_); refine y_region ?_; (iterate 3 refine yl_pure tabOk rfl rfl ?_))
  refine yl_split rfl rfl (fun hc => ?_) (fun hc => ?_)
  · (refine yl_guard_yes rfl ?_; refine yl_pure tabOk rfl rfl ?_; refine yl_guard_yes rfl ?_; (iterate 2 refine yl_pure tabOk rfl rfl ?_); refine yl_nil ?_)
    refine y_if rfl (fun hc => ?_) (fun hc => ?_)
    · (refine y_seq ?_; refine y_region ?_; (iterate 3 refine yl_pure tabOk rfl rfl ?_))
      refine yl_rem rfl rfl (by omega) rfl ?_
      (refine yl_pure tabOk rfl rfl ?_; refine y_ret ?_)
      exact y_fin1 rfl rfl (hfin _)
    · (refine y_skip ?_; refine y_seq ?_; refine y_region ?_; (iterate 3 refine yl_pure tabOk rfl rfl ?_); refine yl_loadB tabOk rfl rfl rfl (by assumption) (by rfl) ?_; (iterate 5 refine yl_pure tabOk rfl rfl ?_))
      refine yl_rem rfl rfl (by omega) rfl ?_
      (refine yl_pure tabOk rfl rfl ?_; refine y_ret ?_)
      exact y_fin1 rfl rfl (hfin _)
  · ((iterate 2 refine yl_guard_no rfl rfl rfl ?_); refine yl_pure tabOk rfl rfl ?_; refine y_cond_false rfl ?_; refine y_skip ?_; refine y_seq ?_; refine y_region ?_; (iterate 3 refine yl_pure tabOk rfl rfl ?_); refine yl_loadB tabOk rfl rfl rfl (by assumption) (by rfl) ?_; (iterate 5 refine yl_pure tabOk rfl rfl ?_))
    refine yl_rem rfl rfl (by omega) rfl ?_
    (refine yl_pure tabOk rfl rfl ?_; refine y_ret ?_)
    exact y_fin1 rfl rfl (hfin _)


end
/-- A deck, after at most K cards. -/
def dkP (bs : Value) (b K : Nat) : Ck := .gn (fun x => x = b) (fun w => DkS w b bs K) (fun w w' N h hc hN => by
  obtain ⟨next, st, h1, h2⟩ := h
  exact ⟨next, st, (hc.block b h1.lt (hN b rfl)).trans h1, h2⟩)

theorem drawP_ca (n : Int) (K : Nat) (hK : K < 4611686018427387904) (w : World) (b lo hi : Nat) (bs : Value) (hby : DkB w lo hi bs) (hlh : hi ≤ b) (hd : DkS w b bs K) :
    Ca Try.prog 39 [.pointer (some ⟨b, 0, none⟩), .int .i64 n] w fun v w' => ∃ x : Int, (v = .int .i64 x ∧ 0 ≤ x ∧ (x < n ∨ x = 0)) ∧ Sat w (fun x => x = b) [dkP bs b (K + 1)] w' :=
  (draw_ca n K hK w b lo hi bs hby hlh hd).mono fun v w' ⟨r, h1, h2, h3, h4, h5, h6⟩ =>
    ⟨r, ⟨h1, h2, h3⟩, ⟨h4.os, h4.tape, h4.output, h4.size, fun k hk hkb => h4.block k hk (by simpa using hkb)⟩, by simpa [dkP, Ck.p] using h6, .cons (by simp) .nil, fun c hc x hx => by
      obtain rfl : c = dkP bs b (K + 1) := by simpa using hc
      obtain rfl : x = b := hx
      obtain ⟨_, _, h7, _⟩ := h6
      exact ⟨h7.lt, .inl rfl⟩⟩



theorem dk_sat {w : World} {b K : Nat} {bs : Value} (hd : DkS w b bs K) : Sat w (fun x => x = b) [dkP bs b K] w :=
  ⟨ChgP.refl _ _, by simpa [dkP, Ck.p] using hd, .cons (by simp) .nil, fun c hc x hx => by
    obtain rfl : c = dkP bs b K := by simpa using hc
    obtain rfl : x = b := hx
    obtain ⟨_, _, h7, _⟩ := hd
    exact ⟨h7.lt, .inl rfl⟩⟩

theorem between_ca (l h : Int) (hl : -1000000 ≤ l) (hh : h ≤ 1000000) (hlh2 : l ≤ h) (K : Nat) (hK : K < 4611686018427387904) (w : World) (b lo hi : Nat) (bs : Value) (hby : DkB w lo hi bs) (hlh : hi ≤ b) (hd : DkS w b bs K) :
    Ca Try.prog 38 [.pointer (some ⟨b, 0, none⟩), .int .i64 l, .int .i64 h] w fun v w' => ∃ x : Int, (v = .int .i64 x ∧ l ≤ x ∧ x ≤ h) ∧ Sat w (fun x => x = b) [dkP bs b (K + 1)] w' := by
  refine q_of (dk_sat hd) Try.func38 rfl (by simp [Try.ntmps38]) ?_
  (refine q_seq ?_; refine q_region ?_; refine ql_pure tabOk rfl rfl ?_; refine q_nil ?_; refine q_seq ?_; refine q_region ?_; (iterate 4 refine ql_pure tabOk rfl rfl ?_); (iterate 2 refine ql_ar tabOk rfl rfl rfl rfl (by omega) (by omega) ?_))
  refine ql_call (β := Int) (ψ := fun x v => v = .int .i64 x ∧ 0 ≤ x ∧ (x < h - l + 1 ∨ x = 0)) (L' := fun _ => [dkP bs b (K + 1)]) tabOk [dkP bs b K] [] (fun x => x = b) rfl rfl rfl rfl (Sp.refl _) (fun x hx => ⟨_, .head _, hx⟩) (fun w' hs => drawP_ca (h - l + 1) K hK w' b lo hi bs (by
    obtain ⟨nb, cs, h1, h2⟩ := hby
    exact ⟨nb, cs, h1.chg (N := [b]) ⟨hs.chg.os, hs.chg.tape, hs.chg.output, hs.chg.size, fun k hk hkb => hs.chg.block k hk (by simpa using hkb)⟩ (fun k hk => .inr (by simp at hk; omega)), h2⟩) hlh (hs.all _ (.head _))) ?_
  rintro x _ ⟨rfl, hx0, hx1⟩
  (refine ql_ar tabOk rfl rfl rfl rfl (by omega) (by omega) ?_; refine ql_pure tabOk rfl rfl ?_; refine q_nil ?_; refine q_ret ?_)
  refine q_fin tabOk rfl (by repeat (first | exact RVs.nil | apply RVs.tmp rfl | apply RVs.cellA rfl rfl (by repeat first | exact .head _ | refine .tail _ ?_) (by rfl) | apply RVs.cell1 rfl rfl (by repeat first | exact .head _ | refine .tail _ ?_))) fun w hs => ?_
  exact ⟨_, ⟨rfl, by omega, by omega⟩, hs⟩



theorem of_ca (w : World) (a : Option Addr) (n c : Nat) : Ca Try.prog 36 [.slice a n c] w fun v w' => ∃ b : Nat, v = .pointer (some ⟨b, 0, none⟩) ∧ Sat w M0 [dkP (.slice a n c) b 0] w' := by
  refine q_of (Sat.nil w M0) Try.func36 rfl (by simp [Try.ntmps36]) ?_
  (refine q_seq ?_; refine q_region ?_; refine ql_pure tabOk rfl rfl ?_; refine q_nil ?_; refine q_seq ?_; refine q_region ?_; refine ql_pure tabOk rfl rfl ?_)
  refine ql_mk #[.slice a n c, .int .i64 0, .int .u32 17] rfl (by kernel_rfl) rfl ?_
  skip
  refine ql_box rfl rfl (fun b1 => ?_)
  (refine ql_pure tabOk rfl rfl ?_; refine q_nil ?_; refine q_ret ?_)
  refine q_fin tabOk rfl (by repeat (first | exact RVs.nil | apply RVs.tmp rfl | apply RVs.cellA rfl rfl (by repeat first | exact .head _ | refine .tail _ ?_) (by rfl) | apply RVs.cell1 rfl rfl (by repeat first | exact .head _ | refine .tail _ ?_))) fun w hs => ?_
  refine ⟨b1, rfl, ⟨hs.chg, fun d hd => ?_, .cons (by simp) .nil, fun d hd x hx => ?_⟩⟩
  · obtain rfl : d = dkP (.slice a n c) b1 0 := by simpa using hd
    exact ⟨0, 17, hs.all _ (.head _), by omega, by omega, by omega, by omega⟩
  · obtain rfl : d = dkP (.slice a n c) b1 0 := by simpa using hd
    obtain rfl : x = b1 := hx
    exact hs.bd _ (.head _) x rfl



theorem DkB.keepP {w w' : World} {lo hi b : Nat} {bs : Value} (h : DkB w lo hi bs) (hlh : hi ≤ b) (hc : ChgP (fun x => x = b) w w') : DkB w' lo hi bs := by
  obtain ⟨nb, cs, h1, h2⟩ := h
  exact ⟨nb, cs, h1.chg (N := [b]) ⟨hc.os, hc.tape, hc.output, hc.size, fun k hk hkb => hc.block k hk (by simpa using hkb)⟩ (fun k hk => .inr (by simp at hk; omega)), h2⟩
theorem DkS.mono {w : World} {b K K' : Nat} {bs : Value} (h : DkS w b bs K) (hk : K ≤ K') : DkS w b bs K' := by
  obtain ⟨next, st, h1, h2, h3, h4⟩ := h
  exact ⟨next, st, h1, h2, by omega, h4⟩
theorem Sat.dk {w0 w : World} {M : Nat → Prop} {R : List Ck} {b K K' : Nat} {bs : Value} (h : Sat w0 M (dkP bs b K :: R) w) (hk : K ≤ K') : Sat w0 M (dkP bs b K' :: R) w := h.turn (fun _ h => h) (fun h => DkS.mono h hk)



section
variable {K b : Nat} {bs : Value} {w0 w : World} {R : List Ck}
theorem dk_new (hs : Sat w0 M0 (dkP bs b K :: R) w) : w0.heap.size ≤ b := (hs.bd _ (.head _) b rfl).2.resolve_left (fun h => h)
end
end Go.Proofs.Ytgeajgmefokifaa

/- Walks: a winter is made of numbers. -/
namespace Go.Proofs.Ytgeajgmefokifaa
open Go Go.Eng

structure DayB (d : Dy) : Prop where
  n : 0 ≤ d.n0 ∧ d.n0 ≤ 29 ∧ d.n0 ≤ d.n1 ∧ d.n1 ≤ d.n0 + 11
  m : 0 ≤ d.m0 ∧ d.m0 ≤ 39 ∧ d.m0 ≤ d.m1 ∧ d.m1 ≤ d.m0 + 19
  l : 0 ≤ d.l0 ∧ d.l0 ≤ 5 ∧ d.l0 ≤ d.l1 ∧ d.l1 ≤ d.l0 + 3
/-- What MadeWinter makes. -/
structure WinB (days : Nat) (x : Wn) : Prop where
  store : 20 ≤ x.store ∧ x.store ≤ 200
  stock : 0 ≤ x.stock ∧ x.stock ≤ x.store
  d1 : 1 ≤ x.days.length
  d2 : x.days.length ≤ days
  days : ∀ d ∈ x.days, DayB d
theorem WinB.right {days : Nat} {x : Wn} (h : WinB days x) (hd : days ≤ 60) : x.Right := by
  have h1 := h.store
  have h2 := h.d2
  refine ⟨by omega, h.stock, h.d1, by omega, fun d hdm => ?_⟩
  have := h.days d hdm
  have a := this.n
  have b := this.m
  have c := this.l
  exact ⟨by omega, by omega, by omega⟩
theorem coin_ca (n : Int) (hn : 1 ≤ n) (K : Nat) (hK : K < 1000000) (w : World) (b lo hi : Nat) (bs : Value) (hby : DkB w lo hi bs) (hlh : hi ≤ b) (hd : DkS w b bs K) :
    Ca Try.prog 103 [.pointer (some ⟨b, 0, none⟩), .int .i64 n] w fun v w' => ∃ x : Bool, v = .bool x ∧ Sat w (fun x => x = b) [dkP bs b (K + 1)] w' := by
  refine q_of (dk_sat hd) Try.func103 rfl (by simp [Try.ntmps103]) ?_
  (refine q_seq ?_; refine q_region ?_; refine ql_pure tabOk rfl rfl ?_; refine q_nil ?_; refine q_seq ?_; refine q_region ?_; (iterate 2 refine ql_pure tabOk rfl rfl ?_))
  refine ql_call (β := Int) (ψ := fun x v => v = .int .i64 x ∧ 0 ≤ x ∧ (x < n ∨ x = 0)) (L' := fun _ => [dkP bs b (K + 1)]) tabOk [dkP bs b (K)] _ (fun x => x = b) rfl rfl rfl rfl (Sp.cons (by repeat constructor) (Sp.refl _)) (fun x hx => ⟨_, .head _, hx⟩) (fun w' hs => drawP_ca (n) (K) (by omega) w' b lo hi bs (hby.keepP hlh hs.chg) hlh (hs.all _ (.head _))) ?_; rintro x _ ⟨rfl, hx⟩
  ((iterate 2 refine ql_pure tabOk rfl rfl ?_); refine q_nil ?_; refine q_ret ?_)
  refine q_fin tabOk rfl (by repeat (first | exact RVs.nil | apply RVs.tmp rfl | apply RVs.cellA rfl rfl (by repeat first | exact .head _ | refine .tail _ ?_) (by rfl) | apply RVs.cell1 rfl rfl (by repeat first | exact .head _ | refine .tail _ ?_))) fun w hs => ?_
  exact ⟨_, rfl, hs⟩

theorem dyC_snoc (l : List Dy) (d : Dy) : dyC (l ++ [d]) = dyC l ++ dyC [d] := by simp [dyC]
theorem dyC_one (l : List Dy) : ∀ c ∈ dyC l, oneV c = true := fun c hc => by obtain ⟨y, _, hy⟩ := List.mem_flatMap.1 hc; simp at hy; rcases hy with rfl | rfl | rfl | rfl | rfl | rfl <;> rfl
theorem slD : SlT Try.prog 59 73 6 48 (.agg #[.int .i64 0, .int .i64 0, .int .i64 0, .int .i64 0, .int .i64 0, .int .i64 0]) := ⟨by kernel_rfl, by kernel_rfl, by kernel_rfl, by decide⟩
theorem Blk.rdDy {w : World} {b : Nat} {d : Dy} {t : TypeId} (h : Blk w b (dyC [d]) t) : Rd w b (b + 1) (.slice (some ⟨b, 0, none⟩) 1 1) 6 1 (dyC [d]) :=
  ⟨rfl, .inr ⟨b, 0, 1, rfl, fun _ => ⟨Nat.le_refl _, Nat.lt_succ_self _, h.lt⟩, fun j _ => by rw [Blk.cell h]; simp⟩⟩
/-- The spans made so far. -/
structure DayI (i : Nat) (d : Dy) : Prop where
  n : 1 ≤ i → 0 ≤ d.n0 ∧ d.n0 ≤ 29 ∧ d.n0 ≤ d.n1 ∧ d.n1 ≤ d.n0 + 11
  m : 2 ≤ i → 0 ≤ d.m0 ∧ d.m0 ≤ 39 ∧ d.m0 ≤ d.m1 ∧ d.m1 ≤ d.m0 + 19
  l : 3 ≤ i → 0 ≤ d.l0 ∧ d.l0 ≤ 5 ∧ d.l0 ≤ d.l1 ∧ d.l1 ≤ d.l0 + 3

set_option maxHeartbeats 4000000 in
theorem madeW_ca (days : Nat) (h1 : 1 ≤ days) (h2 : days ≤ 60) (K : Nat) (hK : K < 100000) (w : World) (b lo hi : Nat) (bs : Value) (hby : DkB w lo hi bs) (hlh : hi ≤ b) (hd : DkS w b bs K) :
    Ca Try.prog 35 [.pointer (some ⟨b, 0, none⟩), .int .i64 days] w fun v w' => ∃ y : Nat × Nat × Wn, (v = .agg (wnC y.2.2 (some ⟨y.1, 0, none⟩) y.2.1).toArray ∧ WinB days y.2.2) ∧ Sat w (fun x => x = b) [.ow (.slice (some ⟨y.1, 0, none⟩) y.2.2.days.length y.2.1) 73 6 y.2.2.days.length (dyC y.2.2.days), dkP bs b (K + 1000)] w' := by
  refine q_of (dk_sat hd) Try.func35 rfl (by simp [Try.ntmps35]) ?_
  (refine q_seq ?_; refine q_region ?_)
  refine ql_alloc zero61 rfl (fun b4 => ?_)
  (refine q_nil ?_; refine q_seq ?_; refine q_region ?_; refine ql_pure tabOk rfl rfl ?_)
  refine ql_call (β := Int) (ψ := fun x v => v = .int .i64 x ∧ 20 ≤ x ∧ x ≤ 200) (L' := fun _ => [dkP bs b (K + 1)]) tabOk [dkP bs b (K)] _ (fun x => x = b) rfl rfl rfl rfl (Sp.cons (by repeat constructor) (Sp.refl _)) (fun x hx => ⟨_, .head _, hx⟩) (fun w' hs => between_ca (20) (200) (by omega) (by omega) (by omega) (K) (by omega) w' b lo hi bs (hby.keepP hlh hs.chg) hlh (hs.all _ (.head _))) ?_; rintro sto _ ⟨rfl, hsto⟩
  refine ql_mk #[.int .i64 0, .int .i64 sto, .slice none 0 0] rfl (by kernel_rfl) rfl ?_
  refine ql_alloc zero61 rfl (fun b5 => ?_)
  (refine ql_setA tabOk rfl rfl rfl rfl rfl (by repeat constructor) rfl ?_; refine q_nil ?_; refine q_seq ?_; refine q_region ?_; (iterate 2 refine ql_pure tabOk rfl rfl ?_); refine ql_loadB tabOk rfl rfl rfl (by repeat first | exact .head _ | refine .tail _ ?_) (by rfl) ?_; refine ql_ar tabOk rfl rfl rfl rfl (by omega) (by omega) ?_)
  refine ql_call (β := Int) (ψ := fun x v => v = .int .i64 x ∧ 0 ≤ x ∧ (x < sto + 1 ∨ x = 0)) (L' := fun _ => [dkP bs b (K + 1 + 1)]) tabOk [dkP bs b (K + 1)] _ (fun x => x = b) rfl rfl rfl rfl (Sp.cons (by repeat constructor) (Sp.refl _)) (fun x hx => ⟨_, .head _, hx⟩) (fun w' hs => drawP_ca (sto + 1) (K + 1) (by omega) w' b lo hi bs (hby.keepP hlh hs.chg) hlh (hs.all _ (.head _))) ?_; rintro stk _ ⟨rfl, hstk⟩
  (refine ql_pure tabOk rfl rfl ?_; refine ql_st0 tabOk rfl rfl rfl rfl (by repeat constructor) ?_; refine q_nil ?_; (iterate 2 refine q_seq ?_); refine q_region ?_; (iterate 2 refine ql_pure tabOk rfl rfl ?_))
  refine ql_call (β := Int) (ψ := fun x v => v = .int .i64 x ∧ 1 ≤ x ∧ x ≤ days) (L' := fun _ => [dkP bs b (K + 2 + 1)]) tabOk [dkP bs b (K + 2)] _ (fun x => x = b) rfl rfl rfl rfl (Sp.cons (by repeat constructor) (Sp.refl _)) (fun x hx => ⟨_, .head _, hx⟩) (fun w' hs => between_ca (1) (days) (by omega) (by omega) (by omega) (K + 2) (by omega) w' b lo hi bs (hby.keepP hlh hs.chg) hlh (hs.all _ (.head _))) ?_; rintro cnt _ ⟨rfl, hcnt⟩
  (refine ql_pure tabOk rfl rfl ?_; refine q_nil ?_; refine q_block ?_)
  obtain ⟨cn, rfl⟩ := Int.eq_ofNat_of_zero_le (show 0 ≤ cnt by omega)
  have hcn : 1 ≤ cn ∧ cn ≤ days := by omega
  clear hcnt
  refine q_conv (H' := [.pt b5 [.int .i64 stk, .int .i64 sto, .slice none 0 0] 61, .ow (.slice none 0 0) 73 6 0 (dyC []), dkP bs b (K + 3 + 8 * 0), .pt b4 [.int .i64 0, .int .i64 0, .slice none 0 0] 61])
    (fun w' hs => (Sat.ownil hs 73 6).sp (by repeat (first | exact Sp.nil | exact Sp.refl _ | refine Sp.cons (by repeat constructor) ?_))) ?_
  refine q_loop (σ := Value × List Dy) (fun s => s.2.length ≤ cn ∧ ∀ d ∈ s.2, DayB d) (fun s => cn - s.2.length) (fun s => [(0, .pointer (some ⟨b, 0, none⟩)), (4, .pointer (some ⟨b4, 0, none⟩)), (5, .pointer (some ⟨b5, 0, none⟩)), (21, .int .i64 cn), (22, .int .i64 s.2.length)])
    (fun s => [.pt b5 [.int .i64 stk, .int .i64 sto, s.1] 61, .ow s.1 73 6 s.2.length (dyC s.2), dkP bs b (K + 3 + 8 * s.2.length), .pt b4 [.int .i64 0, .int .i64 0, .slice none 0 0] 61]) (.slice none 0 0, []) (by simp) ⟨rfl, rfl, rfl, rfl, rfl, trivial⟩ (by repeat (first | exact Sp.nil | exact Sp.refl _ | refine Sp.cons (by repeat constructor) ?_)) ?_
  rintro ⟨v, l⟩ ⟨hl, hB⟩ K1 hK1
  simp only at hl hB
  dsimp only
  (refine q_seq ?_; refine q_region ?_; refine ql_pure tabOk rfl rfl ?_; refine q_nil ?_; refine q_seq ?_)
  refine q_if rfl (fun hc => ?_) (fun hc => ?_)
  · have hl2 : l.length < cn := by omega
    clear hc
    obtain ⟨k, hk⟩ : ∃ k, k = l.length := ⟨_, rfl⟩
    rw [← hk]
    (refine q_skip ?_; refine q_seq ?_; refine q_block ?_; refine q_seq ?_; refine q_region ?_)
    refine ql_alloc zero73 rfl (fun b6 => ?_)
    (refine q_nil ?_; (iterate 2 refine q_seq ?_); refine q_region ?_; (iterate 3 refine ql_pure tabOk rfl rfl ?_))
    refine ql_mkS 83 [.pointer (some ⟨b6, 0, none⟩), .pointer (some ⟨b6, 2, none⟩), .pointer (some ⟨b6, 4, none⟩)] rfl (by kernel_rfl) rfl (fun bp => ?_)
    ((iterate 2 refine ql_pure tabOk rfl rfl ?_); refine q_nil ?_)
    refine q_cut (σ := {d : Dy // DayB d}) (fun d => [(0, .pointer (some ⟨b, 0, none⟩)), (4, .pointer (some ⟨b4, 0, none⟩)), (5, .pointer (some ⟨b5, 0, none⟩)), (6, .pointer (some ⟨b6, 0, none⟩)), (21, .int .i64 cn), (22, .int .i64 k)])
      (fun d => [.pt b6 (dyC [d.1]) 73, dkP bs b (K + 3 + 8 * k + 6), .pt b5 [.int .i64 stk, .int .i64 sto, v] 61, .ow v 73 6 k (dyC l), .pt b4 [.int .i64 0, .int .i64 0, .slice none 0 0] 61]) ?_ (fun KK hKK => ?_)
    rotate_left
    · skip
      (refine q_block ?_)
      refine q_loop (σ := Nat × Dy) (fun s => s.1 ≤ 3 ∧ DayI s.1 s.2) (fun s => 3 - s.1) (fun s => [(0, .pointer (some ⟨b, 0, none⟩)), (4, .pointer (some ⟨b4, 0, none⟩)), (5, .pointer (some ⟨b5, 0, none⟩)), (6, .pointer (some ⟨b6, 0, none⟩)), (21, .int .i64 cn), (22, .int .i64 k), (27, .slice (some ⟨bp, 0, none⟩) 3 3), (28, .int .i64 3), (29, .int .i64 s.1)])
        (fun s => [.pt bp [.pointer (some ⟨b6, 0, none⟩), .pointer (some ⟨b6, 2, none⟩), .pointer (some ⟨b6, 4, none⟩)] 83, .pt b6 (dyC [s.2]) 73, dkP bs b (K + 3 + 8 * k + 2 * s.1), .pt b5 [.int .i64 stk, .int .i64 sto, v] 61, .ow v 73 6 k (dyC l), .pt b4 [.int .i64 0, .int .i64 0, .slice none 0 0] 61]) (0, ⟨0, 0, 0, 0, 0, 0⟩) ⟨by decide, ⟨by omega, by omega, by omega⟩⟩ ⟨rfl, rfl, rfl, rfl, rfl, rfl, rfl, rfl, rfl, trivial⟩ (by repeat (first | exact Sp.nil | exact Sp.refl _ | refine Sp.cons (by repeat constructor) ?_)) ?_
      rintro ⟨i, d⟩ ⟨hi3, hdI⟩ K2 hK2
      simp only at hi3 hdI
      dsimp only
      obtain rfl | rfl | rfl | rfl : i = 0 ∨ i = 1 ∨ i = 2 ∨ i = 3 := by omega
      · skip
        (refine q_seq ?_; refine q_region ?_; refine ql_lssT tabOk rfl rfl rfl (by omega) ?_; refine q_nil ?_; refine q_seq ?_; refine q_cond_true rfl ?_; refine q_skip ?_; refine q_seq ?_; refine q_block ?_; refine q_seq ?_; refine q_region ?_; refine ql_pure tabOk rfl rfl ?_)
        refine ql_index tabOk rfl rfl rfl rfl rfl (by decide) (by decide) ?_
        (refine ql_loadB tabOk rfl rfl rfl (by repeat first | exact .head _ | refine .tail _ ?_) (by rfl) ?_; (iterate 2 refine ql_pure tabOk rfl rfl ?_); refine q_nil ?_; refine q_seq ?_; refine q_region ?_; refine ql_pure tabOk rfl rfl ?_)
        refine ql_mkS 3 [.int .i64 30, .int .i64 40, .int .i64 6] rfl (by kernel_rfl) rfl (fun c1 => ?_)
        (refine ql_pure tabOk rfl rfl ?_)
        refine ql_index tabOk rfl rfl rfl rfl rfl (by decide) (by decide) ?_
        (refine ql_loadB tabOk rfl rfl rfl (by repeat first | exact .head _ | refine .tail _ ?_) (by rfl) ?_)
        refine ql_call (β := Int) (ψ := fun x v => v = .int .i64 x ∧ 0 ≤ x ∧ (x < 30 ∨ x = 0)) (L' := fun _ => [dkP bs b (K + 3 + 8 * k + 2 * 0 + 1)]) tabOk [dkP bs b (K + 3 + 8 * k + 2 * 0)] _ (fun x => x = b) rfl rfl rfl rfl (Sp.cons (by repeat constructor) (Sp.refl _)) (fun x hx => ⟨_, .head _, hx⟩) (fun w' hs => drawP_ca (30) (K + 3 + 8 * k + 2 * 0) (by omega) w' b lo hi bs (hby.keepP hlh hs.chg) hlh (hs.all _ (.head _))) ?_; rintro x _ ⟨rfl, hx⟩
        (refine ql_pure tabOk rfl rfl ?_; refine q_nil ?_; refine q_region ?_; (iterate 4 refine ql_pure tabOk rfl rfl ?_))
        refine ql_mkS 3 [.int .i64 12, .int .i64 20, .int .i64 4] rfl (by kernel_rfl) rfl (fun c2 => ?_)
        (refine ql_pure tabOk rfl rfl ?_)
        refine ql_index tabOk rfl rfl rfl rfl rfl (by decide) (by decide) ?_
        (refine ql_loadB tabOk rfl rfl rfl (by repeat first | exact .head _ | refine .tail _ ?_) (by rfl) ?_)
        refine ql_call (β := Int) (ψ := fun x v => v = .int .i64 x ∧ 0 ≤ x ∧ (x < 12 ∨ x = 0)) (L' := fun _ => [dkP bs b (K + 3 + 8 * k + 2 * 0 + 1 + 1)]) tabOk [dkP bs b (K + 3 + 8 * k + 2 * 0 + 1)] _ (fun x => x = b) rfl rfl rfl rfl (Sp.cons (by repeat constructor) (Sp.refl _)) (fun x hx => ⟨_, .head _, hx⟩) (fun w' hs => drawP_ca (12) (K + 3 + 8 * k + 2 * 0 + 1) (by omega) w' b lo hi bs (hby.keepP hlh hs.chg) hlh (hs.all _ (.head _))) ?_; rintro y _ ⟨rfl, hy⟩
        (refine ql_ar tabOk rfl rfl rfl rfl (by omega) (by omega) ?_)
        refine ql_callv tabOk rfl rfl rfl rfl (fun w hs => spanM_ca _ _ w) ?_
        (refine ql_pure tabOk rfl rfl ?_)
        refine ql_stA [.int .i64 x, .int .i64 (x + y), .int .i64 d.m0, .int .i64 d.m1, .int .i64 d.l0, .int .i64 d.l1] tabOk rfl rfl rfl rfl rfl (by repeat constructor) rfl rfl ?_
        (refine q_nil ?_; refine q_blk ?_; refine q_region ?_; refine ql_ar tabOk rfl rfl rfl rfl (by omega) (by omega) ?_; refine ql_pure tabOk rfl rfl ?_; refine q_nil ?_)
        exact hK2 (1, ⟨x, (x + y), d.m0, d.m1, d.l0, d.l1⟩) _ _ ⟨by dsimp only; omega, fun h => ⟨by dsimp only; omega, by dsimp only; omega, by dsimp only; omega, by dsimp only; omega⟩, fun h => by dsimp only at h; omega, fun h => by dsimp only at h; omega⟩ (by dsimp only; omega) ⟨rfl, rfl, rfl, rfl, rfl, rfl, rfl, rfl, rfl, trivial⟩ (by repeat (first | exact Sp.nil | exact Sp.refl _ | refine Sp.cons (by repeat constructor) ?_))
      · skip
        (refine q_seq ?_; refine q_region ?_; refine ql_lssT tabOk rfl rfl rfl (by omega) ?_; refine q_nil ?_; refine q_seq ?_; refine q_cond_true rfl ?_; refine q_skip ?_; refine q_seq ?_; refine q_block ?_; refine q_seq ?_; refine q_region ?_; refine ql_pure tabOk rfl rfl ?_)
        refine ql_index tabOk rfl rfl rfl rfl rfl (by decide) (by decide) ?_
        (refine ql_loadB tabOk rfl rfl rfl (by repeat first | exact .head _ | refine .tail _ ?_) (by rfl) ?_; (iterate 2 refine ql_pure tabOk rfl rfl ?_); refine q_nil ?_; refine q_seq ?_; refine q_region ?_; refine ql_pure tabOk rfl rfl ?_)
        refine ql_mkS 3 [.int .i64 30, .int .i64 40, .int .i64 6] rfl (by kernel_rfl) rfl (fun c1 => ?_)
        (refine ql_pure tabOk rfl rfl ?_)
        refine ql_index tabOk rfl rfl rfl rfl rfl (by decide) (by decide) ?_
        (refine ql_loadB tabOk rfl rfl rfl (by repeat first | exact .head _ | refine .tail _ ?_) (by rfl) ?_)
        refine ql_call (β := Int) (ψ := fun x v => v = .int .i64 x ∧ 0 ≤ x ∧ (x < 40 ∨ x = 0)) (L' := fun _ => [dkP bs b (K + 3 + 8 * k + 2 * 1 + 1)]) tabOk [dkP bs b (K + 3 + 8 * k + 2 * 1)] _ (fun x => x = b) rfl rfl rfl rfl (Sp.cons (by repeat constructor) (Sp.refl _)) (fun x hx => ⟨_, .head _, hx⟩) (fun w' hs => drawP_ca (40) (K + 3 + 8 * k + 2 * 1) (by omega) w' b lo hi bs (hby.keepP hlh hs.chg) hlh (hs.all _ (.head _))) ?_; rintro x _ ⟨rfl, hx⟩
        (refine ql_pure tabOk rfl rfl ?_; refine q_nil ?_; refine q_region ?_; (iterate 4 refine ql_pure tabOk rfl rfl ?_))
        refine ql_mkS 3 [.int .i64 12, .int .i64 20, .int .i64 4] rfl (by kernel_rfl) rfl (fun c2 => ?_)
        (refine ql_pure tabOk rfl rfl ?_)
        refine ql_index tabOk rfl rfl rfl rfl rfl (by decide) (by decide) ?_
        (refine ql_loadB tabOk rfl rfl rfl (by repeat first | exact .head _ | refine .tail _ ?_) (by rfl) ?_)
        refine ql_call (β := Int) (ψ := fun x v => v = .int .i64 x ∧ 0 ≤ x ∧ (x < 20 ∨ x = 0)) (L' := fun _ => [dkP bs b (K + 3 + 8 * k + 2 * 1 + 1 + 1)]) tabOk [dkP bs b (K + 3 + 8 * k + 2 * 1 + 1)] _ (fun x => x = b) rfl rfl rfl rfl (Sp.cons (by repeat constructor) (Sp.refl _)) (fun x hx => ⟨_, .head _, hx⟩) (fun w' hs => drawP_ca (20) (K + 3 + 8 * k + 2 * 1 + 1) (by omega) w' b lo hi bs (hby.keepP hlh hs.chg) hlh (hs.all _ (.head _))) ?_; rintro y _ ⟨rfl, hy⟩
        (refine ql_ar tabOk rfl rfl rfl rfl (by omega) (by omega) ?_)
        refine ql_callv tabOk rfl rfl rfl rfl (fun w hs => spanM_ca _ _ w) ?_
        (refine ql_pure tabOk rfl rfl ?_)
        refine ql_stA [.int .i64 d.n0, .int .i64 d.n1, .int .i64 x, .int .i64 (x + y), .int .i64 d.l0, .int .i64 d.l1] tabOk rfl rfl rfl rfl rfl (by repeat constructor) rfl rfl ?_
        (refine q_nil ?_; refine q_blk ?_; refine q_region ?_; refine ql_ar tabOk rfl rfl rfl rfl (by omega) (by omega) ?_; refine ql_pure tabOk rfl rfl ?_; refine q_nil ?_)
        exact hK2 (2, ⟨d.n0, d.n1, x, (x + y), d.l0, d.l1⟩) _ _ ⟨by dsimp only; omega, fun h => hdI.n (by omega), fun h => ⟨by dsimp only; omega, by dsimp only; omega, by dsimp only; omega, by dsimp only; omega⟩, fun h => by dsimp only at h; omega⟩ (by dsimp only; omega) ⟨rfl, rfl, rfl, rfl, rfl, rfl, rfl, rfl, rfl, trivial⟩ (by repeat (first | exact Sp.nil | exact Sp.refl _ | refine Sp.cons (by repeat constructor) ?_))
      · skip
        (refine q_seq ?_; refine q_region ?_; refine ql_lssT tabOk rfl rfl rfl (by omega) ?_; refine q_nil ?_; refine q_seq ?_; refine q_cond_true rfl ?_; refine q_skip ?_; refine q_seq ?_; refine q_block ?_; refine q_seq ?_; refine q_region ?_; refine ql_pure tabOk rfl rfl ?_)
        refine ql_index tabOk rfl rfl rfl rfl rfl (by decide) (by decide) ?_
        (refine ql_loadB tabOk rfl rfl rfl (by repeat first | exact .head _ | refine .tail _ ?_) (by rfl) ?_; (iterate 2 refine ql_pure tabOk rfl rfl ?_); refine q_nil ?_; refine q_seq ?_; refine q_region ?_; refine ql_pure tabOk rfl rfl ?_)
        refine ql_mkS 3 [.int .i64 30, .int .i64 40, .int .i64 6] rfl (by kernel_rfl) rfl (fun c1 => ?_)
        (refine ql_pure tabOk rfl rfl ?_)
        refine ql_index tabOk rfl rfl rfl rfl rfl (by decide) (by decide) ?_
        (refine ql_loadB tabOk rfl rfl rfl (by repeat first | exact .head _ | refine .tail _ ?_) (by rfl) ?_)
        refine ql_call (β := Int) (ψ := fun x v => v = .int .i64 x ∧ 0 ≤ x ∧ (x < 6 ∨ x = 0)) (L' := fun _ => [dkP bs b (K + 3 + 8 * k + 2 * 2 + 1)]) tabOk [dkP bs b (K + 3 + 8 * k + 2 * 2)] _ (fun x => x = b) rfl rfl rfl rfl (Sp.cons (by repeat constructor) (Sp.refl _)) (fun x hx => ⟨_, .head _, hx⟩) (fun w' hs => drawP_ca (6) (K + 3 + 8 * k + 2 * 2) (by omega) w' b lo hi bs (hby.keepP hlh hs.chg) hlh (hs.all _ (.head _))) ?_; rintro x _ ⟨rfl, hx⟩
        (refine ql_pure tabOk rfl rfl ?_; refine q_nil ?_; refine q_region ?_; (iterate 4 refine ql_pure tabOk rfl rfl ?_))
        refine ql_mkS 3 [.int .i64 12, .int .i64 20, .int .i64 4] rfl (by kernel_rfl) rfl (fun c2 => ?_)
        (refine ql_pure tabOk rfl rfl ?_)
        refine ql_index tabOk rfl rfl rfl rfl rfl (by decide) (by decide) ?_
        (refine ql_loadB tabOk rfl rfl rfl (by repeat first | exact .head _ | refine .tail _ ?_) (by rfl) ?_)
        refine ql_call (β := Int) (ψ := fun x v => v = .int .i64 x ∧ 0 ≤ x ∧ (x < 4 ∨ x = 0)) (L' := fun _ => [dkP bs b (K + 3 + 8 * k + 2 * 2 + 1 + 1)]) tabOk [dkP bs b (K + 3 + 8 * k + 2 * 2 + 1)] _ (fun x => x = b) rfl rfl rfl rfl (Sp.cons (by repeat constructor) (Sp.refl _)) (fun x hx => ⟨_, .head _, hx⟩) (fun w' hs => drawP_ca (4) (K + 3 + 8 * k + 2 * 2 + 1) (by omega) w' b lo hi bs (hby.keepP hlh hs.chg) hlh (hs.all _ (.head _))) ?_; rintro y _ ⟨rfl, hy⟩
        (refine ql_ar tabOk rfl rfl rfl rfl (by omega) (by omega) ?_)
        refine ql_callv tabOk rfl rfl rfl rfl (fun w hs => spanM_ca _ _ w) ?_
        (refine ql_pure tabOk rfl rfl ?_)
        refine ql_stA [.int .i64 d.n0, .int .i64 d.n1, .int .i64 d.m0, .int .i64 d.m1, .int .i64 x, .int .i64 (x + y)] tabOk rfl rfl rfl rfl rfl (by repeat constructor) rfl rfl ?_
        (refine q_nil ?_; refine q_blk ?_; refine q_region ?_; refine ql_ar tabOk rfl rfl rfl rfl (by omega) (by omega) ?_; refine ql_pure tabOk rfl rfl ?_; refine q_nil ?_)
        exact hK2 (3, ⟨d.n0, d.n1, d.m0, d.m1, x, (x + y)⟩) _ _ ⟨by dsimp only; omega, fun h => hdI.n (by omega), fun h => hdI.m (by omega), fun h => ⟨by dsimp only; omega, by dsimp only; omega, by dsimp only; omega, by dsimp only; omega⟩⟩ (by dsimp only; omega) ⟨rfl, rfl, rfl, rfl, rfl, rfl, rfl, rfl, rfl, trivial⟩ (by repeat (first | exact Sp.nil | exact Sp.refl _ | refine Sp.cons (by repeat constructor) ?_))
      · (refine q_seq ?_; refine q_region ?_; refine ql_lssF tabOk rfl rfl rfl (by omega) ?_; refine q_nil ?_; refine q_seq ?_; refine q_cond_false rfl ?_; refine q_exit _ rfl ?_)
        exact hKK ⟨d, hdI.n (by omega), hdI.m (by omega), hdI.l (by omega)⟩ _ _ ⟨rfl, rfl, rfl, rfl, rfl, rfl, trivial⟩ (by repeat (first | exact Sp.nil | exact Sp.refl _ | refine Sp.cons (by repeat constructor) ?_))
    rintro ⟨d, hdB⟩
    dsimp only
    ((iterate 2 refine q_seq ?_); refine q_region ?_; refine ql_pure tabOk rfl rfl ?_)
    refine ql_call (β := Bool) (L' := fun _ => [dkP bs b (K + 3 + 8 * k + 6 + 1)]) tabOk [dkP bs b (K + 3 + 8 * k + 6)] _ (fun x => x = b) rfl rfl rfl rfl (Sp.cons (by repeat constructor) (Sp.refl _)) (fun x hx => ⟨_, .head _, hx⟩) (fun w' hs => coin_ca 4 (by omega) (K + 3 + 8 * k + 6) (by omega) w' b lo hi bs (hby.keepP hlh hs.chg) hlh (hs.all _ (.head _))) ?_
    rintro co _ rfl
    dsimp only [List.cons_append, List.nil_append]
    (refine q_nil ?_)
    refine q_cut (σ := {d : Dy // DayB d}) (fun d => [(0, .pointer (some ⟨b, 0, none⟩)), (4, .pointer (some ⟨b4, 0, none⟩)), (5, .pointer (some ⟨b5, 0, none⟩)), (6, .pointer (some ⟨b6, 0, none⟩)), (21, .int .i64 cn), (22, .int .i64 k)])
      (fun d => [.pt b6 (dyC [d.1]) 73, dkP bs b (K + 3 + 8 * k + 8), .pt b5 [.int .i64 stk, .int .i64 sto, v] 61, .ow v 73 6 k (dyC l), .pt b4 [.int .i64 0, .int .i64 0, .slice none 0 0] 61]) ?_ (fun KK hKK => ?_)
    rotate_left
    · cases co
      · (refine q_cond_false rfl ?_; refine q_skip ?_)
        refine q_conv (H' := [dkP bs b (K + 3 + 8 * k + 8), .pt b6 (dyC [d]) 73, .pt b5 [.int .i64 stk, .int .i64 sto, v] 61, .ow v 73 6 k (dyC l), .pt b4 [.int .i64 0, .int .i64 0, .slice none 0 0] 61]) (fun w' hs => Sat.dk (K := K + 3 + 8 * k + 6 + 1) (hs.sp (by repeat (first | exact Sp.nil | exact Sp.refl _ | refine Sp.cons (by repeat constructor) ?_))) (by omega)) ?_
        exact hKK ⟨d, hdB⟩ _ _ ⟨rfl, rfl, rfl, rfl, rfl, rfl, trivial⟩ (by repeat (first | exact Sp.nil | exact Sp.refl _ | refine Sp.cons (by repeat constructor) ?_))
      · (refine q_cond_true rfl ?_; refine q_region ?_; refine ql_pure tabOk rfl rfl ?_)
        refine ql_call (β := Int) (ψ := fun x v => v = .int .i64 x ∧ 0 ≤ x ∧ (x < 3 ∨ x = 0)) (L' := fun _ => [dkP bs b (K + 3 + 8 * k + 6 + 1 + 1)]) tabOk [dkP bs b (K + 3 + 8 * k + 6 + 1)] _ (fun x => x = b) rfl rfl rfl rfl (Sp.cons (by repeat constructor) (Sp.refl _)) (fun x hx => ⟨_, .head _, hx⟩) (fun w' hs => drawP_ca (3) (K + 3 + 8 * k + 6 + 1) (by omega) w' b lo hi bs (hby.keepP hlh hs.chg) hlh (hs.all _ (.head _))) ?_; rintro x _ ⟨rfl, hx⟩
        refine ql_callv tabOk rfl rfl rfl rfl (fun w hs => spanM_ca _ _ w) ?_
        (refine ql_pure tabOk rfl rfl ?_)
        refine ql_stA [.int .i64 d.n0, .int .i64 d.n1, .int .i64 0, .int .i64 x, .int .i64 d.l0, .int .i64 d.l1] tabOk rfl rfl rfl rfl rfl (by repeat constructor) rfl rfl ?_
        (refine q_nil ?_)
        exact hKK ⟨⟨d.n0, d.n1, 0, x, d.l0, d.l1⟩, hdB.n, by dsimp only; omega, hdB.l⟩ _ _ ⟨rfl, rfl, rfl, rfl, rfl, rfl, trivial⟩ (by repeat (first | exact Sp.nil | exact Sp.refl _ | refine Sp.cons (by repeat constructor) ?_))
    clear hdB
    rintro ⟨d, hdB⟩
    dsimp only
    (refine q_region ?_; refine ql_pure tabOk rfl rfl ?_; refine ql_loadB tabOk rfl rfl rfl (by repeat first | exact .head _ | refine .tail _ ?_) (by rfl) ?_; refine ql_loadAB tabOk rfl rfl rfl (by repeat first | exact .head _ | refine .tail _ ?_) (by rfl) (by rfl) ?_)
    refine ql_mkS 73 (dyC [d]) rfl (by kernel_rfl) rfl (fun bn => ?_)
    refine ql_append (q := 1) slD rfl rfl rfl (fun v' => by repeat constructor) (fun w' hs => ⟨_, _, Blk.rdDy (hs.blk (b := bn) (by repeat first | exact .head _ | refine .tail _ ?_))⟩) (dyC_one _) (by omega) (by omega) (fun u => ?_)
    refine ql_fact (fun w hs => hs.slice (v := u) (by repeat first | exact .head _ | refine .tail _ ?_)) ?_
    rintro ⟨a1, g1, d1, rfl⟩
    (refine ql_pure tabOk rfl rfl ?_; refine ql_st2 tabOk rfl rfl rfl rfl (by repeat constructor) ?_; refine q_nil ?_; refine q_blk ?_; refine q_region ?_; refine ql_ar tabOk rfl rfl rfl rfl (by omega) (by omega) ?_; refine ql_pure tabOk rfl rfl ?_; refine q_nil ?_)
    refine hK1 (.slice a1 g1 d1, l ++ [d]) _ _ ⟨by simp; omega, ?_⟩ (by simp; omega) ⟨rfl, rfl, rfl, rfl, lookI rfl (by simp; omega), trivial⟩ (by dsimp only; rw [dyC_snoc, List.length_append, List.length_singleton, ← hk]; repeat (first | exact Sp.nil | exact Sp.refl _ | refine Sp.cons (by repeat constructor) ?_))
    intro z hz
    rcases List.mem_append.1 hz with hz | hz
    · exact hB z hz
    · obtain rfl : z = d := by simpa using hz
      exact hdB
  · have hk : l.length = cn := by omega
    refine q_fact (fun w hs => hs.ownSome (v := v) (by repeat first | exact .head _ | refine .tail _ ?_) (by omega)) ?_
    rintro ⟨g, c, rfl⟩
    (refine q_exit _ rfl ?_; refine q_seq ?_; refine q_region ?_; refine ql_loadAB tabOk rfl rfl rfl (by repeat first | exact .head _ | refine .tail _ ?_) (by rfl) (by rfl) ?_; refine ql_setA tabOk rfl rfl rfl rfl rfl (by repeat constructor) rfl ?_; refine q_nil ?_; refine q_ret ?_)
    refine q_fin tabOk rfl (by repeat (first | exact RVs.nil | apply RVs.tmp rfl | apply RVs.cellA rfl rfl (by repeat first | exact .head _ | refine .tail _ ?_) (by rfl) | apply RVs.cell1 rfl rfl (by repeat first | exact .head _ | refine .tail _ ?_))) fun w hs => ?_
    refine ⟨(g, c, ⟨stk, sto, l⟩), ⟨rfl, by dsimp only; omega, by dsimp only; omega, by dsimp only; omega, by dsimp only; omega, hB⟩, ?_⟩
    exact (Sat.dk (K := K + 3 + 8 * l.length) (K' := K + 1000) (R := [.ow (.slice (some ⟨g, 0, none⟩) l.length c) 73 6 l.length (dyC l)]) (hs.sp (by repeat (first | exact Sp.nil | exact Sp.refl _ | refine Sp.cons (by repeat constructor) ?_))) (by omega)).sp (by repeat (first | exact Sp.nil | exact Sp.refl _ | refine Sp.cons (by repeat constructor) ?_))
end Go.Proofs.Ytgeajgmefokifaa

/- Walks: a weather is drawn. -/
namespace Go.Proofs.Ytgeajgmefokifaa
open Go Go.Eng

theorem getD_snoc (l : List Int) (x : Int) (i : Nat) : (l ++ [x]).getD i 0 = if i < l.length then l.getD i 0 else if i = l.length then x else 0 := by
  simp only [List.getD_eq_getElem?_getD, List.getElem?_append]
  by_cases h : i < l.length
  · simp [h]
  · rw [if_neg h, if_neg h]
    by_cases h2 : i = l.length
    · subst h2; simp
    · rw [if_neg h2, List.getElem?_eq_none (by simp; omega)]
      rfl
/-- A weather of the first days. -/
structure WtP (days : List Dy) (k : Nat) (t : Wt) : Prop where
  ln : t.need.length = k
  lm : t.make.length = k
  ll : t.loss.length = k
  n : ∀ i, i < k → ∀ (h : i < days.length), days[i].n0 ≤ t.need.getD i 0 ∧ t.need.getD i 0 ≤ days[i].n1
  m : ∀ i, i < k → ∀ (h : i < days.length), days[i].m0 ≤ t.make.getD i 0 ∧ t.make.getD i 0 ≤ days[i].m1
  l : ∀ i, i < k → ∀ (h : i < days.length), days[i].l0 ≤ t.loss.getD i 0 ∧ t.loss.getD i 0 ≤ days[i].l1
theorem WtP.step {days : List Dy} {k : Nat} {t : Wt} (h : WtP days k t) (hk : k < days.length) {x y z : Int} (hx : days[k].n0 ≤ x ∧ x ≤ days[k].n1) (hy : days[k].m0 ≤ y ∧ y ≤ days[k].m1) (hz : days[k].l0 ≤ z ∧ z ≤ days[k].l1) : WtP days (k + 1) ⟨t.need ++ [x], t.make ++ [y], t.loss ++ [z]⟩ := by
  refine ⟨by simp [h.ln], by simp [h.lm], by simp [h.ll], fun i hi hd => ?_, fun i hi hd => ?_, fun i hi hd => ?_⟩
  · rw [getD_snoc, h.ln]
    split
    · exact h.n i (by assumption) hd
    · obtain rfl : i = k := by omega
      simpa using hx
  · rw [getD_snoc, h.lm]
    split
    · exact h.m i (by assumption) hd
    · obtain rfl : i = k := by omega
      simpa using hy
  · rw [getD_snoc, h.ll]
    split
    · exact h.l i (by assumption) hd
    · obtain rfl : i = k := by omega
      simpa using hz
theorem WtP.in {x : Wn} {t : Wt} (h : WtP x.days x.days.length t) : t.In x := ⟨h.ln, h.lm, h.ll, fun i hi => h.n i hi hi, fun i hi => h.m i hi hi, fun i hi => h.l i hi hi⟩
theorem DkB.keepM {w w' : World} {lo hi : Nat} {bs : Value} {M : Nat → Prop} (h : DkB w lo hi bs) (hM : ∀ k, M k → hi ≤ k) (hc : ChgP M w w') : DkB w' lo hi bs := by
  obtain ⟨nb, cs, h1, h2⟩ := h
  refine ⟨nb, cs, ⟨h1.1, ?_⟩, h2⟩
  rcases h1.2 with h3 | ⟨b, off, cap, hv, hb, hcell⟩
  · exact .inl h3
  · refine .inr ⟨b, off, cap, hv, fun hp => ⟨(hb hp).1, (hb hp).2.1, Nat.lt_of_lt_of_le (hb hp).2.2 hc.size⟩, fun j hj => ?_⟩
    rw [← hcell j hj]
    have hnb : 0 < cs.length := by omega
    exact World.cell?_of_block (w := w) (hc.block b (hb hnb).2.2 (fun hm => by have := hM b hm; have := (hb hnb).2.1; omega))
/-- The deck, and the days. -/
abbrev drL (bs : Value) (b K g c : Nat) (l : List Dy) : List Ck := [dkP bs b K, .ow (.slice (some ⟨g, 0, none⟩) l.length c) 73 6 l.length (dyC l)]

set_option maxHeartbeats 4000000 in
theorem drawn_ca (x : Wn) (hx : x.Right) (K : Nat) (hK : K < 100000) (w : World) (b g c lo hi : Nat) (bs : Value) (hby : DkB w lo hi bs) (hM : ∀ k, DL (drL bs b K g c x.days) k → hi ≤ k) (hs0 : Sat w (DL (drL bs b K g c x.days)) (drL bs b K g c x.days) w) :
    Ca Try.prog 61 [.pointer (some ⟨b, 0, none⟩), .agg (wnC x (some ⟨g, 0, none⟩) c).toArray] w fun v w' => ∃ y : (Value × Value × Value) × Wt, (v = .agg #[y.1.1, y.1.2.1, y.1.2.2] ∧ y.2.In x) ∧ Sat w (DL (drL bs b K g c x.days)) (wtK y.1.1 y.1.2.1 y.1.2.2 y.2 ++ drL bs b (K + 200) g c x.days) w' := by
  have hd2 := hx.d2
  have hd1 := hx.d1
  have hlb : hi ≤ b := hM b ⟨_, .head _, rfl⟩
  refine q_of hs0 Try.func61 rfl (by simp [Try.ntmps61]) ?_
  (refine q_seq ?_; refine q_region ?_)
  refine ql_box rfl rfl (fun b3 => ?_)
  refine ql_alloc zero107 rfl (fun b4 => ?_)
  (refine q_nil ?_; refine q_seq ?_; refine q_region ?_)
  refine ql_alloc zero107 rfl (fun b5 => ?_)
  (refine q_nil ?_; (iterate 2 refine q_seq ?_); refine q_region ?_; refine ql_pure tabOk rfl rfl ?_; refine ql_loadB tabOk rfl rfl rfl (by repeat first | exact .head _ | refine .tail _ ?_) (by rfl) ?_; (iterate 2 refine ql_pure tabOk rfl rfl ?_); refine q_nil ?_; refine q_block ?_)
  refine q_conv (H' := [.pt b5 [.slice none 0 0, .slice none 0 0, .slice none 0 0] 107, .ow (.slice none 0 0) 3 1 0 (ints []), .ow (.slice none 0 0) 3 1 0 (ints []), .ow (.slice none 0 0) 3 1 0 (ints []), dkP bs b (K + 3 * 0), .ow (.slice (some ⟨g, 0, none⟩) x.days.length c) 73 6 x.days.length (dyC x.days), .pt b4 [.slice none 0 0, .slice none 0 0, .slice none 0 0] 107])
    (fun w' hs => (Sat.ownil (Sat.ownil (Sat.ownil hs 3 1) 3 1) 3 1).sp (by repeat (first | exact Sp.nil | exact Sp.refl _ | refine Sp.cons (by repeat constructor) ?_))) ?_
  refine q_loop (σ := Nat × (Value × Value × Value) × Wt) (fun s => s.1 ≤ x.days.length ∧ WtP x.days s.1 s.2.2) (fun s => x.days.length - s.1) (fun s => [(0, .pointer (some ⟨b, 0, none⟩)), (4, .pointer (some ⟨b4, 0, none⟩)), (5, .pointer (some ⟨b5, 0, none⟩)), (9, .slice (some ⟨g, 0, none⟩) x.days.length c), (10, .int .i64 x.days.length), (11, .int .i64 s.1)])
    (fun s => [.pt b5 [s.2.1.1, s.2.1.2.1, s.2.1.2.2] 107, .ow s.2.1.1 3 1 s.1 (ints s.2.2.need), .ow s.2.1.2.1 3 1 s.1 (ints s.2.2.make), .ow s.2.1.2.2 3 1 s.1 (ints s.2.2.loss), dkP bs b (K + 3 * s.1), .ow (.slice (some ⟨g, 0, none⟩) x.days.length c) 73 6 x.days.length (dyC x.days), .pt b4 [.slice none 0 0, .slice none 0 0, .slice none 0 0] 107])
    (0, (.slice none 0 0, .slice none 0 0, .slice none 0 0), ⟨[], [], []⟩) ⟨by simp, ⟨rfl, rfl, rfl, fun i h => by simp at h, fun i h => by simp at h, fun i h => by simp at h⟩⟩ ⟨rfl, rfl, rfl, rfl, rfl, rfl, trivial⟩ (Sp.refl _) ?_
  rintro ⟨k, ⟨v1, v2, v3⟩, t⟩ ⟨hk, hP⟩ KK hKK
  simp only at hk hP
  dsimp only
  (refine q_seq ?_; refine q_region ?_; refine ql_pure tabOk rfl rfl ?_; refine q_nil ?_; refine q_seq ?_)
  refine q_if rfl (fun hc => ?_) (fun hc => ?_)
  · have hk2 : k < x.days.length := by omega
    clear hc
    have hR := hx.days _ (List.getElem_mem hk2)
    have hRn := hR.n
    have hRm := hR.m
    have hRl := hR.l
    have hst := fun {a b c} h1 h2 h3 => hP.step hk2 (x := a) (y := b) (z := c) h1 h2 h3
    (refine q_skip ?_; refine q_seq ?_; refine q_block ?_; refine q_seq ?_; refine q_region ?_)
    refine ql_index tabOk rfl rfl rfl rfl rfl (by omega) (by omega) ?_
    refine ql_loadA tabOk rfl rfl rfl rfl (fun w hs => RdD.at (own_rdD (t := 73) (hs.mem (c := .ow (.slice (some ⟨g, 0, none⟩) x.days.length c) 73 6 x.days.length (dyC x.days)) (by repeat first | exact .head _ | refine .tail _ ?_)) rfl) k hk2) ?_
    skip
    refine ql_alloc zero73 rfl (fun b7 => ?_)
    (refine ql_setA tabOk rfl rfl rfl rfl rfl (by repeat constructor) rfl ?_; refine q_nil ?_)
    generalize x.days[k] = d at *
    obtain ⟨n0, n1, m0, m1, l0, l1⟩ := d
    dsimp only at hRn hRm hRl hst ⊢
    refine q_drawS2 36 [.pt b7 [.int .i64 n0, .int .i64 n1, .int .i64 m0, .int .i64 m1, .int .i64 l0, .int .i64 l1] 73, .pt b5 [v1, v2, v3] 107, .ow (.slice (some ⟨g, 0, none⟩) x.days.length c) 73 6 x.days.length (dyC x.days), .pt b4 [.slice none 0 0, .slice none 0 0, .slice none 0 0] 107] [.ow v1 3 1 k (ints t.need), .ow v2 3 1 k (ints t.make), .ow v3 3 1 k (ints t.loss), dkP bs b (K + 3 * k)] [.ow (.slice (some ⟨g, 0, none⟩) x.days.length c) 73 6 x.days.length (dyC x.days), .pt b4 [.slice none 0 0, .slice none 0 0, .slice none 0 0] 107] [.pt b5 [v1, v2, v3] 107]
      (by repeat (first | exact Sp.nil | exact Sp.refl _ | refine Sp.cons (by repeat constructor) ?_)) (by repeat (first | exact Sp.nil | exact Sp.refl _ | refine Sp.cons (by repeat constructor) ?_)) (by kernel_rfl) (by kernel_rfl) (by kernel_rfl) fun K1 hK1 => ?_
    (refine qf_pure tabOk rfl rfl rfl ?_; refine qf_loadB tabOk rfl rfl rfl (by repeat first | exact .head _ | refine .tail _ ?_) (by rfl) ?_; (iterate 3 refine qf_pure tabOk rfl rfl rfl ?_); refine qf_loadB tabOk rfl rfl rfl (by repeat first | exact .head _ | refine .tail _ ?_) (by rfl) ?_; (iterate 2 refine qf_pure tabOk rfl rfl rfl ?_); refine qf_loadB tabOk rfl rfl rfl (by repeat first | exact .head _ | refine .tail _ ?_) (by rfl) ?_)
    refine qf_call (β := Int) (ψ := fun x v => v = .int .i64 x ∧ n0 ≤ x ∧ x ≤ n1) (L' := fun _ => [dkP bs b (K + 3 * k + 0 + 1)]) tabOk [dkP bs b (K + 3 * k + 0)] _ (fun x => x = b) rfl rfl rfl rfl (Sp.cons (by repeat constructor) (Sp.refl _)) (fun x hx => ⟨_, .head _, hx⟩) (fun w' hs => between_ca n0 n1 (by omega) (by omega) (by omega) (K + 3 * k + 0) (by omega) w' b lo hi bs (hby.keepM hM hs.chg) hlb (hs.all _ (.head _))) ?_
    rintro nx _ ⟨rfl, hnx⟩
    refine qf_mkS 3 [.int .i64 nx] rfl (by kernel_rfl) rfl (fun c0 => ?_)
    refine qf_append (q := 1) slI rfl rfl rfl (fun v' => by repeat constructor) (fun w' hs => ⟨_, _, Blk.rd (hs.blk (b := c0) (by repeat first | exact .head _ | refine .tail _ ?_)) rfl 1⟩) (by simp [oneV]) (by omega) (by omega) (fun u0 => ?_)
    (refine qf_pure tabOk rfl rfl rfl ?_; refine qf_loadB tabOk rfl rfl rfl (by repeat first | exact .head _ | refine .tail _ ?_) (by rfl) ?_; (iterate 3 refine qf_pure tabOk rfl rfl rfl ?_); refine qf_loadB tabOk rfl rfl rfl (by repeat first | exact .head _ | refine .tail _ ?_) (by rfl) ?_; (iterate 2 refine qf_pure tabOk rfl rfl rfl ?_); refine qf_loadB tabOk rfl rfl rfl (by repeat first | exact .head _ | refine .tail _ ?_) (by rfl) ?_)
    refine qf_call (β := Int) (ψ := fun x v => v = .int .i64 x ∧ m0 ≤ x ∧ x ≤ m1) (L' := fun _ => [dkP bs b (K + 3 * k + 1 + 1)]) tabOk [dkP bs b (K + 3 * k + 1)] _ (fun x => x = b) rfl rfl rfl rfl (Sp.cons (by repeat constructor) (Sp.refl _)) (fun x hx => ⟨_, .head _, hx⟩) (fun w' hs => between_ca m0 m1 (by omega) (by omega) (by omega) (K + 3 * k + 1) (by omega) w' b lo hi bs (hby.keepM hM hs.chg) hlb (hs.all _ (.head _))) ?_
    rintro mx _ ⟨rfl, hmx⟩
    refine qf_mkS 3 [.int .i64 mx] rfl (by kernel_rfl) rfl (fun c1 => ?_)
    refine qf_append (q := 1) slI rfl rfl rfl (fun v' => by repeat constructor) (fun w' hs => ⟨_, _, Blk.rd (hs.blk (b := c1) (by repeat first | exact .head _ | refine .tail _ ?_)) rfl 1⟩) (by simp [oneV]) (by omega) (by omega) (fun u1 => ?_)
    (refine qf_pure tabOk rfl rfl rfl ?_; refine qf_loadB tabOk rfl rfl rfl (by repeat first | exact .head _ | refine .tail _ ?_) (by rfl) ?_; (iterate 3 refine qf_pure tabOk rfl rfl rfl ?_); refine qf_loadB tabOk rfl rfl rfl (by repeat first | exact .head _ | refine .tail _ ?_) (by rfl) ?_; (iterate 2 refine qf_pure tabOk rfl rfl rfl ?_); refine qf_loadB tabOk rfl rfl rfl (by repeat first | exact .head _ | refine .tail _ ?_) (by rfl) ?_)
    refine qf_call (β := Int) (ψ := fun x v => v = .int .i64 x ∧ l0 ≤ x ∧ x ≤ l1) (L' := fun _ => [dkP bs b (K + 3 * k + 2 + 1)]) tabOk [dkP bs b (K + 3 * k + 2)] _ (fun x => x = b) rfl rfl rfl rfl (Sp.cons (by repeat constructor) (Sp.refl _)) (fun x hx => ⟨_, .head _, hx⟩) (fun w' hs => between_ca l0 l1 (by omega) (by omega) (by omega) (K + 3 * k + 2) (by omega) w' b lo hi bs (hby.keepM hM hs.chg) hlb (hs.all _ (.head _))) ?_
    rintro lx _ ⟨rfl, hlx⟩
    refine qf_mkS 3 [.int .i64 lx] rfl (by kernel_rfl) rfl (fun c2 => ?_)
    refine qf_append (q := 1) slI rfl rfl rfl (fun v' => by repeat constructor) (fun w' hs => ⟨_, _, Blk.rd (hs.blk (b := c2) (by repeat first | exact .head _ | refine .tail _ ?_)) rfl 1⟩) (by simp [oneV]) (by omega) (by omega) (fun u2 => ?_)
    (refine qf_nil ?_)
    refine hK1 _ _ [.pt b5 [v1, v2, v3] 107, .ow u0 3 1 (k + 1) (ints t.need ++ [.int .i64 nx]), .ow u1 3 1 (k + 1) (ints t.make ++ [.int .i64 mx]), .ow u2 3 1 (k + 1) (ints t.loss ++ [.int .i64 lx]), dkP bs b (K + 3 * k + 2 + 1)] (by repeat (first | exact Sp.nil | exact Sp.refl _ | refine Sp.cons (by repeat constructor) ?_)) ?_
    refine qf_fact (fun w hs => hs.slice (v := u0) (by repeat first | exact .head _ | refine .tail _ ?_)) ?_
    rintro ⟨a1, g1, d1, rfl⟩
    refine qf_fact (fun w hs => hs.slice (v := u1) (by repeat first | exact .head _ | refine .tail _ ?_)) ?_
    rintro ⟨a2, g2, d2, rfl⟩
    refine qf_fact (fun w hs => hs.slice (v := u2) (by repeat first | exact .head _ | refine .tail _ ?_)) ?_
    rintro ⟨a3, g3, d3, rfl⟩
    (refine qf_pure tabOk rfl rfl rfl ?_; refine qf_st0 tabOk rfl rfl rfl rfl (by repeat constructor) ?_; refine qf_pure tabOk rfl rfl rfl ?_; refine qf_st1 tabOk rfl rfl rfl rfl (by repeat constructor) ?_; refine qf_pure tabOk rfl rfl rfl ?_; refine qf_st2 tabOk rfl rfl rfl rfl (by repeat constructor) ?_; refine qf_nil ?_; refine q_blk ?_; refine q_region ?_; refine ql_ar tabOk rfl rfl rfl rfl (by omega) (by omega) ?_; refine ql_pure tabOk rfl rfl ?_; refine q_nil ?_)
    have f1 : ints (t.need ++ [nx]) = ints t.need ++ [.int .i64 nx] := by simp [ints]
    have f2 : ints (t.make ++ [mx]) = ints t.make ++ [.int .i64 mx] := by simp [ints]
    have f3 : ints (t.loss ++ [lx]) = ints t.loss ++ [.int .i64 lx] := by simp [ints]
    exact hKK (k + 1, (.slice a1 g1 d1, .slice a2 g2 d2, .slice a3 g3 d3), ⟨t.need ++ [nx], t.make ++ [mx], t.loss ++ [lx]⟩) _ _ ⟨by dsimp only; omega, hst hnx hmx hlx⟩ (by dsimp only; omega) ⟨rfl, rfl, rfl, rfl, rfl, rfl, trivial⟩ (by dsimp only; rw [f1, f2, f3]; repeat (first | exact Sp.nil | exact Sp.refl _ | refine Sp.cons (by repeat constructor) ?_))
  · obtain rfl : k = x.days.length := by omega
    clear hc hKK
    refine q_fact (fun w hs => hs.slice (v := v1) (by repeat first | exact .head _ | refine .tail _ ?_)) ?_
    rintro ⟨a1, g1, d1, rfl⟩
    refine q_fact (fun w hs => hs.slice (v := v2) (by repeat first | exact .head _ | refine .tail _ ?_)) ?_
    rintro ⟨a2, g2, d2, rfl⟩
    refine q_fact (fun w hs => hs.slice (v := v3) (by repeat first | exact .head _ | refine .tail _ ?_)) ?_
    rintro ⟨a3, g3, d3, rfl⟩
    (refine q_exit _ rfl ?_; refine q_seq ?_; refine q_region ?_; refine ql_loadAB tabOk rfl rfl rfl (by repeat first | exact .head _ | refine .tail _ ?_) (by rfl) (by rfl) ?_; refine ql_setA tabOk rfl rfl rfl rfl rfl (by repeat constructor) rfl ?_; refine q_nil ?_; refine q_ret ?_)
    refine q_fin tabOk rfl (by repeat (first | exact RVs.nil | apply RVs.tmp rfl | apply RVs.cellA rfl rfl (by repeat first | exact .head _ | refine .tail _ ?_) (by rfl) | apply RVs.cell1 rfl rfl (by repeat first | exact .head _ | refine .tail _ ?_))) fun w hs => ?_
    refine ⟨((.slice a1 g1 d1, .slice a2 g2 d2, .slice a3 g3 d3), t), ⟨rfl, hP.in⟩, ?_⟩
    dsimp only [wtK]
    rw [hP.ln, hP.lm, hP.ll]
    exact (Sat.dk (K := K + 3 * x.days.length) (K' := K + 200) (R := [.ow (.slice a1 g1 d1) 3 1 x.days.length (ints t.need), .ow (.slice a2 g2 d2) 3 1 x.days.length (ints t.make), .ow (.slice a3 g3 d3) 3 1 x.days.length (ints t.loss), .ow (.slice (some ⟨g, 0, none⟩) x.days.length c) 73 6 x.days.length (dyC x.days)]) (hs.sp (by repeat (first | exact Sp.nil | exact Sp.refl _ | refine Sp.cons (by repeat constructor) ?_))) (by omega)).sp (by repeat (first | exact Sp.nil | exact Sp.refl _ | refine Sp.cons (by repeat constructor) ?_))
end Go.Proofs.Ytgeajgmefokifaa

/- What the laws of winters share. -/
namespace Go.Proofs.Ytgeajgmefokifaa
open Go Go.Eng

section
variable {K b g c : Nat} {bs : Value} {w0 w : World} {R : List Ck}
theorem madeW0 {days : Nat} (hby : DkB w0 0 w0.heap.size bs) (hs : Sat w0 M0 (dkP bs b K :: R) w) (h1 : 1 ≤ days) (h2 : days ≤ 60) (hK : K < 100000) :
    Ca Try.prog 35 [.pointer (some ⟨b, 0, none⟩), .int .i64 days] w fun v w' => ∃ y : Nat × Nat × Wn, (v = .agg (wnC y.2.2 (some ⟨y.1, 0, none⟩) y.2.1).toArray ∧ WinB days y.2.2) ∧ Sat w (fun x => x = b) [.ow (.slice (some ⟨y.1, 0, none⟩) y.2.2.days.length y.2.1) 73 6 y.2.2.days.length (dyC y.2.2.days), dkP bs b (K + 1000)] w' :=
  madeW_ca days h1 h2 K hK w b 0 w0.heap.size bs (hby.keep hs.chg0) (dk_new hs) (hs.all _ (.head _))
theorem drawn0 {x : Wn} (hx : x.Right) (hby : DkB w0 0 w0.heap.size bs) (hs : Sat w0 M0 (drL bs b K g c x.days ++ R) w) (hK : K < 100000) :
    Ca Try.prog 61 [.pointer (some ⟨b, 0, none⟩), .agg (wnC x (some ⟨g, 0, none⟩) c).toArray] w fun v w' => ∃ y : (Value × Value × Value) × Wt, (v = .agg #[y.1.1, y.1.2.1, y.1.2.2] ∧ y.2.In x) ∧ Sat w (DL (drL bs b K g c x.days)) (wtK y.1.1 y.1.2.1 y.1.2.2 y.2 ++ drL bs b (K + 200) g c x.days) w' :=
  drawn_ca x hx K hK w b g c 0 w0.heap.size bs (hby.keep hs.chg0) (fun k ⟨d, hd, hk⟩ => (hs.bd d (List.mem_append_left _ hd) k hk).2.resolve_left (fun h => h)) (Sat.self hs)
/-- Days that are owned can be read. -/
theorem days_rd {M : Nat → Prop} {H : List Ck} {x : Wn} (hs : Sat w0 M H w) (hm : .ow (.slice (some ⟨g, 0, none⟩) x.days.length c) 73 6 x.days.length (dyC x.days) ∈ H) : RdD w 0 w.heap.size (.slice (some ⟨g, 0, none⟩) x.days.length c) x.days :=
  own_rdD (t := 73) (hs.mem hm) rfl
end
end Go.Proofs.Ytgeajgmefokifaa

/- The walk of CourseLazy. -/
namespace Go.Proofs.Ytgeajgmefokifaa
open Go Go.Eng

theorem stocks_in {x : Wn} {t : Wt} (hx : x.Right) (ht : t.In x) (w : World) (lo hi : Nat) (a : Option Addr) (c : Nat) (v1 v2 v3 : Value) (h : RdD w lo hi (.slice a x.days.length c) x.days) (hw : WtR w t v1 v2 v3) :
    Ca Try.prog 62 [.agg (wnC x a c).toArray, .agg #[v1, v2, v3]] w fun r w' => ∃ v : Value, r = .tuple #[v, .int .i64 0] ∧ Sat w M0 [.ow v 3 1 (hapV x t).stocks.length (ints (hapV x t).stocks)] w' := by
  have h2 := hx.d2
  have h3 := ht.need
  have h4 := ht.make
  have h5 := ht.loss
  exact stocks_ok w lo hi x a c t v1 v2 v3 h (by omega) hw (by omega) (by omega) (by omega) (weatV_iff.2 ⟨hx, ht⟩)

end Go.Proofs.Ytgeajgmefokifaa

/- Plain laws of winters: the piles that are left, one by one. -/
namespace Go.Proofs.Ytgeajgmefokifaa
open Go

def mdO (w : Wn) (t : Wt) (j : Nat) : Int := madeOf w.store (sq w t j) (t.make.getD j 0) (t.loss.getD j 0)
theorem allP_succ (w : Wn) (t : Wt) (k : Nat) : allP w t (k + 1) = if 0 < mdO w t k then allP w t k ++ [((k : Int), mdO w t k)] else allP w t k := rfl
theorem allP_mem (w : Wn) (t : Wt) : ∀ k, ∀ p ∈ allP w t k, (p.1 = -1 ∧ p.2 = w.stock) ∨ ∃ j, j < k ∧ p.1 = (j : Int) ∧ p.2 = mdO w t j
  | 0, p, hp => by
    left
    simp only [allP, addP] at hp
    split at hp
    · obtain rfl : p = (-1, w.stock) := by simpa using hp
      exact ⟨rfl, rfl⟩
    · cases hp
  | k + 1, p, hp => by
    rw [allP_succ] at hp
    have old : p ∈ allP w t k → (p.1 = -1 ∧ p.2 = w.stock) ∨ ∃ j, j < k + 1 ∧ p.1 = (j : Int) ∧ p.2 = mdO w t j := fun h => by
      rcases allP_mem w t k p h with h | ⟨j, hj, h1, h2⟩
      · exact .inl h
      · exact .inr ⟨j, by omega, h1, h2⟩
    split at hp
    · rcases List.mem_append.1 hp with hp | hp
      · exact old hp
      · obtain rfl : p = ((k : Int), mdO w t k) := by simpa using hp
        exact .inr ⟨k, by omega, rfl, rfl⟩
    · exact old hp
theorem allP_inc (w : Wn) (t : Wt) : ∀ k, (allP w t k).Pairwise (fun p q => p.1 < q.1)
  | 0 => by
    simp only [allP, addP]
    split <;> simp
  | k + 1 => by
    rw [allP_succ]
    split
    · refine List.pairwise_append.2 ⟨allP_inc w t k, by simp, fun p hp q hq => ?_⟩
      obtain rfl : q = ((k : Int), mdO w t k) := by simpa using hq
      rcases allP_mem w t k p hp with ⟨h, _⟩ | ⟨j, hj, h, _⟩ <;> simp only <;> omega
    · exact allP_inc w t k
theorem allP_has (w : Wn) (t : Wt) : ∀ k j, j < k → 0 < mdO w t j → ((j : Int), mdO w t j) ∈ allP w t k
  | 0, _, h, _ => by omega
  | k + 1, j, hj, hp => by
    rw [allP_succ]
    by_cases h : j = k
    · subst h
      rw [if_pos hp]
      simp
    · have ih := allP_has w t k j (by omega) hp
      split
      · exact List.mem_append_left _ ih
      · exact ih
theorem allP_len (w : Wn) (t : Wt) : ∀ k, (allP w t k).length ≤ k + 1
  | 0 => by
    simp only [allP, addP]
    split <;> simp
  | k + 1 => by
    have ih := allP_len w t k
    rw [allP_succ]
    split
    · simp; omega
    · omega
theorem left_len {A l : List (Int × Int)} (h : LeftOf A l) : l.length ≤ A.length := by
  rcases h with rfl | ⟨pre, d, a, m, rest, rfl, rfl, _, _⟩ <;> simp
/-- The piles that are left, one by one. -/
structure PiledOk (w : Wn) (t : Wt) (c : Nat) (P : List (Int × Int)) : Prop where
  one : ∀ i (h : i < P.length), (P[i].1 = -1 ∧ P[i].2 ≤ w.stock ∧ (0 < i → P[i].2 = w.stock)) ∨ ∃ j : Nat, j < c ∧ P[i].1 = (j : Int) ∧ P[i].2 ≤ mdO w t j ∧ (0 < i → P[i].2 = mdO w t j)
  pos : ∀ i (h : i < P.length), 1 ≤ P[i].2
  inc : ∀ i (h : i + 1 < P.length), P[i].1 < P[i + 1].1
  has : ∀ (h : 0 < P.length) (j : Nat), j < c → P[0].1 < (j : Int) → 0 < mdO w t j → ((j : Int), mdO w t j) ∈ P
theorem piled_ok {w : Wn} {t : Wt} {c : Nat} {P : List (Int × Int)} (hL : LeftOf (allP w t c) P) : PiledOk w t c P := by
  rcases hL with rfl | ⟨pre, d, a, m, rest, hA, rfl, hm0, hm1⟩
  · exact ⟨fun i h => by simp at h, fun i h => by simp at h, fun i h => by simp at h, fun h => by simp at h⟩
  · have hmem := allP_mem w t c
    have hinc := allP_inc w t c
    have hpos := allP_pos w t c
    have hhas := allP_has w t c
    rw [hA] at hmem hinc hpos hhas
    have hp := List.pairwise_append.1 hinc
    have hp2 := List.pairwise_cons.1 hp.2.1
    refine ⟨fun i h => ?_, fun i h => ?_, fun i h => ?_, fun h j hj hlt hpj => ?_⟩
    · cases i with
      | zero =>
        simp only [List.getElem_cons_zero]
        rcases hmem (d, a) (by simp) with ⟨h1, h2⟩ | ⟨j, hj, h1, h2⟩
        · exact .inl ⟨h1, by simp only at h2; omega, fun h => absurd h (by omega)⟩
        · exact .inr ⟨j, hj, h1, by simp only at h2; omega, fun h => absurd h (by omega)⟩
      | succ i =>
        have hi : i < rest.length := by simpa using h
        simp only [List.getElem_cons_succ]
        rcases hmem rest[i] (by simp) with ⟨h1, h2⟩ | ⟨j, hj, h1, h2⟩
        · exact .inl ⟨h1, by omega, fun _ => h2⟩
        · exact .inr ⟨j, hj, h1, by omega, fun _ => h2⟩
    · cases i with
      | zero => simp only [List.getElem_cons_zero]; omega
      | succ i =>
        have hi : i < rest.length := by simpa using h
        simp only [List.getElem_cons_succ]
        have := hpos rest[i] (by simp)
        omega
    · cases i with
      | zero =>
        simp only [List.getElem_cons_zero, List.getElem_cons_succ]
        exact hp2.1 _ (List.getElem_mem _)
      | succ i =>
        simp only [List.getElem_cons_succ]
        exact List.pairwise_iff_getElem.1 hp2.2 i (i + 1) (by simp at h; omega) (by simpa using h) (by omega)
    · simp only [List.getElem_cons_zero] at hlt
      have h1 := hhas j hj hpj
      rcases List.mem_append.1 h1 with h1 | h1
      · have := hp.2.2 _ h1 (d, a) (by simp)
        simp only at this
        omega
      · rcases List.mem_cons.1 h1 with h1 | h1
        · cases h1
          omega
        · exact List.mem_cons_of_mem _ h1
end Go.Proofs.Ytgeajgmefokifaa

/- The walk of CoursePiled. -/
namespace Go.Proofs.Ytgeajgmefokifaa
open Go Go.Eng

theorem made_in {x : Wn} {t : Wt} (hx : x.Right) (ht : t.In x) (w : World) (lo hi : Nat) (a : Option Addr) (c : Nat) (v1 v2 v3 : Value) (h : RdD w lo hi (.slice a x.days.length c) x.days) (hw : WtR w t v1 v2 v3) :
    Ca Try.prog 65 [.agg (wnC x a c).toArray, .agg #[v1, v2, v3]] w fun r w' => ∃ v : Value, r = .tuple #[v, .int .i64 0] ∧ Sat w M0 [.ow v 3 1 (hapV x t).made.length (ints (hapV x t).made)] w' := by
  have h2 := hx.d2
  have h3 := ht.need
  have h4 := ht.make
  have h5 := ht.loss
  exact made_ok w lo hi x a c t v1 v2 v3 h (by omega) hw (by omega) (by omega) (by omega) (weatV_iff.2 ⟨hx, ht⟩)
theorem piles_in {x : Wn} {t : Wt} (hx : x.Right) (ht : t.In x) (w : World) (lo hi : Nat) (a : Option Addr) (c : Nat) (v1 v2 v3 : Value) (h : RdD w lo hi (.slice a x.days.length c) x.days) (hw : WtR w t v1 v2 v3) :
    Ca Try.prog 66 [.agg (wnC x a c).toArray, .agg #[v1, v2, v3]] w fun r w' => ∃ v : Value, r = .tuple #[v, .int .i64 0] ∧ Sat w M0 [plK v (hapV x t).piles] w' := by
  have h2 := hx.d2
  have h3 := ht.need
  have h4 := ht.make
  have h5 := ht.loss
  exact piles_ok w lo hi x a c t v1 v2 v3 h (by omega) hw (by omega) (by omega) (by omega) (weatV_iff.2 ⟨hx, ht⟩)
theorem plK_rd {w0 w : World} {M : Nat → Prop} {H : List Ck} {v : Value} {l : List (Int × Int)} (hs : Sat w0 M H w) (hm : plK v l ∈ H) : RdS w 0 w.heap.size v l := RdS.of (hs.mem hm)

set_option maxHeartbeats 1000000 in
theorem indexP_ca (w : World) (lo hi : Nat) (v : Value) (P : List (Int × Int)) (d m : Int) (h : RdS w lo hi v P) (hlen : P.length ≤ 1000000) :
    Ca Try.prog 114 [v, .agg #[.int .i64 d, .int .i64 m]] w fun r w' => ∃ z : Int, (r = .int .i64 z ∧ -1 ≤ z ∧ z ≤ 1000000 ∧ (0 ≤ z ↔ (d, m) ∈ P)) ∧ Sat w M0 [] w' := by
  obtain ⟨a, ca, rfl, hsa⟩ := RdS.outI h
  refine q_of (Sat.nil w M0) Try.func114 rfl (by simp [Try.ntmps114]) ?_
  (refine q_seq ?_; refine q_region ?_)
  refine ql_box rfl rfl (fun b3 => ?_)
  (refine ql_pure tabOk rfl rfl ?_; refine q_nil ?_; (iterate 2 refine q_seq ?_); refine q_region ?_; (iterate 3 refine ql_pure tabOk rfl rfl ?_); refine q_nil ?_; refine q_block ?_)
  refine q_loop (σ := Nat) (fun k => k ≤ P.length ∧ (d, m) ∉ P.take k) (fun k => P.length - k) (fun k => [(0, .slice a P.length ca), (3, .pointer (some ⟨b3, 0, none⟩)), (7, .int .i64 P.length), (8, .int .i64 k)]) (fun _ => [.pt b3 [.int .i64 d, .int .i64 m] 117]) 0 (by simp) ⟨rfl, rfl, rfl, rfl, trivial⟩ (by repeat (first | exact Sp.nil | exact Sp.refl _ | refine Sp.cons (by repeat constructor) ?_)) ?_
  rintro k ⟨hk, hS⟩ K hK
  (refine q_seq ?_; refine q_region ?_; refine ql_pure tabOk rfl rfl ?_; refine q_nil ?_; refine q_seq ?_)
  refine q_if rfl (fun hc => ?_) (fun hc => ?_)
  · have hk2 : k < P.length := by omega
    obtain ⟨b, off, rfl⟩ := hsa (by omega)
    clear hc
    (refine q_skip ?_; refine q_seq ?_; refine q_block ?_; refine q_seq ?_; refine q_region ?_; (iterate 2 refine ql_pure tabOk rfl rfl ?_); refine q_nil ?_; refine q_seq ?_)
    refine q_draw _ [] (Sp.refl _) (by kernel_rfl) (by kernel_rfl) ?_
    (refine qf_loadAB tabOk rfl rfl rfl (by repeat first | exact .head _ | refine .tail _ ?_) (by rfl) (by rfl) ?_; (iterate 2 refine qf_pure tabOk rfl rfl rfl ?_))
    refine qf_index tabOk rfl rfl rfl rfl rfl (by omega) (by omega) ?_
    refine qf_loadA tabOk rfl rfl rfl rfl (fun w hs => RdS.at (RdE.keep h hs.chg0) k hk2) ?_
    refine qf_eqF (xs := [.int .i64 d, .int .i64 m]) (ys := [.int .i64 P[k].1, .int .i64 P[k].2]) [some .i64, some .i64] pil_flat rfl rfl rfl rfl rfl ?_
    by_cases he : (d, m) = P[k]
    · have e : eqL [.int .i64 d, .int .i64 m] [.int .i64 P[k].1, .int .i64 P[k].2] = true := by
        rw [← he]
        simp [eqL]
      rw [e]
      (refine qf_nil ?_; refine q_cond_true rfl ?_; refine q_seq ?_; refine q_region ?_; (iterate 2 refine ql_pure tabOk rfl rfl ?_); refine q_nil ?_; refine q_ret ?_)
      refine q_fin tabOk rfl (by repeat (first | exact RVs.nil | apply RVs.tmp rfl | apply RVs.cellA rfl rfl (by repeat first | exact .head _ | refine .tail _ ?_) (by rfl) | apply RVs.cell1 rfl rfl (by repeat first | exact .head _ | refine .tail _ ?_))) fun w hs => ?_
      exact ⟨(k : Int), ⟨rfl, by omega, by omega, ⟨fun _ => he ▸ List.getElem_mem _, fun _ => by omega⟩⟩, hs.sp .nil⟩
    · have e : eqL [.int .i64 d, .int .i64 m] [.int .i64 P[k].1, .int .i64 P[k].2] = false := by
        simp only [eqL, Bool.and_true, Bool.and_eq_false_imp, decide_eq_true_eq, decide_eq_false_iff_not]
        intro h1 h2
        exact he (Prod.ext h1 h2)
      rw [e]
      (refine qf_nil ?_; refine q_cond_false rfl ?_; refine q_skip ?_; refine q_blk ?_; refine q_region ?_; refine ql_ar tabOk rfl rfl rfl rfl (by omega) (by omega) ?_; refine ql_pure tabOk rfl rfl ?_; refine q_nil ?_)
      refine hK (k + 1) _ _ ⟨by omega, ?_⟩ (by omega) ⟨rfl, rfl, rfl, rfl, trivial⟩ (by repeat (first | exact Sp.nil | exact Sp.refl _ | refine Sp.cons (by repeat constructor) ?_))
      rw [List.take_succ_eq_append_getElem hk2]
      simp only [List.mem_append, List.mem_singleton, not_or]
      exact ⟨hS, he⟩
  · obtain rfl : k = P.length := by omega
    rw [List.take_length] at hS
    (refine q_exit _ rfl ?_; refine q_seq ?_; refine q_region ?_; refine ql_pure tabOk rfl rfl ?_; refine q_nil ?_; refine q_ret ?_)
    refine q_fin tabOk rfl (by repeat (first | exact RVs.nil | apply RVs.tmp rfl | apply RVs.cellA rfl rfl (by repeat first | exact .head _ | refine .tail _ ?_) (by rfl) | apply RVs.cell1 rfl rfl (by repeat first | exact .head _ | refine .tail _ ?_))) fun w hs => ?_
    exact ⟨-1, ⟨rfl, by omega, by omega, ⟨fun h => by omega, fun h => absurd h hS⟩⟩, hs.sp .nil⟩
theorem containsP_ca (w : World) (lo hi : Nat) (v : Value) (P : List (Int × Int)) (d m : Int) (h : RdS w lo hi v P) (hlen : P.length ≤ 1000000) (hm : (d, m) ∈ P) :
    Ca Try.prog 67 [v, .agg #[.int .i64 d, .int .i64 m]] w fun r w' => r = .bool true ∧ Chg [] w w' := by
  refine q_of (Sat.nil w M0) Try.func67 rfl (by simp [Try.ntmps67]) ?_
  (refine q_seq ?_; refine q_region ?_)
  refine ql_box rfl rfl (fun b3 => ?_)
  (refine ql_pure tabOk rfl rfl ?_; refine q_nil ?_; refine q_seq ?_; refine q_region ?_; refine ql_pure tabOk rfl rfl ?_; refine ql_loadAB tabOk rfl rfl rfl (by repeat first | exact .head _ | refine .tail _ ?_) (by rfl) (by rfl) ?_)
  refine ql_call (β := Int) (ψ := fun z v => v = .int .i64 z ∧ -1 ≤ z ∧ z ≤ 1000000 ∧ (0 ≤ z ↔ (d, m) ∈ P)) (L' := fun _ => []) tabOk [] _ M0 rfl rfl rfl rfl (Sp.refl _) (fun _ h => h.elim) (fun w' hs => indexP_ca w' lo hi v P d m (RdE.keep h hs.chg0) hlen) ?_
  rintro z _ ⟨rfl, h1, h2, h3⟩
  have hz := h3.2 hm
  (refine ql_geqT tabOk rfl rfl rfl (by omega) ?_; refine ql_pure tabOk rfl rfl ?_; refine q_nil ?_; refine q_ret ?_)
  refine q_fin tabOk rfl (by repeat (first | exact RVs.nil | apply RVs.tmp rfl | apply RVs.cellA rfl rfl (by repeat first | exact .head _ | refine .tail _ ?_) (by rfl) | apply RVs.cell1 rfl rfl (by repeat first | exact .head _ | refine .tail _ ?_))) fun w hs => ?_
  exact ⟨rfl, hs.chg0⟩
theorem sum_take {P : List (Int × Int)} (hp : ∀ i (h : i < P.length), 1 ≤ P[i].2) : ∀ k, k ≤ P.length → 0 ≤ sumP (P.take k) ∧ (∀ h : k < P.length, sumP (P.take (k + 1)) = sumP (P.take k) + P[k].2)
  | 0, _ => ⟨by simp [sumP], fun h => by rw [List.take_succ_eq_append_getElem h]; simp [sumP]⟩
  | k + 1, hk => by
    have ih := sum_take hp k (by omega)
    have h1 := ih.2 (by omega)
    have h2 := hp k (by omega)
    exact ⟨by omega, fun h => by rw [List.take_succ_eq_append_getElem h]; unfold sumP; rw [List.map_append, List.sum_append]; simp⟩
theorem sum_take_le {P : List (Int × Int)} (hp : ∀ i (h : i < P.length), 1 ≤ P[i].2) : ∀ n k, k + n = P.length → sumP (P.take k) ≤ sumP P
  | 0, k, h => by
    obtain rfl : k = P.length := by omega
    rw [List.take_length]
    exact Int.le_refl _
  | n + 1, k, h => by
    have ih := sum_take_le hp n (k + 1) (by omega)
    have h1 := (sum_take hp k (by omega)).2 (by omega)
    have h2 := hp k (by omega)
    omega
end Go.Proofs.Ytgeajgmefokifaa

/- The walk of CoursePiled. -/
namespace Go.Proofs.Ytgeajgmefokifaa
open Go Go.Eng

set_option maxRecDepth 20000 in
set_option maxHeartbeats 8000000 in
theorem coursePiled_ca (w : World) (a : Option Addr) (n c : Nat) (a2 : Option Addr) (n2 c2 : Nat) (hbyb1 : DkB w 0 w.heap.size (.slice a n c)) (hbyb2 : DkB w 0 w.heap.size (.slice a2 n2 c2)) :
    Ca Try.prog 14 [.slice a n c, .slice a2 n2 c2] w fun r w' => r = .bool true ∧ Chg [] w w' := by
  refine q_of (Sat.nil w M0) Try.func14 rfl (by simp [Try.ntmps14]) ?_
  (refine q_seq ?_; refine q_region ?_; refine ql_pure tabOk rfl rfl ?_; refine q_nil ?_; refine q_seq ?_; refine q_region ?_; refine ql_pure tabOk rfl rfl ?_)
  refine ql_call (β := Nat) tabOk [] _ M0 rfl rfl rfl rfl (Sp.refl _) (fun _ h => h.elim) (fun w' hs => of_ca w' a n c) ?_
  rintro b1 _ rfl
  skip
  refine ql_call (β := Nat × Nat × Wn) (ψ := fun y v => v = .agg (wnC y.2.2 (some ⟨y.1, 0, none⟩) y.2.1).toArray ∧ WinB 20 y.2.2) (L' := fun y => [.ow (.slice (some ⟨y.1, 0, none⟩) y.2.2.days.length y.2.1) 73 6 y.2.2.days.length (dyC y.2.2.days), dkP (.slice a n c) b1 (0 + 1000)]) tabOk [dkP (.slice a n c) b1 (0)] _ (fun x => x = b1) rfl rfl rfl rfl (Sp.cons (by repeat constructor) (Sp.refl _)) (fun x hx => ⟨_, .head _, hx⟩) (fun w' hs => madeW0 (days := 20) hbyb1 hs (by omega) (by omega) (by omega)) ?_; rintro ⟨g, cd, x⟩ _ ⟨rfl, hwx⟩; dsimp only [List.cons_append, List.nil_append] at hwx ⊢
  have hrx := hwx.right (by omega)
  skip
  refine ql_alloc zero61 rfl (fun b5 => ?_)
  (refine ql_setA tabOk rfl rfl rfl rfl rfl (by repeat constructor) rfl ?_; refine q_nil ?_; refine q_seq ?_)
  have hlen := hrx.d2
  refine q_cut (σ := {y : (Nat × Nat) × ((Option Addr × Nat) × (Option Addr × Nat) × Option Addr × Nat) × Wt // y.2.2.In x}) (fun y => [(5, .pointer (some ⟨b5, 0, none⟩)), (6, .pointer (some ⟨y.1.1.1, 0, none⟩))])
    (fun y => [.pt y.1.1.1 [.slice y.1.2.1.1.1 y.1.2.2.need.length y.1.2.1.1.2, .slice y.1.2.1.2.1.1 y.1.2.2.make.length y.1.2.1.2.1.2, .slice y.1.2.1.2.2.1 y.1.2.2.loss.length y.1.2.1.2.2.2] 107, .ow (.slice y.1.2.1.1.1 y.1.2.2.need.length y.1.2.1.1.2) 3 1 y.1.2.2.need.length (ints y.1.2.2.need), .ow (.slice y.1.2.1.2.1.1 y.1.2.2.make.length y.1.2.1.2.1.2) 3 1 y.1.2.2.make.length (ints y.1.2.2.make), .ow (.slice y.1.2.1.2.2.1 y.1.2.2.loss.length y.1.2.1.2.2.2) 3 1 y.1.2.2.loss.length (ints y.1.2.2.loss), .ow (.slice (some ⟨g, 0, none⟩) x.days.length cd) 73 6 x.days.length (dyC x.days), .pt b5 (wnC x (some ⟨g, 0, none⟩) cd) 61]) ?_ (fun K2 hK2 => ?_)
  rotate_left
  · skip
    refine q_drawT (.alt (chainT [0, 1] (.alt (chainT [2, 3, 4, 5] (.nil)) (chainT [4, 2, 3, 5] (.nil)))) (chainT [4, 0, 1, 2, 3, 5] (.nil))) _ [.ow (.slice (some ⟨g, 0, none⟩) x.days.length cd) 73 6 x.days.length (dyC x.days)] (Sp.cons (by repeat constructor) (Sp.refl _)) (by kernel_rfl) (by kernel_rfl) ?_
    refine qt_alt ?_ ?_
    · skip
      refine qt_seg (by repeat (first | exact PickL.nil | (apply PickL.cons; rfl))) fun K1 hK1 => ?_
      (refine qf_pure tabOk rfl rfl rfl ?_)
      refine qf_call (β := Nat) tabOk [] _ M0 rfl rfl rfl rfl (Sp.refl _) (fun _ h => h.elim) (fun w' hs => of_ca w' a2 n2 c2) ?_
      rintro b2 _ rfl
      have hrb2 := hrx
      (refine qf_nil ?_)
      refine hK1 _ _ ?_
      refine qt_alt ?_ ?_
      · skip
        refine qt_seg (by repeat (first | exact PickL.nil | (apply PickL.cons; rfl))) fun K1 hK1 => ?_
        (refine qf_loadAB tabOk rfl rfl rfl (by repeat first | exact .head _ | refine .tail _ ?_) (by rfl) (by rfl) ?_)
        refine qf_call (β := (Value × Value × Value) × Wt) (ψ := fun y v => v = .agg #[y.1.1, y.1.2.1, y.1.2.2] ∧ y.2.In x) (L' := fun y => wtK y.1.1 y.1.2.1 y.1.2.2 y.2 ++ drL ((.slice a2 n2 c2)) b2 (0 + 200) g cd x.days) tabOk (drL ((.slice a2 n2 c2)) b2 (0) g cd x.days) _ (DL (drL ((.slice a2 n2 c2)) b2 (0) g cd x.days)) rfl rfl rfl rfl (Sp.cons (by repeat constructor) (Sp.cons (by repeat constructor) (Sp.refl _))) (fun x hx => hx) (fun w' hs => drawn0 hrx hbyb2 hs (by omega)) ?_; rintro ⟨⟨u1, u2, u3⟩, t⟩ _ ⟨rfl, ht⟩; dsimp only [wtK, drL, List.cons_append, List.nil_append] at ht ⊢; refine qf_fact (fun w hs => hs.slice2 (v := u1) (by repeat first | exact .head _ | refine .tail _ ?_)) ?_; rintro ⟨au1, cu1, rfl⟩; refine qf_fact (fun w hs => hs.slice2 (v := u2) (by repeat first | exact .head _ | refine .tail _ ?_)) ?_; rintro ⟨au2, cu2, rfl⟩; refine qf_fact (fun w hs => hs.slice2 (v := u3) (by repeat first | exact .head _ | refine .tail _ ?_)) ?_; rintro ⟨au3, cu3, rfl⟩
        skip
        refine qf_alloc zero107 rfl (fun b6 => ?_)
        (refine qf_setA tabOk rfl rfl rfl rfl rfl (by repeat constructor) rfl ?_; refine qf_nil ?_)
        skip
        exact hK1 _ _ (qt_nil (hK2 ⟨((b6, b2), ((au1, cu1), (au2, cu2), au3, cu3), t), ht⟩ _ _ ⟨rfl, rfl, trivial⟩ (by repeat (first | exact Sp.nil | exact Sp.refl _ | refine Sp.cons (by repeat constructor) ?_))))
      · skip
        refine qt_seg (by repeat (first | exact PickL.nil | (apply PickL.cons; rfl))) fun K1 hK1 => ?_
        skip
        refine qf_alloc zero107 rfl (fun b6 => ?_)
        (refine qf_loadAB tabOk rfl rfl rfl (by repeat first | exact .head _ | refine .tail _ ?_) (by rfl) (by rfl) ?_)
        refine qf_call (β := (Value × Value × Value) × Wt) (ψ := fun y v => v = .agg #[y.1.1, y.1.2.1, y.1.2.2] ∧ y.2.In x) (L' := fun y => wtK y.1.1 y.1.2.1 y.1.2.2 y.2 ++ drL ((.slice a2 n2 c2)) b2 (0 + 200) g cd x.days) tabOk (drL ((.slice a2 n2 c2)) b2 (0) g cd x.days) _ (DL (drL ((.slice a2 n2 c2)) b2 (0) g cd x.days)) rfl rfl rfl rfl (Sp.cons (by repeat constructor) (Sp.cons (by repeat constructor) (Sp.refl _))) (fun x hx => hx) (fun w' hs => drawn0 hrx hbyb2 hs (by omega)) ?_; rintro ⟨⟨u1, u2, u3⟩, t⟩ _ ⟨rfl, ht⟩; dsimp only [wtK, drL, List.cons_append, List.nil_append] at ht ⊢; refine qf_fact (fun w hs => hs.slice2 (v := u1) (by repeat first | exact .head _ | refine .tail _ ?_)) ?_; rintro ⟨au1, cu1, rfl⟩; refine qf_fact (fun w hs => hs.slice2 (v := u2) (by repeat first | exact .head _ | refine .tail _ ?_)) ?_; rintro ⟨au2, cu2, rfl⟩; refine qf_fact (fun w hs => hs.slice2 (v := u3) (by repeat first | exact .head _ | refine .tail _ ?_)) ?_; rintro ⟨au3, cu3, rfl⟩
        (refine qf_setA tabOk rfl rfl rfl rfl rfl (by repeat constructor) rfl ?_; refine qf_nil ?_)
        skip
        exact hK1 _ _ (qt_nil (hK2 ⟨((b6, b2), ((au1, cu1), (au2, cu2), au3, cu3), t), ht⟩ _ _ ⟨rfl, rfl, trivial⟩ (by repeat (first | exact Sp.nil | exact Sp.refl _ | refine Sp.cons (by repeat constructor) ?_))))
    · skip
      refine qt_seg (by repeat (first | exact PickL.nil | (apply PickL.cons; rfl))) fun K1 hK1 => ?_
      skip
      refine qf_alloc zero107 rfl (fun b6 => ?_)
      (refine qf_pure tabOk rfl rfl rfl ?_)
      refine qf_call (β := Nat) tabOk [] _ M0 rfl rfl rfl rfl (Sp.refl _) (fun _ h => h.elim) (fun w' hs => of_ca w' a2 n2 c2) ?_
      rintro b2 _ rfl
      have hrb2 := hrx
      (refine qf_loadAB tabOk rfl rfl rfl (by repeat first | exact .head _ | refine .tail _ ?_) (by rfl) (by rfl) ?_)
      refine qf_call (β := (Value × Value × Value) × Wt) (ψ := fun y v => v = .agg #[y.1.1, y.1.2.1, y.1.2.2] ∧ y.2.In x) (L' := fun y => wtK y.1.1 y.1.2.1 y.1.2.2 y.2 ++ drL ((.slice a2 n2 c2)) b2 (0 + 200) g cd x.days) tabOk (drL ((.slice a2 n2 c2)) b2 (0) g cd x.days) _ (DL (drL ((.slice a2 n2 c2)) b2 (0) g cd x.days)) rfl rfl rfl rfl (Sp.cons (by repeat constructor) (Sp.cons (by repeat constructor) (Sp.refl _))) (fun x hx => hx) (fun w' hs => drawn0 hrx hbyb2 hs (by omega)) ?_; rintro ⟨⟨u1, u2, u3⟩, t⟩ _ ⟨rfl, ht⟩; dsimp only [wtK, drL, List.cons_append, List.nil_append] at ht ⊢; refine qf_fact (fun w hs => hs.slice2 (v := u1) (by repeat first | exact .head _ | refine .tail _ ?_)) ?_; rintro ⟨au1, cu1, rfl⟩; refine qf_fact (fun w hs => hs.slice2 (v := u2) (by repeat first | exact .head _ | refine .tail _ ?_)) ?_; rintro ⟨au2, cu2, rfl⟩; refine qf_fact (fun w hs => hs.slice2 (v := u3) (by repeat first | exact .head _ | refine .tail _ ?_)) ?_; rintro ⟨au3, cu3, rfl⟩
      (refine qf_setA tabOk rfl rfl rfl rfl rfl (by repeat constructor) rfl ?_; refine qf_nil ?_)
      skip
      exact hK1 _ _ (qt_nil (hK2 ⟨((b6, b2), ((au1, cu1), (au2, cu2), au3, cu3), t), ht⟩ _ _ ⟨rfl, rfl, trivial⟩ (by repeat (first | exact Sp.nil | exact Sp.refl _ | refine Sp.cons (by repeat constructor) ?_))))
  rintro ⟨⟨⟨b6, b2⟩, ⟨⟨au1, cu1⟩, ⟨au2, cu2⟩, au3, cu3⟩, t⟩, ht⟩
  dsimp only at ht ⊢
  have hfine := in_fine hrx ht
  (refine q_seq ?_; refine q_region ?_; (iterate 2 refine ql_loadAB tabOk rfl rfl rfl (by repeat first | exact .head _ | refine .tail _ ?_) (by rfl) (by rfl) ?_))
  refine ql_call (β := Value) tabOk [] _ M0 rfl rfl rfl rfl (Sp.refl _) (fun _ h => h.elim) (fun w' hs => stocks_in hrx ht w' 0 w'.heap.size (some ⟨g, 0, none⟩) cd _ _ _ (days_rd hs (by repeat first | exact .head _ | refine .tail _ ?_)) (wtK_R hs (by repeat first | exact .head _ | refine .tail _ ?_) (by repeat first | exact .head _ | refine .tail _ ?_) (by repeat first | exact .head _ | refine .tail _ ?_))) ?_
  rintro sv _ rfl
  dsimp only [List.cons_append, List.nil_append]
  refine ql_fact (fun w hs => hs.slice2 (v := sv) (by repeat first | exact .head _ | refine .tail _ ?_)) ?_
  rintro ⟨sa, sc, rfl⟩
  (refine ql_pure tabOk rfl rfl ?_; (iterate 2 refine ql_ext tabOk rfl rfl rfl ?_); (iterate 2 refine ql_pure tabOk rfl rfl ?_); refine q_nil ?_; refine q_seq ?_; refine q_region ?_; (iterate 2 refine ql_loadAB tabOk rfl rfl rfl (by repeat first | exact .head _ | refine .tail _ ?_) (by rfl) (by rfl) ?_))
  refine ql_call (β := Value) tabOk [] _ M0 rfl rfl rfl rfl (Sp.refl _) (fun _ h => h.elim) (fun w' hs => made_in hrx ht w' 0 w'.heap.size (some ⟨g, 0, none⟩) cd _ _ _ (days_rd hs (by repeat first | exact .head _ | refine .tail _ ?_)) (wtK_R hs (by repeat first | exact .head _ | refine .tail _ ?_) (by repeat first | exact .head _ | refine .tail _ ?_) (by repeat first | exact .head _ | refine .tail _ ?_))) ?_
  rintro mv _ rfl
  dsimp only [List.cons_append, List.nil_append]
  refine ql_fact (fun w hs => hs.slice2 (v := mv) (by repeat first | exact .head _ | refine .tail _ ?_)) ?_
  rintro ⟨ma, mc, rfl⟩
  (refine ql_pure tabOk rfl rfl ?_; (iterate 2 refine ql_ext tabOk rfl rfl rfl ?_); (iterate 2 refine ql_pure tabOk rfl rfl ?_); refine q_nil ?_; refine q_seq ?_; refine q_region ?_; (iterate 2 refine ql_loadAB tabOk rfl rfl rfl (by repeat first | exact .head _ | refine .tail _ ?_) (by rfl) (by rfl) ?_))
  refine ql_call (β := Value) tabOk [] _ M0 rfl rfl rfl rfl (Sp.refl _) (fun _ h => h.elim) (fun w' hs => piles_in hrx ht w' 0 w'.heap.size (some ⟨g, 0, none⟩) cd _ _ _ (days_rd hs (by repeat first | exact .head _ | refine .tail _ ?_)) (wtK_R hs (by repeat first | exact .head _ | refine .tail _ ?_) (by repeat first | exact .head _ | refine .tail _ ?_) (by repeat first | exact .head _ | refine .tail _ ?_))) ?_
  rintro pv _ rfl
  dsimp only [List.cons_append, List.nil_append]
  refine ql_fact (fun w hs => plK_sl hs (v := pv) (l := (hapV x t).piles) (by repeat first | exact .head _ | refine .tail _ ?_)) ?_
  rintro ⟨pa, pc, rfl⟩
  obtain ⟨cc, hc1, hc2, hc3, hm3, hc4, hL, hsum, _, _⟩ := hap_count hrx hfine
  have hP := piled_ok hL
  have hPl : (hapV x t).piles.length ≤ 100 := by
    have h1 := left_len hL
    have h2 := allP_len x t cc
    omega
  clear hL
  have hsat : ∀ k, (h : k < (hapV x t).stocks.length) → (hapV x t).stocks[k] = sq x t (k + 1) := fun k h => by simp only [hc3, List.getElem_map, List.getElem_range]
  have hml : (hapV x t).made.length = cc := by rw [hm3]; simp
  have hmat : ∀ k, (h : k < (hapV x t).made.length) → (hapV x t).made[k] = mdO x t k := fun k h => by simp only [hm3, List.getElem_map, List.getElem_range]; rfl
  clear hc3 hm3
  generalize (hapV x t).stocks = S at *
  generalize (hapV x t).made = MD at *
  generalize (hapV x t).piles = P at *
  have hst := hrx.store
  have hsk := hrx.stock
  (refine ql_pure tabOk rfl rfl ?_; (iterate 2 refine ql_ext tabOk rfl rfl rfl ?_); (iterate 2 refine ql_pure tabOk rfl rfl ?_); refine q_nil ?_; (iterate 2 refine q_seq ?_); refine q_region ?_; refine ql_pure tabOk rfl rfl ?_; refine ql_neqF tabOk rfl rfl rfl (by omega) ?_; refine ql_pure tabOk rfl rfl ?_; refine ql_gyes rfl ?_; refine ql_pure tabOk rfl rfl ?_; refine ql_gyes rfl ?_; refine ql_neqF tabOk rfl rfl rfl (by omega) ?_; (iterate 2 refine ql_pure tabOk rfl rfl ?_); refine ql_gyes rfl ?_; refine ql_pure tabOk rfl rfl ?_; refine ql_gyes rfl ?_; refine ql_neqF tabOk rfl rfl rfl (by omega) ?_; (iterate 2 refine ql_pure tabOk rfl rfl ?_); refine ql_gyes rfl ?_; refine ql_pure tabOk rfl rfl ?_; refine ql_gyes rfl ?_; refine ql_pure tabOk rfl rfl ?_; refine ql_gyes rfl ?_; refine ql_pure tabOk rfl rfl ?_; refine ql_gyes rfl ?_; refine ql_pure tabOk rfl rfl ?_; refine ql_gyes rfl ?_; refine ql_neqF tabOk rfl rfl rfl (by omega) ?_; (iterate 2 refine ql_pure tabOk rfl rfl ?_); refine ql_gyes rfl ?_; refine ql_pure tabOk rfl rfl ?_; refine ql_gyes rfl ?_; refine ql_pure tabOk rfl rfl ?_; refine ql_gyes rfl ?_; refine ql_pure tabOk rfl rfl ?_; refine ql_gyes rfl ?_; refine ql_loadB tabOk rfl rfl rfl (by repeat first | exact .head _ | refine .tail _ ?_) (by rfl) ?_; refine ql_gyes rfl ?_; refine ql_pure tabOk rfl rfl ?_; refine ql_gyes rfl ?_; refine ql_gtrF tabOk rfl rfl rfl (by omega) ?_; refine ql_pure tabOk rfl rfl ?_; refine q_nil ?_; refine q_cond_false rfl ?_; refine q_skip ?_; refine q_seq ?_; refine q_region ?_; refine ql_pure tabOk rfl rfl ?_; refine ql_loadB tabOk rfl rfl rfl (by repeat first | exact .head _ | refine .tail _ ?_) (by rfl) ?_; refine ql_pure tabOk rfl rfl ?_; refine q_nil ?_; (iterate 2 refine q_seq ?_); refine q_region ?_; (iterate 3 refine ql_pure tabOk rfl rfl ?_); refine q_nil ?_; refine q_block ?_)
  refine q_loop (σ := Nat) (fun k => k ≤ S.length) (fun k => S.length - k) (fun k => [(5, .pointer (some ⟨b5, 0, none⟩)), (6, .pointer (some ⟨b6, 0, none⟩)), (9, .slice ma MD.length mc), (11, .slice pa P.length pc), (13, .int .i64 (sq x t k)), (74, .slice sa S.length sc), (75, .int .i64 S.length), (76, .int .i64 k)])
    (fun k => [.ow (.slice ma MD.length mc) 3 1 MD.length (ints MD), .ow (.slice sa S.length sc) 3 1 S.length (ints S), plK (.slice pa P.length pc) P, .pt b5 (wnC x (some ⟨g, 0, none⟩) cd) 61, .pt b6 [.slice au1 t.need.length cu1, .slice au2 t.make.length cu2, .slice au3 t.loss.length cu3] 107, .ow (.slice au1 t.need.length cu1) 3 1 t.need.length (ints t.need), .ow (.slice au2 t.make.length cu2) 3 1 t.make.length (ints t.make), .ow (.slice au3 t.loss.length cu3) 3 1 t.loss.length (ints t.loss)]) 0 (by omega) ⟨rfl, rfl, rfl, rfl, rfl, rfl, rfl, rfl, trivial⟩ (by repeat (first | exact Sp.nil | exact Sp.refl _ | refine Sp.cons (by repeat constructor) ?_)) ?_
  rintro k hk K hK
  (refine q_seq ?_; refine q_region ?_; refine ql_pure tabOk rfl rfl ?_; refine q_nil ?_; refine q_seq ?_)
  refine q_if rfl (fun hc => ?_) (fun hc => ?_)
  · have hk2 : k < S.length := by first | omega | (simp at hc; omega)
    clear hc
    have y1 : k < t.need.length := by have := ht.need; omega
    have y2 : k < t.make.length := by have := ht.make; omega
    have y3 : k < t.loss.length := by have := ht.loss; omega
    have y4 : k < MD.length := by omega
    have z1 := hfine.need0 _ (List.getElem_mem y1)
    have z2 := hfine.make0 _ (List.getElem_mem y2)
    have z3 := hfine.loss0 _ (List.getElem_mem y3)
    have hq : sq x t (k + 1) = min (max 0 (sq x t k - t.loss.getD k 0) + t.make.getD k 0) x.store - t.need.getD k 0 := rfl
    have hm : mdO x t k = min (t.make.getD k 0) (x.store - (sq x t k - min (sq x t k) (t.loss.getD k 0))) := rfl
    rw [getD_at y1, getD_at y2, getD_at y3] at hq
    rw [getD_at y2, getD_at y3, ← hmat k y4] at hm
    have hs1 := hsat k hk2
    rw [← hs1] at hq
    have hb := hc4 k (by omega)
    generalize hsq : sq x t k = st at *
    refine q_fact (fun w hs => hs.ownSome (v := .slice au1 t.need.length cu1) (by repeat first | exact .head _ | refine .tail _ ?_) (by omega)) ?_
    rintro ⟨e1, f1, zz1⟩
    cases zz1
    refine q_fact (fun w hs => hs.ownSome (v := .slice au2 t.make.length cu2) (by repeat first | exact .head _ | refine .tail _ ?_) (by omega)) ?_
    rintro ⟨e2, f2, zz2⟩
    cases zz2
    refine q_fact (fun w hs => hs.ownSome (v := .slice au3 t.loss.length cu3) (by repeat first | exact .head _ | refine .tail _ ?_) (by omega)) ?_
    rintro ⟨e3, f3, zz3⟩
    cases zz3
    refine q_fact (fun w hs => hs.ownSome (v := .slice ma MD.length mc) (by repeat first | exact .head _ | refine .tail _ ?_) (by omega)) ?_
    rintro ⟨e4, f4, zz4⟩
    cases zz4
    refine q_fact (fun w hs => hs.ownSome (v := .slice sa S.length sc) (by repeat first | exact .head _ | refine .tail _ ?_) (by omega)) ?_
    rintro ⟨e5, f5, zz5⟩
    cases zz5
    (refine q_skip ?_; refine q_seq ?_; refine q_block ?_; refine q_seq ?_; refine q_region ?_; refine ql_pure tabOk rfl rfl ?_)
    refine ql_index tabOk rfl rfl rfl rfl rfl (by omega) (by omega) ?_
    refine ql_load1 (v := .int .i64 S[k]) tabOk rfl rfl rfl (fun w hs => RdI.at (hs.rdI (v := .slice (some ⟨e5, 0, none⟩) S.length sc) (l := S) (by repeat first | exact .head _ | refine .tail _ ?_) rfl) k hk2) ?_
    ((iterate 2 refine ql_pure tabOk rfl rfl ?_); refine q_nil ?_; refine q_seq ?_; refine q_region ?_; (iterate 2 refine ql_pure tabOk rfl rfl ?_); refine ql_loadB tabOk rfl rfl rfl (by repeat first | exact .head _ | refine .tail _ ?_) (by rfl) ?_; refine ql_pure tabOk rfl rfl ?_)
    refine ql_index tabOk rfl rfl rfl rfl rfl (by omega) (by omega) ?_
    refine ql_load1 (v := .int .i64 t.loss[k]) tabOk rfl rfl rfl (fun w hs => RdI.at (hs.rdI (v := .slice (some ⟨e3, 0, none⟩) t.loss.length cu3) (l := t.loss) (by repeat first | exact .head _ | refine .tail _ ?_) rfl) k y3) ?_
    ((iterate 2 refine ql_pure tabOk rfl rfl ?_); refine q_nil ?_; (iterate 2 refine q_seq ?_))
    refine q_draw _ [] (Sp.refl _) (by kernel_rfl) (by kernel_rfl) ?_
    ((iterate 2 refine qf_pure tabOk rfl rfl rfl ?_))
    refine qf_index tabOk rfl rfl rfl rfl rfl (by omega) (by omega) ?_
    skip
    refine qf_load1 (v := .int .i64 MD[k]) tabOk rfl rfl rfl (fun w hs => RdI.at (hs.rdI (v := .slice (some ⟨e4, 0, none⟩) MD.length mc) (l := MD) (by repeat first | exact .head _ | refine .tail _ ?_) rfl) k y4) ?_
    (refine qf_lssF tabOk rfl rfl rfl (by omega) ?_; refine qf_pure tabOk rfl rfl rfl ?_; refine qf_gyes rfl ?_; refine qf_pure tabOk rfl rfl rfl ?_; refine qf_gyes rfl ?_; refine qf_pure tabOk rfl rfl rfl ?_; refine qf_gyes rfl ?_)
    refine qf_index tabOk rfl rfl rfl rfl rfl (by omega) (by omega) ?_
    (refine qf_gyes rfl ?_)
    refine qf_load1 (v := .int .i64 MD[k]) tabOk rfl rfl rfl (fun w hs => RdI.at (hs.rdI (v := .slice (some ⟨e4, 0, none⟩) MD.length mc) (l := MD) (by repeat first | exact .head _ | refine .tail _ ?_) rfl) k y4) ?_
    (refine qf_gyes rfl ?_; refine qf_pure tabOk rfl rfl rfl ?_; refine qf_gyes rfl ?_; refine qf_loadB tabOk rfl rfl rfl (by repeat first | exact .head _ | refine .tail _ ?_) (by rfl) ?_; refine qf_gyes rfl ?_; refine qf_pure tabOk rfl rfl rfl ?_; refine qf_gyes rfl ?_)
    refine qf_index tabOk rfl rfl rfl rfl rfl (by omega) (by omega) ?_
    (refine qf_gyes rfl ?_)
    refine qf_load1 (v := .int .i64 t.make[k]) tabOk rfl rfl rfl (fun w hs => RdI.at (hs.rdI (v := .slice (some ⟨e2, 0, none⟩) t.make.length cu2) (l := t.make) (by repeat first | exact .head _ | refine .tail _ ?_) rfl) k y2) ?_
    (refine qf_gyes rfl ?_; refine qf_gtrF tabOk rfl rfl rfl (by omega) ?_; (iterate 2 refine qf_pure tabOk rfl rfl rfl ?_); refine qf_gyes rfl ?_; refine qf_pure tabOk rfl rfl rfl ?_; refine qf_gyes rfl ?_; refine qf_pure tabOk rfl rfl rfl ?_; refine qf_gyes rfl ?_)
    refine qf_index tabOk rfl rfl rfl rfl rfl (by omega) (by omega) ?_
    (refine qf_gyes rfl ?_)
    refine qf_load1 (v := .int .i64 MD[k]) tabOk rfl rfl rfl (fun w hs => RdI.at (hs.rdI (v := .slice (some ⟨e4, 0, none⟩) MD.length mc) (l := MD) (by repeat first | exact .head _ | refine .tail _ ?_) rfl) k y4) ?_
    (refine qf_gyes rfl ?_; refine qf_pure tabOk rfl rfl rfl ?_; refine qf_gyes rfl ?_; refine qf_loadB tabOk rfl rfl rfl (by repeat first | exact .head _ | refine .tail _ ?_) (by rfl) ?_; refine qf_gyes rfl ?_; refine qf_pure tabOk rfl rfl rfl ?_; refine qf_gyes rfl ?_)
    refine qf_index tabOk rfl rfl rfl rfl rfl (by omega) (by omega) ?_
    (refine qf_gyes rfl ?_)
    refine qf_load1 (v := .int .i64 t.make[k]) tabOk rfl rfl rfl (fun w hs => RdI.at (hs.rdI (v := .slice (some ⟨e2, 0, none⟩) t.make.length cu2) (l := t.make) (by repeat first | exact .head _ | refine .tail _ ?_) rfl) k y2) ?_
    (refine qf_gyes rfl ?_; refine qf_pure tabOk rfl rfl rfl ?_; refine qf_gyes rfl ?_; refine qf_pure tabOk rfl rfl rfl ?_)
    refine qf_split rfl rfl (fun hc => ?_) (fun hc => ?_)
    · have hmm : MD[k] < t.make[k] := by first | assumption | (simpa using hc)
      (refine qf_gyes rfl ?_; refine qf_pure tabOk rfl rfl rfl ?_; refine qf_gyes rfl ?_; refine qf_pure tabOk rfl rfl rfl ?_; refine qf_gyes rfl ?_; refine qf_ar tabOk rfl rfl rfl rfl (by omega) (by omega) ?_; refine qf_gyes rfl ?_; refine qf_pure tabOk rfl rfl rfl ?_; refine qf_gyes rfl ?_; refine qf_pure tabOk rfl rfl rfl ?_; refine qf_gyes rfl ?_)
      refine qf_index tabOk rfl rfl rfl rfl rfl (by omega) (by omega) ?_
      (refine qf_gyes rfl ?_)
      refine qf_load1 (v := .int .i64 MD[k]) tabOk rfl rfl rfl (fun w hs => RdI.at (hs.rdI (v := .slice (some ⟨e4, 0, none⟩) MD.length mc) (l := MD) (by repeat first | exact .head _ | refine .tail _ ?_) rfl) k y4) ?_
      (refine qf_gyes rfl ?_; refine qf_ar tabOk rfl rfl rfl rfl (by omega) (by omega) ?_; refine qf_gyes rfl ?_; refine qf_pure tabOk rfl rfl rfl ?_; refine qf_gyes rfl ?_; refine qf_loadB tabOk rfl rfl rfl (by repeat first | exact .head _ | refine .tail _ ?_) (by rfl) ?_; refine qf_gyes rfl ?_; refine qf_neqF tabOk rfl rfl rfl (by omega) ?_; refine qf_gyes rfl ?_; (iterate 3 refine qf_pure tabOk rfl rfl rfl ?_); refine qf_gyes rfl ?_; refine qf_pure tabOk rfl rfl rfl ?_; refine qf_gyes rfl ?_; refine qf_pure tabOk rfl rfl rfl ?_; refine qf_gyes rfl ?_; refine qf_pure tabOk rfl rfl rfl ?_; refine qf_gyes rfl ?_; refine qf_ar tabOk rfl rfl rfl rfl (by omega) (by omega) ?_; refine qf_gyes rfl ?_; refine qf_pure tabOk rfl rfl rfl ?_; refine qf_gyes rfl ?_; refine qf_pure tabOk rfl rfl rfl ?_; refine qf_gyes rfl ?_)
      refine qf_index tabOk rfl rfl rfl rfl rfl (by omega) (by omega) ?_
      (refine qf_gyes rfl ?_)
      refine qf_load1 (v := .int .i64 MD[k]) tabOk rfl rfl rfl (fun w hs => RdI.at (hs.rdI (v := .slice (some ⟨e4, 0, none⟩) MD.length mc) (l := MD) (by repeat first | exact .head _ | refine .tail _ ?_) rfl) k y4) ?_
      (refine qf_gyes rfl ?_; refine qf_ar tabOk rfl rfl rfl rfl (by omega) (by omega) ?_; refine qf_gyes rfl ?_; refine qf_pure tabOk rfl rfl rfl ?_; refine qf_gyes rfl ?_; refine qf_loadB tabOk rfl rfl rfl (by repeat first | exact .head _ | refine .tail _ ?_) (by rfl) ?_; refine qf_gyes rfl ?_; refine qf_pure tabOk rfl rfl rfl ?_; refine qf_gyes rfl ?_)
      refine qf_index tabOk rfl rfl rfl rfl rfl (by omega) (by omega) ?_
      (refine qf_gyes rfl ?_)
      refine qf_load1 (v := .int .i64 t.need[k]) tabOk rfl rfl rfl (fun w hs => RdI.at (hs.rdI (v := .slice (some ⟨e1, 0, none⟩) t.need.length cu1) (l := t.need) (by repeat first | exact .head _ | refine .tail _ ?_) rfl) k y1) ?_
      (refine qf_gyes rfl ?_; refine qf_ar tabOk rfl rfl rfl rfl (by omega) (by omega) ?_; refine qf_gyes rfl ?_; refine qf_neqF tabOk rfl rfl rfl (by omega) ?_; refine qf_pure tabOk rfl rfl rfl ?_; refine qf_nil ?_; refine q_cond_false rfl ?_; refine q_skip ?_; refine q_region ?_; (iterate 2 refine ql_pure tabOk rfl rfl ?_); refine q_nil ?_; refine q_blk ?_; refine q_region ?_; refine ql_ar tabOk rfl rfl rfl rfl (by omega) (by omega) ?_; refine ql_pure tabOk rfl rfl ?_; refine q_nil ?_)
      exact hK (k + 1) _ _ (by omega) (by omega) ⟨rfl, rfl, rfl, rfl, lookI rfl hs1, rfl, rfl, rfl, trivial⟩ (by repeat (first | exact Sp.nil | exact Sp.refl _ | refine Sp.cons (by repeat constructor) ?_))
    · have hmm : ¬ MD[k] < t.make[k] := by first | assumption | (simpa using hc)
      ((iterate 11 refine qf_gno rfl rfl rfl ?_); refine qf_gyes rfl ?_; (iterate 3 refine qf_pure tabOk rfl rfl rfl ?_); refine qf_gyes rfl ?_; refine qf_pure tabOk rfl rfl rfl ?_; refine qf_gyes rfl ?_; refine qf_pure tabOk rfl rfl rfl ?_; refine qf_gyes rfl ?_; refine qf_pure tabOk rfl rfl rfl ?_; refine qf_gyes rfl ?_; refine qf_ar tabOk rfl rfl rfl rfl (by omega) (by omega) ?_; refine qf_gyes rfl ?_; refine qf_pure tabOk rfl rfl rfl ?_; refine qf_gyes rfl ?_; refine qf_pure tabOk rfl rfl rfl ?_; refine qf_gyes rfl ?_)
      refine qf_index tabOk rfl rfl rfl rfl rfl (by omega) (by omega) ?_
      (refine qf_gyes rfl ?_)
      refine qf_load1 (v := .int .i64 MD[k]) tabOk rfl rfl rfl (fun w hs => RdI.at (hs.rdI (v := .slice (some ⟨e4, 0, none⟩) MD.length mc) (l := MD) (by repeat first | exact .head _ | refine .tail _ ?_) rfl) k y4) ?_
      (refine qf_gyes rfl ?_; refine qf_ar tabOk rfl rfl rfl rfl (by omega) (by omega) ?_; refine qf_gyes rfl ?_; refine qf_pure tabOk rfl rfl rfl ?_; refine qf_gyes rfl ?_; refine qf_loadB tabOk rfl rfl rfl (by repeat first | exact .head _ | refine .tail _ ?_) (by rfl) ?_; refine qf_gyes rfl ?_; refine qf_pure tabOk rfl rfl rfl ?_; refine qf_gyes rfl ?_)
      refine qf_index tabOk rfl rfl rfl rfl rfl (by omega) (by omega) ?_
      (refine qf_gyes rfl ?_)
      refine qf_load1 (v := .int .i64 t.need[k]) tabOk rfl rfl rfl (fun w hs => RdI.at (hs.rdI (v := .slice (some ⟨e1, 0, none⟩) t.need.length cu1) (l := t.need) (by repeat first | exact .head _ | refine .tail _ ?_) rfl) k y1) ?_
      (refine qf_gyes rfl ?_; refine qf_ar tabOk rfl rfl rfl rfl (by omega) (by omega) ?_; refine qf_gyes rfl ?_; refine qf_neqF tabOk rfl rfl rfl (by omega) ?_; refine qf_pure tabOk rfl rfl rfl ?_; refine qf_nil ?_; refine q_cond_false rfl ?_; refine q_skip ?_; refine q_region ?_; (iterate 2 refine ql_pure tabOk rfl rfl ?_); refine q_nil ?_; refine q_blk ?_; refine q_region ?_; refine ql_ar tabOk rfl rfl rfl rfl (by omega) (by omega) ?_; refine ql_pure tabOk rfl rfl ?_; refine q_nil ?_)
      exact hK (k + 1) _ _ (by omega) (by omega) ⟨rfl, rfl, rfl, rfl, lookI rfl hs1, rfl, rfl, rfl, trivial⟩ (by repeat (first | exact Sp.nil | exact Sp.refl _ | refine Sp.cons (by repeat constructor) ?_))
  · obtain rfl : k = S.length := by first | omega | (simp at hc; omega)
    clear hc hK
    rw [hc1]
    (refine q_exit _ rfl ?_; refine q_seq ?_; refine q_region ?_; refine ql_pure tabOk rfl rfl ?_; refine q_nil ?_; (iterate 2 refine q_seq ?_); refine q_region ?_; (iterate 3 refine ql_pure tabOk rfl rfl ?_); refine q_nil ?_; refine q_block ?_)
    clear hsat hc1
    have hsb := (hc4 cc (by omega))
    have hone := hP.one
    have hpos := hP.pos
    have hbd := hst
    refine q_loop (σ := Nat) (fun i => i ≤ P.length) (fun i => P.length - i) (fun i => [(5, .pointer (some ⟨b5, 0, none⟩)), (9, .slice ma MD.length mc), (11, .slice pa P.length pc), (13, .int .i64 (sq x t cc)), (17, .int .i64 (sumP (P.take i))), (150, .slice pa P.length pc), (151, .int .i64 P.length), (152, .int .i64 i)])
      (fun i => [.ow (.slice ma MD.length mc) 3 1 MD.length (ints MD), plK (.slice pa P.length pc) P, .pt b5 (wnC x (some ⟨g, 0, none⟩) cd) 61]) 0 (by omega) ⟨rfl, rfl, rfl, rfl, rfl, rfl, rfl, rfl, trivial⟩ (by repeat (first | exact Sp.nil | exact Sp.refl _ | refine Sp.cons (by repeat constructor) ?_)) ?_
    rintro i hip K hK
    have hpl : P.length ≤ 100 := hPl
    (refine q_seq ?_; refine q_region ?_; refine ql_pure tabOk rfl rfl ?_; refine q_nil ?_; refine q_seq ?_)
    refine q_if rfl (fun hc => ?_) (fun hc => ?_)
    · have hi : i < P.length := by first | omega | (simp at hc; omega)
      clear hc
      have hone := hone i hi
      have hpo := hpos i hi
      have hsu := (sum_take hpos i (by omega)).2 hi
      have hs0 := (sum_take hpos i (by omega)).1
      have hsl := sum_take_le hpos (P.length - (i + 1)) (i + 1) (by omega)
      refine q_fact (fun w hs => RdS.outI (plK_rd hs (v := .slice pa P.length pc) (l := P) (by repeat first | exact .head _ | refine .tail _ ?_))) ?_
      rintro ⟨_, _, zz, hso⟩
      cases zz
      obtain ⟨bp, op, rfl⟩ := hso (by omega)
      (refine q_skip ?_; refine q_seq ?_; refine q_block ?_; refine q_seq ?_; refine q_region ?_; refine ql_pure tabOk rfl rfl ?_)
      refine ql_index tabOk rfl rfl rfl rfl rfl (by omega) (by omega) ?_
      refine ql_loadA tabOk rfl rfl rfl rfl (fun w hs => RdS.at (plK_rd hs (by repeat first | exact .head _ | refine .tail _ ?_)) i hi) ?_
      skip
      refine ql_alloc zero117 rfl (fun b19 => ?_)
      rcases hone with ⟨hday, hm1, hm2⟩ | ⟨jj, hjj, hday, hm1, hm2⟩
      · (refine ql_pure tabOk rfl rfl ?_; refine ql_setA tabOk rfl rfl rfl rfl rfl (by repeat constructor) rfl ?_; refine q_nil ?_; refine q_seq ?_; refine q_region ?_; refine ql_pure tabOk rfl rfl ?_; refine ql_loadB tabOk rfl rfl rfl (by repeat first | exact .head _ | refine .tail _ ?_) (by rfl) ?_; refine ql_pure tabOk rfl rfl ?_; refine q_nil ?_; (iterate 2 refine q_seq ?_); refine q_region ?_; refine ql_pure tabOk rfl rfl ?_; refine ql_loadB tabOk rfl rfl rfl (by repeat first | exact .head _ | refine .tail _ ?_) (by rfl) ?_; refine ql_neqF tabOk rfl rfl rfl (by omega) ?_; refine q_nil ?_; refine q_cond_false rfl ?_; refine q_skip ?_; (iterate 2 refine q_seq ?_))
        by_cases h0 : i = 0
        · refine q_draw _ [] (Sp.refl _) (by kernel_rfl) (by kernel_rfl) ?_
          (refine qf_pure tabOk rfl rfl rfl ?_; refine qf_loadB tabOk rfl rfl rfl (by repeat first | exact .head _ | refine .tail _ ?_) (by rfl) ?_; refine qf_lssF tabOk rfl rfl rfl (by omega) ?_; refine qf_pure tabOk rfl rfl rfl ?_; refine qf_gyes rfl ?_; refine qf_pure tabOk rfl rfl rfl ?_; refine qf_gyes rfl ?_; refine qf_loadB tabOk rfl rfl rfl (by repeat first | exact .head _ | refine .tail _ ?_) (by rfl) ?_; refine qf_gyes rfl ?_; refine qf_pure tabOk rfl rfl rfl ?_; refine qf_gyes rfl ?_; refine qf_gtrF tabOk rfl rfl rfl (by omega) ?_; (iterate 2 refine qf_pure tabOk rfl rfl rfl ?_); refine qf_gyes rfl ?_; refine qf_pure tabOk rfl rfl rfl ?_; refine qf_gyes rfl ?_; refine qf_gtrF tabOk rfl rfl rfl (by omega) ?_; refine qf_gyes rfl ?_; refine qf_pure tabOk rfl rfl rfl ?_; (iterate 10 refine qf_gno rfl rfl rfl ?_); (iterate 4 refine qf_gnone rfl rfl ?_); refine qf_gno rfl rfl rfl ?_; refine qf_gyes rfl ?_; (iterate 2 refine qf_pure tabOk rfl rfl rfl ?_); refine qf_nil ?_; refine q_cond_false rfl ?_; refine q_skip ?_; refine q_region ?_; (iterate 2 refine ql_pure tabOk rfl rfl ?_); refine ql_loadB tabOk rfl rfl rfl (by repeat first | exact .head _ | refine .tail _ ?_) (by rfl) ?_; refine ql_ar tabOk rfl rfl rfl rfl (by omega) (by omega) ?_; refine ql_pure tabOk rfl rfl ?_; refine q_nil ?_; refine q_blk ?_; refine q_region ?_; refine ql_ar tabOk rfl rfl rfl rfl (by omega) (by omega) ?_; refine ql_pure tabOk rfl rfl ?_; refine q_nil ?_)
          exact hK (i + 1) _ _ (by omega) (by omega) ⟨rfl, rfl, rfl, rfl, lookI rfl hsu.symm, rfl, rfl, rfl, trivial⟩ (by repeat (first | exact Sp.nil | exact Sp.refl _ | refine Sp.cons (by repeat constructor) ?_))
        · obtain ⟨j, rfl⟩ : ∃ j, i = j + 1 := ⟨i - 1, by omega⟩
          have hj : j < P.length := by omega
          have hinc := hP.inc j hi
          refine q_draw _ [] (Sp.refl _) (by kernel_rfl) (by kernel_rfl) ?_
          (refine qf_pure tabOk rfl rfl rfl ?_; refine qf_loadB tabOk rfl rfl rfl (by repeat first | exact .head _ | refine .tail _ ?_) (by rfl) ?_; refine qf_lssF tabOk rfl rfl rfl (by omega) ?_; refine qf_pure tabOk rfl rfl rfl ?_; refine qf_gyes rfl ?_; refine qf_pure tabOk rfl rfl rfl ?_; refine qf_gyes rfl ?_; refine qf_loadB tabOk rfl rfl rfl (by repeat first | exact .head _ | refine .tail _ ?_) (by rfl) ?_; refine qf_gyes rfl ?_; refine qf_pure tabOk rfl rfl rfl ?_; refine qf_gyes rfl ?_; refine qf_gtrF tabOk rfl rfl rfl (by omega) ?_; (iterate 2 refine qf_pure tabOk rfl rfl rfl ?_); refine qf_gyes rfl ?_; refine qf_pure tabOk rfl rfl rfl ?_; refine qf_gyes rfl ?_; refine qf_gtrT tabOk rfl rfl rfl (by omega) ?_; refine qf_gyes rfl ?_; refine qf_pure tabOk rfl rfl rfl ?_; refine qf_gyes rfl ?_; refine qf_pure tabOk rfl rfl rfl ?_; refine qf_gyes rfl ?_; refine qf_loadB tabOk rfl rfl rfl (by repeat first | exact .head _ | refine .tail _ ?_) (by rfl) ?_; refine qf_gyes rfl ?_; refine qf_pure tabOk rfl rfl rfl ?_; refine qf_gyes rfl ?_; refine qf_pure tabOk rfl rfl rfl ?_; refine qf_gyes rfl ?_; refine qf_ar tabOk rfl rfl rfl rfl (by omega) (by omega) ?_; refine qf_gyes rfl ?_)
          rw [show ((j + 1 : Nat) : Int) - 1 = (j : Int) by omega]
          refine qf_index tabOk rfl rfl rfl rfl rfl (by omega) (by omega) ?_
          (refine qf_gyes rfl ?_; refine qf_pure tabOk rfl rfl rfl ?_; refine qf_gyes rfl ?_)
          refine qf_load1 (v := .int .i64 P[j].1) tabOk rfl rfl rfl (fun w hs => RdS.at0 (plK_rd hs (by repeat first | exact .head _ | refine .tail _ ?_)) j hj) ?_
          (refine qf_gyes rfl ?_; refine qf_leqF tabOk rfl rfl rfl (by omega) ?_; refine qf_gyes rfl ?_; refine qf_pure tabOk rfl rfl rfl ?_; refine qf_gyes rfl ?_; refine qf_pure tabOk rfl rfl rfl ?_; refine qf_gyes rfl ?_; refine qf_loadB tabOk rfl rfl rfl (by repeat first | exact .head _ | refine .tail _ ?_) (by rfl) ?_; refine qf_gyes rfl ?_; refine qf_pure tabOk rfl rfl rfl ?_; refine qf_gyes rfl ?_; refine qf_neqF tabOk rfl rfl rfl (by omega) ?_; refine qf_gyes rfl ?_; refine qf_pure tabOk rfl rfl rfl ?_; refine qf_gyes rfl ?_; (iterate 2 refine qf_pure tabOk rfl rfl rfl ?_); refine qf_nil ?_; refine q_cond_false rfl ?_; refine q_skip ?_; refine q_region ?_; (iterate 2 refine ql_pure tabOk rfl rfl ?_); refine ql_loadB tabOk rfl rfl rfl (by repeat first | exact .head _ | refine .tail _ ?_) (by rfl) ?_; refine ql_ar tabOk rfl rfl rfl rfl (by omega) (by omega) ?_; refine ql_pure tabOk rfl rfl ?_; refine q_nil ?_; refine q_blk ?_; refine q_region ?_; refine ql_ar tabOk rfl rfl rfl rfl (by omega) (by omega) ?_; refine ql_pure tabOk rfl rfl ?_; refine q_nil ?_)
          exact hK (j + 1 + 1) _ _ (by omega) (by omega) ⟨rfl, rfl, rfl, rfl, lookI rfl hsu.symm, rfl, rfl, rfl, trivial⟩ (by repeat (first | exact Sp.nil | exact Sp.refl _ | refine Sp.cons (by repeat constructor) ?_))
      · have hjm : jj < MD.length := by omega
        rw [← hmat jj hjm] at hm1 hm2
        refine ql_fact (fun w hs => hs.ownSome (v := .slice ma MD.length mc) (by repeat first | exact .head _ | refine .tail _ ?_) (by omega)) ?_
        rintro ⟨e4, f4, zz4⟩
        cases zz4
        rw [hday]
        (refine ql_pure tabOk rfl rfl ?_; refine ql_setA tabOk rfl rfl rfl rfl rfl (by repeat constructor) rfl ?_; refine q_nil ?_; refine q_seq ?_; refine q_region ?_; refine ql_pure tabOk rfl rfl ?_; refine ql_loadB tabOk rfl rfl rfl (by repeat first | exact .head _ | refine .tail _ ?_) (by rfl) ?_; refine ql_pure tabOk rfl rfl ?_; refine q_nil ?_; (iterate 2 refine q_seq ?_); refine q_region ?_; refine ql_pure tabOk rfl rfl ?_; refine ql_loadB tabOk rfl rfl rfl (by repeat first | exact .head _ | refine .tail _ ?_) (by rfl) ?_; refine ql_neqT tabOk rfl rfl rfl (by omega) ?_; refine q_nil ?_; refine q_cond_true rfl ?_; (iterate 2 refine q_seq ?_); refine q_region ?_; refine ql_pure tabOk rfl rfl ?_; refine ql_loadB tabOk rfl rfl rfl (by repeat first | exact .head _ | refine .tail _ ?_) (by rfl) ?_; refine ql_lssF tabOk rfl rfl rfl (by omega) ?_; refine ql_pure tabOk rfl rfl ?_; refine ql_gyes rfl ?_; refine ql_pure tabOk rfl rfl ?_; refine ql_gyes rfl ?_; refine ql_loadB tabOk rfl rfl rfl (by repeat first | exact .head _ | refine .tail _ ?_) (by rfl) ?_; refine ql_gyes rfl ?_; refine ql_pure tabOk rfl rfl ?_; refine ql_gyes rfl ?_; refine ql_pure tabOk rfl rfl ?_; refine ql_gyes rfl ?_; refine ql_geqF tabOk rfl rfl rfl (by omega) ?_; refine ql_pure tabOk rfl rfl ?_; refine q_nil ?_; refine q_cond_false rfl ?_; refine q_skip ?_; refine q_region ?_; (iterate 2 refine ql_pure tabOk rfl rfl ?_); refine ql_loadB tabOk rfl rfl rfl (by repeat first | exact .head _ | refine .tail _ ?_) (by rfl) ?_)
        (refine ql_index tabOk rfl rfl rfl rfl rfl (by omega) (by omega) ?_; refine ql_load1 tabOk rfl rfl rfl (fun w hs => RdI.at (hs.rdI (v := .slice (some ⟨e4, 0, none⟩) MD.length mc) (l := MD) (by repeat first | exact .head _ | refine .tail _ ?_) rfl) jj hjm) ?_)
        (refine ql_pure tabOk rfl rfl ?_; refine q_nil ?_; (iterate 2 refine q_seq ?_))
        by_cases h0 : i = 0
        · refine q_draw _ [] (Sp.refl _) (by kernel_rfl) (by kernel_rfl) ?_
          (refine qf_pure tabOk rfl rfl rfl ?_; refine qf_loadB tabOk rfl rfl rfl (by repeat first | exact .head _ | refine .tail _ ?_) (by rfl) ?_; refine qf_lssF tabOk rfl rfl rfl (by omega) ?_; refine qf_pure tabOk rfl rfl rfl ?_; refine qf_gyes rfl ?_; refine qf_pure tabOk rfl rfl rfl ?_; refine qf_gyes rfl ?_; refine qf_loadB tabOk rfl rfl rfl (by repeat first | exact .head _ | refine .tail _ ?_) (by rfl) ?_; refine qf_gyes rfl ?_; refine qf_pure tabOk rfl rfl rfl ?_; refine qf_gyes rfl ?_; refine qf_gtrF tabOk rfl rfl rfl (by omega) ?_; (iterate 2 refine qf_pure tabOk rfl rfl rfl ?_); refine qf_gyes rfl ?_; refine qf_pure tabOk rfl rfl rfl ?_; refine qf_gyes rfl ?_; refine qf_gtrF tabOk rfl rfl rfl (by omega) ?_; refine qf_gyes rfl ?_; refine qf_pure tabOk rfl rfl rfl ?_; (iterate 10 refine qf_gno rfl rfl rfl ?_); (iterate 4 refine qf_gnone rfl rfl ?_); refine qf_gno rfl rfl rfl ?_; refine qf_gyes rfl ?_; (iterate 2 refine qf_pure tabOk rfl rfl rfl ?_); refine qf_nil ?_; refine q_cond_false rfl ?_; refine q_skip ?_; refine q_region ?_; (iterate 2 refine ql_pure tabOk rfl rfl ?_); refine ql_loadB tabOk rfl rfl rfl (by repeat first | exact .head _ | refine .tail _ ?_) (by rfl) ?_; refine ql_ar tabOk rfl rfl rfl rfl (by omega) (by omega) ?_; refine ql_pure tabOk rfl rfl ?_; refine q_nil ?_; refine q_blk ?_; refine q_region ?_; refine ql_ar tabOk rfl rfl rfl rfl (by omega) (by omega) ?_; refine ql_pure tabOk rfl rfl ?_; refine q_nil ?_)
          exact hK (i + 1) _ _ (by omega) (by omega) ⟨rfl, rfl, rfl, rfl, lookI rfl hsu.symm, rfl, rfl, rfl, trivial⟩ (by repeat (first | exact Sp.nil | exact Sp.refl _ | refine Sp.cons (by repeat constructor) ?_))
        · obtain ⟨j, rfl⟩ : ∃ j, i = j + 1 := ⟨i - 1, by omega⟩
          have hj : j < P.length := by omega
          have hinc := hP.inc j hi
          refine q_draw _ [] (Sp.refl _) (by kernel_rfl) (by kernel_rfl) ?_
          (refine qf_pure tabOk rfl rfl rfl ?_; refine qf_loadB tabOk rfl rfl rfl (by repeat first | exact .head _ | refine .tail _ ?_) (by rfl) ?_; refine qf_lssF tabOk rfl rfl rfl (by omega) ?_; refine qf_pure tabOk rfl rfl rfl ?_; refine qf_gyes rfl ?_; refine qf_pure tabOk rfl rfl rfl ?_; refine qf_gyes rfl ?_; refine qf_loadB tabOk rfl rfl rfl (by repeat first | exact .head _ | refine .tail _ ?_) (by rfl) ?_; refine qf_gyes rfl ?_; refine qf_pure tabOk rfl rfl rfl ?_; refine qf_gyes rfl ?_; refine qf_gtrF tabOk rfl rfl rfl (by omega) ?_; (iterate 2 refine qf_pure tabOk rfl rfl rfl ?_); refine qf_gyes rfl ?_; refine qf_pure tabOk rfl rfl rfl ?_; refine qf_gyes rfl ?_; refine qf_gtrT tabOk rfl rfl rfl (by omega) ?_; refine qf_gyes rfl ?_; refine qf_pure tabOk rfl rfl rfl ?_; refine qf_gyes rfl ?_; refine qf_pure tabOk rfl rfl rfl ?_; refine qf_gyes rfl ?_; refine qf_loadB tabOk rfl rfl rfl (by repeat first | exact .head _ | refine .tail _ ?_) (by rfl) ?_; refine qf_gyes rfl ?_; refine qf_pure tabOk rfl rfl rfl ?_; refine qf_gyes rfl ?_; refine qf_pure tabOk rfl rfl rfl ?_; refine qf_gyes rfl ?_; refine qf_ar tabOk rfl rfl rfl rfl (by omega) (by omega) ?_; refine qf_gyes rfl ?_)
          rw [show ((j + 1 : Nat) : Int) - 1 = (j : Int) by omega]
          refine qf_index tabOk rfl rfl rfl rfl rfl (by omega) (by omega) ?_
          (refine qf_gyes rfl ?_; refine qf_pure tabOk rfl rfl rfl ?_; refine qf_gyes rfl ?_)
          refine qf_load1 (v := .int .i64 P[j].1) tabOk rfl rfl rfl (fun w hs => RdS.at0 (plK_rd hs (by repeat first | exact .head _ | refine .tail _ ?_)) j hj) ?_
          (refine qf_gyes rfl ?_; refine qf_leqF tabOk rfl rfl rfl (by omega) ?_; refine qf_gyes rfl ?_; refine qf_pure tabOk rfl rfl rfl ?_; refine qf_gyes rfl ?_; refine qf_pure tabOk rfl rfl rfl ?_; refine qf_gyes rfl ?_; refine qf_loadB tabOk rfl rfl rfl (by repeat first | exact .head _ | refine .tail _ ?_) (by rfl) ?_; refine qf_gyes rfl ?_; refine qf_pure tabOk rfl rfl rfl ?_; refine qf_gyes rfl ?_; refine qf_neqF tabOk rfl rfl rfl (by omega) ?_; refine qf_gyes rfl ?_; refine qf_pure tabOk rfl rfl rfl ?_; refine qf_gyes rfl ?_; (iterate 2 refine qf_pure tabOk rfl rfl rfl ?_); refine qf_nil ?_; refine q_cond_false rfl ?_; refine q_skip ?_; refine q_region ?_; (iterate 2 refine ql_pure tabOk rfl rfl ?_); refine ql_loadB tabOk rfl rfl rfl (by repeat first | exact .head _ | refine .tail _ ?_) (by rfl) ?_; refine ql_ar tabOk rfl rfl rfl rfl (by omega) (by omega) ?_; refine ql_pure tabOk rfl rfl ?_; refine q_nil ?_; refine q_blk ?_; refine q_region ?_; refine ql_ar tabOk rfl rfl rfl rfl (by omega) (by omega) ?_; refine ql_pure tabOk rfl rfl ?_; refine q_nil ?_)
          exact hK (j + 1 + 1) _ _ (by omega) (by omega) ⟨rfl, rfl, rfl, rfl, lookI rfl hsu.symm, rfl, rfl, rfl, trivial⟩ (by repeat (first | exact Sp.nil | exact Sp.refl _ | refine Sp.cons (by repeat constructor) ?_))
    · obtain rfl : i = P.length := by first | omega | (simp at hc; omega)
      clear hc hK
      rw [List.take_length, hsum]
      (refine q_exit _ rfl ?_; (iterate 2 refine q_seq ?_); refine q_region ?_; (iterate 3 refine ql_pure tabOk rfl rfl ?_); refine q_nil ?_)
      by_cases hp0 : 0 < P.length
      · have hone0 := hone 0 hp0
        have hge : -1 ≤ P[0].1 ∧ P[0].1 ≤ 100 := by
          rcases hone0 with ⟨h, _⟩ | ⟨j, hj, h, _⟩ <;> omega
        refine q_fact (fun w hs => RdS.outI (plK_rd hs (v := .slice pa P.length pc) (l := P) (by repeat first | exact .head _ | refine .tail _ ?_))) ?_
        rintro ⟨_, _, zz, hso⟩
        cases zz
        obtain ⟨bp, op, rfl⟩ := hso (by omega)
        rw [decide_eq_true (show (0 : Int) < P.length by omega)]
        (refine q_cond_true rfl ?_; refine q_seq ?_; refine q_region ?_; refine ql_pure tabOk rfl rfl ?_)
        refine ql_index tabOk rfl rfl rfl rfl rfl (by omega) (by omega) ?_
        (refine ql_pure tabOk rfl rfl ?_)
        refine ql_load1 (v := .int .i64 P[0].1) tabOk rfl rfl rfl (fun w hs => RdS.at0 (plK_rd hs (by repeat first | exact .head _ | refine .tail _ ?_)) 0 hp0) ?_
        have hhas := hP.has hp0
        clear hone0
        generalize P[0].1 = d0 at *
        (refine ql_ar tabOk rfl rfl rfl rfl (by omega) (by omega) ?_; refine ql_pure tabOk rfl rfl ?_; refine q_nil ?_; refine q_block ?_)
        refine q_loop (σ := Nat) (fun dd => d0 < (dd : Int)) (fun dd => cc - dd) (fun dd => [(9, .slice ma MD.length mc), (11, .slice (some ⟨bp, op, none⟩) P.length pc), (13, .int .i64 (sq x t cc)), (17, .int .i64 (sq x t cc)), (21, .int .i64 dd)])
          (fun dd => [.ow (.slice ma MD.length mc) 3 1 MD.length (ints MD), plK (.slice (some ⟨bp, op, none⟩) P.length pc) P]) (d0 + 1).toNat (by omega) ⟨rfl, rfl, rfl, rfl, lookI rfl (by omega), trivial⟩ (by repeat (first | exact Sp.nil | exact Sp.refl _ | refine Sp.cons (by repeat constructor) ?_)) ?_
        rintro dd hdd K hK
        ((iterate 2 refine q_seq ?_); refine q_region ?_; (iterate 4 refine ql_pure tabOk rfl rfl ?_); refine q_nil ?_)
        refine q_if rfl (fun hc => ?_) (fun hc => ?_)
        · have hd2 : dd < MD.length := by first | omega | (simp at hc; omega)
          clear hc
          refine q_fact (fun w hs => hs.ownSome (v := .slice ma MD.length mc) (by repeat first | exact .head _ | refine .tail _ ?_) (by omega)) ?_
          rintro ⟨e4, f4, zz4⟩
          cases zz4
          (refine q_skip ?_; refine q_seq ?_; refine q_block ?_; refine q_seq ?_; refine q_region ?_; (iterate 2 refine ql_pure tabOk rfl rfl ?_))
          (refine ql_index tabOk rfl rfl rfl rfl rfl (by omega) (by omega) ?_; refine ql_load1 tabOk rfl rfl rfl (fun w hs => RdI.at (hs.rdI (v := .slice (some ⟨e4, 0, none⟩) MD.length mc) (l := MD) (by repeat first | exact .head _ | refine .tail _ ?_) rfl) dd hd2) ?_)
          ((iterate 2 refine ql_pure tabOk rfl rfl ?_))
          refine ql_split rfl rfl (fun hc => ?_) (fun hc => ?_)
          · have hmp : 0 < MD[dd] := by first | assumption | (simpa using hc)
            clear hc
            have hmem := hhas dd (by omega) hdd (by rw [← hmat dd hd2]; exact hmp)
            rw [← hmat dd hd2] at hmem
            (refine ql_gyes rfl ?_; refine ql_pure tabOk rfl rfl ?_; refine ql_gyes rfl ?_; refine ql_pure tabOk rfl rfl ?_; refine ql_gyes rfl ?_; refine ql_pure tabOk rfl rfl ?_; refine ql_gyes rfl ?_; refine ql_pure tabOk rfl rfl ?_; refine ql_gyes rfl ?_)
            refine ql_index tabOk rfl rfl rfl rfl rfl (by omega) (by omega) ?_
            (refine ql_gyes rfl ?_)
            refine ql_load1 (v := .int .i64 MD[dd]) tabOk rfl rfl rfl (fun w hs => RdI.at (hs.rdI (v := .slice (some ⟨e4, 0, none⟩) MD.length mc) (l := MD) (by repeat first | exact .head _ | refine .tail _ ?_) rfl) dd hd2) ?_
            (refine ql_gyes rfl ?_)
            refine ql_mk #[.int .i64 dd, .int .i64 MD[dd]] rfl (by kernel_rfl) rfl ?_
            (refine ql_gyes rfl ?_)
            refine ql_callv (val := .bool true) tabOk rfl rfl rfl rfl (fun w hs => ?_) ?_; exact containsP_ca w 0 w.heap.size _ P dd _ (plK_rd hs (by repeat first | exact .head _ | refine .tail _ ?_)) (by omega) hmem
            (refine ql_gyes rfl ?_; (iterate 2 refine ql_pure tabOk rfl rfl ?_); refine q_nil ?_; refine q_cond_false rfl ?_; refine q_skip ?_; refine q_blk ?_; refine q_region ?_; refine ql_pure tabOk rfl rfl ?_; refine ql_ar tabOk rfl rfl rfl rfl (by omega) (by omega) ?_; refine ql_pure tabOk rfl rfl ?_; refine q_nil ?_)
            exact hK (dd + 1) _ _ (by omega) (by omega) ⟨rfl, rfl, rfl, rfl, lookI rfl (by omega), trivial⟩ (by repeat (first | exact Sp.nil | exact Sp.refl _ | refine Sp.cons (by repeat constructor) ?_))
          · ((iterate 9 refine ql_gno rfl rfl rfl ?_); refine ql_pure tabOk rfl rfl ?_; refine q_nil ?_; refine q_cond_false rfl ?_; refine q_skip ?_; refine q_blk ?_; refine q_region ?_; refine ql_pure tabOk rfl rfl ?_; refine ql_ar tabOk rfl rfl rfl rfl (by omega) (by omega) ?_; refine ql_pure tabOk rfl rfl ?_; refine q_nil ?_)
            exact hK (dd + 1) _ _ (by omega) (by omega) ⟨rfl, rfl, rfl, rfl, lookI rfl (by omega), trivial⟩ (by repeat (first | exact Sp.nil | exact Sp.refl _ | refine Sp.cons (by repeat constructor) ?_))
        · clear hc hK
          (refine q_exit _ rfl ?_; refine q_seq ?_; refine q_region ?_; (iterate 2 refine ql_pure tabOk rfl rfl ?_); refine ql_eqlT tabOk rfl rfl rfl (by omega) ?_; refine ql_pure tabOk rfl rfl ?_; refine ql_gyes rfl ?_)
          refine ql_callv (val := .bool true) tabOk rfl rfl rfl rfl (fun w hs => ?_) ?_; exact awake_ca w
          ((iterate 2 refine ql_pure tabOk rfl rfl ?_); refine q_nil ?_; refine q_ret ?_)
          refine q_fin tabOk rfl (by repeat (first | exact RVs.nil | apply RVs.tmp rfl | apply RVs.cellA rfl rfl (by repeat first | exact .head _ | refine .tail _ ?_) (by rfl) | apply RVs.cell1 rfl rfl (by repeat first | exact .head _ | refine .tail _ ?_))) fun w hs => ?_
          exact ⟨rfl, hs.chg0⟩
      · rw [decide_eq_false (show ¬ (0 : Int) < P.length by omega)]
        (refine q_cond_false rfl ?_; refine q_skip ?_; refine q_seq ?_; refine q_region ?_; (iterate 2 refine ql_pure tabOk rfl rfl ?_); refine ql_eqlT tabOk rfl rfl rfl (by omega) ?_; refine ql_pure tabOk rfl rfl ?_; refine ql_gyes rfl ?_)
        refine ql_callv (val := .bool true) tabOk rfl rfl rfl rfl (fun w hs => ?_) ?_; exact awake_ca w
        ((iterate 2 refine ql_pure tabOk rfl rfl ?_); refine q_nil ?_; refine q_ret ?_)
        refine q_fin tabOk rfl (by repeat (first | exact RVs.nil | apply RVs.tmp rfl | apply RVs.cellA rfl rfl (by repeat first | exact .head _ | refine .tail _ ?_) (by rfl) | apply RVs.cell1 rfl rfl (by repeat first | exact .head _ | refine .tail _ ?_))) fun w hs => ?_
        exact ⟨rfl, hs.chg0⟩
end Go.Proofs.Ytgeajgmefokifaa
