/- Walks: Hit; the weights of the states. -/
import Derived.Test.YtmbifbippnncoaaV7
namespace Go.Proofs.Ytmbifbippnncoaa
open Go Go.Eng

theorem sum_mono : ∀ (a b : List Int), a.length = b.length → (∀ i (h : i < a.length) (h' : i < b.length), a[i] ≤ b[i]) → a.sum ≤ b.sum
  | [], [], _, _ => by simp
  | x :: a, y :: b, hl, h => by
    have h0 := h 0 (by simp) (by simp)
    have ih := sum_mono a b (by simpa using hl) (fun i h1 h2 => by have := h (i + 1) (by simpa using h1) (by simpa using h2); simpa using this)
    simp at h0
    simp
    omega
theorem sum_nonneg' : ∀ (a : List Int), (∀ x ∈ a, 0 ≤ x) → 0 ≤ a.sum
  | [], _ => by simp
  | x :: a, h => by
    have h0 := h x List.mem_cons_self
    have ih := sum_nonneg' a (fun y hy => h y (List.mem_cons_of_mem _ hy))
    simp
    omega

theorem missS_bd (r : Rg) (hr : r.Right) (drift click : Int) : 0 ≤ missS r drift click ∧ missS r drift click ≤ r.group.sum := by
  constructor
  · refine sum_nonneg' _ (fun x hx => ?_)
    obtain ⟨k, hk, rfl⟩ := List.getElem_of_mem hx
    have hk' : k < r.group.length := by rwa [missL_length] at hk
    have := hr.weight r.group[k] (List.getElem_mem hk')
    rw [missL_get r drift click k hk']
    split <;> omega
  · refine sum_mono _ _ (missL_length r drift click) (fun k h h' => ?_)
    have := hr.weight r.group[k] (List.getElem_mem h')
    rw [missL_get r drift click k h']
    split <;> omega

/-- The chance of a hit. -/
def hitV (r : Rg) (state click : Int) : (Int × Int) × Int :=
  if checkV r ≠ 0 then ((0, 0), checkV r) else if !inB state 0 ((r.drifts.length : Int) - 1) then ((0, 0), 1) else if !inB click (-r.clicks) r.clicks then ((0, 0), 3)
  else (ratioV (r.group.sum - missS r (r.drifts.getD state.toNat 0) click) r.group.sum, 0)

set_option maxHeartbeats 1000000 in
theorem hit_ca (w : World) (cs : List Value) (r : Rg) (state click : Int) (h : RgC w cs r) (hsm : r.Small) : Ca Try.prog 10 [.agg cs.toArray, .int .i64 state, .int .i64 click] w fun v w' => v = .tuple #[rtV (hitV r state click).1, .int .i64 (hitV r state click).2] ∧ Chg [] w w' := by
  have h0 := h
  have s2 := hsm.drifts
  obtain ⟨lo, hi, ag, cg, ad, cd, af, cf, an, cn, rfl, hg, hdr, hf, hn⟩ := h
  refine q_of (Sat.nil w M0) Try.func10 rfl (by simp [Try.ntmps10]) ?_
  (refine q_seq ?_; refine q_region ?_)
  refine ql_box rfl rfl (fun b3 => ?_)
  skip
  refine ql_alloc zero33 rfl (fun b6 => ?_)
  (refine ql_pure tabOk rfl rfl ?_; refine q_nil ?_; refine q_seq ?_; refine q_region ?_; refine ql_loadAB tabOk rfl rfl rfl (by repeat first | exact .head _ | refine .tail _ ?_) (by rfl) (by rfl) ?_)
  by_cases hr : checkV r = 0
  · have hR := (right_check r).1 hr
    have hcl := hR.clicks
    refine ql_call (β := Nat) tabOk [] _ M0 rfl rfl rfl rfl (Sp.refl _) (fun _ h => h.elim) (fun w' hs => opened_ok w' _ r (h0.keep hs.chg0) hsm hr) ?_
    rintro bd _ rfl
    (refine ql_pure tabOk rfl rfl ?_; (iterate 2 refine ql_ext tabOk rfl rfl rfl ?_); (iterate 2 refine ql_pure tabOk rfl rfl ?_); refine q_nil ?_; refine q_seq ?_; refine q_block ?_; refine q_seq ?_; refine q_region ?_; (iterate 3 refine ql_pure tabOk rfl rfl ?_); refine q_nil ?_; refine q_cond_false rfl ?_; refine q_seq ?_; refine q_region ?_; (iterate 2 refine ql_pure tabOk rfl rfl ?_); refine ql_loadB tabOk rfl rfl rfl (by repeat first | exact .head _ | refine .tail _ ?_) (by rfl) ?_; refine ql_pure tabOk rfl rfl ?_; refine ql_ar tabOk rfl rfl rfl rfl (by omega) (by omega) ?_)
    refine ql_callv tabOk rfl rfl rfl rfl (fun w hs => in_ca state 0 ((r.drifts.length : Int) - 1) w) ?_
    ((iterate 2 refine ql_pure tabOk rfl rfl ?_); refine q_nil ?_)
    refine q_cond rfl (fun hc => ?_) (fun hc => ?_)
    · (refine q_seq ?_; refine q_region ?_)
      refine ql_mk #[.int .i64 0, .int .i64 0] rfl (by kernel_rfl) rfl ?_
      (refine ql_setA tabOk rfl rfl rfl rfl rfl (by repeat constructor) rfl ?_; refine ql_pure tabOk rfl rfl ?_; refine q_nil ?_; refine q_ret ?_)
      refine q_fin tabOk rfl (by repeat (first | exact RVs.nil | apply RVs.tmp rfl | apply RVs.cellA rfl rfl (by repeat first | exact .head _ | refine .tail _ ?_) (by rfl) | apply RVs.cell1 rfl rfl (by repeat first | exact .head _ | refine .tail _ ?_))) fun w hs => ?_
      exact ⟨by simp at hc; simp [retV, hitV, hr, hc, rtV], hs.chg0⟩
    simp at hc
    have hst := hc
    have hst' := inB_iff.1 hst
    (refine q_seq ?_; refine q_region ?_; (iterate 2 refine ql_pure tabOk rfl rfl ?_); refine ql_loadB tabOk rfl rfl rfl (by repeat first | exact .head _ | refine .tail _ ?_) (by rfl) ?_; refine ql_neg tabOk rfl rfl (by omega) (by omega) ?_; refine ql_pure tabOk rfl rfl ?_; refine ql_loadB tabOk rfl rfl rfl (by repeat first | exact .head _ | refine .tail _ ?_) (by rfl) ?_)
    refine ql_callv tabOk rfl rfl rfl rfl (fun w hs => in_ca click (-r.clicks) r.clicks w) ?_
    ((iterate 2 refine ql_pure tabOk rfl rfl ?_); refine q_nil ?_)
    refine q_cond rfl (fun hc => ?_) (fun hc => ?_)
    · (refine q_seq ?_; refine q_region ?_)
      refine ql_mk #[.int .i64 0, .int .i64 0] rfl (by kernel_rfl) rfl ?_
      (refine ql_setA tabOk rfl rfl rfl rfl rfl (by repeat constructor) rfl ?_; refine ql_pure tabOk rfl rfl ?_; refine q_nil ?_; refine q_ret ?_)
      refine q_fin tabOk rfl (by repeat (first | exact RVs.nil | apply RVs.tmp rfl | apply RVs.cellA rfl rfl (by repeat first | exact .head _ | refine .tail _ ?_) (by rfl) | apply RVs.cell1 rfl rfl (by repeat first | exact .head _ | refine .tail _ ?_))) fun w hs => ?_
      exact ⟨by simp at hc; simp [retV, hitV, hr, hst, hc, rtV], hs.chg0⟩
    simp at hc
    have hck' := inB_iff.1 hc
    obtain ⟨i, rfl⟩ := Int.eq_ofNat_of_zero_le hst'.1
    have hi : i < r.drifts.length := by omega
    obtain ⟨_, _, hsl, hsd⟩ := RdI.outI hdr
    cases hsl
    obtain ⟨b0, off, rfl⟩ := hsd (by omega)
    have hdrift := hR.drift r.drifts[i] (List.getElem_mem hi)
    have hms := missS_bd r hR r.drifts[i] click
    have hgs := hR.gsum
    (refine q_skip ?_; refine q_blk ?_; refine q_seq ?_)
    refine q_draw _ [.pt b6 _ _] (Sp.cons (by repeat constructor) (Sp.refl _)) (by kernel_rfl) (by kernel_rfl) ?_
    (refine qf_pure tabOk rfl rfl rfl ?_)
    refine qf_callv tabOk rfl rfl rfl rfl (fun w hs => group_ca w bd r ⟨_, _, hs.blk (by repeat first | exact .head _ | refine .tail _ ?_), h0.keep hs.chg0⟩ hR) ?_
    ((iterate 2 refine qf_pure tabOk rfl rfl rfl ?_); refine qf_loadB tabOk rfl rfl rfl (by repeat first | exact .head _ | refine .tail _ ?_) (by rfl) ?_; refine qf_pure tabOk rfl rfl rfl ?_)
    (refine qf_index tabOk rfl rfl rfl rfl rfl (by omega) (by omega) ?_; refine qf_load1 tabOk rfl rfl rfl (fun w hs => RdI.at (RdE.keep hdr hs.chg0) i hi) ?_)
    (refine qf_pure tabOk rfl rfl rfl ?_)
    refine qf_callv (val := .int .i64 (missS r (r.drifts[i]'hi) click)) tabOk rfl rfl rfl rfl (fun w hs => ?_) ?_; exact missed_ca w bd r (r.drifts[i]'hi) click ⟨_, _, hs.blk (by repeat first | exact .head _ | refine .tail _ ?_), h0.keep hs.chg0⟩ hR (by omega) (by omega)
    (refine qf_ar tabOk rfl rfl rfl rfl (by omega) (by omega) ?_; refine qf_pure tabOk rfl rfl rfl ?_)
    refine qf_callv tabOk rfl rfl rfl rfl (fun w hs => group_ca w bd r ⟨_, _, hs.blk (by repeat first | exact .head _ | refine .tail _ ?_), h0.keep hs.chg0⟩ hR) ?_
    skip
    refine qf_callv tabOk rfl rfl rfl rfl (fun w hs => ratio_ca (r.group.sum - missS r (r.drifts[i]'hi) click) r.group.sum w (by omega) (by omega) (by omega) (by omega)) ?_
    (refine qf_setA tabOk rfl rfl rfl rfl rfl (by repeat constructor) rfl ?_; refine qf_pure tabOk rfl rfl rfl ?_; refine qf_nil ?_; refine q_ret ?_)
    refine q_fin tabOk rfl (by repeat (first | exact RVs.nil | apply RVs.tmp rfl | apply RVs.cellA rfl rfl (by repeat first | exact .head _ | refine .tail _ ?_) (by rfl) | apply RVs.cell1 rfl rfl (by repeat first | exact .head _ | refine .tail _ ?_))) fun w hs => ?_
    refine ⟨?_, hs.chg0⟩
    have e : r.drifts.getD i 0 = r.drifts[i] := by simp [hi]
    have hc2 : inB click (-r.clicks) r.clicks = true := inB_iff.2 hck'
    simp [retV, hitV, hr, hst, hc2, List.getElem?_eq_getElem hi, rtV]
  · refine ql_callv tabOk rfl rfl rfl rfl (fun w hs => opened_no w _ r (h0.keep hs.chg0) hsm hr) ?_
    (refine ql_pure tabOk rfl rfl ?_; (iterate 2 refine ql_ext tabOk rfl rfl rfl ?_); (iterate 2 refine ql_pure tabOk rfl rfl ?_); refine q_nil ?_; refine q_seq ?_; refine q_block ?_; refine q_seq ?_; refine q_region ?_; (iterate 3 refine ql_pure tabOk rfl rfl ?_); refine q_nil ?_)
    rw [decide_eq_false hr]
    (refine q_cond_true rfl ?_; refine q_seq ?_; refine q_region ?_)
    refine ql_mk #[.int .i64 0, .int .i64 0] rfl (by kernel_rfl) rfl ?_
    (refine ql_pure tabOk rfl rfl ?_; refine ql_setA tabOk rfl rfl rfl rfl rfl (by repeat constructor) rfl ?_; refine ql_pure tabOk rfl rfl ?_; refine q_nil ?_; refine q_ret ?_)
    refine q_fin tabOk rfl (by repeat (first | exact RVs.nil | apply RVs.tmp rfl | apply RVs.cellA rfl rfl (by repeat first | exact .head _ | refine .tail _ ?_) (by rfl) | apply RVs.cell1 rfl rfl (by repeat first | exact .head _ | refine .tail _ ?_))) fun w hs => ?_
    exact ⟨by simp [retV, hitV, hr, rtV], hs.chg0⟩

end Go.Proofs.Ytmbifbippnncoaa
