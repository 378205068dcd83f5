/- Walks: a range is opened; hits. -/
import Derived.Test.YtmbifbippnncoaaV6
namespace Go.Proofs.Ytmbifbippnncoaa
open Go Go.Eng

theorem right_check (r : Rg) : checkV r = 0 ↔ r.Right := by
  constructor
  · intro h
    have hc : cntB r = true ∧ rng1B r = true ∧ rng2B r = true ∧ rng3B r = true ∧ cnfB r = true := by
      unfold checkV at h
      cases h1 : cntB r <;> cases h2 : rng1B r <;> cases h3 : rng2B r <;> cases h4 : rng3B r <;> cases h5 : cnfB r <;> simp [h1, h2, h3, h4, h5] at h ⊢
    obtain ⟨h1, h2, h3, h4, h5⟩ := hc
    simp only [cntB, rng1B, rng2B, rng3B, cnfB, Bool.and_eq_true, inB_iff, Bool.not_eq_true', decide_eq_true_eq, decide_eq_false_iff_not, List.all_eq_true, Bool.and_true] at h1 h2 h3 h4 h5
    obtain ⟨⟨⟨⟨⟨a1, a2⟩, a3⟩, a4⟩, a5⟩, a6⟩ := h1
    obtain ⟨⟨⟨b1, b2⟩, b3⟩, b4⟩ := h2
    obtain ⟨⟨d1, d2⟩, d3⟩ := h5
    exact ⟨by omega, by omega, by omega, by omega, by omega, by omega, by omega, fun l hl => by have := a6 l hl; omega, b1, b2, b3, b4, h3.1, h3.2, h4.1, h4.2, d1, d2, d3⟩
  · intro h
    have h1 : cntB r = true := by
      simp only [cntB, Bool.and_eq_true, inB_iff, Bool.not_eq_true', decide_eq_true_eq, decide_eq_false_iff_not, List.all_eq_true, Bool.and_true]
      have e1 := h.g1; have e2 := h.g2; have e3 := h.odd; have e4 := h.d1; have e5 := h.d2; have e6 := h.first; have e7 := h.next
      exact ⟨⟨⟨⟨⟨by omega, by omega⟩, by omega⟩, by omega⟩, by omega⟩, fun l hl => by have := h.rows l hl; omega⟩
    have h2 : rng1B r = true := by
      simp only [rng1B, Bool.and_eq_true, inB_iff]
      exact ⟨⟨⟨h.radius, h.unit⟩, h.clicks⟩, h.total⟩
    have h3 : rng2B r = true := by
      simp only [rng2B, Bool.and_eq_true, inB_iff, List.all_eq_true]
      exact ⟨h.drift, h.weight⟩
    have h4 : rng3B r = true := by
      simp only [rng3B, Bool.and_eq_true, inB_iff, List.all_eq_true]
      exact ⟨h.chance, h.chances⟩
    have h5 : cnfB r = true := by
      simp only [cnfB, Bool.and_eq_true, inB_iff, List.all_eq_true, decide_eq_true_eq, Bool.and_true]
      exact ⟨⟨h.gsum, h.fsum⟩, h.nsum⟩
    simp [checkV, h1, h2, h3, h4, h5]

theorem opened_no (w : World) (cs : List Value) (r : Rg) (h : RgC w cs r) (hsm : r.Small) (hr : checkV r ≠ 0) : Ca Try.prog 15 [.agg cs.toArray] w fun v w' => v = .tuple #[.pointer none, .int .i64 (checkV r)] ∧ Chg [] w w' := by
  have h0 := h
  obtain ⟨lo, hi, ag, cg, ad, cd, af, cf, an, cn, rfl, hg, hdr, hf, hn⟩ := h
  refine q_of (Sat.nil w M0) Try.func15 rfl (by simp [Try.ntmps15]) ?_
  (refine q_seq ?_; refine q_region ?_)
  refine ql_box rfl rfl (fun b1 => ?_)
  ((iterate 2 refine ql_pure tabOk rfl rfl ?_); refine q_nil ?_; (iterate 2 refine q_seq ?_); refine q_region ?_; refine ql_loadAB tabOk rfl rfl rfl (by repeat first | exact .head _ | refine .tail _ ?_) (by rfl) (by rfl) ?_)
  refine ql_callv tabOk rfl rfl rfl rfl (fun w hs => check_ca w _ r (h0.keep hs.chg0) hsm) ?_
  (refine ql_pure tabOk rfl rfl ?_; refine q_nil ?_; refine q_seq ?_; refine q_region ?_; (iterate 2 refine ql_pure tabOk rfl rfl ?_); refine q_nil ?_)
  rw [decide_eq_false hr]
  (refine q_cond_true rfl ?_; refine q_seq ?_; refine q_region ?_; (iterate 3 refine ql_pure tabOk rfl rfl ?_); refine q_nil ?_; refine q_ret ?_)
  refine q_fin tabOk rfl (by repeat (first | exact RVs.nil | apply RVs.tmp rfl | apply RVs.cellA rfl rfl (by repeat first | exact .head _ | refine .tail _ ?_) (by rfl) | apply RVs.cell1 rfl rfl (by repeat first | exact .head _ | refine .tail _ ?_))) fun w hs => ?_
  exact ⟨rfl, hs.chg0⟩

theorem opened_ok (w : World) (cs : List Value) (r : Rg) (h : RgC w cs r) (hsm : r.Small) (hr : checkV r = 0) : Ca Try.prog 15 [.agg cs.toArray] w fun v w' => ∃ x : Nat, v = .tuple #[.pointer (some ⟨x, 0, none⟩), .int .i64 0] ∧ Sat w M0 [.pt x cs 65] w' := by
  have h0 := h
  obtain ⟨lo, hi, ag, cg, ad, cd, af, cf, an, cn, rfl, hg, hdr, hf, hn⟩ := h
  refine q_of (Sat.nil w M0) Try.func15 rfl (by simp [Try.ntmps15]) ?_
  (refine q_seq ?_; refine q_region ?_)
  refine ql_box rfl rfl (fun b1 => ?_)
  ((iterate 2 refine ql_pure tabOk rfl rfl ?_); refine q_nil ?_; (iterate 2 refine q_seq ?_); refine q_region ?_; refine ql_loadAB tabOk rfl rfl rfl (by repeat first | exact .head _ | refine .tail _ ?_) (by rfl) (by rfl) ?_)
  refine ql_callv tabOk rfl rfl rfl rfl (fun w hs => check_ca w _ r (h0.keep hs.chg0) hsm) ?_
  rw [hr]
  (refine ql_pure tabOk rfl rfl ?_; refine q_nil ?_; refine q_seq ?_; refine q_region ?_; (iterate 2 refine ql_pure tabOk rfl rfl ?_); refine q_nil ?_; refine q_cond_false rfl ?_; refine q_skip ?_; refine q_seq ?_; refine q_region ?_; refine ql_loadAB tabOk rfl rfl rfl (by repeat first | exact .head _ | refine .tail _ ?_) (by rfl) (by rfl) ?_)
  refine ql_mk #[.int .i64 r.radius, .int .i64 r.unit, .int .i64 r.clicks, .int .i64 r.total, .slice ag r.group.length cg, .slice ad r.drifts.length cd, .slice af r.first.length cf, .slice an r.next.length cn] rfl (by kernel_rfl) rfl ?_
  refine ql_box rfl rfl (fun b2 => ?_)
  ((iterate 2 refine ql_pure tabOk rfl rfl ?_); refine q_nil ?_; refine q_ret ?_)
  refine q_fin tabOk rfl (by repeat (first | exact RVs.nil | apply RVs.tmp rfl | apply RVs.cellA rfl rfl (by repeat first | exact .head _ | refine .tail _ ?_) (by rfl) | apply RVs.cell1 rfl rfl (by repeat first | exact .head _ | refine .tail _ ?_))) fun w hs => ?_
  exact ⟨b2, rfl, hs.sp (by repeat (first | exact Sp.nil | exact Sp.refl _ | refine Sp.cons (by repeat constructor) ?_))⟩

end Go.Proofs.Ytmbifbippnncoaa
