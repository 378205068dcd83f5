/- Walks: Best. -/
import Derived.Test.YtmbifbippnncoaaV13
namespace Go.Proofs.Ytmbifbippnncoaa
open Go Go.Eng

/-- The best click, or the error. -/
def bestV (r : Rg) : Int × (Int × Int) × Int :=
  if checkV r ≠ 0 then (0, (0, 0), checkV r) else ((bestOf (expV r) (clickL r.clicks 0)).1, (bestOf (expV r) (clickL r.clicks 0)).2, 0)

set_option maxHeartbeats 1000000 in
theorem bestF_ca (w : World) (cs : List Value) (r : Rg) (h : RgC w cs r) (hsm : r.Small) : Ca Try.prog 11 [.agg cs.toArray] w fun v w' => v = .tuple #[.int .i64 (bestV r).1, rtV (bestV r).2.1, .int .i64 (bestV r).2.2] ∧ Chg [] w w' := by
  have h0 := h
  obtain ⟨lo, hi, ag, cg, ad, cd, af, cf, an, cn, rfl, hg, hdr, hf, hn⟩ := h
  refine q_of (Sat.nil w M0) Try.func11 rfl (by simp [Try.ntmps11]) ?_
  (refine q_seq ?_; refine q_region ?_)
  refine ql_box rfl rfl (fun b1 => ?_)
  (refine ql_pure tabOk rfl rfl ?_)
  refine ql_alloc zero33 rfl (fun b3 => ?_)
  (refine ql_pure tabOk rfl rfl ?_; refine q_nil ?_; refine q_seq ?_; refine q_region ?_; refine ql_loadAB tabOk rfl rfl rfl (by repeat first | exact .head _ | refine .tail _ ?_) (by rfl) (by rfl) ?_)
  by_cases hr : checkV r = 0
  · have hR := (right_check r).1 hr
    have hcl := hR.clicks
    refine ql_call (β := Nat) tabOk [] _ M0 rfl rfl rfl rfl (Sp.refl _) (fun _ h => h.elim) (fun w' hs => opened_ok w' _ r (h0.keep hs.chg0) hsm hr) ?_
    rintro bd _ rfl
    (refine ql_pure tabOk rfl rfl ?_; (iterate 2 refine ql_ext tabOk rfl rfl rfl ?_); (iterate 2 refine ql_pure tabOk rfl rfl ?_); refine q_nil ?_; (iterate 2 refine q_seq ?_); refine q_region ?_; (iterate 2 refine ql_pure tabOk rfl rfl ?_); refine q_nil ?_; refine q_cond_false rfl ?_; refine q_skip ?_; refine q_seq ?_; refine q_region ?_; (iterate 3 refine ql_pure tabOk rfl rfl ?_))
    refine ql_mk #[.func (.func 17) #[.pointer (some ⟨bd, 0, none⟩)] #[]] rfl (by kernel_rfl) rfl ?_
    skip
    refine ql_callv (val := .tuple #[.int .i64 (bestOf (expV r) (clickL r.clicks 0)).1, rtV (bestOf (expV r) (clickL r.clicks 0)).2]) tabOk rfl rfl rfl rfl (fun w hs => ?_) ?_; exact best_ca w bd r (.func (.func 17) #[.pointer (some ⟨bd, 0, none⟩)] #[]) (expV r) ⟨_, _, hs.blk (by repeat first | exact .head _ | refine .tail _ ?_), h0.keep hs.chg0⟩ hcl rfl (fun c _ => expV_fine r hR c) (fun w' hc' c hcin => CaF.of tabOk (by kernel_rfl) (expected_ca w' bd r c (DkAt.keep ⟨_, _, hs.blk (by repeat first | exact .head _ | refine .tail _ ?_), h0.keep hs.chg0⟩ hc') hR (by have := inB_iff.1 hcin; omega)))
    (refine ql_pure tabOk rfl rfl ?_; (iterate 2 refine ql_ext tabOk rfl rfl rfl ?_))
    refine ql_alloc zero33 rfl (fun b8 => ?_)
    (refine ql_pure tabOk rfl rfl ?_; refine ql_setA tabOk rfl rfl rfl rfl rfl (by repeat constructor) rfl ?_; refine q_nil ?_; refine q_seq ?_)
    refine q_draw _ [.pt b3 _ _] (Sp.cons (by repeat constructor) (Sp.refl _)) (by kernel_rfl) (by kernel_rfl) ?_
    (refine qf_pure tabOk rfl rfl rfl ?_; refine qf_loadAB tabOk rfl rfl rfl (by repeat first | exact .head _ | refine .tail _ ?_) (by rfl) (by rfl) ?_; refine qf_pure tabOk rfl rfl rfl ?_; refine qf_setA tabOk rfl rfl rfl rfl rfl (by repeat constructor) rfl ?_; refine qf_pure tabOk rfl rfl rfl ?_; refine qf_nil ?_; refine q_ret ?_)
    refine q_fin tabOk rfl (by repeat (first | exact RVs.nil | apply RVs.tmp rfl | apply RVs.cellA rfl rfl (by repeat first | exact .head _ | refine .tail _ ?_) (by rfl) | apply RVs.cell1 rfl rfl (by repeat first | exact .head _ | refine .tail _ ?_))) fun w hs => ?_
    refine ⟨?_, hs.chg0⟩
    simp [retV, bestV, hr, rtV]
  · refine ql_callv tabOk rfl rfl rfl rfl (fun w hs => opened_no w _ r (h0.keep hs.chg0) hsm hr) ?_
    (refine ql_pure tabOk rfl rfl ?_; (iterate 2 refine ql_ext tabOk rfl rfl rfl ?_); (iterate 2 refine ql_pure tabOk rfl rfl ?_); refine q_nil ?_; (iterate 2 refine q_seq ?_); refine q_region ?_; (iterate 2 refine ql_pure tabOk rfl rfl ?_); refine q_nil ?_)
    rw [decide_eq_false hr]
    (refine q_cond_true rfl ?_; refine q_seq ?_; refine q_region ?_)
    refine ql_mk #[.int .i64 0, .int .i64 0] rfl (by kernel_rfl) rfl ?_
    ((iterate 2 refine ql_pure tabOk rfl rfl ?_); refine ql_setA tabOk rfl rfl rfl rfl rfl (by repeat constructor) rfl ?_; refine ql_pure tabOk rfl rfl ?_; refine q_nil ?_; refine q_ret ?_)
    refine q_fin tabOk rfl (by repeat (first | exact RVs.nil | apply RVs.tmp rfl | apply RVs.cellA rfl rfl (by repeat first | exact .head _ | refine .tail _ ?_) (by rfl) | apply RVs.cell1 rfl rfl (by repeat first | exact .head _ | refine .tail _ ?_))) fun w hs => ?_
    exact ⟨by simp [retV, bestV, hr, rtV], hs.chg0⟩

end Go.Proofs.Ytmbifbippnncoaa
