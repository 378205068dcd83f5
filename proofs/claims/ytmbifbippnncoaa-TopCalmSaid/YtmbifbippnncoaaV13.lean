/- Walks: Expected. -/
import Derived.Test.YtmbifbippnncoaaV12
namespace Go.Proofs.Ytmbifbippnncoaa
open Go Go.Eng

theorem ratioV_fine {n d : Int} (hn : 0 ≤ n ∧ n ≤ 1000000000) (hd : 0 < d ∧ d ≤ 1000000000) : Fine (ratioV n d) := by
  have hg : 0 < (Int.gcd n d : Int) := by
    have : Int.gcd n d ≠ 0 := fun h => by have := (Int.gcd_eq_zero_iff.1 h).2; omega
    omega
  have h1 : (Int.gcd n d : Int) ≤ d := Int.le_of_dvd hd.1 (Int.gcd_dvd_right ..)
  refine ⟨Int.ediv_nonneg hn.1 (by omega), ?_, Int.ediv_pos_of_pos_of_dvd hd.1 (by omega) (Int.gcd_dvd_right ..), ?_⟩
  · have := Int.ediv_le_self (Int.gcd n d : Int) hn.1
    simp only [ratioV]
    omega
  · have := Int.ediv_le_self (Int.gcd n d : Int) (show 0 ≤ d by omega)
    simp only [ratioV]
    omega
theorem expV_fine (r : Rg) (hr : r.Right) (click : Int) : Fine (expV r click) := by
  have he1 := expP_num r hr click 5 (by omega)
  have hgs := hr.gsum
  have he3 := mul_bd0 (show 0 ≤ r.total ^ 5 ∧ r.total ^ 5 ≤ 248832 by omega) (show 0 ≤ r.group.sum ∧ r.group.sum ≤ 100 by omega)
  have := Int.mul_le_mul_of_nonneg_left hgs.1 (show 0 ≤ r.total ^ 5 by omega)
  exact ratioV_fine (by omega) (by omega)

/-- The misses to be expected with a click, or the error. -/
def expdV (r : Rg) (click : Int) : (Int × Int) × Int :=
  if checkV r ≠ 0 then ((0, 0), checkV r) else if !inB click (-r.clicks) r.clicks then ((0, 0), 3) else (expV r click, 0)

set_option maxHeartbeats 1000000 in
theorem expectedF_ca (w : World) (cs : List Value) (r : Rg) (click : Int) (h : RgC w cs r) (hsm : r.Small) : Ca Try.prog 9 [.agg cs.toArray, .int .i64 click] w fun v w' => v = .tuple #[rtV (expdV r click).1, .int .i64 (expdV r click).2] ∧ Chg [] w w' := by
  have h0 := h
  have s2 := hsm.drifts
  obtain ⟨lo, hi, ag, cg, ad, cd, af, cf, an, cn, rfl, hg, hdr, hf, hn⟩ := h
  refine q_of (Sat.nil w M0) Try.func9 rfl (by simp [Try.ntmps9]) ?_
  (refine q_seq ?_; refine q_region ?_)
  refine ql_box rfl rfl (fun b2 => ?_)
  skip
  refine ql_alloc zero33 rfl (fun b4 => ?_)
  (refine ql_pure tabOk rfl rfl ?_; refine q_nil ?_; refine q_seq ?_; refine q_region ?_; refine ql_loadAB tabOk rfl rfl rfl (by repeat first | exact .head _ | refine .tail _ ?_) (by rfl) (by rfl) ?_)
  by_cases hr : checkV r = 0
  · have hR := (right_check r).1 hr
    have hcl := hR.clicks
    refine ql_call (β := Nat) tabOk [] _ M0 rfl rfl rfl rfl (Sp.refl _) (fun _ h => h.elim) (fun w' hs => opened_ok w' _ r (h0.keep hs.chg0) hsm hr) ?_
    rintro bd _ rfl
    (refine ql_pure tabOk rfl rfl ?_; (iterate 2 refine ql_ext tabOk rfl rfl rfl ?_); (iterate 2 refine ql_pure tabOk rfl rfl ?_); refine q_nil ?_; refine q_seq ?_; refine q_block ?_; refine q_seq ?_; refine q_region ?_; (iterate 3 refine ql_pure tabOk rfl rfl ?_); refine q_nil ?_; refine q_cond_false rfl ?_; refine q_seq ?_; refine q_region ?_; (iterate 2 refine ql_pure tabOk rfl rfl ?_); refine ql_loadB tabOk rfl rfl rfl (by repeat first | exact .head _ | refine .tail _ ?_) (by rfl) ?_; refine ql_neg tabOk rfl rfl (by omega) (by omega) ?_; refine ql_pure tabOk rfl rfl ?_; refine ql_loadB tabOk rfl rfl rfl (by repeat first | exact .head _ | refine .tail _ ?_) (by rfl) ?_)
    refine ql_callv tabOk rfl rfl rfl rfl (fun w hs => in_ca click (-r.clicks) r.clicks w) ?_
    ((iterate 2 refine ql_pure tabOk rfl rfl ?_); refine q_nil ?_)
    refine q_cond rfl (fun hc => ?_) (fun hc => ?_)
    · (refine q_seq ?_; refine q_region ?_)
      refine ql_mk #[.int .i64 0, .int .i64 0] rfl (by kernel_rfl) rfl ?_
      (refine ql_setA tabOk rfl rfl rfl rfl rfl (by repeat constructor) rfl ?_; refine ql_pure tabOk rfl rfl ?_; refine q_nil ?_; refine q_ret ?_)
      refine q_fin tabOk rfl (by repeat (first | exact RVs.nil | apply RVs.tmp rfl | apply RVs.cellA rfl rfl (by repeat first | exact .head _ | refine .tail _ ?_) (by rfl) | apply RVs.cell1 rfl rfl (by repeat first | exact .head _ | refine .tail _ ?_))) fun w hs => ?_
      exact ⟨by simp at hc; simp [retV, expdV, hr, hc, rtV], hs.chg0⟩
    simp at hc
    have hck' := inB_iff.1 hc
    (refine q_skip ?_; refine q_blk ?_; refine q_seq ?_; refine q_region ?_; (iterate 2 refine ql_pure tabOk rfl rfl ?_))
    refine ql_callv (val := rtV (expV r click)) tabOk rfl rfl rfl rfl (fun w hs => ?_) ?_; exact expected_ca w bd r click ⟨_, _, hs.blk (by repeat first | exact .head _ | refine .tail _ ?_), h0.keep hs.chg0⟩ hR (by omega)
    (refine ql_setA tabOk rfl rfl rfl rfl rfl (by repeat constructor) rfl ?_; refine ql_pure tabOk rfl rfl ?_; refine q_nil ?_; refine q_ret ?_)
    refine q_fin tabOk rfl (by repeat (first | exact RVs.nil | apply RVs.tmp rfl | apply RVs.cellA rfl rfl (by repeat first | exact .head _ | refine .tail _ ?_) (by rfl) | apply RVs.cell1 rfl rfl (by repeat first | exact .head _ | refine .tail _ ?_))) fun w hs => ?_
    refine ⟨?_, hs.chg0⟩
    simp [retV, expdV, hr, hc, rtV]
  · refine ql_callv tabOk rfl rfl rfl rfl (fun w hs => opened_no w _ r (h0.keep hs.chg0) hsm hr) ?_
    (refine ql_pure tabOk rfl rfl ?_; (iterate 2 refine ql_ext tabOk rfl rfl rfl ?_); (iterate 2 refine ql_pure tabOk rfl rfl ?_); refine q_nil ?_; refine q_seq ?_; refine q_block ?_; refine q_seq ?_; refine q_region ?_; (iterate 3 refine ql_pure tabOk rfl rfl ?_); refine q_nil ?_)
    rw [decide_eq_false hr]
    (refine q_cond_true rfl ?_; refine q_seq ?_; refine q_region ?_)
    refine ql_mk #[.int .i64 0, .int .i64 0] rfl (by kernel_rfl) rfl ?_
    (refine ql_pure tabOk rfl rfl ?_; refine ql_setA tabOk rfl rfl rfl rfl rfl (by repeat constructor) rfl ?_; refine ql_pure tabOk rfl rfl ?_; refine q_nil ?_; refine q_ret ?_)
    refine q_fin tabOk rfl (by repeat (first | exact RVs.nil | apply RVs.tmp rfl | apply RVs.cellA rfl rfl (by repeat first | exact .head _ | refine .tail _ ?_) (by rfl) | apply RVs.cell1 rfl rfl (by repeat first | exact .head _ | refine .tail _ ?_))) fun w hs => ?_
    exact ⟨by simp [retV, expdV, hr, rtV], hs.chg0⟩

end Go.Proofs.Ytmbifbippnncoaa
