/- Walks: rifle.Best. -/
import Derived.Test.YtmbifbippnncoaaK6
namespace Go.Proofs.Ytmbifbippnncoaa
open Go Go.Eng

set_option maxHeartbeats 1000000 in
theorem bestA_ca (w : World) (lo hi : Nat) (v : Value) (a : List (List Int)) (total : Nat) (ha : RdII w lo hi v a) (hok : AimOk a) (ht : total ≤ 168) : Ca Try.prog 13 [v, .int .i64 total] w fun r w' =>
    ∃ x : Nat, r = .tuple #[.slice (some ⟨x, 0, none⟩) a.length a.length, .int .i64 (mssS a (wtsP a total) a.length), .int .i64 0] ∧ Sat w M0 [.pt x (ints (wtsP a total)) 3] w' := by
  have hwl := wtsP_length a total
  have hwo := wtsP_ok a hok total
  refine q_of (Sat.nil w M0) Try.func13 rfl (by simp [Try.ntmps13]) ?_
  (refine q_seq ?_; refine q_region ?_; (iterate 3 refine ql_pure tabOk rfl rfl ?_); refine q_nil ?_; refine q_seq ?_; refine q_region ?_; refine ql_pure tabOk rfl rfl ?_)
  refine ql_callv tabOk rfl rfl rfl rfl (fun w hs => checkAim_ca w lo hi _ a (ha.keep hs.chg0) hok) ?_
  (refine ql_pure tabOk rfl rfl ?_; refine q_nil ?_; refine q_seq ?_; refine q_block ?_; refine q_seq ?_; refine q_region ?_; (iterate 3 refine ql_pure tabOk rfl rfl ?_); refine q_nil ?_; refine q_cond_false rfl ?_; refine q_seq ?_; refine q_region ?_; (iterate 3 refine ql_pure tabOk rfl rfl ?_); refine q_nil ?_; refine q_cond_false rfl ?_; refine q_skip ?_; refine q_blk ?_; refine q_seq ?_; refine q_region ?_; (iterate 2 refine ql_pure tabOk rfl rfl ?_))
  rw [decide_eq_false (show ¬ (total : Int) < 0 by omega)]
  skip
  refine ql_call (β := Nat) tabOk [] _ M0 rfl rfl rfl rfl (Sp.refl _) (fun _ h => h.elim) (fun w' hs => waits_ca w' lo hi _ a total (ha.keep hs.chg0) hok ht) ?_
  rintro x _ rfl
  have hrd : ∀ w', Sat w M0 [.pt x (ints (wtsP a total)) 3] w' → RdI w' x (x + 1) (.slice (some ⟨x, 0, none⟩) a.length a.length) (wtsP a total) := fun w' hs => by
    have := RdI.blk (hs.blk (by repeat first | exact .head _ | refine .tail _ ?_)) a.length
    rwa [hwl] at this
  (refine ql_pure tabOk rfl rfl ?_; refine q_nil ?_; refine q_seq ?_; refine q_region ?_; (iterate 3 refine ql_pure tabOk rfl rfl ?_))
  refine ql_callv (val := .int .i64 (mssS a (wtsP a total) (wtsP a total).length)) tabOk rfl rfl rfl rfl (fun w hs => ?_) ?_; exact missedA_ca w lo hi x (x + 1) _ _ a (wtsP a total) (ha.keep hs.chg0) hok (hrd w hs) hwo
  ((iterate 3 refine ql_pure tabOk rfl rfl ?_); refine q_nil ?_; refine q_ret ?_)
  refine q_fin tabOk rfl (by repeat (first | exact RVs.nil | apply RVs.tmp rfl | apply RVs.cellA rfl rfl (by repeat first | exact .head _ | refine .tail _ ?_) (by rfl) | apply RVs.cell1 rfl rfl (by repeat first | exact .head _ | refine .tail _ ?_))) fun w hs => ?_
  exact ⟨x, by rw [hwl]; rfl, hs⟩

end Go.Proofs.Ytmbifbippnncoaa
