/- Walks: the best waits. -/
import Derived.Test.YtmbifbippnncoaaK5
namespace Go.Proofs.Ytmbifbippnncoaa
open Go Go.Eng

theorem slI : SlT Try.prog 27 3 1 8 (.int .i64 0) := ⟨by kernel_rfl, by kernel_rfl, by kernel_rfl, by decide⟩

theorem wtsP_stop (a : List (List Int)) (k : Nat) (hz : (helpP a (wtsP a k) (wtsP a k).length).1 = 0) : ∀ n, wtsP a (k + n) = wtsP a k
  | 0 => rfl
  | n + 1 => by
    have ih := wtsP_stop a k hz n
    show wtsP a (k + n + 1) = _
    simp only [wtsP]
    rw [ih, if_pos hz]

set_option maxHeartbeats 1000000 in
theorem waits_ca (w : World) (lo hi : Nat) (v : Value) (a : List (List Int)) (total : Nat) (ha : RdII w lo hi v a) (hok : AimOk a) (ht : total ≤ 168) : Ca Try.prog 25 [v, .int .i64 total] w fun r w' =>
    ∃ x : Nat, r = .slice (some ⟨x, 0, none⟩) a.length a.length ∧ Sat w M0 [.pt x (ints (wtsP a total)) 3] w' := by
  obtain ⟨p, c, rfl, hsl⟩ := RdII.outI ha
  have h1 := hok.a1
  have h2 := hok.a2
  obtain ⟨b, off, rfl⟩ := hsl (by omega)
  refine q_of (Sat.nil w M0) Try.func25 rfl (by simp [Try.ntmps25]) ?_
  (refine q_seq ?_; refine q_region ?_; refine ql_pure tabOk rfl rfl ?_; refine q_nil ?_; refine q_seq ?_; refine q_region ?_; (iterate 2 refine ql_pure tabOk rfl rfl ?_))
  refine ql_makeI (et := 3) (m := a.length) slI rfl rfl rfl (by omega) (fun x => ?_)
  (refine ql_pure tabOk rfl rfl ?_; refine q_nil ?_; (iterate 2 refine q_seq ?_); refine q_region ?_; (iterate 3 refine ql_pure tabOk rfl rfl ?_); refine q_nil ?_; refine q_block ?_)
  rw [show min (total : Int) 168 = total by omega]
  refine q_loop (σ := Nat) (fun k => k ≤ total) (fun k => total - k) (fun k => [(0, .slice (some ⟨b, off, none⟩) a.length c), (5, .slice (some ⟨x, 0, none⟩) a.length a.length), (12, .int .i64 total), (13, .int .i64 k)]) (fun k => [.pt x (ints (wtsP a k)) 3]) 0 (by omega) ⟨rfl, rfl, rfl, rfl, trivial⟩ (by repeat (first | exact Sp.nil | exact Sp.refl _ | refine Sp.cons (by repeat constructor) ?_)) ?_
  intro k hk K hK
  have hwl := wtsP_length a k
  have hwo := wtsP_ok a hok k
  have hrd : ∀ w', Sat w M0 [.pt x (ints (wtsP a k)) 3] w' → RdI w' x (x + 1) (.slice (some ⟨x, 0, none⟩) a.length a.length) (wtsP a k) := fun w' hs => by
    have := RdI.blk (hs.blk (by repeat first | exact .head _ | refine .tail _ ?_)) a.length
    rwa [hwl] at this
  (refine q_seq ?_; refine q_region ?_; refine ql_pure tabOk rfl rfl ?_; refine q_nil ?_; refine q_seq ?_)
  refine q_if rfl (fun hc => ?_) (fun hc => ?_)
  · have hk : k < total := by omega
    (refine q_skip ?_; refine q_seq ?_; refine q_block ?_; refine q_seq ?_; refine q_region ?_; (iterate 2 refine ql_pure tabOk rfl rfl ?_))
    refine ql_callv tabOk rfl rfl rfl rfl (fun w hs => helps_ca w lo hi x (x + 1) _ _ a (wtsP a k) (ha.keep hs.chg0) hok (hrd w hs) hwo) ?_
    (refine ql_pure tabOk rfl rfl ?_; (iterate 2 refine ql_ext tabOk rfl rfl rfl ?_); (iterate 2 refine ql_pure tabOk rfl rfl ?_); refine q_nil ?_; (iterate 2 refine q_seq ?_); refine q_region ?_; (iterate 2 refine ql_pure tabOk rfl rfl ?_); refine q_nil ?_)
    refine q_if rfl (fun hc => ?_) (fun hc => ?_)
    · (refine q_exit _ rfl ?_; refine q_seq ?_; refine q_region ?_; (iterate 2 refine ql_pure tabOk rfl rfl ?_); refine q_nil ?_; refine q_ret ?_)
      refine q_fin tabOk rfl (by repeat (first | exact RVs.nil | apply RVs.tmp rfl | apply RVs.cellA rfl rfl (by repeat first | exact .head _ | refine .tail _ ?_) (by rfl) | apply RVs.cell1 rfl rfl (by repeat first | exact .head _ | refine .tail _ ?_))) fun w hs => ?_
      refine ⟨x, rfl, ?_⟩
      have e := wtsP_stop a k (by simpa using hc) (total - k)
      rw [show k + (total - k) = total by omega] at e
      rw [e]
      exact hs
    · have hz : (helpP a (wtsP a k) (wtsP a k).length).1 ≠ 0 := by simpa using hc
      obtain ⟨i, hi1, hi2, hi3⟩ := helpP_at a (wtsP a k) _ hz
      have e : wtsP a (k + 1) = (wtsP a k).set i ((wtsP a k)[i] + 1) := by
        have e2 : (wtsP a k).getD i 0 = (wtsP a k)[i] := by simp [hi1]
        rw [← e2]
        simp only [wtsP]
        rw [if_neg hz, hi2]
        rfl
      have hwi := hwo.wt i hi1 (by omega)
      have hrw := hok.row _ (List.getElem_mem (show i < a.length by omega))
      rw [hi2]
      (refine q_skip ?_; refine q_region ?_; (iterate 2 refine ql_pure tabOk rfl rfl ?_))
      refine ql_index tabOk rfl rfl rfl rfl rfl (by omega) (by omega) ?_
      refine ql_loadI tabOk (i) rfl rfl rfl (by repeat first | exact .head _ | refine .tail _ ?_) (by first | rfl | omega | simp) hi1 ?_
      (refine ql_ar tabOk rfl rfl rfl rfl (by omega) (by omega) ?_)
      refine ql_index tabOk rfl rfl rfl rfl rfl (by omega) (by omega) ?_
      refine ql_storeI tabOk (i) rfl rfl rfl (by repeat constructor) (by first | rfl | omega | simp) hi1 ?_
      (refine q_nil ?_; refine q_blk ?_; refine q_region ?_; refine ql_ar tabOk rfl rfl rfl rfl (by omega) (by omega) ?_; refine ql_pure tabOk rfl rfl ?_; refine q_nil ?_)
      exact hK (k + 1) _ _ (by omega) (by omega) ⟨rfl, rfl, rfl, rfl, trivial⟩ (by rw [e]; repeat (first | exact Sp.nil | exact Sp.refl _ | refine Sp.cons (by repeat constructor) ?_))
  · obtain rfl : k = total := by omega
    (refine q_exit _ rfl ?_; refine q_seq ?_; refine q_region ?_; (iterate 2 refine ql_pure tabOk rfl rfl ?_); refine q_nil ?_; refine q_ret ?_)
    refine q_fin tabOk rfl (by repeat (first | exact RVs.nil | apply RVs.tmp rfl | apply RVs.cellA rfl rfl (by repeat first | exact .head _ | refine .tail _ ?_) (by rfl) | apply RVs.cell1 rfl rfl (by repeat first | exact .head _ | refine .tail _ ?_))) fun w hs => ?_
    exact ⟨x, rfl, hs⟩

end Go.Proofs.Ytmbifbippnncoaa
