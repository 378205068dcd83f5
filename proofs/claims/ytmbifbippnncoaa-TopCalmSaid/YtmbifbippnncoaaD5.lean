/- Walks: shares. -/
import Derived.Test.YtmbifbippnncoaaD4
namespace Go.Proofs.Ytmbifbippnncoaa
open Go Go.Eng

theorem DkB.keepP {w w' : World} {lo hi b : Nat} {bs : Value} (h : DkB w lo hi bs) (hlh : hi ≤ b) (hc : ChgP (fun x => x = b) w w') : DkB w' lo hi bs := by
  obtain ⟨nb, cs, h1, h2⟩ := h
  exact ⟨nb, cs, h1.chg (N := [b]) ⟨hc.os, hc.tape, hc.output, hc.size, fun k hk hkb => hc.block k hk (by simpa using hkb)⟩ (fun k hk => .inr (by simp at hk; omega)), h2⟩
theorem sum_set1 : ∀ (l : List Int) (i : Nat) (h : i < l.length), (l.set i (l[i] + 1)).sum = l.sum + 1
  | x :: l, 0, _ => by simp; omega
  | x :: l, i + 1, h => by
    have := sum_set1 l i (by simpa using h)
    simp at this ⊢
    omega
theorem le_sum : ∀ (l : List Int), (∀ x ∈ l, 0 ≤ x) → ∀ x ∈ l, x ≤ l.sum
  | y :: l, h, x, hx => by
    have h0 := h y List.mem_cons_self
    have hs := sum_nonneg' l (fun z hz => h z (List.mem_cons_of_mem _ hz))
    rcases List.mem_cons.1 hx with rfl | hx
    · simp; omega
    · have := le_sum l (fun z hz => h z (List.mem_cons_of_mem _ hz)) x hx
      simp; omega

set_option maxHeartbeats 1000000 in
theorem shares_ca (s t : Nat) (hs1 : 1 ≤ s) (hs2 : s ≤ 1000) (ht : t ≤ 1000) (K : Nat) (hK : K < 1000000) (w : World) (b lo hi : Nat) (bs : Value) (hby : DkB w lo hi bs) (hlh : hi ≤ b) (hd : DkS w b bs K) :
    Ca Try.prog 7 [.pointer (some ⟨b, 0, none⟩), .int .i64 s, .int .i64 t] w fun v w' => ∃ x : Nat × List Int, (v = .slice (some ⟨x.1, 0, none⟩) s s ∧ x.2.length = s ∧ (∀ y ∈ x.2, 0 ≤ y) ∧ x.2.sum = t) ∧ Sat w (fun x => x = b) [.pt x.1 (ints x.2) 3, dkP bs b (K + t)] w' := by
  refine q_of (dk_sat hd) Try.func7 rfl (by simp [Try.ntmps7]) ?_
  (refine q_seq ?_; refine q_region ?_; refine ql_pure tabOk rfl rfl ?_; refine q_nil ?_; refine q_seq ?_; refine q_region ?_; refine ql_pure tabOk rfl rfl ?_)
  refine ql_makeI (et := 3) (m := s) slI rfl rfl rfl (by omega) (fun x => ?_)
  (refine ql_pure tabOk rfl rfl ?_; refine q_nil ?_; (iterate 2 refine q_seq ?_); refine q_region ?_; (iterate 2 refine ql_pure tabOk rfl rfl ?_); refine q_nil ?_; refine q_block ?_)
  refine q_loop (σ := Nat × List Int) (fun q => q.1 ≤ t ∧ q.2.length = s ∧ (∀ y ∈ q.2, 0 ≤ y) ∧ q.2.sum = q.1) (fun q => t - q.1) (fun q => [(0, .pointer (some ⟨b, 0, none⟩)), (1, .int .i64 s), (7, .slice (some ⟨x, 0, none⟩) s s), (10, .int .i64 t), (11, .int .i64 q.1)])
    (fun q => [.pt x (ints q.2) 3, dkP bs b (K + q.1)]) (0, List.replicate s 0) ⟨by omega, by simp, by simp, by simp⟩ ⟨rfl, rfl, rfl, rfl, rfl, trivial⟩ (by repeat (first | exact Sp.nil | exact Sp.refl _ | refine Sp.cons (by repeat constructor) ?_)) ?_
  rintro ⟨k, l⟩ ⟨hk, hl, hl0, hls⟩ K2 hK2
  simp only at hk hl hl0 hls
  (refine q_seq ?_; refine q_region ?_; refine ql_pure tabOk rfl rfl ?_; refine q_nil ?_; refine q_seq ?_)
  refine q_if rfl (fun hc => ?_) (fun hc => ?_)
  · have hk : k < t := by simp only at hc; omega
    (refine q_skip ?_; refine q_seq ?_; refine q_block ?_; refine q_region ?_; (iterate 3 refine ql_pure tabOk rfl rfl ?_))
    refine ql_call (β := Int) (ψ := fun y v => v = .int .i64 y ∧ 0 ≤ y ∧ (y < s ∨ y = 0)) (L' := fun _ => [dkP bs b (K + k + 1)]) tabOk [dkP bs b (K + k)] [.pt x (ints l) 3] (fun x => x = b) rfl rfl rfl rfl (by repeat (first | exact Sp.nil | exact Sp.refl _ | refine Sp.cons (by repeat constructor) ?_)) (fun x hx => ⟨_, .head _, hx⟩) (fun w' hs => drawP_ca s (K + k) (by omega) w' b lo hi bs (hby.keepP hlh hs.chg) hlh (hs.all _ (.head _))) ?_
    rintro y _ ⟨rfl, hy0, hy1⟩
    obtain ⟨i, rfl⟩ := Int.eq_ofNat_of_zero_le hy0
    have hi1 : i < l.length := by omega
    have hli := hl0 l[i] (List.getElem_mem hi1)
    have hlu := le_sum l hl0 l[i] (List.getElem_mem hi1)
    skip
    refine ql_index tabOk rfl rfl rfl rfl rfl (by omega) (by omega) ?_
    refine ql_loadI tabOk (i) rfl rfl rfl (by repeat first | exact .head _ | refine .tail _ ?_) (by first | rfl | omega | simp) hi1 ?_
    (refine ql_ar tabOk rfl rfl rfl rfl (by omega) (by omega) ?_)
    refine ql_index tabOk rfl rfl rfl rfl rfl (by omega) (by omega) ?_
    refine ql_storeI tabOk (i) rfl rfl rfl (by repeat constructor) (by first | rfl | omega | simp) hi1 ?_
    (refine q_nil ?_; refine q_blk ?_; refine q_region ?_; refine ql_ar tabOk rfl rfl rfl rfl (by omega) (by omega) ?_; refine ql_pure tabOk rfl rfl ?_; refine q_nil ?_)
    refine hK2 (k + 1, l.set i (l[i] + 1)) _ _ ⟨by simp only; omega, by simp [hl], fun y hy => ?_, by simp only [sum_set1]; omega⟩ (by simp only; omega) ⟨rfl, rfl, rfl, rfl, rfl, trivial⟩ (by repeat (first | exact Sp.nil | exact Sp.refl _ | refine Sp.cons (by repeat constructor) ?_))
    rcases List.mem_or_eq_of_mem_set hy with hy | rfl
    · exact hl0 y hy
    · omega
  · obtain rfl : k = t := by simp only at hc; omega
    (refine q_exit _ rfl ?_; refine q_seq ?_; refine q_region ?_; (iterate 2 refine ql_pure tabOk rfl rfl ?_); refine q_nil ?_; refine q_ret ?_)
    refine q_fin tabOk rfl (by repeat (first | exact RVs.nil | apply RVs.tmp rfl | apply RVs.cellA rfl rfl (by repeat first | exact .head _ | refine .tail _ ?_) (by rfl) | apply RVs.cell1 rfl rfl (by repeat first | exact .head _ | refine .tail _ ?_))) fun w hs => ?_
    exact ⟨(x, l), ⟨rfl, hl, hl0, hls⟩, hs⟩

end Go.Proofs.Ytmbifbippnncoaa
