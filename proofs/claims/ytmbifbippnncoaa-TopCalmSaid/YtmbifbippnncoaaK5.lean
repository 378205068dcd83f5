/- The best waits: plain law. -/
import Derived.Test.YtmbifbippnncoaaK4
namespace Go.Proofs.Ytmbifbippnncoaa
open Go Go.Eng

theorem RdI.blk {w : World} {b : Nat} {l : List Int} {t : TypeId} (h : Blk w b (ints l) t) (c : Nat) : RdI w b (b + 1) (.slice (some ⟨b, 0, none⟩) l.length c) l :=
  RdI.of ⟨by simp, .inr ⟨b, 0, c, rfl, fun _ => ⟨Nat.le_refl _, Nat.lt_succ_self _, h.lt⟩, fun j _ => by rw [Blk.cell h]; simp⟩⟩

/-- The waits after n breaths. -/
def wtsP (a : List (List Int)) : Nat → List Int
  | 0 => List.replicate a.length 0
  | n + 1 => let ws := wtsP a n; let h := helpP a ws ws.length; if h.1 = 0 then ws else ws.set h.2.toNat (ws.getD h.2.toNat 0 + 1)
theorem wtsP_length (a : List (List Int)) : ∀ n, (wtsP a n).length = a.length
  | 0 => by simp [wtsP]
  | n + 1 => by
    simp only [wtsP]
    split
    · exact wtsP_length a n
    · rw [List.length_set]; exact wtsP_length a n
theorem helpP_at (a : List (List Int)) (ws : List Int) : ∀ n, (helpP a ws n).1 ≠ 0 → ∃ i : Nat, i < n ∧ (helpP a ws n).2 = i ∧ ws.getD i 0 + 1 < ((a.getD i []).length : Int)
  | 0, h => by simp [helpP] at h
  | n + 1, h => by
    by_cases hc : ws.getD n 0 + 1 < ((a.getD n []).length : Int) ∧ (helpP a ws n).1 < gainS a n
    · rw [helpP, if_pos hc]
      exact ⟨n, by omega, rfl, hc.1⟩
    · rw [helpP, if_neg hc] at h ⊢
      obtain ⟨i, h1, h2, h3⟩ := helpP_at a ws n h
      exact ⟨i, by omega, h2, h3⟩
theorem wtsP_ok (a : List (List Int)) (hok : AimOk a) : ∀ n, WtOk a (wtsP a n)
  | 0 => ⟨by simp [wtsP], fun i h h' => by
      have := hok.row _ (List.getElem_mem h')
      simp [wtsP]
      omega⟩
  | n + 1 => by
    have ih := wtsP_ok a hok n
    have hl := wtsP_length a n
    refine ⟨wtsP_length a (n + 1), fun i h h' => ?_⟩
    by_cases hz : (helpP a (wtsP a n) (wtsP a n).length).1 = 0
    · have e : wtsP a (n + 1) = wtsP a n := by simp only [wtsP]; rw [if_pos hz]
      simp only [e] at h ⊢
      exact ih.wt i h h'
    · obtain ⟨k, hk1, hk2, hk3⟩ := helpP_at a (wtsP a n) _ hz
      have e : wtsP a (n + 1) = (wtsP a n).set k ((wtsP a n).getD k 0 + 1) := by simp only [wtsP]; rw [if_neg hz, hk2]; rfl
      have hik : i < (wtsP a n).length := by omega
      have h1 := ih.wt i hik h'
      simp only [e]
      rw [List.getElem_set]
      split
      · rename_i hki
        subst hki
        have e1 : a.getD k [] = a[k] := by simp [h']
        have e2 : (wtsP a n).getD k 0 = (wtsP a n)[k] := by simp [hk1]
        rw [e1] at hk3
        rw [e2] at hk3 ⊢
        omega
      · exact h1

end Go.Proofs.Ytmbifbippnncoaa
