/- The plain law: sheets of bouts, each with its own loops. -/
import Derived.Test.YtmfeegebijejjaaW10
namespace Go.Proofs.Ytmfeegebijejjaa
open Go Go.Eng

def psum (l : List Int) (i : Nat) : Int := (l.take i).sum
theorem psum_succ (l : List Int) (i : Nat) (hi : i < l.length) : psum l (i + 1) = psum l i + l[i] := by
  rw [psum, List.take_succ_eq_append_getElem hi, List.sum_append, psum]
  simp
theorem psum_bound (l : List Int) (hl : ∀ x ∈ l, 0 ≤ x ∧ x ≤ 5) : ∀ i, i ≤ l.length → 0 ≤ psum l i ∧ psum l i ≤ 5 * i
  | 0, _ => by simp [psum]
  | i + 1, hi => by
    have h1 := psum_bound l hl i (by omega)
    have h2 := hl l[i] (List.getElem_mem (by omega))
    rw [psum_succ l i (by omega)]
    omega

/-- Sheets of one bout each, with the loops of the list. -/
def Of (l : List Int) (S : List Sh) : Prop := ∀ s ∈ S, ∃ (i : Nat) (hi : i < l.length), s = ⟨i, i, l[i], l[i]⟩

theorem Of.one {l : List Int} {S : List Sh} (h : Of l S) : One S := by
  intro s hs
  obtain ⟨i, hi, rfl⟩ := h s hs
  rfl

theorem pot_sum {l o : List Int} {S : List Sh} (hl8 : l.length ≤ 8) (hl : ∀ x ∈ l, 0 ≤ x ∧ x ≤ 5) (hS : Of l S) (ho : ∀ (i : Nat) (x : Int), o[i]? = some x → ∃ hi : i < l.length, x ≤ l[i]) : Pot l.length (linksOf l.length S o) (psum l) := by
  refine ⟨fun i hi => by have := psum_bound l hl i hi; omega, fun k hk => ?_⟩
  rcases mem_links hk with ⟨i, s, hs, h⟩ | ⟨i, hi, h⟩ | ⟨i, x, hx, rfl⟩
  · obtain ⟨q, hq, rfl⟩ := hS s (List.mem_of_getElem? hs)
    have h1 := psum_succ l q hq
    have e1 : ((q : Int) + 1).toNat = q + 1 := by omega
    have e2 : ((q : Int)).toNat = q := by omega
    rcases h with rfl | rfl <;> simp only [e1, e2] <;> omega
  · have h1 := psum_succ l i hi
    have h2 := hl l[i] (List.getElem_mem hi)
    have e1 : ((i : Int) + 1).toNat = i + 1 := by omega
    have e2 : ((i : Int)).toNat = i := by omega
    rcases h with rfl | rfl <;> simp only [e1, e2] <;> omega
  · obtain ⟨hi, h2⟩ := ho i x hx
    have h1 := psum_succ l i hi
    have e1 : ((i : Int) + 1).toNat = i + 1 := by omega
    have e2 : ((i : Int)).toNat = i := by omega
    simp only [e1, e2]
    omega

theorem right_of {l l' : List Int} {S : List Sh} (h1 : 1 ≤ l.length) (h8 : l.length ≤ 8) (hl : ∀ x ∈ l, 0 ≤ x ∧ x ≤ 5) (he : l'.length = l.length) (hl' : ∀ x ∈ l', 0 ≤ x ∧ x ≤ 5) (hS : Of l' S) (hn : S.length ≤ 20) : Right l S := by
  refine ⟨h1, h8, hn, hl, fun s hs => ?_, fun s hs => ?_⟩
  · obtain ⟨i, hi, rfl⟩ := hS s hs
    exact ⟨by simp only; omega, by simp only; omega, by simp only; omega⟩
  · obtain ⟨i, hi, rfl⟩ := hS s hs
    have := hl' l'[i] (List.getElem_mem hi)
    exact ⟨by simp only; omega, by simp only; omega, by simp only; omega⟩

/-- One bout with one loop fewer. -/
theorem neg_less {l l' : List Int} {S : List Sh} (k : Nat) (hk : k < l.length) (hk' : k < l'.length) (hlt : l'[k] < l[k]) (hS : S[k]? = some ⟨k, k, l'[k], l'[k]⟩) : Neg2 (linksOf l.length S l) := by
  refine ⟨⟨0, k, k, k + 1, l'[k]⟩, ?_, ⟨4, k, k + 1, k, -l[k]⟩, ?_, rfl, rfl, by simp only; omega⟩
  · simp only [linksOf, List.mem_append, sPart, List.mem_flatMap, List.mem_range]
    exact .inl (.inl ⟨k, (List.getElem?_eq_some_iff.1 hS).1, by rw [hS]; simp⟩)
  · simp only [linksOf, List.mem_append, oPart, List.mem_flatMap, List.mem_range]
    exact .inr ⟨k, hk, by rw [List.getElem?_eq_getElem hk]; simp⟩

end Go.Proofs.Ytmfeegebijejjaa
