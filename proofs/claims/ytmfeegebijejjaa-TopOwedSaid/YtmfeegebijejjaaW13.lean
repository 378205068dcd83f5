/- Walks: TopOwed. -/
import Derived.Test.YtmfeegebijejjaaTab
import Derived.Test.YtmfeegebijejjaaEng10
import Derived.Test.YtmfeegebijejjaaLib2
import Derived.Test.YtmfeegebijejjaaDeck
import Derived.Test.YtmfeegebijejjaaW2
import Derived.Test.YtmfeegebijejjaaW3
import Derived.Test.YtmfeegebijejjaaW11
import Derived.Test.YtmfeegebijejjaaW12
import Derived.Test.YtmfeegebijejjaaM3
namespace Go.Proofs.Ytmfeegebijejjaa
open Go Go.Eng

def shF (l : List Int) : List Sh := l.zipIdx.map fun p => ⟨p.2, p.2, p.1, p.1⟩
theorem shF_length (l : List Int) : (shF l).length = l.length := by simp [shF]
theorem shF_at (l : List Int) (k : Nat) : (shF l)[k]? = (l[k]?).map fun x => ⟨k, k, x, x⟩ := by
  simp only [shF, List.getElem?_map, List.getElem?_zipIdx]
  cases l[k]? <;> simp
theorem shF_of (l : List Int) : Of l (shF l) := by
  intro s hs
  obtain ⟨i, hi, rfl⟩ := List.getElem_of_mem hs
  have h := shF_at l i
  rw [List.getElem?_eq_getElem hi] at h
  have hi' : i < l.length := by rw [shF_length] at hi; exact hi
  rw [List.getElem?_eq_getElem hi'] at h
  exact ⟨i, hi', Option.some.inj h⟩
theorem shF_snoc (l : List Int) (x : Int) : shF (l ++ [x]) = shF l ++ [⟨l.length, l.length, x, x⟩] := by
  simp [shF, List.zipIdx_append]

theorem own_own {w : World} {base base' e e' sz sz' n n' : Nat} {v v' : Value} {xs xs' : List Value} (h : w.ownsRow base e sz v n xs) (h' : w.ownsRow base' e' sz' v' n' xs') (hne : e ≠ e') : ∀ g, v.ownBlock = some g → g ∉ v'.ownBlock.toList := by
  intro g hg hg'
  rcases h.2 with ⟨rfl, _⟩ | ⟨b, cap, cur, rfl, _, hh, _⟩
  · cases hg
  · rcases h'.2 with ⟨rfl, _⟩ | ⟨b', cap', cur', rfl, _, hh', _⟩
    · simp [Value.ownBlock] at hg'
    · simp [Value.ownBlock] at hg hg'
      subst hg
      subst hg'
      rw [hh] at hh'
      cases hh'
      exact hne rfl

theorem cellsOf_shs_snoc (l : List Int) (x : Int) : cellsOf (shs (shF (l ++ [x]))) = cellsOf (shs (shF l)) ++ [.int .i64 l.length, .int .i64 l.length, .int .i64 x, .int .i64 x] := by
  rw [shF_snoc, shs, List.map_append, cellsOf_append]
  rfl

theorem shs_sz (S : List Sh) : ∀ e ∈ shs S, e.cells.size = 4 := by
  intro e he
  obtain ⟨s, _, rfl⟩ := List.mem_map.1 he
  rfl

theorem own_shs {w : World} {base : Nat} {v : Value} {S : List Sh} (h : w.ownsRow base 38 4 v S.length (cellsOf (shs S))) : RdE w base w.heap.size v 4 (shs S) :=
  RdE.ofOwn (by rw [shs_len]; exact h) (shs_sz S)

theorem setL_two (A C : List Value) (a b c d x y : Value) (i : Nat) (hi : i = A.length + 2) : setL (A ++ ([a, b, c, d] ++ C)) i [x, y] = A ++ ([a, b, x, y] ++ C) := by
  subst hi
  simp only [setL]
  rw [List.set_append_right _ _ (by omega), List.set_append_right _ _ (by omega)]
  rw [show A.length + 2 - A.length = 2 from by omega, show A.length + 2 + 1 - A.length = 3 from by omega]
  rfl

theorem shs_split (S : List Sh) (k : Nat) (hk : k < S.length) : cellsOf (shs S) = cellsOf (shs (S.take k)) ++ ([.int .i64 S[k].fr, .int .i64 S[k].to, .int .i64 S[k].lo, .int .i64 S[k].hi] ++ cellsOf (shs (S.drop (k + 1)))) := by
  have h : S = S.take k ++ (S[k] :: S.drop (k + 1)) := by rw [List.getElem_cons_drop, List.take_append_drop]
  conv => lhs; rw [h]
  rw [shs, List.map_append, cellsOf_append]
  rfl

theorem shF_get (l : List Int) (k : Nat) (hk : k < (shF l).length) : (shF l)[k] = ⟨k, k, l[k]'(by rw [shF_length] at hk; exact hk), l[k]'(by rw [shF_length] at hk; exact hk)⟩ := by
  have h := shF_at l k
  rw [List.getElem?_eq_getElem hk, List.getElem?_eq_getElem (by rw [shF_length] at hk; exact hk)] at h
  exact Option.some.inj h

theorem shF_set (l : List Int) (k : Nat) (y : Int) (hk : k < l.length) : shF (l.set k y) = (shF l).set k ⟨k, k, y, y⟩ := by
  refine List.ext_getElem? fun i => ?_
  rw [shF_at, List.getElem?_set, List.getElem?_set, shF_at, shF_length]
  by_cases h : k = i
  · subst h
    simp [hk]
  · simp [h]

/-- One sheet with other loops, written in place. -/
theorem less_cells (l : List Int) (k : Nat) (y : Int) (rest : List Value) (hk : k < l.length) :
    setL (cellsOf (shs (shF l)) ++ rest) (0 + k * 4 + 2) [.int .i64 y, .int .i64 y] = cellsOf (shs (shF (l.set k y))) ++ rest := by
  have hk' : k < (shF l).length := by rw [shF_length]; exact hk
  have hk2 : k < (shF (l.set k y)).length := by rw [shF_length, List.length_set]; exact hk
  rw [shs_split (shF l) k hk', shs_split (shF (l.set k y)) k hk2, List.append_assoc, List.append_assoc, List.append_assoc, List.append_assoc]
  rw [setL_two _ _ _ _ _ _ _ _ _ (by
    rw [cellsOf_length _ (shs_sz _), shs_len, List.length_take]
    omega)]
  have e1 : (shF (l.set k y)).take k = (shF l).take k := by rw [shF_set l k y hk, List.take_set_of_le (Nat.le_refl _)]
  have e2 : (shF (l.set k y)).drop (k + 1) = (shF l).drop (k + 1) := by rw [shF_set l k y hk, List.drop_set_of_lt (by omega)]
  rw [e1, e2, shF_get l k hk', shF_get _ k hk2]
  simp

end Go.Proofs.Ytmfeegebijejjaa
