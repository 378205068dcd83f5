/- Lists of numbers and of truth values that can be read; changes beyond what was there. -/
import Derived.Test.YtmbifbippnncoaaLib1
namespace Go.Eng
open Go Go.RowKit

/-- What changes later changes nothing that was there before. -/
theorem Chg.up {N M : List Nat} {a b c : World} (h : Chg N a b) (g : Chg M b c) (hM : ∀ k ∈ M, k ∈ N ∨ a.heap.size ≤ k) : Chg N a c :=
  ⟨g.os.trans h.os, g.tape.trans h.tape, g.output.trans h.output, Nat.le_trans h.size g.size, fun k hk hn =>
    (g.block k (Nat.lt_of_lt_of_le hk h.size) (fun hm => by rcases hM k hm with h1 | h1 <;> first | exact hn h1 | omega)).trans (h.block k hk hn)⟩

theorem Chg.up1 {a b c : World} {x : Nat} (h : Chg [] a b) (g : Chg [x] b c) (hx : a.heap.size ≤ x) : Chg [] a c := h.up g (by simpa using hx)

theorem RdI.at {w : World} {lo hi b off len cap : Nat} {l : List Int} (h : RdI w lo hi (.slice (some ⟨b, off, none⟩) len cap) l) (i : Nat) (hi : i < l.length) :
    w.cell? ⟨b, off + i * 1, none⟩ = some (.int .i64 l[i]) := by
  have := RdE.cell1 h i (by simpa using hi) (by simp [oneV])
  rw [this]
  simp

theorem RdI.outI {w : World} {lo hi : Nat} {v : Value} {l : List Int} (h : RdI w lo hi v l) :
    ∃ a cap, v = .slice a l.length cap ∧ (0 < l.length → ∃ b off, a = some ⟨b, off, none⟩) := by
  have := RdE.out h
  simpa using this

/-- How many rounds hit. -/
def hitsOf (l : List Bool) : Nat := l.count true

abbrev bools (l : List Bool) : List Value := l.map Value.bool
abbrev RdB (w : World) (lo hi : Nat) (v : Value) (l : List Bool) : Prop := RdE w lo hi v 1 (bools l)
theorem RdB.at {w : World} {lo hi b off len cap : Nat} {l : List Bool} (h : RdB w lo hi (.slice (some ⟨b, off, none⟩) len cap) l) (i : Nat) (hi : i < l.length) :
    w.cell? ⟨b, off + i * 1, none⟩ = some (.bool l[i]) := by
  have := RdE.cell1 h i (by simpa using hi) (by simp [oneV])
  rw [this]
  simp
theorem RdB.outB {w : World} {lo hi : Nat} {v : Value} {l : List Bool} (h : RdB w lo hi v l) :
    ∃ a cap, v = .slice a l.length cap ∧ (0 < l.length → ∃ b off, a = some ⟨b, off, none⟩) := by
  have := RdE.out h
  simpa using this

theorem hits_step (l : List Bool) (k : Nat) (hk : k < l.length) : hitsOf (l.take (k + 1)) = hitsOf (l.take k) + (if l[k] then 1 else 0) := by
  rw [List.take_succ_eq_append_getElem hk, hitsOf, List.count_append, hitsOf]
  cases l[k] <;> simp

theorem cellsOf_ints (l : List Int) : cellsOf (ints l) = ints l := by
  simp [cellsOf, List.flatMap_map, Value.cells]
  induction l with
  | nil => rfl
  | cons x l ih => simp [ih]
theorem cellsOf_bools (l : List Bool) : cellsOf (bools l) = bools l := by
  simp [cellsOf, List.flatMap_map, Value.cells]
  induction l with
  | nil => rfl
  | cons x l ih => simp [ih]
theorem cellsOf_append (a b : List Value) : cellsOf (a ++ b) = cellsOf a ++ cellsOf b := by simp [cellsOf]
theorem ints_size (l : List Int) : ∀ e ∈ ints l, e.cells.size = 1 := by
  intro e he
  obtain ⟨x, _, rfl⟩ := List.mem_map.1 he
  rfl
theorem bools_size (l : List Bool) : ∀ e ∈ bools l, e.cells.size = 1 := by
  intro e he
  obtain ⟨x, _, rfl⟩ := List.mem_map.1 he
  rfl

theorem RdI.of {w : World} {lo hi : Nat} {v : Value} {l : List Int} (h : Rd w lo hi v 1 l.length (ints l)) : RdI w lo hi v l :=
  ⟨by rw [cellsOf_ints]; simpa using h, ints_size l⟩
theorem RdB.of {w : World} {lo hi : Nat} {v : Value} {l : List Bool} (h : Rd w lo hi v 1 l.length (bools l)) : RdB w lo hi v l :=
  ⟨by rw [cellsOf_bools]; simpa using h, bools_size l⟩
theorem RdE.ofOwn {w : World} {base t sz : Nat} {v : Value} {es : List Value} (h : w.ownsRow base t sz v es.length (cellsOf es)) (hs : ∀ e ∈ es, e.cells.size = sz) : RdE w base w.heap.size v sz es := ⟨own_rd h, hs⟩

end Go.Eng
