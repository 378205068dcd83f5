/- Readable slices by their elements; predicates handed over as function values. -/
import Derived.Test.YtmbifbippnncoaaA7
import Derived.Test.YtmbifbippnncoaaNum
namespace Go.Eng
open Go Go.RowKit

def cellsOf (es : List Value) : List Value := es.flatMap (fun v => v.cells.toList)

theorem flat_get {sz : Nat} : ∀ (es : List Value), (∀ e ∈ es, e.cells.size = sz) → ∀ (i j : Nat) (hi : i < es.length), j < sz → (cellsOf es)[i * sz + j]? = (es[i].cells.toList)[j]?
  | [], _, i, j, hi, _ => by simp at hi
  | v :: es, h, i, j, hi, hj => by
    have hv := h v List.mem_cons_self
    have hl : v.cells.toList.length = sz := by simpa using hv
    simp only [cellsOf, List.flatMap_cons]
    cases i with
    | zero =>
      rw [Nat.zero_mul, Nat.zero_add, List.getElem?_append_left (by omega)]
      rfl
    | succ i =>
      rw [List.getElem?_append_right (by rw [hl, Nat.succ_mul]; omega), hl]
      have := flat_get es (fun e he => h e (List.mem_cons_of_mem _ he)) i j (by simpa using hi) hj
      rw [show (i + 1) * sz + j - sz = i * sz + j from by rw [Nat.succ_mul]; omega]
      exact this

theorem cellsOf_length {sz : Nat} : ∀ (es : List Value), (∀ e ∈ es, e.cells.size = sz) → (cellsOf es).length = es.length * sz
  | [], _ => by simp [cellsOf]
  | v :: es, h => by
    have hv := h v List.mem_cons_self
    have ih := cellsOf_length es (fun e he => h e (List.mem_cons_of_mem _ he))
    simp only [cellsOf, List.flatMap_cons, List.length_append] at ih ⊢
    rw [ih]
    simp [hv, Nat.succ_mul, Nat.add_comm]

/-- A readable slice with these elements, each of sz cells. -/
structure RdE (w : World) (lo hi : Nat) (v : Value) (sz : Nat) (es : List Value) : Prop where
  rd : Rd w lo hi v sz es.length (cellsOf es)
  sz : ∀ e ∈ es, e.cells.size = sz

theorem RdE.chg {w w' : World} {lo hi : Nat} {v : Value} {sz : Nat} {es : List Value} {N : List Nat} (h : RdE w lo hi v sz es) (c : Chg N w w') (hN : ∀ k ∈ N, k < lo ∨ hi ≤ k) : RdE w' lo hi v sz es := ⟨h.rd.chg c hN, h.sz⟩
theorem RdE.keep {w w' : World} {lo hi : Nat} {v : Value} {sz : Nat} {es : List Value} (h : RdE w lo hi v sz es) (c : Chg [] w w') : RdE w' lo hi v sz es := ⟨h.rd.keep c, h.sz⟩
theorem RdE.wide {w : World} {lo hi lo' hi' : Nat} {v : Value} {sz : Nat} {es : List Value} (h : RdE w lo hi v sz es) (hl : lo' ≤ lo) (hh : hi ≤ hi') : RdE w lo' hi' v sz es := ⟨h.rd.wide hl hh, h.sz⟩
theorem RdE.out {w : World} {lo hi : Nat} {v : Value} {sz : Nat} {es : List Value} (h : RdE w lo hi v sz es) :
    ∃ a cap, v = .slice a es.length cap ∧ (0 < es.length → ∃ b off, a = some ⟨b, off, none⟩) := by
  obtain ⟨a, cap, hv, hs⟩ := h.rd.out
  exact ⟨a, cap, hv, fun hp => let ⟨b, off, ha, _⟩ := hs hp; ⟨b, off, ha⟩⟩
/-- One cell of element i. -/
theorem RdE.cell {w : World} {lo hi : Nat} {b off len cap : Nat} {sz : Nat} {es : List Value} (h : RdE w lo hi (.slice (some ⟨b, off, none⟩) len cap) sz es) (i j : Nat) (hi : i < es.length) (hj : j < sz) :
    w.cell? ⟨b, off + i * sz + j, none⟩ = (es[i].cells.toList)[j]? := by
  obtain ⟨a, cap', hv, hs⟩ := h.rd.out
  cases hv
  have hl := cellsOf_length es h.sz
  have hlt : i * sz + j < (cellsOf es).length := by
    rw [hl]
    have : (i + 1) * sz ≤ es.length * sz := Nat.mul_le_mul_right _ hi
    rw [Nat.succ_mul] at this
    omega
  rw [Nat.add_assoc, h.rd.cell rfl _ hlt, flat_get es h.sz i j hi hj]
/-- An element of one cell. -/
theorem RdE.cell1 {w : World} {lo hi : Nat} {b off len cap : Nat} {es : List Value} (h : RdE w lo hi (.slice (some ⟨b, off, none⟩) len cap) 1 es) (i : Nat) (hi : i < es.length) (h1 : oneV es[i] = true) :
    w.cell? ⟨b, off + i * 1, none⟩ = some es[i] := by
  have := h.cell i 0 hi (by omega)
  rw [Nat.add_zero] at this
  rw [this]
  generalize es[i] = v at *
  cases v <;> first | (simp [oneV] at h1; done) | rfl

theorem int_size (k : IntKind) (n : Int) : (Value.int k n).cells.size = 1 := rfl
theorem agg_size (cs : Array Value) : (Value.agg cs).cells.size = cs.size := rfl

/-- A slice of integers. -/
abbrev ints (l : List Int) : List Value := l.map (Value.int .i64)
abbrev RdI (w : World) (lo hi : Nat) (v : Value) (l : List Int) : Prop := RdE w lo hi v 1 (ints l)

/-- A predicate, as a function value: at w and in every world grown out of it. -/
def PredAt (P : Program) (T : Tab) (w0 : World) (cv : Value) (es : List Value) (p : Value → Bool) : Prop :=
  ∃ g first caps, cv = .func (.func g) first caps ∧ has T.fn g = true ∧
    ∀ w, Chg [] w0 w → ∀ x ∈ es, Ca P g (first.toList ++ [x] ++ caps.toList) w fun v w' => v = .bool (p x) ∧ Chg [] w w'

theorem PredAt.keep {P : Program} {T : Tab} {w0 w1 : World} {cv : Value} {es : List Value} {p : Value → Bool} (h : PredAt P T w0 cv es p) (c : Chg [] w0 w1) : PredAt P T w1 cv es p := by
  obtain ⟨g, f, cs, h1, h2, h3⟩ := h
  exact ⟨g, f, cs, h1, h2, fun w hw => h3 w (c.trans hw)⟩

end Go.Eng
