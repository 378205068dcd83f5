/- The engine, part 3: memory. -/
import Derived.Test.YtmbifbippnncoaaA2
namespace Go.Eng
open Go Go.RowKit

/-- Blocks outside N are as they were. -/
structure Chg (N : List Nat) (w w' : World) : Prop where
  os : w'.os = w.os
  tape : w'.tape = w.tape
  output : w'.output = w.output
  size : w.heap.size ≤ w'.heap.size
  block : ∀ k, k < w.heap.size → k ∉ N → w'.heap[k]? = w.heap[k]?

theorem Chg.refl (N : List Nat) (w : World) : Chg N w w := ⟨rfl, rfl, rfl, Nat.le_refl _, fun _ _ _ => rfl⟩
theorem Chg.trans {N : List Nat} {a b c : World} (h : Chg N a b) (g : Chg N b c) : Chg N a c :=
  ⟨g.os.trans h.os, g.tape.trans h.tape, g.output.trans h.output, Nat.le_trans h.size g.size, fun k hk hn => (g.block k (Nat.lt_of_lt_of_le hk h.size) hn).trans (h.block k hk hn)⟩
theorem Chg.mono {N M : List Nat} {a b : World} (h : Chg N a b) (hs : ∀ k ∈ N, k ∈ M) : Chg M a b :=
  ⟨h.os, h.tape, h.output, h.size, fun k hk hn => h.block k hk (fun hk' => hn (hs k hk'))⟩
theorem Chg.nil {N : List Nat} {a b : World} (h : Chg [] a b) : Chg N a b := h.mono (by simp)
theorem Chg.of_below {w w' : World} (h : Below w.heap.size w w') : Chg [] w w' := ⟨h.os, h.tape, h.output, h.size, fun k hk _ => h.block k hk⟩
theorem Chg.below {w w' : World} (h : Chg [] w w') : Below w.heap.size w w' := ⟨h.os, h.tape, h.output, h.size, fun k hk => h.block k hk (by simp)⟩
theorem Below.chg {B : Nat} {N : List Nat} {w0 w w' : World} (h : Below B w0 w) (c : Chg N w w') (hB : B ≤ w.heap.size) (hN : ∀ k ∈ N, B ≤ k) : Below B w0 w' :=
  h.trans ⟨c.os, c.tape, c.output, c.size, fun k hk => c.block k (by omega) (fun hk' => by have := hN k hk'; omega)⟩
theorem Chg.drew {N : List Nat} (w : World) : Chg N w { w with drawn := w.drawn + 1 } := ⟨rfl, rfl, rfl, Nat.le_refl _, fun _ _ _ => rfl⟩

/-- Block b holds these cells. -/
def Blk (w : World) (b : Nat) (cs : List Value) (t : TypeId) : Prop := w.heap[b]? = some (.cells cs.toArray t (0, 0))

theorem Blk.lt {w : World} {b : Nat} {cs : List Value} {t : TypeId} (h : Blk w b cs t) : b < w.heap.size := (Array.getElem?_eq_some_iff.1 h).1
theorem Blk.chg {w w' : World} {b : Nat} {cs : List Value} {t : TypeId} {N : List Nat} (h : Blk w b cs t) (c : Chg N w w') (hb : b ∉ N) : Blk w' b cs t := (c.block b h.lt hb).trans h
theorem Blk.keep {w w' : World} {b : Nat} {cs : List Value} {t : TypeId} (h : Blk w b cs t) (c : Chg [] w w') : Blk w' b cs t := h.chg c (by simp)
theorem Blk.cell {w : World} {b : Nat} {cs : List Value} {t : TypeId} (h : Blk w b cs t) (i : Nat) : w.cell? ⟨b, i, none⟩ = cs[i]? := by
  unfold Blk at h
  simp [World.cell?, h]
theorem Blk.frozen {w : World} {b : Nat} {cs : List Value} {t : TypeId} (h : Blk w b cs t) (i : Nat) : w.frozen? ⟨b, i, none⟩ = false := by
  unfold Blk at h
  simp [World.frozen?, h]

/-- The world with another object in block b. -/
def upd (w : World) (b : Nat) (o : Obj) : World := { w with heap := w.heap.setIfInBounds b o }

theorem upd_chg (w : World) (b : Nat) (o : Obj) : Chg [b] w (upd w b o) :=
  ⟨rfl, rfl, rfl, by simp [upd], fun k _ hn => by
    simp only [List.mem_singleton] at hn
    simp [upd, Array.getElem?_setIfInBounds_ne (Ne.symm hn)]⟩
theorem upd_blk {w : World} {b : Nat} {cs : List Value} {t : TypeId} (h : b < w.heap.size) : Blk (upd w b (.cells cs.toArray t (0, 0))) b cs t := by
  simp [Blk, upd, h]
theorem upd_size (w : World) (b : Nat) (o : Obj) : (upd w b o).heap.size = w.heap.size := by simp [upd]

theorem alloc_chg (w : World) (o : Obj) : Chg [] w (w.alloc o) :=
  ⟨rfl, rfl, rfl, by simp, fun k hk _ => Below.heap_alloc w o k hk⟩

theorem setCell_blk {w : World} {b i : Nat} {cs : List Value} {t : TypeId} (h : Blk w b cs t) (v : Value) : w.setCell ⟨b, i, none⟩ v = upd w b (.cells (cs.set i v).toArray t (0, 0)) := by
  unfold Blk at h
  have hlt := (Array.getElem?_eq_some_iff.1 h).1
  have hget := (Array.getElem?_eq_some_iff.1 h).2
  unfold World.setCell upd
  congr 1
  apply Array.ext_getElem?
  intro k
  simp only [Array.getElem?_modify]
  by_cases hk : b = k
  · subst hk
    simp [hlt, hget]
  · simp [hk, Array.getElem?_setIfInBounds_ne hk]

theorem alloc_blk (w : World) (cs : Array Value) (t : TypeId) : Blk (w.alloc (.cells cs t)) w.heap.size cs.toList t := by
  show (w.heap.push _)[w.heap.size]? = _
  simp

def oneV : Value → Bool
  | .agg _ | .tuple _ => false
  | _ => true

variable {P : Program} {T : Tab}

section
variable {ro : Cx} {n : Nat} {F : Fin} {k : List It} {ops : Array Oper} {l rest : List Oper} {e : Env} {w : World}

theorem one_run (hT : T.Ok P) {t : Nat} (h : has T.one t = true) (w : World) : (isAgg t).run P w = .ok false w ∧ (sizeOf t).run P w = .ok 1 w := by
  have h1 := hT.one _ h
  simp only [oneB, Bool.and_eq_true] at h1
  obtain ⟨ha, hb⟩ := h1
  constructor
  · split at ha <;> first | (cases ha; done) | (rename_i d hd1 hd2 hu; cases d <;> first | exact absurd rfl (hd1 _) | exact absurd rfl (hd2 _ _) | simp [isAgg, run_underlying hu])
  · split at hb
    · rename_i i hi
      have := Nat.eq_of_beq_eq_true hb
      simp [sizeOf, typeInfo, hi, this]
    · cases hb

theorem agg_run (hT : T.Ok P) {t m : Nat} (h : find1 T.agg t = some m) (w : World) : (isAgg t).run P w = .ok true w ∧ (sizeOf t).run P w = .ok m w := by
  have h1 := hT.agg _ _ h
  simp only [aggB, Bool.and_eq_true] at h1
  obtain ⟨ha, hb⟩ := h1
  constructor
  · split at ha
    · rename_i fs hu; simp [isAgg, run_underlying hu]
    · rename_i a b hu; simp [isAgg, run_underlying hu]
    · cases ha
  · split at hb
    · rename_i i hi
      have := Nat.eq_of_beq_eq_true hb
      simp [sizeOf, typeInfo, hi, this]
    · cases hb

/-- Reading a variable of one cell. -/
theorem yl_load1 (hT : T.Ok P) {d t : Nat} {x : Operand} {ad : Addr} {v : Value} {ty : TypeId} {pos : String} {af : Array Edge}
    (hx : opv e x = some (.pointer (some ad))) (h1 : has T.one t = true) (hd : Nat.blt d n = true) (hc : w.cell? ad = some v)
    (h : YL P ro n F k ops rest ((d, v) :: e) w) : YL P ro n F k ops (⟨some d, .load t x, ty, pos, af, none⟩ :: rest) e w :=
  yl_val (by simp) hd (fun a hf => by
    have e1 := hf.op hx
    obtain ⟨r1, _⟩ := one_run hT h1 w
    simp only [execOp, e1]
    simp [Instr.loadAt, Instr.sureAddr, loadVar, r1, load, Sem.run, hc]) h

theorem loadCellsFrom_run (w : World) (ad : Addr) : ∀ (m i : Nat) (acc : Array Value) (cs : List Value), cs.length = m → (∀ j, j < m → w.cell? (ad.add (i + j)) = cs[j]?) →
    (loadCellsFrom ad i m acc).run P w = .ok (acc ++ cs.toArray) w
  | 0, i, acc, cs, hl, hc => by
    obtain rfl : cs = [] := by simpa using hl
    simp [loadCellsFrom]
  | m + 1, i, acc, cs, hl, hc => by
    cases cs with
    | nil => simp at hl
    | cons c cs =>
      have h0 := hc 0 (by omega)
      simp at h0
      have ih := loadCellsFrom_run w ad m (i + 1) (acc.push c) cs (by simpa using hl) (fun j hj => by
        have := hc (j + 1) (by omega)
        rw [show i + 1 + j = i + (j + 1) from by omega, this]
        simp)
      simp only [loadCellsFrom]
      simp [load, Sem.run, h0, ih]

/-- Reading a struct or an array. -/
theorem yl_loadA (hT : T.Ok P) {d t m : Nat} {x : Operand} {b off : Nat} {cs : List Value} {ty : TypeId} {pos : String} {af : Array Edge}
    (hx : opv e x = some (.pointer (some ⟨b, off, none⟩))) (h1 : find1 T.agg t = some m) (hd : Nat.blt d n = true) (hl : cs.length = m) (hc : ∀ j, j < m → w.cell? ⟨b, off + j, none⟩ = cs[j]?)
    (h : YL P ro n F k ops rest ((d, .agg cs.toArray) :: e) w) : YL P ro n F k ops (⟨some d, .load t x, ty, pos, af, none⟩ :: rest) e w :=
  yl_val (by simp) hd (fun a hf => by
    have e1 := hf.op hx
    obtain ⟨r1, r2⟩ := agg_run hT h1 w
    have r3 := loadCellsFrom_run (P := P) w ⟨b, off, none⟩ m 0 #[] cs hl (fun j hj => by rw [Nat.zero_add, Addr.add_lit]; exact hc j hj)
    simp only [execOp, e1]
    simp [Instr.loadAt, Instr.sureAddr, loadVar, loadCells, r1, r2, r3]) h

/-- A new variable that holds a value. -/
theorem yl_box {d t : Nat} {x : Operand} {v : Value} {ty : TypeId} {pos : String} {af : Array Edge}
    (hx : opv e x = some v) (hd : Nat.blt d n = true)
    (h : ∀ w', Chg [] w w' → w'.heap.size = w.heap.size + 1 → Blk w' w.heap.size v.cells.toList t → YL P ro n F k ops rest ((d, .pointer (some ⟨w.heap.size, 0, none⟩)) :: e) w') :
    YL P ro n F k ops (⟨some d, .box t x, ty, pos, af, none⟩ :: rest) e w :=
  yl_val (w' := w.alloc (.cells v.cells t)) (by simp) hd (fun a hf => by
    have e1 := hf.op hx
    simp only [execOp, e1]
    simp [Instr.box, newVar, newRow, go_sem]) (h _ (alloc_chg _ _) (by simp) (alloc_blk _ _ _))

/-- A new variable that holds the zero value. -/
theorem yl_alloc {d t : Nat} {z : Value} {ty : TypeId} {pos : String} {af : Array Edge}
    (hz : (P.info? t).bind (·.zero) = some z) (hd : Nat.blt d n = true)
    (h : ∀ w', Chg [] w w' → w'.heap.size = w.heap.size + 1 → Blk w' w.heap.size z.cells.toList t → YL P ro n F k ops rest ((d, .pointer (some ⟨w.heap.size, 0, none⟩)) :: e) w') :
    YL P ro n F k ops (⟨some d, .alloc t, ty, pos, af, none⟩ :: rest) e w :=
  yl_val (w' := w.alloc (.cells z.cells t)) (by simp) hd (fun a hf => by
    cases hi : P.info? t with
    | none => simp [hi] at hz
    | some i =>
      simp [hi] at hz
      simp only [execOp]
      simp [Instr.alloc, zeroValue, typeInfo, hi, hz, newVar, newRow, go_sem]) (h _ (alloc_chg _ _) (by simp) (alloc_blk _ _ _))

/-- Writing a variable of one cell that lies in a block of our own. -/
theorem yl_store1 (hT : T.Ok P) {t : Nat} {x y : Operand} {b i : Nat} {cs : List Value} {bt : TypeId} {v : Value} {ty : TypeId} {pos : String} {af : Array Edge}
    (hx : opv e x = some (.pointer (some ⟨b, i, none⟩))) (hy : opv e y = some v) (h1 : has T.one t = true) (hv : oneV v = true) (hb : Blk w b cs bt) (hi : i < cs.length)
    (h : ∀ w', Chg [b] w w' → w'.heap.size = w.heap.size → Blk w' b (cs.set i v) bt → YL P ro n F k ops rest e w') :
    YL P ro n F k ops (⟨none, .store t x y, ty, pos, af, none⟩ :: rest) e w :=
  yl_do (w' := w.setCell ⟨b, i, none⟩ v) (by simp) (fun a hf => by
    have e1 := hf.op hx
    have e2 := hf.op hy
    obtain ⟨_, r2⟩ := one_run hT h1 w
    have hc := hb.cell i
    rw [List.getElem?_eq_getElem hi] at hc
    have hfr := hb.frozen i
    have hcells : v.cells = #[v] := by cases v <;> first | (simp [oneV] at hv; done) | rfl
    simp only [execOp, e1, e2]
    cases v <;> first | (simp [oneV] at hv; done) | simp [Instr.storeAt, Instr.sureAddr, storeVar, r2, hcells, storeCells, store, Sem.run, hc, hfr, Addr.add_zero']) (by
    rw [setCell_blk hb]
    exact h _ (upd_chg _ _ _) (upd_size _ _ _) (upd_blk hb.lt))

end
end Go.Eng
