/- The engine, part B5: arrays as values; slices of arrays; copy; make. -/
import Derived.Test.YtmbifbippnncoaaB4
import Derived.Laws.CopyRow
import Derived.Laws.MakeOwn
import Derived.Laws.OwnMore
import Derived.Laws.Slices
namespace Go.Eng
open Go Go.RowKit

section
variable {P : Program} {T : Tab}
variable {ro : Cx} {n n' : Nat} {F : Fin} {w0 : World} {M : Nat → Prop} {k : List It} {ops : Array Oper} {rest : List Oper} {e : Env} {H Hq : List Ck}

/-- An element of an array that is a value. -/
theorem run_ixA (hT : T.Ok P) {t len et : Nat} {cs : Array Value} {ik : IntKind} {i : Int} {v : Value} (hA : arrB P t len et 1 = true) (h1 : has T.one et = true) (h0 : 0 ≤ i) (hi : i < len) (hv : cs[i.toNat]? = some v) (w : World) :
    (Instr.index t (.agg cs) (.int ik i)).run P w = .ok v w := by
  obtain ⟨r1, r2⟩ := one_run hT h1 w
  simp only [arrB, Bool.and_eq_true] at hA
  obtain ⟨ha, hb⟩ := hA
  split at ha
  · rename_i m e' hu
    simp only [Bool.and_eq_true] at ha
    have e1 := Nat.eq_of_beq_eq_true ha.1
    have e2 := Nat.eq_of_beq_eq_true ha.2
    subst e1; subst e2
    simp [Instr.index, asIntOf, run_underlying hu, h0, hi, r2, part, r1, hv]
  · cases ha
theorem ql_ixA (hT : T.Ok P) {d t len et : Nat} {x ix : Operand} {cs : Array Value} {ik : IntKind} {i : Int} {v : Value} {ty : TypeId} {pos : String} {af : Array Edge} (hA : arrB P t len et 1 = true) (h1 : has T.one et = true)
    (hx : opv e x = some (.agg cs)) (hi : opv e ix = some (.int ik i)) (hd : Nat.blt d n = true) (h0 : 0 ≤ i) (hl : i < len) (hv : cs[i.toNat]? = some v)
    (h : QL P ro n F w0 M k ops rest ((d, v) :: e) H) : QL P ro n F w0 M k ops (⟨some d, .index t x ix, ty, pos, af, none⟩ :: rest) e H := .mk fun w hw =>
  yl_val (by simp) hd (fun a hf => by
    simp only [execOp, hf.op hx, hf.op hi]
    simp [run_ixA hT hA h1 h0 hl hv w]) (h w hw)
theorem qf_ixA (hT : T.Ok P) {d t len et : Nat} {x ix : Operand} {cs : Array Value} {ik : IntKind} {i : Int} {v : Value} {ty : TypeId} {pos : String} {af : Array Edge} (hA : arrB P t len et 1 = true) (h1 : has T.one et = true)
    (hx : opv e x = some (.agg cs)) (hi : opv e ix = some (.int ik i)) (hd : Nat.blt d n = true) (h0 : 0 ≤ i) (hl : i < len) (hv : cs[i.toNat]? = some v)
    (h : QF P ro n F w0 M k ops Hq rest ((d, v) :: e) H) : QF P ro n F w0 M k ops Hq (⟨some d, .index t x ix, ty, pos, af, none⟩ :: rest) e H := .mk fun w hw =>
  yf_quiet rfl hd (fun a hf w' _ => by
    simp only [execOp, hf.op hx, hf.op hi]
    simp [run_ixA hT hA h1 h0 hl hv w']) (h w hw)

/-- A whole array, as a slice. -/
theorem run_slA {t len et sz : Nat} (hA : arrB P t len et sz = true) (a : Addr) (w : World) : (Instr.sliceAt t (.pointer (some a)) none none none).run P w = .ok (.slice (some a) len len) w := by
  simp only [arrB, Bool.and_eq_true] at hA
  obtain ⟨ha, hb⟩ := hA
  split at ha
  · rename_i m e' hu
    simp only [Bool.and_eq_true] at ha
    have e1 := Nat.eq_of_beq_eq_true ha.1
    have e2 := Nat.eq_of_beq_eq_true ha.2
    subst e1; subst e2
    split at hb
    · rename_i inf hinf
      by_cases hm : m = 0
      · subst hm
        simp [Instr.sliceAt, Instr.sureAddr, run_underlying hu, Instr.sliceBounds, sizeOf, typeInfo, hinf]
      · simp [Instr.sliceAt, Instr.sureAddr, run_underlying hu, Instr.sliceBounds, sizeOf, typeInfo, hinf, Addr.add]
    · cases hb
  · cases ha
theorem ql_slA {d t len et sz : Nat} {x : Operand} {a : Addr} {ty : TypeId} {pos : String} {af : Array Edge} (hA : arrB P t len et sz = true) (hx : opv e x = some (.pointer (some a))) (hd : Nat.blt d n = true)
    (h : QL P ro n F w0 M k ops rest ((d, .slice (some a) len len) :: e) H) : QL P ro n F w0 M k ops (⟨some d, .slice t x none none none, ty, pos, af, none⟩ :: rest) e H := .mk fun w hw =>
  yl_val (by simp) hd (fun ac hf => by
    simp only [execOp, hf.op hx]
    simp [run_slA hA a w]) (h w hw)
theorem qf_slA {d t len et sz : Nat} {x : Operand} {a : Addr} {ty : TypeId} {pos : String} {af : Array Edge} (hA : arrB P t len et sz = true) (hx : opv e x = some (.pointer (some a))) (hd : Nat.blt d n = true)
    (h : QF P ro n F w0 M k ops Hq rest ((d, .slice (some a) len len) :: e) H) : QF P ro n F w0 M k ops Hq (⟨some d, .slice t x none none none, ty, pos, af, none⟩ :: rest) e H := .mk fun w hw =>
  yf_quiet rfl hd (fun ac hf w' _ => by
    simp only [execOp, hf.op hx]
    simp [run_slA hA a w']) (h w hw)

/-- copy of numbers into a block of numbers. -/
theorem run_copyI {w : World} {dT sT et n n2 lo hi b c c2 : Nat} {a : Option Addr} {bt : TypeId} {l L : List Int} (ty : TypeId) (hu : P.underlying dT = some (.slice et)) (hs : (P.info? et).map (·.size) = some 1) (hb : Blk w b (ints L) bt) (hL : L.length = n) (hl : l.length ≤ n) (h0 : 0 < l.length)
    (hm : n2 = l.length) (hrd : RdI w lo hi (.slice a n2 c2) l) :
    ∃ w', (Builtin.copy_ #[dT, sT] ty #[.slice (some ⟨b, 0, none⟩) n c, .slice a n2 c2]).run P w = .ok (goInt l.length) w' ∧ Chg [b] w w' ∧ Blk w' b (ints (l ++ L.drop l.length)) bt := by
  subst hm
  obtain ⟨_, _, ha, hs2⟩ := RdI.outI hrd
  obtain ⟨sb, so, rfl⟩ := hs2 h0
  cases ha
  have hrun := run_copy_row (P := P) w dT sT ty et b 0 n c ⟨sb, so, none⟩ l.length c2 (ints L).toArray bt (ints l) hu hs hb (by simp [Nat.min_def]; omega) (fun j v hj => by
    obtain ⟨hj1, rfl⟩ := List.getElem?_eq_some_iff.1 hj
    have hj2 : j < l.length := by simpa using hj1
    have h1 := RdI.at hrd j hj2
    rw [Nat.mul_one] at h1
    rw [Addr.add_lit, h1]
    simp) (by simp; omega) (fun v hv => by
    obtain ⟨x, _, rfl⟩ := List.mem_map.1 hv
    rfl)
  have e1 : ((ints L).toArray.toList.take 0 ++ ints l ++ (ints L).toArray.toList.drop (0 + (ints l).length)) = ints (l ++ L.drop l.length) := by
    simp [List.map_drop]
  rw [e1] at hrun
  rw [show (ints l).length = l.length by simp] at hrun
  exact ⟨w.setRow b (ints (l ++ L.drop l.length)).toArray, hrun, ⟨rfl, rfl, rfl, by simp [World.setRow], fun k _ hk => setRow_other w b k _ (by simpa using hk)⟩, setRow_heap w b _ _ bt (0, 0) hb⟩

theorem qf_copyI {d dT sT et n n2 c c2 b lo hi : Nat} {x y : Operand} {a : Option Addr} {bt : TypeId} {l L : List Int} {H' : List Ck} {ty : TypeId} {pos : String} {af : Array Edge} (hu : P.underlying dT = some (.slice et)) (hsz : (P.info? et).map (·.size) = some 1)
    (hx : opv e x = some (.slice (some ⟨b, 0, none⟩) n c)) (hy : opv e y = some (.slice a n2 c2)) (hd : Nat.blt d n' = true) (hr : Rp H (.pt b (ints L) bt) (.pt b (ints (l ++ L.drop l.length)) bt) H') (hL : L.length = n) (hl : l.length ≤ n) (h0 : 0 < l.length) (hm : n2 = l.length)
    (hrd : ∀ w, Sat w0 M (H ++ Hq) w → RdI w lo hi (.slice a n2 c2) l) (h : QF P ro n' F w0 M k ops Hq rest ((d, goInt l.length) :: e) H') :
    QF P ro n' F w0 M k ops Hq (⟨some d, .call { callee := .builtin .copy, args := [x, y].toArray, argTypes := [dT, sT].toArray }, ty, pos, af, none⟩ :: rest) e H := .mk fun w hs => by
  obtain ⟨w', hrun, hc, hb⟩ := run_copyI (P := P) (sT := sT) ty hu hsz (hs.blk (hr.app Hq).mem) hL hl h0 hm (hrd w hs) (c := c)
  have hs' := hs.pt (hr.app Hq) hc hb
  refine yf_eff (w' := w') rfl hd (fun ac hf => ?_) hs'.right (h.h w' hs')
  simp [execOp, resolve, invoke, builtin, hf.op hx, hf.op hy, hrun]
theorem ql_copyI {d dT sT et n n2 c c2 b lo hi : Nat} {x y : Operand} {a : Option Addr} {bt : TypeId} {l L : List Int} {H' : List Ck} {ty : TypeId} {pos : String} {af : Array Edge} (hu : P.underlying dT = some (.slice et)) (hsz : (P.info? et).map (·.size) = some 1)
    (hx : opv e x = some (.slice (some ⟨b, 0, none⟩) n c)) (hy : opv e y = some (.slice a n2 c2)) (hd : Nat.blt d n' = true) (hr : Rp H (.pt b (ints L) bt) (.pt b (ints (l ++ L.drop l.length)) bt) H') (hL : L.length = n) (hl : l.length ≤ n) (h0 : 0 < l.length) (hm : n2 = l.length)
    (hrd : ∀ w, Sat w0 M H w → RdI w lo hi (.slice a n2 c2) l) (h : QL P ro n' F w0 M k ops rest ((d, goInt l.length) :: e) H') :
    QL P ro n' F w0 M k ops (⟨some d, .call { callee := .builtin .copy, args := [x, y].toArray, argTypes := [dT, sT].toArray }, ty, pos, af, none⟩ :: rest) e H := .mk fun w hs => by
  obtain ⟨w', hrun, hc, hb⟩ := run_copyI (P := P) (sT := sT) ty hu hsz (hs.blk hr.mem) hL hl h0 hm (hrd w hs) (c := c)
  refine yl_val (w' := w') (by simp) hd (fun ac hf => ?_) (h.h w' (hs.pt hr hc hb))
  simp [execOp, resolve, invoke, builtin, hf.op hx, hf.op hy, hrun]

/-- make([]int, n). -/
theorem ql_makeI {d t et m : Nat} {x y : Operand} {ty : TypeId} {pos : String} {af : Array Edge} (hS : SlT P t et 1 8 (.int .i64 0)) (hx : opv e x = some (.int .i64 m)) (hy : opv e y = some (.int .i64 m)) (hd : Nat.blt d n = true) (hm : m ≤ 1000000)
    (h : ∀ b, QL P ro n F w0 M k ops rest ((d, .slice (some ⟨b, 0, none⟩) m m) :: e) (.pt b (ints (List.replicate m 0)) et :: H)) :
    QL P ro n F w0 M k ops (⟨some d, .makeSlice t x y, ty, pos, af, none⟩ :: rest) e H := .mk fun w hs => by
  obtain ⟨ht, hi', hzs, hsz⟩ := hS
  cases hinf : P.info? et with
  | none => simp [hinf] at hi'
  | some i =>
    simp [hinf] at hi'
    obtain ⟨hz, hsize, hby⟩ := hi'
    have hr := run_makeSlice (P := P) w t et i _ ht hinf hz .i64 .i64 m m (by omega) (Int.le_refl _) (by rw [hsize]; simp; omega) (by rw [hby]; omega) (by omega)
    have hcells : (madeCells (Value.int .i64 0).cells ((m : Int).toNat * i.size)) = (ints (List.replicate m 0)).toArray := by
      apply Array.ext'
      rw [hsize, show (Value.int .i64 0).cells = #[Value.int .i64 0] from rfl, toList_madeCells_one]
      simp
    rw [hcells] at hr
    refine yl_val (w' := w.alloc (.cells (ints (List.replicate m 0)).toArray et)) (by simp) hd (fun ac hf => ?_) ((h w.heap.size).h _ (hs.addPt (alloc_chg _ _) (by simp) (alloc_blk w _ _)))
    simp only [execOp, hf.op hx, hf.op hy]
    simp [hr]
end
end Go.Eng
