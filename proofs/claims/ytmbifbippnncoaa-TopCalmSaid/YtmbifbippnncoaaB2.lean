/- The engine, part B2: operations, over pieces of memory. -/
import Derived.Test.YtmbifbippnncoaaB1
namespace Go.Eng
open Go Go.RowKit

section
variable {P : Program} {T : Tab}
variable {ro : Cx} {n : Nat} {F : Fin} {w0 : World} {M : Nat → Prop} {k : List It} {ops : Array Oper} {l rest : List Oper} {e : Env} {H Hq : List Ck}

theorem Rp.app {H H' : List Ck} {c c' : Ck} (h : Rp H c c' H') (R : List Ck) : Rp (H ++ R) c c' (H' ++ R) := by
  induction h with
  | z => exact .z
  | s _ ih => exact .s ih

theorem Rm.app {H H' : List Ck} {c : Ck} (h : Rm H c H') (R : List Ck) : Rm (H ++ R) c (H' ++ R) := by
  induction h with
  | z => exact .z
  | s _ ih => exact .s ih
theorem Sp.refl : ∀ (H : List Ck), Sp H H
  | [] => .nil
  | _ :: H => .cons .z (Sp.refl H)
theorem Sp.skip : ∀ (A R : List Ck), Sp (A ++ R) R
  | [], R => .refl R
  | a :: A, R => by
    have h := Sp.skip A R
    have key : ∀ {X Y : List Ck}, Sp X Y → Sp (a :: X) Y := by
      intro X Y hs
      induction hs with
      | nil => exact .nil
      | cons hr _ ih => exact .cons (.s hr) ih
    exact key h
theorem Sp.app {H H' : List Ck} (h : Sp H H') (R : List Ck) : Sp (H ++ R) (H' ++ R) := by
  induction h with
  | @nil H => exact Sp.skip H R
  | cons hr _ ih => exact .cons (hr.app R) ih

/-! What stands next -/
theorem is_qc {c : Code} (h : Q P ro n F w0 M (.code c :: k) e H) : Q P ro n F w0 M (.code c :: k) e H := h
theorem is_qcond {c : Operand} {x y : Code} (h : Q P ro n F w0 M (.code (.cond c x y) :: k) e H) : Q P ro n F w0 M (.code (.cond c x y) :: k) e H := h
theorem is_qexit {id : Nat} (h : Q P ro n F w0 M (.code (.exit id) :: k) e H) : Q P ro n F w0 M (.code (.exit id) :: k) e H := h
theorem is_qv {d : Nat} {op : Op} {ty : TypeId} {pos : String} {af : Array Edge} (h : QL P ro n F w0 M k ops (⟨some d, op, ty, pos, af, none⟩ :: rest) e H) : QL P ro n F w0 M k ops (⟨some d, op, ty, pos, af, none⟩ :: rest) e H := h
theorem is_qg {d : Option Nat} {op : Op} {ty : TypeId} {pos : String} {af : Array Edge} {g : Nat × Bool} (h : QL P ro n F w0 M k ops (⟨d, op, ty, pos, af, some g⟩ :: rest) e H) : QL P ro n F w0 M k ops (⟨d, op, ty, pos, af, some g⟩ :: rest) e H := h
theorem is_qbin {d : Nat} {o : BinOp} {t t' : Nat} {x y : Operand} {ty : TypeId} {pos : String} {af : Array Edge} (h : QL P ro n F w0 M k ops (⟨some d, .binOp o t x y t', ty, pos, af, none⟩ :: rest) e H) : QL P ro n F w0 M k ops (⟨some d, .binOp o t x y t', ty, pos, af, none⟩ :: rest) e H := h
theorem is_qload {d t : Nat} {x : Operand} {ty : TypeId} {pos : String} {af : Array Edge} (h : QL P ro n F w0 M k ops (⟨some d, .load t x, ty, pos, af, none⟩ :: rest) e H) : QL P ro n F w0 M k ops (⟨some d, .load t x, ty, pos, af, none⟩ :: rest) e H := h
theorem is_qstore {t : Nat} {x y : Operand} {ty : TypeId} {pos : String} {af : Array Edge} (h : QL P ro n F w0 M k ops (⟨none, .store t x y, ty, pos, af, none⟩ :: rest) e H) : QL P ro n F w0 M k ops (⟨none, .store t x y, ty, pos, af, none⟩ :: rest) e H := h
theorem is_qalloc {d t : Nat} {ty : TypeId} {pos : String} {af : Array Edge} (h : QL P ro n F w0 M k ops (⟨some d, .alloc t, ty, pos, af, none⟩ :: rest) e H) : QL P ro n F w0 M k ops (⟨some d, .alloc t, ty, pos, af, none⟩ :: rest) e H := h
theorem is_qbox {d t : Nat} {x : Operand} {ty : TypeId} {pos : String} {af : Array Edge} (h : QL P ro n F w0 M k ops (⟨some d, .box t x, ty, pos, af, none⟩ :: rest) e H) : QL P ro n F w0 M k ops (⟨some d, .box t x, ty, pos, af, none⟩ :: rest) e H := h
theorem is_fv2 {d : Nat} {op : Op} {ty : TypeId} {pos : String} {af : Array Edge} (h : QF P ro n F w0 M k ops Hq (⟨some d, op, ty, pos, af, none⟩ :: rest) e H) : QF P ro n F w0 M k ops Hq (⟨some d, op, ty, pos, af, none⟩ :: rest) e H := h
theorem is_fg2 {d : Option Nat} {op : Op} {ty : TypeId} {pos : String} {af : Array Edge} {g : Nat × Bool} (h : QF P ro n F w0 M k ops Hq (⟨d, op, ty, pos, af, some g⟩ :: rest) e H) : QF P ro n F w0 M k ops Hq (⟨d, op, ty, pos, af, some g⟩ :: rest) e H := h
theorem is_fbin {d : Nat} {o : BinOp} {t t' : Nat} {x y : Operand} {ty : TypeId} {pos : String} {af : Array Edge} (h : QF P ro n F w0 M k ops Hq (⟨some d, .binOp o t x y t', ty, pos, af, none⟩ :: rest) e H) : QF P ro n F w0 M k ops Hq (⟨some d, .binOp o t x y t', ty, pos, af, none⟩ :: rest) e H := h
theorem is_fload {d t : Nat} {x : Operand} {ty : TypeId} {pos : String} {af : Array Edge} (h : QF P ro n F w0 M k ops Hq (⟨some d, .load t x, ty, pos, af, none⟩ :: rest) e H) : QF P ro n F w0 M k ops Hq (⟨some d, .load t x, ty, pos, af, none⟩ :: rest) e H := h

/-! Pure operations -/
theorem ql_pure (hT : T.Ok P) {t : Nat} {v : Value} {op : Op} {ty : TypeId} {pos : String} {af : Array Edge} (hv : evp T e op = some v) (ht : Nat.blt t n = true)
    (h : QL P ro n F w0 M k ops rest ((t, v) :: e) H) : QL P ro n F w0 M k ops (⟨some t, op, ty, pos, af, none⟩ :: rest) e H := .mk fun w hs => yl_pure hT hv ht (h w hs)
theorem qf_pure (hT : T.Ok P) {t : Nat} {v : Value} {op : Op} {ty : TypeId} {pos : String} {af : Array Edge} (hv : evp T e op = some v) (he : eff op = false) (ht : Nat.blt t n = true)
    (h : QF P ro n F w0 M k ops Hq rest ((t, v) :: e) H) : QF P ro n F w0 M k ops Hq (⟨some t, op, ty, pos, af, none⟩ :: rest) e H := .mk fun w hs => yf_pure hT hv he ht (h w hs)

theorem evp_arith {o : BinOp} {t t' : Nat} {x y : Operand} {a b : Int} (hx : opv e x = some (.int .i64 a)) (hy : opv e y = some (.int .i64 b)) : evp T e (.binOp o t x y t') = binV o .i64 a b := by
  simp [evp, hx, hy, kindEq]

theorem ql_ext (hT : T.Ok P) {t i : Nat} {x : Operand} {vs : Array Value} {v : Value} {ty : TypeId} {pos : String} {af : Array Edge} (hx : opv e x = some (.tuple vs)) (hv : vs.toList[i]? = some v) (ht : Nat.blt t n = true)
    (h : QL P ro n F w0 M k ops rest ((t, v) :: e) H) : QL P ro n F w0 M k ops (⟨some t, .extract x i, ty, pos, af, none⟩ :: rest) e H := ql_pure hT (by simp only [evp, hx]; simpa using hv) ht h
theorem qf_ext (hT : T.Ok P) {t i : Nat} {x : Operand} {vs : Array Value} {v : Value} {ty : TypeId} {pos : String} {af : Array Edge} (hx : opv e x = some (.tuple vs)) (hv : vs.toList[i]? = some v) (ht : Nat.blt t n = true)
    (h : QF P ro n F w0 M k ops Hq rest ((t, v) :: e) H) : QF P ro n F w0 M k ops Hq (⟨some t, .extract x i, ty, pos, af, none⟩ :: rest) e H := qf_pure hT (by simp only [evp, hx]; simpa using hv) rfl ht h
theorem is_qext {t i : Nat} {x : Operand} {ty : TypeId} {pos : String} {af : Array Edge} (h : QL P ro n F w0 M k ops (⟨some t, .extract x i, ty, pos, af, none⟩ :: rest) e H) : QL P ro n F w0 M k ops (⟨some t, .extract x i, ty, pos, af, none⟩ :: rest) e H := h
theorem is_fext {t i : Nat} {x : Operand} {ty : TypeId} {pos : String} {af : Array Edge} (h : QF P ro n F w0 M k ops Hq (⟨some t, .extract x i, ty, pos, af, none⟩ :: rest) e H) : QF P ro n F w0 M k ops Hq (⟨some t, .extract x i, ty, pos, af, none⟩ :: rest) e H := h

/-- The sum, difference or product that does not wrap. -/
def arV : BinOp → Int → Int → Option Int
  | .add, a, b => some (a + b)
  | .sub, a, b => some (a - b)
  | .mul, a, b => some (a * b)
  | _, _, _ => none

theorem arV_bin {o : BinOp} {a b c : Int} (h : arV o a b = some c) (h1 : -9223372036854775808 ≤ c) (h2 : c < 9223372036854775808) : binV o .i64 a b = some (.int .i64 c) := by
  cases o <;> simp [arV] at h <;> subst h <;> simp [binV, w64 h1 h2]

theorem ql_ar (hT : T.Ok P) {d : Nat} {o : BinOp} {t t' : Nat} {x y : Operand} {a b c : Int} {ty : TypeId} {pos : String} {af : Array Edge} (hx : opv e x = some (.int .i64 a)) (hy : opv e y = some (.int .i64 b)) (hc : arV o a b = some c) (hd : Nat.blt d n = true)
    (h1 : -9223372036854775808 ≤ c) (h2 : c < 9223372036854775808) (h : QL P ro n F w0 M k ops rest ((d, .int .i64 c) :: e) H) : QL P ro n F w0 M k ops (⟨some d, .binOp o t x y t', ty, pos, af, none⟩ :: rest) e H :=
  ql_pure hT ((evp_arith hx hy).trans (arV_bin hc h1 h2)) hd h
theorem qf_ar (hT : T.Ok P) {d : Nat} {o : BinOp} {t t' : Nat} {x y : Operand} {a b c : Int} {ty : TypeId} {pos : String} {af : Array Edge} (hx : opv e x = some (.int .i64 a)) (hy : opv e y = some (.int .i64 b)) (hc : arV o a b = some c) (hd : Nat.blt d n = true)
    (h1 : -9223372036854775808 ≤ c) (h2 : c < 9223372036854775808) (h : QF P ro n F w0 M k ops Hq rest ((d, .int .i64 c) :: e) H) : QF P ro n F w0 M k ops Hq (⟨some d, .binOp o t x y t', ty, pos, af, none⟩ :: rest) e H :=
  qf_pure hT ((evp_arith hx hy).trans (arV_bin hc h1 h2)) rfl hd h

theorem evp_neg {t : Nat} {x : Operand} {a : Int} (hx : opv e x = some (.int .i64 a)) (h1 : -9223372036854775808 ≤ -a) (h2 : -a < 9223372036854775808) : evp T e (.unOp .neg t x) = some (.int .i64 (-a)) := by
  simp [evp, hx]
  rw [w64 (by omega) (by omega)]
theorem ql_neg (hT : T.Ok P) {d t : Nat} {x : Operand} {a : Int} {ty : TypeId} {pos : String} {af : Array Edge} (hx : opv e x = some (.int .i64 a)) (hd : Nat.blt d n = true) (h1 : -9223372036854775808 ≤ -a) (h2 : -a < 9223372036854775808)
    (h : QL P ro n F w0 M k ops rest ((d, .int .i64 (-a)) :: e) H) : QL P ro n F w0 M k ops (⟨some d, .unOp .neg t x, ty, pos, af, none⟩ :: rest) e H := ql_pure hT (evp_neg hx h1 h2) hd h
theorem qf_neg (hT : T.Ok P) {d t : Nat} {x : Operand} {a : Int} {ty : TypeId} {pos : String} {af : Array Edge} (hx : opv e x = some (.int .i64 a)) (hd : Nat.blt d n = true) (h1 : -9223372036854775808 ≤ -a) (h2 : -a < 9223372036854775808)
    (h : QF P ro n F w0 M k ops Hq rest ((d, .int .i64 (-a)) :: e) H) : QF P ro n F w0 M k ops Hq (⟨some d, .unOp .neg t x, ty, pos, af, none⟩ :: rest) e H := qf_pure hT (evp_neg hx h1 h2) rfl hd h
theorem is_qneg {d t : Nat} {x : Operand} {ty : TypeId} {pos : String} {af : Array Edge} (h : QL P ro n F w0 M k ops (⟨some d, .unOp .neg t x, ty, pos, af, none⟩ :: rest) e H) : QL P ro n F w0 M k ops (⟨some d, .unOp .neg t x, ty, pos, af, none⟩ :: rest) e H := h
theorem is_fneg {d t : Nat} {x : Operand} {ty : TypeId} {pos : String} {af : Array Edge} (h : QF P ro n F w0 M k ops Hq (⟨some d, .unOp .neg t x, ty, pos, af, none⟩ :: rest) e H) : QF P ro n F w0 M k ops Hq (⟨some d, .unOp .neg t x, ty, pos, af, none⟩ :: rest) e H := h

/-! Guards -/
theorem ql_gyes {dst : Option Nat} {op : Op} {ty : TypeId} {pos : String} {af : Array Edge} {j : Nat} {b : Bool} (hg : guardV ops e j = some b)
    (h : QL P ro n F w0 M k ops (⟨dst, op, ty, pos, af, none⟩ :: rest) e H) : QL P ro n F w0 M k ops (⟨dst, op, ty, pos, af, some (j, b)⟩ :: rest) e H := .mk fun w hs => yl_guard_yes hg (h w hs)
theorem ql_gno {t : Nat} {op : Op} {ty : TypeId} {pos : String} {af : Array Edge} {j : Nat} {b c : Bool} (hg : guardV ops e j = some c) (hne : (c == b) = false) (ht : Nat.blt t n = true)
    (h : QL P ro n F w0 M k ops rest ((t, undef) :: e) H) : QL P ro n F w0 M k ops (⟨some t, op, ty, pos, af, some (j, b)⟩ :: rest) e H := .mk fun w hs => yl_guard_no hg hne ht (h w hs)
theorem ql_gno0 {op : Op} {ty : TypeId} {pos : String} {af : Array Edge} {j : Nat} {b c : Bool} (hg : guardV ops e j = some c) (hne : (c == b) = false)
    (h : QL P ro n F w0 M k ops rest e H) : QL P ro n F w0 M k ops (⟨none, op, ty, pos, af, some (j, b)⟩ :: rest) e H := .mk fun w hs a hf hd => by
  have hy := guardV_yielded hf hg
  have hw : (some c == some b) = false := by simpa using hne
  simp only [wpListIn, Region.wanted, hy, hw]
  exact ⟨fun f _ => fr_fn f, by simpa [Act.put] using h w hs a hf hd⟩
theorem qf_gyes {dst : Option Nat} {op : Op} {ty : TypeId} {pos : String} {af : Array Edge} {j : Nat} {b : Bool} (hg : guardV ops e j = some b)
    (h : QF P ro n F w0 M k ops Hq (⟨dst, op, ty, pos, af, none⟩ :: rest) e H) : QF P ro n F w0 M k ops Hq (⟨dst, op, ty, pos, af, some (j, b)⟩ :: rest) e H := .mk fun w hs => yf_guard_yes hg (h w hs)
theorem qf_gno {t : Nat} {op : Op} {ty : TypeId} {pos : String} {af : Array Edge} {j : Nat} {b c : Bool} (hg : guardV ops e j = some c) (hne : (c == b) = false) (ht : Nat.blt t n = true)
    (h : QF P ro n F w0 M k ops Hq rest ((t, undef) :: e) H) : QF P ro n F w0 M k ops Hq (⟨some t, op, ty, pos, af, some (j, b)⟩ :: rest) e H := .mk fun w hs => yf_guard_no hg hne ht (h w hs)
/-- The operation that guards has been left out, too. -/
def guardN (ops : Array Oper) (e : Env) (j : Nat) : Bool :=
  match (ops[j]?).bind (·.dst) with
  | some t => (match look e t with | some (.bool _) => false | some _ => true | none => false)
  | none => false
theorem guardN_yielded {ops : Array Oper} {a : Act} (hf : Fits n e a) {j : Nat} (h : guardN ops e j = true) : yielded ops a.tmps j = none := by
  simp only [guardN] at h
  cases hd : (ops[j]?).bind (·.dst) with
  | none => simp [hd] at h
  | some t =>
    simp only [hd] at h
    cases hl : look e t with
    | none => simp [hl] at h
    | some v =>
      have h1 := hf.at_ t v hl
      simp only [yielded, hd, Option.bind_some]
      simp only [Array.getD_eq_getD_getElem?] at h1
      cases hc : a.tmps[t]? with
      | none => simp
      | some u =>
        simp [hc] at h1
        subst h1
        cases u <;> first | (simp [hl] at h; done) | simp
theorem ql_gnone {t : Nat} {op : Op} {ty : TypeId} {pos : String} {af : Array Edge} {j : Nat} {b : Bool} (hg : guardN ops e j = true) (ht : Nat.blt t n = true)
    (h : QL P ro n F w0 M k ops rest ((t, undef) :: e) H) : QL P ro n F w0 M k ops (⟨some t, op, ty, pos, af, some (j, b)⟩ :: rest) e H := .mk fun w hs a hf hd => by
  have hy := guardN_yielded hf hg
  have hw : ((none : Option Bool) == some b) = false := by cases b <;> rfl
  simp only [wpListIn, Region.wanted, hy, hw]
  exact ⟨fun f _ => fr_fn f, h w hs _ (hf.put undef ht) (by simpa [Act.put] using hd)⟩
theorem qf_gnone {t : Nat} {op : Op} {ty : TypeId} {pos : String} {af : Array Edge} {j : Nat} {b : Bool} (hg : guardN ops e j = true) (ht : Nat.blt t n = true)
    (h : QF P ro n F w0 M k ops Hq rest ((t, undef) :: e) H) : QF P ro n F w0 M k ops Hq (⟨some t, op, ty, pos, af, some (j, b)⟩ :: rest) e H := .mk fun w hs a hf hd => by
  have hy := guardN_yielded hf hg
  have hw : ((none : Option Bool) == some b) = false := by cases b <;> rfl
  simp only [wpFlL, Region.wanted, hy, hw]
  exact h w hs _ (hf.put undef ht) (by simpa [Act.put] using hd)
theorem ql_split {dst : Option Nat} {op : Op} {ty : TypeId} {pos : String} {af : Array Edge} {j t : Nat} {b c : Bool} (hg : guardT ops j = some t) (hl : look e t = some (.bool b))
    (hy : b = true → QL P ro n F w0 M k ops (⟨dst, op, ty, pos, af, some (j, c)⟩ :: rest) ((t, .bool true) :: e) H) (hn : b = false → QL P ro n F w0 M k ops (⟨dst, op, ty, pos, af, some (j, c)⟩ :: rest) ((t, .bool false) :: e) H) :
    QL P ro n F w0 M k ops (⟨dst, op, ty, pos, af, some (j, c)⟩ :: rest) e H := .mk fun w hs => yl_split hg hl (fun h => hy h w hs) (fun h => hn h w hs)
theorem qf_split {dst : Option Nat} {op : Op} {ty : TypeId} {pos : String} {af : Array Edge} {j t : Nat} {b c : Bool} (hg : guardT ops j = some t) (hl : look e t = some (.bool b))
    (hy : b = true → QF P ro n F w0 M k ops Hq (⟨dst, op, ty, pos, af, some (j, c)⟩ :: rest) ((t, .bool true) :: e) H) (hn : b = false → QF P ro n F w0 M k ops Hq (⟨dst, op, ty, pos, af, some (j, c)⟩ :: rest) ((t, .bool false) :: e) H) :
    QF P ro n F w0 M k ops Hq (⟨dst, op, ty, pos, af, some (j, c)⟩ :: rest) e H := .mk fun w hs => yf_split hg hl (fun h => hy h w hs) (fun h => hn h w hs)

/-! Loads -/
theorem ql_load1 (hT : T.Ok P) {d t : Nat} {x : Operand} {ad : Addr} {v : Value} {ty : TypeId} {pos : String} {af : Array Edge}
    (hx : opv e x = some (.pointer (some ad))) (h1 : has T.one t = true) (hd : Nat.blt d n = true) (hc : ∀ w, Sat w0 M H w → w.cell? ad = some v)
    (h : QL P ro n F w0 M k ops rest ((d, v) :: e) H) : QL P ro n F w0 M k ops (⟨some d, .load t x, ty, pos, af, none⟩ :: rest) e H := .mk fun w hs => yl_load1 hT hx h1 hd (hc w hs) (h w hs)
theorem ql_loadA (hT : T.Ok P) {d t m : Nat} {x : Operand} {b off : Nat} {cs : List Value} {ty : TypeId} {pos : String} {af : Array Edge}
    (hx : opv e x = some (.pointer (some ⟨b, off, none⟩))) (h1 : find1 T.agg t = some m) (hd : Nat.blt d n = true) (hl : cs.length = m) (hc : ∀ w, Sat w0 M H w → ∀ j, j < m → w.cell? ⟨b, off + j, none⟩ = cs[j]?)
    (h : QL P ro n F w0 M k ops rest ((d, .agg cs.toArray) :: e) H) : QL P ro n F w0 M k ops (⟨some d, .load t x, ty, pos, af, none⟩ :: rest) e H := .mk fun w hs => yl_loadA hT hx h1 hd hl (hc w hs) (h w hs)
theorem qf_load1 (hT : T.Ok P) {d t : Nat} {x : Operand} {ad : Addr} {v : Value} {ty : TypeId} {pos : String} {af : Array Edge}
    (hx : opv e x = some (.pointer (some ad))) (h1 : has T.one t = true) (hd : Nat.blt d n = true) (hc : ∀ w, Sat w0 M Hq w → w.cell? ad = some v)
    (h : QF P ro n F w0 M k ops Hq rest ((d, v) :: e) H) : QF P ro n F w0 M k ops Hq (⟨some d, .load t x, ty, pos, af, none⟩ :: rest) e H := .mk fun w hs => yf_load1 hT hx h1 hd hc (h w hs)
theorem qf_loadA (hT : T.Ok P) {d t m : Nat} {x : Operand} {b off : Nat} {cs : List Value} {ty : TypeId} {pos : String} {af : Array Edge}
    (hx : opv e x = some (.pointer (some ⟨b, off, none⟩))) (h1 : find1 T.agg t = some m) (hd : Nat.blt d n = true) (hl : cs.length = m) (hc : ∀ w, Sat w0 M Hq w → ∀ j, j < m → w.cell? ⟨b, off + j, none⟩ = cs[j]?)
    (h : QF P ro n F w0 M k ops Hq rest ((d, .agg cs.toArray) :: e) H) : QF P ro n F w0 M k ops Hq (⟨some d, .load t x, ty, pos, af, none⟩ :: rest) e H := .mk fun w hs => yf_loadA hT hx h1 hd hl hc (h w hs)
theorem ql_loadB (hT : T.Ok P) {d t : Nat} {x : Operand} {b i : Nat} {cs : List Value} {bt : TypeId} {v : Value} {ty : TypeId} {pos : String} {af : Array Edge}
    (hx : opv e x = some (.pointer (some ⟨b, i, none⟩))) (h1 : has T.one t = true) (hd : Nat.blt d n = true) (hb : Ck.pt b cs bt ∈ H) (hv : cs[i]? = some v)
    (h : QL P ro n F w0 M k ops rest ((d, v) :: e) H) : QL P ro n F w0 M k ops (⟨some d, .load t x, ty, pos, af, none⟩ :: rest) e H := ql_load1 hT hx h1 hd (fun _ hs => (Blk.cell (hs.mem hb) i).trans hv) h
theorem ql_loadAB (hT : T.Ok P) {d t m : Nat} {x : Operand} {b i : Nat} {cs us : List Value} {bt : TypeId} {ty : TypeId} {pos : String} {af : Array Edge}
    (hx : opv e x = some (.pointer (some ⟨b, i, none⟩))) (h1 : find1 T.agg t = some m) (hd : Nat.blt d n = true) (hb : Ck.pt b cs bt ∈ H) (hu : (cs.drop i).take m = us) (hl : us.length = m)
    (h : QL P ro n F w0 M k ops rest ((d, .agg us.toArray) :: e) H) : QL P ro n F w0 M k ops (⟨some d, .load t x, ty, pos, af, none⟩ :: rest) e H :=
  ql_loadA hT hx h1 hd hl (fun _ hs j hj => by rw [Blk.cell (hs.mem hb), ← hu, List.getElem?_take, if_pos hj, List.getElem?_drop]) h
theorem qf_loadB (hT : T.Ok P) {d t : Nat} {x : Operand} {b i : Nat} {cs : List Value} {bt : TypeId} {v : Value} {ty : TypeId} {pos : String} {af : Array Edge}
    (hx : opv e x = some (.pointer (some ⟨b, i, none⟩))) (h1 : has T.one t = true) (hd : Nat.blt d n = true) (hb : Ck.pt b cs bt ∈ Hq) (hv : cs[i]? = some v)
    (h : QF P ro n F w0 M k ops Hq rest ((d, v) :: e) H) : QF P ro n F w0 M k ops Hq (⟨some d, .load t x, ty, pos, af, none⟩ :: rest) e H := qf_load1 hT hx h1 hd (fun _ hs => (Blk.cell (hs.mem hb) i).trans hv) h
theorem qf_loadAB (hT : T.Ok P) {d t m : Nat} {x : Operand} {b i : Nat} {cs us : List Value} {bt : TypeId} {ty : TypeId} {pos : String} {af : Array Edge}
    (hx : opv e x = some (.pointer (some ⟨b, i, none⟩))) (h1 : find1 T.agg t = some m) (hd : Nat.blt d n = true) (hb : Ck.pt b cs bt ∈ Hq) (hu : (cs.drop i).take m = us) (hl : us.length = m)
    (h : QF P ro n F w0 M k ops Hq rest ((d, .agg us.toArray) :: e) H) : QF P ro n F w0 M k ops Hq (⟨some d, .load t x, ty, pos, af, none⟩ :: rest) e H :=
  qf_loadA hT hx h1 hd hl (fun _ hs j hj => by rw [Blk.cell (hs.mem hb), ← hu, List.getElem?_take, if_pos hj, List.getElem?_drop]) h

/-! Loads out of blocks that lay there before -/
theorem ql_loadP (hT : T.Ok P) {d t : Nat} {x : Operand} {b i : Nat} {cs : List Value} {bt : TypeId} {v : Value} {ty : TypeId} {pos : String} {af : Array Edge}
    (hx : opv e x = some (.pointer (some ⟨b, i, none⟩))) (h1 : has T.one t = true) (hd : Nat.blt d n = true) (hb : Blk w0 b cs bt) (hv : cs[i]? = some v)
    (h : QL P ro n F w0 M0 k ops rest ((d, v) :: e) H) : QL P ro n F w0 M0 k ops (⟨some d, .load t x, ty, pos, af, none⟩ :: rest) e H := ql_load1 hT hx h1 hd (fun _ hs => ((hb.keep hs.chg0).cell i).trans hv) h
theorem ql_loadPA (hT : T.Ok P) {d t m : Nat} {x : Operand} {b i : Nat} {cs us : List Value} {bt : TypeId} {ty : TypeId} {pos : String} {af : Array Edge}
    (hx : opv e x = some (.pointer (some ⟨b, i, none⟩))) (h1 : find1 T.agg t = some m) (hd : Nat.blt d n = true) (hb : Blk w0 b cs bt) (hu : (cs.drop i).take m = us) (hl : us.length = m)
    (h : QL P ro n F w0 M0 k ops rest ((d, .agg us.toArray) :: e) H) : QL P ro n F w0 M0 k ops (⟨some d, .load t x, ty, pos, af, none⟩ :: rest) e H :=
  ql_loadA hT hx h1 hd hl (fun _ hs j hj => by rw [(hb.keep hs.chg0).cell, ← hu, List.getElem?_take, if_pos hj, List.getElem?_drop]) h
theorem qf_loadP (hT : T.Ok P) {d t : Nat} {x : Operand} {b i : Nat} {cs : List Value} {bt : TypeId} {v : Value} {ty : TypeId} {pos : String} {af : Array Edge}
    (hx : opv e x = some (.pointer (some ⟨b, i, none⟩))) (h1 : has T.one t = true) (hd : Nat.blt d n = true) (hb : Blk w0 b cs bt) (hv : cs[i]? = some v)
    (h : QF P ro n F w0 M0 k ops Hq rest ((d, v) :: e) H) : QF P ro n F w0 M0 k ops Hq (⟨some d, .load t x, ty, pos, af, none⟩ :: rest) e H := qf_load1 hT hx h1 hd (fun _ hs => ((hb.keep hs.chg0).cell i).trans hv) h
theorem qf_loadPA (hT : T.Ok P) {d t m : Nat} {x : Operand} {b i : Nat} {cs us : List Value} {bt : TypeId} {ty : TypeId} {pos : String} {af : Array Edge}
    (hx : opv e x = some (.pointer (some ⟨b, i, none⟩))) (h1 : find1 T.agg t = some m) (hd : Nat.blt d n = true) (hb : Blk w0 b cs bt) (hu : (cs.drop i).take m = us) (hl : us.length = m)
    (h : QF P ro n F w0 M0 k ops Hq rest ((d, .agg us.toArray) :: e) H) : QF P ro n F w0 M0 k ops Hq (⟨some d, .load t x, ty, pos, af, none⟩ :: rest) e H :=
  qf_loadA hT hx h1 hd hl (fun _ hs j hj => by rw [(hb.keep hs.chg0).cell, ← hu, List.getElem?_take, if_pos hj, List.getElem?_drop]) h

theorem ql_loadG (hT : T.Ok P) {d t : Nat} {x : Operand} {b i : Nat} {cs : List Value} {bt : TypeId} {v : Value} {ty : TypeId} {pos : String} {af : Array Edge}
    (hx : opv e x = some (.pointer (some ⟨b, i, none⟩))) (h1 : has T.one t = true) (hd : Nat.blt d n = true) (hb : ∀ w', ChgP M w0 w' → Blk w' b cs bt) (hv : cs[i]? = some v)
    (h : QL P ro n F w0 M k ops rest ((d, v) :: e) H) : QL P ro n F w0 M k ops (⟨some d, .load t x, ty, pos, af, none⟩ :: rest) e H := ql_load1 hT hx h1 hd (fun w hs => ((hb w hs.chg).cell i).trans hv) h
theorem qf_loadG (hT : T.Ok P) {d t : Nat} {x : Operand} {b i : Nat} {cs : List Value} {bt : TypeId} {v : Value} {ty : TypeId} {pos : String} {af : Array Edge}
    (hx : opv e x = some (.pointer (some ⟨b, i, none⟩))) (h1 : has T.one t = true) (hd : Nat.blt d n = true) (hb : ∀ w', ChgP M w0 w' → Blk w' b cs bt) (hv : cs[i]? = some v)
    (h : QF P ro n F w0 M k ops Hq rest ((d, v) :: e) H) : QF P ro n F w0 M k ops Hq (⟨some d, .load t x, ty, pos, af, none⟩ :: rest) e H := qf_load1 hT hx h1 hd (fun w hs => ((hb w hs.chg).cell i).trans hv) h
theorem ql_loadGA (hT : T.Ok P) {d t m : Nat} {x : Operand} {b i : Nat} {cs us : List Value} {bt : TypeId} {ty : TypeId} {pos : String} {af : Array Edge}
    (hx : opv e x = some (.pointer (some ⟨b, i, none⟩))) (h1 : find1 T.agg t = some m) (hd : Nat.blt d n = true) (hb : ∀ w', ChgP M w0 w' → Blk w' b cs bt) (hu : (cs.drop i).take m = us) (hl : us.length = m)
    (h : QL P ro n F w0 M k ops rest ((d, .agg us.toArray) :: e) H) : QL P ro n F w0 M k ops (⟨some d, .load t x, ty, pos, af, none⟩ :: rest) e H :=
  ql_loadA hT hx h1 hd hl (fun w hs j hj => by rw [(hb w hs.chg).cell, ← hu, List.getElem?_take, if_pos hj, List.getElem?_drop]) h
theorem qf_loadGA (hT : T.Ok P) {d t m : Nat} {x : Operand} {b i : Nat} {cs us : List Value} {bt : TypeId} {ty : TypeId} {pos : String} {af : Array Edge}
    (hx : opv e x = some (.pointer (some ⟨b, i, none⟩))) (h1 : find1 T.agg t = some m) (hd : Nat.blt d n = true) (hb : ∀ w', ChgP M w0 w' → Blk w' b cs bt) (hu : (cs.drop i).take m = us) (hl : us.length = m)
    (h : QF P ro n F w0 M k ops Hq rest ((d, .agg us.toArray) :: e) H) : QF P ro n F w0 M k ops Hq (⟨some d, .load t x, ty, pos, af, none⟩ :: rest) e H :=
  qf_loadA hT hx h1 hd hl (fun w hs j hj => by rw [(hb w hs.chg).cell, ← hu, List.getElem?_take, if_pos hj, List.getElem?_drop]) h

/-! New variables -/
/-- The zero value of a type. -/
structure ZeroOf (P : Program) (t : TypeId) (z : Value) : Prop where
  h : (P.info? t).bind (·.zero) = some z
theorem pt_new {w w' : World} {cs : List Value} {t : TypeId} (hz : w'.heap.size = w.heap.size + 1) : ∀ b, (Ck.pt w.heap.size cs t).D b → w.heap.size ≤ b ∧ b < w'.heap.size := by
  intro b hb
  simp only [Ck.D] at hb
  omega
theorem Sat.addPt {w w' : World} {cs : List Value} {t : TypeId} (h : Sat w0 M H w) (c : Chg [] w w') (hz : w'.heap.size = w.heap.size + 1) (hb : Blk w' w.heap.size cs t) : Sat w0 M (.pt w.heap.size cs t :: H) w' :=
  h.add (x := .pt w.heap.size cs t) c hb (pt_new hz)
theorem ql_box {d t : Nat} {x : Operand} {v : Value} {ty : TypeId} {pos : String} {af : Array Edge} (hx : opv e x = some v) (hd : Nat.blt d n = true)
    (h : ∀ b, QL P ro n F w0 M k ops rest ((d, .pointer (some ⟨b, 0, none⟩)) :: e) (.pt b v.cells.toList t :: H)) : QL P ro n F w0 M k ops (⟨some d, .box t x, ty, pos, af, none⟩ :: rest) e H :=
  .mk fun _ hs => yl_box hx hd (fun w' hc hz hb => h _ w' (hs.addPt hc hz hb))
theorem ql_alloc {d t : Nat} {z : Value} {ty : TypeId} {pos : String} {af : Array Edge} (hz : ZeroOf P t z) (hd : Nat.blt d n = true)
    (h : ∀ b, QL P ro n F w0 M k ops rest ((d, .pointer (some ⟨b, 0, none⟩)) :: e) (.pt b z.cells.toList t :: H)) : QL P ro n F w0 M k ops (⟨some d, .alloc t, ty, pos, af, none⟩ :: rest) e H :=
  .mk fun _ hs => yl_alloc hz.h hd (fun w' hc hz hb => h _ w' (hs.addPt hc hz hb))
theorem qf_box {d t : Nat} {x : Operand} {v : Value} {ty : TypeId} {pos : String} {af : Array Edge} (hx : opv e x = some v) (hd : Nat.blt d n = true)
    (h : ∀ b, QF P ro n F w0 M k ops Hq rest ((d, .pointer (some ⟨b, 0, none⟩)) :: e) (.pt b v.cells.toList t :: H)) : QF P ro n F w0 M k ops Hq (⟨some d, .box t x, ty, pos, af, none⟩ :: rest) e H :=
  .mk fun _ hs => yf_box hx hd (fun w' hc hz hb => have hs' := hs.addPt hc hz hb; ⟨(hs'.tail).right, h _ w' hs'⟩)
theorem qf_alloc {d t : Nat} {z : Value} {ty : TypeId} {pos : String} {af : Array Edge} (hz : ZeroOf P t z) (hd : Nat.blt d n = true)
    (h : ∀ b, QF P ro n F w0 M k ops Hq rest ((d, .pointer (some ⟨b, 0, none⟩)) :: e) (.pt b z.cells.toList t :: H)) : QF P ro n F w0 M k ops Hq (⟨some d, .alloc t, ty, pos, af, none⟩ :: rest) e H :=
  .mk fun _ hs => yf_alloc hz.h hd (fun w' hc hz hb => have hs' := hs.addPt hc hz hb; ⟨(hs'.tail).right, h _ w' hs'⟩)

/-! Stores -/
theorem Sat.pt {w w' : World} {b : Nat} {cs cs' : List Value} {t : TypeId} {H' : List Ck} (hs : Sat w0 M H w) (hr : Rp H (.pt b cs t) (.pt b cs' t) H') (hc : Chg [b] w w') (hb : Blk w' b cs' t) : Sat w0 M H' w' :=
  hs.rep hr hc (fun k hk => by simpa [Ck.D] using hk) hb (fun x hx => ⟨.inl hx, by simp only [Ck.D] at hx; subst hx; exact Blk.lt hb⟩)
theorem ql_store1 (hT : T.Ok P) {t : Nat} {x y : Operand} {b i : Nat} {cs : List Value} {bt : TypeId} {v : Value} {H' : List Ck} {ty : TypeId} {pos : String} {af : Array Edge}
    (hx : opv e x = some (.pointer (some ⟨b, i, none⟩))) (hy : opv e y = some v) (h1 : has T.one t = true) (hv : oneV v = true) (hr : Rp H (.pt b cs bt) (.pt b (cs.set i v) bt) H') (hi : i < cs.length)
    (h : QL P ro n F w0 M k ops rest e H') : QL P ro n F w0 M k ops (⟨none, .store t x y, ty, pos, af, none⟩ :: rest) e H :=
  .mk fun _ hs => yl_store1 hT hx hy h1 hv (hs.mem hr.mem) hi (fun w' hc _ hb => h w' (hs.pt hr hc hb))
theorem ql_storeA (hT : T.Ok P) {t m : Nat} {x y : Operand} {b off : Nat} {cs us : List Value} {bt : TypeId} {H' : List Ck} {ty : TypeId} {pos : String} {af : Array Edge}
    (hx : opv e x = some (.pointer (some ⟨b, off, none⟩))) (hy : opv e y = some (.agg us.toArray)) (h1 : find1 T.agg t = some m) (hm : us.length = m) (h1v : ∀ u ∈ us, oneV u = true) (hr : Rp H (.pt b cs bt) (.pt b (setL cs off us) bt) H') (hl : off + m ≤ cs.length)
    (h : QL P ro n F w0 M k ops rest e H') : QL P ro n F w0 M k ops (⟨none, .store t x y, ty, pos, af, none⟩ :: rest) e H :=
  .mk fun _ hs => yl_storeA hT hx hy h1 hm h1v (hs.mem hr.mem) hl (fun w' hc _ hb => h w' (hs.pt hr hc hb))
theorem qf_store1 (hT : T.Ok P) {t : Nat} {x y : Operand} {b i : Nat} {cs : List Value} {bt : TypeId} {v : Value} {H' : List Ck} {ty : TypeId} {pos : String} {af : Array Edge}
    (hx : opv e x = some (.pointer (some ⟨b, i, none⟩))) (hy : opv e y = some v) (h1 : has T.one t = true) (hv : oneV v = true) (hr : Rp H (.pt b cs bt) (.pt b (cs.set i v) bt) H') (hi : i < cs.length)
    (h : QF P ro n F w0 M k ops Hq rest e H') : QF P ro n F w0 M k ops Hq (⟨none, .store t x y, ty, pos, af, none⟩ :: rest) e H :=
  .mk fun _ hs => yf_store1 hT hx hy h1 hv (hs.mem (hr.app Hq).mem) hi (fun w' hc _ hb => have hs' := hs.pt (hr.app Hq) hc hb; ⟨hs'.right, h w' hs'⟩)
theorem qf_storeA (hT : T.Ok P) {t m : Nat} {x y : Operand} {b off : Nat} {cs us : List Value} {bt : TypeId} {H' : List Ck} {ty : TypeId} {pos : String} {af : Array Edge}
    (hx : opv e x = some (.pointer (some ⟨b, off, none⟩))) (hy : opv e y = some (.agg us.toArray)) (h1 : find1 T.agg t = some m) (hm : us.length = m) (h1v : ∀ u ∈ us, oneV u = true) (hr : Rp H (.pt b cs bt) (.pt b (setL cs off us) bt) H') (hl : off + m ≤ cs.length)
    (h : QF P ro n F w0 M k ops Hq rest e H') : QF P ro n F w0 M k ops Hq (⟨none, .store t x y, ty, pos, af, none⟩ :: rest) e H :=
  .mk fun _ hs => yf_storeA hT hx hy h1 hm h1v (hs.mem (hr.app Hq).mem) hl (fun w' hc _ hb => have hs' := hs.pt (hr.app Hq) hc hb; ⟨hs'.right, h w' hs'⟩)
/-- A variable of one cell. -/
theorem ql_set (hT : T.Ok P) {t : Nat} {x y : Operand} {b : Nat} {u : Value} {bt : TypeId} {v : Value} {H' : List Ck} {ty : TypeId} {pos : String} {af : Array Edge}
    (hx : opv e x = some (.pointer (some ⟨b, 0, none⟩))) (hy : opv e y = some v) (h1 : has T.one t = true) (hv : oneV v = true) (hr : Rp H (.pt b [u] bt) (.pt b [v] bt) H')
    (h : QL P ro n F w0 M k ops rest e H') : QL P ro n F w0 M k ops (⟨none, .store t x y, ty, pos, af, none⟩ :: rest) e H := ql_store1 hT hx hy h1 hv hr (by simp) h
theorem qf_set (hT : T.Ok P) {t : Nat} {x y : Operand} {b : Nat} {u : Value} {bt : TypeId} {v : Value} {H' : List Ck} {ty : TypeId} {pos : String} {af : Array Edge}
    (hx : opv e x = some (.pointer (some ⟨b, 0, none⟩))) (hy : opv e y = some v) (h1 : has T.one t = true) (hv : oneV v = true) (hr : Rp H (.pt b [u] bt) (.pt b [v] bt) H')
    (h : QF P ro n F w0 M k ops Hq rest e H') : QF P ro n F w0 M k ops Hq (⟨none, .store t x y, ty, pos, af, none⟩ :: rest) e H := qf_store1 hT hx hy h1 hv hr (by simp) h
theorem ql_st0 (hT : T.Ok P) {t : Nat} {x y : Operand} {b : Nat} {u0 : Value} {us : List Value} {bt : TypeId} {v : Value} {H' : List Ck} {ty : TypeId} {pos : String} {af : Array Edge}
    (hx : opv e x = some (.pointer (some ⟨b, 0, none⟩))) (hy : opv e y = some v) (h1 : has T.one t = true) (hv : oneV v = true) (hr : Rp H (.pt b (u0 :: us) bt) (.pt b (v :: us) bt) H')
    (h : QL P ro n F w0 M k ops rest e H') : QL P ro n F w0 M k ops (⟨none, .store t x y, ty, pos, af, none⟩ :: rest) e H := ql_store1 hT hx hy h1 hv hr (by simp) h
theorem ql_st1 (hT : T.Ok P) {t : Nat} {x y : Operand} {b : Nat} {u0 u1 : Value} {us : List Value} {bt : TypeId} {v : Value} {H' : List Ck} {ty : TypeId} {pos : String} {af : Array Edge}
    (hx : opv e x = some (.pointer (some ⟨b, 1, none⟩))) (hy : opv e y = some v) (h1 : has T.one t = true) (hv : oneV v = true) (hr : Rp H (.pt b (u0 :: u1 :: us) bt) (.pt b (u0 :: v :: us) bt) H')
    (h : QL P ro n F w0 M k ops rest e H') : QL P ro n F w0 M k ops (⟨none, .store t x y, ty, pos, af, none⟩ :: rest) e H := ql_store1 hT hx hy h1 hv hr (by simp) h
theorem ql_st2 (hT : T.Ok P) {t : Nat} {x y : Operand} {b : Nat} {u0 u1 u2 : Value} {us : List Value} {bt : TypeId} {v : Value} {H' : List Ck} {ty : TypeId} {pos : String} {af : Array Edge}
    (hx : opv e x = some (.pointer (some ⟨b, 2, none⟩))) (hy : opv e y = some v) (h1 : has T.one t = true) (hv : oneV v = true) (hr : Rp H (.pt b (u0 :: u1 :: u2 :: us) bt) (.pt b (u0 :: u1 :: v :: us) bt) H')
    (h : QL P ro n F w0 M k ops rest e H') : QL P ro n F w0 M k ops (⟨none, .store t x y, ty, pos, af, none⟩ :: rest) e H := ql_store1 hT hx hy h1 hv hr (by simp) h
theorem ql_st3 (hT : T.Ok P) {t : Nat} {x y : Operand} {b : Nat} {u0 u1 u2 u3 : Value} {us : List Value} {bt : TypeId} {v : Value} {H' : List Ck} {ty : TypeId} {pos : String} {af : Array Edge}
    (hx : opv e x = some (.pointer (some ⟨b, 3, none⟩))) (hy : opv e y = some v) (h1 : has T.one t = true) (hv : oneV v = true) (hr : Rp H (.pt b (u0 :: u1 :: u2 :: u3 :: us) bt) (.pt b (u0 :: u1 :: u2 :: v :: us) bt) H')
    (h : QL P ro n F w0 M k ops rest e H') : QL P ro n F w0 M k ops (⟨none, .store t x y, ty, pos, af, none⟩ :: rest) e H := ql_store1 hT hx hy h1 hv hr (by simp) h
theorem ql_st4 (hT : T.Ok P) {t : Nat} {x y : Operand} {b : Nat} {u0 u1 u2 u3 u4 : Value} {us : List Value} {bt : TypeId} {v : Value} {H' : List Ck} {ty : TypeId} {pos : String} {af : Array Edge}
    (hx : opv e x = some (.pointer (some ⟨b, 4, none⟩))) (hy : opv e y = some v) (h1 : has T.one t = true) (hv : oneV v = true) (hr : Rp H (.pt b (u0 :: u1 :: u2 :: u3 :: u4 :: us) bt) (.pt b (u0 :: u1 :: u2 :: u3 :: v :: us) bt) H')
    (h : QL P ro n F w0 M k ops rest e H') : QL P ro n F w0 M k ops (⟨none, .store t x y, ty, pos, af, none⟩ :: rest) e H := ql_store1 hT hx hy h1 hv hr (by simp) h
theorem ql_st5 (hT : T.Ok P) {t : Nat} {x y : Operand} {b : Nat} {u0 u1 u2 u3 u4 u5 : Value} {us : List Value} {bt : TypeId} {v : Value} {H' : List Ck} {ty : TypeId} {pos : String} {af : Array Edge}
    (hx : opv e x = some (.pointer (some ⟨b, 5, none⟩))) (hy : opv e y = some v) (h1 : has T.one t = true) (hv : oneV v = true) (hr : Rp H (.pt b (u0 :: u1 :: u2 :: u3 :: u4 :: u5 :: us) bt) (.pt b (u0 :: u1 :: u2 :: u3 :: u4 :: v :: us) bt) H')
    (h : QL P ro n F w0 M k ops rest e H') : QL P ro n F w0 M k ops (⟨none, .store t x y, ty, pos, af, none⟩ :: rest) e H := ql_store1 hT hx hy h1 hv hr (by simp) h
theorem ql_st6 (hT : T.Ok P) {t : Nat} {x y : Operand} {b : Nat} {u0 u1 u2 u3 u4 u5 u6 : Value} {us : List Value} {bt : TypeId} {v : Value} {H' : List Ck} {ty : TypeId} {pos : String} {af : Array Edge}
    (hx : opv e x = some (.pointer (some ⟨b, 6, none⟩))) (hy : opv e y = some v) (h1 : has T.one t = true) (hv : oneV v = true) (hr : Rp H (.pt b (u0 :: u1 :: u2 :: u3 :: u4 :: u5 :: u6 :: us) bt) (.pt b (u0 :: u1 :: u2 :: u3 :: u4 :: u5 :: v :: us) bt) H')
    (h : QL P ro n F w0 M k ops rest e H') : QL P ro n F w0 M k ops (⟨none, .store t x y, ty, pos, af, none⟩ :: rest) e H := ql_store1 hT hx hy h1 hv hr (by simp) h
theorem ql_st7 (hT : T.Ok P) {t : Nat} {x y : Operand} {b : Nat} {u0 u1 u2 u3 u4 u5 u6 u7 : Value} {us : List Value} {bt : TypeId} {v : Value} {H' : List Ck} {ty : TypeId} {pos : String} {af : Array Edge}
    (hx : opv e x = some (.pointer (some ⟨b, 7, none⟩))) (hy : opv e y = some v) (h1 : has T.one t = true) (hv : oneV v = true) (hr : Rp H (.pt b (u0 :: u1 :: u2 :: u3 :: u4 :: u5 :: u6 :: u7 :: us) bt) (.pt b (u0 :: u1 :: u2 :: u3 :: u4 :: u5 :: u6 :: v :: us) bt) H')
    (h : QL P ro n F w0 M k ops rest e H') : QL P ro n F w0 M k ops (⟨none, .store t x y, ty, pos, af, none⟩ :: rest) e H := ql_store1 hT hx hy h1 hv hr (by simp) h
theorem ql_st8 (hT : T.Ok P) {t : Nat} {x y : Operand} {b : Nat} {u0 u1 u2 u3 u4 u5 u6 u7 u8 : Value} {us : List Value} {bt : TypeId} {v : Value} {H' : List Ck} {ty : TypeId} {pos : String} {af : Array Edge}
    (hx : opv e x = some (.pointer (some ⟨b, 8, none⟩))) (hy : opv e y = some v) (h1 : has T.one t = true) (hv : oneV v = true) (hr : Rp H (.pt b (u0 :: u1 :: u2 :: u3 :: u4 :: u5 :: u6 :: u7 :: u8 :: us) bt) (.pt b (u0 :: u1 :: u2 :: u3 :: u4 :: u5 :: u6 :: u7 :: v :: us) bt) H')
    (h : QL P ro n F w0 M k ops rest e H') : QL P ro n F w0 M k ops (⟨none, .store t x y, ty, pos, af, none⟩ :: rest) e H := ql_store1 hT hx hy h1 hv hr (by simp) h
theorem ql_st9 (hT : T.Ok P) {t : Nat} {x y : Operand} {b : Nat} {u0 u1 u2 u3 u4 u5 u6 u7 u8 u9 : Value} {us : List Value} {bt : TypeId} {v : Value} {H' : List Ck} {ty : TypeId} {pos : String} {af : Array Edge}
    (hx : opv e x = some (.pointer (some ⟨b, 9, none⟩))) (hy : opv e y = some v) (h1 : has T.one t = true) (hv : oneV v = true) (hr : Rp H (.pt b (u0 :: u1 :: u2 :: u3 :: u4 :: u5 :: u6 :: u7 :: u8 :: u9 :: us) bt) (.pt b (u0 :: u1 :: u2 :: u3 :: u4 :: u5 :: u6 :: u7 :: u8 :: v :: us) bt) H')
    (h : QL P ro n F w0 M k ops rest e H') : QL P ro n F w0 M k ops (⟨none, .store t x y, ty, pos, af, none⟩ :: rest) e H := ql_store1 hT hx hy h1 hv hr (by simp) h
theorem qf_st0 (hT : T.Ok P) {t : Nat} {x y : Operand} {b : Nat} {u0 : Value} {us : List Value} {bt : TypeId} {v : Value} {H' : List Ck} {ty : TypeId} {pos : String} {af : Array Edge}
    (hx : opv e x = some (.pointer (some ⟨b, 0, none⟩))) (hy : opv e y = some v) (h1 : has T.one t = true) (hv : oneV v = true) (hr : Rp H (.pt b (u0 :: us) bt) (.pt b (v :: us) bt) H')
    (h : QF P ro n F w0 M k ops Hq rest e H') : QF P ro n F w0 M k ops Hq (⟨none, .store t x y, ty, pos, af, none⟩ :: rest) e H := qf_store1 hT hx hy h1 hv hr (by simp) h
theorem qf_st1 (hT : T.Ok P) {t : Nat} {x y : Operand} {b : Nat} {u0 u1 : Value} {us : List Value} {bt : TypeId} {v : Value} {H' : List Ck} {ty : TypeId} {pos : String} {af : Array Edge}
    (hx : opv e x = some (.pointer (some ⟨b, 1, none⟩))) (hy : opv e y = some v) (h1 : has T.one t = true) (hv : oneV v = true) (hr : Rp H (.pt b (u0 :: u1 :: us) bt) (.pt b (u0 :: v :: us) bt) H')
    (h : QF P ro n F w0 M k ops Hq rest e H') : QF P ro n F w0 M k ops Hq (⟨none, .store t x y, ty, pos, af, none⟩ :: rest) e H := qf_store1 hT hx hy h1 hv hr (by simp) h
theorem qf_st2 (hT : T.Ok P) {t : Nat} {x y : Operand} {b : Nat} {u0 u1 u2 : Value} {us : List Value} {bt : TypeId} {v : Value} {H' : List Ck} {ty : TypeId} {pos : String} {af : Array Edge}
    (hx : opv e x = some (.pointer (some ⟨b, 2, none⟩))) (hy : opv e y = some v) (h1 : has T.one t = true) (hv : oneV v = true) (hr : Rp H (.pt b (u0 :: u1 :: u2 :: us) bt) (.pt b (u0 :: u1 :: v :: us) bt) H')
    (h : QF P ro n F w0 M k ops Hq rest e H') : QF P ro n F w0 M k ops Hq (⟨none, .store t x y, ty, pos, af, none⟩ :: rest) e H := qf_store1 hT hx hy h1 hv hr (by simp) h
theorem qf_st3 (hT : T.Ok P) {t : Nat} {x y : Operand} {b : Nat} {u0 u1 u2 u3 : Value} {us : List Value} {bt : TypeId} {v : Value} {H' : List Ck} {ty : TypeId} {pos : String} {af : Array Edge}
    (hx : opv e x = some (.pointer (some ⟨b, 3, none⟩))) (hy : opv e y = some v) (h1 : has T.one t = true) (hv : oneV v = true) (hr : Rp H (.pt b (u0 :: u1 :: u2 :: u3 :: us) bt) (.pt b (u0 :: u1 :: u2 :: v :: us) bt) H')
    (h : QF P ro n F w0 M k ops Hq rest e H') : QF P ro n F w0 M k ops Hq (⟨none, .store t x y, ty, pos, af, none⟩ :: rest) e H := qf_store1 hT hx hy h1 hv hr (by simp) h
theorem qf_st4 (hT : T.Ok P) {t : Nat} {x y : Operand} {b : Nat} {u0 u1 u2 u3 u4 : Value} {us : List Value} {bt : TypeId} {v : Value} {H' : List Ck} {ty : TypeId} {pos : String} {af : Array Edge}
    (hx : opv e x = some (.pointer (some ⟨b, 4, none⟩))) (hy : opv e y = some v) (h1 : has T.one t = true) (hv : oneV v = true) (hr : Rp H (.pt b (u0 :: u1 :: u2 :: u3 :: u4 :: us) bt) (.pt b (u0 :: u1 :: u2 :: u3 :: v :: us) bt) H')
    (h : QF P ro n F w0 M k ops Hq rest e H') : QF P ro n F w0 M k ops Hq (⟨none, .store t x y, ty, pos, af, none⟩ :: rest) e H := qf_store1 hT hx hy h1 hv hr (by simp) h
theorem qf_st5 (hT : T.Ok P) {t : Nat} {x y : Operand} {b : Nat} {u0 u1 u2 u3 u4 u5 : Value} {us : List Value} {bt : TypeId} {v : Value} {H' : List Ck} {ty : TypeId} {pos : String} {af : Array Edge}
    (hx : opv e x = some (.pointer (some ⟨b, 5, none⟩))) (hy : opv e y = some v) (h1 : has T.one t = true) (hv : oneV v = true) (hr : Rp H (.pt b (u0 :: u1 :: u2 :: u3 :: u4 :: u5 :: us) bt) (.pt b (u0 :: u1 :: u2 :: u3 :: u4 :: v :: us) bt) H')
    (h : QF P ro n F w0 M k ops Hq rest e H') : QF P ro n F w0 M k ops Hq (⟨none, .store t x y, ty, pos, af, none⟩ :: rest) e H := qf_store1 hT hx hy h1 hv hr (by simp) h
theorem qf_st6 (hT : T.Ok P) {t : Nat} {x y : Operand} {b : Nat} {u0 u1 u2 u3 u4 u5 u6 : Value} {us : List Value} {bt : TypeId} {v : Value} {H' : List Ck} {ty : TypeId} {pos : String} {af : Array Edge}
    (hx : opv e x = some (.pointer (some ⟨b, 6, none⟩))) (hy : opv e y = some v) (h1 : has T.one t = true) (hv : oneV v = true) (hr : Rp H (.pt b (u0 :: u1 :: u2 :: u3 :: u4 :: u5 :: u6 :: us) bt) (.pt b (u0 :: u1 :: u2 :: u3 :: u4 :: u5 :: v :: us) bt) H')
    (h : QF P ro n F w0 M k ops Hq rest e H') : QF P ro n F w0 M k ops Hq (⟨none, .store t x y, ty, pos, af, none⟩ :: rest) e H := qf_store1 hT hx hy h1 hv hr (by simp) h
theorem qf_st7 (hT : T.Ok P) {t : Nat} {x y : Operand} {b : Nat} {u0 u1 u2 u3 u4 u5 u6 u7 : Value} {us : List Value} {bt : TypeId} {v : Value} {H' : List Ck} {ty : TypeId} {pos : String} {af : Array Edge}
    (hx : opv e x = some (.pointer (some ⟨b, 7, none⟩))) (hy : opv e y = some v) (h1 : has T.one t = true) (hv : oneV v = true) (hr : Rp H (.pt b (u0 :: u1 :: u2 :: u3 :: u4 :: u5 :: u6 :: u7 :: us) bt) (.pt b (u0 :: u1 :: u2 :: u3 :: u4 :: u5 :: u6 :: v :: us) bt) H')
    (h : QF P ro n F w0 M k ops Hq rest e H') : QF P ro n F w0 M k ops Hq (⟨none, .store t x y, ty, pos, af, none⟩ :: rest) e H := qf_store1 hT hx hy h1 hv hr (by simp) h
theorem qf_st8 (hT : T.Ok P) {t : Nat} {x y : Operand} {b : Nat} {u0 u1 u2 u3 u4 u5 u6 u7 u8 : Value} {us : List Value} {bt : TypeId} {v : Value} {H' : List Ck} {ty : TypeId} {pos : String} {af : Array Edge}
    (hx : opv e x = some (.pointer (some ⟨b, 8, none⟩))) (hy : opv e y = some v) (h1 : has T.one t = true) (hv : oneV v = true) (hr : Rp H (.pt b (u0 :: u1 :: u2 :: u3 :: u4 :: u5 :: u6 :: u7 :: u8 :: us) bt) (.pt b (u0 :: u1 :: u2 :: u3 :: u4 :: u5 :: u6 :: u7 :: v :: us) bt) H')
    (h : QF P ro n F w0 M k ops Hq rest e H') : QF P ro n F w0 M k ops Hq (⟨none, .store t x y, ty, pos, af, none⟩ :: rest) e H := qf_store1 hT hx hy h1 hv hr (by simp) h
theorem qf_st9 (hT : T.Ok P) {t : Nat} {x y : Operand} {b : Nat} {u0 u1 u2 u3 u4 u5 u6 u7 u8 u9 : Value} {us : List Value} {bt : TypeId} {v : Value} {H' : List Ck} {ty : TypeId} {pos : String} {af : Array Edge}
    (hx : opv e x = some (.pointer (some ⟨b, 9, none⟩))) (hy : opv e y = some v) (h1 : has T.one t = true) (hv : oneV v = true) (hr : Rp H (.pt b (u0 :: u1 :: u2 :: u3 :: u4 :: u5 :: u6 :: u7 :: u8 :: u9 :: us) bt) (.pt b (u0 :: u1 :: u2 :: u3 :: u4 :: u5 :: u6 :: u7 :: u8 :: v :: us) bt) H')
    (h : QF P ro n F w0 M k ops Hq rest e H') : QF P ro n F w0 M k ops Hq (⟨none, .store t x y, ty, pos, af, none⟩ :: rest) e H := qf_store1 hT hx hy h1 hv hr (by simp) h
theorem setL_all : ∀ (cs us pre : List Value), us.length = cs.length → setL (pre ++ cs) pre.length us = pre ++ us
  | [], [], pre, _ => rfl
  | c :: cs, u :: us, pre, h => by
    have ih := setL_all cs us (pre ++ [u]) (by simpa using h)
    simp only [setL]
    rw [List.set_append_right _ _ (Nat.le_refl _), Nat.sub_self, List.set_cons_zero]
    simpa using ih
/-- A whole variable of several cells. -/
theorem ql_setA (hT : T.Ok P) {t m : Nat} {x y : Operand} {b : Nat} {cs us : List Value} {bt : TypeId} {H' : List Ck} {ty : TypeId} {pos : String} {af : Array Edge}
    (hx : opv e x = some (.pointer (some ⟨b, 0, none⟩))) (hy : opv e y = some (.agg us.toArray)) (h1 : find1 T.agg t = some m) (hm : us.length = m) (h1v : (us.all oneV) = true) (hr : Rp H (.pt b cs bt) (.pt b us bt) H') (hl : cs.length = m)
    (h : QL P ro n F w0 M k ops rest e H') : QL P ro n F w0 M k ops (⟨none, .store t x y, ty, pos, af, none⟩ :: rest) e H := by
  have e1 : setL cs 0 us = us := setL_all cs us [] (by omega)
  exact ql_storeA hT hx hy h1 hm (List.all_eq_true.1 h1v) (by rw [e1]; exact hr) (by omega) h

theorem qf_setA (hT : T.Ok P) {t m : Nat} {x y : Operand} {b : Nat} {cs us : List Value} {bt : TypeId} {H' : List Ck} {ty : TypeId} {pos : String} {af : Array Edge}
    (hx : opv e x = some (.pointer (some ⟨b, 0, none⟩))) (hy : opv e y = some (.agg us.toArray)) (h1 : find1 T.agg t = some m) (hm : us.length = m) (h1v : (us.all oneV) = true) (hr : Rp H (.pt b cs bt) (.pt b us bt) H') (hl : cs.length = m)
    (h : QF P ro n F w0 M k ops Hq rest e H') : QF P ro n F w0 M k ops Hq (⟨none, .store t x y, ty, pos, af, none⟩ :: rest) e H := by
  have e1 : setL cs 0 us = us := setL_all cs us [] (by omega)
  exact qf_storeA hT hx hy h1 hm (List.all_eq_true.1 h1v) (by rw [e1]; exact hr) (by omega) h
theorem is_fstore {t : Nat} {x y : Operand} {ty : TypeId} {pos : String} {af : Array Edge} (h : QF P ro n F w0 M k ops Hq (⟨none, .store t x y, ty, pos, af, none⟩ :: rest) e H) : QF P ro n F w0 M k ops Hq (⟨none, .store t x y, ty, pos, af, none⟩ :: rest) e H := h

/-! A block of numbers -/
theorem ql_loadI (hT : T.Ok P) {d t : Nat} {x : Operand} {b off : Nat} {l : List Int} {bt : TypeId} {ty : TypeId} {pos : String} {af : Array Edge} (i : Nat)
    (hx : opv e x = some (.pointer (some ⟨b, off, none⟩))) (h1 : has T.one t = true) (hd : Nat.blt d n = true) (hb : Ck.pt b (ints l) bt ∈ H) (ho : off = i) (hi : i < l.length)
    (h : QL P ro n F w0 M k ops rest ((d, .int .i64 l[i]) :: e) H) : QL P ro n F w0 M k ops (⟨some d, .load t x, ty, pos, af, none⟩ :: rest) e H :=
  ql_load1 hT hx h1 hd (fun _ hs => (Blk.cell (hs.mem hb) off).trans (by subst ho; simp [hi])) h
theorem ql_storeI (hT : T.Ok P) {t : Nat} {x y : Operand} {b off : Nat} {l : List Int} {z : Int} {bt : TypeId} {H' : List Ck} {ty : TypeId} {pos : String} {af : Array Edge} (i : Nat)
    (hx : opv e x = some (.pointer (some ⟨b, off, none⟩))) (hy : opv e y = some (.int .i64 z)) (h1 : has T.one t = true) (hr : Rp H (.pt b (ints l) bt) (.pt b (ints (l.set i z)) bt) H') (ho : off = i) (hi : i < l.length)
    (h : QL P ro n F w0 M k ops rest e H') : QL P ro n F w0 M k ops (⟨none, .store t x y, ty, pos, af, none⟩ :: rest) e H :=
  ql_store1 hT hx hy h1 rfl (by subst ho; rw [← List.map_set]; exact hr) (by subst ho; simpa using hi) h
theorem qf_loadI (hT : T.Ok P) {d t : Nat} {x : Operand} {b off : Nat} {l : List Int} {bt : TypeId} {ty : TypeId} {pos : String} {af : Array Edge} (i : Nat)
    (hx : opv e x = some (.pointer (some ⟨b, off, none⟩))) (h1 : has T.one t = true) (hd : Nat.blt d n = true) (hb : Ck.pt b (ints l) bt ∈ Hq) (ho : off = i) (hi : i < l.length)
    (h : QF P ro n F w0 M k ops Hq rest ((d, .int .i64 l[i]) :: e) H) : QF P ro n F w0 M k ops Hq (⟨some d, .load t x, ty, pos, af, none⟩ :: rest) e H :=
  qf_load1 hT hx h1 hd (fun _ hs => (Blk.cell (hs.mem hb) off).trans (by subst ho; simp [hi])) h
theorem qf_storeI (hT : T.Ok P) {t : Nat} {x y : Operand} {b off : Nat} {l : List Int} {z : Int} {bt : TypeId} {H' : List Ck} {ty : TypeId} {pos : String} {af : Array Edge} (i : Nat)
    (hx : opv e x = some (.pointer (some ⟨b, off, none⟩))) (hy : opv e y = some (.int .i64 z)) (h1 : has T.one t = true) (hr : Rp H (.pt b (ints l) bt) (.pt b (ints (l.set i z)) bt) H') (ho : off = i) (hi : i < l.length)
    (h : QF P ro n F w0 M k ops Hq rest e H') : QF P ro n F w0 M k ops Hq (⟨none, .store t x y, ty, pos, af, none⟩ :: rest) e H :=
  qf_store1 hT hx hy h1 rfl (by subst ho; rw [← List.map_set]; exact hr) (by subst ho; simpa using hi) h

/-! Slices and structs -/
theorem ql_index (hT : T.Ok P) {d t et sz : Nat} {x ix : Operand} {b off len cap : Nat} {ik : IntKind} {i : Int} {ty : TypeId} {pos : String} {af : Array Edge}
    (hx : opv e x = some (.slice (some ⟨b, off, none⟩) len cap)) (hi : opv e ix = some (.int ik i)) (hs : find1 T.esz t = some (et, sz)) (hsl : has T.len t = true) (hd : Nat.blt d n = true) (h0 : 0 ≤ i) (h1 : i < len)
    (h : QL P ro n F w0 M k ops rest ((d, .pointer (some ⟨b, off + i.toNat * sz, none⟩)) :: e) H) : QL P ro n F w0 M k ops (⟨some d, .indexAddr t x ix, ty, pos, af, none⟩ :: rest) e H := .mk fun w hw => yl_index hT hx hi hs hsl hd h0 h1 (h w hw)
theorem qf_index (hT : T.Ok P) {d t et sz : Nat} {x ix : Operand} {b off len cap : Nat} {ik : IntKind} {i : Int} {ty : TypeId} {pos : String} {af : Array Edge}
    (hx : opv e x = some (.slice (some ⟨b, off, none⟩) len cap)) (hi : opv e ix = some (.int ik i)) (hs : find1 T.esz t = some (et, sz)) (hsl : has T.len t = true) (hd : Nat.blt d n = true) (h0 : 0 ≤ i) (h1 : i < len)
    (h : QF P ro n F w0 M k ops Hq rest ((d, .pointer (some ⟨b, off + i.toNat * sz, none⟩)) :: e) H) : QF P ro n F w0 M k ops Hq (⟨some d, .indexAddr t x ix, ty, pos, af, none⟩ :: rest) e H := .mk fun w hw => yf_index hT hx hi hs hsl hd h0 h1 (h w hw)
theorem ql_indexA {d t et sz len : Nat} {x ix : Operand} {b off : Nat} {ik : IntKind} {i : Int} {ty : TypeId} {pos : String} {af : Array Edge} (hA : arrB P t len et sz = true)
    (hx : opv e x = some (.pointer (some ⟨b, off, none⟩))) (hi : opv e ix = some (.int ik i)) (hd : Nat.blt d n = true) (h0 : 0 ≤ i) (h1 : i < len)
    (h : QL P ro n F w0 M k ops rest ((d, .pointer (some ⟨b, off + i.toNat * sz, none⟩)) :: e) H) : QL P ro n F w0 M k ops (⟨some d, .indexAddr t x ix, ty, pos, af, none⟩ :: rest) e H := .mk fun w hw => yl_indexA hA hx hi hd h0 h1 (h w hw)
theorem qf_indexA {d t et sz len : Nat} {x ix : Operand} {b off : Nat} {ik : IntKind} {i : Int} {ty : TypeId} {pos : String} {af : Array Edge} (hA : arrB P t len et sz = true)
    (hx : opv e x = some (.pointer (some ⟨b, off, none⟩))) (hi : opv e ix = some (.int ik i)) (hd : Nat.blt d n = true) (h0 : 0 ≤ i) (h1 : i < len)
    (h : QF P ro n F w0 M k ops Hq rest ((d, .pointer (some ⟨b, off + i.toNat * sz, none⟩)) :: e) H) : QF P ro n F w0 M k ops Hq (⟨some d, .indexAddr t x ix, ty, pos, af, none⟩ :: rest) e H := .mk fun w hw => yf_indexA hA hx hi hd h0 h1 (h w hw)
theorem ql_quo {d t t' : Nat} {x y : Operand} {kd : IntKind} {p q : Int} {ty : TypeId} {pos : String} {af : Array Edge} (hx : opv e x = some (.int kd p)) (hy : opv e y = some (.int kd q)) (hq : q ≠ 0) (hd : Nat.blt d n = true)
    (h : QL P ro n F w0 M k ops rest ((d, .int kd (kd.wrap (p.tdiv q))) :: e) H) : QL P ro n F w0 M k ops (⟨some d, .binOp .quo t x y t', ty, pos, af, none⟩ :: rest) e H := .mk fun w hw => yl_quo hx hy hq hd (h w hw)
theorem ql_rem {d t t' : Nat} {x y : Operand} {kd : IntKind} {p q : Int} {ty : TypeId} {pos : String} {af : Array Edge} (hx : opv e x = some (.int kd p)) (hy : opv e y = some (.int kd q)) (hq : q ≠ 0) (hd : Nat.blt d n = true)
    (h : QL P ro n F w0 M k ops rest ((d, .int kd (p.tmod q)) :: e) H) : QL P ro n F w0 M k ops (⟨some d, .binOp .rem t x y t', ty, pos, af, none⟩ :: rest) e H := .mk fun w hw => yl_rem hx hy hq hd (h w hw)
theorem qf_quo {d t t' : Nat} {x y : Operand} {kd : IntKind} {p q : Int} {ty : TypeId} {pos : String} {af : Array Edge} (hx : opv e x = some (.int kd p)) (hy : opv e y = some (.int kd q)) (hq : q ≠ 0) (hd : Nat.blt d n = true)
    (h : QF P ro n F w0 M k ops Hq rest ((d, .int kd (kd.wrap (p.tdiv q))) :: e) H) : QF P ro n F w0 M k ops Hq (⟨some d, .binOp .quo t x y t', ty, pos, af, none⟩ :: rest) e H := .mk fun w hw => yf_quo hx hy hq hd (h w hw)
theorem qf_rem {d t t' : Nat} {x y : Operand} {kd : IntKind} {p q : Int} {ty : TypeId} {pos : String} {af : Array Edge} (hx : opv e x = some (.int kd p)) (hy : opv e y = some (.int kd q)) (hq : q ≠ 0) (hd : Nat.blt d n = true)
    (h : QF P ro n F w0 M k ops Hq rest ((d, .int kd (p.tmod q)) :: e) H) : QF P ro n F w0 M k ops Hq (⟨some d, .binOp .rem t x y t', ty, pos, af, none⟩ :: rest) e H := .mk fun w hw => yf_rem hx hy hq hd (h w hw)
theorem tdiv_fit {p q : Int} (h0 : 0 ≤ p) (hq : 0 < q) (hp : p < 9223372036854775808) : IntKind.i64.wrap (p.tdiv q) = p / q := by
  have h1 : p / q ≤ p := Int.ediv_le_self q h0
  have h2 : 0 ≤ p / q := Int.ediv_nonneg h0 (by omega)
  rw [Int.tdiv_eq_ediv_of_nonneg h0]
  exact w64 (by omega) (by omega)
theorem ql_quoN {d t t' : Nat} {x y : Operand} {p q : Int} {ty : TypeId} {pos : String} {af : Array Edge} (hx : opv e x = some (.int .i64 p)) (hy : opv e y = some (.int .i64 q)) (hd : Nat.blt d n = true) (h0 : 0 ≤ p) (hq : 0 < q) (hp : p < 9223372036854775808)
    (h : QL P ro n F w0 M k ops rest ((d, .int .i64 (p / q)) :: e) H) : QL P ro n F w0 M k ops (⟨some d, .binOp .quo t x y t', ty, pos, af, none⟩ :: rest) e H := ql_quo hx hy (by omega) hd (by rw [tdiv_fit h0 hq hp]; exact h)
theorem ql_remN {d t t' : Nat} {x y : Operand} {p q : Int} {ty : TypeId} {pos : String} {af : Array Edge} (hx : opv e x = some (.int .i64 p)) (hy : opv e y = some (.int .i64 q)) (hd : Nat.blt d n = true) (h0 : 0 ≤ p) (hq : 0 < q)
    (h : QL P ro n F w0 M k ops rest ((d, .int .i64 (p % q)) :: e) H) : QL P ro n F w0 M k ops (⟨some d, .binOp .rem t x y t', ty, pos, af, none⟩ :: rest) e H := ql_rem hx hy (by omega) hd (by rw [Int.tmod_eq_emod_of_nonneg h0]; exact h)
theorem qf_quoN {d t t' : Nat} {x y : Operand} {p q : Int} {ty : TypeId} {pos : String} {af : Array Edge} (hx : opv e x = some (.int .i64 p)) (hy : opv e y = some (.int .i64 q)) (hd : Nat.blt d n = true) (h0 : 0 ≤ p) (hq : 0 < q) (hp : p < 9223372036854775808)
    (h : QF P ro n F w0 M k ops Hq rest ((d, .int .i64 (p / q)) :: e) H) : QF P ro n F w0 M k ops Hq (⟨some d, .binOp .quo t x y t', ty, pos, af, none⟩ :: rest) e H := qf_quo hx hy (by omega) hd (by rw [tdiv_fit h0 hq hp]; exact h)
theorem qf_remN {d t t' : Nat} {x y : Operand} {p q : Int} {ty : TypeId} {pos : String} {af : Array Edge} (hx : opv e x = some (.int .i64 p)) (hy : opv e y = some (.int .i64 q)) (hd : Nat.blt d n = true) (h0 : 0 ≤ p) (hq : 0 < q)
    (h : QF P ro n F w0 M k ops Hq rest ((d, .int .i64 (p % q)) :: e) H) : QF P ro n F w0 M k ops Hq (⟨some d, .binOp .rem t x y t', ty, pos, af, none⟩ :: rest) e H := qf_rem hx hy (by omega) hd (by rw [Int.tmod_eq_emod_of_nonneg h0]; exact h)
theorem is_qrem {d : Nat} {t t' : Nat} {x y : Operand} {ty : TypeId} {pos : String} {af : Array Edge} (h : QL P ro n F w0 M k ops (⟨some d, .binOp .rem t x y t', ty, pos, af, none⟩ :: rest) e H) : QL P ro n F w0 M k ops (⟨some d, .binOp .rem t x y t', ty, pos, af, none⟩ :: rest) e H := h
theorem is_qquo {d : Nat} {t t' : Nat} {x y : Operand} {ty : TypeId} {pos : String} {af : Array Edge} (h : QL P ro n F w0 M k ops (⟨some d, .binOp .quo t x y t', ty, pos, af, none⟩ :: rest) e H) : QL P ro n F w0 M k ops (⟨some d, .binOp .quo t x y t', ty, pos, af, none⟩ :: rest) e H := h
theorem is_frem {d : Nat} {t t' : Nat} {x y : Operand} {ty : TypeId} {pos : String} {af : Array Edge} (h : QF P ro n F w0 M k ops Hq (⟨some d, .binOp .rem t x y t', ty, pos, af, none⟩ :: rest) e H) : QF P ro n F w0 M k ops Hq (⟨some d, .binOp .rem t x y t', ty, pos, af, none⟩ :: rest) e H := h
theorem is_fquo {d : Nat} {t t' : Nat} {x y : Operand} {ty : TypeId} {pos : String} {af : Array Edge} (h : QF P ro n F w0 M k ops Hq (⟨some d, .binOp .quo t x y t', ty, pos, af, none⟩ :: rest) e H) : QF P ro n F w0 M k ops Hq (⟨some d, .binOp .quo t x y t', ty, pos, af, none⟩ :: rest) e H := h
theorem ql_mk {d t : Nat} {parts : List (Nat × Operand)} {us : List Value} (cells : Array Value) {ty : TypeId} {pos : String} {af : Array Edge}
    (hp : opvs e (parts.map (·.2)) = some us) (hb : P.built t ((parts.map (·.1)).zip us) = some cells) (hd : Nat.blt d n = true)
    (h : QL P ro n F w0 M k ops rest ((d, .agg cells) :: e) H) : QL P ro n F w0 M k ops (⟨some d, .build t parts.toArray, ty, pos, af, none⟩ :: rest) e H := .mk fun w hw => yl_mk cells hp hb hd (h w hw)
theorem qf_mk {d t : Nat} {parts : List (Nat × Operand)} {us : List Value} (cells : Array Value) {ty : TypeId} {pos : String} {af : Array Edge}
    (hp : opvs e (parts.map (·.2)) = some us) (hb : P.built t ((parts.map (·.1)).zip us) = some cells) (hd : Nat.blt d n = true)
    (h : QF P ro n F w0 M k ops Hq rest ((d, .agg cells) :: e) H) : QF P ro n F w0 M k ops Hq (⟨some d, .build t parts.toArray, ty, pos, af, none⟩ :: rest) e H := .mk fun w hw => yf_mk cells hp hb hd (h w hw)
theorem ql_mkS {d t len : Nat} {parts : List (Nat × Operand)} {us : List Value} (et : Nat) (cs : List Value) {ty : TypeId} {pos : String} {af : Array Edge}
    (hp : opvs e (parts.map (·.2)) = some us) (hb : builtS P t len ((parts.map (·.1)).zip us) = some (et, cs.toArray)) (hd : Nat.blt d n = true)
    (h : ∀ b, QL P ro n F w0 M k ops rest ((d, .slice (some ⟨b, 0, none⟩) len len) :: e) (.pt b cs et :: H)) : QL P ro n F w0 M k ops (⟨some d, .buildSlice t len parts.toArray, ty, pos, af, none⟩ :: rest) e H :=
  .mk fun _ hs => yl_mkS et cs hp hb hd (fun w' hc hz hb => h _ w' (hs.addPt hc hz hb))
theorem qf_mkS {d t len : Nat} {parts : List (Nat × Operand)} {us : List Value} (et : Nat) (cs : List Value) {ty : TypeId} {pos : String} {af : Array Edge}
    (hp : opvs e (parts.map (·.2)) = some us) (hb : builtS P t len ((parts.map (·.1)).zip us) = some (et, cs.toArray)) (hd : Nat.blt d n = true)
    (h : ∀ b, QF P ro n F w0 M k ops Hq rest ((d, .slice (some ⟨b, 0, none⟩) len len) :: e) (.pt b cs et :: H)) : QF P ro n F w0 M k ops Hq (⟨some d, .buildSlice t len parts.toArray, ty, pos, af, none⟩ :: rest) e H :=
  .mk fun _ hs => yf_mkS et cs hp hb hd (fun w' hc hz hb => have hs' := hs.addPt hc hz hb; ⟨(hs'.tail).right, h _ w' hs'⟩)

/-! append -/
theorem own_bd {w : World} {base e sz n : Nat} {v : Value} {xs : List Value} (h : w.ownsRow base e sz v n xs) : ∀ b, (Ck.ow v e sz n xs).D b → b < w.heap.size := by
  intro b hb
  simp only [Ck.D] at hb
  rcases h.2 with ⟨rfl, _⟩ | ⟨g, cap, cur, rfl, _, hh, _⟩
  · cases hb
  · cases hb
    exact (Array.getElem?_eq_some_iff.1 hh).1
theorem Sat.app {w w' : World} {v v' : Value} {et sz m q : Nat} {xs ys : List Value} {H' : List Ck} (hs : Sat w0 M H w) (hr : Rp H (.ow v et sz m xs) (.ow v' et sz q ys) H') (hc : Chg v.ownBlock.toList w w') (hb : w'.ownsRow 0 et sz v' q ys) (hn : ∀ b, v'.ownBlock = some b → v.ownBlock = some b ∨ w.heap.size ≤ b) : Sat w0 M H' w' :=
  hs.rep hr hc (fun k hk => by simpa [Ck.D] using hk) hb (fun x hx => ⟨hn x hx, own_bd hb x hx⟩)

theorem run_append_own2 {w : World} (t ty e : TypeId) (i : TypeInfo) (z : Value) (size bytes : Nat) (ht : P.underlying t = some (.slice e)) (hi : P.info? e = some i) (hz : i.zero = some z)
    (hsize : i.size = size) (hby : i.bytes = bytes) (hzs : z.cells.size = size) (hsz : 0 < size) (v : Value) (n : Nat) (xs : List Value) (hown : w.ownsRow 0 e size v n xs)
    (a : Addr) (m c : Nat) (news : List Value) (hl : news.length = m * size) (hnews : ∀ j u, news[j]? = some u → w.cell? (a.add j) = some u) (h1 : ∀ u ∈ news, u.oneCell' = true)
    (h63 : n + m ≤ maxLen) (hbytes : (n + m) * bytes ≤ 140737488355328) :
    ∃ v' w', (Builtin.append_ #[t, t] ty #[v, .slice (some a) m c]).run P w = .ok v' w' ∧ w'.ownsRow 0 e size v' (n + m) (xs ++ news) ∧ w.grownBy w' v.ownBlock ∧ (∀ b, v'.ownBlock = some b → v.ownBlock = some b ∨ w.heap.size ≤ b) := by
  obtain ⟨v', w', hr, ho, hg, _⟩ := run_append_own (P := P) w 0 t ty e i z size bytes ht hi hz hsize hby hzs hsz v n xs hown a m c news hl hnews h1 h63 hbytes (Nat.zero_le _)
  refine ⟨v', w', hr, ho, hg, ?_⟩
  rcases hown.2 with ⟨rfl, rfl⟩ | ⟨g, cap, cur, rfl, _, hgc, hnc, hcm, hcs, htake⟩
  · have hx : xs = [] := List.eq_nil_of_length_eq_zero (by simpa using hown.1)
    subst hx
    obtain ⟨v2, w2, hr2, ho2, _, _⟩ := run_append_own (P := P) w w.heap.size t ty e i z size bytes ht hi hz hsize hby hzs hsz (.slice none 0 0) 0 [] (World.ownsRow_nil w w.heap.size e size) a m c news hl hnews h1 h63 hbytes (Nat.le_refl _)
    rw [hr] at hr2
    obtain ⟨rfl, rfl⟩ : v' = v2 ∧ w' = w2 := by simpa using hr2
    intro b hb
    rcases ho2.2 with ⟨rfl, _⟩ | ⟨g, cap, cur, rfl, hg2, _⟩
    · cases hb
    · cases hb
      exact .inr hg2
  · subst hsize
    subst hby
    by_cases hroom : n + m ≤ cap
    · have hfit : n * i.size + news.length ≤ cur.size := by rw [hl, hcs, ← Nat.add_mul]; exact Nat.mul_le_mul_right _ hroom
      have hr2 := run_append_room (P := P) w t ty e i ht hi g n cap cur hgc a m c news hl hnews h1 hroom hfit
      rw [hr] at hr2
      simp only [Result.ok.injEq] at hr2
      obtain ⟨rfl, _⟩ := hr2
      exact fun b hb => .inl hb
    · have holds : ∀ j u, xs[j]? = some u → w.cell? ((⟨g, 0, none⟩ : Addr).add j) = some u := hown.cells (g := g) rfl
      simp only [maxLen] at h63
      have hr2 := run_append_grow (P := P) w t ty e i z ht hi hz ⟨g, 0, none⟩ n cap xs hown.1 holds a m c news hl hnews (by omega) (by omega) (growslice_fits (by omega) hbytes)
      rw [hr] at hr2
      simp only [Result.ok.injEq] at hr2
      obtain ⟨rfl, _⟩ := hr2
      intro b hb
      cases hb
      exact .inr (Nat.le_refl _)

theorem run_app {w : World} {t et size bytes : Nat} {z : Value} (hS : SlT P t et size bytes z) {v u : Value} {m : Nat} {xs news : List Value} {q lo hi : Nat} (ty : TypeId) (hown : w.ownsRow 0 et size v m xs) (hrd : Rd w lo hi u size q news) (h1 : ∀ c ∈ news, oneV c = true)
    (hm : (m + q) * bytes ≤ 140737488355328) (hm2 : m + q ≤ 140737488355328) :
    ∃ v' w', (Builtin.append_ #[t, t] ty #[v, u]).run P w = .ok v' w' ∧ w'.ownsRow 0 et size v' (m + q) (xs ++ news) ∧ Chg v.ownBlock.toList w w' ∧ (∀ b, v'.ownBlock = some b → v.ownBlock = some b ∨ w.heap.size ≤ b) := by
  obtain ⟨ht, hi', hzs, hsz⟩ := hS
  cases hinf : P.info? et with
  | none => simp [hinf] at hi'
  | some i =>
    simp [hinf] at hi'
    obtain ⟨hz, hsize, hby⟩ := hi'
    obtain ⟨hl, hr⟩ := hrd
    rcases hr with ⟨rfl, rfl⟩ | ⟨b, off, cap, rfl, _, hc⟩
    · have hrun := run_append_owned_none (P := P) (w := w) 0 t ty et i size ht hinf v m xs hown
      have : news = [] := by simpa using hl
      subst this
      exact ⟨v, w, hrun, by simpa using hown, Chg.refl _ _, fun b hb => .inl hb⟩
    · have hone : ∀ c ∈ news, c.oneCell' = true := fun c hc' => by
        have := h1 c hc'
        cases c <;> first | rfl | simp [oneV] at this
      obtain ⟨v', w', hrun, hown', hg, hn⟩ := run_append_own2 (P := P) t ty et i z size bytes ht hinf hz hsize hby hzs hsz v m xs hown ⟨b, off, none⟩ q cap news hl
        (fun j c hj => by
          have hjl := (List.getElem?_eq_some_iff.1 hj).1
          rw [Addr.add_lit, hc j hjl, hj]) hone (by simp only [maxLen]; omega) hm
      exact ⟨v', w', hrun, hown', grown_chg hg, hn⟩

/-- append to a slice of our own; what is appended can be read. -/
theorem ql_append {d t et size bytes : Nat} {z : Value} (hS : SlT P t et size bytes z) {x y : Operand} {v u : Value} {m : Nat} {xs news : List Value} {q : Nat} {H1 : Value → List Ck} {ty : TypeId} {pos : String} {af : Array Edge}
    (hx : opv e x = some v) (hy : opv e y = some u) (hd : Nat.blt d n = true) (hr : ∀ v', Rp H (.ow v et size m xs) (.ow v' et size (m + q) (xs ++ news)) (H1 v')) (hrd : ∀ w, Sat w0 M H w → ∃ lo hi, Rd w lo hi u size q news) (h1 : ∀ c ∈ news, oneV c = true)
    (hm : (m + q) * bytes ≤ 140737488355328) (hm2 : m + q ≤ 140737488355328)
    (h : ∀ v', QL P ro n F w0 M k ops rest ((d, v') :: e) (H1 v')) :
    QL P ro n F w0 M k ops (⟨some d, .call { callee := .builtin .append, args := [x, y].toArray, argTypes := [t, t].toArray }, ty, pos, af, none⟩ :: rest) e H := .mk fun w hs => by
  obtain ⟨lo, hi, hrd⟩ := hrd w hs
  obtain ⟨v', w', hrun, ho, hc, hn⟩ := run_app hS ty (hs.mem (hr v).mem) hrd h1 hm hm2
  refine yl_val (w' := w') (by simp) hd (fun a hf => ?_) (h v' w' (hs.app (hr v') hc ho hn))
  have e1 := hf.op hx
  have e2 := hf.op hy
  simp [execOp, resolve, invoke, builtin, e1, e2, hrun]

theorem qf_append {d t et size bytes : Nat} {z : Value} (hS : SlT P t et size bytes z) {x y : Operand} {v u : Value} {m : Nat} {xs news : List Value} {q : Nat} {H1 : Value → List Ck} {ty : TypeId} {pos : String} {af : Array Edge}
    (hx : opv e x = some v) (hy : opv e y = some u) (hd : Nat.blt d n = true) (hr : ∀ v', Rp H (.ow v et size m xs) (.ow v' et size (m + q) (xs ++ news)) (H1 v')) (hrd : ∀ w, Sat w0 M (H ++ Hq) w → ∃ lo hi, Rd w lo hi u size q news) (h1 : ∀ c ∈ news, oneV c = true)
    (hm : (m + q) * bytes ≤ 140737488355328) (hm2 : m + q ≤ 140737488355328)
    (h : ∀ v', QF P ro n F w0 M k ops Hq rest ((d, v') :: e) (H1 v')) :
    QF P ro n F w0 M k ops Hq (⟨some d, .call { callee := .builtin .append, args := [x, y].toArray, argTypes := [t, t].toArray }, ty, pos, af, none⟩ :: rest) e H := .mk fun w hs => by
  obtain ⟨lo, hi, hrd⟩ := hrd w hs
  obtain ⟨v', w', hrun, ho, hc, hn⟩ := run_app hS ty (hs.mem ((hr v).app Hq).mem) hrd h1 hm hm2
  have hs' := hs.app ((hr v').app Hq) hc ho hn
  refine yf_eff (w' := w') rfl hd (fun a hf => ?_) hs'.right (h v' w' hs')
  have e1 := hf.op hx
  have e2 := hf.op hy
  simp [execOp, resolve, invoke, builtin, e1, e2, hrun]

/-! Calls -/
/-- What a callee makes of the pieces that it is given, the others as they were. -/
theorem Sat.call {w w' : World} {L0 R L' : List Ck} {M' : Nat → Prop} (h : Sat w0 M (L0 ++ R) w) (g : Sat w M' L' w') (hM : ∀ b, M' b → ∃ c ∈ L0, c.D b) : Sat w0 M (L' ++ R) w' := by
  have hp := List.pairwise_append.1 h.sep
  have hbd : ∀ c ∈ R, ∀ b, c.D b → b < w.heap.size ∧ (M b ∨ w0.heap.size ≤ b) := fun c hc => h.bd c (List.mem_append_right _ hc)
  have hnM : ∀ c ∈ R, ∀ b, c.D b → ¬ M' b := fun c hc b hb hm => by
    obtain ⟨c0, h0, h1⟩ := hM b hm
    exact hp.2.2 c0 h0 c hc b h1 hb
  refine ⟨h.chg.upP g.chg (fun b hb => ?_), ?_, List.pairwise_append.2 ⟨g.sep, hp.2.1, ?_⟩, ?_⟩
  · obtain ⟨c0, h0, h1⟩ := hM b hb
    exact (h.bd c0 (List.mem_append_left _ h0) b h1).2
  · intro c hc
    rcases List.mem_append.1 hc with hc | hc
    · exact g.all c hc
    · exact Ck.st (h.all c (List.mem_append_right _ hc)) g.chg (fun b hb => hnM c hc b hb)
  · intro c hc d hd b hb hb'
    rcases (g.bd c hc b hb).2 with h1 | h1
    · exact hnM d hd b hb' h1
    · have := (hbd d hd b hb').1
      omega
  · intro c hc b hb
    rcases List.mem_append.1 hc with hc | hc
    · refine ⟨(g.bd c hc b hb).1, ?_⟩
      rcases (g.bd c hc b hb).2 with h1 | h1
      · obtain ⟨c0, h0, h2⟩ := hM b h1
        exact (h.bd c0 (List.mem_append_left _ h0) b h2).2
      · exact .inr (Nat.le_trans h.chg.size h1)
    · exact ⟨Nat.lt_of_lt_of_le (hbd c hc b hb).1 g.chg.size, (hbd c hc b hb).2⟩

/-- A call: the callee gets the pieces L0, whose blocks M' it may change, and hands back L'. -/
theorem ql_call (hT : T.Ok P) {t : Nat} {f : Operand} {as : List Operand} {tys : Array TypeId} {ty : TypeId} {pos : String} {af : Array Edge} {g : Nat} {first caps : Array Value} {vs : List Value} {β : Type} {ψ : β → Value → Prop} {L' : β → List Ck}
    (L0 R : List Ck) (M' : Nat → Prop) (hf : opv e f = some (.func (.func g) first caps)) (hg : has T.fn g = true) (has_ : opvs e as = some vs) (ht : Nat.blt t n = true) (hH : Sp H (L0 ++ R)) (hM : ∀ b, M' b → ∃ c ∈ L0, c.D b)
    (hc : ∀ w, Sat w0 M (L0 ++ R) w → Ca P g (first.toList ++ vs ++ caps.toList) w fun v w' => ∃ x, ψ x v ∧ Sat w M' (L' x) w')
    (h : ∀ x v, ψ x v → QL P ro n F w0 M k ops rest ((t, v) :: e) (L' x ++ R)) :
    QL P ro n F w0 M k ops (⟨some t, .call { callee := .value f, args := as.toArray, argTypes := tys }, ty, pos, af, none⟩ :: rest) e H := .mk fun w hs =>
  have hs1 := hs.sp hH
  yl_call hT hf hg has_ ht (hc w hs1) (fun v w' ⟨x, hx, hs'⟩ => h x v hx w' (hs1.call hs' hM))

/-- A call that changes nothing and makes nothing that is kept. -/
theorem ql_callv (hT : T.Ok P) {t : Nat} {f : Operand} {as : List Operand} {tys : Array TypeId} {ty : TypeId} {pos : String} {af : Array Edge} {g : Nat} {first caps : Array Value} {vs : List Value} {val : Value}
    (hf : opv e f = some (.func (.func g) first caps)) (hg : has T.fn g = true) (has_ : opvs e as = some vs) (ht : Nat.blt t n = true)
    (hc : ∀ w, Sat w0 M H w → Ca P g (first.toList ++ vs ++ caps.toList) w fun v w' => v = val ∧ Chg [] w w')
    (h : QL P ro n F w0 M k ops rest ((t, val) :: e) H) :
    QL P ro n F w0 M k ops (⟨some t, .call { callee := .value f, args := as.toArray, argTypes := tys }, ty, pos, af, none⟩ :: rest) e H := .mk fun w hs =>
  yl_call hT hf hg has_ ht (hc w hs) (fun v w' ⟨hv, hc'⟩ => by rw [hv]; exact h w' (hs.keep hc'))

/-- A call without a result. -/
theorem ql_call0 (hT : T.Ok P) {f : Operand} {as : List Operand} {tys : Array TypeId} {ty : TypeId} {pos : String} {af : Array Edge} {g : Nat} {first caps : Array Value} {vs : List Value} {β : Type} {ψ : β → Value → Prop} {L' : β → List Ck}
    (L0 R : List Ck) (M' : Nat → Prop) (hf : opv e f = some (.func (.func g) first caps)) (hg : has T.fn g = true) (has_ : opvs e as = some vs) (hH : Sp H (L0 ++ R)) (hM : ∀ b, M' b → ∃ c ∈ L0, c.D b)
    (hc : ∀ w, Sat w0 M (L0 ++ R) w → Ca P g (first.toList ++ vs ++ caps.toList) w fun v w' => ∃ x, ψ x v ∧ Sat w M' (L' x) w')
    (h : ∀ x v, ψ x v → QL P ro n F w0 M k ops rest e (L' x ++ R)) :
    QL P ro n F w0 M k ops (⟨none, .call { callee := .value f, args := as.toArray, argTypes := tys }, ty, pos, af, none⟩ :: rest) e H := .mk fun w hs =>
  have hs1 := hs.sp hH
  yl_call0 hT hf hg has_ (hc w hs1) (fun v w' ⟨x, hx, hs'⟩ => h x v hx w' (hs1.call hs' hM))

theorem qf_call (hT : T.Ok P) {t : Nat} {f : Operand} {as : List Operand} {tys : Array TypeId} {ty : TypeId} {pos : String} {af : Array Edge} {g : Nat} {first caps : Array Value} {vs : List Value} {β : Type} {ψ : β → Value → Prop} {L' : β → List Ck}
    (L0 R : List Ck) (M' : Nat → Prop) (hf : opv e f = some (.func (.func g) first caps)) (hg : has T.fn g = true) (has_ : opvs e as = some vs) (ht : Nat.blt t n = true) (hH : Sp H (L0 ++ R)) (hM : ∀ b, M' b → ∃ c ∈ L0, c.D b)
    (hc : ∀ w, Sat w0 M (L0 ++ (R ++ Hq)) w → Ca P g (first.toList ++ vs ++ caps.toList) w fun v w' => ∃ x, ψ x v ∧ Sat w M' (L' x) w')
    (h : ∀ x v, ψ x v → QF P ro n F w0 M k ops Hq rest ((t, v) :: e) (L' x ++ R)) :
    QF P ro n F w0 M k ops Hq (⟨some t, .call { callee := .value f, args := as.toArray, argTypes := tys }, ty, pos, af, none⟩ :: rest) e H := .mk fun w hs => by
  have hs1 : Sat w0 M (L0 ++ (R ++ Hq)) w := by
    rw [← List.append_assoc]
    exact hs.sp (Sp.app hH Hq)
  refine yf_call hT hf hg has_ ht (hc w hs1) (fun v w' ⟨x, hx, hs'⟩ => ?_)
  have hs2 := hs1.call hs' hM
  exact ⟨hs2.right.right, h x v hx w' (by rw [List.append_assoc]; exact hs2)⟩

theorem qf_callv (hT : T.Ok P) {t : Nat} {f : Operand} {as : List Operand} {tys : Array TypeId} {ty : TypeId} {pos : String} {af : Array Edge} {g : Nat} {first caps : Array Value} {vs : List Value} {val : Value}
    (hf : opv e f = some (.func (.func g) first caps)) (hg : has T.fn g = true) (has_ : opvs e as = some vs) (ht : Nat.blt t n = true)
    (hc : ∀ w, Sat w0 M (H ++ Hq) w → Ca P g (first.toList ++ vs ++ caps.toList) w fun v w' => v = val ∧ Chg [] w w')
    (h : QF P ro n F w0 M k ops Hq rest ((t, val) :: e) H) :
    QF P ro n F w0 M k ops Hq (⟨some t, .call { callee := .value f, args := as.toArray, argTypes := tys }, ty, pos, af, none⟩ :: rest) e H := .mk fun w hs =>
  yf_call hT hf hg has_ ht (hc w hs) (fun v w' ⟨hv, hc'⟩ => by rw [hv]; exact ⟨(hs.keep hc').right, h w' (hs.keep hc')⟩)

/-! Comparing -/
theorem ql_eqnil (hT : T.Ok P) {d t t' : Nat} {x y : Operand} {a : Option Addr} {m c m' c' : Nat} {ty : TypeId} {pos : String} {af : Array Edge} (h : has T.len t = true)
    (hx : opv e x = some (.slice a m c)) (hy : opv e y = some (.slice none m' c')) (hd : Nat.blt d n = true)
    (hk : QL P ro n F w0 M k ops rest ((d, .bool a.isNone) :: e) H) : QL P ro n F w0 M k ops (⟨some d, .binOp .eql t x y t', ty, pos, af, none⟩ :: rest) e H := .mk fun w hs => yl_eqnil hT h hx hy hd (hk w hs)
theorem ql_neqnil (hT : T.Ok P) {d t t' : Nat} {x y : Operand} {a : Option Addr} {m c m' c' : Nat} {ty : TypeId} {pos : String} {af : Array Edge} (h : has T.len t = true)
    (hx : opv e x = some (.slice a m c)) (hy : opv e y = some (.slice none m' c')) (hd : Nat.blt d n = true)
    (hk : QL P ro n F w0 M k ops rest ((d, .bool (!a.isNone)) :: e) H) : QL P ro n F w0 M k ops (⟨some d, .binOp .neq t x y t', ty, pos, af, none⟩ :: rest) e H := .mk fun w hs => yl_neqnil hT h hx hy hd (hk w hs)

/-! The beginning and the end of a function -/
theorem q_of {g : FuncId} {fn : Func} {c : Code} {args : List Value} {w : World} {R : Value → World → Prop} (hs : Sat w M H w) (hfn : P.funcs[g]? = some fn) (hb : fn.body = some c) (hn : args.length ≤ fn.ntmps)
    (h : Q P ⟨none, []⟩ fn.ntmps (fin P fn R) w M [.code c] (env0 0 args) H) : Ca P g args w R := ca_of hfn hb hn (h w hs)
theorem q_fin1 {r : Option Nat} {fn : Func} {R : Value → World → Prop} {t : Nat} {v : Value} (hres : fn.results = #[.tmp t]) (hv : look e t = some v) (hR : ∀ w, Sat w0 M H w → R v w) : Q P ⟨r, []⟩ n (fun _ => fin P fn R .ret) w0 M [] e H := .mk fun w hs => y_fin1 hres hv (hR w hs)
theorem q_fin2 {r : Option Nat} {fn : Func} {R : Value → World → Prop} {t s : Nat} {v u : Value} (hres : fn.results = #[.tmp t, .tmp s]) (hv : look e t = some v) (hu : look e s = some u) (hR : ∀ w, Sat w0 M H w → R (.tuple #[v, u]) w) : Q P ⟨r, []⟩ n (fun _ => fin P fn R .ret) w0 M [] e H := .mk fun w hs => y_fin2 hres hv hu (hR w hs)
theorem q_fin3 {r : Option Nat} {fn : Func} {R : Value → World → Prop} {t s q : Nat} {v u x : Value} (hres : fn.results = #[.tmp t, .tmp s, .tmp q]) (hv : look e t = some v) (hu : look e s = some u) (hx : look e q = some x) (hR : ∀ w, Sat w0 M H w → R (.tuple #[v, u, x]) w) : Q P ⟨r, []⟩ n (fun _ => fin P fn R .ret) w0 M [] e H := .mk fun w hs =>
  y_fin (fun a hf => by
    have h1 := hf.at_ t v hv
    have h2 := hf.at_ s u hu
    have h3 := hf.at_ q x hx
    simp only [Array.getD_eq_getD_getElem?] at h1 h2 h3
    simp [results, hres, h1, h2, h3]) (hR w hs)
theorem q_fin0 {r : Option Nat} {fn : Func} {R : Value → World → Prop} (hres : fn.results = #[]) (hR : ∀ w, Sat w0 M H w → R (.tuple #[]) w) : Q P ⟨r, []⟩ n (fun _ => fin P fn R .ret) w0 M [] e H := .mk fun w hs => y_fin0 hres (hR w hs)
theorem q_end0 {r : Option Nat} {fn : Func} {R : Value → World → Prop} (hres : fn.results = #[]) (hR : ∀ w, Sat w0 M H w → R (.tuple #[]) w) : Q P ⟨r, []⟩ n (fin P fn R) w0 M [] e H := .mk fun w hs => y_end0 hres (hR w hs)
end
end Go.Eng
