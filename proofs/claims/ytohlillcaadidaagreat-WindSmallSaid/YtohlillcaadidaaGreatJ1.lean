/- My texts A1, A2, A3, A4, A5, A6, A7, A8, A9, Num, Lib1, Lib2, B1, B2, B3, B4, Tab, V0, V1, joined: a claim takes at most 60 files. -/
import Derived.CallsIn
import Derived.OrdersIn
import Derived.Tactics
import Derived.RangeFuncIn
import Derived.LoopNIn
import Derived.RowKit3
import Derived.Below
import Derived.TacticsIn
import Derived.Laws.OwnMore
import Derived.OwnWalk
import Derived.Scope
import Derived.WalkSpells
import Derived.Great.BuildSlice
import Derived.KernelRfl
import Derived.RangeFuncRecord
import Derived.Test.YtohlillcaadidaaGreatProg

/- The engine, part 1 (with deferred marks): an environment of known slots, a stack of code that is left, and the rules that step through it. -/
namespace Go.Eng
theorem Z.{u} {α : Sort u} {a : α} : a = a := rfl
theorem U {p : Prop} (h : p := by repeat constructor) : p := h
theorem O {p : Prop} (h : p := by omega) : p := h
theorem qR {p : Prop} (h : p := by kernel_rfl) : p := h
theorem qS {p : Prop} (h : p := by intro _ h; exact h.elim) : p := h
open Go

/-- Known slots. The first entry of a slot counts. -/
abbrev Env := List (Nat × Value)

def look : Env → Nat → Option Value
 | [], _ => none
 | (t, v) :: e, s => bif Nat.beq t s then some v else look e s

def opv (e : Env) : Operand → Option Value
 | .tmp t => look e t
 | .const v => some v
 | .global g => some (.pointer (some ⟨g, 0, none⟩))
 | .func f => some (.func (.func f) #[] #[])

/-- The frame agrees with the environment. -/
structure Fits (n : Nat) (e : Env) (a : Act) : Prop where
 size : a.tmps.size = n
 at_ : ∀ t v, look e t = some v → a.tmps.getD t undef = v

theorem Fits.op {n : Nat} {e : Env} {a : Act} (h : Fits n e a) {x : Operand} {v : Value} (hx : opv e x = some v) : a.eval x = v := by
 cases x with
 | tmp t => exact h.at_ t v hx
 | const u => simpa [opv, Act.eval] using hx
 | global g => simpa [opv, Act.eval] using hx
 | func f => simpa [opv, Act.eval] using hx

theorem Fits.put {n : Nat} {e : Env} {a : Act} (h : Fits n e a) {t : Nat} (v : Value) (ht : Nat.blt t n = true) : Fits n ((t, v) :: e) (a.put (some t) v) := by
 have ht' : t < n := by simpa [Nat.blt_eq] using ht
 refine ⟨by simp [Act.put, h.size], fun s u hs => ?_⟩
 simp only [look] at hs
 by_cases hst : t = s
 ·subst hst
  simp at hs
  subst hs
  simp [Act.put, Array.getD, h.size, ht']
 ·have : Nat.beq t s = false := by
   cases hb : Nat.beq t s
   ·rfl
   ·exact absurd (Nat.eq_of_beq_eq_true hb) hst
  rw [this] at hs
  have := h.at_ s u hs
  simpa [Act.put, Array.getElem?_setIfInBounds_ne hst] using this

/-- What a smaller environment knows. -/
def Sub : Env → Env → Prop
 | [], _ => True
 | (t, v) :: l, e => look e t = some v ∧ Sub l e

theorem Sub.look {l e : Env} (h : Sub l e) {t : Nat} {v : Value} (ht : Eng.look l t = some v) : Eng.look e t = some v := by
 induction l with
 | nil => simp [Eng.look] at ht
 | cons p l ih =>
  obtain ⟨s, u⟩ := p
  simp only [Eng.look] at ht
  cases hb : Nat.beq s t with
  | true =>
   rw [hb] at ht
   simp at ht
   have := Nat.eq_of_beq_eq_true hb
   subst this; subst ht
   exact h.1
  | false =>
   rw [hb] at ht
   exact ih h.2 ht

theorem Fits.sub {n : Nat} {e l : Env} {a : Act} (h : Fits n e a) (hs : Sub l e) : Fits n l a := ⟨h.size, fun t v ht => h.at_ t v (hs.look ht)⟩

/-- The fence of a plain activation, or of a round. -/
abbrev FR (r : Option Nat) : Fence := { Fence.wide with round := r }

/-- A round of which loop, or none; the deferred calls that the activation has. -/
structure Cx where
 ro : Option Nat
 ds : List Deferred

theorem mT {r : Option Nat} {n : Nat} {P : Program} {f : FuncId} {args : Array Value} {w : World} {R : Ending → World → Prop} (h : Calls P f args w R) : CallsIn (FR r) n P f args w R :=
 (callsIn_wide (n := n)).2 h

/-- What is left to be done. -/
inductive It where
 | code (c : Code)
 | blk (id : Nat)
 | k (K : Act → World → Prop)

abbrev Fin := Exit → Act → World → Prop

def S (P : Program) (r : Option Nat) (F : Fin) : List It → Fin
 | [] => F
 | .code c :: k => Exit.then (fun a w => c.wpIn (FR r) 0 P (S P r F k) a w) (S P r F k)
 | .blk id :: k => Exit.inBlock id (S P r F k)
 | .k K :: k => Exit.then K (S P r F k)

/-- From the environment 'e' and the world 'w' what is left leads to 'F'. -/
def Y (P : Program) (ro : Cx) (n : Nat) (F : Fin) (k : List It) (e : Env) (w : World) : Prop :=
 ∀ a, Fits n e a → a.defers = ro.ds → S P ro.ro F k .normal a w

section rules
variable {P : Program} {ro : Cx} {n : Nat} {F : Fin} {k : List It} {e : Env} {w : World}

theorem Y.sub {l : Env} (h : Y P ro n F k l w) (hs : Sub l e) : Y P ro n F k e w := fun a hf hd => h a (hf.sub hs) hd

theorem fQ {c d : Code} (h : Y P ro n F (.code c :: .code d :: k) e w) : Y P ro n F (.code (.seq c d) :: k) e w :=
 fun a hf hd => wpIn_seq (h a hf hd)

theorem y_skip (h : Y P ro n F k e w) : Y P ro n F (.code .skip :: k) e w := fun a hf hd => wpIn_skip (h a hf hd)

theorem y_label {l : Nat} (h : Y P ro n F k e w) : Y P ro n F (.code (.label l) :: k) e w := fun a hf hd => wpIn_label (h a hf hd)

theorem y_block {id : Nat} {c : Code} (h : Y P ro n F (.code c :: .blk id :: k) e w) : Y P ro n F (.code (.block id c) :: k) e w :=
 fun a hf hd => wpIn_block (h a hf hd)

theorem y_blk {id : Nat} (h : Y P ro n F k e w) : Y P ro n F (.blk id :: k) e w := h

/-- What is left behind the block that an exit leaves. -/
def qJ (id : Nat) : List It → Option (List It)
 | [] => none
 | .blk i :: k => bif Nat.beq id i then some k else qJ id k
 | _ :: k => qJ id k

theorem S_exit {r : Option Nat} {id : Nat} {k k' : List It} (h : qJ id k = some k') (a : Act) (w : World) (hs : S P r F k' .normal a w) : S P r F k (.exit id) a w := by
 induction k with
 | nil => simp [qJ] at h
 | cons i k ih =>
  cases i with
  | code c => exact ih (by simpa [qJ] using h)
  | k K => exact ih (by simpa [qJ] using h)
  | blk j =>
   simp only [qJ] at h
   cases hb : Nat.beq id j with
   | true =>
    rw [hb] at h
    simp at h
    have := Nat.eq_of_beq_eq_true hb
    subst this; subst h
    simpa [S, Exit.inBlock] using hs
   | false =>
    rw [hb] at h
    have hne : id ≠ j := fun e => by subst e; simp at hb
    simp only [S, Exit.inBlock, if_neg hne]
    exact ih h

theorem y_exit {id : Nat} (k' : List It) (hk : qJ id k = some k') (h : Y P ro n F k' e w) : Y P ro n F (.code (.exit id) :: k) e w :=
 fun a hf hd => wpIn_exit (S_exit hk a w (h a hf hd))

theorem S_pass {r : Option Nat} {k : List It} {x : Exit} (hx : x = .ret ∨ x = .outgrown ∨ (∃ c, x = .panic c) ∨ ∃ l, x = .goto l) (a : Act) (w : World) (hs : F x a w) : S P r F k x a w := by
 induction k with
 | nil => exact hs
 | cons i k ih =>
  rcases hx with rfl | rfl | ⟨c, rfl⟩ | ⟨l, rfl⟩ <;> cases i <;> exact ih

theorem y_ret (h : Y P ro n (fun _ => F .ret) [] e w) : Y P ro n F (.code .ret :: k) e w :=
 fun a hf hd => wpIn_ret (S_pass (.inl rfl) a w (h a hf hd))

theorem y_cond {c : Operand} {x y : Code} {t : Bool} (hc : opv e c = some (.bool t)) (ht : t = true → Y P ro n F (.code x :: k) e w) (hf : t = false → Y P ro n F (.code y :: k) e w) :
  Y P ro n F (.code (.cond c x y) :: k) e w :=
 fun a hfit hd => wpIn_cond_split (hfit.op hc) (fun h => ht h a hfit hd) (fun h => hf h a hfit hd)

theorem y_cond_true {c : Operand} {x y : Code} (hc : opv e c = some (.bool true)) (h : Y P ro n F (.code x :: k) e w) :
  Y P ro n F (.code (.cond c x y) :: k) e w := y_cond hc (fun _ => h) (fun h => by cases h)

theorem y_cond_false {c : Operand} {x y : Code} (hc : opv e c = some (.bool false)) (h : Y P ro n F (.code y :: k) e w) :
  Y P ro n F (.code (.cond c x y) :: k) e w := y_cond hc (fun h => by cases h) (fun _ => h)

theorem roundsIn_mono {r : Option Nat} {body : Code} {Q : Fin} {i j : Nat} (hij : i ≤ j) {a : Act} {w : World} (h : Code.roundsIn (FR r) 0 P body Q i a w) : Code.roundsIn (FR r) 0 P body Q j a w := by
 induction i generalizing j a w with
 | zero => exact h.elim
 | succ i ih =>
  cases j with
  | zero => omega
  | succ j =>
   refine wpIn_mono h fun x a w hq => ?_
   cases x <;> first | exact ih O hq | exact hq

/-- A loop: 'I m l w' holds at each round's head, l being what is known there; each round lowers m. -/
theorem y_loop {body : Code} (I : Nat → Env → World → Prop) {m : Nat} {l : Env} (h0 : I m l w) (hs : Sub l e)
  (round : ∀ m l w, I m l w → ∀ K : Act → World → Prop, (∀ m' l' e' w', I m' l' w' → m' < m → Sub l' e' → ∀ a, Fits n e' a → a.defers = ro.ds → K a w') → Y P ro n F (.code body :: .k K :: k) l w) :
  Y P ro n F (.code (.loop body) :: k) e w := by
 intro a hf hd
 have key : ∀ m l w, I m l w → ∀ a, Fits n l a → a.defers = ro.ds → Code.roundsIn (FR ro.ro) 0 P body (S P ro.ro F k) (m + 1) a w := by
  intro m
  induction m using Nat.strongRecOn with
  | _ m ih =>
   intro l w hI a hf hd
   exact round m l w hI (Code.roundsIn (FR ro.ro) 0 P body (S P ro.ro F k) m) (fun m' l' e' w' hI' hlt hs' a' hf' hd' => roundsIn_mono O (ih m' hlt l' w' hI' a' (hf'.sub hs') hd')) a hf hd
 exact wpIn_loop_rounds (m + 1) (key m l w h0 a (hf.sub hs) hd)

theorem y_k {K : Act → World → Prop} (h : ∀ a, Fits n e a → a.defers = ro.ds → K a w) : Y P ro n F (.k K :: k) e w := h

/-- Forget what is not needed. -/
theorem y_keep (l : Env) (hs : Sub l e) (h : Y P ro n F k l w) : Y P ro n F k e w := h.sub hs

end rules
end Go.Eng

/- The engine, part 2: the operations of a region, one by one. -/
namespace Go.Eng
open Go

/-- What the walk reads off the program's types, once: offsets of fields, sizes. -/
structure Tab where
 foff : List ((Nat × Nat) × Nat)
 esz : List (Nat × (Nat × Nat))
 one : List Nat
 agg : List (Nat × Nat)
 len : List Nat
 iks : List (Nat × IntKind)
 fn : List Nat

def find2 : List ((Nat × Nat) × Nat) → Nat → Nat → Option Nat
 | [], _, _ => none
 | ((a, b), c) :: l, x, y => bif Nat.beq a x then (bif Nat.beq b y then some c else find2 l x y) else find2 l x y
def fU {α : Type} : List (Nat × α) → Nat → Option α
 | [], _ => none
 | (a, c) :: l, x => bif Nat.beq a x then some c else fU l x
def has : List Nat → Nat → Bool
 | [], _ => false
 | a :: l, x => bif Nat.beq a x then true else has l x

theorem find2_mem {l : List ((Nat × Nat) × Nat)} {x y c : Nat} (h : find2 l x y = some c) : ((x, y), c) ∈ l := by
 induction l with
 | nil => simp [find2] at h
 | cons p l ih =>
  obtain ⟨⟨a, b⟩, d⟩ := p
  simp only [find2] at h
  cases h1 : Nat.beq a x <;> rw [h1] at h <;> simp at h
  ·exact List.mem_cons_of_mem _ (ih h)
  ·cases h2 : Nat.beq b y <;> rw [h2] at h <;> simp at h
   ·exact List.mem_cons_of_mem _ (ih h)
   ·have e1 := Nat.eq_of_beq_eq_true h1
    have e2 := Nat.eq_of_beq_eq_true h2
    subst e1; subst e2; subst h
    exact List.mem_cons_self
theorem find1_mem {α : Type} {l : List (Nat × α)} {x : Nat} {c : α} (h : fU l x = some c) : (x, c) ∈ l := by
 induction l with
 | nil => simp [fU] at h
 | cons p l ih =>
  obtain ⟨a, d⟩ := p
  simp only [fU] at h
  cases h1 : Nat.beq a x <;> rw [h1] at h <;> simp at h
  ·exact List.mem_cons_of_mem _ (ih h)
  ·have e1 := Nat.eq_of_beq_eq_true h1
   subst e1; subst h
   exact List.mem_cons_self
theorem has_mem {l : List Nat} {x : Nat} (h : has l x = true) : x ∈ l := by
 induction l with
 | nil => simp [has] at h
 | cons a l ih =>
  simp only [has] at h
  cases h1 : Nat.beq a x <;> rw [h1] at h <;> simp at h
  ·exact List.mem_cons_of_mem _ (ih h)
  ·have e1 := Nat.eq_of_beq_eq_true h1
   subst e1
   exact List.mem_cons_self

def foffB (P : Program) (t i o : Nat) : Bool :=
 match P.underlying t with
 | some (.struct fs) => (match fs[i]? with | some f => Nat.beq f.offset o && (match P.info? f.type with | some i => !(Nat.beq i.size 0) | none => false) | none => false)
 | _ => false
def eszB (P : Program) (t e s : Nat) : Bool :=
 (match P.underlying t with | some (.slice e') => Nat.beq e e' | some (.array _ e') => Nat.beq e e' | _ => false) && (match P.info? e with | some i => Nat.beq i.size s | none => false)
def oneB (P : Program) (t : Nat) : Bool :=
 (match P.underlying t with | some (.struct _) => false | some (.array _ _) => false | some _ => true | none => false) && (match P.info? t with | some i => Nat.beq i.size 1 | none => false)
def aggB (P : Program) (t n : Nat) : Bool :=
 (match P.underlying t with | some (.struct _) => true | some (.array _ _) => true | _ => false) && (match P.info? t with | some i => Nat.beq i.size n | none => false)
def lenB (P : Program) (t : Nat) : Bool :=
 match P.underlying t with | some (.slice _) => true | _ => false
def ikEq : IntKind → IntKind → Bool
 | .i64, .i64 => true | .u8, .u8 => true | .u32, .u32 => true | .i32, .i32 => true | .u64, .u64 => true | _, _ => false
theorem ikEq_eq {a b : IntKind} (h : ikEq a b = true) : a = b := by
 cases a <;> cases b <;> first | rfl | simp [ikEq] at h
def ikB (P : Program) (t : Nat) (k : IntKind) : Bool :=
 match P.underlying t with | some (.int k') => ikEq k k' | _ => false
def fnB (P : Program) (f : Nat) : Bool :=
 match P.funcs[f]? with | some fn => fn.body.isSome && !(fn.name == "runtime.NumGoroutine") | none => false

def Tab.ok (T : Tab) (P : Program) : Bool :=
 T.foff.all (fun p => foffB P p.1.1 p.1.2 p.2) && T.esz.all (fun p => eszB P p.1 p.2.1 p.2.2) && T.one.all (oneB P) && T.agg.all (fun p => aggB P p.1 p.2) && T.len.all (lenB P) && T.iks.all (fun p => ikB P p.1 p.2) && T.fn.all (fnB P)

structure Tab.Ok (T : Tab) (P : Program) : Prop where
 foff : ∀ t i o, find2 T.foff t i = some o → foffB P t i o = true
 esz : ∀ t e s, fU T.esz t = some (e, s) → eszB P t e s = true
 one : ∀ t, has T.one t = true → oneB P t = true
 agg : ∀ t n, fU T.agg t = some n → aggB P t n = true
 len : ∀ t, has T.len t = true → lenB P t = true
 iks : ∀ t k, fU T.iks t = some k → ikB P t k = true
 fn : ∀ f, has T.fn f = true → fnB P f = true

theorem Tab.ok_spec {T : Tab} {P : Program} (h : T.ok P = true) : T.Ok P := by
 simp only [Tab.ok, Bool.and_eq_true, List.all_eq_true] at h
 obtain ⟨⟨⟨⟨⟨⟨h1, h2⟩, h3⟩, h4⟩, h5⟩, h7⟩, h6⟩ := h
 exact ⟨fun t i o hh => h1 _ (find2_mem hh), fun t e s hh => h2 _ (find1_mem hh), fun t hh => h3 _ (has_mem hh), fun t n hh => h4 _ (find1_mem hh), fun t hh => h5 _ (has_mem hh), fun t k hh => h7 _ (find1_mem hh), fun f hh => h6 _ (has_mem hh)⟩

/-! ### Pure operations -/

def binV (op : BinOp) (k : IntKind) (a b : Int) : Option Value :=
 match op with
 | .add => some (.int k (k.wrap (a + b)))
 | .sub => some (.int k (k.wrap (a - b)))
 | .mul => some (.int k (k.wrap (a * b)))
 | .lss => some (.bool (decide (a < b)))
 | .leq => some (.bool (decide (a ≤ b)))
 | .gtr => some (.bool (decide (b < a)))
 | .geq => some (.bool (decide (b ≤ a)))
 | .eql => some (.bool (decide (a = b)))
 | .neq => some (.bool (!decide (a = b)))
 | _ => none

def kindEq : IntKind → IntKind → Bool
 | .i64, .i64 => true | .u8, .u8 => true | .u32, .u32 => true | .i32, .i32 => true | .u64, .u64 => true | _, _ => false

def qP (e : Env) : List Operand → Option (List Value)
 | [] => some []
 | x :: l => match opv e x, qP e l with
  | some v, some vs => some (v :: vs)
  | _, _ => none

def lenV (T : Tab) (e : Env) (c : Call) : Option Value :=
 match c.callee, c.args.toList, c.argTypes.toList with
 | .builtin .len, [x], [t] => (match opv e x, has T.len t with
  | some (.slice _ n _), true => some (.int .i64 n)
  | _, _ => none)
 | .builtin .max, [x, y], _ => (match opv e x, opv e y with
  | some (.int k a), some (.int _ b) => some (.int k (max a b))
  | _, _ => none)
 | .builtin .min, [x, y], _ => (match opv e x, opv e y with
  | some (.int k a), some (.int _ b) => some (.int k (min a b))
  | _, _ => none)
 | .builtin .max, [x, y, z], _ => (match opv e x, opv e y, opv e z with
  | some (.int k a), some (.int _ b), some (.int _ c) => some (.int k (max (max a b) c))
  | _, _, _ => none)
 | _, _, _ => none

/-- What a pure operation yields. -/
def evp (T : Tab) (e : Env) : Op → Option Value
 | .move x => opv e x
 | .assign x => opv e x
 | .pick c a b => match opv e c with
  | some (.bool true) => opv e a
  | some (.bool false) => opv e b
  | _ => none
 | .binOp op _ x y _ => match opv e x, opv e y with
  | some (.int k a), some (.int k' b) => bif kindEq k k' then binV op k a b else none
  | _, _ => none
 | .unOp .neg _ x => match opv e x with
  | some (.int k a) => some (.int k (k.wrap (0 - a)))
  | _ => none
 | .unOp .not _ x => match opv e x with
  | some (.bool b) => some (.bool (!b))
  | _ => none
 | .nilCheck x => match opv e x with
  | some (.pointer (some a)) => some (.pointer (some a))
  | _ => none
 | .fieldAddr t x i => match find2 T.foff t i, opv e x with
  | some o, some (.pointer (some ⟨b, off, none⟩)) => some (.pointer (some ⟨b, off + o, none⟩))
  | _, _ => none
 | .extract x i => match opv e x with
  | some (.tuple vs) => vs[i]?
  | _ => none
 | .makeFunc fn first caps => match qP e first.toList, qP e caps.toList with
  | some f, some c => some (.func fn f.toArray c.toArray)
  | _, _ => none
 | .convert s d x => match fU T.iks s, fU T.iks d, opv e x with
  | some _, some k, some (.int _ m) => some (.int k (k.wrap m))
  | _, _, _ => none
 | .call c => lenV T e c
 | _ => none

theorem Fits.ops {n : Nat} {e : Env} {a : Act} (h : Fits n e a) : ∀ {l : List Operand} {vs : List Value}, qP e l = some vs → l.map a.eval = vs
 | [], vs, hx => by simp [qP] at hx; simp [hx]
 | x :: l, vs, hx => by
  simp only [qP] at hx
  cases h1 : opv e x with
  | none => simp [h1] at hx
  | some v =>
   cases h2 : qP e l with
   | none => simp [h1, h2] at hx
   | some us =>
    simp [h1, h2] at hx
    subst hx
    simp [h.op h1, h.ops h2]

theorem pX {a b : IntKind} (h : kindEq a b = true) : a = b := by
 cases a <;> cases b <;> first | rfl | simp [kindEq] at h

theorem run_binV {P : Program} {w : World} {op : BinOp} {k : IntKind} {a b : Int} {v : Value} (t : TypeId) (h : binV op k a b = some v) : (binOp op t (.int k a) (.int k b)).run P w = .ok v w := by
 cases op <;> simp [binV] at h <;> subst h <;> simp [binOp, Op.intArith, Op.intCmp, pure]
 ·rfl
 ·rfl

variable {P : Program} {T : Tab}

theorem evp_run (hT : T.Ok P) {n : Nat} {e : Env} {a : Act} (hf : Fits n e a) {o : Oper} {v : Value} (h : evp T e o.op = some v) (w : World) :
  (execOp a.eval o).run P w = .ok (.value v) w := by
 unfold execOp
 cases hop : o.op <;> rw [hop] at h <;> simp only [evp] at h <;> dsimp only
 case move x => rw [hf.op h]; rfl
 case assign x => rw [hf.op h]; rfl
 case pick c x y =>
  cases hc : opv e c with
  | none => simp [hc] at h
  | some u =>
   cases u <;> simp [hc] at h
   case bool b =>
    cases b <;> simp at h <;> simp [hf.op hc, hf.op h, asBool]
 case binOp op xt x y yt =>
  split at h
  ·rename_i k m k' m' h1 h2
   cases hk : kindEq k k' <;> rw [hk] at h <;> simp at h
   have := pX hk
   subst this
   have hr := run_binV (P := P) (w := w) xt h
   simp [hf.op h1, hf.op h2, eqGuard, hr]
  ·cases h
 case unOp op xt x =>
  cases op <;> simp at h
  case neg =>
   split at h
   ·rename_i k m h1
    cases h
    simp [hf.op h1, Op.unary, Op.intArith]
   ·cases h
  case not =>
   split at h
   ·rename_i b h1
    cases h
    simp [hf.op h1, Op.unary]
   ·cases h
 case nilCheck x =>
  split at h
  ·rename_i ad h1
   cases h
   simp [hf.op h1]
  ·cases h
 case fieldAddr t x i =>
  split at h
  ·rename_i off b o' hfo h1
   cases h
   have := hT.foff _ _ _ hfo
   simp only [foffB] at this
   split at this
   ·rename_i fs hu
    split at this
    ·rename_i f hff
     simp only [Bool.and_eq_true] at this
     obtain ⟨ho, hz⟩ := this
     have ho := Nat.eq_of_beq_eq_true ho
     subst ho
     split at hz
     ·rename_i i hi
      have hi0 : i.size ≠ 0 := by intro e0; rw [e0] at hz; simp at hz
      rw [hf.op h1]
      simp [go_sem, run_underlying hu, hff, typeInfo, hi, hi0, sizeOf]
     ·cases hz
    ·cases this
   ·cases this
  ·cases h
 case extract x i =>
  split at h
  ·rename_i vs h1
   simp [hf.op h1, Instr.extract, h]
  ·cases h
 case makeFunc fn first caps =>
  split at h
  ·rename_i f c h1 h2
   cases h
   have e1 := hf.ops h1
   have e2 := hf.ops h2
   have e1' : first.map a.eval = f.toArray := by
    apply Array.ext'
    simpa using e1
   have e2' : caps.map a.eval = c.toArray := by
    apply Array.ext'
    simpa using e2
   simp [Instr.makeFunc, e1', e2']
  ·cases h
 case convert s d x =>
  split at h
  ·rename_i ks k kx m h1 h2 h3
   cases h
   have a1 := hT.iks _ _ h1
   have a2 := hT.iks _ _ h2
   simp only [ikB] at a1 a2
   split at a1
   ·rename_i k1 hu1
    split at a2
    ·rename_i k2 hu2
     have := ikEq_eq a2
     subst this
     rw [hf.op h3]
     simp [convert, run_underlying hu1, run_underlying hu2, Conv.intToInt]
    ·cases a2
   ·cases a1
  ·cases h
 case call c =>
  obtain ⟨cal, ars, tys⟩ := c
  simp only [lenV] at h
  split at h
  ·rename_i _ _ _ x t ha ht
   split at h
   ·rename_i aa m cc h1 h2
    cases h
    have := hT.len _ h2
    simp only [lenB] at this
    split at this
    ·rename_i el hu
     obtain rfl : ars = #[x] := Array.ext' ha
     obtain rfl : tys = #[t] := Array.ext' ht
     have e0 := hf.op h1
     simp only [resolve, List.map_toArray, List.map_cons, List.map_nil, e0]
     simp [invoke, builtin, Builtin.len_, run_underlying hu, goInt]
    ·cases this
   ·cases h
  ·rename_i _ _ _ x y ha
   split at h
   ·rename_i kx ax ky ay h1 h2
    cases h
    obtain rfl : ars = #[x, y] := Array.ext' ha
    have e0 := hf.op h1
    have e1 := hf.op h2
    simp only [resolve, List.map_toArray, List.map_cons, List.map_nil, e0, e1]
    have : (if ax < ay then ay else ax) = max ax ay := by simp only [Int.max_def]; split <;> split <;> omega
    simp [invoke, builtin, Builtin.max_, Builtin.max2, this]
   ·cases h
  ·rename_i _ _ _ x y ha
   split at h
   ·rename_i kx ax ky ay h1 h2
    cases h
    obtain rfl : ars = #[x, y] := Array.ext' ha
    have e0 := hf.op h1
    have e1 := hf.op h2
    simp only [resolve, List.map_toArray, List.map_cons, List.map_nil, e0, e1]
    have : (if ay < ax then ay else ax) = min ax ay := by simp only [Int.min_def]; split <;> split <;> omega
    simp [invoke, builtin, Builtin.min_, Builtin.min2, this]
   ·cases h
  ·rename_i _ _ _ x y z ha
   split at h
   ·rename_i kx ax ky ay kz az h1 h2 h3
    cases h
    obtain rfl : ars = #[x, y, z] := Array.ext' ha
    have e0 := hf.op h1
    have e1 := hf.op h2
    have e2 := hf.op h3
    simp only [resolve, List.map_toArray, List.map_cons, List.map_nil, e0, e1, e2]
    have q : ∀ p q : Int, (if p < q then q else p) = max p q := fun p q => by simp only [Int.max_def]; split <;> split <;> omega
    simp [invoke, builtin, Builtin.max_, Builtin.max2, q]
   ·cases h
  ·cases h
 all_goals cases h


/-! ### A region, operation by operation -/

/-- What is left of a region. -/
def YL (P : Program) (ro : Cx) (n : Nat) (F : Fin) (k : List It) (ops : Array Oper) (l : List Oper) (e : Env) (w : World) : Prop :=
 ∀ a, Fits n e a → a.defers = ro.ds → wpListIn (FR ro.ro) 0 P ops (S P ro.ro F k) l a w

section
variable {ro : Cx} {n : Nat} {F : Fin} {k : List It} {ops : Array Oper} {l rest : List Oper} {e : Env} {w : World} {o : Oper}

theorem cQ {id : Nat} {l : List Oper} (h : YL P ro n F k l.toArray l e w) : Y P ro n F (.code (.region id l.toArray false) :: k) e w :=
 fun a hf hd => wpIn_region_lit (h a hf hd)

theorem yl_nil (h : Y P ro n F k e w) : YL P ro n F k ops [] e w := fun a hf hd => wpListIn_nil (h a hf hd)

theorem pL {r : Option Nat} (f : FuncId) : (FR r).fn f := trivial

theorem upon_FR {nx : Act → World → Prop} {a : Act} {Q : Fin} {v : Value} {w' : World} (hop : ∀ c, o.op ≠ .defer c) (hr : (execOp a.eval o).run P w = .ok (.value v) w') (h : nx (a.put o.dst v) w') : o.wpIn (FR ro.ro) 0 P a w nx Q := by
 refine ⟨fun f _ => pL f, ?_⟩
 rw [Oper.semAt_eq _ _ _ hop, hr]
 exact h

theorem upon_FR_skip {nx : Act → World → Prop} {a : Act} {Q : Fin} {w' : World} (hop : ∀ c, o.op ≠ .defer c) (hr : (execOp a.eval o).run P w = .ok .skip w') (h : nx (a.put o.dst undef) w') : o.wpIn (FR ro.ro) 0 P a w nx Q := by
 refine ⟨fun f _ => pL f, ?_⟩
 rw [Oper.semAt_eq _ _ _ hop, hr]
 exact h

/-- An operation that yields a value. -/
theorem fZ {t : Nat} {v : Value} {w' : World} {op : Op} {ty : TypeId} {pos : String} {af : Array Edge} (hop : ∀ c, op ≠ .defer c) (ht : Nat.blt t n = true)
  (hr : ∀ a, Fits n e a → (execOp a.eval ⟨some t, op, ty, pos, af, none⟩).run P w = .ok (.value v) w') (h : YL P ro n F k ops rest ((t, v) :: e) w') :
  YL P ro n F k ops (⟨some t, op, ty, pos, af, none⟩ :: rest) e w := fun a hf hd =>
 wpListIn_plain rfl fun _ hK => upon_FR hop (hr a hf) (hK _ _ (h _ (hf.put v ht) (by simpa [Act.put] using hd)))

/-- An operation without a value. -/
theorem yl_do {w' : World} {op : Op} {ty : TypeId} {pos : String} {af : Array Edge} (hop : ∀ c, op ≠ .defer c)
  (hr : ∀ a, Fits n e a → (execOp a.eval ⟨none, op, ty, pos, af, none⟩).run P w = .ok .skip w') (h : YL P ro n F k ops rest e w') :
  YL P ro n F k ops (⟨none, op, ty, pos, af, none⟩ :: rest) e w := fun a hf hd =>
 wpListIn_plain rfl fun _ hK => upon_FR_skip hop (hr a hf) (hK _ _ (h _ hf hd))

theorem evp_defer {op : Op} {v : Value} (h : evp T e op = some v) (c : Call) : op ≠ .defer c := by
 rintro rfl
 simp [evp] at h

/-- A pure operation. -/
theorem cD (hT : T.Ok P) {t : Nat} {v : Value} {op : Op} {ty : TypeId} {pos : String} {af : Array Edge} (hv : evp T e op = some v) (ht : Nat.blt t n = true)
  (h : YL P ro n F k ops rest ((t, v) :: e) w) : YL P ro n F k ops (⟨some t, op, ty, pos, af, none⟩ :: rest) e w :=
 fZ (evp_defer hv) ht (fun _ hf => evp_run hT hf hv w) h

/-! #### Guards -/

/-- The Bool of the operation that guards. -/
def nH (ops : Array Oper) (e : Env) (j : Nat) : Option Bool :=
 match (ops[j]?).bind (·.dst) with
 | some t => (match look e t with | some (.bool b) => some b | _ => none)
 | none => none

theorem gX {a : Act} (hf : Fits n e a) {j : Nat} {b : Bool} (h : nH ops e j = some b) : yielded ops a.tmps j = some b := by
 simp only [nH] at h
 cases hd : (ops[j]?).bind (·.dst) with
 | none => simp [hd] at h
 | some t =>
  simp only [hd] at h
  cases hl : look e t with
  | none => simp [hl] at h
  | some v =>
   cases v <;> simp [hl] at h
   case bool c =>
    subst h
    have := hf.at_ t _ hl
    simp only [yielded, hd, Option.bind_some]
    cases hc : a.tmps[t]? with
    | none => simp [Array.getD_eq_getD_getElem?, hc, undef] at this
    | some u =>
     simp [Array.getD_eq_getD_getElem?, hc] at this
     simp [this]

theorem yl_guard_yes {dst : Option Nat} {op : Op} {ty : TypeId} {pos : String} {af : Array Edge} {j : Nat} {b : Bool} (hg : nH ops e j = some b)
  (h : YL P ro n F k ops (⟨dst, op, ty, pos, af, none⟩ :: rest) e w) : YL P ro n F k ops (⟨dst, op, ty, pos, af, some (j, b)⟩ :: rest) e w := fun a hf hd => by
 have h1 := h a hf hd
 have hy := gX hf hg
 simp only [wpListIn, Region.wanted, if_true] at h1
 simp only [wpListIn, Region.wanted, hy, beq_self_eq_true, if_true]
 exact h1

theorem yl_guard_no {t : Nat} {op : Op} {ty : TypeId} {pos : String} {af : Array Edge} {j : Nat} {b c : Bool} (hg : nH ops e j = some c) (hne : (c == b) = false) (ht : Nat.blt t n = true)
  (h : YL P ro n F k ops rest ((t, undef) :: e) w) : YL P ro n F k ops (⟨some t, op, ty, pos, af, some (j, b)⟩ :: rest) e w := fun a hf hd => by
 have hy := gX hf hg
 have hw : (some c == some b) = false := by simpa using hne
 simp only [wpListIn, Region.wanted, hy, hw]
 exact ⟨fun f _ => pL f, h _ (hf.put undef ht) (by simpa [Act.put] using hd)⟩

/-! #### Calls -/

/-- A call of function g returns what R says. -/
def Ca (P : Program) (g : FuncId) (args : List Value) (w : World) (R : Value → World → Prop) : Prop :=
 Calls P g args.toArray w fun e w' => ∃ v, e = .returned v ∧ R v w'

theorem Ca.mono {g : FuncId} {args : List Value} {R R' : Value → World → Prop} (h : Ca P g args w R) (hr : ∀ v w', R v w' → R' v w') : Ca P g args w R' :=
 Calls.mono h fun _ _ ⟨v, he, hR⟩ => ⟨v, he, hr _ _ hR⟩

theorem run_callFunc (hT : T.Ok P) {g : Nat} (hg : has T.fn g = true) (args : Array Value) : (callFunc g args).run P w = .ok (.enter g args) w := by
 have h1 := hT.fn _ hg
 simp only [fnB] at h1
 split at h1
 ·rename_i fn hfn
  simp only [Bool.and_eq_true, Bool.not_eq_true'] at h1
  obtain ⟨hb, hn⟩ := h1
  have hn' : ¬ fn.name = "runtime.NumGoroutine" := by simpa using hn
  have hb2 : ¬ fn.body = none := by intro h0; rw [h0] at hb; cases hb
  simp [callFunc, hfn, hn', hb2]
 ·cases h1

theorem jF (hT : T.Ok P) {t : Nat} {f : Operand} {ars : List Operand} {tys : Array TypeId} {ty : TypeId} {pos : String} {af : Array Edge} {g : Nat} {first caps : Array Value} {vs : List Value} {R : Value → World → Prop}
  (hf : opv e f = some (.func (.func g) first caps)) (hg : has T.fn g = true) (has_ : qP e ars = some vs) (ht : Nat.blt t n = true)
  (hc : Ca P g (first.toList ++ vs ++ caps.toList) w R) (h : ∀ v w', R v w' → YL P ro n F k ops rest ((t, v) :: e) w') :
  YL P ro n F k ops (⟨some t, .call { callee := .value f, args := ars.toArray, argTypes := tys }, ty, pos, af, none⟩ :: rest) e w := fun a hfit hd =>
 wpListIn_plain rfl fun K hK => by
  refine ⟨fun f _ => pL f, ?_⟩
  rw [Oper.semAt_eq _ _ _ (by simp)]
  have e1 := hfit.op hf
  have e2 := hfit.ops has_
  have hrun : (execOp a.eval ⟨some t, .call { callee := .value f, args := ars.toArray, argTypes := tys }, ty, pos, af, none⟩).run P w = .ok (.enter g (first.toList ++ vs ++ caps.toList).toArray) w := by
   simp only [execOp, resolve, List.map_toArray, e1, e2, Deferred.ofValue]
   simp [invoke, run_callFunc hT hg]
  rw [hrun]
  refine ⟨fun hx => by simp [Fence.wide] at hx, mT (Calls.mono hc ?_)⟩
  rintro x w' ⟨v, rfl, hR⟩
  exact hK _ _ (h v w' hR _ (hfit.put v ht) (by simpa [Act.put] using hd))

/-! #### The function's beginning and end -/

/-- The end of a function: what its results are. -/
def fin (P : Program) (fn : Func) (R : Value → World → Prop) : Fin := bodyPost P fn fun e w' => ∃ v, e = .returned v ∧ R v w'

/-- The beginning environment. -/
def env0 : Nat → List Value → Env
 | _, [] => []
 | i, v :: vs => (i, v) :: env0 (i + 1) vs

theorem look_env0 (vs : List Value) : ∀ i t v, look (env0 i vs) t = some v → i ≤ t ∧ vs[t - i]? = some v := by
 induction vs with
 | nil => intro i t v h; simp [env0, look] at h
 | cons u vs ih =>
  intro i t v h
  simp only [env0, look] at h
  cases hb : Nat.beq i t with
  | true =>
   rw [hb] at h
   have := Nat.eq_of_beq_eq_true hb
   subst this
   simp at h
   subst h
   simp
  | false =>
   rw [hb] at h
   obtain ⟨h1, h2⟩ := ih _ _ _ h
   refine ⟨by omega, ?_⟩
   rw [show t - i = (t - (i + 1)) + 1 from by omega, List.getElem?_cons_succ]
   exact h2

theorem ca_of {g : FuncId} {fn : Func} {c : Code} {args : List Value} {R : Value → World → Prop} (hfn : P.funcs[g]? = some fn) (hb : fn.body = some c) (hn : args.length ≤ fn.ntmps)
  (h : Y P ⟨none, []⟩ fn.ntmps (fin P fn R) [.code c] (env0 0 args) w) : Ca P g args w R := by
 refine (callsIn_wide (n := 0)).1 (callsIn_of_wp hfn hb trivial ?_ Z)
 have h1 := h { tmps := args.toArray ++ Array.replicate (fn.ntmps - args.toArray.size) undef, defers := [] } ⟨by simp; omega, fun t v ht => ?_⟩ rfl
 ·exact h1
 ·obtain ⟨_, h2⟩ := look_env0 args 0 t v ht
  simp at h2
  have hlt : t < args.length := (List.getElem?_eq_some_iff.1 h2).1
  have h3 : args[t] = v := by rw [List.getElem?_eq_getElem hlt] at h2; exact Option.some.inj h2
  simp [Array.getD_eq_getD_getElem?, Array.getElem?_append, hlt, h3]

theorem y_fin {r : Option Nat} {fn : Func} {R : Value → World → Prop} {v : Value} (hr : ∀ a, Fits n e a → (results fn a.tmps).run P w = .ok v w) (hR : R v w) : Y P ⟨r, []⟩ n (fun _ => fin P fn R .ret) [] e w :=
 fun a hf hd => ⟨hd, v, hr a hf, v, rfl, hR⟩

theorem jQ {r : Option Nat} {fn : Func} {R : Value → World → Prop} {t : Nat} {v : Value} (hres : fn.results = #[.tmp t]) (hv : look e t = some v) (hR : R v w) : Y P ⟨r, []⟩ n (fun _ => fin P fn R .ret) [] e w :=
 y_fin (fun a hf => by rw [results_tmp hres]; rw [hf.at_ t v hv]) hR

end

end Go.Eng

/- The engine, part 3: memory. -/
namespace Go.Eng
open Go Go.RowKit

/-- Blocks outside N are as they were. -/
structure Chg (N : List Nat) (w w' : World) : Prop where
 os : w'.os = w.os
 tape : w'.tape = w.tape
 output : w'.output = w.output
 size : w.heap.size ≤ w'.heap.size
 block : ∀ k, k < w.heap.size → k ∉ N → w'.heap[k]? = w.heap[k]?

theorem Chg.refl (N : List Nat) (w : World) : Chg N w w := ⟨rfl, rfl, rfl, Nat.le_refl _, fun _ _ _ => rfl⟩
theorem Chg.trans {N : List Nat} {a b c : World} (h : Chg N a b) (g : Chg N b c) : Chg N a c :=
 ⟨g.os.trans h.os, g.tape.trans h.tape, g.output.trans h.output, Nat.le_trans h.size g.size, fun k hk hn => (g.block k (Nat.lt_of_lt_of_le hk h.size) hn).trans (h.block k hk hn)⟩
theorem Chg.mono {N M : List Nat} {a b : World} (h : Chg N a b) (hs : ∀ k ∈ N, k ∈ M) : Chg M a b :=
 ⟨h.os, h.tape, h.output, h.size, fun k hk hn => h.block k hk (fun hk' => hn (hs k hk'))⟩
theorem Chg.nil {N : List Nat} {a b : World} (h : Chg [] a b) : Chg N a b := h.mono (by simp)
theorem Chg.below {w w' : World} (h : Chg [] w w') : Below w.heap.size w w' := ⟨h.os, h.tape, h.output, h.size, fun k hk => h.block k hk (by simp)⟩
theorem Below.chg {B : Nat} {N : List Nat} {w0 w w' : World} (h : Below B w0 w) (c : Chg N w w') (hB : B ≤ w.heap.size) (hN : ∀ k ∈ N, B ≤ k) : Below B w0 w' :=
 h.trans ⟨c.os, c.tape, c.output, c.size, fun k hk => c.block k O (fun hk' => by have := hN k hk'; omega)⟩
theorem Chg.drew {N : List Nat} (w : World) : Chg N w { w with drawn := w.drawn + 1 } := ⟨rfl, rfl, rfl, Nat.le_refl _, fun _ _ _ => rfl⟩

/-- Block b holds these cells. -/
def Blk (w : World) (b : Nat) (cs : List Value) (t : TypeId) : Prop := w.heap[b]? = some (.cells cs.toArray t (0, 0))

theorem Blk.lt {w : World} {b : Nat} {cs : List Value} {t : TypeId} (h : Blk w b cs t) : b < w.heap.size := (Array.getElem?_eq_some_iff.1 h).1
theorem Blk.chg {w w' : World} {b : Nat} {cs : List Value} {t : TypeId} {N : List Nat} (h : Blk w b cs t) (c : Chg N w w') (hb : b ∉ N) : Blk w' b cs t := (c.block b h.lt hb).trans h
theorem Blk.keep {w w' : World} {b : Nat} {cs : List Value} {t : TypeId} (h : Blk w b cs t) (c : Chg [] w w') : Blk w' b cs t := h.chg c (by simp)
theorem Blk.cell {w : World} {b : Nat} {cs : List Value} {t : TypeId} (h : Blk w b cs t) (i : Nat) : w.cell? ⟨b, i, none⟩ = cs[i]? := by
 unfold Blk at h
 simp [World.cell?, h]
theorem Blk.frozen {w : World} {b : Nat} {cs : List Value} {t : TypeId} (h : Blk w b cs t) (i : Nat) : w.frozen? ⟨b, i, none⟩ = false := by
 unfold Blk at h
 simp [World.frozen?, h]

/-- The world with another object in block b. -/
def upd (w : World) (b : Nat) (o : Obj) : World := { w with heap := w.heap.setIfInBounds b o }

theorem upd_chg (w : World) (b : Nat) (o : Obj) : Chg [b] w (upd w b o) :=
 ⟨rfl, rfl, rfl, by simp [upd], fun k _ hn => by
  simp only [List.mem_singleton] at hn
  simp [upd, Array.getElem?_setIfInBounds_ne (Ne.symm hn)]⟩
theorem upd_blk {w : World} {b : Nat} {cs : List Value} {t : TypeId} (h : b < w.heap.size) : Blk (upd w b (.cells cs.toArray t (0, 0))) b cs t := by
 simp [Blk, upd, h]
theorem upd_size (w : World) (b : Nat) (o : Obj) : (upd w b o).heap.size = w.heap.size := by simp [upd]

theorem eQ (w : World) (o : Obj) : Chg [] w (w.alloc o) :=
 ⟨rfl, rfl, rfl, by simp, fun k hk _ => Below.heap_alloc w o k hk⟩

theorem oT {w : World} {b i : Nat} {cs : List Value} {t : TypeId} (h : Blk w b cs t) (v : Value) : w.setCell ⟨b, i, none⟩ v = upd w b (.cells (cs.set i v).toArray t (0, 0)) := by
 unfold Blk at h
 have hlt := (Array.getElem?_eq_some_iff.1 h).1
 have hget := (Array.getElem?_eq_some_iff.1 h).2
 unfold World.setCell upd
 congr 1
 apply Array.ext_getElem?
 intro k
 simp only [Array.getElem?_modify]
 by_cases hk : b = k
 ·subst hk
  simp [hlt, hget]
 ·simp [hk, Array.getElem?_setIfInBounds_ne hk]

theorem gH (w : World) (cs : Array Value) (t : TypeId) : Blk (w.alloc (.cells cs t)) w.heap.size cs.toList t := by
 show (w.heap.push _)[w.heap.size]? = _
 simp

def dY : Value → Bool
 | .agg _ | .tuple _ => false
 | _ => true

variable {P : Program} {T : Tab}

section
variable {ro : Cx} {n : Nat} {F : Fin} {k : List It} {ops : Array Oper} {l rest : List Oper} {e : Env} {w : World}

theorem one_run (hT : T.Ok P) {t : Nat} (h : has T.one t = true) (w : World) : (isAgg t).run P w = .ok false w ∧ (sizeOf t).run P w = .ok 1 w := by
 have h1 := hT.one _ h
 simp only [oneB, Bool.and_eq_true] at h1
 obtain ⟨ha, hb⟩ := h1
 constructor
 ·split at ha <;> first | (cases ha; done) | (rename_i d hd1 hd2 hu; cases d <;> first | exact absurd rfl (hd1 _) | exact absurd rfl (hd2 _ _) | simp [isAgg, run_underlying hu])
 ·split at hb
  ·rename_i i hi
   have := Nat.eq_of_beq_eq_true hb
   simp [sizeOf, typeInfo, hi, this]
  ·cases hb

theorem agg_run (hT : T.Ok P) {t m : Nat} (h : fU T.agg t = some m) (w : World) : (isAgg t).run P w = .ok true w ∧ (sizeOf t).run P w = .ok m w := by
 have h1 := hT.agg _ _ h
 simp only [aggB, Bool.and_eq_true] at h1
 obtain ⟨ha, hb⟩ := h1
 constructor
 ·split at ha
  ·rename_i fs hu; simp [isAgg, run_underlying hu]
  ·rename_i a b hu; simp [isAgg, run_underlying hu]
  ·cases ha
 ·split at hb
  ·rename_i i hi
   have := Nat.eq_of_beq_eq_true hb
   simp [sizeOf, typeInfo, hi, this]
  ·cases hb

/-- Reading a variable of one cell. -/
theorem yl_load1 (hT : T.Ok P) {d t : Nat} {x : Operand} {ad : Addr} {v : Value} {ty : TypeId} {pos : String} {af : Array Edge}
  (hx : opv e x = some (.pointer (some ad))) (h1 : has T.one t = true) (hd : Nat.blt d n = true) (hc : w.cell? ad = some v)
  (h : YL P ro n F k ops rest ((d, v) :: e) w) : YL P ro n F k ops (⟨some d, .load t x, ty, pos, af, none⟩ :: rest) e w :=
 fZ (by simp) hd (fun a hf => by
  have e1 := hf.op hx
  obtain ⟨r1, _⟩ := one_run hT h1 w
  simp only [execOp, e1]
  simp [Instr.loadAt, Instr.sureAddr, loadVar, r1, load, Sem.run, hc]) h

theorem fN (w : World) (ad : Addr) : ∀ (m i : Nat) (acc : Array Value) (cs : List Value), cs.length = m → (∀ j, j < m → w.cell? (ad.add (i + j)) = cs[j]?) →
  (loadCellsFrom ad i m acc).run P w = .ok (acc ++ cs.toArray) w
 | 0, i, acc, cs, hl, hc => by
  obtain rfl : cs = [] := by simpa using hl
  simp [loadCellsFrom]
 | m + 1, i, acc, cs, hl, hc => by
  cases cs with
  | nil => simp at hl
  | cons c cs =>
   have h0 := hc 0 O
   simp at h0
   have ih := fN w ad m (i + 1) (acc.push c) cs (by simpa using hl) (fun j hj => by
    have := hc (j + 1) O
    rw [show i + 1 + j = i + (j + 1) from by omega, this]
    simp)
   simp only [loadCellsFrom]
   simp [load, Sem.run, h0, ih]

/-- Reading a struct or an array. -/
theorem yl_loadA (hT : T.Ok P) {d t m : Nat} {x : Operand} {b off : Nat} {cs : List Value} {ty : TypeId} {pos : String} {af : Array Edge}
  (hx : opv e x = some (.pointer (some ⟨b, off, none⟩))) (h1 : fU T.agg t = some m) (hd : Nat.blt d n = true) (hl : cs.length = m) (hc : ∀ j, j < m → w.cell? ⟨b, off + j, none⟩ = cs[j]?)
  (h : YL P ro n F k ops rest ((d, .agg cs.toArray) :: e) w) : YL P ro n F k ops (⟨some d, .load t x, ty, pos, af, none⟩ :: rest) e w :=
 fZ (by simp) hd (fun a hf => by
  have e1 := hf.op hx
  obtain ⟨r1, r2⟩ := agg_run hT h1 w
  have r3 := fN (P := P) w ⟨b, off, none⟩ m 0 #[] cs hl (fun j hj => by rw [Nat.zero_add, Addr.add_lit]; exact hc j hj)
  simp only [execOp, e1]
  simp [Instr.loadAt, Instr.sureAddr, loadVar, loadCells, r1, r2, r3]) h

/-- A new variable that holds a value. -/
theorem yl_box {d t : Nat} {x : Operand} {v : Value} {ty : TypeId} {pos : String} {af : Array Edge}
  (hx : opv e x = some v) (hd : Nat.blt d n = true)
  (h : ∀ w', Chg [] w w' → w'.heap.size = w.heap.size + 1 → Blk w' w.heap.size v.cells.toList t → YL P ro n F k ops rest ((d, .pointer (some ⟨w.heap.size, 0, none⟩)) :: e) w') :
  YL P ro n F k ops (⟨some d, .box t x, ty, pos, af, none⟩ :: rest) e w :=
 fZ (w' := w.alloc (.cells v.cells t)) (by simp) hd (fun a hf => by
  have e1 := hf.op hx
  simp only [execOp, e1]
  simp [Instr.box, newVar, newRow, go_sem]) (h _ (eQ _ _) (by simp) (gH _ _ _))

/-- A new variable that holds the zero value. -/
theorem yl_alloc {d t : Nat} {z : Value} {ty : TypeId} {pos : String} {af : Array Edge}
  (hz : (P.info? t).bind (·.zero) = some z) (hd : Nat.blt d n = true)
  (h : ∀ w', Chg [] w w' → w'.heap.size = w.heap.size + 1 → Blk w' w.heap.size z.cells.toList t → YL P ro n F k ops rest ((d, .pointer (some ⟨w.heap.size, 0, none⟩)) :: e) w') :
  YL P ro n F k ops (⟨some d, .alloc t, ty, pos, af, none⟩ :: rest) e w :=
 fZ (w' := w.alloc (.cells z.cells t)) (by simp) hd (fun a hf => by
  cases hi : P.info? t with
  | none => simp [hi] at hz
  | some i =>
   simp [hi] at hz
   simp only [execOp]
   simp [Instr.alloc, zeroValue, typeInfo, hi, hz, newVar, newRow, go_sem]) (h _ (eQ _ _) (by simp) (gH _ _ _))

/-- Writing a variable of one cell that lies in a block of our own. -/
theorem yl_store1 (hT : T.Ok P) {t : Nat} {x y : Operand} {b i : Nat} {cs : List Value} {bt : TypeId} {v : Value} {ty : TypeId} {pos : String} {af : Array Edge}
  (hx : opv e x = some (.pointer (some ⟨b, i, none⟩))) (hy : opv e y = some v) (h1 : has T.one t = true) (hv : dY v = true) (hb : Blk w b cs bt) (hi : i < cs.length)
  (h : ∀ w', Chg [b] w w' → w'.heap.size = w.heap.size → Blk w' b (cs.set i v) bt → YL P ro n F k ops rest e w') :
  YL P ro n F k ops (⟨none, .store t x y, ty, pos, af, none⟩ :: rest) e w :=
 yl_do (w' := w.setCell ⟨b, i, none⟩ v) (by simp) (fun a hf => by
  have e1 := hf.op hx
  have e2 := hf.op hy
  obtain ⟨_, r2⟩ := one_run hT h1 w
  have hc := hb.cell i
  rw [List.getElem?_eq_getElem hi] at hc
  have hfr := hb.frozen i
  have hcells : v.cells = #[v] := by cases v <;> first | (simp [dY] at hv; done) | rfl
  simp only [execOp, e1, e2]
  cases v <;> first | (simp [dY] at hv; done) | simp [Instr.storeAt, Instr.sureAddr, storeVar, r2, hcells, storeCells, store, Sem.run, hc, hfr, Addr.add_zero']) (by
  rw [oT hb]
  exact h _ (upd_chg _ _ _) (upd_size _ _ _) (upd_blk hb.lt))

end
end Go.Eng

/- The engine, part 4: slices, division, structs. -/
namespace Go.Eng
open Go Go.RowKit

/-- A slice of n elements that can be read: its cells; the block that they lie in is from lo on, and below hi. -/
def Rd (w : World) (lo hi : Nat) (v : Value) (size n : Nat) (cs : List Value) : Prop :=
 cs.length = n * size ∧ (((v = .slice none 0 0 ∨ ∃ a cap, v = .slice (some a) 0 cap) ∧ n = 0) ∨
  ∃ b off cap, v = .slice (some ⟨b, off, none⟩) n cap ∧ (0 < cs.length → lo ≤ b ∧ b < hi ∧ b < w.heap.size) ∧ ∀ j, j < cs.length → w.cell? ⟨b, off + j, none⟩ = cs[j]?)

theorem Rd.chg {w w' : World} {lo hi : Nat} {v : Value} {size n : Nat} {cs : List Value} {N : List Nat} (h : Rd w lo hi v size n cs) (c : Chg N w w') (hN : ∀ k ∈ N, k < lo ∨ hi ≤ k) : Rd w' lo hi v size n cs := by
 obtain ⟨h1, h2⟩ := h
 refine ⟨h1, ?_⟩
 rcases h2 with h2 | ⟨b, off, cap, hv, hb, hc⟩
 ·exact .inl h2
 ·refine .inr ⟨b, off, cap, hv, fun hp => ⟨(hb hp).1, (hb hp).2.1, Nat.lt_of_lt_of_le (hb hp).2.2 c.size⟩, fun j hj => ?_⟩
  have hb' := hb O
  have hbN : b ∉ N := fun hm => by have := hN b hm; omega
  rw [← hc j hj]
  exact World.cell?_of_block (w := w) (c.block b hb'.2.2 hbN)

theorem Rd.keep {w w' : World} {lo hi : Nat} {v : Value} {size n : Nat} {cs : List Value} (h : Rd w lo hi v size n cs) (c : Chg [] w w') : Rd w' lo hi v size n cs := h.chg c (by simp)

theorem Rd.below {w w' : World} {hi B : Nat} {lo : Nat} {v : Value} {size n : Nat} {cs : List Value} (h : Rd w lo hi v size n cs) (c : Below B w w') (hB : hi ≤ B) : Rd w' lo hi v size n cs := by
 obtain ⟨h1, h2⟩ := h
 refine ⟨h1, ?_⟩
 rcases h2 with h2 | ⟨b, off, cap, hv, hb, hc⟩
 ·exact .inl h2
 ·refine .inr ⟨b, off, cap, hv, fun hp => ⟨(hb hp).1, (hb hp).2.1, Nat.lt_of_lt_of_le (hb hp).2.2 c.size⟩, fun j hj => ?_⟩
  have hb' := hb O
  rw [← hc j hj]
  exact World.cell?_of_block (w := w) (c.block b O)

theorem Rd.wide {w : World} {lo hi lo' hi' : Nat} {v : Value} {size n : Nat} {cs : List Value} (h : Rd w lo hi v size n cs) (hl : lo' ≤ lo) (hh : hi ≤ hi') : Rd w lo' hi' v size n cs := by
 obtain ⟨h1, h2⟩ := h
 refine ⟨h1, ?_⟩
 rcases h2 with h2 | ⟨b, off, cap, hv, hb, hc⟩
 ·exact .inl h2
 ·exact .inr ⟨b, off, cap, hv, fun hp => ⟨by have := (hb hp).1; omega, by have := (hb hp).2.1; omega, (hb hp).2.2⟩, hc⟩

/-- The value of a readable slice, written out. -/
theorem Rd.out {w : World} {lo hi : Nat} {v : Value} {size n : Nat} {cs : List Value} (h : Rd w lo hi v size n cs) :
  ∃ a cap, v = .slice a n cap ∧ (0 < n → ∃ b off, a = some ⟨b, off, none⟩ ∧ ∀ j, j < cs.length → w.cell? ⟨b, off + j, none⟩ = cs[j]?) := by
 obtain ⟨_, ⟨rfl | ⟨a, cap, rfl⟩, rfl⟩ | ⟨b, off, cap, rfl, _, hc⟩⟩ := h
 ·exact ⟨none, 0, Z, fun h => absurd h O⟩
 ·exact ⟨_, cap, Z, fun h => absurd h O⟩
 ·exact ⟨_, cap, Z, fun _ => ⟨b, off, Z, hc⟩⟩

theorem jB {w : World} {base : Nat} {e : TypeId} {size : Nat} {v : Value} {n : Nat} {xs : List Value} (h : w.ownsRow base e size v n xs) : Rd w base w.heap.size v size n xs := by
 have hlen := h.1
 refine ⟨hlen, ?_⟩
 rcases h.2 with h2 | ⟨g, cap, cur, hv, hg, hh, hnc, hcm, hcs, ht⟩
 ·exact .inl ⟨.inl h2.1, h2.2⟩
 ·have hlt := (Array.getElem?_eq_some_iff.1 hh).1
  subst hv
  refine .inr ⟨g, 0, cap, Z, fun _ => ⟨hg, hlt, hlt⟩, fun j hj => ?_⟩
  rw [Nat.zero_add]
  exact h.cellAt j O

theorem grown_chg {w w' : World} {v : Value} (h : w.grownBy w' v.ownBlock) : Chg v.ownBlock.toList w w' :=
 ⟨h.os, h.tape, h.output, h.size, fun k hk hn => h.block k hk (fun e => hn (by rw [← e]; simp))⟩

/-- What is known of a slice type. -/
structure SlT (P : Program) (t e size bytes : Nat) (z : Value) : Prop where
 ht : P.underlying t = some (.slice e)
 hi : (P.info? e).map (fun i => (i.zero, i.size, i.bytes)) = some (some z, size, bytes)
 hzs : z.cells.size = size
 hsz : 0 < size

variable {P : Program} {T : Tab}
section
variable {ro : Cx} {n : Nat} {F : Fin} {k : List It} {ops : Array Oper} {l rest : List Oper} {e : Env} {w : World}

/-- The address of an element of a slice. -/
theorem yl_index (hT : T.Ok P) {d t et sz : Nat} {x ix : Operand} {b off len cap : Nat} {ik : IntKind} {i : Int} {ty : TypeId} {pos : String} {af : Array Edge}
  (hx : opv e x = some (.slice (some ⟨b, off, none⟩) len cap)) (hi : opv e ix = some (.int ik i)) (hs : fU T.esz t = some (et, sz)) (hsl : has T.len t = true) (hd : Nat.blt d n = true) (h0 : 0 ≤ i) (h1 : i < len)
  (h : YL P ro n F k ops rest ((d, .pointer (some ⟨b, off + i.toNat * sz, none⟩)) :: e) w) : YL P ro n F k ops (⟨some d, .indexAddr t x ix, ty, pos, af, none⟩ :: rest) e w :=
 fZ (by simp) hd (fun a hf => by
  have e1 := hf.op hx
  have e2 := hf.op hi
  have hsz := hT.esz _ _ _ hs
  have hl := hT.len _ hsl
  simp only [eszB, Bool.and_eq_true] at hsz
  simp only [lenB] at hl
  obtain ⟨ha, hb⟩ := hsz
  split at hl
  ·rename_i el hu
   rw [hu] at ha
   have he := Nat.eq_of_beq_eq_true ha
   subst he
   split at hb
   ·rename_i inf hinf
    have hsz := Nat.eq_of_beq_eq_true hb
    simp only [execOp, e1, e2]
    simp [Instr.indexAt, asIntOf, run_underlying hu, h0, h1, sizeOf, typeInfo, hinf, hsz, Addr.add_lit]
   ·cases hb
  ·cases hl) h

/-- Quotient and remainder. -/
theorem yl_quo {d t t' : Nat} {x y : Operand} {kd : IntKind} {p q : Int} {ty : TypeId} {pos : String} {af : Array Edge}
  (hx : opv e x = some (.int kd p)) (hy : opv e y = some (.int kd q)) (hq : q ≠ 0) (hd : Nat.blt d n = true)
  (h : YL P ro n F k ops rest ((d, .int kd (kd.wrap (p.tdiv q))) :: e) w) : YL P ro n F k ops (⟨some d, .binOp .quo t x y t', ty, pos, af, none⟩ :: rest) e w :=
 fZ (by simp) hd (fun a hf => by
  have e1 := hf.op hx
  have e2 := hf.op hy
  simp only [execOp, e1, e2]
  simp [eqGuard, binOp, Op.intDiv, hq]) h

theorem yl_rem {d t t' : Nat} {x y : Operand} {kd : IntKind} {p q : Int} {ty : TypeId} {pos : String} {af : Array Edge}
  (hx : opv e x = some (.int kd p)) (hy : opv e y = some (.int kd q)) (hq : q ≠ 0) (hd : Nat.blt d n = true)
  (h : YL P ro n F k ops rest ((d, .int kd (p.tmod q)) :: e) w) : YL P ro n F k ops (⟨some d, .binOp .rem t x y t', ty, pos, af, none⟩ :: rest) e w :=
 fZ (by simp) hd (fun a hf => by
  have e1 := hf.op hx
  have e2 := hf.op hy
  simp only [execOp, e1, e2]
  simp [eqGuard, binOp, Op.intDiv, hq]) h

/-- A struct, built of parts. -/
theorem yl_build {d t : Nat} {parts : List (Nat × Operand)} {v : Value} {us : List Value} {ty : TypeId} {pos : String} {af : Array Edge}
  (hp : qP e (parts.map (·.2)) = some us) (hb : ∀ w, (Instr.build t ((parts.map (·.1)).zip us).toArray).run P w = .ok v w) (hd : Nat.blt d n = true)
  (h : YL P ro n F k ops rest ((d, v) :: e) w) : YL P ro n F k ops (⟨some d, .build t parts.toArray, ty, pos, af, none⟩ :: rest) e w :=
 fZ (by simp) hd (fun a hf => by
  have e1 := hf.ops hp
  have e2 : (parts.toArray.map fun (x : Nat × Operand) => (x.1, a.eval x.2)) = ((parts.map (·.1)).zip us).toArray := by
   rw [← e1]
   simp only [List.map_toArray]
   congr 1
   clear hp hb h e1
   induction parts with
   | nil => rfl
   | cons p ps ih => simp [ih]
  simp only [execOp]
  rw [e2]
  simp [hb w]) h

/-- A new slice of some elements. -/
theorem yl_buildSlice {d t len et : Nat} {parts : List (Nat × Operand)} {cs : List Value} {us : List Value} {ty : TypeId} {pos : String} {af : Array Edge}
  (hp : qP e (parts.map (·.2)) = some us) (hb : ∀ w, (Instr.buildSlice t len ((parts.map (·.1)).zip us).toArray).run P w = .ok (.slice (some ⟨w.heap.size, 0, none⟩) len len) (w.alloc (.cells cs.toArray et))) (hd : Nat.blt d n = true)
  (h : ∀ w', Chg [] w w' → w'.heap.size = w.heap.size + 1 → Blk w' w.heap.size cs et → YL P ro n F k ops rest ((d, .slice (some ⟨w.heap.size, 0, none⟩) len len) :: e) w') : YL P ro n F k ops (⟨some d, .buildSlice t len parts.toArray, ty, pos, af, none⟩ :: rest) e w :=
 fZ (by simp) hd (fun a hf => by
  have e1 := hf.ops hp
  have e2 : (parts.toArray.map fun (x : Nat × Operand) => (x.1, a.eval x.2)) = ((parts.map (·.1)).zip us).toArray := by
   rw [← e1]
   simp only [List.map_toArray]
   congr 1
   clear hp hb h e1
   induction parts with
   | nil => rfl
   | cons p ps ih => simp [ih]
  simp only [execOp]
  rw [e2]
  simp [hb w]) (h _ (eQ _ _) (by simp) (gH _ _ _))

end
end Go.Eng

/- The engine, part 5: a region that draws its order. One walk of the text's order serves every order, where all that may stand out of turn only reads what nothing in the region turns. -/
namespace Go.Eng
open Go Go.RowKit

/-- Does the operation act on memory? -/
def eff : Op → Bool
 | .call { callee := .builtin .len, .. } | .call { callee := .builtin .max, .. } | .call { callee := .builtin .min, .. } => false
 | .move _ | .assign _ | .pick _ _ _ | .load _ _ | .nilCheck _ | .binOp _ _ _ _ _ | .unOp _ _ _ | .convert _ _ _ | .makeFunc _ _ _ | .fieldAddr _ _ _ | .field _ _ _ | .indexAddr _ _ _ | .index _ _ _ | .lookup _ _ _ _ | .extract _ _ | .build _ _ | .slice _ _ _ _ _ => false
 | _ => true

/-- The forms that are served. -/
def kindOk : Op → Bool
 | .select _ _ | .defer _ | .go _ => false
 | _ => true

def pW (ms : List Nat) (o : Oper) : Nat := o.after.toList.foldl (fun m e => bif Region.binds .any e then (m ||| (1 <<< e.on)) ||| ms.getD e.on 0 else m) 0
def iO : List Nat → List Oper → List Nat
 | ms, [] => ms
 | ms, o :: l => iO (ms ++ [pW ms o]) l
def eF (l : List Oper) : List Nat := iO [] l

def okPair (ops : Array Oper) (m i : Nat) (oi oj : Oper) : Bool := m.testBit i || (oi.apart ops oj && !(eff oi.op && eff oj.op))
def okBefore (ops : Array Oper) (m : Nat) (oj : Oper) : Nat → List Oper → Bool
 | _, [] => true
 | i, oi :: l => okPair ops m i oi oj && okBefore ops m oj (i + 1) l
/-- Each operation against all before it. -/
def okAll (ops : Array Oper) (ms : List Nat) : Nat → List Oper → List Oper → Bool
 | _, _, [] => true
 | j, done, oj :: l => (kindOk oj.op && oj.after.all (fun e => !(Region.binds .any e) || Nat.blt e.on j)) && okBefore ops (ms.getD j 0) oj 0 done && okAll ops ms (j + 1) (done ++ [oj]) l
def flB (ops : Array Oper) : Bool := okAll ops (eF ops.toList) 0 [] ops.toList

/-- What the check says. -/
structure FlOk (ops : Array Oper) : Prop where
 kind : ∀ (j : Nat) o, ops[j]? = some o → kindOk o.op = true
 back : ∀ (j : Nat) o, ops[j]? = some o → ∀ e ∈ o.after, Region.binds .any e = true → e.on < j
 pair : ∀ (i j : Nat) oi oj, i < j → ops[i]? = some oi → ops[j]? = some oj → ((eF ops.toList).getD j 0).testBit i = true ∨ (oi.apart ops oj = true ∧ (eff oi.op = true → eff oj.op = true → False))

theorem qE {ops : Array Oper} {m : Nat} {oj : Oper} : ∀ (l : List Oper) (i : Nat), okBefore ops m oj i l = true → ∀ (k : Nat) oi, l[k]? = some oi → okPair ops m (i + k) oi oj = true
 | [], _, _, k, oi, h => by simp at h
 | o :: l, i, hB, k, oi, h => by
  simp only [okBefore, Bool.and_eq_true] at hB
  cases k with
  | zero => simp at h; subst h; exact hB.1
  | succ k =>
   have := qE l (i + 1) hB.2 k oi (by simpa using h)
   rwa [show i + 1 + k = i + (k + 1) from by omega] at this

theorem okAll_spec {ops : Array Oper} {ms : List Nat} : ∀ (l : List Oper) (j : Nat) (done : List Oper), done.length = j → okAll ops ms j done l = true →
  ∀ (k : Nat) oj, l[k]? = some oj → (kindOk oj.op && oj.after.all (fun e => !(Region.binds .any e) || Nat.blt e.on (j + k))) = true ∧ ∀ (i : Nat) oi, (done ++ l)[i]? = some oi → i < j + k → okPair ops (ms.getD (j + k) 0) i oi oj = true
 | [], _, _, _, _, k, oj, h => by simp at h
 | o :: l, j, done, hl, hB, k, oj, h => by
  simp only [okAll, Bool.and_eq_true] at hB
  obtain ⟨⟨h1, h2⟩, h3⟩ := hB
  cases k with
  | zero =>
   simp at h; subst h
   refine ⟨by rw [Nat.add_zero, Bool.and_eq_true]; exact h1, fun i oi hi hlt => ?_⟩
   have hi' : done[i]? = some oi := by rw [List.getElem?_append_left O] at hi; exact hi
   have := qE done 0 h2 i oi hi'
   simpa using this
  | succ k =>
   obtain ⟨e1, e2⟩ := okAll_spec l (j + 1) (done ++ [o]) (by simp [hl]) h3 k oj (by simpa using h)
   rw [show j + 1 + k = j + (k + 1) from by omega] at e1
   refine ⟨e1, fun i oi hi hlt => ?_⟩
   have := e2 i oi (by simpa using hi) O
   rwa [show j + 1 + k = j + (k + 1) from by omega] at this

theorem flB_spec {ops : Array Oper} (h : flB ops = true) : FlOk ops := by
 have h1 := okAll_spec ops.toList 0 [] rfl h
 refine ⟨fun j o hj => ?_, fun j o hj e he hb => ?_, fun i j oi oj hlt hi hj => ?_⟩
 ·have := (h1 j o (by simpa using hj)).1
  simp only [Bool.and_eq_true] at this
  exact this.1
 ·have := (h1 j o (by simpa using hj)).1
  simp only [Bool.and_eq_true] at this
  have h2 := Array.all_eq_true_iff_forall_mem.1 this.2 e he
  simpa [hb, Nat.blt_eq] using h2
 have h2 := (h1 j oj (by simpa using hj)).2 i oi (by simpa using hi) O
 simp only [okPair, Bool.or_eq_true, Bool.and_eq_true, Bool.not_eq_true', Bool.and_eq_false_iff, Nat.zero_add] at h2
 rcases h2 with h2 | ⟨h2, h3⟩
 ·exact .inl h2
 ·exact .inr ⟨h2, fun a b => by rcases h3 with h3 | h3 <;> simp_all⟩

/-- The eF tell what is done. -/
theorem edgeMask_spec {ms : List Nat} {o : Oper} {D : Nat → Prop} (hD : ∀ e ∈ o.after, Region.binds .any e = true → D e.on ∧ ∀ i, (ms.getD e.on 0).testBit i = true → D i) :
  ∀ i, (pW ms o).testBit i = true → D i := by
 have key : ∀ (l : List Edge) (m : Nat), (∀ e ∈ l, Region.binds .any e = true → D e.on ∧ ∀ i, (ms.getD e.on 0).testBit i = true → D i) → (∀ i, m.testBit i = true → D i) →
   ∀ i, (l.foldl (fun m e => bif Region.binds .any e then (m ||| (1 <<< e.on)) ||| ms.getD e.on 0 else m) m).testBit i = true → D i := by
  intro l
  induction l with
  | nil => intro m _ hm i hi; exact hm i hi
  | cons e l ih =>
   intro m hl hm i hi
   simp only [List.foldl_cons] at hi
   refine ih _ (fun e' he' => hl e' (List.mem_cons_of_mem _ he')) ?_ i hi
   intro i hi
   cases hb : Region.binds .any e with
   | false => rw [hb] at hi; exact hm i hi
   | true =>
    rw [hb] at hi
    obtain ⟨h1, h2⟩ := hl e List.mem_cons_self hb
    simp only [cond_true, Nat.testBit_or, Bool.or_eq_true] at hi
    rcases hi with (hi | hi) | hi
    ·exact hm i hi
    ·have : i = e.on := by
      rw [Nat.one_shiftLeft, Nat.testBit_two_pow] at hi
      exact (by simpa using hi : e.on = i).symm
     subst this; exact h1
    ·exact h2 i hi
 intro i hi
 exact key o.after.toList 0 (fun e he => hD e (by simpa using he)) (fun i hi => by simp at hi) i hi

theorem masksFrom_get (l : List Oper) : ∀ (ms : List Nat) (j : Nat), j < ms.length → (iO ms l).getD j 0 = ms.getD j 0 := by
 induction l with
 | nil => intro ms j _; rfl
 | cons o l ih =>
  intro ms j hj
  simp only [iO]
  rw [ih _ _ (by simp; omega)]
  simp [List.getD_eq_getElem?_getD, List.getElem?_append_left hj]

/-- If what is done is closed, and all that j waits for is done, then all in j's mask is done. -/
theorem mQ {ops : Array Oper} {D : Nat → Prop} (hcl : ∀ (m : Nat) o, ops[m]? = some o → D m → ∀ e ∈ o.after, Region.binds .any e = true → D e.on) :
  ∀ (j : Nat) o, ops[j]? = some o → (∀ e ∈ o.after, Region.binds .any e = true → D e.on) → ∀ i, ((eF ops.toList).getD j 0).testBit i = true → D i := by
 -- by the depth of the eF: each mask is an pW over earlier eF or zeros
 have key : ∀ (l : List Oper) (ms : List Nat), (∀ i, i < ms.length → D i → ∀ b, (ms.getD i 0).testBit b = true → D b) → (∀ (k : Nat) o, l[k]? = some o → ops[ms.length + k]? = some o) →
   ∀ (k : Nat) o, l[k]? = some o → (∀ e ∈ o.after, Region.binds .any e = true → D e.on) → ∀ i, ((iO ms l).getD (ms.length + k) 0).testBit i = true → D i := by
  intro l
  induction l with
  | nil => intro ms _ _ k o h; simp at h
  | cons o' l ih =>
   intro ms hms hl k o hk hre i hi
   have h0 : ∀ o, (∀ e ∈ o.after, Region.binds .any e = true → D e.on) → ∀ i, (pW ms o).testBit i = true → D i := by
    intro o hre
    refine edgeMask_spec fun e he hb => ⟨hre e he hb, fun b hb' => ?_⟩
    by_cases hlt' : e.on < ms.length
    ·exact hms e.on hlt' (hre e he hb) b hb'
    ·rw [List.getD_eq_getElem?_getD, List.getElem?_eq_none O] at hb'
     simp at hb'
   cases k with
   | zero =>
    simp at hk; subst hk
    simp only [iO, Nat.add_zero] at hi
    rw [masksFrom_get l _ ms.length (by simp)] at hi
    simp [List.getD_eq_getElem?_getD] at hi
    exact h0 _ hre i hi
   | succ k =>
    simp only [iO] at hi
    refine ih (ms ++ [pW ms o']) ?_ ?_ k o (by simpa using hk) hre i (by simpa [Nat.add_assoc, Nat.add_comm 1 k] using hi)
    ·intro i hi hDi b hb
     by_cases hlt' : i < ms.length
     ·rw [List.getD_eq_getElem?_getD, List.getElem?_append_left hlt', ← List.getD_eq_getElem?_getD] at hb
      exact hms i hlt' hDi b hb
     ·have : i = ms.length := by simp at hi; omega
      subst this
      simp [List.getD_eq_getElem?_getD] at hb
      have ho' := hl 0 o' (by simp)
      exact h0 o' (hcl _ _ (by simpa using ho') hDi) b hb
    ·intro k o hk
     have := hl (k + 1) o (by simpa using hk)
     simpa [Nat.add_assoc, Nat.add_comm 1 k] using this
 intro j o hj hre i hi
 have := key ops.toList [] (fun i hi => by simp at hi) (fun k o hk => by simpa using hk) j o (by simpa using hj) hre i (by simpa [eF] using hi)
 exact this


section
variable {P : Program} {ops : Array Oper} {C : World → Prop}

/-- One round of the loop l, in whatever function's activation. -/
def RdOk (P : Program) (l : Nat) (f : FuncId) (tmps : Array Value) (assign body : Code) (w : World) (R : Value → World → Prop) : Prop :=
 ∀ r, RoundIn (FR r) 0 P l f tmps assign body w (fun e w' => ∃ v, e = .returned v ∧ R v w')

theorem RdOk.mono {l : Nat} {f : FuncId} {tmps : Array Value} {assign body : Code} {w : World} {R R' : Value → World → Prop} (h : RdOk P l f tmps assign body w R) (hr : ∀ v w', R v w' → R' v w') : RdOk P l f tmps assign body w R' :=
 fun r => (h r).mono fun _ _ ⟨v, he, hR⟩ => ⟨v, he, hr _ _ hR⟩

/-- One operation that acts: what follows is told its value. -/
def bS (P : Program) (o : Oper) (a : Act) (w : World) (K : Value → World → Prop) : Prop :=
 match (execOp a.eval o).run P w with
 | .ok (.value v) w' => K v w'
 | .ok .skip w' => K undef w'
 | .ok (.enter f args) w' => Calls P f args w' fun e w'' => ∃ v, e = .returned v ∧ K v w''
 | .ok (.round l f tmps assign body) w' => RdOk P l f tmps assign body w' K
 | _ => False

theorem bS.mono {o : Oper} {a : Act} {w : World} {K K' : Value → World → Prop} (h : bS P o a w K) (hk : ∀ v w', K v w' → K' v w') : bS P o a w K' := by
 unfold bS at *
 split <;> rename_i hr <;> simp only [hr] at h
 ·exact hk _ _ h
 ·exact hk _ _ h
 ·exact Calls.mono h fun _ _ ⟨v, he, hK⟩ => ⟨v, he, hk _ _ hK⟩
 ·exact RdOk.mono h hk

theorem bS.some {o : Oper} {a : Act} {w : World} {K : Value → World → Prop} (h : bS P o a w K) : ∃ v w', K v w' := by
 unfold bS at h
 split at h
 ·exact ⟨_, _, h⟩
 ·exact ⟨_, _, h⟩
 ·obtain ⟨_, w', _, ⟨v, _, hK⟩, _⟩ := h []
  exact ⟨v, w', hK⟩
 ·obtain ⟨_, w', ⟨v, _, hK⟩, _⟩ := (h none).2 default [] (by simp [Fence.room, Fence.wide])
  exact ⟨v, w', hK⟩
 ·exact h.elim

theorem bS.wpIn {ro : Cx} {o : Oper} {a : Act} {w : World} {K : Act → World → Prop} {Q : Fin} (hk : kindOk o.op = true) (h : bS P o a w fun v w' => K (a.put o.dst v) w') : o.wpIn (FR ro.ro) 0 P a w K Q := by
 refine ⟨fun f _ => pL f, ?_⟩
 rw [Oper.semAt_eq _ _ _ (fun c hc => by rw [hc] at hk; cases hk)]
 unfold bS at h
 generalize (execOp a.eval o).run P w = r at h
 cases r with
 | halt x w' => exact h.elim
 | ok x w' =>
  cases x <;> first | exact h | (exact h.elim) | skip
  case enter f args =>
   refine ⟨fun hx => by simp [Fence.wide] at hx, mT (Calls.mono h ?_)⟩
   rintro x w' ⟨v, rfl, hK⟩
   exact hK
  case round l f tmps assign body =>
   refine ⟨fun hx => by simp [Fence.wide] at hx, RoundIn.mono (h ro.ro) ?_⟩
   rintro x w' ⟨v, rfl, hK⟩
   exact hK

/-- The text's order. -/
def wpFl (P : Program) (ops : Array Oper) (C : World → Prop) (K : Act → World → Prop) : List Nat → Act → World → Prop
 | [], a, w => K a w
 | i :: rest, a, w => match ops[i]? with
  | none => wpFl P ops C K rest a w
  | some o => if Region.wanted o (yielded ops a.tmps) = true then
    (if eff o.op = true then bS P o a w (fun v w' => C w' ∧ wpFl P ops C K rest (a.put o.dst v) w')
     else ∃ v, (∀ w', C w' → (execOp a.eval o).run P w' = .ok (.value v) w') ∧ wpFl P ops C K rest (a.put o.dst v) w)
   else wpFl P ops C K rest (a.put o.dst undef) w

theorem dI {o : Oper} (hk : kindOk o.op = true) (a : Act) (dst : Option Tmp) (v : Value) (h : ∀ d, dst = some d → d ∉ o.looksAt ops) : execOp (a.put dst v).eval o = execOp a.eval o :=
 execOp_put o (fun cs b hc => by rw [hc] at hk; cases hk) a dst v h

variable {K : Act → World → Prop}

/-- Operation j, not acting, may be taken first. -/
theorem fl_swap_quiet (hF : FlOk ops) {j : Nat} {oj : Oper} (hj : ops[j]? = some oj) (hne : eff oj.op = false) : ∀ (l1 l2 : List Nat) (a : Act) (w : World),
  (∀ i ∈ l1, ∀ oi, ops[i]? = some oi → oi.apart ops oj = true) → Region.wanted oj (yielded ops a.tmps) = true → C w → wpFl P ops C K (l1 ++ j :: l2) a w →
  ∃ v, (∀ w', C w' → (execOp a.eval oj).run P w' = .ok (.value v) w') ∧ wpFl P ops C K (l1 ++ l2) (a.put oj.dst v) w := by
 intro l1
 induction l1 with
 | nil =>
  intro l2 a w _ hw hC h
  simp only [List.nil_append, wpFl, hj, hw, if_true, hne] at h
  simpa using h
 | cons i l1 ih =>
  intro l2 a w hap hw hC h
  have ih' := fun a w => ih l2 a w (fun i' hi' => hap i' (List.mem_cons_of_mem _ hi'))
  simp only [List.cons_append, wpFl] at h ⊢
  cases hi : ops[i]? with
  | none => simp only [hi] at h ⊢; exact ih' a w hw hC h
  | some oi =>
   simp only [hi] at h ⊢
   obtain ⟨p1, p2, p3⟩ := Oper.apart_spec (hap i List.mem_cons_self oi hi)
   have kj := hF.kind j oj hj
   have ki := hF.kind i oi hi
   have ej : ∀ (a : Act) v, execOp (a.put oi.dst v).eval oj = execOp a.eval oj := fun a v => dI kj a oi.dst v p1
   have ei : ∀ (a : Act) v, execOp (a.put oj.dst v).eval oi = execOp a.eval oi := fun a v => dI ki a oj.dst v p3
   have wj : ∀ (a : Act) v, Region.wanted oj (yielded ops (a.put oi.dst v).tmps) = Region.wanted oj (yielded ops a.tmps) := fun a v => wanted_put oj a oi.dst v p1
   have wi : ∀ (a : Act) v, Region.wanted oi (yielded ops (a.put oj.dst v).tmps) = Region.wanted oi (yielded ops a.tmps) := fun a v => wanted_put oi a oj.dst v p3
   have cm : ∀ (a : Act) u v, (a.put oi.dst u).put oj.dst v = (a.put oj.dst v).put oi.dst u := fun a u v => Act.put_comm a u v p2
   by_cases hwi : Region.wanted oi (yielded ops a.tmps) = true
   ·simp only [hwi, if_true] at h
    by_cases he : eff oi.op = true
    ·simp only [he, if_true] at h
     obtain ⟨v0, w0, hC0, h0⟩ := h.some
     obtain ⟨v, hv, _⟩ := ih' _ w0 (by rw [wj]; exact hw) hC0 h0
     simp only [ej] at hv
     refine ⟨v, hv, ?_⟩
     rw [wi]
     simp only [hwi, if_true, he]
     have h1 : bS P oi (a.put oj.dst v) w (fun u w' => C w' ∧ wpFl P ops C K (l1 ++ j :: l2) (a.put oi.dst u) w') := by
      unfold bS at h ⊢
      rw [ei]
      exact h
     refine h1.mono fun u w' ⟨hC', h2⟩ => ⟨hC', ?_⟩
     obtain ⟨v', hv', h3⟩ := ih' _ w' (by rw [wj]; exact hw) hC' h2
     simp only [ej] at hv'
     have e1 := hv w hC
     have e2 := hv' w hC
     rw [e1] at e2
     have : v = v' := by simpa using e2
     subst this
     rw [cm] at h3
     exact h3
    ·simp only [he] at h
     obtain ⟨u, hu, h⟩ := h
     obtain ⟨v, hv, h3⟩ := ih' _ w (by rw [wj]; exact hw) hC h
     simp only [ej] at hv
     refine ⟨v, hv, ?_⟩
     rw [wi]
     simp only [hwi, if_true, he]
     refine ⟨u, fun w' hC' => by rw [ei]; exact hu w' hC', ?_⟩
     rw [cm] at h3
     exact h3
   ·simp only [hwi] at h
    obtain ⟨v, hv, h3⟩ := ih' _ w (by rw [wj]; exact hw) hC h
    simp only [ej] at hv
    refine ⟨v, hv, ?_⟩
    rw [wi]
    simp only [hwi]
    rw [cm] at h3
    exact h3

/-- .. and so one that is not wanted. -/
theorem fl_swap_skip (hF : FlOk ops) {j : Nat} {oj : Oper} (hj : ops[j]? = some oj) : ∀ (l1 l2 : List Nat) (a : Act) (w : World),
  (∀ i ∈ l1, ∀ oi, ops[i]? = some oi → oi.apart ops oj = true) → Region.wanted oj (yielded ops a.tmps) = false → wpFl P ops C K (l1 ++ j :: l2) a w → wpFl P ops C K (l1 ++ l2) (a.put oj.dst undef) w := by
 intro l1
 induction l1 with
 | nil =>
  intro l2 a w _ hw h
  simp only [List.nil_append, wpFl, hj, hw] at h
  simpa using h
 | cons i l1 ih =>
  intro l2 a w hap hw h
  have ih' := fun a w => ih l2 a w (fun i' hi' => hap i' (List.mem_cons_of_mem _ hi'))
  simp only [List.cons_append, wpFl] at h ⊢
  cases hi : ops[i]? with
  | none => simp only [hi] at h ⊢; exact ih' a w hw h
  | some oi =>
   simp only [hi] at h ⊢
   obtain ⟨p1, p2, p3⟩ := Oper.apart_spec (hap i List.mem_cons_self oi hi)
   have ki := hF.kind i oi hi
   have ei : ∀ (a : Act) v, execOp (a.put oj.dst v).eval oi = execOp a.eval oi := fun a v => dI ki a oj.dst v p3
   have wj : ∀ (a : Act) v, Region.wanted oj (yielded ops (a.put oi.dst v).tmps) = Region.wanted oj (yielded ops a.tmps) := fun a v => wanted_put oj a oi.dst v p1
   have wi : ∀ (a : Act) v, Region.wanted oi (yielded ops (a.put oj.dst v).tmps) = Region.wanted oi (yielded ops a.tmps) := fun a v => wanted_put oi a oj.dst v p3
   have cm : ∀ (a : Act) u v, (a.put oi.dst u).put oj.dst v = (a.put oj.dst v).put oi.dst u := fun a u v => Act.put_comm a u v p2
   rw [wi]
   by_cases hwi : Region.wanted oi (yielded ops a.tmps) = true
   ·simp only [hwi, if_true] at h ⊢
    by_cases he : eff oi.op = true
    ·simp only [he, if_true] at h ⊢
     have h1 : bS P oi (a.put oj.dst undef) w (fun u w' => C w' ∧ wpFl P ops C K (l1 ++ j :: l2) (a.put oi.dst u) w') := by
      unfold bS at h ⊢
      rw [ei]
      exact h
     refine h1.mono fun u w' ⟨hC', h2⟩ => ⟨hC', ?_⟩
     have h3 := ih' _ w' (by rw [wj]; exact hw) h2
     rw [cm] at h3
     exact h3
    ·simp only [he] at h ⊢
     obtain ⟨u, hu, h⟩ := h
     have h3 := ih' _ w (by rw [wj]; exact hw) h
     refine ⟨u, fun w' hC' => by rw [ei]; exact hu w' hC', ?_⟩
     rw [cm] at h3
     exact h3
   ·simp only [hwi] at h ⊢
    have h3 := ih' _ w (by rw [wj]; exact hw) h
    rw [cm] at h3
    exact h3

/-- .. and one that acts, where nothing ahead of it acts. -/
theorem fl_swap_eff (hF : FlOk ops) {j : Nat} {oj : Oper} (hj : ops[j]? = some oj) (he : eff oj.op = true) : ∀ (l1 l2 : List Nat) (a : Act) (w : World),
  (∀ i ∈ l1, ∀ oi, ops[i]? = some oi → oi.apart ops oj = true ∧ eff oi.op = false) → Region.wanted oj (yielded ops a.tmps) = true → wpFl P ops C K (l1 ++ j :: l2) a w →
  bS P oj a w (fun v w' => C w' ∧ wpFl P ops C K (l1 ++ l2) (a.put oj.dst v) w') := by
 intro l1
 induction l1 with
 | nil =>
  intro l2 a w _ hw h
  simp only [List.nil_append, wpFl, hj, hw, if_true, he] at h
  simpa using h
 | cons i l1 ih =>
  intro l2 a w hap hw h
  have ih' := fun a w => ih l2 a w (fun i' hi' => hap i' (List.mem_cons_of_mem _ hi'))
  simp only [List.cons_append, wpFl] at h ⊢
  cases hi : ops[i]? with
  | none => simp only [hi] at h ⊢; exact ih' a w hw h
  | some oi =>
   simp only [hi] at h ⊢
   obtain ⟨hap', hei⟩ := hap i List.mem_cons_self oi hi
   obtain ⟨p1, p2, p3⟩ := Oper.apart_spec hap'
   have kj := hF.kind j oj hj
   have ki := hF.kind i oi hi
   have ej : ∀ (a : Act) v, execOp (a.put oi.dst v).eval oj = execOp a.eval oj := fun a v => dI kj a oi.dst v p1
   have ei : ∀ (a : Act) v, execOp (a.put oj.dst v).eval oi = execOp a.eval oi := fun a v => dI ki a oj.dst v p3
   have wj : ∀ (a : Act) v, Region.wanted oj (yielded ops (a.put oi.dst v).tmps) = Region.wanted oj (yielded ops a.tmps) := fun a v => wanted_put oj a oi.dst v p1
   have wi : ∀ (a : Act) v, Region.wanted oi (yielded ops (a.put oj.dst v).tmps) = Region.wanted oi (yielded ops a.tmps) := fun a v => wanted_put oi a oj.dst v p3
   have cm : ∀ (a : Act) u v, (a.put oi.dst u).put oj.dst v = (a.put oj.dst v).put oi.dst u := fun a u v => Act.put_comm a u v p2
   by_cases hwi : Region.wanted oi (yielded ops a.tmps) = true
   ·simp only [hwi, if_true, hei] at h
    simp only [Bool.false_eq_true, if_false] at h
    obtain ⟨u, hu, h⟩ := h
    have h3 := ih' _ w (by rw [wj]; exact hw) h
    have h4 : bS P oj a w (fun v w' => C w' ∧ wpFl P ops C K (l1 ++ l2) ((a.put oi.dst u).put oj.dst v) w') := by
     unfold bS at h3 ⊢
     rw [ej] at h3
     exact h3
    refine h4.mono fun v w' ⟨hC', h5⟩ => ⟨hC', ?_⟩
    rw [wi]
    simp only [hwi, if_true, hei, Bool.false_eq_true, if_false]
    refine ⟨u, fun w' hC' => by rw [ei]; exact hu w' hC', ?_⟩
    rw [cm] at h5
    exact h5
   ·simp only [hwi] at h
    simp only [Bool.false_eq_true, if_false] at h
    have h3 := ih' _ w (by rw [wj]; exact hw) h
    have h4 : bS P oj a w (fun v w' => C w' ∧ wpFl P ops C K (l1 ++ l2) ((a.put oi.dst undef).put oj.dst v) w') := by
     unfold bS at h3 ⊢
     rw [ej] at h3
     exact h3
    refine h4.mono fun v w' ⟨hC', h5⟩ => ⟨hC', ?_⟩
    rw [wi]
    simp only [hwi, Bool.false_eq_true, if_false]
    rw [cm] at h5
    exact h5


variable {ro : Cx} {Q : Fin}

/-- From the text's order to every order: R is what is left, in the text's order. -/
theorem any_of_fl (hF : FlOk ops) (hK : ∀ a w, C w → K a w → Q .normal a w) : ∀ (fuel : Nat) (R : List Nat) (listed : Array Bool) (a : Act) (w : World),
  R.length = fuel → listed.size = ops.size → R.Pairwise (· < ·) → (∀ i, i ∈ R ↔ i < ops.size ∧ listed.getD i true = false) →
  (∀ (m : Nat) o, ops[m]? = some o → listed.getD m false = true → ∀ e ∈ o.after, Region.binds .any e = true → listed.getD e.on false = true) →
  C w → wpFl P ops C K R a w → wpAnyIn (FR ro.ro) 0 P .any ops Q fuel listed a w := by
 intro fuel
 induction fuel with
 | zero =>
  intro R listed a w hl hsz hR hmem hcl hC h
  have : R = [] := by simpa using hl
  subst this
  refine ⟨?_, hK _ _ hC h⟩
  refine List.eq_nil_iff_forall_not_mem.2 fun i hi => ?_
  obtain ⟨h0, o, ho, _⟩ := mem_ready.1 hi
  exact absurd ((hmem i).2 ⟨(Array.getElem?_eq_some_iff.1 ho).1, h0⟩) (by simp)
 | succ fuel ih =>
  intro R listed a w hl hsz hR hmem hcl hC h
  refine ⟨fun h0 => ?_, fun j hj => ?_⟩
  · -- nothing is ready: but the first of R waits for earlier ones alone, all of which are listed
   exfalso
   cases R with
   | nil => simp at hl
   | cons i R =>
    obtain ⟨hi1, hi2⟩ := (hmem i).1 List.mem_cons_self
    have hrd : i ∈ Region.ready .any ops listed := by
     refine mem_ready.2 ⟨hi2, ops[i], Array.getElem?_eq_getElem hi1, fun e he hb => ?_⟩
     have hlt := hF.back i _ (Array.getElem?_eq_getElem hi1) e he hb
     have hnot : e.on ∉ i :: R := by
      intro hx
      rcases List.mem_cons.1 hx with hx | hx
      ·omega
      ·have := List.rel_of_pairwise_cons hR hx
       omega
     have h3 : ¬ (e.on < ops.size ∧ listed.getD e.on true = false) := fun hx => hnot ((hmem _).2 hx)
     have h4 : e.on < listed.size := by omega
     simp only [Array.getD_eq_getD_getElem?, Array.getElem?_eq_getElem h4, Option.getD_some] at h3 ⊢
     cases hc : listed[e.on] with
     | true => rfl
     | false => exact absurd ⟨by omega, hc⟩ h3
    rw [h0] at hrd
    cases hrd
  ·obtain ⟨h0, oj, hoj, hre⟩ := mem_ready.1 hj
   have hjR : j ∈ R := (hmem j).2 ⟨(Array.getElem?_eq_some_iff.1 hoj).1, h0⟩
   obtain ⟨l1, l2, rfl⟩ := List.append_of_mem hjR
   have hlt1 : ∀ i ∈ l1, i < j := fun i hi => (List.pairwise_append.1 hR).2.2 i hi j (by simp)
   have hjl : listed.getD j false = true → False := fun hx => by
    simp only [Array.getD_eq_getD_getElem?] at hx h0
    cases hc : listed[j]? <;> simp [hc] at hx h0
    simp [hx] at h0
   have hun : ∀ i ∈ l1, ((eF ops.toList).getD j 0).testBit i = false := fun i hi => by
    cases hb : ((eF ops.toList).getD j 0).testBit i with
    | false => rfl
    | true =>
     have h1 := mQ (D := fun m => listed.getD m false = true) (fun m o hm hD e he hb => hcl m o hm hD e he hb) j oj hoj (fun e he hb => hre e he hb) i hb
     have h2 := ((hmem i).1 (by simp [hi])).2
     simp only [Array.getD_eq_getD_getElem?] at h1 h2
     cases hc : listed[i]? <;> simp [hc] at h1 h2
     simp [h1] at h2
   have hpair : ∀ i ∈ l1, ∀ oi, ops[i]? = some oi → oi.apart ops oj = true ∧ (eff oi.op = true → eff oj.op = true → False) := fun i hi oi hoi => by
    rcases hF.pair i j oi oj (hlt1 i hi) hoi hoj with h1 | h1
    ·rw [hun i hi] at h1; cases h1
    ·exact h1
   have next : ∀ a w, C w → wpFl P ops C K (l1 ++ l2) a w → wpAnyIn (FR ro.ro) 0 P .any ops Q fuel (listed.setIfInBounds j true) a w := by
    intro a w hC h
    refine ih (l1 ++ l2) _ a w ?_ (by simp [hsz]) ?_ ?_ ?_ hC h
    ·simp at hl ⊢; omega
    ·exact hR.sublist (List.Sublist.append_left (List.sublist_cons_self _ _) _)
    ·intro i
     have hnd : j ∉ l1 ++ l2 := by
      intro hx
      rcases List.mem_append.1 hx with hx | hx
      ·exact absurd (hlt1 j hx) O
      ·have := (List.pairwise_append.1 hR).2.1
       have := List.rel_of_pairwise_cons this hx
       omega
     constructor
     ·intro hi
      have hne : j ≠ i := fun e => hnd (e ▸ hi)
      have h1 := (hmem i).1 (by rcases List.mem_append.1 hi with hi | hi <;> simp [hi])
      exact ⟨h1.1, by rw [getD_set_ne true hne]; exact h1.2⟩
     ·rintro ⟨h1, h2⟩
      have hne : j ≠ i := fun e => by
       subst e
       simp [hsz, h1] at h2
      rw [getD_set_ne true hne] at h2
      have := (hmem i).2 ⟨h1, h2⟩
      rcases List.mem_append.1 this with hx | hx
      ·exact List.mem_append.2 (.inl hx)
      ·rcases List.mem_cons.1 hx with hx | hx
       ·exact absurd hx.symm hne
       ·exact List.mem_append.2 (.inr hx)
    ·intro m o hm hD e he hb
     by_cases hmj : j = m
     ·subst hmj
      rw [hoj] at hm
      obtain rfl := Option.some.inj hm
      exact getD_set_true (hre e he hb)
     ·rw [getD_set_ne false hmj] at hD
      exact getD_set_true (hcl m o hm hD e he hb)
   unfold wpOpIn
   simp only [hoj]
   by_cases hw : Region.wanted oj (yielded ops a.tmps) = true
   ·simp only [hw, if_true]
    cases he : eff oj.op with
    | true =>
     have h1 := fl_swap_eff hF hoj he l1 l2 a w (fun i hi oi hoi => ⟨(hpair i hi oi hoi).1, by
      cases hx : eff oi.op with
      | false => rfl
      | true => exact ((hpair i hi oi hoi).2 hx he).elim⟩) hw h
     exact bS.wpIn (hF.kind j oj hoj) (h1.mono fun v w' ⟨hC', h2⟩ => next _ _ hC' h2)
    | false =>
     obtain ⟨v, hv, h2⟩ := fl_swap_quiet hF hoj he l1 l2 a w (fun i hi oi hoi => (hpair i hi oi hoi).1) hw hC h
     exact upon_FR (fun c hc => by have := hF.kind j oj hoj; rw [hc] at this; cases this) (hv w hC) (next _ _ hC h2)
   ·have hw' : Region.wanted oj (yielded ops a.tmps) = false := by simpa using hw
    simp only [hw', Bool.false_eq_true, if_false]
    exact ⟨fun f _ => pL f, next _ _ hC (fl_swap_skip hF hoj l1 l2 a w (fun i hi oi hoi => (hpair i hi oi hoi).1) hw' h)⟩


/-- **A region that draws its order, by the text's order.** -/
theorem wpIn_region_fl {id : Nat} {a : Act} {w : World} (hm : P.follows .mixedOrders = true) (hF : FlOk ops) (hC : C { w with drawn := w.drawn + 1 })
  (hK : ∀ a w, C w → K a w → Q .normal a w) (h : wpFl P ops C K (List.range ops.size) a { w with drawn := w.drawn + 1 }) : (Code.region id ops true).wpIn (FR ro.ro) 0 P Q a w := by
 refine wpIn_region_any hm (any_of_fl hF hK ops.size (List.range ops.size) _ a _ (by simp) (by simp) List.pairwise_lt_range ?_ ?_ hC h)
 ·intro i
  simp only [List.mem_range]
  constructor
  ·intro hi
   exact ⟨hi, by simp [hi]⟩
  ·exact fun hi => hi.1
 ·intro m o _ hD
  simp only [Array.getD_eq_getD_getElem?, Array.getElem?_replicate] at hD
  split at hD <;> simp at hD

end
end Go.Eng

/- The engine, part 6: the rules for a region that draws its order. -/
namespace Go.Eng
open Go Go.RowKit

section
variable {P : Program} {T : Tab} {ops : Array Oper} {C : World → Prop}

def gG (P : Program) (ops : Array Oper) (C : World → Prop) (K : Act → World → Prop) : List Oper → Act → World → Prop
 | [], a, w => K a w
 | o :: rest, a, w => if Region.wanted o (yielded ops a.tmps) = true then
    (if eff o.op = true then bS P o a w (fun v w' => C w' ∧ gG P ops C K rest (a.put o.dst v) w')
     else ∃ v, (∀ w', C w' → (execOp a.eval o).run P w' = .ok (.value v) w') ∧ gG P ops C K rest (a.put o.dst v) w)
   else gG P ops C K rest (a.put o.dst undef) w

theorem wpFl_eq {K : Act → World → Prop} (l : List Oper) : ∀ k, (∀ j, l[j]? = ops[k + j]?) → wpFl P ops C K (List.range' k l.length) = gG P ops C K l := by
 induction l with
 | nil => intro k _; funext a w; simp [wpFl, gG]
 | cons o l ih =>
  intro k h
  have h0 : ops[k]? = some o := by simpa using (h 0).symm
  have ih' := ih (k + 1) (fun j => by have := h (j + 1); simpa [Nat.add_assoc, Nat.add_comm 1 j] using this)
  funext a w
  simp only [List.length_cons, List.range'_succ, wpFl, h0, gG, ih']

variable {ro : Cx} {n : Nat} {F : Fin} {k : List It} {l rest : List Oper} {e : Env} {w : World} {o : Oper}

/-- What is left of a region that draws its order. -/
def YF (P : Program) (ro : Cx) (n : Nat) (F : Fin) (k : List It) (ops : Array Oper) (C : World → Prop) (l : List Oper) (e : Env) (w : World) : Prop :=
 ∀ a, Fits n e a → a.defers = ro.ds → gG P ops C (fun a w => S P ro.ro F k .normal a w) l a w

theorem yf_nil (h : Y P ro n F k e w) : YF P ro n F k ops C [] e w := h

/-- An operation that only looks. -/
theorem eY {t : Nat} {v : Value} {op : Op} {ty : TypeId} {pos : String} {af : Array Edge} (he : eff op = false) (ht : Nat.blt t n = true)
  (hr : ∀ a, Fits n e a → ∀ w', C w' → (execOp a.eval ⟨some t, op, ty, pos, af, none⟩).run P w' = .ok (.value v) w') (h : YF P ro n F k ops C rest ((t, v) :: e) w) :
  YF P ro n F k ops C (⟨some t, op, ty, pos, af, none⟩ :: rest) e w := fun a hf hd => by
 simp only [gG, Region.wanted, if_true, he, Bool.false_eq_true, if_false]
 exact ⟨v, hr a hf, h _ (hf.put v ht) (by simpa [Act.put] using hd)⟩

theorem yf_pure (hT : T.Ok P) {t : Nat} {v : Value} {op : Op} {ty : TypeId} {pos : String} {af : Array Edge} (hv : evp T e op = some v) (he : eff op = false) (ht : Nat.blt t n = true)
  (h : YF P ro n F k ops C rest ((t, v) :: e) w) : YF P ro n F k ops C (⟨some t, op, ty, pos, af, none⟩ :: rest) e w :=
 eY he ht (fun _ hf w' _ => evp_run hT hf hv w') h

theorem yf_load1 (hT : T.Ok P) {d t : Nat} {x : Operand} {ad : Addr} {v : Value} {ty : TypeId} {pos : String} {af : Array Edge}
  (hx : opv e x = some (.pointer (some ad))) (h1 : has T.one t = true) (hd : Nat.blt d n = true) (hc : ∀ w', C w' → w'.cell? ad = some v)
  (h : YF P ro n F k ops C rest ((d, v) :: e) w) : YF P ro n F k ops C (⟨some d, .load t x, ty, pos, af, none⟩ :: rest) e w :=
 eY rfl hd (fun a hf w' hw' => by
  have e1 := hf.op hx
  obtain ⟨r1, _⟩ := one_run hT h1 w'
  simp only [execOp, e1]
  simp [Instr.loadAt, Instr.sureAddr, loadVar, r1, load, Sem.run, hc w' hw']) h

theorem yf_loadA (hT : T.Ok P) {d t m : Nat} {x : Operand} {b off : Nat} {cs : List Value} {ty : TypeId} {pos : String} {af : Array Edge}
  (hx : opv e x = some (.pointer (some ⟨b, off, none⟩))) (h1 : fU T.agg t = some m) (hd : Nat.blt d n = true) (hl : cs.length = m) (hc : ∀ w', C w' → ∀ j, j < m → w'.cell? ⟨b, off + j, none⟩ = cs[j]?)
  (h : YF P ro n F k ops C rest ((d, .agg cs.toArray) :: e) w) : YF P ro n F k ops C (⟨some d, .load t x, ty, pos, af, none⟩ :: rest) e w :=
 eY rfl hd (fun a hf w' hw' => by
  have e1 := hf.op hx
  obtain ⟨r1, r2⟩ := agg_run hT h1 w'
  have r3 := fN (P := P) w' ⟨b, off, none⟩ m 0 #[] cs hl (fun j hj => by rw [Nat.zero_add, Addr.add_lit]; exact hc w' hw' j hj)
  simp only [execOp, e1]
  simp [Instr.loadAt, Instr.sureAddr, loadVar, loadCells, r1, r2, r3]) h

theorem yf_index (hT : T.Ok P) {d t et sz : Nat} {x ix : Operand} {b off len cap : Nat} {ik : IntKind} {i : Int} {ty : TypeId} {pos : String} {af : Array Edge}
  (hx : opv e x = some (.slice (some ⟨b, off, none⟩) len cap)) (hi : opv e ix = some (.int ik i)) (hs : fU T.esz t = some (et, sz)) (hsl : has T.len t = true) (hd : Nat.blt d n = true) (h0 : 0 ≤ i) (h1 : i < len)
  (h : YF P ro n F k ops C rest ((d, .pointer (some ⟨b, off + i.toNat * sz, none⟩)) :: e) w) : YF P ro n F k ops C (⟨some d, .indexAddr t x ix, ty, pos, af, none⟩ :: rest) e w :=
 eY rfl hd (fun a hf w' _ => by
  have e1 := hf.op hx
  have e2 := hf.op hi
  have hsz := hT.esz _ _ _ hs
  have hl := hT.len _ hsl
  simp only [eszB, Bool.and_eq_true] at hsz
  simp only [lenB] at hl
  obtain ⟨ha, hb⟩ := hsz
  split at hl
  ·rename_i el hu
   rw [hu] at ha
   have he := Nat.eq_of_beq_eq_true ha
   subst he
   split at hb
   ·rename_i inf hinf
    have hsz := Nat.eq_of_beq_eq_true hb
    simp only [execOp, e1, e2]
    simp [Instr.indexAt, asIntOf, run_underlying hu, h0, h1, sizeOf, typeInfo, hinf, hsz, Addr.add_lit]
   ·cases hb
  ·cases hl) h

theorem yf_quo {d t t' : Nat} {x y : Operand} {kd : IntKind} {p q : Int} {ty : TypeId} {pos : String} {af : Array Edge}
  (hx : opv e x = some (.int kd p)) (hy : opv e y = some (.int kd q)) (hq : q ≠ 0) (hd : Nat.blt d n = true)
  (h : YF P ro n F k ops C rest ((d, .int kd (kd.wrap (p.tdiv q))) :: e) w) : YF P ro n F k ops C (⟨some d, .binOp .quo t x y t', ty, pos, af, none⟩ :: rest) e w :=
 eY rfl hd (fun a hf w' _ => by
  have e1 := hf.op hx
  have e2 := hf.op hy
  simp only [execOp, e1, e2]
  simp [eqGuard, binOp, Op.intDiv, hq]) h

theorem yf_rem {d t t' : Nat} {x y : Operand} {kd : IntKind} {p q : Int} {ty : TypeId} {pos : String} {af : Array Edge}
  (hx : opv e x = some (.int kd p)) (hy : opv e y = some (.int kd q)) (hq : q ≠ 0) (hd : Nat.blt d n = true)
  (h : YF P ro n F k ops C rest ((d, .int kd (p.tmod q)) :: e) w) : YF P ro n F k ops C (⟨some d, .binOp .rem t x y t', ty, pos, af, none⟩ :: rest) e w :=
 eY rfl hd (fun a hf w' _ => by
  have e1 := hf.op hx
  have e2 := hf.op hy
  simp only [execOp, e1, e2]
  simp [eqGuard, binOp, Op.intDiv, hq]) h

theorem yf_build {d t : Nat} {parts : List (Nat × Operand)} {v : Value} {us : List Value} {ty : TypeId} {pos : String} {af : Array Edge}
  (hp : qP e (parts.map (·.2)) = some us) (hb : ∀ w, (Instr.build t ((parts.map (·.1)).zip us).toArray).run P w = .ok v w) (hd : Nat.blt d n = true)
  (h : YF P ro n F k ops C rest ((d, v) :: e) w) : YF P ro n F k ops C (⟨some d, .build t parts.toArray, ty, pos, af, none⟩ :: rest) e w :=
 eY rfl hd (fun a hf w' _ => by
  have e1 := hf.ops hp
  have e2 : (parts.toArray.map fun (x : Nat × Operand) => (x.1, a.eval x.2)) = ((parts.map (·.1)).zip us).toArray := by
   rw [← e1]
   simp only [List.map_toArray]
   congr 1
   clear hp hb h e1
   induction parts with
   | nil => rfl
   | cons p ps ih => simp [ih]
  simp only [execOp]
  rw [e2]
  simp [hb w']) h

theorem yf_guard_yes {dst : Option Nat} {op : Op} {ty : TypeId} {pos : String} {af : Array Edge} {j : Nat} {b : Bool} (hg : nH ops e j = some b)
  (h : YF P ro n F k ops C (⟨dst, op, ty, pos, af, none⟩ :: rest) e w) : YF P ro n F k ops C (⟨dst, op, ty, pos, af, some (j, b)⟩ :: rest) e w := fun a hf hd => by
 have h1 := h a hf hd
 have hy := gX hf hg
 simp only [gG, Region.wanted, if_true] at h1
 simp only [gG, Region.wanted, hy, beq_self_eq_true, if_true]
 exact h1

theorem yf_guard_no {t : Nat} {op : Op} {ty : TypeId} {pos : String} {af : Array Edge} {j : Nat} {b c : Bool} (hg : nH ops e j = some c) (hne : (c == b) = false) (ht : Nat.blt t n = true)
  (h : YF P ro n F k ops C rest ((t, undef) :: e) w) : YF P ro n F k ops C (⟨some t, op, ty, pos, af, some (j, b)⟩ :: rest) e w := fun a hf hd => by
 have hy := gX hf hg
 have hw : (some c == some b) = false := by simpa using hne
 simp only [gG, Region.wanted, hy, hw]
 exact h _ (hf.put undef ht) (by simpa [Act.put] using hd)

/-- A guard whose Bool is not known yet: two ways. -/
theorem yf_dec {t : Nat} {b : Bool} (hl : look e t = some (.bool b)) (hy : b = true → YF P ro n F k ops C l ((t, .bool true) :: e) w) (hn : b = false → YF P ro n F k ops C l ((t, .bool false) :: e) w) :
  YF P ro n F k ops C l e w := fun a hf hd => by
 have key : ∀ c, b = c → Fits n ((t, .bool c) :: e) a := fun c hc => ⟨hf.size, fun s v hs => by
  subst hc
  simp only [look] at hs
  cases hb : Nat.beq t s with
  | true =>
   rw [hb] at hs
   have := Nat.eq_of_beq_eq_true hb
   subst this
   simp at hs
   subst hs
   exact hf.at_ t _ hl
  | false => rw [hb] at hs; exact hf.at_ s v hs⟩
 cases hb : b with
 | true => exact hy hb a (key _ hb) hd
 | false => exact hn hb a (key _ hb) hd

theorem yl_dec {t : Nat} {b : Bool} (hl : look e t = some (.bool b)) (hy : b = true → YL P ro n F k ops l ((t, .bool true) :: e) w) (hn : b = false → YL P ro n F k ops l ((t, .bool false) :: e) w) :
  YL P ro n F k ops l e w := fun a hf hd => by
 have key : ∀ c, b = c → Fits n ((t, .bool c) :: e) a := fun c hc => ⟨hf.size, fun s v hs => by
  subst hc
  simp only [look] at hs
  cases hb : Nat.beq t s with
  | true =>
   rw [hb] at hs
   have := Nat.eq_of_beq_eq_true hb
   subst this
   simp at hs
   subst hs
   exact hf.at_ t _ hl
  | false => rw [hb] at hs; exact hf.at_ s v hs⟩
 cases hb : b with
 | true => exact hy hb a (key _ hb) hd
 | false => exact hn hb a (key _ hb) hd

def guardT (ops : Array Oper) (j : Nat) : Option Nat := (ops[j]?).bind (·.dst)

theorem yl_split {dst : Option Nat} {op : Op} {ty : TypeId} {pos : String} {af : Array Edge} {j t : Nat} {b c : Bool} (_hg : guardT ops j = some t) (hl : look e t = some (.bool b))
  (hy : b = true → YL P ro n F k ops (⟨dst, op, ty, pos, af, some (j, c)⟩ :: rest) ((t, .bool true) :: e) w) (hn : b = false → YL P ro n F k ops (⟨dst, op, ty, pos, af, some (j, c)⟩ :: rest) ((t, .bool false) :: e) w) :
  YL P ro n F k ops (⟨dst, op, ty, pos, af, some (j, c)⟩ :: rest) e w := yl_dec hl hy hn

theorem yf_split {dst : Option Nat} {op : Op} {ty : TypeId} {pos : String} {af : Array Edge} {j t : Nat} {b c : Bool} (_hg : guardT ops j = some t) (hl : look e t = some (.bool b))
  (hy : b = true → YF P ro n F k ops C (⟨dst, op, ty, pos, af, some (j, c)⟩ :: rest) ((t, .bool true) :: e) w) (hn : b = false → YF P ro n F k ops C (⟨dst, op, ty, pos, af, some (j, c)⟩ :: rest) ((t, .bool false) :: e) w) :
  YF P ro n F k ops C (⟨dst, op, ty, pos, af, some (j, c)⟩ :: rest) e w := yf_dec hl hy hn

/-- An operation that acts. -/
theorem yf_eff {t : Nat} {v : Value} {w' : World} {op : Op} {ty : TypeId} {pos : String} {af : Array Edge} (he : eff op = true) (ht : Nat.blt t n = true)
  (hr : ∀ a, Fits n e a → (execOp a.eval ⟨some t, op, ty, pos, af, none⟩).run P w = .ok (.value v) w') (hC : C w') (h : YF P ro n F k ops C rest ((t, v) :: e) w') :
  YF P ro n F k ops C (⟨some t, op, ty, pos, af, none⟩ :: rest) e w := fun a hf hd => by
 simp only [gG, Region.wanted, if_true, he, bS, hr a hf]
 exact ⟨hC, h _ (hf.put v ht) (by simpa [Act.put] using hd)⟩

theorem yf_do {w' : World} {op : Op} {ty : TypeId} {pos : String} {af : Array Edge} (he : eff op = true)
  (hr : ∀ a, Fits n e a → (execOp a.eval ⟨none, op, ty, pos, af, none⟩).run P w = .ok .skip w') (hC : C w') (h : YF P ro n F k ops C rest e w') :
  YF P ro n F k ops C (⟨none, op, ty, pos, af, none⟩ :: rest) e w := fun a hf hd => by
 simp only [gG, Region.wanted, if_true, he, bS, hr a hf]
 exact ⟨hC, h _ hf hd⟩

theorem yf_call (hT : T.Ok P) {t : Nat} {f : Operand} {ars : List Operand} {tys : Array TypeId} {ty : TypeId} {pos : String} {af : Array Edge} {g : Nat} {first caps : Array Value} {vs : List Value} {R : Value → World → Prop}
  (hf : opv e f = some (.func (.func g) first caps)) (hg : has T.fn g = true) (has_ : qP e ars = some vs) (ht : Nat.blt t n = true)
  (hc : Ca P g (first.toList ++ vs ++ caps.toList) w R) (h : ∀ v w', R v w' → C w' ∧ YF P ro n F k ops C rest ((t, v) :: e) w') :
  YF P ro n F k ops C (⟨some t, .call { callee := .value f, args := ars.toArray, argTypes := tys }, ty, pos, af, none⟩ :: rest) e w := fun a hfit hd => by
 have e1 := hfit.op hf
 have e2 := hfit.ops has_
 have hrun : (execOp a.eval ⟨some t, .call { callee := .value f, args := ars.toArray, argTypes := tys }, ty, pos, af, none⟩).run P w = .ok (.enter g (first.toList ++ vs ++ caps.toList).toArray) w := by
  simp only [execOp, resolve, List.map_toArray, e1, e2, Deferred.ofValue]
  simp [invoke, run_callFunc hT hg]
 have he : eff (.call { callee := .value f, args := ars.toArray, argTypes := tys }) = true := rfl
 simp only [gG, Region.wanted, if_true, he, bS, hrun]
 refine Calls.mono hc ?_
 rintro x w' ⟨v, rfl, hR⟩
 obtain ⟨h1, h2⟩ := h v w' hR
 exact ⟨v, Z, h1, h2 _ (hfit.put v ht) (by simpa [Act.put] using hd)⟩

theorem yf_alloc {d t : Nat} {z : Value} {ty : TypeId} {pos : String} {af : Array Edge}
  (hz : (P.info? t).bind (·.zero) = some z) (hd : Nat.blt d n = true)
  (h : ∀ w', Chg [] w w' → w'.heap.size = w.heap.size + 1 → Blk w' w.heap.size z.cells.toList t → C w' ∧ YF P ro n F k ops C rest ((d, .pointer (some ⟨w.heap.size, 0, none⟩)) :: e) w') :
  YF P ro n F k ops C (⟨some d, .alloc t, ty, pos, af, none⟩ :: rest) e w := by
 obtain ⟨h1, h2⟩ := h _ (eQ _ _) (by simp) (gH w z.cells t)
 exact yf_eff (w' := w.alloc (.cells z.cells t)) Z hd (fun a hf => by
  cases hi : P.info? t with
  | none => simp [hi] at hz
  | some i =>
   simp [hi] at hz
   simp only [execOp]
   simp [Instr.alloc, zeroValue, typeInfo, hi, hz, newVar, newRow, go_sem]) h1 h2

theorem yf_store1 (hT : T.Ok P) {t : Nat} {x y : Operand} {b i : Nat} {cs : List Value} {bt : TypeId} {v : Value} {ty : TypeId} {pos : String} {af : Array Edge}
  (hx : opv e x = some (.pointer (some ⟨b, i, none⟩))) (hy : opv e y = some v) (h1 : has T.one t = true) (hv : dY v = true) (hb : Blk w b cs bt) (hi : i < cs.length)
  (h : ∀ w', Chg [b] w w' → w'.heap.size = w.heap.size → Blk w' b (cs.set i v) bt → C w' ∧ YF P ro n F k ops C rest e w') :
  YF P ro n F k ops C (⟨none, .store t x y, ty, pos, af, none⟩ :: rest) e w := by
 obtain ⟨h3, h4⟩ := h (upd w b (.cells (cs.set i v).toArray bt (0, 0))) (upd_chg _ _ _) (upd_size _ _ _) (upd_blk hb.lt)
 exact yf_do Z (fun a hf => by
  have e1 := hf.op hx
  have e2 := hf.op hy
  obtain ⟨_, r2⟩ := one_run hT h1 w
  have hc := hb.cell i
  rw [List.getElem?_eq_getElem hi] at hc
  have hfr := hb.frozen i
  have hcells : v.cells = #[v] := by cases v <;> first | (simp [dY] at hv; done) | rfl
  rw [← oT hb]
  simp only [execOp, e1, e2]
  cases v <;> first | (simp [dY] at hv; done) | simp [Instr.storeAt, Instr.sureAddr, storeVar, r2, hcells, storeCells, store, Sem.run, hc, hfr, Addr.add_zero']) h3 h4

/-! Conditions -/

theorem y_if {c : Operand} {x y : Code} {p : Prop} [Decidable p] (hc : opv e c = some (.bool (decide p))) (ht : p → Y P ro n F (.code x :: k) e w) (hf : ¬p → Y P ro n F (.code y :: k) e w) :
  Y P ro n F (.code (.cond c x y) :: k) e w := y_cond hc (fun h => ht (of_decide_eq_true h)) (fun h => hf (of_decide_eq_false h))

theorem y_ifn {c : Operand} {x y : Code} {p : Prop} [Decidable p] (hc : opv e c = some (.bool (!decide p))) (ht : ¬p → Y P ro n F (.code x :: k) e w) (hf : p → Y P ro n F (.code y :: k) e w) :
  Y P ro n F (.code (.cond c x y) :: k) e w := y_cond hc (fun h => ht (by simpa using h)) (fun h => hf (by simpa using h))


/-! What stands next: each fails at once where it does not fit. -/

/-! Loads out of blocks of our own -/


theorem yl_loadB (hT : T.Ok P) {d t : Nat} {x : Operand} {b i : Nat} {cs : List Value} {bt : TypeId} {v : Value} {ty : TypeId} {pos : String} {af : Array Edge}
  (hx : opv e x = some (.pointer (some ⟨b, i, none⟩))) (h1 : has T.one t = true) (hd : Nat.blt d n = true) (hb : Blk w b cs bt) (hv : cs[i]? = some v)
  (h : YL P ro n F k ops rest ((d, v) :: e) w) : YL P ro n F k ops (⟨some d, .load t x, ty, pos, af, none⟩ :: rest) e w :=
 yl_load1 hT hx h1 hd ((hb.cell i).trans hv) h

theorem yl_loadAB (hT : T.Ok P) {d t m : Nat} {x : Operand} {b i : Nat} {cs us : List Value} {bt : TypeId} {ty : TypeId} {pos : String} {af : Array Edge}
  (hx : opv e x = some (.pointer (some ⟨b, i, none⟩))) (h1 : fU T.agg t = some m) (hd : Nat.blt d n = true) (hb : Blk w b cs bt) (hu : (cs.drop i).take m = us) (hl : us.length = m)
  (h : YL P ro n F k ops rest ((d, .agg us.toArray) :: e) w) : YL P ro n F k ops (⟨some d, .load t x, ty, pos, af, none⟩ :: rest) e w :=
 yl_loadA hT hx h1 hd hl (fun j hj => by
  rw [hb.cell, ← hu, List.getElem?_take, if_pos hj, List.getElem?_drop]) h

theorem Rd.cell {w : World} {lo hi : Nat} {b off cap m : Nat} {size : Nat} {cs : List Value} {v : Value} (h : Rd w lo hi v size m cs) (hv : v = .slice (some ⟨b, off, none⟩) m cap) (j : Nat) (hj : j < cs.length) : w.cell? ⟨b, off + j, none⟩ = cs[j]? := by
 obtain ⟨hl, ⟨rfl | ⟨a', cap', rfl⟩, _⟩ | ⟨b', off', cap', rfl, _, hc⟩⟩ := h
 ·cases hv
 ·cases hv
  rw [hl] at hj
  omega
 ·cases hv
  exact hc j hj

end
end Go.Eng

/- The engine, part 7: scopes, arrays, storing a struct, comparing with nil. -/
namespace Go.Eng
open Go Go.RowKit

section
variable {P : Program} {T : Tab} {ops : Array Oper} {C : World → Prop}
variable {ro : Cx} {n : Nat} {F : Fin} {k : List It} {l rest : List Oper} {e : Env} {w : World} {o : Oper}

theorem S_goto_inv {r : Option Nat} {k : List It} {l : Nat} {a : Act} {w : World} (h : S P r F k (.goto l) a w) : F (.goto l) a w := by
 induction k with
 | nil => exact h
 | cons i k ih => cases i <;> exact ih h

theorem y_scope {c : Code} (hF : ∀ l a w, ¬ F (.goto l) a w) {ds : List Deferred} (h : Y P ⟨none, ds⟩ n F (.code c :: k) e w) : Y P ⟨none, ds⟩ n F (.code (.scope c) :: k) e w := fun a hf hd => by
 have h1 : c.wpIn (FR none) 0 P (S P none F k) a w := h a hf hd
 refine (wpIn_wide (n := 0)).2 (wp_scope_straight (Code.wp_mono ?_ ((wpIn_wide (n := 0)).1 h1)))
 intro x a w hx
 cases x <;> first | exact hx | exact hF _ _ _ (S_goto_inv hx)

/-- An array's element. -/
def arrB (P : Program) (t len et sz : Nat) : Bool :=
 (match P.underlying t with | some (.array n e') => Nat.beq n len && Nat.beq e' et | _ => false) && (match P.info? et with | some i => Nat.beq i.size sz | none => false)

theorem run_indexA {t len et sz : Nat} (h : arrB P t len et sz = true) {b off : Nat} {ik : IntKind} {i : Int} (h0 : 0 ≤ i) (h1 : i < len) (w : World) :
  (Instr.indexAt t (.pointer (some ⟨b, off, none⟩)) (.int ik i)).run P w = .ok (.pointer (some ⟨b, off + i.toNat * sz, none⟩)) w := by
 simp only [arrB, Bool.and_eq_true] at h
 obtain ⟨ha, hb⟩ := h
 split at ha
 ·rename_i m e' hu
  simp only [Bool.and_eq_true] at ha
  have e1 := Nat.eq_of_beq_eq_true ha.1
  have e2 := Nat.eq_of_beq_eq_true ha.2
  subst e1; subst e2
  split at hb
  ·rename_i inf hinf
   have hsz := Nat.eq_of_beq_eq_true hb
   simp [Instr.indexAt, asIntOf, Instr.sureAddr, run_underlying hu, h0, h1, sizeOf, typeInfo, hinf, hsz, Addr.add_lit]
  ·cases hb
 ·cases ha

theorem yl_indexA {d t et sz len : Nat} {x ix : Operand} {b off : Nat} {ik : IntKind} {i : Int} {ty : TypeId} {pos : String} {af : Array Edge} (hA : arrB P t len et sz = true)
  (hx : opv e x = some (.pointer (some ⟨b, off, none⟩))) (hi : opv e ix = some (.int ik i)) (hd : Nat.blt d n = true) (h0 : 0 ≤ i) (h1 : i < len)
  (h : YL P ro n F k ops rest ((d, .pointer (some ⟨b, off + i.toNat * sz, none⟩)) :: e) w) : YL P ro n F k ops (⟨some d, .indexAddr t x ix, ty, pos, af, none⟩ :: rest) e w :=
 fZ (by simp) hd (fun a hf => by
  simp only [execOp, hf.op hx, hf.op hi]
  simp [run_indexA hA h0 h1 w]) h

theorem yf_indexA {d t et sz len : Nat} {x ix : Operand} {b off : Nat} {ik : IntKind} {i : Int} {ty : TypeId} {pos : String} {af : Array Edge} (hA : arrB P t len et sz = true)
  (hx : opv e x = some (.pointer (some ⟨b, off, none⟩))) (hi : opv e ix = some (.int ik i)) (hd : Nat.blt d n = true) (h0 : 0 ≤ i) (h1 : i < len)
  (h : YF P ro n F k ops C rest ((d, .pointer (some ⟨b, off + i.toNat * sz, none⟩)) :: e) w) : YF P ro n F k ops C (⟨some d, .indexAddr t x ix, ty, pos, af, none⟩ :: rest) e w :=
 eY rfl hd (fun a hf w' _ => by
  simp only [execOp, hf.op hx, hf.op hi]
  simp [run_indexA hA h0 h1 w']) h

/-! Storing several cells -/

def setL (cs : List Value) (i : Nat) : List Value → List Value
 | [] => cs
 | u :: us => setL (cs.set i u) (i + 1) us

theorem upd_upd (w : World) (b : Nat) (o o' : Obj) : upd (upd w b o) b o' = upd w b o' := by
 simp only [upd]
 congr 1
 apply Array.ext_getElem?
 intro j
 by_cases h : b = j
 ·subst h
  by_cases hlt : b < w.heap.size <;> simp [hlt]
 ·simp [Array.getElem?_setIfInBounds_ne h]

theorem upd_same {w : World} {b : Nat} {cs : List Value} {t : TypeId} (h : Blk w b cs t) : upd w b (.cells cs.toArray t (0, 0)) = w := by
 have hlt := h.lt
 unfold Blk at h
 have : w.heap.setIfInBounds b (.cells cs.toArray t (0, 0)) = w.heap := by
  apply Array.ext_getElem?
  intro j
  by_cases hj : b = j
  ·subst hj
   have h2 := (Array.getElem?_eq_some_iff.1 h).2
   simp [hlt, h2]
  ·simp [Array.getElem?_setIfInBounds_ne hj]
 simp only [upd, this]

theorem nL (b off : Nat) (bt : TypeId) : ∀ (us : List Value) (i : Nat) (cs : List Value) (w : World), Blk w b cs bt → off + i + us.length ≤ cs.length → (∀ u ∈ us, dY u = true) →
  (storeCells ⟨b, off, none⟩ us i).run P w = .ok () (upd w b (.cells (setL cs (off + i) us).toArray bt (0, 0)))
 | [], i, cs, w, hb, hl, h1 => by
  simp only [storeCells, setL]
  rw [upd_same hb]
  rfl
 | u :: us, i, cs, w, hb, hl, h1 => by
  have hu := h1 u List.mem_cons_self
  simp only [List.length_cons] at hl
  have hi : off + i < cs.length := by omega
  have hc := hb.cell (off + i)
  rw [List.getElem?_eq_getElem hi] at hc
  have hfr := hb.frozen (off + i)
  have ih := nL b off bt us (i + 1) (cs.set (off + i) u) (upd w b (.cells (cs.set (off + i) u).toArray bt (0, 0))) (upd_blk hb.lt) (by simp; omega) (fun u' hu' => h1 u' (List.mem_cons_of_mem _ hu'))
  rw [upd_upd] at ih
  simp only [storeCells, setL]
  have hst : (store ((⟨b, off, none⟩ : Addr).add i) u).run P w = .ok () (upd w b (.cells (cs.set (off + i) u).toArray bt (0, 0))) := by
   rw [Addr.add_lit, ← oT hb]
   cases u <;> first | (simp [dY] at hu; done) | simp [store, Sem.run, hc, hfr]
  simp [hst, ih, Nat.add_assoc]

theorem run_storeA (hT : T.Ok P) {t m : Nat} (h1 : fU T.agg t = some m) {b off : Nat} {cs us : List Value} {bt : TypeId} (hb : Blk w b cs bt) (hl : off + m ≤ cs.length) (hm : us.length = m) (h1v : ∀ u ∈ us, dY u = true) :
  (Instr.storeAt t (.pointer (some ⟨b, off, none⟩)) (.agg us.toArray)).run P w = .ok () (upd w b (.cells (setL cs off us).toArray bt (0, 0))) := by
 obtain ⟨_, r2⟩ := agg_run hT h1 w
 have h2 := nL (P := P) b off bt us 0 cs w hb O h1v
 simp [Instr.storeAt, Instr.sureAddr, storeVar, r2, Value.cells, hm, h2]

theorem yl_storeA (hT : T.Ok P) {t m : Nat} {x y : Operand} {b off : Nat} {cs us : List Value} {bt : TypeId} {ty : TypeId} {pos : String} {af : Array Edge}
  (hx : opv e x = some (.pointer (some ⟨b, off, none⟩))) (hy : opv e y = some (.agg us.toArray)) (h1 : fU T.agg t = some m) (hm : us.length = m) (h1v : ∀ u ∈ us, dY u = true) (hb : Blk w b cs bt) (hl : off + m ≤ cs.length)
  (h : ∀ w', Chg [b] w w' → w'.heap.size = w.heap.size → Blk w' b (setL cs off us) bt → YL P ro n F k ops rest e w') :
  YL P ro n F k ops (⟨none, .store t x y, ty, pos, af, none⟩ :: rest) e w :=
 yl_do (by simp) (fun a hf => by
  simp only [execOp, hf.op hx, hf.op hy]
  simp [run_storeA hT h1 hb hl hm h1v]) (h _ (upd_chg _ _ _) (upd_size _ _ _) (upd_blk hb.lt))

theorem yf_storeA (hT : T.Ok P) {t m : Nat} {x y : Operand} {b off : Nat} {cs us : List Value} {bt : TypeId} {ty : TypeId} {pos : String} {af : Array Edge}
  (hx : opv e x = some (.pointer (some ⟨b, off, none⟩))) (hy : opv e y = some (.agg us.toArray)) (h1 : fU T.agg t = some m) (hm : us.length = m) (h1v : ∀ u ∈ us, dY u = true) (hb : Blk w b cs bt) (hl : off + m ≤ cs.length)
  (h : ∀ w', Chg [b] w w' → w'.heap.size = w.heap.size → Blk w' b (setL cs off us) bt → C w' ∧ YF P ro n F k ops C rest e w') :
  YF P ro n F k ops C (⟨none, .store t x y, ty, pos, af, none⟩ :: rest) e w := by
 obtain ⟨h3, h4⟩ := h _ (upd_chg _ _ _) (upd_size _ _ _) (upd_blk hb.lt)
 exact yf_do Z (fun a hf => by
  simp only [execOp, hf.op hx, hf.op hy]
  simp [run_storeA hT h1 hb hl hm h1v]) h3 h4

/-- A slice against nil. -/
theorem len_slice {t : Nat} (hT : T.Ok P) (h : has T.len t = true) : ∃ el, P.underlying t = some (.slice el) := by
 have hl := hT.len _ h
 simp only [lenB] at hl
 split at hl
 ·rename_i el hu; exact ⟨el, hu⟩
 ·cases hl

theorem yl_eqnil (hT : T.Ok P) {d t t' : Nat} {x y : Operand} {a : Option Addr} {m c m' c' : Nat} {ty : TypeId} {pos : String} {af : Array Edge} (h : has T.len t = true)
  (hx : opv e x = some (.slice a m c)) (hy : opv e y = some (.slice none m' c')) (hd : Nat.blt d n = true)
  (hk : YL P ro n F k ops rest ((d, .bool a.isNone) :: e) w) : YL P ro n F k ops (⟨some d, .binOp .eql t x y t', ty, pos, af, none⟩ :: rest) e w :=
 fZ (by simp) hd (fun ac hf => by
  obtain ⟨el, hu⟩ := len_slice hT h
  simp only [execOp, hf.op hx, hf.op hy]
  simp [eqGuard_at_slice, Lib.run_eql_slice_nil w t el a m c m' c' hu]) hk

end
end Go.Eng

/- The engine, part 8: structs and slices that are built, by the program's own table; append in regions that draw. -/
namespace Go.Eng
open Go Go.RowKit
variable {P : Program} {T : Tab}

/-- What a slice literal holds. -/
def builtS (P : Program) (t len : Nat) (parts : List (Nat × Value)) : Option (Nat × Array Value) :=
 match P.underlying t with
 | some (.slice e) => match P.info? e with
  | some ie => match ie.zero with
   | some z => bif Nat.ble (len * ie.size) 16777216 && !(Nat.beq (len * ie.size) 0) then
     (Instr.fill (fun i => some (i * ie.size, ie.size)) ((Array.range (len * ie.size)).map (z.cells[· % z.cells.size]!)) parts).map (fun c => (e, c)) else none
   | none => none
  | none => none
 | _ => none

theorem builtS_run {t len e : Nat} {parts : List (Nat × Value)} {cells : Array Value} (h : builtS P t len parts = some (e, cells)) (w : World) :
  (Instr.buildSlice t len parts.toArray).run P w = .ok (.slice (some ⟨w.heap.size, 0, none⟩) len len) (w.alloc (.cells cells e)) := by
 unfold builtS at h
 split at h
 ·rename_i e' hu
  split at h
  ·rename_i ie hie
   split at h
   ·rename_i z hz
    cases hc : (Nat.ble (len * ie.size) 16777216 && !(Nat.beq (len * ie.size) 0)) with
    | false => simp [hc] at h
    | true =>
     simp only [hc, cond_true] at h
     simp only [Bool.and_eq_true, Bool.not_eq_true', Nat.ble_eq] at hc
     cases hf : Instr.fill (fun i => some (i * ie.size, ie.size)) ((Array.range (len * ie.size)).map (z.cells[· % z.cells.size]!)) parts with
     | none => simp [hf] at h
     | some c =>
      simp [hf] at h
      obtain ⟨rfl, rfl⟩ := h
      refine run_buildSlice w t e' len parts.toArray c ie z hu hie hz O (fun h0 => ?_) hf
      rw [h0] at hc
      simp at hc
   ·cases h
  ·cases h
 ·cases h

section
variable {ro : Cx} {n : Nat} {F : Fin} {k : List It} {ops : Array Oper} {l rest : List Oper} {e : Env} {w : World}

theorem yl_mk {d t : Nat} {parts : List (Nat × Operand)} {us : List Value} (cells : Array Value) {ty : TypeId} {pos : String} {af : Array Edge}
  (hp : qP e (parts.map (·.2)) = some us) (hb : P.built t ((parts.map (·.1)).zip us) = some cells) (hd : Nat.blt d n = true)
  (h : YL P ro n F k ops rest ((d, .agg cells) :: e) w) : YL P ro n F k ops (⟨some d, .build t parts.toArray, ty, pos, af, none⟩ :: rest) e w :=
 yl_build hp (fun w => run_build w t _ cells hb) hd h

theorem yl_mkS {d t len : Nat} {parts : List (Nat × Operand)} {us : List Value} (et : Nat) (cs : List Value) {ty : TypeId} {pos : String} {af : Array Edge}
  (hp : qP e (parts.map (·.2)) = some us) (hb : builtS P t len ((parts.map (·.1)).zip us) = some (et, cs.toArray)) (hd : Nat.blt d n = true)
  (h : ∀ w', Chg [] w w' → w'.heap.size = w.heap.size + 1 → Blk w' w.heap.size cs et → YL P ro n F k ops rest ((d, .slice (some ⟨w.heap.size, 0, none⟩) len len) :: e) w') :
  YL P ro n F k ops (⟨some d, .buildSlice t len parts.toArray, ty, pos, af, none⟩ :: rest) e w :=
 yl_buildSlice hp (fun w => builtS_run hb w) hd h

variable {C : World → Prop}

theorem yf_mk {d t : Nat} {parts : List (Nat × Operand)} {us : List Value} (cells : Array Value) {ty : TypeId} {pos : String} {af : Array Edge}
  (hp : qP e (parts.map (·.2)) = some us) (hb : P.built t ((parts.map (·.1)).zip us) = some cells) (hd : Nat.blt d n = true)
  (h : YF P ro n F k ops C rest ((d, .agg cells) :: e) w) : YF P ro n F k ops C (⟨some d, .build t parts.toArray, ty, pos, af, none⟩ :: rest) e w :=
 yf_build hp (fun w => run_build w t _ cells hb) hd h

theorem yf_mkS {d t len : Nat} {parts : List (Nat × Operand)} {us : List Value} (et : Nat) (cs : List Value) {ty : TypeId} {pos : String} {af : Array Edge}
  (hp : qP e (parts.map (·.2)) = some us) (hb : builtS P t len ((parts.map (·.1)).zip us) = some (et, cs.toArray)) (hd : Nat.blt d n = true)
  (h : ∀ w', Chg [] w w' → w'.heap.size = w.heap.size + 1 → Blk w' w.heap.size cs et → C w' ∧ YF P ro n F k ops C rest ((d, .slice (some ⟨w.heap.size, 0, none⟩) len len) :: e) w') :
  YF P ro n F k ops C (⟨some d, .buildSlice t len parts.toArray, ty, pos, af, none⟩ :: rest) e w := by
 obtain ⟨h1, h2⟩ := h _ (eQ _ _) (by simp) (gH w cs.toArray et)
 refine yf_eff Z hd (fun a hf => ?_) h1 h2
 have e1 := hf.ops hp
 have e2 : (parts.toArray.map fun (x : Nat × Operand) => (x.1, a.eval x.2)) = ((parts.map (·.1)).zip us).toArray := by
  rw [← e1]
  simp only [List.map_toArray]
  congr 1
  clear hp hb h h1 h2 e1
  induction parts with
  | nil => rfl
  | cons p ps ih => simp [ih]
 simp only [execOp]
 rw [e2]
 simp [builtS_run hb w]

theorem own_nil (w : World) (base e size : Nat) : w.ownsRow base e size (.slice none 0 0) 0 [] := ⟨by simp, .inl ⟨rfl, rfl⟩⟩

theorem run_loadAB (hT : T.Ok P) {t m : Nat} {b : Nat} {us : List Value} {bt : TypeId} (h1 : fU T.agg t = some m) (hb : Blk w b us bt) (hl : us.length = m) :
  (loadVar t ⟨b, 0, none⟩).run P w = .ok (.agg us.toArray) w := by
 obtain ⟨r1, r2⟩ := agg_run hT h1 w
 have r3 := fN (P := P) w ⟨b, 0, none⟩ m 0 #[] us hl (fun j hj => by rw [Nat.zero_add, Addr.add_lit, hb.cell, Nat.zero_add])
 simp [loadVar, loadCells, r1, r2, r3]

end
end Go.Eng

/- The engine, part 9: a region that draws its order, in which some operations only stand ahead of what acts. -/
namespace Go.Eng
open Go Go.RowKit
section
variable {P : Program} {ops : Array Oper} {Cq Ce : Nat → World → Prop}

/-- The text's order. -/
def hO (P : Program) (ops : Array Oper) (Cq Ce : Nat → World → Prop) (K : Act → World → Prop) : List Nat → Act → World → Prop
 | [], a, w => K a w
 | i :: rest, a, w => match ops[i]? with
  | none => hO P ops Cq Ce K rest a w
  | some o => if Region.wanted o (yielded ops a.tmps) = true then
    (if eff o.op = true then bS P o a w (fun v w' => Ce i w' ∧ hO P ops Cq Ce K rest (a.put o.dst v) w')
     else ∃ v, (∀ w', Cq i w' → (execOp a.eval o).run P w' = .ok (.value v) w') ∧ hO P ops Cq Ce K rest (a.put o.dst v) w)
   else hO P ops Cq Ce K rest (a.put o.dst undef) w

variable {K : Act → World → Prop}

/-- Operation j, not acting, may be taken first. -/
theorem fl_swap_quiet2 (hF : FlOk ops) {j : Nat} {oj : Oper} (hj : ops[j]? = some oj) (hne : eff oj.op = false) : ∀ (l1 l2 : List Nat) (a : Act) (w : World),
  (∀ i ∈ l1, ∀ oi, ops[i]? = some oi → oi.apart ops oj = true ∧ (eff oi.op = true → ∀ w', Ce i w' → Cq j w')) → Region.wanted oj (yielded ops a.tmps) = true → Cq j w → hO P ops Cq Ce K (l1 ++ j :: l2) a w →
  ∃ v, (∀ w', Cq j w' → (execOp a.eval oj).run P w' = .ok (.value v) w') ∧ hO P ops Cq Ce K (l1 ++ l2) (a.put oj.dst v) w := by
 intro l1
 induction l1 with
 | nil =>
  intro l2 a w _ hw hC h
  simp only [List.nil_append, hO, hj, hw, if_true, hne] at h
  simpa using h
 | cons i l1 ih =>
  intro l2 a w hap hw hC h
  have ih' := fun a w => ih l2 a w (fun i' hi' => hap i' (List.mem_cons_of_mem _ hi'))
  simp only [List.cons_append, hO] at h ⊢
  cases hi : ops[i]? with
  | none => simp only [hi] at h ⊢; exact ih' a w hw hC h
  | some oi =>
   simp only [hi] at h ⊢
   obtain ⟨p1, p2, p3⟩ := Oper.apart_spec (hap i List.mem_cons_self oi hi).1
   have kj := hF.kind j oj hj
   have ki := hF.kind i oi hi
   have ej : ∀ (a : Act) v, execOp (a.put oi.dst v).eval oj = execOp a.eval oj := fun a v => dI kj a oi.dst v p1
   have ei : ∀ (a : Act) v, execOp (a.put oj.dst v).eval oi = execOp a.eval oi := fun a v => dI ki a oj.dst v p3
   have wj : ∀ (a : Act) v, Region.wanted oj (yielded ops (a.put oi.dst v).tmps) = Region.wanted oj (yielded ops a.tmps) := fun a v => wanted_put oj a oi.dst v p1
   have wi : ∀ (a : Act) v, Region.wanted oi (yielded ops (a.put oj.dst v).tmps) = Region.wanted oi (yielded ops a.tmps) := fun a v => wanted_put oi a oj.dst v p3
   have cm : ∀ (a : Act) u v, (a.put oi.dst u).put oj.dst v = (a.put oj.dst v).put oi.dst u := fun a u v => Act.put_comm a u v p2
   by_cases hwi : Region.wanted oi (yielded ops a.tmps) = true
   ·simp only [hwi, if_true] at h
    by_cases he : eff oi.op = true
    ·simp only [he, if_true] at h
     obtain ⟨v0, w0, hC0, h0⟩ := h.some
     obtain ⟨v, hv, _⟩ := ih' _ w0 (by rw [wj]; exact hw) ((hap i List.mem_cons_self oi hi).2 he w0 hC0) h0
     simp only [ej] at hv
     refine ⟨v, hv, ?_⟩
     rw [wi]
     simp only [hwi, if_true, he]
     have h1 : bS P oi (a.put oj.dst v) w (fun u w' => Ce i w' ∧ hO P ops Cq Ce K (l1 ++ j :: l2) (a.put oi.dst u) w') := by
      unfold bS at h ⊢
      rw [ei]
      exact h
     refine h1.mono fun u w' ⟨hC', h2⟩ => ⟨hC', ?_⟩
     obtain ⟨v', hv', h3⟩ := ih' _ w' (by rw [wj]; exact hw) ((hap i List.mem_cons_self oi hi).2 he w' hC') h2
     simp only [ej] at hv'
     have e1 := hv w hC
     have e2 := hv' w hC
     rw [e1] at e2
     have : v = v' := by simpa using e2
     subst this
     rw [cm] at h3
     exact h3
    ·simp only [he] at h
     obtain ⟨u, hu, h⟩ := h
     obtain ⟨v, hv, h3⟩ := ih' _ w (by rw [wj]; exact hw) hC h
     simp only [ej] at hv
     refine ⟨v, hv, ?_⟩
     rw [wi]
     simp only [hwi, if_true, he]
     refine ⟨u, fun w' hC' => by rw [ei]; exact hu w' hC', ?_⟩
     rw [cm] at h3
     exact h3
   ·simp only [hwi] at h
    obtain ⟨v, hv, h3⟩ := ih' _ w (by rw [wj]; exact hw) hC h
    simp only [ej] at hv
    refine ⟨v, hv, ?_⟩
    rw [wi]
    simp only [hwi]
    rw [cm] at h3
    exact h3

/-- .. and so one that is not wanted. -/
theorem fl_swap_skip2 (hF : FlOk ops) {j : Nat} {oj : Oper} (hj : ops[j]? = some oj) : ∀ (l1 l2 : List Nat) (a : Act) (w : World),
  (∀ i ∈ l1, ∀ oi, ops[i]? = some oi → oi.apart ops oj = true) → Region.wanted oj (yielded ops a.tmps) = false → hO P ops Cq Ce K (l1 ++ j :: l2) a w → hO P ops Cq Ce K (l1 ++ l2) (a.put oj.dst undef) w := by
 intro l1
 induction l1 with
 | nil =>
  intro l2 a w _ hw h
  simp only [List.nil_append, hO, hj, hw] at h
  simpa using h
 | cons i l1 ih =>
  intro l2 a w hap hw h
  have ih' := fun a w => ih l2 a w (fun i' hi' => hap i' (List.mem_cons_of_mem _ hi'))
  simp only [List.cons_append, hO] at h ⊢
  cases hi : ops[i]? with
  | none => simp only [hi] at h ⊢; exact ih' a w hw h
  | some oi =>
   simp only [hi] at h ⊢
   obtain ⟨p1, p2, p3⟩ := Oper.apart_spec (hap i List.mem_cons_self oi hi)
   have ki := hF.kind i oi hi
   have ei : ∀ (a : Act) v, execOp (a.put oj.dst v).eval oi = execOp a.eval oi := fun a v => dI ki a oj.dst v p3
   have wj : ∀ (a : Act) v, Region.wanted oj (yielded ops (a.put oi.dst v).tmps) = Region.wanted oj (yielded ops a.tmps) := fun a v => wanted_put oj a oi.dst v p1
   have wi : ∀ (a : Act) v, Region.wanted oi (yielded ops (a.put oj.dst v).tmps) = Region.wanted oi (yielded ops a.tmps) := fun a v => wanted_put oi a oj.dst v p3
   have cm : ∀ (a : Act) u v, (a.put oi.dst u).put oj.dst v = (a.put oj.dst v).put oi.dst u := fun a u v => Act.put_comm a u v p2
   rw [wi]
   by_cases hwi : Region.wanted oi (yielded ops a.tmps) = true
   ·simp only [hwi, if_true] at h ⊢
    by_cases he : eff oi.op = true
    ·simp only [he, if_true] at h ⊢
     have h1 : bS P oi (a.put oj.dst undef) w (fun u w' => Ce i w' ∧ hO P ops Cq Ce K (l1 ++ j :: l2) (a.put oi.dst u) w') := by
      unfold bS at h ⊢
      rw [ei]
      exact h
     refine h1.mono fun u w' ⟨hC', h2⟩ => ⟨hC', ?_⟩
     have h3 := ih' _ w' (by rw [wj]; exact hw) h2
     rw [cm] at h3
     exact h3
    ·simp only [he] at h ⊢
     obtain ⟨u, hu, h⟩ := h
     have h3 := ih' _ w (by rw [wj]; exact hw) h
     refine ⟨u, fun w' hC' => by rw [ei]; exact hu w' hC', ?_⟩
     rw [cm] at h3
     exact h3
   ·simp only [hwi] at h ⊢
    have h3 := ih' _ w (by rw [wj]; exact hw) h
    rw [cm] at h3
    exact h3

/-- .. and one that acts, where nothing ahead of it acts. -/
theorem fl_swap_eff2 (hF : FlOk ops) {j : Nat} {oj : Oper} (hj : ops[j]? = some oj) (he : eff oj.op = true) : ∀ (l1 l2 : List Nat) (a : Act) (w : World),
  (∀ i ∈ l1, ∀ oi, ops[i]? = some oi → oi.apart ops oj = true ∧ eff oi.op = false) → Region.wanted oj (yielded ops a.tmps) = true → hO P ops Cq Ce K (l1 ++ j :: l2) a w →
  bS P oj a w (fun v w' => Ce j w' ∧ hO P ops Cq Ce K (l1 ++ l2) (a.put oj.dst v) w') := by
 intro l1
 induction l1 with
 | nil =>
  intro l2 a w _ hw h
  simp only [List.nil_append, hO, hj, hw, if_true, he] at h
  simpa using h
 | cons i l1 ih =>
  intro l2 a w hap hw h
  have ih' := fun a w => ih l2 a w (fun i' hi' => hap i' (List.mem_cons_of_mem _ hi'))
  simp only [List.cons_append, hO] at h ⊢
  cases hi : ops[i]? with
  | none => simp only [hi] at h ⊢; exact ih' a w hw h
  | some oi =>
   simp only [hi] at h ⊢
   obtain ⟨hap', hei⟩ := hap i List.mem_cons_self oi hi
   obtain ⟨p1, p2, p3⟩ := Oper.apart_spec hap'
   have kj := hF.kind j oj hj
   have ki := hF.kind i oi hi
   have ej : ∀ (a : Act) v, execOp (a.put oi.dst v).eval oj = execOp a.eval oj := fun a v => dI kj a oi.dst v p1
   have ei : ∀ (a : Act) v, execOp (a.put oj.dst v).eval oi = execOp a.eval oi := fun a v => dI ki a oj.dst v p3
   have wj : ∀ (a : Act) v, Region.wanted oj (yielded ops (a.put oi.dst v).tmps) = Region.wanted oj (yielded ops a.tmps) := fun a v => wanted_put oj a oi.dst v p1
   have wi : ∀ (a : Act) v, Region.wanted oi (yielded ops (a.put oj.dst v).tmps) = Region.wanted oi (yielded ops a.tmps) := fun a v => wanted_put oi a oj.dst v p3
   have cm : ∀ (a : Act) u v, (a.put oi.dst u).put oj.dst v = (a.put oj.dst v).put oi.dst u := fun a u v => Act.put_comm a u v p2
   by_cases hwi : Region.wanted oi (yielded ops a.tmps) = true
   ·simp only [hwi, if_true, hei] at h
    simp only [Bool.false_eq_true, if_false] at h
    obtain ⟨u, hu, h⟩ := h
    have h3 := ih' _ w (by rw [wj]; exact hw) h
    have h4 : bS P oj a w (fun v w' => Ce j w' ∧ hO P ops Cq Ce K (l1 ++ l2) ((a.put oi.dst u).put oj.dst v) w') := by
     unfold bS at h3 ⊢
     rw [ej] at h3
     exact h3
    refine h4.mono fun v w' ⟨hC', h5⟩ => ⟨hC', ?_⟩
    rw [wi]
    simp only [hwi, if_true, hei, Bool.false_eq_true, if_false]
    refine ⟨u, fun w' hC' => by rw [ei]; exact hu w' hC', ?_⟩
    rw [cm] at h5
    exact h5
   ·simp only [hwi] at h
    simp only [Bool.false_eq_true, if_false] at h
    have h3 := ih' _ w (by rw [wj]; exact hw) h
    have h4 : bS P oj a w (fun v w' => Ce j w' ∧ hO P ops Cq Ce K (l1 ++ l2) ((a.put oi.dst undef).put oj.dst v) w') := by
     unfold bS at h3 ⊢
     rw [ej] at h3
     exact h3
    refine h4.mono fun v w' ⟨hC', h5⟩ => ⟨hC', ?_⟩
    rw [wi]
    simp only [hwi, Bool.false_eq_true, if_false]
    rw [cm] at h5
    exact h5


variable {ro : Cx} {Q : Fin}

/-- From the text's order to every order: R is what is left, in the text's order. -/
theorem any_of_fl2 (hF : FlOk ops) (hH : ∀ (i j : Nat) oi oj, ops[i]? = some oi → ops[j]? = some oj → eff oi.op = false → eff oj.op = true → (j < i ∨ ((eF ops.toList).getD j 0).testBit i = false) → ∀ w, Ce j w → Cq i w) (hK : ∀ a w, K a w → Q .normal a w) : ∀ (fuel : Nat) (R : List Nat) (listed : Array Bool) (a : Act) (w : World),
  R.length = fuel → listed.size = ops.size → R.Pairwise (· < ·) → (∀ i, i ∈ R ↔ i < ops.size ∧ listed.getD i true = false) →
  (∀ (m : Nat) o, ops[m]? = some o → listed.getD m false = true → ∀ e ∈ o.after, Region.binds .any e = true → listed.getD e.on false = true) →
  (∀ i ∈ R, ∀ o, ops[i]? = some o → eff o.op = false → Cq i w) → hO P ops Cq Ce K R a w → wpAnyIn (FR ro.ro) 0 P .any ops Q fuel listed a w := by
 intro fuel
 induction fuel with
 | zero =>
  intro R listed a w hl hsz hR hmem hcl hC h
  have : R = [] := by simpa using hl
  subst this
  refine ⟨?_, hK _ _ h⟩
  refine List.eq_nil_iff_forall_not_mem.2 fun i hi => ?_
  obtain ⟨h0, o, ho, _⟩ := mem_ready.1 hi
  exact absurd ((hmem i).2 ⟨(Array.getElem?_eq_some_iff.1 ho).1, h0⟩) (by simp)
 | succ fuel ih =>
  intro R listed a w hl hsz hR hmem hcl hC h
  refine ⟨fun h0 => ?_, fun j hj => ?_⟩
  · -- nothing is ready: but the first of R waits for earlier ones alone, all of which are listed
   exfalso
   cases R with
   | nil => simp at hl
   | cons i R =>
    obtain ⟨hi1, hi2⟩ := (hmem i).1 List.mem_cons_self
    have hrd : i ∈ Region.ready .any ops listed := by
     refine mem_ready.2 ⟨hi2, ops[i], Array.getElem?_eq_getElem hi1, fun e he hb => ?_⟩
     have hlt := hF.back i _ (Array.getElem?_eq_getElem hi1) e he hb
     have hnot : e.on ∉ i :: R := by
      intro hx
      rcases List.mem_cons.1 hx with hx | hx
      ·omega
      ·have := List.rel_of_pairwise_cons hR hx
       omega
     have h3 : ¬ (e.on < ops.size ∧ listed.getD e.on true = false) := fun hx => hnot ((hmem _).2 hx)
     have h4 : e.on < listed.size := by omega
     simp only [Array.getD_eq_getD_getElem?, Array.getElem?_eq_getElem h4, Option.getD_some] at h3 ⊢
     cases hc : listed[e.on] with
     | true => rfl
     | false => exact absurd ⟨by omega, hc⟩ h3
    rw [h0] at hrd
    cases hrd
  ·obtain ⟨h0, oj, hoj, hre⟩ := mem_ready.1 hj
   have hjR : j ∈ R := (hmem j).2 ⟨(Array.getElem?_eq_some_iff.1 hoj).1, h0⟩
   obtain ⟨l1, l2, rfl⟩ := List.append_of_mem hjR
   have hlt1 : ∀ i ∈ l1, i < j := fun i hi => (List.pairwise_append.1 hR).2.2 i hi j (by simp)
   have hjl : listed.getD j false = true → False := fun hx => by
    simp only [Array.getD_eq_getD_getElem?] at hx h0
    cases hc : listed[j]? <;> simp [hc] at hx h0
    simp [hx] at h0
   have hun : ∀ i ∈ l1, ((eF ops.toList).getD j 0).testBit i = false := fun i hi => by
    cases hb : ((eF ops.toList).getD j 0).testBit i with
    | false => rfl
    | true =>
     have h1 := mQ (D := fun m => listed.getD m false = true) (fun m o hm hD e he hb => hcl m o hm hD e he hb) j oj hoj (fun e he hb => hre e he hb) i hb
     have h2 := ((hmem i).1 (by simp [hi])).2
     simp only [Array.getD_eq_getD_getElem?] at h1 h2
     cases hc : listed[i]? <;> simp [hc] at h1 h2
     simp [h1] at h2
   have hpair : ∀ i ∈ l1, ∀ oi, ops[i]? = some oi → oi.apart ops oj = true ∧ (eff oi.op = true → eff oj.op = true → False) := fun i hi oi hoi => by
    rcases hF.pair i j oi oj (hlt1 i hi) hoi hoj with h1 | h1
    ·rw [hun i hi] at h1; cases h1
    ·exact h1
   have next : ∀ a w, (∀ i ∈ l1 ++ l2, ∀ o, ops[i]? = some o → eff o.op = false → Cq i w) → hO P ops Cq Ce K (l1 ++ l2) a w → wpAnyIn (FR ro.ro) 0 P .any ops Q fuel (listed.setIfInBounds j true) a w := by
    intro a w hC h
    refine ih (l1 ++ l2) _ a w ?_ (by simp [hsz]) ?_ ?_ ?_ hC h
    ·simp at hl ⊢; omega
    ·exact hR.sublist (List.Sublist.append_left (List.sublist_cons_self _ _) _)
    ·intro i
     have hnd : j ∉ l1 ++ l2 := by
      intro hx
      rcases List.mem_append.1 hx with hx | hx
      ·exact absurd (hlt1 j hx) O
      ·have := (List.pairwise_append.1 hR).2.1
       have := List.rel_of_pairwise_cons this hx
       omega
     constructor
     ·intro hi
      have hne : j ≠ i := fun e => hnd (e ▸ hi)
      have h1 := (hmem i).1 (by rcases List.mem_append.1 hi with hi | hi <;> simp [hi])
      exact ⟨h1.1, by rw [getD_set_ne true hne]; exact h1.2⟩
     ·rintro ⟨h1, h2⟩
      have hne : j ≠ i := fun e => by
       subst e
       simp [hsz, h1] at h2
      rw [getD_set_ne true hne] at h2
      have := (hmem i).2 ⟨h1, h2⟩
      rcases List.mem_append.1 this with hx | hx
      ·exact List.mem_append.2 (.inl hx)
      ·rcases List.mem_cons.1 hx with hx | hx
       ·exact absurd hx.symm hne
       ·exact List.mem_append.2 (.inr hx)
    ·intro m o hm hD e he hb
     by_cases hmj : j = m
     ·subst hmj
      rw [hoj] at hm
      obtain rfl := Option.some.inj hm
      exact getD_set_true (hre e he hb)
     ·rw [getD_set_ne false hmj] at hD
      exact getD_set_true (hcl m o hm hD e he hb)
   unfold wpOpIn
   simp only [hoj]
   by_cases hw : Region.wanted oj (yielded ops a.tmps) = true
   ·simp only [hw, if_true]
    cases he : eff oj.op with
    | true =>
     have h1 := fl_swap_eff2 hF hoj he l1 l2 a w (fun i hi oi hoi => ⟨(hpair i hi oi hoi).1, by
      cases hx : eff oi.op with
      | false => rfl
      | true => exact ((hpair i hi oi hoi).2 hx he).elim⟩) hw h
     exact bS.wpIn (hF.kind j oj hoj) (h1.mono fun v w' ⟨hC', h2⟩ => next _ _ (fun i hi o ho hq => hH i j o oj ho hoj hq he (by
      rcases List.mem_append.1 hi with hx | hx
      ·exact .inr (hun i hx)
      ·exact .inl (List.rel_of_pairwise_cons (List.pairwise_append.1 hR).2.1 hx)) w' hC') h2)
    | false =>
     obtain ⟨v, hv, h2⟩ := fl_swap_quiet2 hF hoj he l1 l2 a w (fun i hi oi hoi => ⟨(hpair i hi oi hoi).1, fun hei w' hC' => hH j i oj oi hoj hoi he hei (.inl (hlt1 i hi)) w' hC'⟩) hw (hC j (by simp) oj hoj he) h
     exact upon_FR (fun c hc => by have := hF.kind j oj hoj; rw [hc] at this; cases this) (hv w (hC j (by simp) oj hoj he)) (next _ _ (fun i hi => hC i (by rcases List.mem_append.1 hi with hx | hx <;> simp [hx])) h2)
   ·have hw' : Region.wanted oj (yielded ops a.tmps) = false := by simpa using hw
    simp only [hw', Bool.false_eq_true, if_false]
    exact ⟨fun f _ => pL f, next _ _ (fun i hi => hC i (by rcases List.mem_append.1 hi with hx | hx <;> simp [hx])) (fl_swap_skip2 hF hoj l1 l2 a w (fun i hi oi hoi => (hpair i hi oi hoi).1) hw' h)⟩


/-- **A region that draws its order, by the text's order.** -/
theorem lY {id : Nat} {a : Act} {w : World} (hm : P.follows .mixedOrders = true) (hF : FlOk ops) (hH : ∀ (i j : Nat) oi oj, ops[i]? = some oi → ops[j]? = some oj → eff oi.op = false → eff oj.op = true → (j < i ∨ ((eF ops.toList).getD j 0).testBit i = false) → ∀ w, Ce j w → Cq i w) (hC : ∀ i, Cq i { w with drawn := w.drawn + 1 })
  (hK : ∀ a w, K a w → Q .normal a w) (h : hO P ops Cq Ce K (List.range ops.size) a { w with drawn := w.drawn + 1 }) : (Code.region id ops true).wpIn (FR ro.ro) 0 P Q a w := by
 refine wpIn_region_any hm (any_of_fl2 hF hH hK ops.size (List.range ops.size) _ a _ (by simp) (by simp) List.pairwise_lt_range ?_ ?_ (fun i _ _ _ _ => hC i) h)
 ·intro i
  simp only [List.mem_range]
  constructor
  ·intro hi
   exact ⟨hi, by simp [hi]⟩
  ·exact fun hi => hi.1
 ·intro m o _ hD
  simp only [Array.getD_eq_getD_getElem?, Array.getElem?_replicate] at hD
  split at hD <;> simp at hD

end

section
variable {P : Program} {T : Tab} {ops : Array Oper}

/-- One flag for each operation: those that are marked see the first kind of worlds alone, the others the second kind as well. -/
def mJ (P : Program) (ops : Array Oper) (C1 C2 : World → Prop) (K : Act → World → Prop) : List Bool → List Oper → Act → World → Prop
 | _, [], a, w => K a w
 | bs, o :: rest, a, w => if Region.wanted o (yielded ops a.tmps) = true then
    (if eff o.op = true then bS P o a w (fun v w' => (bif bs.headD false then C1 w' else C2 w') ∧ mJ P ops C1 C2 K bs.tail rest (a.put o.dst v) w')
     else ∃ v, (∀ w', (bif bs.headD false then C1 w' else C2 w') → (execOp a.eval o).run P w' = .ok (.value v) w') ∧ mJ P ops C1 C2 K bs.tail rest (a.put o.dst v) w)
   else mJ P ops C1 C2 K bs.tail rest (a.put o.dst undef) w

def gB (C1 C2 : World → Prop) (bs : List Bool) (i : Nat) : World → Prop := fun w => bif bs.getD i false then C1 w else C2 w

theorem wpFlB_eq {C1 C2 : World → Prop} {K : Act → World → Prop} {bs : List Bool} (l : List Oper) : ∀ k, (∀ j, l[j]? = ops[k + j]?) → hO P ops (gB C1 C2 bs) (gB C1 C2 bs) K (List.range' k l.length) = mJ P ops C1 C2 K (bs.drop k) l := by
 induction l with
 | nil => intro k _; funext a w; simp [hO, mJ]
 | cons o l ih =>
  intro k h
  have h0 : ops[k]? = some o := by simpa using (h 0).symm
  have ih' := ih (k + 1) (fun j => by have := h (j + 1); simpa [Nat.add_assoc, Nat.add_comm 1 j] using this)
  have e1 : (bs.drop k).headD false = bs.getD k false := by simp [List.headD_eq_head?_getD, List.head?_drop]
  have e2 : (bs.drop k).tail = bs.drop (k + 1) := by simp
  funext a w
  simp only [List.length_cons, List.range'_succ, hO, h0, mJ, ih', e1, e2, gB]

/-- An operation that acts and is not marked comes after all that are marked. -/
def flagB (ops : Array Oper) (bs : List Bool) : Bool :=
 (List.range ops.size).all fun j => match ops[j]? with
  | none => true
  | some oj => !(eff oj.op) || bs.getD j false || (List.range ops.size).all fun i => match ops[i]? with
   | none => true
   | some oi => eff oi.op || !(bs.getD i false) || (Nat.blt i j && ((eF ops.toList).getD j 0).testBit i)

theorem flagB_spec {bs : List Bool} (h : flagB ops bs = true) {C1 C2 : World → Prop} (h12 : ∀ w, C1 w → C2 w) (i j : Nat) (oi oj : Oper) (hi : ops[i]? = some oi) (hj : ops[j]? = some oj) (hei : eff oi.op = false) (hej : eff oj.op = true)
  (hm : j < i ∨ ((eF ops.toList).getD j 0).testBit i = false) (w : World) (hC : gB C1 C2 bs j w) : gB C1 C2 bs i w := by
 have h1 := List.all_eq_true.1 h j (List.mem_range.2 (Array.getElem?_eq_some_iff.1 hj).1)
 simp only [hj, hej, Bool.not_true, Bool.false_or, Bool.or_eq_true] at h1
 unfold gB at hC ⊢
 rcases h1 with h1 | h1
 ·rw [h1] at hC
  cases bs.getD i false with
  | true => exact hC
  | false => exact h12 _ hC
 ·have h2 := List.all_eq_true.1 h1 i (List.mem_range.2 (Array.getElem?_eq_some_iff.1 hi).1)
  simp only [hi, hei, Bool.false_or, Bool.or_eq_true, Bool.not_eq_true', Bool.and_eq_true, Nat.blt_eq] at h2
  rcases h2 with h2 | h2
  ·rw [h2]
   cases hb : bs.getD j false with
   | true => rw [hb] at hC; exact h12 _ hC
   | false => rw [hb] at hC; exact hC
  ·exfalso
   rcases hm with hm | hm
   ·omega
   ·rw [h2.2] at hm; cases hm

variable {ro : Cx} {n : Nat} {F : Fin} {k : List It} {l rest : List Oper} {e : Env} {w : World} {o : Oper}

def YB (P : Program) (ro : Cx) (n : Nat) (F : Fin) (k : List It) (ops : Array Oper) (C1 C2 : World → Prop) (bs : List Bool) (l : List Oper) (e : Env) (w : World) : Prop :=
 ∀ a, Fits n e a → a.defers = ro.ds → mJ P ops C1 C2 (fun a w => S P ro.ro F k .normal a w) bs l a w

variable {C1 C2 : World → Prop}

/-- Operations with the same mark are walked as ever. -/
theorem yb_seg (b : Bool) (c : Nat) {bs : List Bool} (hb : (bs.take c).all (fun x => x == b) = true) (hc : c ≤ bs.length)
  (h : ∀ K1 : Act → World → Prop, (∀ e' w', YB P ro n F k ops C1 C2 (bs.drop c) (l.drop c) e' w' → ∀ a, Fits n e' a → a.defers = ro.ds → K1 a w') → YF P ro n F (.k K1 :: k) ops (bif b then C1 else C2) (l.take c) e w) :
  YB P ro n F k ops C1 C2 bs l e w := fun a hf hd => by
 have h1 := h (fun a w => mJ P ops C1 C2 (fun a w => S P ro.ro F k .normal a w) (bs.drop c) (l.drop c) a w) (fun e' w' hY a hf hd => hY a hf hd) a hf hd
 clear h hf
 generalize hk : (fun a w => S P ro.ro F k .normal a w) = K at h1 ⊢
 have key : ∀ (c : Nat) (bs : List Bool) (l : List Oper) (a : Act) (w : World), (bs.take c).all (fun x => x == b) = true → c ≤ bs.length →
   gG P ops (bif b then C1 else C2) (fun a w => mJ P ops C1 C2 K (bs.drop c) (l.drop c) a w) (l.take c) a w → mJ P ops C1 C2 K bs l a w := by
  intro c
  induction c with
  | zero => intro bs l a w _ _ h; simpa [gG] using h
  | succ c ih =>
   intro bs l a w hb hc h
   cases bs with
   | nil => simp at hc
   | cons b0 bs =>
    simp only [List.take_succ_cons, List.all_cons, Bool.and_eq_true, beq_iff_eq] at hb
    obtain ⟨rfl, hb⟩ := hb
    cases l with
    | nil => simpa [gG, mJ] using h
    | cons o l =>
     have hce : ∀ w', (bif b0 then C1 else C2) w' = (bif b0 then C1 w' else C2 w') := fun w' => by cases b0 <;> rfl
     simp only [List.take_succ_cons, List.drop_succ_cons, gG] at h
     simp only [mJ, List.headD_cons, List.tail_cons]
     by_cases hw : Region.wanted o (yielded ops a.tmps) = true
     ·simp only [hw, if_true] at h ⊢
      by_cases he : eff o.op = true
      ·simp only [he, if_true] at h ⊢
       refine h.mono fun v w' ⟨h1, h2⟩ => ⟨by rw [← hce]; exact h1, ih bs l _ _ hb (by simpa using hc) h2⟩
      ·simp only [he] at h ⊢
       obtain ⟨v, hv, h2⟩ := h
       exact ⟨v, fun w' hw' => hv w' (by rw [hce]; exact hw'), ih bs l _ _ hb (by simpa using hc) h2⟩
     ·simp only [hw] at h ⊢
      exact ih bs l _ _ hb (by simpa using hc) h
 have h2 : ∀ a w, S P ro.ro F (.k (fun a w => mJ P ops C1 C2 K (bs.drop c) (l.drop c) a w) :: k) .normal a w = mJ P ops C1 C2 K (bs.drop c) (l.drop c) a w := fun a w => rfl
 refine key c bs l a w hb hc ?_
 simp only [h2] at h1
 exact h1

end
end Go.Eng

/- Numbers that wrap. -/
namespace Go.Eng
open Go

theorem w64 {x : Int} (h1 : -9223372036854775808 ≤ x) (h2 : x < 9223372036854775808) : IntKind.i64.wrap x = x := by
 simp only [IntKind.wrap, IntKind.bits, IntKind.signed]
 simp
 omega
end Go.Eng

/- Readable slices by their elements; predicates handed over as function values. -/
namespace Go.Eng
open Go Go.RowKit

def cellsOf (es : List Value) : List Value := es.flatMap (fun v => v.cells.toList)

theorem flat_get {sz : Nat} : ∀ (es : List Value), (∀ e ∈ es, e.cells.size = sz) → ∀ (i j : Nat) (hi : i < es.length), j < sz → (cellsOf es)[i * sz + j]? = (es[i].cells.toList)[j]?
 | [], _, i, j, hi, _ => by simp at hi
 | v :: es, h, i, j, hi, hj => by
  have hv := h v List.mem_cons_self
  have hl : v.cells.toList.length = sz := by simpa using hv
  simp only [cellsOf, List.flatMap_cons]
  cases i with
  | zero =>
   rw [Nat.zero_mul, Nat.zero_add, List.getElem?_append_left O]
   rfl
  | succ i =>
   rw [List.getElem?_append_right (by rw [hl, Nat.succ_mul]; omega), hl]
   have := flat_get es (fun e he => h e (List.mem_cons_of_mem _ he)) i j (by simpa using hi) hj
   rw [show (i + 1) * sz + j - sz = i * sz + j from by rw [Nat.succ_mul]; omega]
   exact this

theorem jE {sz : Nat} : ∀ (es : List Value), (∀ e ∈ es, e.cells.size = sz) → (cellsOf es).length = es.length * sz
 | [], _ => by simp [cellsOf]
 | v :: es, h => by
  have hv := h v List.mem_cons_self
  have ih := jE es (fun e he => h e (List.mem_cons_of_mem _ he))
  simp only [cellsOf, List.flatMap_cons, List.length_append] at ih ⊢
  rw [ih]
  simp [hv, Nat.succ_mul, Nat.add_comm]

/-- A readable slice with these elements, each of sz cells. -/
structure RdE (w : World) (lo hi : Nat) (v : Value) (sz : Nat) (es : List Value) : Prop where
 rd : Rd w lo hi v sz es.length (cellsOf es)
 sz : ∀ e ∈ es, e.cells.size = sz

theorem RdE.chg {w w' : World} {lo hi : Nat} {v : Value} {sz : Nat} {es : List Value} {N : List Nat} (h : RdE w lo hi v sz es) (c : Chg N w w') (hN : ∀ k ∈ N, k < lo ∨ hi ≤ k) : RdE w' lo hi v sz es := ⟨h.rd.chg c hN, h.sz⟩
theorem RdE.keep {w w' : World} {lo hi : Nat} {v : Value} {sz : Nat} {es : List Value} (h : RdE w lo hi v sz es) (c : Chg [] w w') : RdE w' lo hi v sz es := ⟨h.rd.keep c, h.sz⟩
theorem RdE.wide {w : World} {lo hi lo' hi' : Nat} {v : Value} {sz : Nat} {es : List Value} (h : RdE w lo hi v sz es) (hl : lo' ≤ lo) (hh : hi ≤ hi') : RdE w lo' hi' v sz es := ⟨h.rd.wide hl hh, h.sz⟩
theorem RdE.out {w : World} {lo hi : Nat} {v : Value} {sz : Nat} {es : List Value} (h : RdE w lo hi v sz es) :
  ∃ a cap, v = .slice a es.length cap ∧ (0 < es.length → ∃ b off, a = some ⟨b, off, none⟩) := by
 obtain ⟨a, cap, hv, hs⟩ := h.rd.out
 exact ⟨a, cap, hv, fun hp => let ⟨b, off, ha, _⟩ := hs hp; ⟨b, off, ha⟩⟩
/-- One cell of element i. -/
theorem RdE.cell {w : World} {lo hi : Nat} {b off len cap : Nat} {sz : Nat} {es : List Value} (h : RdE w lo hi (.slice (some ⟨b, off, none⟩) len cap) sz es) (i j : Nat) (hi : i < es.length) (hj : j < sz) :
  w.cell? ⟨b, off + i * sz + j, none⟩ = (es[i].cells.toList)[j]? := by
 obtain ⟨a, cap', hv, hs⟩ := h.rd.out
 cases hv
 have hl := jE es h.sz
 have hlt : i * sz + j < (cellsOf es).length := by
  rw [hl]
  have : (i + 1) * sz ≤ es.length * sz := Nat.mul_le_mul_right _ hi
  rw [Nat.succ_mul] at this
  omega
 rw [Nat.add_assoc, h.rd.cell rfl _ hlt, flat_get es h.sz i j hi hj]
/-- An element of one cell. -/
theorem RdE.cell1 {w : World} {lo hi : Nat} {b off len cap : Nat} {es : List Value} (h : RdE w lo hi (.slice (some ⟨b, off, none⟩) len cap) 1 es) (i : Nat) (hi : i < es.length) (h1 : dY es[i] = true) :
  w.cell? ⟨b, off + i * 1, none⟩ = some es[i] := by
 have := h.cell i 0 hi O
 rw [Nat.add_zero] at this
 rw [this]
 generalize es[i] = v at *
 cases v <;> first | (simp [dY] at h1; done) | rfl

/-- A slice of integers. -/
abbrev aZ (l : List Int) : List Value := l.map (Value.int .i64)
abbrev RdI (w : World) (lo hi : Nat) (v : Value) (l : List Int) : Prop := RdE w lo hi v 1 (aZ l)

/-- A predicate, as a function value: at w and in every world grown out of it. -/
def PredAt (P : Program) (T : Tab) (w0 : World) (cv : Value) (es : List Value) (p : Value → Bool) : Prop :=
 ∃ g first caps, cv = .func (.func g) first caps ∧ has T.fn g = true ∧
  ∀ w, Chg [] w0 w → ∀ x ∈ es, Ca P g (first.toList ++ [x] ++ caps.toList) w fun v w' => v = .bool (p x) ∧ Chg [] w w'

theorem PredAt.keep {P : Program} {T : Tab} {w0 w1 : World} {cv : Value} {es : List Value} {p : Value → Bool} (h : PredAt P T w0 cv es p) (c : Chg [] w0 w1) : PredAt P T w1 cv es p := by
 obtain ⟨g, f, cs, h1, h2, h3⟩ := h
 exact ⟨g, f, cs, h1, h2, fun w hw => h3 w (c.trans hw)⟩

end Go.Eng

/- Lists of numbers and of truth values that can be read; changes beyond what was there. -/
namespace Go.Eng
open Go Go.RowKit

/-- What changes later changes nothing that was there before. -/
theorem Chg.up {N M : List Nat} {a b c : World} (h : Chg N a b) (g : Chg M b c) (hM : ∀ k ∈ M, k ∈ N ∨ a.heap.size ≤ k) : Chg N a c :=
 ⟨g.os.trans h.os, g.tape.trans h.tape, g.output.trans h.output, Nat.le_trans h.size g.size, fun k hk hn =>
  (g.block k (Nat.lt_of_lt_of_le hk h.size) (fun hm => by rcases hM k hm with h1 | h1 <;> first | exact hn h1 | omega)).trans (h.block k hk hn)⟩

theorem RdI.at {w : World} {lo hi b off len cap : Nat} {l : List Int} (h : RdI w lo hi (.slice (some ⟨b, off, none⟩) len cap) l) (i : Nat) (hi : i < l.length) :
  w.cell? ⟨b, off + i * 1, none⟩ = some (.int .i64 l[i]) := by
 have := RdE.cell1 h i (by simpa using hi) (by simp [dY])
 rw [this]
 simp

theorem RdI.outI {w : World} {lo hi : Nat} {v : Value} {l : List Int} (h : RdI w lo hi v l) :
  ∃ a cap, v = .slice a l.length cap ∧ (0 < l.length → ∃ b off, a = some ⟨b, off, none⟩) := by
 have := RdE.out h
 simpa using this

/-- How many rounds hit. -/
def hitsOf (l : List Bool) : Nat := l.count true

abbrev bools (l : List Bool) : List Value := l.map Value.bool
abbrev RdB (w : World) (lo hi : Nat) (v : Value) (l : List Bool) : Prop := RdE w lo hi v 1 (bools l)
theorem RdB.at {w : World} {lo hi b off len cap : Nat} {l : List Bool} (h : RdB w lo hi (.slice (some ⟨b, off, none⟩) len cap) l) (i : Nat) (hi : i < l.length) :
  w.cell? ⟨b, off + i * 1, none⟩ = some (.bool l[i]) := by
 have := RdE.cell1 h i (by simpa using hi) (by simp [dY])
 rw [this]
 simp
theorem cellsOf_ints (l : List Int) : cellsOf (aZ l) = aZ l := by
 simp [cellsOf, List.flatMap_map, Value.cells]
 induction l with
 | nil => rfl
 | cons x l ih => simp [ih]
theorem cellsOf_bools (l : List Bool) : cellsOf (bools l) = bools l := by
 simp [cellsOf, List.flatMap_map, Value.cells]
 induction l with
 | nil => rfl
 | cons x l ih => simp [ih]
theorem ints_size (l : List Int) : ∀ e ∈ aZ l, e.cells.size = 1 := by
 intro e he
 obtain ⟨x, _, rfl⟩ := List.mem_map.1 he
 rfl
theorem bools_size (l : List Bool) : ∀ e ∈ bools l, e.cells.size = 1 := by
 intro e he
 obtain ⟨x, _, rfl⟩ := List.mem_map.1 he
 rfl

theorem RdI.of {w : World} {lo hi : Nat} {v : Value} {l : List Int} (h : Rd w lo hi v 1 l.length (aZ l)) : RdI w lo hi v l :=
 ⟨by rw [cellsOf_ints]; simpa using h, ints_size l⟩
theorem RdB.of {w : World} {lo hi : Nat} {v : Value} {l : List Bool} (h : Rd w lo hi v 1 l.length (bools l)) : RdB w lo hi v l :=
 ⟨by rw [cellsOf_bools]; simpa using h, bools_size l⟩
theorem RdE.ofOwn {w : World} {base t sz : Nat} {v : Value} {es : List Value} (h : w.ownsRow base t sz v es.length (cellsOf es)) (hs : ∀ e ∈ es, e.cells.size = sz) : RdE w base w.heap.size v sz es := ⟨jB h, hs⟩

end Go.Eng

/- The engine, part B1: memory as a list of pieces. A judgement that holds for every world that fits the list. -/
namespace Go.Eng
open Go Go.RowKit

/-- What changed lies in N. -/
structure ChgP (N : Nat → Prop) (w w' : World) : Prop where
 os : w'.os = w.os
 tape : w'.tape = w.tape
 output : w'.output = w.output
 size : w.heap.size ≤ w'.heap.size
 block : ∀ k, k < w.heap.size → ¬ N k → w'.heap[k]? = w.heap[k]?

theorem Chg.P {N : List Nat} {w w' : World} (h : Chg N w w') : ChgP (· ∈ N) w w' := ⟨h.os, h.tape, h.output, h.size, h.block⟩
theorem ChgP.list {N : List Nat} {w w' : World} (h : ChgP (· ∈ N) w w') : Chg N w w' := ⟨h.os, h.tape, h.output, h.size, h.block⟩
theorem ChgP.refl (N : Nat → Prop) (w : World) : ChgP N w w := ⟨rfl, rfl, rfl, Nat.le_refl _, fun _ _ _ => rfl⟩
theorem ChgP.upP {N M : Nat → Prop} {a b c : World} (h : ChgP N a b) (g : ChgP M b c) (hM : ∀ k, M k → N k ∨ a.heap.size ≤ k) : ChgP N a c :=
 ⟨g.os.trans h.os, g.tape.trans h.tape, g.output.trans h.output, Nat.le_trans h.size g.size, fun k hk hn =>
  (g.block k (Nat.lt_of_lt_of_le hk h.size) (fun hm => by rcases hM k hm with h1 | h1 <;> first | exact hn h1 | omega)).trans (h.block k hk hn)⟩
theorem ChgP.up {N : Nat → Prop} {M : List Nat} {a b c : World} (h : ChgP N a b) (g : Chg M b c) (hM : ∀ k ∈ M, N k ∨ a.heap.size ≤ k) : ChgP N a c := h.upP g.P hM

/-- No block. -/
abbrev M0 : Nat → Prop := fun _ => False
theorem ChgP.none {w w' : World} (h : ChgP M0 w w') : Chg [] w w' := ⟨h.os, h.tape, h.output, h.size, fun k hk _ => h.block k hk (fun h => h)⟩
theorem Chg.P0 {w w' : World} (h : Chg [] w w') : ChgP M0 w w' := ⟨h.os, h.tape, h.output, h.size, fun k hk _ => h.block k hk (by simp)⟩

/-- A piece of memory: a block known whole; a slice of our own that can grow; anything that hangs on some blocks alone. -/
inductive Ck where
 | pt (b : Nat) (cs : List Value) (t : TypeId)
 | ow (v : Value) (e sz n : Nat) (xs : List Value)
 | gn (D : Nat → Prop) (p : World → Prop) (st : ∀ w w' N, p w → ChgP N w w' → (∀ b, D b → ¬ N b) → p w')

/-- The blocks that a piece takes. -/
def Ck.D : Ck → Nat → Prop
 | .pt b _ _, x => x = b
 | .ow v _ _ _ _, x => v.ownBlock = some x
 | .gn D _ _, x => D x

/-- What a piece says. -/
def Ck.p : Ck → World → Prop
 | .pt b cs t, w => Blk w b cs t
 | .ow v e sz n xs, w => w.ownsRow 0 e sz v n xs
 | .gn _ p _, w => p w

theorem Ck.st {c : Ck} {w w' : World} {N : Nat → Prop} (h : c.p w) (hc : ChgP N w w') (hb : ∀ b, c.D b → ¬ N b) : c.p w' := by
 cases c with
 | pt b cs t => exact (hc.block b (Blk.lt h) (hb b rfl)).trans h
 | ow v e sz n xs =>
  obtain ⟨h1, h2⟩ := h
  refine ⟨h1, ?_⟩
  rcases h2 with h2 | ⟨g, cap, cur, rfl, hg, hh, r⟩
  ·exact .inl h2
  ·exact .inr ⟨g, cap, cur, Z, hg, (hc.block g (Array.getElem?_eq_some_iff.1 hh).1 (hb g Z)).trans hh, r⟩
 | gn D p st => exact st w w' N h hc hb

/-- The world fits the list; since w0 only blocks of M, and new ones, have changed. -/
structure Sat (w0 : World) (M : Nat → Prop) (H : List Ck) (w : World) : Prop where
 chg : ChgP M w0 w
 all : ∀ c ∈ H, c.p w
 sep : H.Pairwise (fun c d => ∀ b, c.D b → ¬ d.D b)
 bd : ∀ c ∈ H, ∀ b, c.D b → b < w.heap.size ∧ (M b ∨ w0.heap.size ≤ b)

theorem Sat.nil (w0 : World) (M : Nat → Prop) : Sat w0 M [] w0 := ⟨ChgP.refl _ _, by simp, .nil, by simp⟩

theorem Sat.keep {w0 : World} {M : Nat → Prop} {H : List Ck} {w w' : World} (h : Sat w0 M H w) (c : Chg [] w w') : Sat w0 M H w' :=
 ⟨h.chg.up c (by simp), fun x hx => Ck.st (h.all x hx) c.P0 (fun _ _ h => h), h.sep, fun x hx b hb => ⟨Nat.lt_of_lt_of_le (h.bd x hx b hb).1 c.size, (h.bd x hx b hb).2⟩⟩

theorem Sat.add {w0 : World} {M : Nat → Prop} {H : List Ck} {w w' : World} (h : Sat w0 M H w) (c : Chg [] w w') {x : Ck} (hp : x.p w') (hD : ∀ b, x.D b → w.heap.size ≤ b ∧ b < w'.heap.size) : Sat w0 M (x :: H) w' := by
 have h' := h.keep c
 refine ⟨h'.chg, ?_, ?_, ?_⟩
 ·intro y hy
  rcases List.mem_cons.1 hy with rfl | hy
  ·exact hp
  ·exact h'.all y hy
 ·refine List.pairwise_cons.2 ⟨fun y hy b hb hb' => ?_, h.sep⟩
  have := (h.bd y hy b hb').1
  have := (hD b hb).1
  omega
 ·intro y hy b hb
  rcases List.mem_cons.1 hy with rfl | hy
  ·exact ⟨(hD b hb).2, .inr (Nat.le_trans h.chg.size (hD b hb).1)⟩
  ·exact h'.bd y hy b hb

theorem Sat.chg0 {w0 : World} {H : List Ck} {w : World} (h : Sat w0 M0 H w) : Chg [] w0 w := h.chg.none

/-- One piece put in another's place. -/
inductive Rp : List Ck → Ck → Ck → List Ck → Prop
 | z {H : List Ck} {c c' : Ck} : Rp (c :: H) c c' (c' :: H)
 | s {H H' : List Ck} {c c' d : Ck} : Rp H c c' H' → Rp (d :: H) c c' (d :: H')

theorem Rp.mem {H H' : List Ck} {c c' : Ck} (h : Rp H c c' H') : c ∈ H := by
 induction h with
 | z => exact List.mem_cons_self
 | s _ ih => exact List.mem_cons_of_mem _ ih

theorem Sat.mem {w0 : World} {M : Nat → Prop} {H : List Ck} {w : World} (h : Sat w0 M H w) {c : Ck} (hc : c ∈ H) : c.p w := h.all c hc

theorem Sat.blk {w0 : World} {M : Nat → Prop} {H : List Ck} {w : World} (h : Sat w0 M H w) {b : Nat} {cs : List Value} {t : TypeId} (hc : Ck.pt b cs t ∈ H) : Blk w b cs t := h.all _ hc

theorem Sat.tail {w0 : World} {M : Nat → Prop} {H : List Ck} {c : Ck} {w : World} (h : Sat w0 M (c :: H) w) : Sat w0 M H w :=
 ⟨h.chg, fun x hx => h.all x (List.mem_cons_of_mem _ hx), (List.pairwise_cons.1 h.sep).2, fun x hx => h.bd x (List.mem_cons_of_mem _ hx)⟩

theorem Sat.perm {w0 : World} {M : Nat → Prop} {H H' : List Ck} {w : World} (h : Sat w0 M H w) (hp : H.Perm H') : Sat w0 M H' w :=
 ⟨h.chg, fun x hx => h.all x (hp.mem_iff.2 hx), (hp.pairwise_iff (fun {_ _} hs b h1 h2 => hs b h2 h1)).1 h.sep, fun x hx => h.bd x (hp.mem_iff.2 hx)⟩

theorem Rp.perm {H H' : List Ck} {c c' : Ck} (h : Rp H c c' H') : ∃ R, H.Perm (c :: R) ∧ H'.Perm (c' :: R) := by
 induction h with
 | z => exact ⟨_, .refl _, .refl _⟩
 | @s H H' c c' d _ ih =>
  obtain ⟨R, h1, h2⟩ := ih
  exact ⟨d :: R, (h1.cons d).trans (.swap _ _ _), (h2.cons d).trans (.swap _ _ _)⟩

theorem Sat.rep {w0 : World} {M : Nat → Prop} {N : List Nat} {H H' : List Ck} {c c' : Ck} {w w' : World} (h : Sat w0 M H w) (hr : Rp H c c' H') (g : Chg N w w') (hN : ∀ k ∈ N, c.D k) (hp : c'.p w')
  (hD : ∀ b, c'.D b → (c.D b ∨ w.heap.size ≤ b) ∧ b < w'.heap.size) : Sat w0 M H' w' := by
 obtain ⟨R, h1, h2⟩ := hr.perm
 have h3 := h.perm h1
 refine Sat.perm ?_ h2.symm
 have hsep := List.pairwise_cons.1 h3.sep
 have hbd := h3.bd c List.mem_cons_self
 refine ⟨h.chg.up g (fun k hk => (hbd k (hN k hk)).2), ?_, List.pairwise_cons.2 ⟨?_, hsep.2⟩, ?_⟩
 ·intro y hy
  rcases List.mem_cons.1 hy with rfl | hy
  ·exact hp
  ·exact Ck.st (h3.all y (List.mem_cons_of_mem _ hy)) g.P (fun b hb hm => hsep.1 y hy b (hN b hm) hb)
 ·intro y hy b hb hb'
  rcases (hD b hb).1 with h4 | h4
  ·exact hsep.1 y hy b h4 hb'
  ·have := (h3.bd y (List.mem_cons_of_mem _ hy) b hb').1
   omega
 ·intro y hy b hb
  rcases List.mem_cons.1 hy with rfl | hy
  ·refine ⟨(hD b hb).2, ?_⟩
   rcases (hD b hb).1 with h4 | h4
   ·exact (hbd b h4).2
   ·exact .inr (Nat.le_trans h.chg.size h4)
  ·exact ⟨Nat.lt_of_lt_of_le (h3.bd y (List.mem_cons_of_mem _ hy) b hb).1 g.size, (h3.bd y (List.mem_cons_of_mem _ hy) b hb).2⟩

/-- Some of the pieces, in some order. -/
inductive Rm : List Ck → Ck → List Ck → Prop
 | z {H : List Ck} {c : Ck} : Rm (c :: H) c H
 | s {H H' : List Ck} {c d : Ck} : Rm H c H' → Rm (d :: H) c (d :: H')
inductive Sp : List Ck → List Ck → Prop
 | nil {H : List Ck} : Sp H []
 | cons {H H1 H' : List Ck} {c : Ck} : Rm H c H1 → Sp H1 H' → Sp H (c :: H')

theorem Rm.perm {H H' : List Ck} {c : Ck} (h : Rm H c H') : H.Perm (c :: H') := by
 induction h with
 | z => exact .refl _
 | @s H H' c d _ ih => exact (ih.cons d).trans (.swap _ _ _)

theorem Sat.sp {w0 : World} {M : Nat → Prop} {H H' : List Ck} {w : World} (h : Sat w0 M H w) (hs : Sp H H') : Sat w0 M H' w := by
 induction hs with
 | nil => exact ⟨h.chg, by simp, .nil, by simp⟩
 | @cons H H1 H' c hr _ ih =>
  have h1 := h.perm hr.perm
  have h2 := ih h1.tail
  have key : ∀ {A B : List Ck}, Sp A B → ∀ c ∈ B, c ∈ A := by
   intro A B hs
   induction hs with
   | nil => intro c hc; simp at hc
   | @cons A A1 B c hr _ ih =>
    intro d hd
    rcases List.mem_cons.1 hd with rfl | hd
    ·exact hr.perm.mem_iff.2 List.mem_cons_self
    ·exact hr.perm.mem_iff.2 (List.mem_cons_of_mem _ (ih d hd))
  rename_i hsp
  refine ⟨h.chg, ?_, List.pairwise_cons.2 ⟨fun y hy => (List.pairwise_cons.1 h1.sep).1 y (key hsp y hy), h2.sep⟩, ?_⟩
  ·intro y hy
   rcases List.mem_cons.1 hy with rfl | hy
   ·exact h1.all _ List.mem_cons_self
   ·exact h2.all y hy
  ·intro y hy
   rcases List.mem_cons.1 hy with rfl | hy
   ·exact h1.bd _ List.mem_cons_self
   ·exact h2.bd y hy

section
variable {P : Program} {T : Tab}

/-- The judgement of parts A, at every world that fits the pieces. -/
structure Q (P : Program) (ro : Cx) (n : Nat) (F : Fin) (w0 : World) (M : Nat → Prop) (k : List It) (e : Env) (H : List Ck) : Prop where
 h : ∀ w, Sat w0 M H w → Y P ro n F k e w
structure QL (P : Program) (ro : Cx) (n : Nat) (F : Fin) (w0 : World) (M : Nat → Prop) (k : List It) (ops : Array Oper) (l : List Oper) (e : Env) (H : List Ck) : Prop where
 h : ∀ w, Sat w0 M H w → YL P ro n F k ops l e w
/-- In a region that draws its order: Hq are the pieces that stay as they are till its end. -/
structure QF (P : Program) (ro : Cx) (n : Nat) (F : Fin) (w0 : World) (M : Nat → Prop) (k : List It) (ops : Array Oper) (Hq : List Ck) (l : List Oper) (e : Env) (H : List Ck) : Prop where
 h : ∀ w, Sat w0 M (H ++ Hq) w → YF P ro n F k ops (Sat w0 M Hq) l e w

variable {ro : Cx} {n : Nat} {F : Fin} {w0 : World} {M : Nat → Prop} {k : List It} {ops : Array Oper} {l rest : List Oper} {e : Env} {H Hq : List Ck}

instance : CoeFun (Q P ro n F w0 M k e H) (fun _ => ∀ w, Sat w0 M H w → Y P ro n F k e w) := ⟨Q.h⟩
instance : CoeFun (QL P ro n F w0 M k ops l e H) (fun _ => ∀ w, Sat w0 M H w → YL P ro n F k ops l e w) := ⟨QL.h⟩
instance : CoeFun (QF P ro n F w0 M k ops Hq l e H) (fun _ => ∀ w, Sat w0 M (H ++ Hq) w → YF P ro n F k ops (Sat w0 M Hq) l e w) := ⟨QF.h⟩

theorem Sat.right {w : World} : ∀ {H : List Ck}, Sat w0 M (H ++ Hq) w → Sat w0 M Hq w
 | [], h => h
 | _ :: _, h => Sat.right (Sat.tail h)

/-! Code -/
theorem aE {c d : Code} (h : Q P ro n F w0 M (.code c :: .code d :: k) e H) : Q P ro n F w0 M (.code (.seq c d) :: k) e H := .mk fun w hs => fQ (h w hs)
theorem aR (h : Q P ro n F w0 M k e H) : Q P ro n F w0 M (.code .skip :: k) e H := .mk fun w hs => y_skip (h w hs)
theorem q_label {l : Nat} (h : Q P ro n F w0 M k e H) : Q P ro n F w0 M (.code (.label l) :: k) e H := .mk fun w hs => y_label (h w hs)
theorem aP {id : Nat} {c : Code} (h : Q P ro n F w0 M (.code c :: .blk id :: k) e H) : Q P ro n F w0 M (.code (.block id c) :: k) e H := .mk fun w hs => y_block (h w hs)
theorem bL {id : Nat} (h : Q P ro n F w0 M k e H) : Q P ro n F w0 M (.blk id :: k) e H := .mk fun w hs => y_blk (h w hs)
theorem bJ {id : Nat} (k' : List It) (hk : qJ id k = some k') (h : Q P ro n F w0 M k' e H) : Q P ro n F w0 M (.code (.exit id) :: k) e H := .mk fun w hs => y_exit k' hk (h w hs)
theorem aW (h : Q P ro n (fun _ => F .ret) w0 M [] e H) : Q P ro n F w0 M (.code .ret :: k) e H := .mk fun w hs => y_ret (h w hs)
theorem aM {c : Operand} {x y : Code} (hc : opv e c = some (.bool true)) (h : Q P ro n F w0 M (.code x :: k) e H) : Q P ro n F w0 M (.code (.cond c x y) :: k) e H := .mk fun w hs => y_cond_true hc (h w hs)
theorem aL {c : Operand} {x y : Code} (hc : opv e c = some (.bool false)) (h : Q P ro n F w0 M (.code y :: k) e H) : Q P ro n F w0 M (.code (.cond c x y) :: k) e H := .mk fun w hs => y_cond_false hc (h w hs)
theorem jO {c : Operand} {x y : Code} {t : Bool} (hc : opv e c = some (.bool t)) (ht : t = true → Q P ro n F w0 M (.code x :: k) e H) (hf : t = false → Q P ro n F w0 M (.code y :: k) e H) :
  Q P ro n F w0 M (.code (.cond c x y) :: k) e H := .mk fun w hs => y_cond hc (fun h => ht h w hs) (fun h => hf h w hs)
theorem dD {c : Operand} {x y : Code} {p : Prop} [Decidable p] (hc : opv e c = some (.bool (decide p))) (ht : p → Q P ro n F w0 M (.code x :: k) e H) (hf : ¬p → Q P ro n F w0 M (.code y :: k) e H) :
  Q P ro n F w0 M (.code (.cond c x y) :: k) e H := .mk fun w hs => y_if hc (fun h => ht h w hs) (fun h => hf h w hs)
theorem iN {c : Operand} {x y : Code} {p : Prop} [Decidable p] (hc : opv e c = some (.bool (!decide p))) (ht : ¬p → Q P ro n F w0 M (.code x :: k) e H) (hf : p → Q P ro n F w0 M (.code y :: k) e H) :
  Q P ro n F w0 M (.code (.cond c x y) :: k) e H := .mk fun w hs => y_ifn hc (fun h => ht h w hs) (fun h => hf h w hs)
theorem aB {id : Nat} {l : List Oper} (h : QL P ro n F w0 M k l.toArray l e H) : Q P ro n F w0 M (.code (.region id l.toArray false) :: k) e H := .mk fun w hs => cQ (h w hs)
theorem q_scope {r : List Deferred} {c : Code} (hF : ∀ l a w, ¬ F (.goto l) a w) (h : Q P ⟨none, r⟩ n F w0 M (.code c :: k) e H) : Q P ⟨none, r⟩ n F w0 M (.code (.scope c) :: k) e H := .mk fun w hs => y_scope hF (h w hs)
theorem aF (h : Q P ro n F w0 M k e H) : QL P ro n F w0 M k ops [] e H := .mk fun w hs => yl_nil (h w hs)

theorem bX {id : Nat} {l : List Oper} (Hq Hm : List Ck) (hH : Sp H (Hm ++ Hq)) (hm : P.follows .mixedOrders = true) (hB : flB l.toArray = true) (h : QF P ro n F w0 M k l.toArray Hq l e Hm) :
  Q P ro n F w0 M (.code (.region id l.toArray true) :: k) e H := .mk fun w hs a hf hd => by
 have hs1 := (hs.sp hH).keep (Chg.drew (N := []) w)
 have h1 := h _ hs1 a hf hd
 refine wpIn_region_fl hm (flB_spec hB) (C := Sat w0 M Hq) hs1.right (fun _ _ _ h => h) ?_
 have h2 := wpFl_eq (P := P) (ops := l.toArray) (C := Sat w0 M Hq) (K := fun a w => S P ro.ro F k .normal a w) l 0 (by simp)
 rw [show List.range l.toArray.size = List.range' 0 l.length from by simp [List.range_eq_range'], h2]
 exact h1
theorem aK (h : Q P ro n F w0 M k e (H ++ Hq)) : QF P ro n F w0 M k ops Hq [] e H := .mk fun w hs => yf_nil (h w hs)

/-- Forget. -/
theorem q_keep (l : Env) (H' : List Ck) (hs : Sub l e) (hH : Sp H H') (h : Q P ro n F w0 M k l H') : Q P ro n F w0 M k e H := .mk fun w hw => y_keep l hs (h w (hw.sp hH))

/-- A loop, whose state is s. -/
theorem bN {σ : Type} {body : Code} (inv : σ → Prop) (m : σ → Nat) (env : σ → Env) (hp : σ → List Ck) (s0 : σ) (h0 : inv s0) (hs : Sub (env s0) e) (hH : Sp H (hp s0))
  (round : ∀ s, inv s → ∀ K : Act → World → Prop, (∀ s' e' H', inv s' → m s' < m s → Sub (env s') e' → Sp H' (hp s') → Q P ro n F w0 M (.k K :: k) e' H') → Q P ro n F w0 M (.code body :: .k K :: k) (env s) (hp s)) :
  Q P ro n F w0 M (.code (.loop body) :: k) e H := .mk fun w hw =>
 y_loop (fun m' l w' => ∃ s, inv s ∧ m' = m s ∧ l = env s ∧ Sat w0 M (hp s) w') (m := m s0) (l := env s0) ⟨s0, h0, rfl, rfl, hw.sp hH⟩ hs (by
  rintro m' l w' ⟨s, hi, rfl, rfl, hsat⟩ K hK
  exact round s hi K (fun s' e' H' hi' hlt hsub hsp => .mk fun w'' hw'' a hf hd => hK (m s') (env s') e' w'' ⟨s', hi', Z, Z, hw''.sp hsp⟩ hlt hsub a hf hd) w' hsat)

end
end Go.Eng

/- The engine, part B2: operations, over pieces of memory. -/
namespace Go.Eng
open Go Go.RowKit

section
variable {P : Program} {T : Tab}
variable {ro : Cx} {n : Nat} {F : Fin} {w0 : World} {M : Nat → Prop} {k : List It} {ops : Array Oper} {l rest : List Oper} {e : Env} {H Hq : List Ck}

theorem Rp.app {H H' : List Ck} {c c' : Ck} (h : Rp H c c' H') (R : List Ck) : Rp (H ++ R) c c' (H' ++ R) := by
 induction h with
 | z => exact .z
 | s _ ih => exact .s ih

theorem Rm.app {H H' : List Ck} {c : Ck} (h : Rm H c H') (R : List Ck) : Rm (H ++ R) c (H' ++ R) := by
 induction h with
 | z => exact .z
 | s _ ih => exact .s ih
theorem Sp.refl : ∀ (H : List Ck), Sp H H
 | [] => .nil
 | _ :: H => .cons .z (Sp.refl H)
theorem Sp.skip : ∀ (A R : List Ck), Sp (A ++ R) R
 | [], R => .refl R
 | a :: A, R => by
  have h := Sp.skip A R
  have key : ∀ {X Y : List Ck}, Sp X Y → Sp (a :: X) Y := by
   intro X Y hs
   induction hs with
   | nil => exact .nil
   | cons hr _ ih => exact .cons (.s hr) ih
  exact key h
theorem Sp.app {H H' : List Ck} (h : Sp H H') (R : List Ck) : Sp (H ++ R) (H' ++ R) := by
 induction h with
 | @nil H => exact Sp.skip H R
 | cons hr _ ih => exact .cons (hr.app R) ih

/-! What stands next -/
/-! Pure operations -/
theorem aA (hT : T.Ok P) {t : Nat} {v : Value} {op : Op} {ty : TypeId} {pos : String} {af : Array Edge} (hv : evp T e op = some v) (ht : Nat.blt t n = true)
  (h : QL P ro n F w0 M k ops rest ((t, v) :: e) H) : QL P ro n F w0 M k ops (⟨some t, op, ty, pos, af, none⟩ :: rest) e H := .mk fun w hs => cD hT hv ht (h w hs)
theorem aD (hT : T.Ok P) {t : Nat} {v : Value} {op : Op} {ty : TypeId} {pos : String} {af : Array Edge} (hv : evp T e op = some v) (he : eff op = false) (ht : Nat.blt t n = true)
  (h : QF P ro n F w0 M k ops Hq rest ((t, v) :: e) H) : QF P ro n F w0 M k ops Hq (⟨some t, op, ty, pos, af, none⟩ :: rest) e H := .mk fun w hs => yf_pure hT hv he ht (h w hs)

theorem eS {o : BinOp} {t t' : Nat} {x y : Operand} {a b : Int} (hx : opv e x = some (.int .i64 a)) (hy : opv e y = some (.int .i64 b)) : evp T e (.binOp o t x y t') = binV o .i64 a b := by
 simp [evp, hx, hy, kindEq]

theorem bC (hT : T.Ok P) {t i : Nat} {x : Operand} {vs : Array Value} {v : Value} {ty : TypeId} {pos : String} {af : Array Edge} (hx : opv e x = some (.tuple vs)) (hv : vs.toList[i]? = some v) (ht : Nat.blt t n = true)
  (h : QL P ro n F w0 M k ops rest ((t, v) :: e) H) : QL P ro n F w0 M k ops (⟨some t, .extract x i, ty, pos, af, none⟩ :: rest) e H := aA hT (by simp only [evp, hx]; simpa using hv) ht h
theorem bT (hT : T.Ok P) {t i : Nat} {x : Operand} {vs : Array Value} {v : Value} {ty : TypeId} {pos : String} {af : Array Edge} (hx : opv e x = some (.tuple vs)) (hv : vs.toList[i]? = some v) (ht : Nat.blt t n = true)
  (h : QF P ro n F w0 M k ops Hq rest ((t, v) :: e) H) : QF P ro n F w0 M k ops Hq (⟨some t, .extract x i, ty, pos, af, none⟩ :: rest) e H := aD hT (by simp only [evp, hx]; simpa using hv) rfl ht h
/-- The sum, difference or product that does not wrap. -/
def arV : BinOp → Int → Int → Option Int
 | .add, a, b => some (a + b)
 | .sub, a, b => some (a - b)
 | .mul, a, b => some (a * b)
 | _, _, _ => none

theorem arV_bin {o : BinOp} {a b c : Int} (h : arV o a b = some c) (h1 : -9223372036854775808 ≤ c) (h2 : c < 9223372036854775808) : binV o .i64 a b = some (.int .i64 c) := by
 cases o <;> simp [arV] at h <;> subst h <;> simp [binV, w64 h1 h2]

theorem bB (hT : T.Ok P) {d : Nat} {o : BinOp} {t t' : Nat} {x y : Operand} {a b c : Int} {ty : TypeId} {pos : String} {af : Array Edge} (hx : opv e x = some (.int .i64 a)) (hy : opv e y = some (.int .i64 b)) (hc : arV o a b = some c) (hd : Nat.blt d n = true)
  (h1 : -9223372036854775808 ≤ c) (h2 : c < 9223372036854775808) (h : QL P ro n F w0 M k ops rest ((d, .int .i64 c) :: e) H) : QL P ro n F w0 M k ops (⟨some d, .binOp o t x y t', ty, pos, af, none⟩ :: rest) e H :=
 aA hT ((eS hx hy).trans (arV_bin hc h1 h2)) hd h
theorem bY (hT : T.Ok P) {d : Nat} {o : BinOp} {t t' : Nat} {x y : Operand} {a b c : Int} {ty : TypeId} {pos : String} {af : Array Edge} (hx : opv e x = some (.int .i64 a)) (hy : opv e y = some (.int .i64 b)) (hc : arV o a b = some c) (hd : Nat.blt d n = true)
  (h1 : -9223372036854775808 ≤ c) (h2 : c < 9223372036854775808) (h : QF P ro n F w0 M k ops Hq rest ((d, .int .i64 c) :: e) H) : QF P ro n F w0 M k ops Hq (⟨some d, .binOp o t x y t', ty, pos, af, none⟩ :: rest) e H :=
 aD hT ((eS hx hy).trans (arV_bin hc h1 h2)) rfl hd h

theorem evp_neg {t : Nat} {x : Operand} {a : Int} (hx : opv e x = some (.int .i64 a)) (h1 : -9223372036854775808 ≤ -a) (h2 : -a < 9223372036854775808) : evp T e (.unOp .neg t x) = some (.int .i64 (-a)) := by
 simp [evp, hx]
 rw [w64 O O]
theorem fJ (hT : T.Ok P) {d t : Nat} {x : Operand} {a : Int} {ty : TypeId} {pos : String} {af : Array Edge} (hx : opv e x = some (.int .i64 a)) (hd : Nat.blt d n = true) (h1 : -9223372036854775808 ≤ -a) (h2 : -a < 9223372036854775808)
  (h : QL P ro n F w0 M k ops rest ((d, .int .i64 (-a)) :: e) H) : QL P ro n F w0 M k ops (⟨some d, .unOp .neg t x, ty, pos, af, none⟩ :: rest) e H := aA hT (evp_neg hx h1 h2) hd h
theorem qf_neg (hT : T.Ok P) {d t : Nat} {x : Operand} {a : Int} {ty : TypeId} {pos : String} {af : Array Edge} (hx : opv e x = some (.int .i64 a)) (hd : Nat.blt d n = true) (h1 : -9223372036854775808 ≤ -a) (h2 : -a < 9223372036854775808)
  (h : QF P ro n F w0 M k ops Hq rest ((d, .int .i64 (-a)) :: e) H) : QF P ro n F w0 M k ops Hq (⟨some d, .unOp .neg t x, ty, pos, af, none⟩ :: rest) e H := aD hT (evp_neg hx h1 h2) rfl hd h
/-! Guards -/
theorem aC {dst : Option Nat} {op : Op} {ty : TypeId} {pos : String} {af : Array Edge} {j : Nat} {b : Bool} (hg : nH ops e j = some b)
  (h : QL P ro n F w0 M k ops (⟨dst, op, ty, pos, af, none⟩ :: rest) e H) : QL P ro n F w0 M k ops (⟨dst, op, ty, pos, af, some (j, b)⟩ :: rest) e H := .mk fun w hs => yl_guard_yes hg (h w hs)
theorem bA {t : Nat} {op : Op} {ty : TypeId} {pos : String} {af : Array Edge} {j : Nat} {b c : Bool} (hg : nH ops e j = some c) (hne : (c == b) = false) (ht : Nat.blt t n = true)
  (h : QL P ro n F w0 M k ops rest ((t, undef) :: e) H) : QL P ro n F w0 M k ops (⟨some t, op, ty, pos, af, some (j, b)⟩ :: rest) e H := .mk fun w hs => yl_guard_no hg hne ht (h w hs)
theorem aG {dst : Option Nat} {op : Op} {ty : TypeId} {pos : String} {af : Array Edge} {j : Nat} {b : Bool} (hg : nH ops e j = some b)
  (h : QF P ro n F w0 M k ops Hq (⟨dst, op, ty, pos, af, none⟩ :: rest) e H) : QF P ro n F w0 M k ops Hq (⟨dst, op, ty, pos, af, some (j, b)⟩ :: rest) e H := .mk fun w hs => yf_guard_yes hg (h w hs)
theorem eD {t : Nat} {op : Op} {ty : TypeId} {pos : String} {af : Array Edge} {j : Nat} {b c : Bool} (hg : nH ops e j = some c) (hne : (c == b) = false) (ht : Nat.blt t n = true)
  (h : QF P ro n F w0 M k ops Hq rest ((t, undef) :: e) H) : QF P ro n F w0 M k ops Hq (⟨some t, op, ty, pos, af, some (j, b)⟩ :: rest) e H := .mk fun w hs => yf_guard_no hg hne ht (h w hs)
/-- The operation that guards has been left out, too. -/
def guardN (ops : Array Oper) (e : Env) (j : Nat) : Bool :=
 match (ops[j]?).bind (·.dst) with
 | some t => (match look e t with | some (.bool _) => false | some _ => true | none => false)
 | none => false
theorem nK {ops : Array Oper} {a : Act} (hf : Fits n e a) {j : Nat} (h : guardN ops e j = true) : yielded ops a.tmps j = none := by
 simp only [guardN] at h
 cases hd : (ops[j]?).bind (·.dst) with
 | none => simp [hd] at h
 | some t =>
  simp only [hd] at h
  cases hl : look e t with
  | none => simp [hl] at h
  | some v =>
   have h1 := hf.at_ t v hl
   simp only [yielded, hd, Option.bind_some]
   simp only [Array.getD_eq_getD_getElem?] at h1
   cases hc : a.tmps[t]? with
   | none => simp
   | some u =>
    simp [hc] at h1
    subst h1
    cases u <;> first | (simp [hl] at h; done) | simp
theorem qO {t : Nat} {op : Op} {ty : TypeId} {pos : String} {af : Array Edge} {j : Nat} {b : Bool} (hg : guardN ops e j = true) (ht : Nat.blt t n = true)
  (h : QL P ro n F w0 M k ops rest ((t, undef) :: e) H) : QL P ro n F w0 M k ops (⟨some t, op, ty, pos, af, some (j, b)⟩ :: rest) e H := .mk fun w hs a hf hd => by
 have hy := nK hf hg
 have hw : ((none : Option Bool) == some b) = false := by cases b <;> rfl
 simp only [wpListIn, Region.wanted, hy, hw]
 exact ⟨fun f _ => pL f, h w hs _ (hf.put undef ht) (by simpa [Act.put] using hd)⟩
theorem qf_gnone {t : Nat} {op : Op} {ty : TypeId} {pos : String} {af : Array Edge} {j : Nat} {b : Bool} (hg : guardN ops e j = true) (ht : Nat.blt t n = true)
  (h : QF P ro n F w0 M k ops Hq rest ((t, undef) :: e) H) : QF P ro n F w0 M k ops Hq (⟨some t, op, ty, pos, af, some (j, b)⟩ :: rest) e H := .mk fun w hs a hf hd => by
 have hy := nK hf hg
 have hw : ((none : Option Bool) == some b) = false := by cases b <;> rfl
 simp only [gG, Region.wanted, hy, hw]
 exact h w hs _ (hf.put undef ht) (by simpa [Act.put] using hd)
theorem bU {dst : Option Nat} {op : Op} {ty : TypeId} {pos : String} {af : Array Edge} {j t : Nat} {b c : Bool} (hg : guardT ops j = some t) (hl : look e t = some (.bool b))
  (hy : b = true → QL P ro n F w0 M k ops (⟨dst, op, ty, pos, af, some (j, c)⟩ :: rest) ((t, .bool true) :: e) H) (hn : b = false → QL P ro n F w0 M k ops (⟨dst, op, ty, pos, af, some (j, c)⟩ :: rest) ((t, .bool false) :: e) H) :
  QL P ro n F w0 M k ops (⟨dst, op, ty, pos, af, some (j, c)⟩ :: rest) e H := .mk fun w hs => yl_split hg hl (fun h => hy h w hs) (fun h => hn h w hs)
theorem jA {dst : Option Nat} {op : Op} {ty : TypeId} {pos : String} {af : Array Edge} {j t : Nat} {b c : Bool} (hg : guardT ops j = some t) (hl : look e t = some (.bool b))
  (hy : b = true → QF P ro n F w0 M k ops Hq (⟨dst, op, ty, pos, af, some (j, c)⟩ :: rest) ((t, .bool true) :: e) H) (hn : b = false → QF P ro n F w0 M k ops Hq (⟨dst, op, ty, pos, af, some (j, c)⟩ :: rest) ((t, .bool false) :: e) H) :
  QF P ro n F w0 M k ops Hq (⟨dst, op, ty, pos, af, some (j, c)⟩ :: rest) e H := .mk fun w hs => yf_split hg hl (fun h => hy h w hs) (fun h => hn h w hs)

/-! Loads -/
theorem cI (hT : T.Ok P) {d t : Nat} {x : Operand} {ad : Addr} {v : Value} {ty : TypeId} {pos : String} {af : Array Edge}
  (hx : opv e x = some (.pointer (some ad))) (h1 : has T.one t = true) (hd : Nat.blt d n = true) (hc : ∀ w, Sat w0 M H w → w.cell? ad = some v)
  (h : QL P ro n F w0 M k ops rest ((d, v) :: e) H) : QL P ro n F w0 M k ops (⟨some d, .load t x, ty, pos, af, none⟩ :: rest) e H := .mk fun w hs => yl_load1 hT hx h1 hd (hc w hs) (h w hs)
theorem ql_loadA (hT : T.Ok P) {d t m : Nat} {x : Operand} {b off : Nat} {cs : List Value} {ty : TypeId} {pos : String} {af : Array Edge}
  (hx : opv e x = some (.pointer (some ⟨b, off, none⟩))) (h1 : fU T.agg t = some m) (hd : Nat.blt d n = true) (hl : cs.length = m) (hc : ∀ w, Sat w0 M H w → ∀ j, j < m → w.cell? ⟨b, off + j, none⟩ = cs[j]?)
  (h : QL P ro n F w0 M k ops rest ((d, .agg cs.toArray) :: e) H) : QL P ro n F w0 M k ops (⟨some d, .load t x, ty, pos, af, none⟩ :: rest) e H := .mk fun w hs => yl_loadA hT hx h1 hd hl (hc w hs) (h w hs)
theorem bI (hT : T.Ok P) {d t : Nat} {x : Operand} {ad : Addr} {v : Value} {ty : TypeId} {pos : String} {af : Array Edge}
  (hx : opv e x = some (.pointer (some ad))) (h1 : has T.one t = true) (hd : Nat.blt d n = true) (hc : ∀ w, Sat w0 M Hq w → w.cell? ad = some v)
  (h : QF P ro n F w0 M k ops Hq rest ((d, v) :: e) H) : QF P ro n F w0 M k ops Hq (⟨some d, .load t x, ty, pos, af, none⟩ :: rest) e H := .mk fun w hs => yf_load1 hT hx h1 hd hc (h w hs)
theorem gY (hT : T.Ok P) {d t m : Nat} {x : Operand} {b off : Nat} {cs : List Value} {ty : TypeId} {pos : String} {af : Array Edge}
  (hx : opv e x = some (.pointer (some ⟨b, off, none⟩))) (h1 : fU T.agg t = some m) (hd : Nat.blt d n = true) (hl : cs.length = m) (hc : ∀ w, Sat w0 M Hq w → ∀ j, j < m → w.cell? ⟨b, off + j, none⟩ = cs[j]?)
  (h : QF P ro n F w0 M k ops Hq rest ((d, .agg cs.toArray) :: e) H) : QF P ro n F w0 M k ops Hq (⟨some d, .load t x, ty, pos, af, none⟩ :: rest) e H := .mk fun w hs => yf_loadA hT hx h1 hd hl hc (h w hs)
theorem ql_loadB (hT : T.Ok P) {d t : Nat} {x : Operand} {b i : Nat} {cs : List Value} {bt : TypeId} {v : Value} {ty : TypeId} {pos : String} {af : Array Edge}
  (hx : opv e x = some (.pointer (some ⟨b, i, none⟩))) (h1 : has T.one t = true) (hd : Nat.blt d n = true) (hb : Ck.pt b cs bt ∈ H) (hv : cs[i]? = some v)
  (h : QL P ro n F w0 M k ops rest ((d, v) :: e) H) : QL P ro n F w0 M k ops (⟨some d, .load t x, ty, pos, af, none⟩ :: rest) e H := cI hT hx h1 hd (fun _ hs => (Blk.cell (hs.mem hb) i).trans hv) h
theorem lN (hT : T.Ok P) {d t m : Nat} {x : Operand} {b i : Nat} {cs us : List Value} {bt : TypeId} {ty : TypeId} {pos : String} {af : Array Edge}
  (hx : opv e x = some (.pointer (some ⟨b, i, none⟩))) (h1 : fU T.agg t = some m) (hd : Nat.blt d n = true) (hb : Ck.pt b cs bt ∈ H) (hu : (cs.drop i).take m = us) (hl : us.length = m)
  (h : QL P ro n F w0 M k ops rest ((d, .agg us.toArray) :: e) H) : QL P ro n F w0 M k ops (⟨some d, .load t x, ty, pos, af, none⟩ :: rest) e H :=
 ql_loadA hT hx h1 hd hl (fun _ hs j hj => by rw [Blk.cell (hs.mem hb), ← hu, List.getElem?_take, if_pos hj, List.getElem?_drop]) h
theorem qf_loadB (hT : T.Ok P) {d t : Nat} {x : Operand} {b i : Nat} {cs : List Value} {bt : TypeId} {v : Value} {ty : TypeId} {pos : String} {af : Array Edge}
  (hx : opv e x = some (.pointer (some ⟨b, i, none⟩))) (h1 : has T.one t = true) (hd : Nat.blt d n = true) (hb : Ck.pt b cs bt ∈ Hq) (hv : cs[i]? = some v)
  (h : QF P ro n F w0 M k ops Hq rest ((d, v) :: e) H) : QF P ro n F w0 M k ops Hq (⟨some d, .load t x, ty, pos, af, none⟩ :: rest) e H := bI hT hx h1 hd (fun _ hs => (Blk.cell (hs.mem hb) i).trans hv) h
theorem qf_loadAB (hT : T.Ok P) {d t m : Nat} {x : Operand} {b i : Nat} {cs us : List Value} {bt : TypeId} {ty : TypeId} {pos : String} {af : Array Edge}
  (hx : opv e x = some (.pointer (some ⟨b, i, none⟩))) (h1 : fU T.agg t = some m) (hd : Nat.blt d n = true) (hb : Ck.pt b cs bt ∈ Hq) (hu : (cs.drop i).take m = us) (hl : us.length = m)
  (h : QF P ro n F w0 M k ops Hq rest ((d, .agg us.toArray) :: e) H) : QF P ro n F w0 M k ops Hq (⟨some d, .load t x, ty, pos, af, none⟩ :: rest) e H :=
 gY hT hx h1 hd hl (fun _ hs j hj => by rw [Blk.cell (hs.mem hb), ← hu, List.getElem?_take, if_pos hj, List.getElem?_drop]) h
/-! The same, with what can be found by trying left out -/
theorem aH (hT : T.Ok P) {d t : Nat} {x : Operand} {b i : Nat} {cs : List Value} {bt : TypeId} {v : Value} {ty : TypeId} {pos : String} {af : Array Edge}
  (hx : opv e x = some (.pointer (some ⟨b, i, none⟩))) (h1 : has T.one t = true) (hd : Nat.blt d n = true)
  (h : QL P ro n F w0 M k ops rest ((d, v) :: e) H) (hb : Ck.pt b cs bt ∈ H := by repeat constructor) (hv : cs[i]? = some v := by rfl) : QL P ro n F w0 M k ops (⟨some d, .load t x, ty, pos, af, none⟩ :: rest) e H := ql_loadB hT hx h1 hd hb hv h
theorem aI (hT : T.Ok P) {d t m : Nat} {x : Operand} {b i : Nat} {cs us : List Value} {bt : TypeId} {ty : TypeId} {pos : String} {af : Array Edge}
  (hx : opv e x = some (.pointer (some ⟨b, i, none⟩))) (h1 : fU T.agg t = some m) (hd : Nat.blt d n = true)
  (h : QL P ro n F w0 M k ops rest ((d, .agg us.toArray) :: e) H) (hb : Ck.pt b cs bt ∈ H := by repeat constructor) (hu : (cs.drop i).take m = us := by rfl) (hl : us.length = m := by rfl) : QL P ro n F w0 M k ops (⟨some d, .load t x, ty, pos, af, none⟩ :: rest) e H := lN hT hx h1 hd hb hu hl h
theorem aT (hT : T.Ok P) {d t : Nat} {x : Operand} {b i : Nat} {cs : List Value} {bt : TypeId} {v : Value} {ty : TypeId} {pos : String} {af : Array Edge}
  (hx : opv e x = some (.pointer (some ⟨b, i, none⟩))) (h1 : has T.one t = true) (hd : Nat.blt d n = true)
  (h : QF P ro n F w0 M k ops Hq rest ((d, v) :: e) H) (hb : Ck.pt b cs bt ∈ Hq := by repeat constructor) (hv : cs[i]? = some v := by rfl) : QF P ro n F w0 M k ops Hq (⟨some d, .load t x, ty, pos, af, none⟩ :: rest) e H := qf_loadB hT hx h1 hd hb hv h
theorem aO (hT : T.Ok P) {d t m : Nat} {x : Operand} {b i : Nat} {cs us : List Value} {bt : TypeId} {ty : TypeId} {pos : String} {af : Array Edge}
  (hx : opv e x = some (.pointer (some ⟨b, i, none⟩))) (h1 : fU T.agg t = some m) (hd : Nat.blt d n = true)
  (h : QF P ro n F w0 M k ops Hq rest ((d, .agg us.toArray) :: e) H) (hb : Ck.pt b cs bt ∈ Hq := by repeat constructor) (hu : (cs.drop i).take m = us := by rfl) (hl : us.length = m := by rfl) : QF P ro n F w0 M k ops Hq (⟨some d, .load t x, ty, pos, af, none⟩ :: rest) e H := qf_loadAB hT hx h1 hd hb hu hl h

/-! Loads out of blocks that lay there before -/
theorem eN (hT : T.Ok P) {d t : Nat} {x : Operand} {b i : Nat} {cs : List Value} {bt : TypeId} {v : Value} {ty : TypeId} {pos : String} {af : Array Edge}
  (hx : opv e x = some (.pointer (some ⟨b, i, none⟩))) (h1 : has T.one t = true) (hd : Nat.blt d n = true) (hb : Blk w0 b cs bt) (hv : cs[i]? = some v)
  (h : QL P ro n F w0 M0 k ops rest ((d, v) :: e) H) : QL P ro n F w0 M0 k ops (⟨some d, .load t x, ty, pos, af, none⟩ :: rest) e H := cI hT hx h1 hd (fun _ hs => ((hb.keep hs.chg0).cell i).trans hv) h
theorem dO (hT : T.Ok P) {d t : Nat} {x : Operand} {b i : Nat} {cs : List Value} {bt : TypeId} {v : Value} {ty : TypeId} {pos : String} {af : Array Edge}
  (hx : opv e x = some (.pointer (some ⟨b, i, none⟩))) (h1 : has T.one t = true) (hd : Nat.blt d n = true) (hb : Blk w0 b cs bt) (hv : cs[i]? = some v)
  (h : QF P ro n F w0 M0 k ops Hq rest ((d, v) :: e) H) : QF P ro n F w0 M0 k ops Hq (⟨some d, .load t x, ty, pos, af, none⟩ :: rest) e H := bI hT hx h1 hd (fun _ hs => ((hb.keep hs.chg0).cell i).trans hv) h
theorem cL (hT : T.Ok P) {d t : Nat} {x : Operand} {b i : Nat} {cs : List Value} {bt : TypeId} {v : Value} {ty : TypeId} {pos : String} {af : Array Edge}
  (hx : opv e x = some (.pointer (some ⟨b, i, none⟩))) (h1 : has T.one t = true) (hd : Nat.blt d n = true) (hb : ∀ w', ChgP M w0 w' → Blk w' b cs bt) (hv : cs[i]? = some v)
  (h : QL P ro n F w0 M k ops rest ((d, v) :: e) H) : QL P ro n F w0 M k ops (⟨some d, .load t x, ty, pos, af, none⟩ :: rest) e H := cI hT hx h1 hd (fun w hs => ((hb w hs.chg).cell i).trans hv) h
theorem cP (hT : T.Ok P) {d t : Nat} {x : Operand} {b i : Nat} {cs : List Value} {bt : TypeId} {v : Value} {ty : TypeId} {pos : String} {af : Array Edge}
  (hx : opv e x = some (.pointer (some ⟨b, i, none⟩))) (h1 : has T.one t = true) (hd : Nat.blt d n = true) (hb : ∀ w', ChgP M w0 w' → Blk w' b cs bt) (hv : cs[i]? = some v)
  (h : QF P ro n F w0 M k ops Hq rest ((d, v) :: e) H) : QF P ro n F w0 M k ops Hq (⟨some d, .load t x, ty, pos, af, none⟩ :: rest) e H := bI hT hx h1 hd (fun w hs => ((hb w hs.chg).cell i).trans hv) h
/-! New variables -/
/-- The zero value of a type. -/
structure ZeroOf (P : Program) (t : TypeId) (z : Value) : Prop where
 h : (P.info? t).bind (·.zero) = some z
theorem pt_new {w w' : World} {cs : List Value} {t : TypeId} (hz : w'.heap.size = w.heap.size + 1) : ∀ b, (Ck.pt w.heap.size cs t).D b → w.heap.size ≤ b ∧ b < w'.heap.size := by
 intro b hb
 simp only [Ck.D] at hb
 omega
theorem Sat.addPt {w w' : World} {cs : List Value} {t : TypeId} (h : Sat w0 M H w) (c : Chg [] w w') (hz : w'.heap.size = w.heap.size + 1) (hb : Blk w' w.heap.size cs t) : Sat w0 M (.pt w.heap.size cs t :: H) w' :=
 h.add (x := .pt w.heap.size cs t) c hb (pt_new hz)
theorem bG {d t : Nat} {x : Operand} {v : Value} {ty : TypeId} {pos : String} {af : Array Edge} (hx : opv e x = some v) (hd : Nat.blt d n = true)
  (h : ∀ b, QL P ro n F w0 M k ops rest ((d, .pointer (some ⟨b, 0, none⟩)) :: e) (.pt b v.cells.toList t :: H)) : QL P ro n F w0 M k ops (⟨some d, .box t x, ty, pos, af, none⟩ :: rest) e H :=
 .mk fun _ hs => yl_box hx hd (fun w' hc hz hb => h _ w' (hs.addPt hc hz hb))
theorem aV {d t : Nat} {z : Value} {ty : TypeId} {pos : String} {af : Array Edge} (hz : ZeroOf P t z) (hd : Nat.blt d n = true)
  (h : ∀ b, QL P ro n F w0 M k ops rest ((d, .pointer (some ⟨b, 0, none⟩)) :: e) (.pt b z.cells.toList t :: H)) : QL P ro n F w0 M k ops (⟨some d, .alloc t, ty, pos, af, none⟩ :: rest) e H :=
 .mk fun _ hs => yl_alloc hz.h hd (fun w' hc hz hb => h _ w' (hs.addPt hc hz hb))
theorem aU {d t : Nat} {z : Value} {ty : TypeId} {pos : String} {af : Array Edge} (hz : ZeroOf P t z) (hd : Nat.blt d n = true)
  (h : ∀ b, QF P ro n F w0 M k ops Hq rest ((d, .pointer (some ⟨b, 0, none⟩)) :: e) (.pt b z.cells.toList t :: H)) : QF P ro n F w0 M k ops Hq (⟨some d, .alloc t, ty, pos, af, none⟩ :: rest) e H :=
 .mk fun _ hs => yf_alloc hz.h hd (fun w' hc hz hb => have hs' := hs.addPt hc hz hb; ⟨(hs'.tail).right, h _ w' hs'⟩)

/-! Stores -/
theorem Sat.pt {w w' : World} {b : Nat} {cs cs' : List Value} {t : TypeId} {H' : List Ck} (hs : Sat w0 M H w) (hr : Rp H (.pt b cs t) (.pt b cs' t) H') (hc : Chg [b] w w') (hb : Blk w' b cs' t) : Sat w0 M H' w' :=
 hs.rep hr hc (fun k hk => by simpa [Ck.D] using hk) hb (fun x hx => ⟨.inl hx, by simp only [Ck.D] at hx; subst hx; exact Blk.lt hb⟩)
theorem fV (hT : T.Ok P) {t : Nat} {x y : Operand} {b i : Nat} {cs : List Value} {bt : TypeId} {v : Value} {H' : List Ck} {ty : TypeId} {pos : String} {af : Array Edge}
  (hx : opv e x = some (.pointer (some ⟨b, i, none⟩))) (hy : opv e y = some v) (h1 : has T.one t = true) (hv : dY v = true) (hr : Rp H (.pt b cs bt) (.pt b (cs.set i v) bt) H') (hi : i < cs.length)
  (h : QL P ro n F w0 M k ops rest e H') : QL P ro n F w0 M k ops (⟨none, .store t x y, ty, pos, af, none⟩ :: rest) e H :=
 .mk fun _ hs => yl_store1 hT hx hy h1 hv (hs.mem hr.mem) hi (fun w' hc _ hb => h w' (hs.pt hr hc hb))
theorem ql_storeA (hT : T.Ok P) {t m : Nat} {x y : Operand} {b off : Nat} {cs us : List Value} {bt : TypeId} {H' : List Ck} {ty : TypeId} {pos : String} {af : Array Edge}
  (hx : opv e x = some (.pointer (some ⟨b, off, none⟩))) (hy : opv e y = some (.agg us.toArray)) (h1 : fU T.agg t = some m) (hm : us.length = m) (h1v : ∀ u ∈ us, dY u = true) (hr : Rp H (.pt b cs bt) (.pt b (setL cs off us) bt) H') (hl : off + m ≤ cs.length)
  (h : QL P ro n F w0 M k ops rest e H') : QL P ro n F w0 M k ops (⟨none, .store t x y, ty, pos, af, none⟩ :: rest) e H :=
 .mk fun _ hs => yl_storeA hT hx hy h1 hm h1v (hs.mem hr.mem) hl (fun w' hc _ hb => h w' (hs.pt hr hc hb))
theorem hP (hT : T.Ok P) {t : Nat} {x y : Operand} {b i : Nat} {cs : List Value} {bt : TypeId} {v : Value} {H' : List Ck} {ty : TypeId} {pos : String} {af : Array Edge}
  (hx : opv e x = some (.pointer (some ⟨b, i, none⟩))) (hy : opv e y = some v) (h1 : has T.one t = true) (hv : dY v = true) (hr : Rp H (.pt b cs bt) (.pt b (cs.set i v) bt) H') (hi : i < cs.length)
  (h : QF P ro n F w0 M k ops Hq rest e H') : QF P ro n F w0 M k ops Hq (⟨none, .store t x y, ty, pos, af, none⟩ :: rest) e H :=
 .mk fun _ hs => yf_store1 hT hx hy h1 hv (hs.mem (hr.app Hq).mem) hi (fun w' hc _ hb => have hs' := hs.pt (hr.app Hq) hc hb; ⟨hs'.right, h w' hs'⟩)
theorem qf_storeA (hT : T.Ok P) {t m : Nat} {x y : Operand} {b off : Nat} {cs us : List Value} {bt : TypeId} {H' : List Ck} {ty : TypeId} {pos : String} {af : Array Edge}
  (hx : opv e x = some (.pointer (some ⟨b, off, none⟩))) (hy : opv e y = some (.agg us.toArray)) (h1 : fU T.agg t = some m) (hm : us.length = m) (h1v : ∀ u ∈ us, dY u = true) (hr : Rp H (.pt b cs bt) (.pt b (setL cs off us) bt) H') (hl : off + m ≤ cs.length)
  (h : QF P ro n F w0 M k ops Hq rest e H') : QF P ro n F w0 M k ops Hq (⟨none, .store t x y, ty, pos, af, none⟩ :: rest) e H :=
 .mk fun _ hs => yf_storeA hT hx hy h1 hm h1v (hs.mem (hr.app Hq).mem) hl (fun w' hc _ hb => have hs' := hs.pt (hr.app Hq) hc hb; ⟨hs'.right, h w' hs'⟩)
/-- A variable of one cell. -/
theorem eV (hT : T.Ok P) {t : Nat} {x y : Operand} {b : Nat} {u : Value} {bt : TypeId} {v : Value} {H' : List Ck} {ty : TypeId} {pos : String} {af : Array Edge}
  (hx : opv e x = some (.pointer (some ⟨b, 0, none⟩))) (hy : opv e y = some v) (h1 : has T.one t = true) (hv : dY v = true) (hr : Rp H (.pt b [u] bt) (.pt b [v] bt) H')
  (h : QL P ro n F w0 M k ops rest e H') : QL P ro n F w0 M k ops (⟨none, .store t x y, ty, pos, af, none⟩ :: rest) e H := fV hT hx hy h1 hv hr (by simp) h
theorem lV (hT : T.Ok P) {t : Nat} {x y : Operand} {b : Nat} {u : Value} {bt : TypeId} {v : Value} {H' : List Ck} {ty : TypeId} {pos : String} {af : Array Edge}
  (hx : opv e x = some (.pointer (some ⟨b, 0, none⟩))) (hy : opv e y = some v) (h1 : has T.one t = true) (hv : dY v = true) (hr : Rp H (.pt b [u] bt) (.pt b [v] bt) H')
  (h : QF P ro n F w0 M k ops Hq rest e H') : QF P ro n F w0 M k ops Hq (⟨none, .store t x y, ty, pos, af, none⟩ :: rest) e H := hP hT hx hy h1 hv hr (by simp) h
theorem ql_st0 (hT : T.Ok P) {t : Nat} {x y : Operand} {b : Nat} {u0 : Value} {us : List Value} {bt : TypeId} {v : Value} {H' : List Ck} {ty : TypeId} {pos : String} {af : Array Edge}
  (hx : opv e x = some (.pointer (some ⟨b, 0, none⟩))) (hy : opv e y = some v) (h1 : has T.one t = true) (hv : dY v = true) (hr : Rp H (.pt b (u0 :: us) bt) (.pt b (v :: us) bt) H')
  (h : QL P ro n F w0 M k ops rest e H') : QL P ro n F w0 M k ops (⟨none, .store t x y, ty, pos, af, none⟩ :: rest) e H := fV hT hx hy h1 hv hr (by simp) h
theorem ql_st1 (hT : T.Ok P) {t : Nat} {x y : Operand} {b : Nat} {u0 u1 : Value} {us : List Value} {bt : TypeId} {v : Value} {H' : List Ck} {ty : TypeId} {pos : String} {af : Array Edge}
  (hx : opv e x = some (.pointer (some ⟨b, 1, none⟩))) (hy : opv e y = some v) (h1 : has T.one t = true) (hv : dY v = true) (hr : Rp H (.pt b (u0 :: u1 :: us) bt) (.pt b (u0 :: v :: us) bt) H')
  (h : QL P ro n F w0 M k ops rest e H') : QL P ro n F w0 M k ops (⟨none, .store t x y, ty, pos, af, none⟩ :: rest) e H := fV hT hx hy h1 hv hr (by simp) h
theorem ql_st2 (hT : T.Ok P) {t : Nat} {x y : Operand} {b : Nat} {u0 u1 u2 : Value} {us : List Value} {bt : TypeId} {v : Value} {H' : List Ck} {ty : TypeId} {pos : String} {af : Array Edge}
  (hx : opv e x = some (.pointer (some ⟨b, 2, none⟩))) (hy : opv e y = some v) (h1 : has T.one t = true) (hv : dY v = true) (hr : Rp H (.pt b (u0 :: u1 :: u2 :: us) bt) (.pt b (u0 :: u1 :: v :: us) bt) H')
  (h : QL P ro n F w0 M k ops rest e H') : QL P ro n F w0 M k ops (⟨none, .store t x y, ty, pos, af, none⟩ :: rest) e H := fV hT hx hy h1 hv hr (by simp) h
theorem ql_st3 (hT : T.Ok P) {t : Nat} {x y : Operand} {b : Nat} {u0 u1 u2 u3 : Value} {us : List Value} {bt : TypeId} {v : Value} {H' : List Ck} {ty : TypeId} {pos : String} {af : Array Edge}
  (hx : opv e x = some (.pointer (some ⟨b, 3, none⟩))) (hy : opv e y = some v) (h1 : has T.one t = true) (hv : dY v = true) (hr : Rp H (.pt b (u0 :: u1 :: u2 :: u3 :: us) bt) (.pt b (u0 :: u1 :: u2 :: v :: us) bt) H')
  (h : QL P ro n F w0 M k ops rest e H') : QL P ro n F w0 M k ops (⟨none, .store t x y, ty, pos, af, none⟩ :: rest) e H := fV hT hx hy h1 hv hr (by simp) h
theorem ql_st4 (hT : T.Ok P) {t : Nat} {x y : Operand} {b : Nat} {u0 u1 u2 u3 u4 : Value} {us : List Value} {bt : TypeId} {v : Value} {H' : List Ck} {ty : TypeId} {pos : String} {af : Array Edge}
  (hx : opv e x = some (.pointer (some ⟨b, 4, none⟩))) (hy : opv e y = some v) (h1 : has T.one t = true) (hv : dY v = true) (hr : Rp H (.pt b (u0 :: u1 :: u2 :: u3 :: u4 :: us) bt) (.pt b (u0 :: u1 :: u2 :: u3 :: v :: us) bt) H')
  (h : QL P ro n F w0 M k ops rest e H') : QL P ro n F w0 M k ops (⟨none, .store t x y, ty, pos, af, none⟩ :: rest) e H := fV hT hx hy h1 hv hr (by simp) h
theorem ql_st6 (hT : T.Ok P) {t : Nat} {x y : Operand} {b : Nat} {u0 u1 u2 u3 u4 u5 u6 : Value} {us : List Value} {bt : TypeId} {v : Value} {H' : List Ck} {ty : TypeId} {pos : String} {af : Array Edge}
  (hx : opv e x = some (.pointer (some ⟨b, 6, none⟩))) (hy : opv e y = some v) (h1 : has T.one t = true) (hv : dY v = true) (hr : Rp H (.pt b (u0 :: u1 :: u2 :: u3 :: u4 :: u5 :: u6 :: us) bt) (.pt b (u0 :: u1 :: u2 :: u3 :: u4 :: u5 :: v :: us) bt) H')
  (h : QL P ro n F w0 M k ops rest e H') : QL P ro n F w0 M k ops (⟨none, .store t x y, ty, pos, af, none⟩ :: rest) e H := fV hT hx hy h1 hv hr (by simp) h
theorem ql_st7 (hT : T.Ok P) {t : Nat} {x y : Operand} {b : Nat} {u0 u1 u2 u3 u4 u5 u6 u7 : Value} {us : List Value} {bt : TypeId} {v : Value} {H' : List Ck} {ty : TypeId} {pos : String} {af : Array Edge}
  (hx : opv e x = some (.pointer (some ⟨b, 7, none⟩))) (hy : opv e y = some v) (h1 : has T.one t = true) (hv : dY v = true) (hr : Rp H (.pt b (u0 :: u1 :: u2 :: u3 :: u4 :: u5 :: u6 :: u7 :: us) bt) (.pt b (u0 :: u1 :: u2 :: u3 :: u4 :: u5 :: u6 :: v :: us) bt) H')
  (h : QL P ro n F w0 M k ops rest e H') : QL P ro n F w0 M k ops (⟨none, .store t x y, ty, pos, af, none⟩ :: rest) e H := fV hT hx hy h1 hv hr (by simp) h
theorem qf_st0 (hT : T.Ok P) {t : Nat} {x y : Operand} {b : Nat} {u0 : Value} {us : List Value} {bt : TypeId} {v : Value} {H' : List Ck} {ty : TypeId} {pos : String} {af : Array Edge}
  (hx : opv e x = some (.pointer (some ⟨b, 0, none⟩))) (hy : opv e y = some v) (h1 : has T.one t = true) (hv : dY v = true) (hr : Rp H (.pt b (u0 :: us) bt) (.pt b (v :: us) bt) H')
  (h : QF P ro n F w0 M k ops Hq rest e H') : QF P ro n F w0 M k ops Hq (⟨none, .store t x y, ty, pos, af, none⟩ :: rest) e H := hP hT hx hy h1 hv hr (by simp) h
theorem qf_st1 (hT : T.Ok P) {t : Nat} {x y : Operand} {b : Nat} {u0 u1 : Value} {us : List Value} {bt : TypeId} {v : Value} {H' : List Ck} {ty : TypeId} {pos : String} {af : Array Edge}
  (hx : opv e x = some (.pointer (some ⟨b, 1, none⟩))) (hy : opv e y = some v) (h1 : has T.one t = true) (hv : dY v = true) (hr : Rp H (.pt b (u0 :: u1 :: us) bt) (.pt b (u0 :: v :: us) bt) H')
  (h : QF P ro n F w0 M k ops Hq rest e H') : QF P ro n F w0 M k ops Hq (⟨none, .store t x y, ty, pos, af, none⟩ :: rest) e H := hP hT hx hy h1 hv hr (by simp) h
theorem qf_st4 (hT : T.Ok P) {t : Nat} {x y : Operand} {b : Nat} {u0 u1 u2 u3 u4 : Value} {us : List Value} {bt : TypeId} {v : Value} {H' : List Ck} {ty : TypeId} {pos : String} {af : Array Edge}
  (hx : opv e x = some (.pointer (some ⟨b, 4, none⟩))) (hy : opv e y = some v) (h1 : has T.one t = true) (hv : dY v = true) (hr : Rp H (.pt b (u0 :: u1 :: u2 :: u3 :: u4 :: us) bt) (.pt b (u0 :: u1 :: u2 :: u3 :: v :: us) bt) H')
  (h : QF P ro n F w0 M k ops Hq rest e H') : QF P ro n F w0 M k ops Hq (⟨none, .store t x y, ty, pos, af, none⟩ :: rest) e H := hP hT hx hy h1 hv hr (by simp) h
theorem qf_st5 (hT : T.Ok P) {t : Nat} {x y : Operand} {b : Nat} {u0 u1 u2 u3 u4 u5 : Value} {us : List Value} {bt : TypeId} {v : Value} {H' : List Ck} {ty : TypeId} {pos : String} {af : Array Edge}
  (hx : opv e x = some (.pointer (some ⟨b, 5, none⟩))) (hy : opv e y = some v) (h1 : has T.one t = true) (hv : dY v = true) (hr : Rp H (.pt b (u0 :: u1 :: u2 :: u3 :: u4 :: u5 :: us) bt) (.pt b (u0 :: u1 :: u2 :: u3 :: u4 :: v :: us) bt) H')
  (h : QF P ro n F w0 M k ops Hq rest e H') : QF P ro n F w0 M k ops Hq (⟨none, .store t x y, ty, pos, af, none⟩ :: rest) e H := hP hT hx hy h1 hv hr (by simp) h
theorem qf_st6 (hT : T.Ok P) {t : Nat} {x y : Operand} {b : Nat} {u0 u1 u2 u3 u4 u5 u6 : Value} {us : List Value} {bt : TypeId} {v : Value} {H' : List Ck} {ty : TypeId} {pos : String} {af : Array Edge}
  (hx : opv e x = some (.pointer (some ⟨b, 6, none⟩))) (hy : opv e y = some v) (h1 : has T.one t = true) (hv : dY v = true) (hr : Rp H (.pt b (u0 :: u1 :: u2 :: u3 :: u4 :: u5 :: u6 :: us) bt) (.pt b (u0 :: u1 :: u2 :: u3 :: u4 :: u5 :: v :: us) bt) H')
  (h : QF P ro n F w0 M k ops Hq rest e H') : QF P ro n F w0 M k ops Hq (⟨none, .store t x y, ty, pos, af, none⟩ :: rest) e H := hP hT hx hy h1 hv hr (by simp) h
theorem qf_st7 (hT : T.Ok P) {t : Nat} {x y : Operand} {b : Nat} {u0 u1 u2 u3 u4 u5 u6 u7 : Value} {us : List Value} {bt : TypeId} {v : Value} {H' : List Ck} {ty : TypeId} {pos : String} {af : Array Edge}
  (hx : opv e x = some (.pointer (some ⟨b, 7, none⟩))) (hy : opv e y = some v) (h1 : has T.one t = true) (hv : dY v = true) (hr : Rp H (.pt b (u0 :: u1 :: u2 :: u3 :: u4 :: u5 :: u6 :: u7 :: us) bt) (.pt b (u0 :: u1 :: u2 :: u3 :: u4 :: u5 :: u6 :: v :: us) bt) H')
  (h : QF P ro n F w0 M k ops Hq rest e H') : QF P ro n F w0 M k ops Hq (⟨none, .store t x y, ty, pos, af, none⟩ :: rest) e H := hP hT hx hy h1 hv hr (by simp) h
theorem setL_all : ∀ (cs us pre : List Value), us.length = cs.length → setL (pre ++ cs) pre.length us = pre ++ us
 | [], [], pre, _ => rfl
 | c :: cs, u :: us, pre, h => by
  have ih := setL_all cs us (pre ++ [u]) (by simpa using h)
  simp only [setL]
  rw [List.set_append_right _ _ (Nat.le_refl _), Nat.sub_self, List.set_cons_zero]
  simpa using ih
/-- A whole variable of several cells. -/
theorem aY (hT : T.Ok P) {t m : Nat} {x y : Operand} {b : Nat} {cs us : List Value} {bt : TypeId} {H' : List Ck} {ty : TypeId} {pos : String} {af : Array Edge}
  (hx : opv e x = some (.pointer (some ⟨b, 0, none⟩))) (hy : opv e y = some (.agg us.toArray)) (h1 : fU T.agg t = some m) (hm : us.length = m) (h1v : (us.all dY) = true) (hr : Rp H (.pt b cs bt) (.pt b us bt) H') (hl : cs.length = m)
  (h : QL P ro n F w0 M k ops rest e H') : QL P ro n F w0 M k ops (⟨none, .store t x y, ty, pos, af, none⟩ :: rest) e H := by
 have e1 : setL cs 0 us = us := setL_all cs us [] O
 exact ql_storeA hT hx hy h1 hm (List.all_eq_true.1 h1v) (by rw [e1]; exact hr) O h

theorem bK (hT : T.Ok P) {t m : Nat} {x y : Operand} {b : Nat} {cs us : List Value} {bt : TypeId} {H' : List Ck} {ty : TypeId} {pos : String} {af : Array Edge}
  (hx : opv e x = some (.pointer (some ⟨b, 0, none⟩))) (hy : opv e y = some (.agg us.toArray)) (h1 : fU T.agg t = some m) (hm : us.length = m) (h1v : (us.all dY) = true) (hr : Rp H (.pt b cs bt) (.pt b us bt) H') (hl : cs.length = m)
  (h : QF P ro n F w0 M k ops Hq rest e H') : QF P ro n F w0 M k ops Hq (⟨none, .store t x y, ty, pos, af, none⟩ :: rest) e H := by
 have e1 : setL cs 0 us = us := setL_all cs us [] O
 exact qf_storeA hT hx hy h1 hm (List.all_eq_true.1 h1v) (by rw [e1]; exact hr) O h
/-! A block of numbers -/
theorem ql_loadI (hT : T.Ok P) {d t : Nat} {x : Operand} {b off : Nat} {l : List Int} {bt : TypeId} {ty : TypeId} {pos : String} {af : Array Edge} (i : Nat)
  (hx : opv e x = some (.pointer (some ⟨b, off, none⟩))) (h1 : has T.one t = true) (hd : Nat.blt d n = true) (hb : Ck.pt b (aZ l) bt ∈ H) (ho : off = i) (hi : i < l.length)
  (h : QL P ro n F w0 M k ops rest ((d, .int .i64 l[i]) :: e) H) : QL P ro n F w0 M k ops (⟨some d, .load t x, ty, pos, af, none⟩ :: rest) e H :=
 cI hT hx h1 hd (fun _ hs => (Blk.cell (hs.mem hb) off).trans (by subst ho; simp [hi])) h
theorem jT (hT : T.Ok P) {t : Nat} {x y : Operand} {b off : Nat} {l : List Int} {z : Int} {bt : TypeId} {H' : List Ck} {ty : TypeId} {pos : String} {af : Array Edge} (i : Nat)
  (hx : opv e x = some (.pointer (some ⟨b, off, none⟩))) (hy : opv e y = some (.int .i64 z)) (h1 : has T.one t = true) (hr : Rp H (.pt b (aZ l) bt) (.pt b (aZ (l.set i z)) bt) H') (ho : off = i) (hi : i < l.length)
  (h : QL P ro n F w0 M k ops rest e H') : QL P ro n F w0 M k ops (⟨none, .store t x y, ty, pos, af, none⟩ :: rest) e H :=
 fV hT hx hy h1 rfl (by subst ho; rw [← List.map_set]; exact hr) (by subst ho; simpa using hi) h
theorem fL (hT : T.Ok P) {d t : Nat} {x : Operand} {b off : Nat} {l : List Int} {bt : TypeId} {ty : TypeId} {pos : String} {af : Array Edge} (i : Nat)
  (hx : opv e x = some (.pointer (some ⟨b, off, none⟩))) (h1 : has T.one t = true) (hd : Nat.blt d n = true) (hb : Ck.pt b (aZ l) bt ∈ Hq) (ho : off = i) (hi : i < l.length)
  (h : QF P ro n F w0 M k ops Hq rest ((d, .int .i64 l[i]) :: e) H) : QF P ro n F w0 M k ops Hq (⟨some d, .load t x, ty, pos, af, none⟩ :: rest) e H :=
 bI hT hx h1 hd (fun _ hs => (Blk.cell (hs.mem hb) off).trans (by subst ho; simp [hi])) h
theorem lX (hT : T.Ok P) {t : Nat} {x y : Operand} {b off : Nat} {l : List Int} {z : Int} {bt : TypeId} {H' : List Ck} {ty : TypeId} {pos : String} {af : Array Edge} (i : Nat)
  (hx : opv e x = some (.pointer (some ⟨b, off, none⟩))) (hy : opv e y = some (.int .i64 z)) (h1 : has T.one t = true) (hr : Rp H (.pt b (aZ l) bt) (.pt b (aZ (l.set i z)) bt) H') (ho : off = i) (hi : i < l.length)
  (h : QF P ro n F w0 M k ops Hq rest e H') : QF P ro n F w0 M k ops Hq (⟨none, .store t x y, ty, pos, af, none⟩ :: rest) e H :=
 hP hT hx hy h1 rfl (by subst ho; rw [← List.map_set]; exact hr) (by subst ho; simpa using hi) h

/-! Slices and structs -/
theorem bW (hT : T.Ok P) {d t et sz : Nat} {x ix : Operand} {b off len cap : Nat} {ik : IntKind} {i : Int} {ty : TypeId} {pos : String} {af : Array Edge}
  (hx : opv e x = some (.slice (some ⟨b, off, none⟩) len cap)) (hi : opv e ix = some (.int ik i)) (hs : fU T.esz t = some (et, sz)) (hsl : has T.len t = true) (hd : Nat.blt d n = true) (h0 : 0 ≤ i) (h1 : i < len)
  (h : QL P ro n F w0 M k ops rest ((d, .pointer (some ⟨b, off + i.toNat * sz, none⟩)) :: e) H) : QL P ro n F w0 M k ops (⟨some d, .indexAddr t x ix, ty, pos, af, none⟩ :: rest) e H := .mk fun w hw => yl_index hT hx hi hs hsl hd h0 h1 (h w hw)
theorem bF (hT : T.Ok P) {d t et sz : Nat} {x ix : Operand} {b off len cap : Nat} {ik : IntKind} {i : Int} {ty : TypeId} {pos : String} {af : Array Edge}
  (hx : opv e x = some (.slice (some ⟨b, off, none⟩) len cap)) (hi : opv e ix = some (.int ik i)) (hs : fU T.esz t = some (et, sz)) (hsl : has T.len t = true) (hd : Nat.blt d n = true) (h0 : 0 ≤ i) (h1 : i < len)
  (h : QF P ro n F w0 M k ops Hq rest ((d, .pointer (some ⟨b, off + i.toNat * sz, none⟩)) :: e) H) : QF P ro n F w0 M k ops Hq (⟨some d, .indexAddr t x ix, ty, pos, af, none⟩ :: rest) e H := .mk fun w hw => yf_index hT hx hi hs hsl hd h0 h1 (h w hw)
theorem ql_indexA {d t et sz len : Nat} {x ix : Operand} {b off : Nat} {ik : IntKind} {i : Int} {ty : TypeId} {pos : String} {af : Array Edge} (hA : arrB P t len et sz = true)
  (hx : opv e x = some (.pointer (some ⟨b, off, none⟩))) (hi : opv e ix = some (.int ik i)) (hd : Nat.blt d n = true) (h0 : 0 ≤ i) (h1 : i < len)
  (h : QL P ro n F w0 M k ops rest ((d, .pointer (some ⟨b, off + i.toNat * sz, none⟩)) :: e) H) : QL P ro n F w0 M k ops (⟨some d, .indexAddr t x ix, ty, pos, af, none⟩ :: rest) e H := .mk fun w hw => yl_indexA hA hx hi hd h0 h1 (h w hw)
theorem eB {d t et sz len : Nat} {x ix : Operand} {b off : Nat} {ik : IntKind} {i : Int} {ty : TypeId} {pos : String} {af : Array Edge} (hA : arrB P t len et sz = true)
  (hx : opv e x = some (.pointer (some ⟨b, off, none⟩))) (hi : opv e ix = some (.int ik i)) (hd : Nat.blt d n = true) (h0 : 0 ≤ i) (h1 : i < len)
  (h : QF P ro n F w0 M k ops Hq rest ((d, .pointer (some ⟨b, off + i.toNat * sz, none⟩)) :: e) H) : QF P ro n F w0 M k ops Hq (⟨some d, .indexAddr t x ix, ty, pos, af, none⟩ :: rest) e H := .mk fun w hw => yf_indexA hA hx hi hd h0 h1 (h w hw)
theorem ql_quo {d t t' : Nat} {x y : Operand} {kd : IntKind} {p q : Int} {ty : TypeId} {pos : String} {af : Array Edge} (hx : opv e x = some (.int kd p)) (hy : opv e y = some (.int kd q)) (hq : q ≠ 0) (hd : Nat.blt d n = true)
  (h : QL P ro n F w0 M k ops rest ((d, .int kd (kd.wrap (p.tdiv q))) :: e) H) : QL P ro n F w0 M k ops (⟨some d, .binOp .quo t x y t', ty, pos, af, none⟩ :: rest) e H := .mk fun w hw => yl_quo hx hy hq hd (h w hw)
theorem ql_rem {d t t' : Nat} {x y : Operand} {kd : IntKind} {p q : Int} {ty : TypeId} {pos : String} {af : Array Edge} (hx : opv e x = some (.int kd p)) (hy : opv e y = some (.int kd q)) (hq : q ≠ 0) (hd : Nat.blt d n = true)
  (h : QL P ro n F w0 M k ops rest ((d, .int kd (p.tmod q)) :: e) H) : QL P ro n F w0 M k ops (⟨some d, .binOp .rem t x y t', ty, pos, af, none⟩ :: rest) e H := .mk fun w hw => yl_rem hx hy hq hd (h w hw)
theorem qf_quo {d t t' : Nat} {x y : Operand} {kd : IntKind} {p q : Int} {ty : TypeId} {pos : String} {af : Array Edge} (hx : opv e x = some (.int kd p)) (hy : opv e y = some (.int kd q)) (hq : q ≠ 0) (hd : Nat.blt d n = true)
  (h : QF P ro n F w0 M k ops Hq rest ((d, .int kd (kd.wrap (p.tdiv q))) :: e) H) : QF P ro n F w0 M k ops Hq (⟨some d, .binOp .quo t x y t', ty, pos, af, none⟩ :: rest) e H := .mk fun w hw => yf_quo hx hy hq hd (h w hw)
theorem qf_rem {d t t' : Nat} {x y : Operand} {kd : IntKind} {p q : Int} {ty : TypeId} {pos : String} {af : Array Edge} (hx : opv e x = some (.int kd p)) (hy : opv e y = some (.int kd q)) (hq : q ≠ 0) (hd : Nat.blt d n = true)
  (h : QF P ro n F w0 M k ops Hq rest ((d, .int kd (p.tmod q)) :: e) H) : QF P ro n F w0 M k ops Hq (⟨some d, .binOp .rem t x y t', ty, pos, af, none⟩ :: rest) e H := .mk fun w hw => yf_rem hx hy hq hd (h w hw)
theorem tdiv_fit {p q : Int} (h0 : 0 ≤ p) (hq : 0 < q) (hp : p < 9223372036854775808) : IntKind.i64.wrap (p.tdiv q) = p / q := by
 have h1 : p / q ≤ p := Int.ediv_le_self q h0
 have h2 : 0 ≤ p / q := Int.ediv_nonneg h0 O
 rw [Int.tdiv_eq_ediv_of_nonneg h0]
 exact w64 O O
theorem iR {d t t' : Nat} {x y : Operand} {p q : Int} {ty : TypeId} {pos : String} {af : Array Edge} (hx : opv e x = some (.int .i64 p)) (hy : opv e y = some (.int .i64 q)) (hd : Nat.blt d n = true) (h0 : 0 ≤ p) (hq : 0 < q) (hp : p < 9223372036854775808)
  (h : QL P ro n F w0 M k ops rest ((d, .int .i64 (p / q)) :: e) H) : QL P ro n F w0 M k ops (⟨some d, .binOp .quo t x y t', ty, pos, af, none⟩ :: rest) e H := ql_quo hx hy O hd (by rw [tdiv_fit h0 hq hp]; exact h)
theorem dE {d t t' : Nat} {x y : Operand} {p q : Int} {ty : TypeId} {pos : String} {af : Array Edge} (hx : opv e x = some (.int .i64 p)) (hy : opv e y = some (.int .i64 q)) (hd : Nat.blt d n = true) (h0 : 0 ≤ p) (hq : 0 < q)
  (h : QL P ro n F w0 M k ops rest ((d, .int .i64 (p % q)) :: e) H) : QL P ro n F w0 M k ops (⟨some d, .binOp .rem t x y t', ty, pos, af, none⟩ :: rest) e H := ql_rem hx hy O hd (by rw [Int.tmod_eq_emod_of_nonneg h0]; exact h)
theorem dS {d t t' : Nat} {x y : Operand} {p q : Int} {ty : TypeId} {pos : String} {af : Array Edge} (hx : opv e x = some (.int .i64 p)) (hy : opv e y = some (.int .i64 q)) (hd : Nat.blt d n = true) (h0 : 0 ≤ p) (hq : 0 < q) (hp : p < 9223372036854775808)
  (h : QF P ro n F w0 M k ops Hq rest ((d, .int .i64 (p / q)) :: e) H) : QF P ro n F w0 M k ops Hq (⟨some d, .binOp .quo t x y t', ty, pos, af, none⟩ :: rest) e H := qf_quo hx hy O hd (by rw [tdiv_fit h0 hq hp]; exact h)
theorem bQ {d t t' : Nat} {x y : Operand} {p q : Int} {ty : TypeId} {pos : String} {af : Array Edge} (hx : opv e x = some (.int .i64 p)) (hy : opv e y = some (.int .i64 q)) (hd : Nat.blt d n = true) (h0 : 0 ≤ p) (hq : 0 < q)
  (h : QF P ro n F w0 M k ops Hq rest ((d, .int .i64 (p % q)) :: e) H) : QF P ro n F w0 M k ops Hq (⟨some d, .binOp .rem t x y t', ty, pos, af, none⟩ :: rest) e H := qf_rem hx hy O hd (by rw [Int.tmod_eq_emod_of_nonneg h0]; exact h)
theorem cE {d t : Nat} {parts : List (Nat × Operand)} {us : List Value} (cells : Array Value) {ty : TypeId} {pos : String} {af : Array Edge}
  (hp : qP e (parts.map (·.2)) = some us) (hb : P.built t ((parts.map (·.1)).zip us) = some cells) (hd : Nat.blt d n = true)
  (h : QL P ro n F w0 M k ops rest ((d, .agg cells) :: e) H) : QL P ro n F w0 M k ops (⟨some d, .build t parts.toArray, ty, pos, af, none⟩ :: rest) e H := .mk fun w hw => yl_mk cells hp hb hd (h w hw)
theorem lP {d t : Nat} {parts : List (Nat × Operand)} {us : List Value} (cells : Array Value) {ty : TypeId} {pos : String} {af : Array Edge}
  (hp : qP e (parts.map (·.2)) = some us) (hb : P.built t ((parts.map (·.1)).zip us) = some cells) (hd : Nat.blt d n = true)
  (h : QF P ro n F w0 M k ops Hq rest ((d, .agg cells) :: e) H) : QF P ro n F w0 M k ops Hq (⟨some d, .build t parts.toArray, ty, pos, af, none⟩ :: rest) e H := .mk fun w hw => yf_mk cells hp hb hd (h w hw)
theorem dP {d t len : Nat} {parts : List (Nat × Operand)} {us : List Value} (et : Nat) (cs : List Value) {ty : TypeId} {pos : String} {af : Array Edge}
  (hp : qP e (parts.map (·.2)) = some us) (hb : builtS P t len ((parts.map (·.1)).zip us) = some (et, cs.toArray)) (hd : Nat.blt d n = true)
  (h : ∀ b, QL P ro n F w0 M k ops rest ((d, .slice (some ⟨b, 0, none⟩) len len) :: e) (.pt b cs et :: H)) : QL P ro n F w0 M k ops (⟨some d, .buildSlice t len parts.toArray, ty, pos, af, none⟩ :: rest) e H :=
 .mk fun _ hs => yl_mkS et cs hp hb hd (fun w' hc hz hb => h _ w' (hs.addPt hc hz hb))
theorem cA {d t len : Nat} {parts : List (Nat × Operand)} {us : List Value} (et : Nat) (cs : List Value) {ty : TypeId} {pos : String} {af : Array Edge}
  (hp : qP e (parts.map (·.2)) = some us) (hb : builtS P t len ((parts.map (·.1)).zip us) = some (et, cs.toArray)) (hd : Nat.blt d n = true)
  (h : ∀ b, QF P ro n F w0 M k ops Hq rest ((d, .slice (some ⟨b, 0, none⟩) len len) :: e) (.pt b cs et :: H)) : QF P ro n F w0 M k ops Hq (⟨some d, .buildSlice t len parts.toArray, ty, pos, af, none⟩ :: rest) e H :=
 .mk fun _ hs => yf_mkS et cs hp hb hd (fun w' hc hz hb => have hs' := hs.addPt hc hz hb; ⟨(hs'.tail).right, h _ w' hs'⟩)

/-! append -/
theorem own_bd {w : World} {base e sz n : Nat} {v : Value} {xs : List Value} (h : w.ownsRow base e sz v n xs) : ∀ b, (Ck.ow v e sz n xs).D b → b < w.heap.size := by
 intro b hb
 simp only [Ck.D] at hb
 rcases h.2 with ⟨rfl, _⟩ | ⟨g, cap, cur, rfl, _, hh, _⟩
 ·cases hb
 ·cases hb
  exact (Array.getElem?_eq_some_iff.1 hh).1
theorem Sat.app {w w' : World} {v v' : Value} {et sz m q : Nat} {xs ys : List Value} {H' : List Ck} (hs : Sat w0 M H w) (hr : Rp H (.ow v et sz m xs) (.ow v' et sz q ys) H') (hc : Chg v.ownBlock.toList w w') (hb : w'.ownsRow 0 et sz v' q ys) (hn : ∀ b, v'.ownBlock = some b → v.ownBlock = some b ∨ w.heap.size ≤ b) : Sat w0 M H' w' :=
 hs.rep hr hc (fun k hk => by simpa [Ck.D] using hk) hb (fun x hx => ⟨hn x hx, own_bd hb x hx⟩)

theorem run_append_own2 {w : World} (t ty e : TypeId) (i : TypeInfo) (z : Value) (size bytes : Nat) (ht : P.underlying t = some (.slice e)) (hi : P.info? e = some i) (hz : i.zero = some z)
  (hsize : i.size = size) (hby : i.bytes = bytes) (hzs : z.cells.size = size) (hsz : 0 < size) (v : Value) (n : Nat) (xs : List Value) (hown : w.ownsRow 0 e size v n xs)
  (a : Addr) (m c : Nat) (news : List Value) (hl : news.length = m * size) (hnews : ∀ j u, news[j]? = some u → w.cell? (a.add j) = some u) (h1 : ∀ u ∈ news, u.oneCell' = true)
  (h63 : n + m ≤ maxLen) (hbytes : (n + m) * bytes ≤ 140737488355328) :
  ∃ v' w', (Builtin.append_ #[t, t] ty #[v, .slice (some a) m c]).run P w = .ok v' w' ∧ w'.ownsRow 0 e size v' (n + m) (xs ++ news) ∧ w.grownBy w' v.ownBlock ∧ (∀ b, v'.ownBlock = some b → v.ownBlock = some b ∨ w.heap.size ≤ b) := by
 obtain ⟨v', w', hr, ho, hg, _⟩ := run_append_own (P := P) w 0 t ty e i z size bytes ht hi hz hsize hby hzs hsz v n xs hown a m c news hl hnews h1 h63 hbytes (Nat.zero_le _)
 refine ⟨v', w', hr, ho, hg, ?_⟩
 rcases hown.2 with ⟨rfl, rfl⟩ | ⟨g, cap, cur, rfl, _, hgc, hnc, hcm, hcs, htake⟩
 ·have hx : xs = [] := List.eq_nil_of_length_eq_zero (by simpa using hown.1)
  subst hx
  obtain ⟨v2, w2, hr2, ho2, _, _⟩ := run_append_own (P := P) w w.heap.size t ty e i z size bytes ht hi hz hsize hby hzs hsz (.slice none 0 0) 0 [] (World.ownsRow_nil w w.heap.size e size) a m c news hl hnews h1 h63 hbytes (Nat.le_refl _)
  rw [hr] at hr2
  obtain ⟨rfl, rfl⟩ : v' = v2 ∧ w' = w2 := by simpa using hr2
  intro b hb
  rcases ho2.2 with ⟨rfl, _⟩ | ⟨g, cap, cur, rfl, hg2, _⟩
  ·cases hb
  ·cases hb
   exact .inr hg2
 ·subst hsize
  subst hby
  by_cases hroom : n + m ≤ cap
  ·have hfit : n * i.size + news.length ≤ cur.size := by rw [hl, hcs, ← Nat.add_mul]; exact Nat.mul_le_mul_right _ hroom
   have hr2 := run_append_room (P := P) w t ty e i ht hi g n cap cur hgc a m c news hl hnews h1 hroom hfit
   rw [hr] at hr2
   simp only [Result.ok.injEq] at hr2
   obtain ⟨rfl, _⟩ := hr2
   exact fun b hb => .inl hb
  ·have holds : ∀ j u, xs[j]? = some u → w.cell? ((⟨g, 0, none⟩ : Addr).add j) = some u := hown.cells (g := g) rfl
   simp only [maxLen] at h63
   have hr2 := run_append_grow (P := P) w t ty e i z ht hi hz ⟨g, 0, none⟩ n cap xs hown.1 holds a m c news hl hnews O O (growslice_fits O hbytes)
   rw [hr] at hr2
   simp only [Result.ok.injEq] at hr2
   obtain ⟨rfl, _⟩ := hr2
   intro b hb
   cases hb
   exact .inr (Nat.le_refl _)

theorem run_app {w : World} {t et size bytes : Nat} {z : Value} (hS : SlT P t et size bytes z) {v u : Value} {m : Nat} {xs news : List Value} {q lo hi : Nat} (ty : TypeId) (hown : w.ownsRow 0 et size v m xs) (hrd : Rd w lo hi u size q news) (h1 : ∀ c ∈ news, dY c = true)
  (hm : (m + q) * bytes ≤ 140737488355328) (hm2 : m + q ≤ 140737488355328) :
  ∃ v' w', (Builtin.append_ #[t, t] ty #[v, u]).run P w = .ok v' w' ∧ w'.ownsRow 0 et size v' (m + q) (xs ++ news) ∧ Chg v.ownBlock.toList w w' ∧ (∀ b, v'.ownBlock = some b → v.ownBlock = some b ∨ w.heap.size ≤ b) := by
 obtain ⟨ht, hi', hzs, hsz⟩ := hS
 cases hinf : P.info? et with
 | none => simp [hinf] at hi'
 | some i =>
  simp [hinf] at hi'
  obtain ⟨hz, hsize, hby⟩ := hi'
  obtain ⟨hl, hr⟩ := hrd
  have hr2 : (u = .slice none 0 0 ∧ q = 0) ∨ ∃ a cap, u = .slice (some a) q cap ∧ ∀ j c, news[j]? = some c → w.cell? (a.add j) = some c := by
   rcases hr with ⟨hu | ⟨a, cap, hu⟩, rfl⟩ | ⟨b, off, cap, hu, _, hc⟩
   ·exact .inl ⟨hu, Z⟩
   ·exact .inr ⟨a, cap, hu, fun j c hj => by rw [show news = [] by simpa using hl] at hj; simp at hj⟩
   ·refine .inr ⟨_, cap, hu, fun j c hj => ?_⟩
    have hjl := (List.getElem?_eq_some_iff.1 hj).1
    rw [Addr.add_lit, hc j hjl, hj]
  rcases hr2 with ⟨rfl, rfl⟩ | ⟨ad, cap, rfl, hc⟩
  ·have hrun := run_append_owned_none (P := P) (w := w) 0 t ty et i size ht hinf v m xs hown
   have : news = [] := by simpa using hl
   subst this
   exact ⟨v, w, hrun, by simpa using hown, Chg.refl _ _, fun b hb => .inl hb⟩
  ·have hone : ∀ c ∈ news, c.oneCell' = true := fun c hc' => by
    have := h1 c hc'
    cases c <;> first | rfl | simp [dY] at this
   obtain ⟨v', w', hrun, hown', hg, hn⟩ := run_append_own2 (P := P) t ty et i z size bytes ht hinf hz hsize hby hzs hsz v m xs hown ad q cap news hl hc hone (by simp only [maxLen]; omega) hm
   exact ⟨v', w', hrun, hown', grown_chg hg, hn⟩

/-- append to a slice of our own; what is appended can be read. -/
theorem eH {d t et size bytes : Nat} {z : Value} (hS : SlT P t et size bytes z) {x y : Operand} {v u : Value} {m : Nat} {xs news : List Value} {q : Nat} {H1 : Value → List Ck} {ty : TypeId} {pos : String} {af : Array Edge}
  (hx : opv e x = some v) (hy : opv e y = some u) (hd : Nat.blt d n = true) (hr : ∀ v', Rp H (.ow v et size m xs) (.ow v' et size (m + q) (xs ++ news)) (H1 v')) (hrd : ∀ w, Sat w0 M H w → ∃ lo hi, Rd w lo hi u size q news) (h1 : ∀ c ∈ news, dY c = true)
  (hm : (m + q) * bytes ≤ 140737488355328) (hm2 : m + q ≤ 140737488355328)
  (h : ∀ v', QL P ro n F w0 M k ops rest ((d, v') :: e) (H1 v')) :
  QL P ro n F w0 M k ops (⟨some d, .call { callee := .builtin .append, args := [x, y].toArray, argTypes := [t, t].toArray }, ty, pos, af, none⟩ :: rest) e H := .mk fun w hs => by
 obtain ⟨lo, hi, hrd⟩ := hrd w hs
 obtain ⟨v', w', hrun, ho, hc, hn⟩ := run_app hS ty (hs.mem (hr v).mem) hrd h1 hm hm2
 refine fZ (w' := w') (by simp) hd (fun a hf => ?_) (h v' w' (hs.app (hr v') hc ho hn))
 have e1 := hf.op hx
 have e2 := hf.op hy
 simp [execOp, resolve, invoke, builtin, e1, e2, hrun]

theorem eG {d t et size bytes : Nat} {z : Value} (hS : SlT P t et size bytes z) {x y : Operand} {v u : Value} {m : Nat} {xs news : List Value} {q : Nat} {H1 : Value → List Ck} {ty : TypeId} {pos : String} {af : Array Edge}
  (hx : opv e x = some v) (hy : opv e y = some u) (hd : Nat.blt d n = true) (hr : ∀ v', Rp H (.ow v et size m xs) (.ow v' et size (m + q) (xs ++ news)) (H1 v')) (hrd : ∀ w, Sat w0 M (H ++ Hq) w → ∃ lo hi, Rd w lo hi u size q news) (h1 : ∀ c ∈ news, dY c = true)
  (hm : (m + q) * bytes ≤ 140737488355328) (hm2 : m + q ≤ 140737488355328)
  (h : ∀ v', QF P ro n F w0 M k ops Hq rest ((d, v') :: e) (H1 v')) :
  QF P ro n F w0 M k ops Hq (⟨some d, .call { callee := .builtin .append, args := [x, y].toArray, argTypes := [t, t].toArray }, ty, pos, af, none⟩ :: rest) e H := .mk fun w hs => by
 obtain ⟨lo, hi, hrd⟩ := hrd w hs
 obtain ⟨v', w', hrun, ho, hc, hn⟩ := run_app hS ty (hs.mem ((hr v).app Hq).mem) hrd h1 hm hm2
 have hs' := hs.app ((hr v').app Hq) hc ho hn
 refine yf_eff (w' := w') Z hd (fun a hf => ?_) hs'.right (h v' w' hs')
 have e1 := hf.op hx
 have e2 := hf.op hy
 simp [execOp, resolve, invoke, builtin, e1, e2, hrun]

/-! Calls -/
/-- What a callee makes of the pieces that it is given, the others as they were. -/
theorem Sat.call {w w' : World} {L0 R L' : List Ck} {M' : Nat → Prop} (h : Sat w0 M (L0 ++ R) w) (g : Sat w M' L' w') (hM : ∀ b, M' b → ∃ c ∈ L0, c.D b) : Sat w0 M (L' ++ R) w' := by
 have hp := List.pairwise_append.1 h.sep
 have hbd : ∀ c ∈ R, ∀ b, c.D b → b < w.heap.size ∧ (M b ∨ w0.heap.size ≤ b) := fun c hc => h.bd c (List.mem_append_right _ hc)
 have hnM : ∀ c ∈ R, ∀ b, c.D b → ¬ M' b := fun c hc b hb hm => by
  obtain ⟨c0, h0, h1⟩ := hM b hm
  exact hp.2.2 c0 h0 c hc b h1 hb
 refine ⟨h.chg.upP g.chg (fun b hb => ?_), ?_, List.pairwise_append.2 ⟨g.sep, hp.2.1, ?_⟩, ?_⟩
 ·obtain ⟨c0, h0, h1⟩ := hM b hb
  exact (h.bd c0 (List.mem_append_left _ h0) b h1).2
 ·intro c hc
  rcases List.mem_append.1 hc with hc | hc
  ·exact g.all c hc
  ·exact Ck.st (h.all c (List.mem_append_right _ hc)) g.chg (fun b hb => hnM c hc b hb)
 ·intro c hc d hd b hb hb'
  rcases (g.bd c hc b hb).2 with h1 | h1
  ·exact hnM d hd b hb' h1
  ·have := (hbd d hd b hb').1
   omega
 ·intro c hc b hb
  rcases List.mem_append.1 hc with hc | hc
  ·refine ⟨(g.bd c hc b hb).1, ?_⟩
   rcases (g.bd c hc b hb).2 with h1 | h1
   ·obtain ⟨c0, h0, h2⟩ := hM b h1
    exact (h.bd c0 (List.mem_append_left _ h0) b h2).2
   ·exact .inr (Nat.le_trans h.chg.size h1)
  ·exact ⟨Nat.lt_of_lt_of_le (hbd c hc b hb).1 g.chg.size, (hbd c hc b hb).2⟩

/-- A call: the callee gets the pieces L0, whose blocks M' it may change, and hands back L'. -/
theorem bO (hT : T.Ok P) {t : Nat} {f : Operand} {ars : List Operand} {tys : Array TypeId} {ty : TypeId} {pos : String} {af : Array Edge} {g : Nat} {first caps : Array Value} {vs : List Value} {β : Type} {ψ : β → Value → Prop} {L' : β → List Ck}
  (L0 R : List Ck) (M' : Nat → Prop) (hf : opv e f = some (.func (.func g) first caps)) (hg : has T.fn g = true) (has_ : qP e ars = some vs) (ht : Nat.blt t n = true) (hH : Sp H (L0 ++ R)) (hM : ∀ b, M' b → ∃ c ∈ L0, c.D b)
  (hc : ∀ w, Sat w0 M (L0 ++ R) w → Ca P g (first.toList ++ vs ++ caps.toList) w fun v w' => ∃ x, ψ x v ∧ Sat w M' (L' x) w')
  (h : ∀ x v, ψ x v → QL P ro n F w0 M k ops rest ((t, v) :: e) (L' x ++ R)) :
  QL P ro n F w0 M k ops (⟨some t, .call { callee := .value f, args := ars.toArray, argTypes := tys }, ty, pos, af, none⟩ :: rest) e H := .mk fun w hs =>
 have hs1 := hs.sp hH
 jF hT hf hg has_ ht (hc w hs1) (fun v w' ⟨x, hx, hs'⟩ => h x v hx w' (hs1.call hs' hM))

/-- A call that changes nothing and makes nothing that is kept. -/
theorem aJ (hT : T.Ok P) {t : Nat} {f : Operand} {ars : List Operand} {tys : Array TypeId} {ty : TypeId} {pos : String} {af : Array Edge} {g : Nat} {first caps : Array Value} {vs : List Value} {val : Value}
  (hf : opv e f = some (.func (.func g) first caps)) (hg : has T.fn g = true) (has_ : qP e ars = some vs) (ht : Nat.blt t n = true)
  (hc : ∀ w, Sat w0 M H w → Ca P g (first.toList ++ vs ++ caps.toList) w fun v w' => v = val ∧ Chg [] w w')
  (h : QL P ro n F w0 M k ops rest ((t, val) :: e) H) :
  QL P ro n F w0 M k ops (⟨some t, .call { callee := .value f, args := ars.toArray, argTypes := tys }, ty, pos, af, none⟩ :: rest) e H := .mk fun w hs =>
 jF hT hf hg has_ ht (hc w hs) (fun v w' ⟨hv, hc'⟩ => by rw [hv]; exact h w' (hs.keep hc'))

theorem bD (hT : T.Ok P) {t : Nat} {f : Operand} {ars : List Operand} {tys : Array TypeId} {ty : TypeId} {pos : String} {af : Array Edge} {g : Nat} {first caps : Array Value} {vs : List Value} {β : Type} {ψ : β → Value → Prop} {L' : β → List Ck}
  (L0 R : List Ck) (M' : Nat → Prop) (hf : opv e f = some (.func (.func g) first caps)) (hg : has T.fn g = true) (has_ : qP e ars = some vs) (ht : Nat.blt t n = true) (hH : Sp H (L0 ++ R)) (hM : ∀ b, M' b → ∃ c ∈ L0, c.D b)
  (hc : ∀ w, Sat w0 M (L0 ++ (R ++ Hq)) w → Ca P g (first.toList ++ vs ++ caps.toList) w fun v w' => ∃ x, ψ x v ∧ Sat w M' (L' x) w')
  (h : ∀ x v, ψ x v → QF P ro n F w0 M k ops Hq rest ((t, v) :: e) (L' x ++ R)) :
  QF P ro n F w0 M k ops Hq (⟨some t, .call { callee := .value f, args := ars.toArray, argTypes := tys }, ty, pos, af, none⟩ :: rest) e H := .mk fun w hs => by
 have hs1 : Sat w0 M (L0 ++ (R ++ Hq)) w := by
  rw [← List.append_assoc]
  exact hs.sp (Sp.app hH Hq)
 refine yf_call hT hf hg has_ ht (hc w hs1) (fun v w' ⟨x, hx, hs'⟩ => ?_)
 have hs2 := hs1.call hs' hM
 exact ⟨hs2.right.right, h x v hx w' (by rw [List.append_assoc]; exact hs2)⟩

theorem aS (hT : T.Ok P) {t : Nat} {f : Operand} {ars : List Operand} {tys : Array TypeId} {ty : TypeId} {pos : String} {af : Array Edge} {g : Nat} {first caps : Array Value} {vs : List Value} {val : Value}
  (hf : opv e f = some (.func (.func g) first caps)) (hg : has T.fn g = true) (has_ : qP e ars = some vs) (ht : Nat.blt t n = true)
  (hc : ∀ w, Sat w0 M (H ++ Hq) w → Ca P g (first.toList ++ vs ++ caps.toList) w fun v w' => v = val ∧ Chg [] w w')
  (h : QF P ro n F w0 M k ops Hq rest ((t, val) :: e) H) :
  QF P ro n F w0 M k ops Hq (⟨some t, .call { callee := .value f, args := ars.toArray, argTypes := tys }, ty, pos, af, none⟩ :: rest) e H := .mk fun w hs =>
 yf_call hT hf hg has_ ht (hc w hs) (fun v w' ⟨hv, hc'⟩ => by rw [hv]; exact ⟨(hs.keep hc').right, h w' (hs.keep hc')⟩)

/-! Comparing -/
theorem ql_eqnil (hT : T.Ok P) {d t t' : Nat} {x y : Operand} {a : Option Addr} {m c m' c' : Nat} {ty : TypeId} {pos : String} {af : Array Edge} (h : has T.len t = true)
  (hx : opv e x = some (.slice a m c)) (hy : opv e y = some (.slice none m' c')) (hd : Nat.blt d n = true)
  (hk : QL P ro n F w0 M k ops rest ((d, .bool a.isNone) :: e) H) : QL P ro n F w0 M k ops (⟨some d, .binOp .eql t x y t', ty, pos, af, none⟩ :: rest) e H := .mk fun w hs => yl_eqnil hT h hx hy hd (hk w hs)
/-! The beginning and the end of a function -/
theorem dB {g : FuncId} {fn : Func} {c : Code} {args : List Value} {w : World} {R : Value → World → Prop} (hs : Sat w M H w) (hfn : P.funcs[g]? = some fn) (hb : fn.body = some c) (hn : args.length ≤ fn.ntmps)
  (h : Q P ⟨none, []⟩ fn.ntmps (fin P fn R) w M [.code c] (env0 0 args) H) : Ca P g args w R := ca_of hfn hb hn (h w hs)
theorem nJ {r : Option Nat} {fn : Func} {R : Value → World → Prop} {t : Nat} {v : Value} (hres : fn.results = #[.tmp t]) (hv : look e t = some v) (hR : ∀ w, Sat w0 M H w → R v w) : Q P ⟨r, []⟩ n (fun _ => fin P fn R .ret) w0 M [] e H := .mk fun w hs => jQ hres hv (hR w hs)
end
end Go.Eng

/- The engine, part B3: function values; ranges over functions. -/
namespace Go.Eng
open Go Go.RowKit

section
variable {P : Program} {T : Tab}

/-- A call of a function value: of a function, or of the yield of a loop. -/
def CaF (P : Program) (fv : Value) (args : List Value) (w : World) (R : Value → World → Prop) : Prop :=
 (∃ g first caps, fv = .func (.func g) first caps ∧ fnB P g = true ∧ Ca P g (first.toList ++ args ++ caps.toList) w R) ∨
 (∃ l f tmps assign body, fv = .func (.yield l) #[] #[] ∧ (Instr.yield l args.toArray).run P w = .ok (.round l f tmps assign body) w ∧ RdOk P l f tmps assign body w R)

theorem CaF.mono {fv : Value} {args : List Value} {w : World} {R R' : Value → World → Prop} (h : CaF P fv args w R) (hr : ∀ v w', R v w' → R' v w') : CaF P fv args w R' := by
 rcases h with ⟨g, fi, ca, h1, h2, h3⟩ | ⟨l, f, t, a, b, h1, h2, h3⟩
 ·exact .inl ⟨g, fi, ca, h1, h2, h3.mono hr⟩
 ·exact .inr ⟨l, f, t, a, b, h1, h2, fun r => (h3 r).mono fun e w' ⟨v, he, hR⟩ => ⟨v, he, hr _ _ hR⟩⟩

theorem CaF.of {g : Nat} {first caps : Array Value} {args : List Value} {w : World} {R : Value → World → Prop} (hT : T.Ok P) (hg : has T.fn g = true) (h : Ca P g (first.toList ++ args ++ caps.toList) w R) : CaF P (.func (.func g) first caps) args w R :=
 .inl ⟨g, first, caps, rfl, hT.fn _ hg, h⟩

theorem kE {g : Nat} (hg : fnB P g = true) (args : Array Value) (w : World) : (callFunc g args).run P w = .ok (.enter g args) w := by
 simp only [fnB] at hg
 split at hg
 ·rename_i fn hfn
  simp only [Bool.and_eq_true, Bool.not_eq_true'] at hg
  obtain ⟨hb, hn⟩ := hg
  have hn' : ¬ fn.name = "runtime.NumGoroutine" := by simpa using hn
  have hb2 : ¬ fn.body = none := by intro h0; rw [h0] at hb; cases hb
  simp [callFunc, hfn, hn', hb2]
 ·cases hg

variable {ro : Cx} {n : Nat} {F : Fin} {k : List It} {ops : Array Oper} {rest : List Oper} {e : Env} {w : World}

theorem yl_callF {dst : Option Nat} {f : Operand} {ars : List Operand} {tys : Array TypeId} {ty : TypeId} {pos : String} {af : Array Edge} {fv : Value} {vs : List Value} {R : Value → World → Prop}
  (hf : opv e f = some fv) (has_ : qP e ars = some vs) (hc : CaF P fv vs w R)
  (h : ∀ v w', R v w' → ∀ a, Fits n e a → a.defers = ro.ds → wpListIn (FR ro.ro) 0 P ops (S P ro.ro F k) rest (a.put dst v) w') :
  YL P ro n F k ops (⟨dst, .call { callee := .value f, args := ars.toArray, argTypes := tys }, ty, pos, af, none⟩ :: rest) e w := fun a hfit hd =>
 wpListIn_plain rfl fun K hK => by
  refine ⟨fun f _ => pL f, ?_⟩
  rw [Oper.semAt_eq _ _ _ (by simp)]
  have e1 := hfit.op hf
  have e2 := hfit.ops has_
  rcases hc with ⟨g, first, caps, rfl, hg, hc⟩ | ⟨l, f, tmps, assign, body, rfl, hrun, hc⟩
  ·have hrun : (execOp a.eval ⟨dst, .call { callee := .value f, args := ars.toArray, argTypes := tys }, ty, pos, af, none⟩).run P w = .ok (.enter g (first.toList ++ vs ++ caps.toList).toArray) w := by
    simp only [execOp, resolve, List.map_toArray, e1, e2, Deferred.ofValue]
    simp [invoke, kE hg]
   rw [hrun]
   refine ⟨fun hx => by simp [Fence.wide] at hx, mT (Calls.mono hc ?_)⟩
   rintro x w' ⟨v, rfl, hR⟩
   exact hK _ _ (h v w' hR a hfit hd)
  ·rename_i fop
   have hrun2 : (execOp a.eval ⟨dst, .call { callee := .value fop, args := ars.toArray, argTypes := tys }, ty, pos, af, none⟩).run P w = .ok (.round l f tmps assign body) w := by
    simp only [execOp, resolve, List.map_toArray, e1, e2, Deferred.ofValue]
    simp [invoke, hrun]
   rw [hrun2]
   refine ⟨fun hx => by simp [Fence.wide] at hx, RoundIn.mono (hc ro.ro) ?_⟩
   rintro x w' ⟨v, rfl, hR⟩
   exact hK _ _ (h v w' hR a hfit hd)

variable {w0 : World} {M : Nat → Prop} {H Hq : List Ck}

/-- A call of a function value. -/
theorem ql_callF {t : Nat} {f : Operand} {ars : List Operand} {tys : Array TypeId} {ty : TypeId} {pos : String} {af : Array Edge} {fv : Value} {vs : List Value} {β : Type} {ψ : β → Value → Prop} {L' : β → List Ck}
  (L0 R : List Ck) (M' : Nat → Prop) (hf : opv e f = some fv) (has_ : qP e ars = some vs) (ht : Nat.blt t n = true) (hH : Sp H (L0 ++ R)) (hM : ∀ b, M' b → ∃ c ∈ L0, c.D b)
  (hc : ∀ w, Sat w0 M (L0 ++ R) w → CaF P fv vs w fun v w' => ∃ x, ψ x v ∧ Sat w M' (L' x) w')
  (h : ∀ x v, ψ x v → QL P ro n F w0 M k ops rest ((t, v) :: e) (L' x ++ R)) :
  QL P ro n F w0 M k ops (⟨some t, .call { callee := .value f, args := ars.toArray, argTypes := tys }, ty, pos, af, none⟩ :: rest) e H := .mk fun w hs =>
 have hs1 := hs.sp hH
 yl_callF hf has_ (hc w hs1) (fun v w' ⟨x, hx, hs'⟩ a hfit hd => h x v hx w' (hs1.call hs' hM) _ (hfit.put v ht) (by simpa [Act.put] using hd))

theorem yf_callF {C : World → Prop} {t : Nat} {f : Operand} {ars : List Operand} {tys : Array TypeId} {ty : TypeId} {pos : String} {af : Array Edge} {fv : Value} {vs : List Value} {R : Value → World → Prop}
  (hf : opv e f = some fv) (has_ : qP e ars = some vs) (ht : Nat.blt t n = true) (hc : CaF P fv vs w R) (h : ∀ v w', R v w' → C w' ∧ YF P ro n F k ops C rest ((t, v) :: e) w') :
  YF P ro n F k ops C (⟨some t, .call { callee := .value f, args := ars.toArray, argTypes := tys }, ty, pos, af, none⟩ :: rest) e w := fun a hfit hd => by
 have e1 := hfit.op hf
 have e2 := hfit.ops has_
 have he : eff (.call { callee := .value f, args := ars.toArray, argTypes := tys }) = true := rfl
 rcases hc with ⟨g, first, caps, rfl, hg, hc⟩ | ⟨l, f, tmps, assign, body, rfl, hrun, hc⟩
 ·have hrun : (execOp a.eval ⟨some t, .call { callee := .value f, args := ars.toArray, argTypes := tys }, ty, pos, af, none⟩).run P w = .ok (.enter g (first.toList ++ vs ++ caps.toList).toArray) w := by
   simp only [execOp, resolve, List.map_toArray, e1, e2, Deferred.ofValue]
   simp [invoke, kE hg]
  simp only [gG, Region.wanted, if_true, he, bS, hrun]
  refine Calls.mono hc ?_
  rintro x w' ⟨v, rfl, hR⟩
  obtain ⟨h1, h2⟩ := h v w' hR
  exact ⟨v, Z, h1, h2 _ (hfit.put v ht) (by simpa [Act.put] using hd)⟩
 ·rename_i fop
  have hrun2 : (execOp a.eval ⟨some t, .call { callee := .value fop, args := ars.toArray, argTypes := tys }, ty, pos, af, none⟩).run P w = .ok (.round l f tmps assign body) w := by
   simp only [execOp, resolve, List.map_toArray, e1, e2, Deferred.ofValue]
   simp [invoke, hrun]
  have he2 : eff (.call { callee := .value fop, args := ars.toArray, argTypes := tys }) = true := rfl
  simp only [gG, Region.wanted, if_true, he2, bS, hrun2]
  refine RdOk.mono hc ?_
  intro v w' hR
  obtain ⟨h1, h2⟩ := h v w' hR
  exact ⟨h1, h2 _ (hfit.put v ht) (by simpa [Act.put] using hd)⟩

theorem qf_callF {t : Nat} {f : Operand} {ars : List Operand} {tys : Array TypeId} {ty : TypeId} {pos : String} {af : Array Edge} {fv : Value} {vs : List Value} {β : Type} {ψ : β → Value → Prop} {L' : β → List Ck}
  (L0 R : List Ck) (M' : Nat → Prop) (hf : opv e f = some fv) (has_ : qP e ars = some vs) (ht : Nat.blt t n = true) (hH : Sp H (L0 ++ R)) (hM : ∀ b, M' b → ∃ c ∈ L0, c.D b)
  (hc : ∀ w, Sat w0 M (L0 ++ (R ++ Hq)) w → CaF P fv vs w fun v w' => ∃ x, ψ x v ∧ Sat w M' (L' x) w')
  (h : ∀ x v, ψ x v → QF P ro n F w0 M k ops Hq rest ((t, v) :: e) (L' x ++ R)) :
  QF P ro n F w0 M k ops Hq (⟨some t, .call { callee := .value f, args := ars.toArray, argTypes := tys }, ty, pos, af, none⟩ :: rest) e H := .mk fun w hs => by
 have hs1 : Sat w0 M (L0 ++ (R ++ Hq)) w := by
  rw [← List.append_assoc]
  exact hs.sp (Sp.app hH Hq)
 refine yf_callF hf has_ ht (hc w hs1) (fun v w' ⟨x, hx, hs'⟩ => ?_)
 have hs2 := hs1.call hs' hM
 exact ⟨hs2.right.right, (h x v hx).h w' (by rw [List.append_assoc]; exact hs2)⟩

/-- .. that changes nothing and makes nothing that is kept. -/
theorem ql_callFv {t : Nat} {f : Operand} {ars : List Operand} {tys : Array TypeId} {ty : TypeId} {pos : String} {af : Array Edge} {fv : Value} {vs : List Value} {val : Value}
  (hf : opv e f = some fv) (has_ : qP e ars = some vs) (ht : Nat.blt t n = true)
  (hc : ∀ w, Sat w0 M H w → CaF P fv vs w fun v w' => v = val ∧ Chg [] w w')
  (h : QL P ro n F w0 M k ops rest ((t, val) :: e) H) :
  QL P ro n F w0 M k ops (⟨some t, .call { callee := .value f, args := ars.toArray, argTypes := tys }, ty, pos, af, none⟩ :: rest) e H := .mk fun w hs =>
 yl_callF hf has_ (hc w hs) (fun v w' ⟨hv, hc'⟩ a hfit hd => by rw [hv]; exact h w' (hs.keep hc') _ (hfit.put val ht) (by simpa [Act.put] using hd))

/-! Pieces as one -/
def DL (L : List Ck) (b : Nat) : Prop := ∃ c ∈ L, c.D b

theorem Sat.self {w : World} {A B : List Ck} (h : Sat w0 M (A ++ B) w) : Sat w (DL A) A w :=
 ⟨ChgP.refl _ _, fun c hc => h.all c (List.mem_append_left _ hc), (List.pairwise_append.1 h.sep).1, fun c hc b hb => ⟨(h.bd c (List.mem_append_left _ hc) b hb).1, .inl ⟨c, hc, hb⟩⟩⟩

/-- Some pieces taken for one. -/
def un (L : List Ck) : Ck := .gn (DL L) (fun w => (∀ c ∈ L, c.p w) ∧ L.Pairwise (fun (c d : Ck) => ∀ b : Nat, c.D b → ¬ d.D b) ∧ ∀ b, DL L b → b < w.heap.size)
 (fun _ _ _ ⟨h1, h2, h3⟩ hc hn => ⟨fun c hcL => Ck.st (h1 c hcL) hc (fun b hb => hn b ⟨c, hcL, hb⟩), h2, fun b hb => Nat.lt_of_lt_of_le (h3 b hb) hc.size⟩)

theorem Sat.un_iff {w : World} {L R : List Ck} : Sat w0 M (un L :: R) w ↔ Sat w0 M (L ++ R) w := by
 constructor
 ·intro h
  obtain ⟨h1, h2, h3⟩ := (h.all (un L) List.mem_cons_self : (un L).p w)
  have hp := List.pairwise_cons.1 h.sep
  refine ⟨h.chg, ?_, List.pairwise_append.2 ⟨h2, hp.2, fun c hc d hd b hb => hp.1 d hd b ⟨c, hc, hb⟩⟩, ?_⟩
  ·intro c hc
   rcases List.mem_append.1 hc with hc | hc
   ·exact h1 c hc
   ·exact h.all c (List.mem_cons_of_mem _ hc)
  ·intro c hc b hb
   rcases List.mem_append.1 hc with hc | hc
   ·exact h.bd (un L) List.mem_cons_self b ⟨c, hc, hb⟩
   ·exact h.bd c (List.mem_cons_of_mem _ hc) b hb
 ·intro h
  have hp := List.pairwise_append.1 h.sep
  refine ⟨h.chg, ?_, List.pairwise_cons.2 ⟨fun d hd b hb => ?_, hp.2.1⟩, ?_⟩
  ·intro c hc
   rcases List.mem_cons.1 hc with rfl | hc
   ·exact ⟨fun c hc => h.all c (List.mem_append_left _ hc), hp.1, fun b ⟨c, hc, hb⟩ => (h.bd c (List.mem_append_left _ hc) b hb).1⟩
   ·exact h.all c (List.mem_append_right _ hc)
  ·obtain ⟨c, hc, hb⟩ := hb
   exact hp.2.2 c hc d hd b hb
  ·intro c hc b hb
   rcases List.mem_cons.1 hc with rfl | hc
   ·obtain ⟨c, hc, hb⟩ := hb
    exact h.bd c (List.mem_append_left _ hc) b hb
   ·exact h.bd c (List.mem_append_right _ hc) b hb

/-! Iterators -/
/-- At the world w the function gf, with what it has captured, is an iterator over xs; the body changes nothing but what lies in D. -/
def ItOk {α : Type} (P : Program) (gf : Nat) (lb : List Value) (enc : α → List Value) (xs : List α) (w : World) (D : Nat → Prop) : Prop :=
 ∀ (fv : Value) (σ : Type) (L : σ → List Ck) (I : List α → σ → Prop) (E : σ → Prop) (s0 : σ), I [] s0 → (∀ b, DL (L s0) b → D b) → Sat w (DL (L s0)) (L s0) w →
  (∀ pre x post s w', xs = pre ++ x :: post → I pre s → Sat w (DL (L s0)) (L s) w' → CaF P fv (enc x) w' (fun v w'' => ∃ s', ((v = .bool true ∧ I (pre ++ [x]) s') ∨ (v = .bool false ∧ E s')) ∧ Sat w' (DL (L s)) (L s') w'')) →
  Ca P gf (fv :: lb) w (fun _ w' => ∃ s', (I xs s' ∨ E s') ∧ Sat w (DL (L s0)) (L s') w')

def mark (D : Nat) : Deferred := { target := .collected D, args := #[] }

/-- A block that is o, and another one. -/
def obj2 (l : Nat) (o : Obj) (D : Nat) (o' : Obj) : Ck := .gn (fun b => b = l ∨ b = D) (fun w => w.heap[l]? = some o ∧ w.heap[D]? = some o')
 (fun _ _ _ ⟨h1, h2⟩ hc hn => ⟨(hc.block l (Array.getElem?_eq_some_iff.1 h1).1 (hn l (.inl rfl))).trans h1, (hc.block D (Array.getElem?_eq_some_iff.1 h2).1 (hn D (.inr rfl))).trans h2⟩)
def dfr (D : Nat) : Ck := .gn (· = D) (fun w => w.heap[D]? = some (.deferred (some [])))
 (fun _ _ _ h hc hn => (hc.block D (Array.getElem?_eq_some_iff.1 h).1 (hn D rfl)).trans h)

theorem jL (w : World) (l : Nat) (o : Obj) : Chg [l] w (w.putObj l o) :=
 ⟨rfl, rfl, rfl, by simp, fun k _ hn => World.putObj_heap_other (by simpa using hn)⟩

theorem Sat.obj2 {w : World} {l D : Nat} {o o' o2 : Obj} {R : List Ck} (h : Sat w0 M (obj2 l o D o' :: R) w) (hne : D ≠ l) : Sat w0 M (Eng.obj2 l o2 D o' :: R) (w.putObj l o2) := by
 have hp : w.heap[l]? = some o ∧ w.heap[D]? = some o' := h.all _ List.mem_cons_self
 refine h.rep .z (jL w l o2) (fun k hk => .inl (by simpa using hk)) ⟨World.putObj_heap_same (Array.getElem?_eq_some_iff.1 hp.1).1, (World.putObj_heap_other hne).trans hp.2⟩ (fun b hb => ⟨.inl hb, ?_⟩)
 rw [World.putObj_size]
 exact (h.bd _ List.mem_cons_self b hb).1

theorem Fits.fold {n : Nat} {ds : List Deferred} : ∀ (l : List (Nat × Value)) (e : Env) (tmps : Array Value) (ds' : List Deferred), Fits n e { tmps := tmps, defers := ds' } → (l.all fun p => Nat.blt p.1 n) = true →
  Fits n (l.foldl (fun e p => p :: e) e) { tmps := l.foldl (fun t p => t.setIfInBounds p.1 p.2) tmps, defers := ds }
 | [], e, tmps, ds', h, _ => ⟨h.size, h.at_⟩
 | p :: l, e, tmps, ds', h, hl => by
  simp only [List.all_cons, Bool.and_eq_true] at hl
  exact Fits.fold l (p :: e) (tmps.setIfInBounds p.1 p.2) ds' (h.put (t := p.1) p.2 hl.1) hl.2

/-- **for .. := range g { .. }**, at an outermost loop. -/
theorem q_range {ds : List Deferred} {g : Operand} {ps : List Nat} {assign body : Code} {gf : Nat} {lb : Array Value} {α : Type} (enc : α → List Value) (σ : Type) (xs : List α) (I : List α → σ → Prop) (E : Code → σ → Prop) (Hb : σ → List Ck) (R : List Ck) (s0 : σ)
  (hg : opv e g = some (.func (.func gf) #[] lb)) (hfn : fnB P gf = true) (hps : (ps.all fun p => Nat.blt p n) = true) (hlen : ∀ x ∈ xs, (enc x).length = ps.length) (hI0 : I [] s0) (hH : Sp H (Hb s0 ++ R))
  (it : ∀ w D, Sat w0 M (Hb s0 ++ R) w → (∀ b, D b → ¬ DL R b ∧ (M b ∨ w0.heap.size ≤ b)) → ItOk P gf lb.toList enc xs w D)
  (round : ∀ pre x post s w l (rdy bsy : Ck) (K : Act → World → Prop) (F' : Fin), xs = pre ++ x :: post → I pre s → Sat w0 M (Hb s ++ R) w → (∀ w', ChgP (DL (rdy :: Hb s)) w w' → Sat w0 M R w') →
   (∀ e' H', Q P ⟨some l, []⟩ n F' w (DL (rdy :: Hb s)) [.code body] e' (bsy :: H') → Q P ⟨some l, []⟩ n (fun _ _ _ => False) w (DL (rdy :: Hb s)) [.k K] e' (rdy :: H')) →
   (∀ e' H' s', I (pre ++ [x]) s' → Sp H' (bsy :: Hb s') → Q P ⟨some l, []⟩ n F' w (DL (rdy :: Hb s)) [] e' H') →
   (∀ e' H' s', E .ret s' → Sp H' (bsy :: Hb s') → Q P ⟨some l, []⟩ n (fun _ => F' .ret) w (DL (rdy :: Hb s)) [] e' H') →
   (∀ id e' H' s', E (.exit id) s' → Sp H' (bsy :: Hb s') → Q P ⟨some l, []⟩ n (fun _ => F' (.exit id)) w (DL (rdy :: Hb s)) [] e' H') →
   Q P ⟨some l, []⟩ n (fun _ _ _ => False) w (DL (rdy :: Hb s)) [.code assign, .k K] ((ps.zip (enc x)).foldl (fun e p => p :: e) e) (rdy :: Hb s))
  (done : ∀ D s, I xs s → Q P ⟨none, mark D :: ds⟩ n F w0 M k e (dfr D :: (Hb s ++ R)))
  (stops : ∀ D s c, E c s → Q P ⟨none, mark D :: ds⟩ n F w0 M (.code c :: k) e (dfr D :: (Hb s ++ R))) :
  Q P ⟨none, ds⟩ n F w0 M (.code (.rangeFunc g ps.toArray assign body) :: k) e H := .mk fun w hsH a hfit hd => by
 have hs := hsH.sp hH
 have eg := hfit.op hg
 show (Code.rangeFunc g ps.toArray assign body).wpIn (FR none) 0 P (S P none F k) a w
 refine wpIn_rangeFunc ?_
 intro fn hfnF
 obtain ⟨rec, hrec⟩ : ∃ rec : LoopState → Option Code → Loop, rec = fun st pe => { state := st, pending := pe, fn, tmps := a.tmps, params := ps.toArray, assign, body, defers := w.heap.size } := ⟨_, rfl⟩
 have hW1 : (Instr.enterLoop fn a.tmps ps.toArray assign body none).run P w = .ok (w.heap.size + 1, [mark w.heap.size]) ((w.alloc (.deferred (some []))).alloc (.loop (rec .ready none))) := by
  rw [hrec]
  exact run_enterLoop_outer _ _ _ _ _
 generalize hl : w.heap.size + 1 = l at hW1
 generalize hD : w.heap.size = D at hW1
 have hne : D ≠ l := by omega
 have hs1 : Sat w0 M (obj2 l (.loop (rec .ready none)) D (.deferred (some [])) :: (Hb s0 ++ R)) ((w.alloc (.deferred (some []))).alloc (.loop (rec .ready none))) := by
  refine hs.add ((eQ _ _).trans (eQ _ _)) ⟨?_, ?_⟩ (fun b hb => ?_)
  ·have := World.alloc_heap_new (w.alloc (.deferred (some []))) (.loop (rec .ready none))
   rw [World.size_alloc, hl] at this
   exact this
  ·have h1 := (eQ (w.alloc (.deferred (some []))) (.loop (rec .ready none))).block w.heap.size (by simp) (by simp)
   rw [← hD, h1]
   exact World.alloc_heap_new w _
  ·simp only [World.size_alloc]
   rcases hb with rfl | rfl <;> omega
 generalize hWW : (w.alloc (.deferred (some []))).alloc (.loop (rec .ready none)) = W1 at hW1 hs1
 refine ⟨l, [mark D], W1, { target := .fn (.func gf) lb, args := #[.func (.yield l) #[] #[]] }, W1, gf, #[.func (.yield l) #[] #[]] ++ lb, W1, hW1, ?_, fun f _ => pL f, ?_, fun hx => by simp [Fence.wide] at hx, ?_⟩
 ·simp only [resolve, eg]
  simp [go_sem]
 ·simp [invoke, kE hfn]
 -- the iterator, over the states 'running' and 'stopped'
 let L : σ ⊕ (σ × Code) → List Ck := fun
  | .inl s => obj2 l (.loop (rec .ready none)) D (.deferred (some [])) :: Hb s
  | .inr (s, c) => obj2 l (.loop (rec .done (some c))) D (.deferred (some [])) :: Hb s
 have hit := it W1 (DL (L (.inl s0))) hs1.tail (fun b ⟨c, hc, hb⟩ => by
  have hp := List.pairwise_append.1 (show ((obj2 l (.loop (rec .ready none)) D (.deferred (some [])) :: Hb s0) ++ R).Pairwise _ from hs1.sep)
  exact ⟨fun ⟨c', hc', hb'⟩ => hp.2.2 c hc c' hc' b hb hb', (hs1.bd c (List.mem_append_left R hc) b hb).2⟩)
 have hself : Sat W1 (DL (L (.inl s0))) (L (.inl s0)) W1 := Sat.self (A := L (.inl s0)) (B := R) hs1
 have hcall := hit (.func (.yield l) #[] #[]) (σ ⊕ (σ × Code)) L (fun pre st => ∃ s, st = .inl s ∧ I pre s) (fun st => ∃ s c, st = .inr (s, c) ∧ E c s) (.inl s0) ⟨s0, rfl, hI0⟩ (fun _ h => h) hself ?_
 ·have hargs : #[Value.func (.yield l) #[] #[]] ++ lb = (Value.func (.yield l) #[] #[] :: lb.toList).toArray := by
   apply Array.ext'
   simp
  rw [hargs]
  refine mT (Calls.mono hcall ?_)
  rintro x w' ⟨v, rfl, st, hst, hs'⟩
  have hs2 : Sat w0 M (L st ++ R) w' := Sat.call (L0 := L (.inl s0)) hs1 hs' (fun b hb => hb)
  have hdfr : ∀ {o : Obj} {s : σ} {w2 : World}, Sat w0 M (obj2 l o D (.deferred (some [])) :: (Hb s ++ R)) w2 → Sat w0 M (dfr D :: (Hb s ++ R)) w2 := fun {o s w2} h =>
   h.rep .z (Chg.refl [] _) (by simp) (h.all _ List.mem_cons_self : (obj2 l o D (.deferred (some []))).p w2).2 (fun b hb => ⟨.inl (.inr hb), (h.bd _ List.mem_cons_self b (.inr hb)).1⟩)
  rcases hst with ⟨s, rfl, hI⟩ | ⟨s, c, rfl, hE⟩
  ·have hp : w'.heap[l]? = some (.loop (rec .ready none)) ∧ _ := hs2.all _ List.mem_cons_self
   have hr := run_endLoop (P := P) hp.1 (by rw [hrec]; simp)
   rw [show (rec .ready none).pending = none by rw [hrec]] at hr
   refine ⟨none, _, hr, ?_⟩
   exact done D s hI _ (hdfr (Sat.obj2 hs2 hne)) _ ⟨hfit.size, hfit.at_⟩ (by rw [hd]; rfl)
  ·have hp : w'.heap[l]? = some (.loop (rec .done (some c))) ∧ _ := hs2.all _ List.mem_cons_self
   have hr := run_endLoop (P := P) hp.1 (by rw [hrec]; simp)
   rw [show (rec .done (some c)).pending = some c by rw [hrec]] at hr
   refine ⟨some c, _, hr, ?_⟩
   exact stops D s c hE _ (hdfr (Sat.obj2 hs2 hne)) _ ⟨hfit.size, hfit.at_⟩ (by rw [hd]; rfl)
 ·rintro pre x post st w2 hx ⟨s, rfl, hI⟩ hs2
  have hp : w2.heap[l]? = some (.loop (rec .ready none)) ∧ _ := hs2.all _ List.mem_cons_self
  have hy := run_yield (P := P) (args := (enc x).toArray) hp.1 (by rw [hrec]; simpa using hlen x (by rw [hx]; simp))
  refine .inr ⟨l, _, _, _, _, Z, hy, fun r => ?_⟩
  rw [hrec]
  have hfull : Sat w0 M (L (.inl s) ++ R) w2 := Sat.call (L0 := L (.inl s0)) hs1 hs2 (fun b hb => hb)
  let F' : Fin := fun ex a w' => roundPost P l (fun e w'' => ∃ v, e = .returned v ∧ ∃ st', ((v = .bool true ∧ ∃ s, st' = .inl s ∧ I (pre ++ [x]) s) ∨ (v = .bool false ∧ ∃ s c, st' = .inr (s, c) ∧ E c s)) ∧ Sat w2 (DL (L (.inl s))) (L st') w'') ex a w'
  let K : Act → World → Prop := fun a1 w1 => ∃ w3, (Instr.beginRound l).run P w1 = .ok () w3 ∧ body.wpIn ((FR r).inRound l) 0 P F' a1 w3
  have hend : ∀ (j : Option Code) (s' : σ) (w4 : World), Sat w2 (DL (L (.inl s))) (obj2 l (.loop (rec .busy none)) D (.deferred (some [])) :: Hb s') w4 →
    ∃ v w5, (Instr.endRound l j).run P w4 = .ok v w5 ∧ v = .bool j.isNone ∧ Sat w2 (DL (L (.inl s))) (obj2 l (.loop (rec (if j.isNone then .ready else .done) j)) D (.deferred (some [])) :: Hb s') w5 := by
   intro j s' w4 h4
   have hp4 : w4.heap[l]? = some (.loop (rec .busy none)) ∧ _ := h4.all _ List.mem_cons_self
   have hr := run_endRound (P := P) j hp4.1
   refine ⟨_, _, hr, Z, ?_⟩
   have h5 := Sat.obj2 (o2 := .loop (rec (if j.isNone then .ready else .done) j)) h4 hne
   rw [hrec] at h5 ⊢
   exact h5
  have key := round pre x post s w2 l (obj2 l (.loop (rec .ready none)) D (.deferred (some []))) (obj2 l (.loop (rec .busy none)) D (.deferred (some []))) K F' hx hI hfull.tail
   (fun w' hc => ?_) (fun e' H' hb => .mk fun w1 hw1 a1 hf1 hd1 => ?_) (fun e' H' s' hI' hsp => .mk fun w4 hw4 a4 hf4 hd4 => ?_) (fun e' H' s' hE' hsp => .mk fun w4 hw4 a4 hf4 hd4 => ?_) (fun id e' H' s' hE' hsp => .mk fun w4 hw4 a4 hf4 hd4 => ?_)
  ·have h1 := key w2 (Sat.self (A := L (.inl s)) (B := R) hfull) _ (Fits.fold (ds := []) (ps.zip (enc x)) e a.tmps a.defers hfit (List.all_eq_true.2 fun p hp => List.all_eq_true.1 hps p.1 (List.of_mem_zip hp).1)) rfl
   refine roundIn_of_wpIn (pL _) ?_
   have h2 : assign.wpIn ((FR r).inRound l) 0 P (Exit.then K (fun _ _ _ => False)) { tmps := (ps.zip (enc x)).foldl (fun t p => t.setIfInBounds p.1 p.2) a.tmps, defers := [] } w2 := h1
   simpa [K, F'] using h2
  ·have hp3 := List.pairwise_append.1 hfull.sep
   refine ⟨hfull.chg.upP hc (fun b ⟨c, hc, hb⟩ => (hfull.bd c (List.mem_append_left _ hc) b hb).2), fun c hcR => Ck.st (hfull.all c (List.mem_append_right _ hcR)) hc (fun b hb ⟨c', hc', hb'⟩ => hp3.2.2 c' hc' c hcR b hb' hb), hp3.2.1, fun c hcR b hb => ?_⟩
   have := hfull.bd c (List.mem_append_right _ hcR) b hb
   exact ⟨Nat.lt_of_lt_of_le this.1 hc.size, this.2⟩
  ·have hp1 : w1.heap[l]? = some (.loop (rec .ready none)) ∧ _ := hw1.all _ List.mem_cons_self
   have hr := run_beginRound (P := P) hp1.1 (by rw [hrec])
   refine ⟨_, hr, ?_⟩
   have h3 := Sat.obj2 (o2 := .loop (rec .busy none)) hw1 hne
   have h4 := hb _ h3 a1 hf1 hd1
   rw [hrec]
   rw [hrec] at h4
   exact h4
  ·obtain ⟨v, w5, hr, hv, h5⟩ := hend none s' w4 (hw4.sp hsp)
   exact ⟨v, w5, hr, v, Z, .inl s', .inl ⟨hv, s', Z, hI'⟩, h5⟩
  ·obtain ⟨v, w5, hr, hv, h5⟩ := hend (some .ret) s' w4 (hw4.sp hsp)
   exact ⟨v, w5, hr, v, Z, .inr (s', .ret), .inr ⟨hv, s', .ret, Z, hE'⟩, h5⟩
  ·obtain ⟨v, w5, hr, hv, h5⟩ := hend (some (.exit id)) s' w4 (hw4.sp hsp)
   exact ⟨v, w5, hr, v, Z, .inr (s', .exit id), .inr ⟨hv, s', .exit id, Z, hE'⟩, h5⟩

/-! A function whose activation bears marks -/
def finM (P : Program) (fn : Func) (R : Value → World → Prop) : Fin := bodyPostM (FR none) 0 P fn fun e w' => ∃ v, e = .returned v ∧ R v w'

theorem q_ofM {g : FuncId} {fn : Func} {c : Code} {args : List Value} {w : World} {R : Value → World → Prop} (hs : Sat w M H w) (hfn : P.funcs[g]? = some fn) (hb : fn.body = some c) (hn : args.length ≤ fn.ntmps)
  (h : Q P ⟨none, []⟩ fn.ntmps (finM P fn R) w M [.code c] (env0 0 args) H) : Ca P g args w R := by
 refine (callsIn_wide (n := 0)).1 (callsIn_of_wp_marks hfn hb trivial ?_ Z)
 have h1 := h w hs { tmps := args.toArray ++ Array.replicate (fn.ntmps - args.toArray.size) undef, defers := [] } ⟨by simp; omega, fun t v ht => ?_⟩ rfl
 ·exact h1
 ·obtain ⟨_, h2⟩ := look_env0 args 0 t v ht
  simp at h2
  have hlt : t < args.length := (List.getElem?_eq_some_iff.1 h2).1
  have h3 : args[t] = v := by rw [List.getElem?_eq_getElem hlt] at h2; exact Option.some.inj h2
  simp [Array.getD_eq_getD_getElem?, Array.getElem?_append, hlt, h3]

theorem leaves_nil {fn : Func} {tmps : Array Value} {R : Ending → World → Prop} {w : World} {v : Value} (hr : (results fn tmps).run P w = .ok v w) (hR : R (.returned v) w) : LeavesInM (FR none) 0 P fn tmps R [] .returning w := by
 show LeavesIn (FR none) 0 P fn tmps R [] .returning w
 exact ⟨v, hr, hR⟩

/-- The end of a function with no mark on the way that it took. -/
theorem q_finM0 {fn : Func} {R : Value → World → Prop} {v : Value} (hr : ∀ a w, Fits n e a → Sat w0 M H w → (results fn a.tmps).run P w = .ok v w) (hR : ∀ w, Sat w0 M H w → R v w) : Q P ⟨none, []⟩ n (fun _ => finM P fn R .ret) w0 M [] e H := .mk fun w hs a hf hd => by
 show LeavesInM (FR none) 0 P fn a.tmps _ a.defers .returning w
 rw [show a.defers = [] from hd]
 exact leaves_nil (hr a w hf hs) ⟨v, Z, hR w hs⟩
/-- .. with one mark. -/
theorem q_finM1 {D : Nat} {fn : Func} {R : Value → World → Prop} {v : Value} {H' : List Ck} (hH : Rm H (dfr D) H') (hr : ∀ a w, Fits n e a → Sat w0 M H' w → (results fn a.tmps).run P w = .ok v w) (hR : ∀ w, Sat w0 M H' w → R v w) : Q P ⟨none, [mark D]⟩ n (fun _ => finM P fn R .ret) w0 M [] e H := .mk fun w hs a hf hd => by
 show LeavesInM (FR none) 0 P fn a.tmps _ a.defers .returning w
 rw [show a.defers = [mark D] from hd]
 have h1 : Sat w0 M (dfr D :: H') w := hs.perm hH.perm
 have hp : w.heap[D]? = some (.deferred (some [])) := h1.all _ List.mem_cons_self
 have h2 : Sat w0 M H' (w.putObj D (.deferred none)) := by
  have hsep := List.pairwise_cons.1 h1.sep
  refine ⟨h1.chg.up (jL w D _) (fun b hb => ?_), fun c hc => Ck.st (h1.all c (List.mem_cons_of_mem _ hc)) (jL w D _).P (fun b hb hm => ?_), hsep.2, fun c hc b hb => ?_⟩
  ·simp at hb
   subst hb
   exact (h1.bd _ List.mem_cons_self b Z).2
  ·simp at hm
   subst hm
   exact hsep.1 c hc b Z hb
  ·rw [World.putObj_size]
   exact h1.bd c (List.mem_cons_of_mem _ hc) b hb
 refine ⟨by simp, .inl ⟨D, _, Z, run_takeDeferred hp, ?_⟩⟩
 exact leaves_nil (hr a _ hf h2) ⟨v, Z, hR _ h2⟩
end
end Go.Eng

/- The engine, part B4: what a function hands back. -/
namespace Go.Eng
open Go Go.RowKit

section
variable {P : Program} {T : Tab}
variable {ro : Cx} {n : Nat} {F : Fin} {w0 : World} {M : Nat → Prop} {k : List It} {ops : Array Oper} {rest : List Oper} {e : Env} {H Hq : List Ck}

/-- What the results hold. -/
inductive RVs (T : Tab) (e : Env) (H : List Ck) : List ResultVar → List Value → Prop where
 | nil : RVs T e H [] []
 | tmp {t : Nat} {v : Value} {rs : List ResultVar} {vs : List Value} : look e t = some v → RVs T e H rs vs → RVs T e H (.tmp t :: rs) (v :: vs)
 | cellA {t ty m b : Nat} {us : List Value} {bt : TypeId} {rs : List ResultVar} {vs : List Value} : look e t = some (.pointer (some ⟨b, 0, none⟩)) → fU T.agg ty = some m → Ck.pt b us bt ∈ H → us.length = m → RVs T e H rs vs → RVs T e H (.cell t ty :: rs) (.agg us.toArray :: vs)
 | cell1 {t ty b : Nat} {v : Value} {bt : TypeId} {rs : List ResultVar} {vs : List Value} : look e t = some (.pointer (some ⟨b, 0, none⟩)) → has T.one ty = true → Ck.pt b [v] bt ∈ H → RVs T e H rs vs → RVs T e H (.cell t ty :: rs) (v :: vs)

def fT : List Value → Value
 | [v] => v
 | vs => .tuple vs.toArray

theorem mapM_run {α : Type} {f : α → Sem Value} {x : α} {xs : List α} {v : Value} {vs : List Value} {w : World} (h1 : (f x).run P w = .ok v w) (h2 : (xs.mapM f).run P w = .ok vs w) : ((x :: xs).mapM f).run P w = .ok (v :: vs) w := by
 rw [List.mapM_cons]
 simp only [Sem.run_bind, h1, Result.andThen_ok, h2]
 rfl

/-- One result. -/
def resOne (tmps : Array Value) : ResultVar → Sem Value
 | .tmp t => pure (tmps.getD t undef)
 | .cell a t => do loadVar t (← asAddr (tmps.getD a undef))

theorem rvs_run (hT : T.Ok P) {rs : List ResultVar} {vs : List Value} (h : RVs T e H rs vs) {a : Act} (hf : Fits n e a) {w : World} (hs : Sat w0 M H w) :
  (rs.mapM (resOne a.tmps)).run P w = .ok vs w := by
 induction h with
 | nil => rfl
 | tmp hl _ ih =>
  have h1 := hf.at_ _ _ hl
  exact mapM_run (by simp only [resOne, h1]; rfl) ih
 | @cellA t ty m b us bt rs vs hl ht hm hlen _ ih =>
  have h1 := hf.at_ _ _ hl
  have h2 := run_loadAB (P := P) (w := w) hT ht (hs.mem hm) hlen
  exact mapM_run (by simp only [resOne, h1]; simp [asAddr, h2]) ih
 | @cell1 t ty b v bt rs vs hl ht hm _ ih =>
  have h1 := hf.at_ _ _ hl
  have h2 : (loadVar ty ⟨b, 0, none⟩).run P w = .ok v w := by
   obtain ⟨r1, _⟩ := one_run hT ht w
   have hc := Blk.cell (hs.mem hm) 0
   simp [loadVar, r1, load, Sem.run, hc]
  exact mapM_run (by simp only [resOne, h1]; simp [asAddr, h2]) ih

theorem jX (hT : T.Ok P) {fn : Func} {rs : List ResultVar} {vs : List Value} (hres : fn.results = rs.toArray) (h : RVs T e H rs vs) {a : Act} (hf : Fits n e a) {w : World} (hs : Sat w0 M H w) :
  (results fn a.tmps).run P w = .ok (fT vs) w := by
 have h1 := rvs_run hT h hf hs
 have e1 : results fn a.tmps = (do
   let vs ← fn.results.mapM (resOne a.tmps)
   pure (if h : vs.size = 1 then vs[0] else .tuple vs)) := by
  unfold results
  congr 1
 rw [e1, hres, List.mapM_toArray]
 have h2 : (Functor.map List.toArray (rs.mapM (resOne a.tmps))).run P w = .ok vs.toArray w := by
  rw [map_eq_pure_bind]
  simp only [Sem.run_bind, h1, Result.andThen_ok]
  rfl
 simp only [Sem.run_bind, h2]
 rcases vs with _ | ⟨v, _ | ⟨u, vs⟩⟩ <;> simp [fT, Result.andThen]

theorem aX (hT : T.Ok P) {r : Option Nat} {fn : Func} {R : Value → World → Prop} {rs : List ResultVar} {vs : List Value} (hres : fn.results = rs.toArray) (h : RVs T e H rs vs) (hR : ∀ w, Sat w0 M H w → R (fT vs) w) : Q P ⟨r, []⟩ n (fun _ => fin P fn R .ret) w0 M [] e H :=
 .mk fun w hs => y_fin (fun a hf => jX hT hres h hf hs) (hR w hs)
theorem q_end (hT : T.Ok P) {r : Option Nat} {fn : Func} {R : Value → World → Prop} {rs : List ResultVar} {vs : List Value} (hres : fn.results = rs.toArray) (h : RVs T e H rs vs) (hR : ∀ w, Sat w0 M H w → R (fT vs) w) : Q P ⟨r, []⟩ n (fin P fn R) w0 M [] e H :=
 .mk fun w hs _ hf hd => ⟨hd, fT vs, jX hT hres h hf hs, _, rfl, hR w hs⟩
/-- .. of an activation that may bear a mark. -/
theorem q_finM (hT : T.Ok P) {fn : Func} {R : Value → World → Prop} {rs : List ResultVar} {vs : List Value} (hres : fn.results = rs.toArray) (h : RVs T e H rs vs) (hR : ∀ w, Sat w0 M H w → R (fT vs) w) : Q P ⟨none, []⟩ n (fun _ => finM P fn R .ret) w0 M [] e H :=
 q_finM0 (fun _ _ hf hs => jX hT hres h hf hs) hR
theorem q_finMD (hT : T.Ok P) {D : Nat} {fn : Func} {R : Value → World → Prop} {rs : List ResultVar} {vs : List Value} {H' : List Ck} (hH : Rm H (dfr D) H') (hres : fn.results = rs.toArray) (h : RVs T e H' rs vs) (hR : ∀ w, Sat w0 M H' w → R (fT vs) w) : Q P ⟨none, [mark D]⟩ n (fun _ => finM P fn R .ret) w0 M [] e H :=
 q_finM1 hH (fun _ _ hf hs => jX hT hres h hf hs) hR
theorem iQ {C1 C2 : World → Prop} {K : Act → World → Prop} : ∀ (l : List Oper) (bs : List Bool), (∀ x ∈ bs, x = false) → ∀ (a : Act) (w : World), gG P ops C2 K l a w → mJ P ops C1 C2 K bs l a w
 | [], _, _, _, _, h => by simpa [gG, mJ] using h
 | o :: l, bs, hb, a, w, h => by
  have h0 : bs.headD false = false := by
   cases bs with
   | nil => rfl
   | cons x bs => exact hb x List.mem_cons_self
  have h1 : ∀ x ∈ bs.tail, x = false := fun x hx => hb x (List.mem_of_mem_tail hx)
  simp only [gG] at h
  simp only [mJ, h0, cond_false]
  by_cases hw : Region.wanted o (yielded ops a.tmps) = true
  ·simp only [hw, if_true] at h ⊢
   by_cases he : eff o.op = true
   ·simp only [he, if_true] at h ⊢
    exact h.mono fun v w' ⟨g1, g2⟩ => ⟨g1, iQ l _ h1 _ _ g2⟩
   ·simp only [he] at h ⊢
    obtain ⟨v, hv, g2⟩ := h
    exact ⟨v, hv, iQ l _ h1 _ _ g2⟩
  ·simp only [hw] at h ⊢
   exact iQ l _ h1 _ _ h

theorem Chg.old {w w1 w' : World} {D : Nat → Prop} (h : Chg [] w w1) (g : ChgP D w1 w') (hD : ∀ b, D b → w.heap.size ≤ b) : Chg [] w w' := (h.P0.upP g (fun k hk => .inr (hD k hk))).none

theorem Sat.un1 {w : World} {L : List Ck} : Sat w0 M [un L] w ↔ Sat w0 M L w := by
 have h := Sat.un_iff (w0 := w0) (M := M) (w := w) (L := L) (R := [])
 rwa [List.append_nil] at h

/-- What is known of the body, at a call of yield. -/
theorem yieldF {α σ : Type} {enc : α → List Value} {xs : List α} {w : World} {fv : Value} {L : σ → List Ck} {I : List α → σ → Prop} {E : σ → Prop} {s0 : σ}
  (hcb : ∀ pre x post s w', xs = pre ++ x :: post → I pre s → Sat w (DL (L s0)) (L s) w' → CaF P fv (enc x) w' (fun v w'' => ∃ s', ((v = .bool true ∧ I (pre ++ [x]) s') ∨ (v = .bool false ∧ E s')) ∧ Sat w' (DL (L s)) (L s') w''))
  {pre : List α} {x : α} {post : List α} {s : σ} (hx : xs = pre ++ x :: post) (hI : I pre s) {R : List Ck} : ∀ w', Sat w (DL (L s0)) ([un (L s)] ++ R) w' →
   CaF P fv (enc x) w' (fun v w'' => ∃ s', ((v = .bool true ∧ I (pre ++ [x]) s') ∨ (v = .bool false ∧ E s')) ∧ Sat w' (DL (L s)) [un (L s')] w'') := fun w' hs => by
 have h1 : Sat w (DL (L s0)) (L s) w' := (Sat.un_iff.1 hs).sp (by
  have := Sp.refl (L s)
  have key : ∀ (A B : List Ck), Sp (A ++ B) A := by
   intro A B
   induction A with
   | nil => exact .nil
   | cons a A ih => exact .cons .z ih
  exact key _ _)
 exact (hcb pre x post s w' hx hI h1).mono fun v w'' ⟨s', h2, h3⟩ => ⟨s', h2, Sat.un1.2 h3⟩

/-- A region that draws, whose first c operations stand ahead of all that changes Hm. -/
theorem gW {id : Nat} {l : List Oper} (c : Nat) (Hq2 Hm : List Ck) (hH : Sp H (Hm ++ Hq2)) (hm : P.follows .mixedOrders = true) (hB : flB l.toArray = true)
  (hbs : flagB l.toArray (List.replicate c true ++ List.replicate (l.length - c) false) = true)
  (h : ∀ K1 : Act → World → Prop, (∀ e' H' Hm', Sp H' (Hm' ++ Hq2) → QF P ro n F w0 M k l.toArray Hq2 (l.drop c) e' Hm' → Q P ro n F w0 M (.k K1 :: k) e' H') → QF P ro n F w0 M (.k K1 :: k) l.toArray H (l.take c) e []) :
  Q P ro n F w0 M (.code (.region id l.toArray true) :: k) e H := .mk fun w hs a hf hd => by
 have hs1 : Sat w0 M H { w with drawn := w.drawn + 1 } := hs.keep (Chg.drew (N := []) w)
 have h12 : ∀ w, Sat w0 M H w → Sat w0 M Hq2 w := fun w hw => (hw.sp hH).right
 let bs := List.replicate c true ++ List.replicate (l.length - c) false
 refine lY hm (flB_spec hB) (K := fun a w => S P ro.ro F k .normal a w) (Cq := gB (Sat w0 M H) (Sat w0 M Hq2) bs) (Ce := gB (Sat w0 M H) (Sat w0 M Hq2) bs)
  (fun i j oi oj => flagB_spec hbs h12 i j oi oj) (fun i => ?_) (fun _ _ h => h) ?_
 ·unfold gB
  cases bs.getD i false
  ·exact h12 _ hs1
  ·exact hs1
 ·have h2 := wpFlB_eq (P := P) (ops := l.toArray) (C1 := Sat w0 M H) (C2 := Sat w0 M Hq2) (bs := bs) (K := fun a w => S P ro.ro F k .normal a w) l 0 (by simp)
  rw [show List.range l.toArray.size = List.range' 0 l.length from by simp [List.range_eq_range'], h2]
  refine yb_seg (P := P) (ro := ro) (n := n) (F := F) (k := k) (C1 := Sat w0 M H) (C2 := Sat w0 M Hq2) (bs := bs) (l := l) true c (by simp [bs]) (by simp [bs]) (fun K1 hK1 => ?_) a hf hd
  have h3 := h K1 (fun e' H' Hm' hsp hq => .mk fun w' hw' a' hf' hd' => ?_)
  ·exact h3 _ (by simpa using hs1)
  ·refine hK1 e' w' (fun a2 hf2 hd2 => ?_) a' hf' hd'
   have h4 : bs.drop c = List.replicate (l.length - c) false := by simp [bs]
   rw [h4]
   exact iQ _ _ (by simp) a2 w' (hq w' (hw'.sp hsp) a2 hf2 hd2)
end
end Go.Eng

/- What the engine reads off the program: offsets of fields, sizes of elements, which types have one cell. Written by gentab.py. -/
namespace Go.Proofs.YtohlillcaadidaaGreat
open Go Go.Eng
def tab : Tab where
 foff := [((25, 0), 0), ((25, 1), 1), ((25, 2), 2), ((25, 3), 3), ((25, 4), 4), ((25, 5), 5), ((25, 6), 6), ((25, 7), 7), ((32, 0), 0), ((32, 1), 1), ((34, 0), 0), ((34, 1), 1), ((34, 2), 2), ((34, 3), 3), ((34, 4), 4), ((34, 5), 5), ((34, 6), 6), ((34, 7), 7), ((36, 0), 0), ((36, 1), 1), ((56, 0), 0), ((56, 1), 1), ((56, 2), 2), ((56, 3), 3), ((74, 0), 0), ((74, 1), 1), ((78, 0), 0), ((78, 1), 1), ((78, 2), 2), ((99, 0), 0), ((110, 0), 0), ((110, 1), 1), ((110, 2), 2), ((110, 3), 3), ((113, 0), 0), ((113, 1), 1), ((113, 2), 5), ((124, 0), 0), ((124, 1), 1), ((124, 2), 2), ((124, 3), 3), ((141, 0), 0)]
 esz := [(22, (3, 1)), (23, (22, 1)), (26, (32, 2)), (61, (60, 1)), (100, (36, 2)), (116, (100, 1)), (157, (3, 1)), (158, (3, 1)), (159, (157, 5))]
 one := [3, 4, 22, 23, 26, 60, 84, 97, 100, 103, 105, 111, 116, 134, 144, 146]
 agg := [(25, 8), (32, 2), (34, 8), (36, 2), (56, 4), (74, 2), (78, 3), (99, 1), (110, 4), (113, 6), (124, 4), (141, 8), (157, 5), (158, 5), (159, 25)]
 len := [22, 23, 26, 61, 100, 116]
 iks := []
 fn := [2, 3, 4, 5, 6, 7, 8, 9, 10, 11, 12, 13, 14, 15, 16, 17, 18, 19, 20, 21, 22, 23, 24, 25, 26, 27, 28, 29, 30, 31, 32, 33, 34, 35, 36, 37, 38, 39, 40, 41, 42, 43, 44, 45, 46, 47, 48, 49, 50, 51, 52, 53, 54, 55, 56, 57, 58, 59, 60, 61, 62, 63, 64, 65, 66, 67, 68, 69, 70, 71, 72, 73, 74, 75, 76, 77, 78, 79, 80, 81, 82, 83, 84, 85, 86, 87, 88, 89, 90, 91, 92, 93, 94, 95, 96, 97, 98, 99, 100, 101, 102, 103, 104, 105, 106, 107, 108, 109, 110, 111, 112, 113, 114, 115, 116, 117, 118, 119, 120, 121, 122, 123, 124, 125, 126, 127, 128, 129, 130, 131, 132, 133]
theorem tab_check : tab.ok Tryz.prog = true := by kernel_rfl
theorem V : tab.Ok Tryz.prog := Tab.ok_spec tab_check
theorem nE : ZeroOf Tryz.prog 3 (.int .i64 0) := ⟨by kernel_rfl⟩
theorem zero4 : ZeroOf Tryz.prog 4 (.bool false) := ⟨by kernel_rfl⟩
theorem zero22 : ZeroOf Tryz.prog 22 (.slice none 0 0) := ⟨by kernel_rfl⟩
theorem cU : ZeroOf Tryz.prog 25 (.agg #[.int .i64 0, .int .i64 0, .int .i64 0, .int .i64 0, .slice none 0 0, .slice none 0 0, .slice none 0 0, .slice none 0 0]) := ⟨by kernel_rfl⟩
theorem qI : ZeroOf Tryz.prog 32 (.agg #[.int .i64 0, .int .i64 0]) := ⟨by kernel_rfl⟩
theorem dV : ZeroOf Tryz.prog 34 (.agg #[.int .i64 0, .int .i64 0, .int .i64 0, .int .i64 0, .slice none 0 0, .slice none 0 0, .slice none 0 0, .slice none 0 0]) := ⟨by kernel_rfl⟩
theorem cO : ZeroOf Tryz.prog 36 (.agg #[.int .i64 0, .int .i64 0]) := ⟨by kernel_rfl⟩
theorem zero56 : ZeroOf Tryz.prog 56 (.agg #[.int .i64 0, .int .i64 0, .int .i64 0, .int .i64 0]) := ⟨by kernel_rfl⟩
theorem hU : ZeroOf Tryz.prog 74 (.agg #[.bool false, .int .i64 0]) := ⟨by kernel_rfl⟩
theorem fB : ZeroOf Tryz.prog 78 (.agg #[.int .i64 0, .int .i64 0, .int .i64 0]) := ⟨by kernel_rfl⟩
theorem zero84 : ZeroOf Tryz.prog 84 (.pointer none) := ⟨by kernel_rfl⟩
theorem zero105 : ZeroOf Tryz.prog 105 (.pointer none) := ⟨by kernel_rfl⟩
theorem zero110 : ZeroOf Tryz.prog 110 (.agg #[.int .i64 0, .int .i64 0, .int .i64 0, .int .i64 0]) := ⟨by kernel_rfl⟩
theorem zero116 : ZeroOf Tryz.prog 116 (.slice none 0 0) := ⟨by kernel_rfl⟩
theorem fS : ZeroOf Tryz.prog 124 (.agg #[.int .i64 0, .int .i64 0, .int .i64 0, .int .i64 0]) := ⟨by kernel_rfl⟩
theorem zero134 : ZeroOf Tryz.prog 134 (.nilFunc) := ⟨by kernel_rfl⟩
theorem zero144 : ZeroOf Tryz.prog 144 (.nilFunc) := ⟨by kernel_rfl⟩
theorem zero157 : ZeroOf Tryz.prog 157 (.agg #[.int .i64 0, .int .i64 0, .int .i64 0, .int .i64 0, .int .i64 0]) := ⟨by kernel_rfl⟩
theorem zero158 : ZeroOf Tryz.prog 158 (.agg #[.int .i64 0, .int .i64 0, .int .i64 0, .int .i64 0, .int .i64 0]) := ⟨by kernel_rfl⟩
theorem zero159 : ZeroOf Tryz.prog 159 (.agg #[.int .i64 0, .int .i64 0, .int .i64 0, .int .i64 0, .int .i64 0, .int .i64 0, .int .i64 0, .int .i64 0, .int .i64 0, .int .i64 0, .int .i64 0, .int .i64 0, .int .i64 0, .int .i64 0, .int .i64 0, .int .i64 0, .int .i64 0, .int .i64 0, .int .i64 0, .int .i64 0, .int .i64 0, .int .i64 0, .int .i64 0, .int .i64 0, .int .i64 0]) := ⟨by kernel_rfl⟩
end Go.Proofs.YtohlillcaadidaaGreat

/- A range, as data. -/
namespace Go.Proofs.YtohlillcaadidaaGreat
open Go Go.Eng

/-- A range. -/
structure Rg where
 radius : Int
 unit : Int
 clicks : Int
 total : Int
 group : List Int
 drifts : List Int
 first : List Int
 next : List (List Int)

/-- Lists of lists that can be read. -/
def RdII (w : World) (lo hi : Nat) (v : Value) (ll : List (List Int)) : Prop :=
 ∃ vs, RdE w lo hi v 1 vs ∧ vs.length = ll.length ∧ ∀ i (h : i < vs.length) (h' : i < ll.length), RdI w lo hi vs[i] ll[i]

theorem RdII.keep {w w' : World} {lo hi : Nat} {v : Value} {ll : List (List Int)} (h : RdII w lo hi v ll) (c : Chg [] w w') : RdII w' lo hi v ll := by
 obtain ⟨vs, h1, h2, h3⟩ := h
 exact ⟨vs, h1.keep c, h2, fun i hi hi' => (h3 i hi hi').keep c⟩
theorem RdII.outI {w : World} {lo hi : Nat} {v : Value} {ll : List (List Int)} (h : RdII w lo hi v ll) : ∃ a cap, v = .slice a ll.length cap ∧ (0 < ll.length → ∃ b off, a = some ⟨b, off, none⟩) := by
 obtain ⟨vs, h1, h2, h3⟩ := h
 have := RdE.out h1
 rwa [h2] at this
/-- One row. -/
theorem RdII.row {w : World} {lo hi : Nat} {b off len cap : Nat} {ll : List (List Int)} (h : RdII w lo hi (.slice (some ⟨b, off, none⟩) len cap) ll) (i : Nat) (hi' : i < ll.length) :
  ∃ a c, RdI w lo hi (.slice a ll[i].length c) ll[i] ∧ ∀ w', Chg [] w w' → w'.cell? ⟨b, off + i * 1, none⟩ = some (.slice a ll[i].length c) := by
 obtain ⟨vs, h1, h2, h3⟩ := h
 have h4 := h3 i O hi'
 obtain ⟨a, c, hv, _⟩ := RdI.outI h4
 refine ⟨a, c, hv ▸ h4, fun w' hw' => ?_⟩
 rw [RdE.cell1 (h1.keep hw') i O (by rw [hv]; rfl), hv]

/-- The cells of a range, and what its lists hold. -/
def RgC (w : World) (cs : List Value) (r : Rg) : Prop :=
 ∃ lo hi ag cg ad cd af cf an cn, cs = [.int .i64 r.radius, .int .i64 r.unit, .int .i64 r.clicks, .int .i64 r.total, .slice ag r.group.length cg, .slice ad r.drifts.length cd, .slice af r.first.length cf, .slice an r.next.length cn] ∧
  RdI w lo hi (.slice ag r.group.length cg) r.group ∧ RdI w lo hi (.slice ad r.drifts.length cd) r.drifts ∧ RdI w lo hi (.slice af r.first.length cf) r.first ∧ RdII w lo hi (.slice an r.next.length cn) r.next

theorem RgC.keep {w w' : World} {cs : List Value} {r : Rg} (h : RgC w cs r) (c : Chg [] w w') : RgC w' cs r := by
 obtain ⟨lo, hi, ag, cg, ad, cd, af, cf, an, cn, h1, h2, h3, h4, h5⟩ := h
 exact ⟨lo, hi, ag, cg, ad, cd, af, cf, an, cn, h1, RdE.keep h2 c, RdE.keep h3 c, RdE.keep h4 c, h5.keep c⟩

/-- A desk, in block b. -/
def DkAt (w : World) (b : Nat) (r : Rg) : Prop := ∃ cs t, Blk w b cs t ∧ RgC w cs r
theorem DkAt.keep {w w' : World} {b : Nat} {r : Rg} (h : DkAt w b r) (c : Chg [] w w') : DkAt w' b r := by
 obtain ⟨cs, t, h1, h2⟩ := h
 exact ⟨cs, t, h1.keep c, h2.keep c⟩

/-- From lo to hi. -/
def inB (n lo hi : Int) : Bool := decide (lo ≤ n) && decide (n ≤ hi)
theorem bH {n lo hi : Int} : inB n lo hi = true ↔ lo ≤ n ∧ n ≤ hi := by simp [inB]

/-- The sizes that a range can have. -/
structure Rg.Small (r : Rg) : Prop where
 group : r.group.length ≤ 24
 drifts : r.drifts.length ≤ 7
 first : r.first.length ≤ 7
 next : r.next.length ≤ 7
 rows : ∀ l ∈ r.next, l.length ≤ 7

/-- A right range. -/
structure Rg.Right (r : Rg) : Prop where
 g1 : 1 ≤ r.group.length
 g2 : r.group.length ≤ 21
 odd : r.group.length % 2 = 1
 d1 : 1 ≤ r.drifts.length
 d2 : r.drifts.length ≤ 5
 first : r.first.length = r.drifts.length
 next : r.next.length = r.drifts.length
 rows : ∀ l ∈ r.next, l.length = r.drifts.length
 radius : 0 ≤ r.radius ∧ r.radius ≤ 200
 unit : 1 ≤ r.unit ∧ r.unit ≤ 20
 clicks : 0 ≤ r.clicks ∧ r.clicks ≤ 6
 total : 1 ≤ r.total ∧ r.total ≤ 12
 drift : ∀ x ∈ r.drifts, -300 ≤ x ∧ x ≤ 300
 weight : ∀ x ∈ r.group, 0 ≤ x ∧ x ≤ 100
 chance : ∀ x ∈ r.first, 0 ≤ x ∧ x ≤ r.total
 chances : ∀ l ∈ r.next, ∀ x ∈ l, 0 ≤ x ∧ x ≤ r.total
 gsum : 1 ≤ r.group.sum ∧ r.group.sum ≤ 100
 fsum : r.first.sum = r.total
 nsum : ∀ l ∈ r.next, l.sum = r.total

end Go.Proofs.YtohlillcaadidaaGreat

/- Walks: wind's small functions. -/
namespace Go.Proofs.YtohlillcaadidaaGreat
open Go Go.Eng

theorem fW (n lo hi : Int) (w : World) : Ca Tryz.prog 39 [.int .i64 n, .int .i64 lo, .int .i64 hi] w fun v w' => v = .bool (inB n lo hi) ∧ Chg [] w w' := by
 refine dB (Sat.nil w M0) Tryz.func39 Z (by simp [Tryz.ntmps39]) ?_
 (refine aE (aB (aA V Z Z (aF (aE (aB ?_))))); (iterate 4 refine aA V Z Z ?_))
 refine bU Z Z (fun hc => ?_) (fun hc => ?_)
 ·(refine aC Z (aA V Z Z (aC Z (aA V Z Z (aC Z ?_)))); (iterate 3 refine aA V Z Z ?_); refine aF (aW ?_))
  exact nJ Z Z fun w' hs => ⟨by simp at hc; simp [inB, hc], hs.chg0⟩
 ·((iterate 3 refine bA Z Z Z ?_); refine aA V Z Z (aA V Z Z (aF (aW ?_))))
  exact nJ Z Z fun w' hs => ⟨by simp at hc; simp [inB]; omega, hs.chg0⟩

theorem sum_bd {c : Int} : ∀ (l : List Int), (∀ x ∈ l, -c ≤ x ∧ x ≤ c) → -(c * l.length) ≤ l.sum ∧ l.sum ≤ c * l.length
 | [], _ => by simp
 | x :: l, h => by
  have h1 := sum_bd l (fun y hy => h y (List.mem_cons_of_mem _ hy))
  have h2 := h x List.mem_cons_self
  have e : c * ((x :: l).length : Int) = c * l.length + c := by simp [Int.mul_add]
  rw [e, List.sum_cons]
  omega
theorem kL {c : Int} {m : Nat} (l : List Int) (k : Nat) (h : ∀ x ∈ l, -c ≤ x ∧ x ≤ c) (hl : l.length ≤ m) (hc : 0 ≤ c) : -(c * m) ≤ (l.take k).sum ∧ (l.take k).sum ≤ c * m := by
 have h1 := sum_bd (l.take k) (fun x hx => h x (List.mem_of_mem_take hx))
 have h2 : c * (l.take k).length ≤ c * m := Int.mul_le_mul_of_nonneg_left (by rw [List.length_take]; omega) hc
 omega
theorem iA (l : List Int) (k : Nat) (hk : k < l.length) : (l.take (k + 1)).sum = (l.take k).sum + l[k] := by
 rw [List.take_succ_eq_append_getElem hk, List.sum_append]
 simp

theorem sum_ca (w : World) (lo hi : Nat) (v : Value) (l : List Int) (h : RdI w lo hi v l) (hlen : l.length < 1000000) (hb : ∀ x ∈ l, -1000000 ≤ x ∧ x ≤ 1000000) :
  Ca Tryz.prog 81 [v] w fun r w' => r = .int .i64 l.sum ∧ Chg [] w w' := by
 obtain ⟨a, cap, rfl, hs⟩ := h.outI
 refine dB (Sat.nil w M0) Tryz.func81 Z (by simp [Tryz.ntmps81]) ?_
 (refine aE (aB (aA V Z Z (aF (aE (aB (aA V Z Z (aF (aE (aE (aB ?_)))))))))); (iterate 3 refine aA V Z Z ?_); refine aF (aP ?_))
 refine bN (σ := Nat) (fun k => k ≤ l.length) (fun k => l.length - k) (fun k => [(3, .int .i64 (l.take k).sum), (6, .slice a l.length cap), (7, .int .i64 l.length), (8, .int .i64 k)]) (fun _ => []) 0 O ⟨Z, Z, Z, Z, trivial⟩ .nil ?_
 intro k hk K hK
 (refine aE (aB (aA V Z Z (aF (aE ?_)))))
 refine dD Z (fun hc => ?_) (fun hc => ?_)
 ·have hk : k < l.length := by omega
  obtain ⟨b, off, rfl⟩ := hs O
  (refine aR (aE (aP (aE (aB ?_)))))
  have h1 := kL l k hb (show l.length ≤ 1000000 by omega) O
  have h2 := hb l[k] (List.getElem_mem hk)
  (refine bW V Z Z Z Z Z O O ?_; refine cI V Z Z Z (fun w hs => RdI.at (h.keep hs.chg0) k hk) ?_)
  (refine aA V Z Z (aF (aB (aA V Z Z (aA V Z Z (bB V Z Z Z Z O O (aA V Z Z (aF (bL (aB (bB V Z Z Z Z O O (aA V Z Z ?_))))))))))); refine aF ?_)
  exact hK (k + 1) _ _ O O ⟨by rw [iA l k hk]; rfl, Z, Z, Z, trivial⟩ U
 ·obtain rfl : k = l.length := by omega
  (refine bJ _ Z (aE (aB (aA V Z Z (aA V Z Z (aF (aW ?_)))))))
  exact nJ Z Z fun w' hs => ⟨by rw [List.take_length], hs.chg0⟩

theorem nC (w : World) (b : Nat) (r : Rg) (hd : DkAt w b r) (hr : r.Right) : Ca Tryz.prog 85 [.pointer (some ⟨b, 0, none⟩)] w fun v w' => v = .int .i64 r.group.sum ∧ Chg [] w w' := by
 obtain ⟨cs, bt, hblk, lo, hi, ag, cg, ad, cd, af, cf, an, cn, rfl, hg, hdr, hf, hn⟩ := hd
 refine dB (Sat.nil w M0) Tryz.func85 Z (by simp [Tryz.ntmps85]) ?_
 (refine aE (aB (aA V Z Z (aF (aE (aB ?_))))); (iterate 4 refine aA V Z Z ?_); refine eN V Z Z Z (by assumption) (by rfl) ?_)
 (refine aJ V Z Z Z Z (fun w hs => sum_ca w lo hi _ r.group (hg.keep hs.chg0) (by have := hr.g2; omega) (fun x hx => by have := hr.weight x hx; omega)) ?_)
 (refine aA V Z Z (aF (aW ?_)))
 exact nJ Z Z fun w' hs => ⟨Z, hs.chg0⟩

/-- An impact hits. -/
def hitB (r : Rg) (n : Int) : Bool := inB n (-r.radius) r.radius

theorem hits_ca (w : World) (b : Nat) (r : Rg) (n : Int) (hd : DkAt w b r) (hr : 0 ≤ r.radius ∧ r.radius ≤ 200) : Ca Tryz.prog 90 [.pointer (some ⟨b, 0, none⟩), .int .i64 n] w fun v w' => v = .bool (hitB r n) ∧ Chg [] w w' := by
 obtain ⟨cs, bt, hblk, lo, hi, ag, cg, ad, cd, af, cf, an, cn, rfl, hg, hdr, hf, hn⟩ := hd
 refine dB (Sat.nil w M0) Tryz.func90 Z (by simp [Tryz.ntmps90]) ?_
 (refine aE (aB (aA V Z Z (aF (aE ?_)))))
 refine bX _ [] (Sp.refl _) qR qR ?_
 ((iterate 5 refine aD V Z Z Z ?_); refine dO V Z Z Z (by assumption) (by rfl) ?_; refine qf_neg V Z Z O O ?_; (iterate 4 refine aD V Z Z Z ?_); refine dO V Z Z Z (by assumption) (by rfl) ?_)
 refine aS V Z Z Z Z (fun w hs => fW n (-r.radius) r.radius w) ?_
 (refine aD V Z Z Z (aK (aW ?_)))
 exact nJ Z Z fun w' hs => ⟨Z, hs.chg0⟩

end Go.Proofs.YtohlillcaadidaaGreat
