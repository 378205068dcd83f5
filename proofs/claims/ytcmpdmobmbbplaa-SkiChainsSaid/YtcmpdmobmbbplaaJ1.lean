/- My texts A1, A2, A3, A4, A5, A6, A7, A8, A9, Num, Lib1, Lib2, B1, B2, B3, B4, Tab, W0, W1, W2, joined: a claim takes at most 60 files. -/
import Derived.CallsIn
import Derived.OrdersIn
import Derived.Tactics
import Derived.RangeFuncIn
import Derived.LoopNIn
import Derived.RowKit3
import Derived.Below
import Derived.TacticsIn
import Derived.Laws.OwnMore
import Derived.OwnWalk
import Derived.Scope
import Derived.WalkSpells
import Derived.Great.BuildSlice
import Derived.KernelRfl
import Derived.RangeFuncRecord
import Derived.Test.YtcmpdmobmbbplaaProg

/- The engine, part 1 (with deferred marks): an environment of known slots, a stack of code that is left, and the rules that step through it. -/
namespace Go.Eng
open Go

/-- Known slots. The first entry of a slot counts. -/
abbrev Env := List (Nat × Value)

def look : Env → Nat → Option Value
  | [], _ => none
  | (t, v) :: e, s => bif Nat.beq t s then some v else look e s

def opv (e : Env) : Operand → Option Value
  | .tmp t => look e t
  | .const v => some v
  | .global g => some (.pointer (some ⟨g, 0, none⟩))
  | .func f => some (.func (.func f) #[] #[])

/-- The frame agrees with the environment. -/
structure Fits (n : Nat) (e : Env) (a : Act) : Prop where
  size : a.tmps.size = n
  at_ : ∀ t v, look e t = some v → a.tmps.getD t undef = v

theorem Fits.op {n : Nat} {e : Env} {a : Act} (h : Fits n e a) {x : Operand} {v : Value} (hx : opv e x = some v) : a.eval x = v := by
  cases x with
  | tmp t => exact h.at_ t v hx
  | const u => simpa [opv, Act.eval] using hx
  | global g => simpa [opv, Act.eval] using hx
  | func f => simpa [opv, Act.eval] using hx

theorem Fits.put {n : Nat} {e : Env} {a : Act} (h : Fits n e a) {t : Nat} (v : Value) (ht : Nat.blt t n = true) : Fits n ((t, v) :: e) (a.put (some t) v) := by
  have ht' : t < n := by simpa [Nat.blt_eq] using ht
  refine ⟨by simp [Act.put, h.size], fun s u hs => ?_⟩
  simp only [look] at hs
  by_cases hst : t = s
  · subst hst
    simp at hs
    subst hs
    simp [Act.put, Array.getD, h.size, ht']
  · have : Nat.beq t s = false := by
      cases hb : Nat.beq t s
      · rfl
      · exact absurd (Nat.eq_of_beq_eq_true hb) hst
    rw [this] at hs
    have := h.at_ s u hs
    simpa [Act.put, Array.getElem?_setIfInBounds_ne hst] using this

/-- What a smaller environment knows. -/
def Sub : Env → Env → Prop
  | [], _ => True
  | (t, v) :: l, e => look e t = some v ∧ Sub l e

theorem Sub.look {l e : Env} (h : Sub l e) {t : Nat} {v : Value} (ht : Eng.look l t = some v) : Eng.look e t = some v := by
  induction l with
  | nil => simp [Eng.look] at ht
  | cons p l ih =>
    obtain ⟨s, u⟩ := p
    simp only [Eng.look] at ht
    cases hb : Nat.beq s t with
    | true =>
      rw [hb] at ht
      simp at ht
      have := Nat.eq_of_beq_eq_true hb
      subst this; subst ht
      exact h.1
    | false =>
      rw [hb] at ht
      exact ih h.2 ht

theorem Fits.sub {n : Nat} {e l : Env} {a : Act} (h : Fits n e a) (hs : Sub l e) : Fits n l a := ⟨h.size, fun t v ht => h.at_ t v (hs.look ht)⟩

/-- The fence of a plain activation, or of a round. -/
abbrev FR (r : Option Nat) : Fence := { Fence.wide with round := r }

/-- A round of which loop, or none; the deferred calls that the activation has. -/
structure Cx where
  ro : Option Nat
  ds : List Deferred

theorem callsIn_FR {r : Option Nat} {n : Nat} {P : Program} {f : FuncId} {args : Array Value} {w : World} {R : Ending → World → Prop} (h : Calls P f args w R) : CallsIn (FR r) n P f args w R :=
  (callsIn_wide (n := n)).2 h

/-- What is left to be done. -/
inductive It where
  | code (c : Code)
  | blk (id : Nat)
  | k (K : Act → World → Prop)

abbrev Fin := Exit → Act → World → Prop

def S (P : Program) (r : Option Nat) (F : Fin) : List It → Fin
  | [] => F
  | .code c :: k => Exit.then (fun a w => c.wpIn (FR r) 0 P (S P r F k) a w) (S P r F k)
  | .blk id :: k => Exit.inBlock id (S P r F k)
  | .k K :: k => Exit.then K (S P r F k)

/-- From the environment 'e' and the world 'w' what is left leads to 'F'. -/
def Y (P : Program) (ro : Cx) (n : Nat) (F : Fin) (k : List It) (e : Env) (w : World) : Prop :=
  ∀ a, Fits n e a → a.defers = ro.ds → S P ro.ro F k .normal a w

section rules
variable {P : Program} {ro : Cx} {n : Nat} {F : Fin} {k : List It} {e : Env} {w : World}

theorem Y.sub {l : Env} (h : Y P ro n F k l w) (hs : Sub l e) : Y P ro n F k e w := fun a hf hd => h a (hf.sub hs) hd

theorem y_seq {c d : Code} (h : Y P ro n F (.code c :: .code d :: k) e w) : Y P ro n F (.code (.seq c d) :: k) e w :=
  fun a hf hd => wpIn_seq (h a hf hd)

theorem y_skip (h : Y P ro n F k e w) : Y P ro n F (.code .skip :: k) e w := fun a hf hd => wpIn_skip (h a hf hd)

theorem y_label {l : Nat} (h : Y P ro n F k e w) : Y P ro n F (.code (.label l) :: k) e w := fun a hf hd => wpIn_label (h a hf hd)

theorem y_block {id : Nat} {c : Code} (h : Y P ro n F (.code c :: .blk id :: k) e w) : Y P ro n F (.code (.block id c) :: k) e w :=
  fun a hf hd => wpIn_block (h a hf hd)

theorem y_blk {id : Nat} (h : Y P ro n F k e w) : Y P ro n F (.blk id :: k) e w := h

/-- What is left behind the block that an exit leaves. -/
def dropTo (id : Nat) : List It → Option (List It)
  | [] => none
  | .blk i :: k => bif Nat.beq id i then some k else dropTo id k
  | _ :: k => dropTo id k

theorem S_exit {r : Option Nat} {id : Nat} {k k' : List It} (h : dropTo id k = some k') (a : Act) (w : World) (hs : S P r F k' .normal a w) : S P r F k (.exit id) a w := by
  induction k with
  | nil => simp [dropTo] at h
  | cons i k ih =>
    cases i with
    | code c => exact ih (by simpa [dropTo] using h)
    | k K => exact ih (by simpa [dropTo] using h)
    | blk j =>
      simp only [dropTo] at h
      cases hb : Nat.beq id j with
      | true =>
        rw [hb] at h
        simp at h
        have := Nat.eq_of_beq_eq_true hb
        subst this; subst h
        simpa [S, Exit.inBlock] using hs
      | false =>
        rw [hb] at h
        have hne : id ≠ j := fun e => by subst e; simp at hb
        simp only [S, Exit.inBlock, if_neg hne]
        exact ih h

theorem y_exit {id : Nat} (k' : List It) (hk : dropTo id k = some k') (h : Y P ro n F k' e w) : Y P ro n F (.code (.exit id) :: k) e w :=
  fun a hf hd => wpIn_exit (S_exit hk a w (h a hf hd))

theorem S_pass {r : Option Nat} {k : List It} {x : Exit} (hx : x = .ret ∨ x = .outgrown ∨ (∃ c, x = .panic c) ∨ ∃ l, x = .goto l) (a : Act) (w : World) (hs : F x a w) : S P r F k x a w := by
  induction k with
  | nil => exact hs
  | cons i k ih =>
    rcases hx with rfl | rfl | ⟨c, rfl⟩ | ⟨l, rfl⟩ <;> cases i <;> exact ih

theorem y_ret (h : Y P ro n (fun _ => F .ret) [] e w) : Y P ro n F (.code .ret :: k) e w :=
  fun a hf hd => wpIn_ret (S_pass (.inl rfl) a w (h a hf hd))

theorem y_cond {c : Operand} {x y : Code} {t : Bool} (hc : opv e c = some (.bool t)) (ht : t = true → Y P ro n F (.code x :: k) e w) (hf : t = false → Y P ro n F (.code y :: k) e w) :
    Y P ro n F (.code (.cond c x y) :: k) e w :=
  fun a hfit hd => wpIn_cond_split (hfit.op hc) (fun h => ht h a hfit hd) (fun h => hf h a hfit hd)

theorem y_cond_true {c : Operand} {x y : Code} (hc : opv e c = some (.bool true)) (h : Y P ro n F (.code x :: k) e w) :
    Y P ro n F (.code (.cond c x y) :: k) e w := y_cond hc (fun _ => h) (fun h => by cases h)

theorem y_cond_false {c : Operand} {x y : Code} (hc : opv e c = some (.bool false)) (h : Y P ro n F (.code y :: k) e w) :
    Y P ro n F (.code (.cond c x y) :: k) e w := y_cond hc (fun h => by cases h) (fun _ => h)

theorem roundsIn_mono {r : Option Nat} {body : Code} {Q : Fin} {i j : Nat} (hij : i ≤ j) {a : Act} {w : World} (h : Code.roundsIn (FR r) 0 P body Q i a w) : Code.roundsIn (FR r) 0 P body Q j a w := by
  induction i generalizing j a w with
  | zero => exact h.elim
  | succ i ih =>
    cases j with
    | zero => omega
    | succ j =>
      refine wpIn_mono h fun x a w hq => ?_
      cases x <;> first | exact ih (by omega) hq | exact hq

/-- A loop: 'I m l w' holds at each round's head, l being what is known there; each round lowers m. -/
theorem y_loop {body : Code} (I : Nat → Env → World → Prop) {m : Nat} {l : Env} (h0 : I m l w) (hs : Sub l e)
    (round : ∀ m l w, I m l w → ∀ K : Act → World → Prop, (∀ m' l' e' w', I m' l' w' → m' < m → Sub l' e' → ∀ a, Fits n e' a → a.defers = ro.ds → K a w') → Y P ro n F (.code body :: .k K :: k) l w) :
    Y P ro n F (.code (.loop body) :: k) e w := by
  intro a hf hd
  have key : ∀ m l w, I m l w → ∀ a, Fits n l a → a.defers = ro.ds → Code.roundsIn (FR ro.ro) 0 P body (S P ro.ro F k) (m + 1) a w := by
    intro m
    induction m using Nat.strongRecOn with
    | _ m ih =>
      intro l w hI a hf hd
      exact round m l w hI (Code.roundsIn (FR ro.ro) 0 P body (S P ro.ro F k) m) (fun m' l' e' w' hI' hlt hs' a' hf' hd' => roundsIn_mono (by omega) (ih m' hlt l' w' hI' a' (hf'.sub hs') hd')) a hf hd
  exact wpIn_loop_rounds (m + 1) (key m l w h0 a (hf.sub hs) hd)

theorem y_k {K : Act → World → Prop} (h : ∀ a, Fits n e a → a.defers = ro.ds → K a w) : Y P ro n F (.k K :: k) e w := h

/-- An exit that nothing here catches. -/
theorem S_exit_out {r : Option Nat} {id : Nat} {k : List It} (h : dropTo id k = none) (a : Act) (w : World) (hs : F (.exit id) a w) : S P r F k (.exit id) a w := by
  induction k with
  | nil => exact hs
  | cons i k ih =>
    cases i with
    | code c => exact ih (by simpa [dropTo] using h)
    | k K => exact ih (by simpa [dropTo] using h)
    | blk j =>
      simp only [dropTo] at h
      cases hb : Nat.beq id j with
      | true => rw [hb] at h; simp at h
      | false =>
        rw [hb] at h
        have hne : id ≠ j := fun e => by subst e; simp at hb
        simp only [S, Exit.inBlock, if_neg hne]
        exact ih h

theorem y_exit_out {id : Nat} (hk : dropTo id k = none) (h : Y P ro n (fun _ => F (.exit id)) [] e w) : Y P ro n F (.code (.exit id) :: k) e w :=
  fun a hf hd => wpIn_exit (S_exit_out hk a w (h a hf hd))

end rules
end Go.Eng

/- The engine, part 2: the operations of a region, one by one. -/
namespace Go.Eng
open Go

/-- What the walk reads off the program's types, once: offsets of fields, sizes. -/
structure Tab where
  foff : List ((Nat × Nat) × Nat)
  esz : List (Nat × (Nat × Nat))
  one : List Nat
  agg : List (Nat × Nat)
  len : List Nat
  iks : List (Nat × IntKind)
  fn : List Nat

def find2 : List ((Nat × Nat) × Nat) → Nat → Nat → Option Nat
  | [], _, _ => none
  | ((a, b), c) :: l, x, y => bif Nat.beq a x then (bif Nat.beq b y then some c else find2 l x y) else find2 l x y
def find1 {α : Type} : List (Nat × α) → Nat → Option α
  | [], _ => none
  | (a, c) :: l, x => bif Nat.beq a x then some c else find1 l x
def has : List Nat → Nat → Bool
  | [], _ => false
  | a :: l, x => bif Nat.beq a x then true else has l x

theorem find2_mem {l : List ((Nat × Nat) × Nat)} {x y c : Nat} (h : find2 l x y = some c) : ((x, y), c) ∈ l := by
  induction l with
  | nil => simp [find2] at h
  | cons p l ih =>
    obtain ⟨⟨a, b⟩, d⟩ := p
    simp only [find2] at h
    cases h1 : Nat.beq a x <;> rw [h1] at h <;> simp at h
    · exact List.mem_cons_of_mem _ (ih h)
    · cases h2 : Nat.beq b y <;> rw [h2] at h <;> simp at h
      · exact List.mem_cons_of_mem _ (ih h)
      · have e1 := Nat.eq_of_beq_eq_true h1
        have e2 := Nat.eq_of_beq_eq_true h2
        subst e1; subst e2; subst h
        exact List.mem_cons_self
theorem find1_mem {α : Type} {l : List (Nat × α)} {x : Nat} {c : α} (h : find1 l x = some c) : (x, c) ∈ l := by
  induction l with
  | nil => simp [find1] at h
  | cons p l ih =>
    obtain ⟨a, d⟩ := p
    simp only [find1] at h
    cases h1 : Nat.beq a x <;> rw [h1] at h <;> simp at h
    · exact List.mem_cons_of_mem _ (ih h)
    · have e1 := Nat.eq_of_beq_eq_true h1
      subst e1; subst h
      exact List.mem_cons_self
theorem has_mem {l : List Nat} {x : Nat} (h : has l x = true) : x ∈ l := by
  induction l with
  | nil => simp [has] at h
  | cons a l ih =>
    simp only [has] at h
    cases h1 : Nat.beq a x <;> rw [h1] at h <;> simp at h
    · exact List.mem_cons_of_mem _ (ih h)
    · have e1 := Nat.eq_of_beq_eq_true h1
      subst e1
      exact List.mem_cons_self

def foffB (P : Program) (t i o : Nat) : Bool :=
  match P.underlying t with
  | some (.struct fs) => (match fs[i]? with | some f => Nat.beq f.offset o && (match P.info? f.type with | some i => !(Nat.beq i.size 0) | none => false) | none => false)
  | _ => false
def eszB (P : Program) (t e s : Nat) : Bool :=
  (match P.underlying t with | some (.slice e') => Nat.beq e e' | some (.array _ e') => Nat.beq e e' | _ => false) && (match P.info? e with | some i => Nat.beq i.size s | none => false)
def oneB (P : Program) (t : Nat) : Bool :=
  (match P.underlying t with | some (.struct _) => false | some (.array _ _) => false | some _ => true | none => false) && (match P.info? t with | some i => Nat.beq i.size 1 | none => false)
def aggB (P : Program) (t n : Nat) : Bool :=
  (match P.underlying t with | some (.struct _) => true | some (.array _ _) => true | _ => false) && (match P.info? t with | some i => Nat.beq i.size n | none => false)
def lenB (P : Program) (t : Nat) : Bool :=
  match P.underlying t with | some (.slice _) => true | _ => false
def ikEq : IntKind → IntKind → Bool
  | .i64, .i64 => true | .u8, .u8 => true | .u32, .u32 => true | .i32, .i32 => true | .u64, .u64 => true | _, _ => false
theorem ikEq_eq {a b : IntKind} (h : ikEq a b = true) : a = b := by
  cases a <;> cases b <;> first | rfl | simp [ikEq] at h
def ikB (P : Program) (t : Nat) (k : IntKind) : Bool :=
  match P.underlying t with | some (.int k') => ikEq k k' | _ => false
def fnB (P : Program) (f : Nat) : Bool :=
  match P.funcs[f]? with | some fn => fn.body.isSome && !(fn.name == "runtime.NumGoroutine") | none => false

def Tab.ok (T : Tab) (P : Program) : Bool :=
  T.foff.all (fun p => foffB P p.1.1 p.1.2 p.2) && T.esz.all (fun p => eszB P p.1 p.2.1 p.2.2) && T.one.all (oneB P) && T.agg.all (fun p => aggB P p.1 p.2) && T.len.all (lenB P) && T.iks.all (fun p => ikB P p.1 p.2) && T.fn.all (fnB P)

structure Tab.Ok (T : Tab) (P : Program) : Prop where
  foff : ∀ t i o, find2 T.foff t i = some o → foffB P t i o = true
  esz : ∀ t e s, find1 T.esz t = some (e, s) → eszB P t e s = true
  one : ∀ t, has T.one t = true → oneB P t = true
  agg : ∀ t n, find1 T.agg t = some n → aggB P t n = true
  len : ∀ t, has T.len t = true → lenB P t = true
  iks : ∀ t k, find1 T.iks t = some k → ikB P t k = true
  fn : ∀ f, has T.fn f = true → fnB P f = true

theorem Tab.ok_spec {T : Tab} {P : Program} (h : T.ok P = true) : T.Ok P := by
  simp only [Tab.ok, Bool.and_eq_true, List.all_eq_true] at h
  obtain ⟨⟨⟨⟨⟨⟨h1, h2⟩, h3⟩, h4⟩, h5⟩, h7⟩, h6⟩ := h
  exact ⟨fun t i o hh => h1 _ (find2_mem hh), fun t e s hh => h2 _ (find1_mem hh), fun t hh => h3 _ (has_mem hh), fun t n hh => h4 _ (find1_mem hh), fun t hh => h5 _ (has_mem hh), fun t k hh => h7 _ (find1_mem hh), fun f hh => h6 _ (has_mem hh)⟩

/-! ### Pure operations -/

def binV (op : BinOp) (k : IntKind) (a b : Int) : Option Value :=
  match op with
  | .add => some (.int k (k.wrap (a + b)))
  | .sub => some (.int k (k.wrap (a - b)))
  | .mul => some (.int k (k.wrap (a * b)))
  | .lss => some (.bool (decide (a < b)))
  | .leq => some (.bool (decide (a ≤ b)))
  | .gtr => some (.bool (decide (b < a)))
  | .geq => some (.bool (decide (b ≤ a)))
  | .eql => some (.bool (decide (a = b)))
  | .neq => some (.bool (!decide (a = b)))
  | _ => none

def kindEq : IntKind → IntKind → Bool
  | .i64, .i64 => true | .u8, .u8 => true | .u32, .u32 => true | .i32, .i32 => true | .u64, .u64 => true | _, _ => false

def opvs (e : Env) : List Operand → Option (List Value)
  | [] => some []
  | x :: l => match opv e x, opvs e l with
    | some v, some vs => some (v :: vs)
    | _, _ => none

def lenV (T : Tab) (e : Env) (c : Call) : Option Value :=
  match c.callee, c.args.toList, c.argTypes.toList with
  | .builtin .len, [x], [t] => (match opv e x, has T.len t with
    | some (.slice _ n _), true => some (.int .i64 n)
    | _, _ => none)
  | .builtin .max, [x, y], _ => (match opv e x, opv e y with
    | some (.int k a), some (.int _ b) => some (.int k (max a b))
    | _, _ => none)
  | .builtin .min, [x, y], _ => (match opv e x, opv e y with
    | some (.int k a), some (.int _ b) => some (.int k (min a b))
    | _, _ => none)
  | .builtin .max, [x, y, z], _ => (match opv e x, opv e y, opv e z with
    | some (.int k a), some (.int _ b), some (.int _ c) => some (.int k (max (max a b) c))
    | _, _, _ => none)
  | _, _, _ => none

/-- What a pure operation yields. -/
def evp (T : Tab) (e : Env) : Op → Option Value
  | .move x => opv e x
  | .assign x => opv e x
  | .pick c a b => match opv e c with
    | some (.bool true) => opv e a
    | some (.bool false) => opv e b
    | _ => none
  | .binOp op _ x y _ => match opv e x, opv e y with
    | some (.int k a), some (.int k' b) => bif kindEq k k' then binV op k a b else none
    | _, _ => none
  | .unOp .neg _ x => match opv e x with
    | some (.int k a) => some (.int k (k.wrap (0 - a)))
    | _ => none
  | .unOp .not _ x => match opv e x with
    | some (.bool b) => some (.bool (!b))
    | _ => none
  | .nilCheck x => match opv e x with
    | some (.pointer (some a)) => some (.pointer (some a))
    | _ => none
  | .fieldAddr t x i => match find2 T.foff t i, opv e x with
    | some o, some (.pointer (some ⟨b, off, none⟩)) => some (.pointer (some ⟨b, off + o, none⟩))
    | _, _ => none
  | .extract x i => match opv e x with
    | some (.tuple vs) => vs[i]?
    | _ => none
  | .makeFunc fn first caps => match opvs e first.toList, opvs e caps.toList with
    | some f, some c => some (.func fn f.toArray c.toArray)
    | _, _ => none
  | .convert s d x => match find1 T.iks s, find1 T.iks d, opv e x with
    | some _, some k, some (.int _ m) => some (.int k (k.wrap m))
    | _, _, _ => none
  | .call c => lenV T e c
  | _ => none

theorem Fits.ops {n : Nat} {e : Env} {a : Act} (h : Fits n e a) : ∀ {l : List Operand} {vs : List Value}, opvs e l = some vs → l.map a.eval = vs
  | [], vs, hx => by simp [opvs] at hx; simp [hx]
  | x :: l, vs, hx => by
    simp only [opvs] at hx
    cases h1 : opv e x with
    | none => simp [h1] at hx
    | some v =>
      cases h2 : opvs e l with
      | none => simp [h1, h2] at hx
      | some us =>
        simp [h1, h2] at hx
        subst hx
        simp [h.op h1, h.ops h2]

theorem kindEq_eq {a b : IntKind} (h : kindEq a b = true) : a = b := by
  cases a <;> cases b <;> first | rfl | simp [kindEq] at h

theorem run_binV {P : Program} {w : World} {op : BinOp} {k : IntKind} {a b : Int} {v : Value} (t : TypeId) (h : binV op k a b = some v) : (binOp op t (.int k a) (.int k b)).run P w = .ok v w := by
  cases op <;> simp [binV] at h <;> subst h <;> simp [binOp, Op.intArith, Op.intCmp, pure]
  · rfl
  · rfl

variable {P : Program} {T : Tab}

theorem evp_run (hT : T.Ok P) {n : Nat} {e : Env} {a : Act} (hf : Fits n e a) {o : Oper} {v : Value} (h : evp T e o.op = some v) (w : World) :
    (execOp a.eval o).run P w = .ok (.value v) w := by
  unfold execOp
  cases hop : o.op <;> rw [hop] at h <;> simp only [evp] at h <;> dsimp only
  case move x => rw [hf.op h]; rfl
  case assign x => rw [hf.op h]; rfl
  case pick c x y =>
    cases hc : opv e c with
    | none => simp [hc] at h
    | some u =>
      cases u <;> simp [hc] at h
      case bool b =>
        cases b <;> simp at h <;> simp [hf.op hc, hf.op h, asBool]
  case binOp op xt x y yt =>
    split at h
    · rename_i k m k' m' h1 h2
      cases hk : kindEq k k' <;> rw [hk] at h <;> simp at h
      have := kindEq_eq hk
      subst this
      have hr := run_binV (P := P) (w := w) xt h
      simp [hf.op h1, hf.op h2, eqGuard, hr]
    · cases h
  case unOp op xt x =>
    cases op <;> simp at h
    case neg =>
      split at h
      · rename_i k m h1
        cases h
        simp [hf.op h1, Op.unary, Op.intArith]
      · cases h
    case not =>
      split at h
      · rename_i b h1
        cases h
        simp [hf.op h1, Op.unary]
      · cases h
  case nilCheck x =>
    split at h
    · rename_i ad h1
      cases h
      simp [hf.op h1]
    · cases h
  case fieldAddr t x i =>
    split at h
    · rename_i off b o' hfo h1
      cases h
      have := hT.foff _ _ _ hfo
      simp only [foffB] at this
      split at this
      · rename_i fs hu
        split at this
        · rename_i f hff
          simp only [Bool.and_eq_true] at this
          obtain ⟨ho, hz⟩ := this
          have ho := Nat.eq_of_beq_eq_true ho
          subst ho
          split at hz
          · rename_i i hi
            have hi0 : i.size ≠ 0 := by intro e0; rw [e0] at hz; simp at hz
            rw [hf.op h1]
            simp [go_sem, run_underlying hu, hff, typeInfo, hi, hi0, sizeOf]
          · cases hz
        · cases this
      · cases this
    · cases h
  case extract x i =>
    split at h
    · rename_i vs h1
      simp [hf.op h1, Instr.extract, h]
    · cases h
  case makeFunc fn first caps =>
    split at h
    · rename_i f c h1 h2
      cases h
      have e1 := hf.ops h1
      have e2 := hf.ops h2
      have e1' : first.map a.eval = f.toArray := by
        apply Array.ext'
        simpa using e1
      have e2' : caps.map a.eval = c.toArray := by
        apply Array.ext'
        simpa using e2
      simp [Instr.makeFunc, e1', e2']
    · cases h
  case convert s d x =>
    split at h
    · rename_i ks k kx m h1 h2 h3
      cases h
      have a1 := hT.iks _ _ h1
      have a2 := hT.iks _ _ h2
      simp only [ikB] at a1 a2
      split at a1
      · rename_i k1 hu1
        split at a2
        · rename_i k2 hu2
          have := ikEq_eq a2
          subst this
          rw [hf.op h3]
          simp [convert, run_underlying hu1, run_underlying hu2, Conv.intToInt]
        · cases a2
      · cases a1
    · cases h
  case call c =>
    obtain ⟨cal, ars, tys⟩ := c
    simp only [lenV] at h
    split at h
    · rename_i _ _ _ x t ha ht
      split at h
      · rename_i aa m cc h1 h2
        cases h
        have := hT.len _ h2
        simp only [lenB] at this
        split at this
        · rename_i el hu
          obtain rfl : ars = #[x] := Array.ext' ha
          obtain rfl : tys = #[t] := Array.ext' ht
          have e0 := hf.op h1
          simp only [resolve, List.map_toArray, List.map_cons, List.map_nil, e0]
          simp [invoke, builtin, Builtin.len_, run_underlying hu, goInt]
        · cases this
      · cases h
    · rename_i _ _ _ x y ha
      split at h
      · rename_i kx ax ky ay h1 h2
        cases h
        obtain rfl : ars = #[x, y] := Array.ext' ha
        have e0 := hf.op h1
        have e1 := hf.op h2
        simp only [resolve, List.map_toArray, List.map_cons, List.map_nil, e0, e1]
        have : (if ax < ay then ay else ax) = max ax ay := by simp only [Int.max_def]; split <;> split <;> omega
        simp [invoke, builtin, Builtin.max_, Builtin.max2, this]
      · cases h
    · rename_i _ _ _ x y ha
      split at h
      · rename_i kx ax ky ay h1 h2
        cases h
        obtain rfl : ars = #[x, y] := Array.ext' ha
        have e0 := hf.op h1
        have e1 := hf.op h2
        simp only [resolve, List.map_toArray, List.map_cons, List.map_nil, e0, e1]
        have : (if ay < ax then ay else ax) = min ax ay := by simp only [Int.min_def]; split <;> split <;> omega
        simp [invoke, builtin, Builtin.min_, Builtin.min2, this]
      · cases h
    · rename_i _ _ _ x y z ha
      split at h
      · rename_i kx ax ky ay kz az h1 h2 h3
        cases h
        obtain rfl : ars = #[x, y, z] := Array.ext' ha
        have e0 := hf.op h1
        have e1 := hf.op h2
        have e2 := hf.op h3
        simp only [resolve, List.map_toArray, List.map_cons, List.map_nil, e0, e1, e2]
        have q : ∀ p q : Int, (if p < q then q else p) = max p q := fun p q => by simp only [Int.max_def]; split <;> split <;> omega
        simp [invoke, builtin, Builtin.max_, Builtin.max2, q]
      · cases h
    · cases h
  all_goals cases h


/-! ### A region, operation by operation -/

/-- What is left of a region. -/
def YL (P : Program) (ro : Cx) (n : Nat) (F : Fin) (k : List It) (ops : Array Oper) (l : List Oper) (e : Env) (w : World) : Prop :=
  ∀ a, Fits n e a → a.defers = ro.ds → wpListIn (FR ro.ro) 0 P ops (S P ro.ro F k) l a w

section
variable {ro : Cx} {n : Nat} {F : Fin} {k : List It} {ops : Array Oper} {l rest : List Oper} {e : Env} {w : World} {o : Oper}

theorem y_region {id : Nat} {l : List Oper} (h : YL P ro n F k l.toArray l e w) : Y P ro n F (.code (.region id l.toArray false) :: k) e w :=
  fun a hf hd => wpIn_region_lit (h a hf hd)

theorem yl_nil (h : Y P ro n F k e w) : YL P ro n F k ops [] e w := fun a hf hd => wpListIn_nil (h a hf hd)

theorem fr_fn {r : Option Nat} (f : FuncId) : (FR r).fn f := trivial

theorem upon_FR {nx : Act → World → Prop} {a : Act} {Q : Fin} {v : Value} {w' : World} (hop : ∀ c, o.op ≠ .defer c) (hr : (execOp a.eval o).run P w = .ok (.value v) w') (h : nx (a.put o.dst v) w') : o.wpIn (FR ro.ro) 0 P a w nx Q := by
  refine ⟨fun f _ => fr_fn f, ?_⟩
  rw [Oper.semAt_eq _ _ _ hop, hr]
  exact h

theorem upon_FR_skip {nx : Act → World → Prop} {a : Act} {Q : Fin} {w' : World} (hop : ∀ c, o.op ≠ .defer c) (hr : (execOp a.eval o).run P w = .ok .skip w') (h : nx (a.put o.dst undef) w') : o.wpIn (FR ro.ro) 0 P a w nx Q := by
  refine ⟨fun f _ => fr_fn f, ?_⟩
  rw [Oper.semAt_eq _ _ _ hop, hr]
  exact h

/-- An operation that yields a value. -/
theorem yl_val {t : Nat} {v : Value} {w' : World} {op : Op} {ty : TypeId} {pos : String} {af : Array Edge} (hop : ∀ c, op ≠ .defer c) (ht : Nat.blt t n = true)
    (hr : ∀ a, Fits n e a → (execOp a.eval ⟨some t, op, ty, pos, af, none⟩).run P w = .ok (.value v) w') (h : YL P ro n F k ops rest ((t, v) :: e) w') :
    YL P ro n F k ops (⟨some t, op, ty, pos, af, none⟩ :: rest) e w := fun a hf hd =>
  wpListIn_plain rfl fun _ hK => upon_FR hop (hr a hf) (hK _ _ (h _ (hf.put v ht) (by simpa [Act.put] using hd)))

/-- An operation without a value. -/
theorem yl_do {w' : World} {op : Op} {ty : TypeId} {pos : String} {af : Array Edge} (hop : ∀ c, op ≠ .defer c)
    (hr : ∀ a, Fits n e a → (execOp a.eval ⟨none, op, ty, pos, af, none⟩).run P w = .ok .skip w') (h : YL P ro n F k ops rest e w') :
    YL P ro n F k ops (⟨none, op, ty, pos, af, none⟩ :: rest) e w := fun a hf hd =>
  wpListIn_plain rfl fun _ hK => upon_FR_skip hop (hr a hf) (hK _ _ (h _ hf hd))

theorem evp_defer {op : Op} {v : Value} (h : evp T e op = some v) (c : Call) : op ≠ .defer c := by
  rintro rfl
  simp [evp] at h

/-- A pure operation. -/
theorem yl_pure (hT : T.Ok P) {t : Nat} {v : Value} {op : Op} {ty : TypeId} {pos : String} {af : Array Edge} (hv : evp T e op = some v) (ht : Nat.blt t n = true)
    (h : YL P ro n F k ops rest ((t, v) :: e) w) : YL P ro n F k ops (⟨some t, op, ty, pos, af, none⟩ :: rest) e w :=
  yl_val (evp_defer hv) ht (fun _ hf => evp_run hT hf hv w) h

/-! #### Guards -/

/-- The Bool of the operation that guards. -/
def guardV (ops : Array Oper) (e : Env) (j : Nat) : Option Bool :=
  match (ops[j]?).bind (·.dst) with
  | some t => (match look e t with | some (.bool b) => some b | _ => none)
  | none => none

theorem guardV_yielded {a : Act} (hf : Fits n e a) {j : Nat} {b : Bool} (h : guardV ops e j = some b) : yielded ops a.tmps j = some b := by
  simp only [guardV] at h
  cases hd : (ops[j]?).bind (·.dst) with
  | none => simp [hd] at h
  | some t =>
    simp only [hd] at h
    cases hl : look e t with
    | none => simp [hl] at h
    | some v =>
      cases v <;> simp [hl] at h
      case bool c =>
        subst h
        have := hf.at_ t _ hl
        simp only [yielded, hd, Option.bind_some]
        cases hc : a.tmps[t]? with
        | none => simp [Array.getD_eq_getD_getElem?, hc, undef] at this
        | some u =>
          simp [Array.getD_eq_getD_getElem?, hc] at this
          simp [this]

theorem yl_guard_yes {dst : Option Nat} {op : Op} {ty : TypeId} {pos : String} {af : Array Edge} {j : Nat} {b : Bool} (hg : guardV ops e j = some b)
    (h : YL P ro n F k ops (⟨dst, op, ty, pos, af, none⟩ :: rest) e w) : YL P ro n F k ops (⟨dst, op, ty, pos, af, some (j, b)⟩ :: rest) e w := fun a hf hd => by
  have h1 := h a hf hd
  have hy := guardV_yielded hf hg
  simp only [wpListIn, Region.wanted, if_true] at h1
  simp only [wpListIn, Region.wanted, hy, beq_self_eq_true, if_true]
  exact h1

theorem yl_guard_no {t : Nat} {op : Op} {ty : TypeId} {pos : String} {af : Array Edge} {j : Nat} {b c : Bool} (hg : guardV ops e j = some c) (hne : (c == b) = false) (ht : Nat.blt t n = true)
    (h : YL P ro n F k ops rest ((t, undef) :: e) w) : YL P ro n F k ops (⟨some t, op, ty, pos, af, some (j, b)⟩ :: rest) e w := fun a hf hd => by
  have hy := guardV_yielded hf hg
  have hw : (some c == some b) = false := by simpa using hne
  simp only [wpListIn, Region.wanted, hy, hw]
  exact ⟨fun f _ => fr_fn f, h _ (hf.put undef ht) (by simpa [Act.put] using hd)⟩

/-! #### Calls -/

/-- A call of function g returns what R says. -/
def Ca (P : Program) (g : FuncId) (args : List Value) (w : World) (R : Value → World → Prop) : Prop :=
  Calls P g args.toArray w fun e w' => ∃ v, e = .returned v ∧ R v w'

theorem Ca.mono {g : FuncId} {args : List Value} {R R' : Value → World → Prop} (h : Ca P g args w R) (hr : ∀ v w', R v w' → R' v w') : Ca P g args w R' :=
  Calls.mono h fun _ _ ⟨v, he, hR⟩ => ⟨v, he, hr _ _ hR⟩

theorem run_callFunc (hT : T.Ok P) {g : Nat} (hg : has T.fn g = true) (args : Array Value) : (callFunc g args).run P w = .ok (.enter g args) w := by
  have h1 := hT.fn _ hg
  simp only [fnB] at h1
  split at h1
  · rename_i fn hfn
    simp only [Bool.and_eq_true, Bool.not_eq_true'] at h1
    obtain ⟨hb, hn⟩ := h1
    have hn' : ¬ fn.name = "runtime.NumGoroutine" := by simpa using hn
    have hb2 : ¬ fn.body = none := by intro h0; rw [h0] at hb; cases hb
    simp [callFunc, hfn, hn', hb2]
  · cases h1

theorem yl_call (hT : T.Ok P) {t : Nat} {f : Operand} {ars : List Operand} {tys : Array TypeId} {ty : TypeId} {pos : String} {af : Array Edge} {g : Nat} {first caps : Array Value} {vs : List Value} {R : Value → World → Prop}
    (hf : opv e f = some (.func (.func g) first caps)) (hg : has T.fn g = true) (has_ : opvs e ars = some vs) (ht : Nat.blt t n = true)
    (hc : Ca P g (first.toList ++ vs ++ caps.toList) w R) (h : ∀ v w', R v w' → YL P ro n F k ops rest ((t, v) :: e) w') :
    YL P ro n F k ops (⟨some t, .call { callee := .value f, args := ars.toArray, argTypes := tys }, ty, pos, af, none⟩ :: rest) e w := fun a hfit hd =>
  wpListIn_plain rfl fun K hK => by
    refine ⟨fun f _ => fr_fn f, ?_⟩
    rw [Oper.semAt_eq _ _ _ (by simp)]
    have e1 := hfit.op hf
    have e2 := hfit.ops has_
    have hrun : (execOp a.eval ⟨some t, .call { callee := .value f, args := ars.toArray, argTypes := tys }, ty, pos, af, none⟩).run P w = .ok (.enter g (first.toList ++ vs ++ caps.toList).toArray) w := by
      simp only [execOp, resolve, List.map_toArray, e1, e2, Deferred.ofValue]
      simp [invoke, run_callFunc hT hg]
    rw [hrun]
    refine ⟨fun hx => by simp [Fence.wide] at hx, callsIn_FR (Calls.mono hc ?_)⟩
    rintro x w' ⟨v, rfl, hR⟩
    exact hK _ _ (h v w' hR _ (hfit.put v ht) (by simpa [Act.put] using hd))

/-! #### The function's beginning and end -/

/-- The end of a function: what its results are. -/
def fin (P : Program) (fn : Func) (R : Value → World → Prop) : Fin := bodyPost P fn fun e w' => ∃ v, e = .returned v ∧ R v w'

/-- The beginning environment. -/
def env0 : Nat → List Value → Env
  | _, [] => []
  | i, v :: vs => (i, v) :: env0 (i + 1) vs

theorem look_env0 (vs : List Value) : ∀ i t v, look (env0 i vs) t = some v → i ≤ t ∧ vs[t - i]? = some v := by
  induction vs with
  | nil => intro i t v h; simp [env0, look] at h
  | cons u vs ih =>
    intro i t v h
    simp only [env0, look] at h
    cases hb : Nat.beq i t with
    | true =>
      rw [hb] at h
      have := Nat.eq_of_beq_eq_true hb
      subst this
      simp at h
      subst h
      simp
    | false =>
      rw [hb] at h
      obtain ⟨h1, h2⟩ := ih _ _ _ h
      refine ⟨by omega, ?_⟩
      rw [show t - i = (t - (i + 1)) + 1 from by omega, List.getElem?_cons_succ]
      exact h2

theorem ca_of {g : FuncId} {fn : Func} {c : Code} {args : List Value} {R : Value → World → Prop} (hfn : P.funcs[g]? = some fn) (hb : fn.body = some c) (hn : args.length ≤ fn.ntmps)
    (h : Y P ⟨none, []⟩ fn.ntmps (fin P fn R) [.code c] (env0 0 args) w) : Ca P g args w R := by
  refine (callsIn_wide (n := 0)).1 (callsIn_of_wp hfn hb trivial ?_ rfl)
  have h1 := h { tmps := args.toArray ++ Array.replicate (fn.ntmps - args.toArray.size) undef, defers := [] } ⟨by simp; omega, fun t v ht => ?_⟩ rfl
  · exact h1
  · obtain ⟨_, h2⟩ := look_env0 args 0 t v ht
    simp at h2
    have hlt : t < args.length := (List.getElem?_eq_some_iff.1 h2).1
    have h3 : args[t] = v := by rw [List.getElem?_eq_getElem hlt] at h2; exact Option.some.inj h2
    simp [Array.getD_eq_getD_getElem?, Array.getElem?_append, hlt, h3]

theorem y_fin {r : Option Nat} {fn : Func} {R : Value → World → Prop} {v : Value} (hr : ∀ a, Fits n e a → (results fn a.tmps).run P w = .ok v w) (hR : R v w) : Y P ⟨r, []⟩ n (fun _ => fin P fn R .ret) [] e w :=
  fun a hf hd => ⟨hd, v, hr a hf, v, rfl, hR⟩

theorem y_fin1 {r : Option Nat} {fn : Func} {R : Value → World → Prop} {t : Nat} {v : Value} (hres : fn.results = #[.tmp t]) (hv : look e t = some v) (hR : R v w) : Y P ⟨r, []⟩ n (fun _ => fin P fn R .ret) [] e w :=
  y_fin (fun a hf => by rw [results_tmp hres]; rw [hf.at_ t v hv]) hR

end

end Go.Eng

/- The engine, part 3: memory. -/
namespace Go.Eng
open Go Go.RowKit

/-- Blocks outside N are as they were. -/
structure Chg (N : List Nat) (w w' : World) : Prop where
  os : w'.os = w.os
  tape : w'.tape = w.tape
  output : w'.output = w.output
  size : w.heap.size ≤ w'.heap.size
  block : ∀ k, k < w.heap.size → k ∉ N → w'.heap[k]? = w.heap[k]?

theorem Chg.refl (N : List Nat) (w : World) : Chg N w w := ⟨rfl, rfl, rfl, Nat.le_refl _, fun _ _ _ => rfl⟩
theorem Chg.trans {N : List Nat} {a b c : World} (h : Chg N a b) (g : Chg N b c) : Chg N a c :=
  ⟨g.os.trans h.os, g.tape.trans h.tape, g.output.trans h.output, Nat.le_trans h.size g.size, fun k hk hn => (g.block k (Nat.lt_of_lt_of_le hk h.size) hn).trans (h.block k hk hn)⟩
theorem Chg.mono {N M : List Nat} {a b : World} (h : Chg N a b) (hs : ∀ k ∈ N, k ∈ M) : Chg M a b :=
  ⟨h.os, h.tape, h.output, h.size, fun k hk hn => h.block k hk (fun hk' => hn (hs k hk'))⟩
theorem Chg.nil {N : List Nat} {a b : World} (h : Chg [] a b) : Chg N a b := h.mono (by simp)
theorem Chg.below {w w' : World} (h : Chg [] w w') : Below w.heap.size w w' := ⟨h.os, h.tape, h.output, h.size, fun k hk => h.block k hk (by simp)⟩
theorem Below.chg {B : Nat} {N : List Nat} {w0 w w' : World} (h : Below B w0 w) (c : Chg N w w') (hB : B ≤ w.heap.size) (hN : ∀ k ∈ N, B ≤ k) : Below B w0 w' :=
  h.trans ⟨c.os, c.tape, c.output, c.size, fun k hk => c.block k (by omega) (fun hk' => by have := hN k hk'; omega)⟩
theorem Chg.drew {N : List Nat} (w : World) : Chg N w { w with drawn := w.drawn + 1 } := ⟨rfl, rfl, rfl, Nat.le_refl _, fun _ _ _ => rfl⟩

/-- Block b holds these cells. -/
def Blk (w : World) (b : Nat) (cs : List Value) (t : TypeId) : Prop := w.heap[b]? = some (.cells cs.toArray t (0, 0))

theorem Blk.lt {w : World} {b : Nat} {cs : List Value} {t : TypeId} (h : Blk w b cs t) : b < w.heap.size := (Array.getElem?_eq_some_iff.1 h).1
theorem Blk.chg {w w' : World} {b : Nat} {cs : List Value} {t : TypeId} {N : List Nat} (h : Blk w b cs t) (c : Chg N w w') (hb : b ∉ N) : Blk w' b cs t := (c.block b h.lt hb).trans h
theorem Blk.keep {w w' : World} {b : Nat} {cs : List Value} {t : TypeId} (h : Blk w b cs t) (c : Chg [] w w') : Blk w' b cs t := h.chg c (by simp)
theorem Blk.cell {w : World} {b : Nat} {cs : List Value} {t : TypeId} (h : Blk w b cs t) (i : Nat) : w.cell? ⟨b, i, none⟩ = cs[i]? := by
  unfold Blk at h
  simp [World.cell?, h]
theorem Blk.frozen {w : World} {b : Nat} {cs : List Value} {t : TypeId} (h : Blk w b cs t) (i : Nat) : w.frozen? ⟨b, i, none⟩ = false := by
  unfold Blk at h
  simp [World.frozen?, h]

/-- The world with another object in block b. -/
def upd (w : World) (b : Nat) (o : Obj) : World := { w with heap := w.heap.setIfInBounds b o }

theorem upd_chg (w : World) (b : Nat) (o : Obj) : Chg [b] w (upd w b o) :=
  ⟨rfl, rfl, rfl, by simp [upd], fun k _ hn => by
    simp only [List.mem_singleton] at hn
    simp [upd, Array.getElem?_setIfInBounds_ne (Ne.symm hn)]⟩
theorem upd_blk {w : World} {b : Nat} {cs : List Value} {t : TypeId} (h : b < w.heap.size) : Blk (upd w b (.cells cs.toArray t (0, 0))) b cs t := by
  simp [Blk, upd, h]
theorem upd_size (w : World) (b : Nat) (o : Obj) : (upd w b o).heap.size = w.heap.size := by simp [upd]

theorem alloc_chg (w : World) (o : Obj) : Chg [] w (w.alloc o) :=
  ⟨rfl, rfl, rfl, by simp, fun k hk _ => Below.heap_alloc w o k hk⟩

theorem setCell_blk {w : World} {b i : Nat} {cs : List Value} {t : TypeId} (h : Blk w b cs t) (v : Value) : w.setCell ⟨b, i, none⟩ v = upd w b (.cells (cs.set i v).toArray t (0, 0)) := by
  unfold Blk at h
  have hlt := (Array.getElem?_eq_some_iff.1 h).1
  have hget := (Array.getElem?_eq_some_iff.1 h).2
  unfold World.setCell upd
  congr 1
  apply Array.ext_getElem?
  intro k
  simp only [Array.getElem?_modify]
  by_cases hk : b = k
  · subst hk
    simp [hlt, hget]
  · simp [hk, Array.getElem?_setIfInBounds_ne hk]

theorem alloc_blk (w : World) (cs : Array Value) (t : TypeId) : Blk (w.alloc (.cells cs t)) w.heap.size cs.toList t := by
  show (w.heap.push _)[w.heap.size]? = _
  simp

def oneV : Value → Bool
  | .agg _ | .tuple _ => false
  | _ => true

variable {P : Program} {T : Tab}

section
variable {ro : Cx} {n : Nat} {F : Fin} {k : List It} {ops : Array Oper} {l rest : List Oper} {e : Env} {w : World}

theorem one_run (hT : T.Ok P) {t : Nat} (h : has T.one t = true) (w : World) : (isAgg t).run P w = .ok false w ∧ (sizeOf t).run P w = .ok 1 w := by
  have h1 := hT.one _ h
  simp only [oneB, Bool.and_eq_true] at h1
  obtain ⟨ha, hb⟩ := h1
  constructor
  · split at ha <;> first | (cases ha; done) | (rename_i d hd1 hd2 hu; cases d <;> first | exact absurd rfl (hd1 _) | exact absurd rfl (hd2 _ _) | simp [isAgg, run_underlying hu])
  · split at hb
    · rename_i i hi
      have := Nat.eq_of_beq_eq_true hb
      simp [sizeOf, typeInfo, hi, this]
    · cases hb

theorem agg_run (hT : T.Ok P) {t m : Nat} (h : find1 T.agg t = some m) (w : World) : (isAgg t).run P w = .ok true w ∧ (sizeOf t).run P w = .ok m w := by
  have h1 := hT.agg _ _ h
  simp only [aggB, Bool.and_eq_true] at h1
  obtain ⟨ha, hb⟩ := h1
  constructor
  · split at ha
    · rename_i fs hu; simp [isAgg, run_underlying hu]
    · rename_i a b hu; simp [isAgg, run_underlying hu]
    · cases ha
  · split at hb
    · rename_i i hi
      have := Nat.eq_of_beq_eq_true hb
      simp [sizeOf, typeInfo, hi, this]
    · cases hb

/-- Reading a variable of one cell. -/
theorem yl_load1 (hT : T.Ok P) {d t : Nat} {x : Operand} {ad : Addr} {v : Value} {ty : TypeId} {pos : String} {af : Array Edge}
    (hx : opv e x = some (.pointer (some ad))) (h1 : has T.one t = true) (hd : Nat.blt d n = true) (hc : w.cell? ad = some v)
    (h : YL P ro n F k ops rest ((d, v) :: e) w) : YL P ro n F k ops (⟨some d, .load t x, ty, pos, af, none⟩ :: rest) e w :=
  yl_val (by simp) hd (fun a hf => by
    have e1 := hf.op hx
    obtain ⟨r1, _⟩ := one_run hT h1 w
    simp only [execOp, e1]
    simp [Instr.loadAt, Instr.sureAddr, loadVar, r1, load, Sem.run, hc]) h

theorem loadCellsFrom_run (w : World) (ad : Addr) : ∀ (m i : Nat) (acc : Array Value) (cs : List Value), cs.length = m → (∀ j, j < m → w.cell? (ad.add (i + j)) = cs[j]?) →
    (loadCellsFrom ad i m acc).run P w = .ok (acc ++ cs.toArray) w
  | 0, i, acc, cs, hl, hc => by
    obtain rfl : cs = [] := by simpa using hl
    simp [loadCellsFrom]
  | m + 1, i, acc, cs, hl, hc => by
    cases cs with
    | nil => simp at hl
    | cons c cs =>
      have h0 := hc 0 (by omega)
      simp at h0
      have ih := loadCellsFrom_run w ad m (i + 1) (acc.push c) cs (by simpa using hl) (fun j hj => by
        have := hc (j + 1) (by omega)
        rw [show i + 1 + j = i + (j + 1) from by omega, this]
        simp)
      simp only [loadCellsFrom]
      simp [load, Sem.run, h0, ih]

/-- Reading a struct or an array. -/
theorem yl_loadA (hT : T.Ok P) {d t m : Nat} {x : Operand} {b off : Nat} {cs : List Value} {ty : TypeId} {pos : String} {af : Array Edge}
    (hx : opv e x = some (.pointer (some ⟨b, off, none⟩))) (h1 : find1 T.agg t = some m) (hd : Nat.blt d n = true) (hl : cs.length = m) (hc : ∀ j, j < m → w.cell? ⟨b, off + j, none⟩ = cs[j]?)
    (h : YL P ro n F k ops rest ((d, .agg cs.toArray) :: e) w) : YL P ro n F k ops (⟨some d, .load t x, ty, pos, af, none⟩ :: rest) e w :=
  yl_val (by simp) hd (fun a hf => by
    have e1 := hf.op hx
    obtain ⟨r1, r2⟩ := agg_run hT h1 w
    have r3 := loadCellsFrom_run (P := P) w ⟨b, off, none⟩ m 0 #[] cs hl (fun j hj => by rw [Nat.zero_add, Addr.add_lit]; exact hc j hj)
    simp only [execOp, e1]
    simp [Instr.loadAt, Instr.sureAddr, loadVar, loadCells, r1, r2, r3]) h

/-- A new variable that holds a value. -/
theorem yl_box {d t : Nat} {x : Operand} {v : Value} {ty : TypeId} {pos : String} {af : Array Edge}
    (hx : opv e x = some v) (hd : Nat.blt d n = true)
    (h : ∀ w', Chg [] w w' → w'.heap.size = w.heap.size + 1 → Blk w' w.heap.size v.cells.toList t → YL P ro n F k ops rest ((d, .pointer (some ⟨w.heap.size, 0, none⟩)) :: e) w') :
    YL P ro n F k ops (⟨some d, .box t x, ty, pos, af, none⟩ :: rest) e w :=
  yl_val (w' := w.alloc (.cells v.cells t)) (by simp) hd (fun a hf => by
    have e1 := hf.op hx
    simp only [execOp, e1]
    simp [Instr.box, newVar, newRow, go_sem]) (h _ (alloc_chg _ _) (by simp) (alloc_blk _ _ _))

/-- A new variable that holds the zero value. -/
theorem yl_alloc {d t : Nat} {z : Value} {ty : TypeId} {pos : String} {af : Array Edge}
    (hz : (P.info? t).bind (·.zero) = some z) (hd : Nat.blt d n = true)
    (h : ∀ w', Chg [] w w' → w'.heap.size = w.heap.size + 1 → Blk w' w.heap.size z.cells.toList t → YL P ro n F k ops rest ((d, .pointer (some ⟨w.heap.size, 0, none⟩)) :: e) w') :
    YL P ro n F k ops (⟨some d, .alloc t, ty, pos, af, none⟩ :: rest) e w :=
  yl_val (w' := w.alloc (.cells z.cells t)) (by simp) hd (fun a hf => by
    cases hi : P.info? t with
    | none => simp [hi] at hz
    | some i =>
      simp [hi] at hz
      simp only [execOp]
      simp [Instr.alloc, zeroValue, typeInfo, hi, hz, newVar, newRow, go_sem]) (h _ (alloc_chg _ _) (by simp) (alloc_blk _ _ _))

/-- Writing a variable of one cell that lies in a block of our own. -/
theorem yl_store1 (hT : T.Ok P) {t : Nat} {x y : Operand} {b i : Nat} {cs : List Value} {bt : TypeId} {v : Value} {ty : TypeId} {pos : String} {af : Array Edge}
    (hx : opv e x = some (.pointer (some ⟨b, i, none⟩))) (hy : opv e y = some v) (h1 : has T.one t = true) (hv : oneV v = true) (hb : Blk w b cs bt) (hi : i < cs.length)
    (h : ∀ w', Chg [b] w w' → w'.heap.size = w.heap.size → Blk w' b (cs.set i v) bt → YL P ro n F k ops rest e w') :
    YL P ro n F k ops (⟨none, .store t x y, ty, pos, af, none⟩ :: rest) e w :=
  yl_do (w' := w.setCell ⟨b, i, none⟩ v) (by simp) (fun a hf => by
    have e1 := hf.op hx
    have e2 := hf.op hy
    obtain ⟨_, r2⟩ := one_run hT h1 w
    have hc := hb.cell i
    rw [List.getElem?_eq_getElem hi] at hc
    have hfr := hb.frozen i
    have hcells : v.cells = #[v] := by cases v <;> first | (simp [oneV] at hv; done) | rfl
    simp only [execOp, e1, e2]
    cases v <;> first | (simp [oneV] at hv; done) | simp [Instr.storeAt, Instr.sureAddr, storeVar, r2, hcells, storeCells, store, Sem.run, hc, hfr, Addr.add_zero']) (by
    rw [setCell_blk hb]
    exact h _ (upd_chg _ _ _) (upd_size _ _ _) (upd_blk hb.lt))

end
end Go.Eng

/- The engine, part 4: slices, division, structs. -/
namespace Go.Eng
open Go Go.RowKit

/-- A slice of n elements that can be read: its cells; the block that they lie in is from lo on, and below hi. -/
def Rd (w : World) (lo hi : Nat) (v : Value) (size n : Nat) (cs : List Value) : Prop :=
  cs.length = n * size ∧ (((v = .slice none 0 0 ∨ ∃ a cap, v = .slice (some a) 0 cap) ∧ n = 0) ∨
    ∃ b off cap, v = .slice (some ⟨b, off, none⟩) n cap ∧ (0 < cs.length → lo ≤ b ∧ b < hi ∧ b < w.heap.size) ∧ ∀ j, j < cs.length → w.cell? ⟨b, off + j, none⟩ = cs[j]?)

theorem Rd.chg {w w' : World} {lo hi : Nat} {v : Value} {size n : Nat} {cs : List Value} {N : List Nat} (h : Rd w lo hi v size n cs) (c : Chg N w w') (hN : ∀ k ∈ N, k < lo ∨ hi ≤ k) : Rd w' lo hi v size n cs := by
  obtain ⟨h1, h2⟩ := h
  refine ⟨h1, ?_⟩
  rcases h2 with h2 | ⟨b, off, cap, hv, hb, hc⟩
  · exact .inl h2
  · refine .inr ⟨b, off, cap, hv, fun hp => ⟨(hb hp).1, (hb hp).2.1, Nat.lt_of_lt_of_le (hb hp).2.2 c.size⟩, fun j hj => ?_⟩
    have hb' := hb (by omega)
    have hbN : b ∉ N := fun hm => by have := hN b hm; omega
    rw [← hc j hj]
    exact World.cell?_of_block (w := w) (c.block b hb'.2.2 hbN)

theorem Rd.keep {w w' : World} {lo hi : Nat} {v : Value} {size n : Nat} {cs : List Value} (h : Rd w lo hi v size n cs) (c : Chg [] w w') : Rd w' lo hi v size n cs := h.chg c (by simp)

theorem Rd.below {w w' : World} {hi B : Nat} {lo : Nat} {v : Value} {size n : Nat} {cs : List Value} (h : Rd w lo hi v size n cs) (c : Below B w w') (hB : hi ≤ B) : Rd w' lo hi v size n cs := by
  obtain ⟨h1, h2⟩ := h
  refine ⟨h1, ?_⟩
  rcases h2 with h2 | ⟨b, off, cap, hv, hb, hc⟩
  · exact .inl h2
  · refine .inr ⟨b, off, cap, hv, fun hp => ⟨(hb hp).1, (hb hp).2.1, Nat.lt_of_lt_of_le (hb hp).2.2 c.size⟩, fun j hj => ?_⟩
    have hb' := hb (by omega)
    rw [← hc j hj]
    exact World.cell?_of_block (w := w) (c.block b (by omega))

theorem Rd.wide {w : World} {lo hi lo' hi' : Nat} {v : Value} {size n : Nat} {cs : List Value} (h : Rd w lo hi v size n cs) (hl : lo' ≤ lo) (hh : hi ≤ hi') : Rd w lo' hi' v size n cs := by
  obtain ⟨h1, h2⟩ := h
  refine ⟨h1, ?_⟩
  rcases h2 with h2 | ⟨b, off, cap, hv, hb, hc⟩
  · exact .inl h2
  · exact .inr ⟨b, off, cap, hv, fun hp => ⟨by have := (hb hp).1; omega, by have := (hb hp).2.1; omega, (hb hp).2.2⟩, hc⟩

/-- The value of a readable slice, written out. -/
theorem Rd.out {w : World} {lo hi : Nat} {v : Value} {size n : Nat} {cs : List Value} (h : Rd w lo hi v size n cs) :
    ∃ a cap, v = .slice a n cap ∧ (0 < n → ∃ b off, a = some ⟨b, off, none⟩ ∧ ∀ j, j < cs.length → w.cell? ⟨b, off + j, none⟩ = cs[j]?) := by
  obtain ⟨_, ⟨rfl | ⟨a, cap, rfl⟩, rfl⟩ | ⟨b, off, cap, rfl, _, hc⟩⟩ := h
  · exact ⟨none, 0, rfl, fun h => absurd h (by omega)⟩
  · exact ⟨_, cap, rfl, fun h => absurd h (by omega)⟩
  · exact ⟨_, cap, rfl, fun _ => ⟨b, off, rfl, hc⟩⟩

theorem own_rd {w : World} {base : Nat} {e : TypeId} {size : Nat} {v : Value} {n : Nat} {xs : List Value} (h : w.ownsRow base e size v n xs) : Rd w base w.heap.size v size n xs := by
  have hlen := h.1
  refine ⟨hlen, ?_⟩
  rcases h.2 with h2 | ⟨g, cap, cur, hv, hg, hh, hnc, hcm, hcs, ht⟩
  · exact .inl ⟨.inl h2.1, h2.2⟩
  · have hlt := (Array.getElem?_eq_some_iff.1 hh).1
    subst hv
    refine .inr ⟨g, 0, cap, rfl, fun _ => ⟨hg, hlt, hlt⟩, fun j hj => ?_⟩
    rw [Nat.zero_add]
    exact h.cellAt j (by omega)

theorem grown_chg {w w' : World} {v : Value} (h : w.grownBy w' v.ownBlock) : Chg v.ownBlock.toList w w' :=
  ⟨h.os, h.tape, h.output, h.size, fun k hk hn => h.block k hk (fun e => hn (by rw [← e]; simp))⟩

/-- What is known of a slice type. -/
structure SlT (P : Program) (t e size bytes : Nat) (z : Value) : Prop where
  ht : P.underlying t = some (.slice e)
  hi : (P.info? e).map (fun i => (i.zero, i.size, i.bytes)) = some (some z, size, bytes)
  hzs : z.cells.size = size
  hsz : 0 < size

variable {P : Program} {T : Tab}
section
variable {ro : Cx} {n : Nat} {F : Fin} {k : List It} {ops : Array Oper} {l rest : List Oper} {e : Env} {w : World}

/-- The address of an element of a slice. -/
theorem yl_index (hT : T.Ok P) {d t et sz : Nat} {x ix : Operand} {b off len cap : Nat} {ik : IntKind} {i : Int} {ty : TypeId} {pos : String} {af : Array Edge}
    (hx : opv e x = some (.slice (some ⟨b, off, none⟩) len cap)) (hi : opv e ix = some (.int ik i)) (hs : find1 T.esz t = some (et, sz)) (hsl : has T.len t = true) (hd : Nat.blt d n = true) (h0 : 0 ≤ i) (h1 : i < len)
    (h : YL P ro n F k ops rest ((d, .pointer (some ⟨b, off + i.toNat * sz, none⟩)) :: e) w) : YL P ro n F k ops (⟨some d, .indexAddr t x ix, ty, pos, af, none⟩ :: rest) e w :=
  yl_val (by simp) hd (fun a hf => by
    have e1 := hf.op hx
    have e2 := hf.op hi
    have hsz := hT.esz _ _ _ hs
    have hl := hT.len _ hsl
    simp only [eszB, Bool.and_eq_true] at hsz
    simp only [lenB] at hl
    obtain ⟨ha, hb⟩ := hsz
    split at hl
    · rename_i el hu
      rw [hu] at ha
      have he := Nat.eq_of_beq_eq_true ha
      subst he
      split at hb
      · rename_i inf hinf
        have hsz := Nat.eq_of_beq_eq_true hb
        simp only [execOp, e1, e2]
        simp [Instr.indexAt, asIntOf, run_underlying hu, h0, h1, sizeOf, typeInfo, hinf, hsz, Addr.add_lit]
      · cases hb
    · cases hl) h

theorem yl_rem {d t t' : Nat} {x y : Operand} {kd : IntKind} {p q : Int} {ty : TypeId} {pos : String} {af : Array Edge}
    (hx : opv e x = some (.int kd p)) (hy : opv e y = some (.int kd q)) (hq : q ≠ 0) (hd : Nat.blt d n = true)
    (h : YL P ro n F k ops rest ((d, .int kd (p.tmod q)) :: e) w) : YL P ro n F k ops (⟨some d, .binOp .rem t x y t', ty, pos, af, none⟩ :: rest) e w :=
  yl_val (by simp) hd (fun a hf => by
    have e1 := hf.op hx
    have e2 := hf.op hy
    simp only [execOp, e1, e2]
    simp [eqGuard, binOp, Op.intDiv, hq]) h

/-- A struct, built of parts. -/
theorem yl_build {d t : Nat} {parts : List (Nat × Operand)} {v : Value} {us : List Value} {ty : TypeId} {pos : String} {af : Array Edge}
    (hp : opvs e (parts.map (·.2)) = some us) (hb : ∀ w, (Instr.build t ((parts.map (·.1)).zip us).toArray).run P w = .ok v w) (hd : Nat.blt d n = true)
    (h : YL P ro n F k ops rest ((d, v) :: e) w) : YL P ro n F k ops (⟨some d, .build t parts.toArray, ty, pos, af, none⟩ :: rest) e w :=
  yl_val (by simp) hd (fun a hf => by
    have e1 := hf.ops hp
    have e2 : (parts.toArray.map fun (x : Nat × Operand) => (x.1, a.eval x.2)) = ((parts.map (·.1)).zip us).toArray := by
      rw [← e1]
      simp only [List.map_toArray]
      congr 1
      clear hp hb h e1
      induction parts with
      | nil => rfl
      | cons p ps ih => simp [ih]
    simp only [execOp]
    rw [e2]
    simp [hb w]) h

/-- A new slice of some elements. -/
theorem yl_buildSlice {d t len et : Nat} {parts : List (Nat × Operand)} {cs : List Value} {us : List Value} {ty : TypeId} {pos : String} {af : Array Edge}
    (hp : opvs e (parts.map (·.2)) = some us) (hb : ∀ w, (Instr.buildSlice t len ((parts.map (·.1)).zip us).toArray).run P w = .ok (.slice (some ⟨w.heap.size, 0, none⟩) len len) (w.alloc (.cells cs.toArray et))) (hd : Nat.blt d n = true)
    (h : ∀ w', Chg [] w w' → w'.heap.size = w.heap.size + 1 → Blk w' w.heap.size cs et → YL P ro n F k ops rest ((d, .slice (some ⟨w.heap.size, 0, none⟩) len len) :: e) w') : YL P ro n F k ops (⟨some d, .buildSlice t len parts.toArray, ty, pos, af, none⟩ :: rest) e w :=
  yl_val (by simp) hd (fun a hf => by
    have e1 := hf.ops hp
    have e2 : (parts.toArray.map fun (x : Nat × Operand) => (x.1, a.eval x.2)) = ((parts.map (·.1)).zip us).toArray := by
      rw [← e1]
      simp only [List.map_toArray]
      congr 1
      clear hp hb h e1
      induction parts with
      | nil => rfl
      | cons p ps ih => simp [ih]
    simp only [execOp]
    rw [e2]
    simp [hb w]) (h _ (alloc_chg _ _) (by simp) (alloc_blk _ _ _))

end
end Go.Eng

/- The engine, part 5: a region that draws its order. One walk of the text's order serves every order, where all that may stand out of turn only reads what nothing in the region turns. -/
namespace Go.Eng
open Go Go.RowKit

/-- Does the operation act on memory? -/
def eff : Op → Bool
  | .call { callee := .builtin .len, .. } | .call { callee := .builtin .max, .. } | .call { callee := .builtin .min, .. } => false
  | .move _ | .assign _ | .pick _ _ _ | .load _ _ | .nilCheck _ | .binOp _ _ _ _ _ | .unOp _ _ _ | .convert _ _ _ | .makeFunc _ _ _ | .fieldAddr _ _ _ | .field _ _ _ | .indexAddr _ _ _ | .index _ _ _ | .lookup _ _ _ _ | .extract _ _ | .build _ _ | .slice _ _ _ _ _ => false
  | _ => true

/-- The forms that are served. -/
def kindOk : Op → Bool
  | .select _ _ | .defer _ | .go _ => false
  | _ => true

def edgeMask (ms : List Nat) (o : Oper) : Nat := o.after.toList.foldl (fun m e => bif Region.binds .any e then (m ||| (1 <<< e.on)) ||| ms.getD e.on 0 else m) 0
def masksFrom : List Nat → List Oper → List Nat
  | ms, [] => ms
  | ms, o :: l => masksFrom (ms ++ [edgeMask ms o]) l
def masks (l : List Oper) : List Nat := masksFrom [] l

def okPair (ops : Array Oper) (m i : Nat) (oi oj : Oper) : Bool := m.testBit i || (oi.apart ops oj && !(eff oi.op && eff oj.op))
def okBefore (ops : Array Oper) (m : Nat) (oj : Oper) : Nat → List Oper → Bool
  | _, [] => true
  | i, oi :: l => okPair ops m i oi oj && okBefore ops m oj (i + 1) l
/-- Each operation against all before it. -/
def okAll (ops : Array Oper) (ms : List Nat) : Nat → List Oper → List Oper → Bool
  | _, _, [] => true
  | j, done, oj :: l => (kindOk oj.op && oj.after.all (fun e => !(Region.binds .any e) || Nat.blt e.on j)) && okBefore ops (ms.getD j 0) oj 0 done && okAll ops ms (j + 1) (done ++ [oj]) l
def flB (ops : Array Oper) : Bool := okAll ops (masks ops.toList) 0 [] ops.toList

/-- What the check says. -/
structure FlOk (ops : Array Oper) : Prop where
  kind : ∀ (j : Nat) o, ops[j]? = some o → kindOk o.op = true
  back : ∀ (j : Nat) o, ops[j]? = some o → ∀ e ∈ o.after, Region.binds .any e = true → e.on < j
  pair : ∀ (i j : Nat) oi oj, i < j → ops[i]? = some oi → ops[j]? = some oj → ((masks ops.toList).getD j 0).testBit i = true ∨ (oi.apart ops oj = true ∧ (eff oi.op = true → eff oj.op = true → False))

theorem okBefore_spec {ops : Array Oper} {m : Nat} {oj : Oper} : ∀ (l : List Oper) (i : Nat), okBefore ops m oj i l = true → ∀ (k : Nat) oi, l[k]? = some oi → okPair ops m (i + k) oi oj = true
  | [], _, _, k, oi, h => by simp at h
  | o :: l, i, hB, k, oi, h => by
    simp only [okBefore, Bool.and_eq_true] at hB
    cases k with
    | zero => simp at h; subst h; exact hB.1
    | succ k =>
      have := okBefore_spec l (i + 1) hB.2 k oi (by simpa using h)
      rwa [show i + 1 + k = i + (k + 1) from by omega] at this

theorem okAll_spec {ops : Array Oper} {ms : List Nat} : ∀ (l : List Oper) (j : Nat) (done : List Oper), done.length = j → okAll ops ms j done l = true →
    ∀ (k : Nat) oj, l[k]? = some oj → (kindOk oj.op && oj.after.all (fun e => !(Region.binds .any e) || Nat.blt e.on (j + k))) = true ∧ ∀ (i : Nat) oi, (done ++ l)[i]? = some oi → i < j + k → okPair ops (ms.getD (j + k) 0) i oi oj = true
  | [], _, _, _, _, k, oj, h => by simp at h
  | o :: l, j, done, hl, hB, k, oj, h => by
    simp only [okAll, Bool.and_eq_true] at hB
    obtain ⟨⟨h1, h2⟩, h3⟩ := hB
    cases k with
    | zero =>
      simp at h; subst h
      refine ⟨by rw [Nat.add_zero, Bool.and_eq_true]; exact h1, fun i oi hi hlt => ?_⟩
      have hi' : done[i]? = some oi := by rw [List.getElem?_append_left (by omega)] at hi; exact hi
      have := okBefore_spec done 0 h2 i oi hi'
      simpa using this
    | succ k =>
      obtain ⟨e1, e2⟩ := okAll_spec l (j + 1) (done ++ [o]) (by simp [hl]) h3 k oj (by simpa using h)
      rw [show j + 1 + k = j + (k + 1) from by omega] at e1
      refine ⟨e1, fun i oi hi hlt => ?_⟩
      have := e2 i oi (by simpa using hi) (by omega)
      rwa [show j + 1 + k = j + (k + 1) from by omega] at this

theorem flB_spec {ops : Array Oper} (h : flB ops = true) : FlOk ops := by
  have h1 := okAll_spec ops.toList 0 [] rfl h
  refine ⟨fun j o hj => ?_, fun j o hj e he hb => ?_, fun i j oi oj hlt hi hj => ?_⟩
  · have := (h1 j o (by simpa using hj)).1
    simp only [Bool.and_eq_true] at this
    exact this.1
  · have := (h1 j o (by simpa using hj)).1
    simp only [Bool.and_eq_true] at this
    have h2 := Array.all_eq_true_iff_forall_mem.1 this.2 e he
    simpa [hb, Nat.blt_eq] using h2
  have h2 := (h1 j oj (by simpa using hj)).2 i oi (by simpa using hi) (by omega)
  simp only [okPair, Bool.or_eq_true, Bool.and_eq_true, Bool.not_eq_true', Bool.and_eq_false_iff, Nat.zero_add] at h2
  rcases h2 with h2 | ⟨h2, h3⟩
  · exact .inl h2
  · exact .inr ⟨h2, fun a b => by rcases h3 with h3 | h3 <;> simp_all⟩

/-- The masks tell what is done. -/
theorem edgeMask_spec {ms : List Nat} {o : Oper} {D : Nat → Prop} (hD : ∀ e ∈ o.after, Region.binds .any e = true → D e.on ∧ ∀ i, (ms.getD e.on 0).testBit i = true → D i) :
    ∀ i, (edgeMask ms o).testBit i = true → D i := by
  have key : ∀ (l : List Edge) (m : Nat), (∀ e ∈ l, Region.binds .any e = true → D e.on ∧ ∀ i, (ms.getD e.on 0).testBit i = true → D i) → (∀ i, m.testBit i = true → D i) →
      ∀ i, (l.foldl (fun m e => bif Region.binds .any e then (m ||| (1 <<< e.on)) ||| ms.getD e.on 0 else m) m).testBit i = true → D i := by
    intro l
    induction l with
    | nil => intro m _ hm i hi; exact hm i hi
    | cons e l ih =>
      intro m hl hm i hi
      simp only [List.foldl_cons] at hi
      refine ih _ (fun e' he' => hl e' (List.mem_cons_of_mem _ he')) ?_ i hi
      intro i hi
      cases hb : Region.binds .any e with
      | false => rw [hb] at hi; exact hm i hi
      | true =>
        rw [hb] at hi
        obtain ⟨h1, h2⟩ := hl e List.mem_cons_self hb
        simp only [cond_true, Nat.testBit_or, Bool.or_eq_true] at hi
        rcases hi with (hi | hi) | hi
        · exact hm i hi
        · have : i = e.on := by
            rw [Nat.one_shiftLeft, Nat.testBit_two_pow] at hi
            exact (by simpa using hi : e.on = i).symm
          subst this; exact h1
        · exact h2 i hi
  intro i hi
  exact key o.after.toList 0 (fun e he => hD e (by simpa using he)) (fun i hi => by simp at hi) i hi

theorem masksFrom_get (l : List Oper) : ∀ (ms : List Nat) (j : Nat), j < ms.length → (masksFrom ms l).getD j 0 = ms.getD j 0 := by
  induction l with
  | nil => intro ms j _; rfl
  | cons o l ih =>
    intro ms j hj
    simp only [masksFrom]
    rw [ih _ _ (by simp; omega)]
    simp [List.getD_eq_getElem?_getD, List.getElem?_append_left hj]

/-- If what is done is closed, and all that j waits for is done, then all in j's mask is done. -/
theorem masks_spec {ops : Array Oper} {D : Nat → Prop} (hcl : ∀ (m : Nat) o, ops[m]? = some o → D m → ∀ e ∈ o.after, Region.binds .any e = true → D e.on) :
    ∀ (j : Nat) o, ops[j]? = some o → (∀ e ∈ o.after, Region.binds .any e = true → D e.on) → ∀ i, ((masks ops.toList).getD j 0).testBit i = true → D i := by
  -- by the depth of the masks: each mask is an edgeMask over earlier masks or zeros
  have key : ∀ (l : List Oper) (ms : List Nat), (∀ i, i < ms.length → D i → ∀ b, (ms.getD i 0).testBit b = true → D b) → (∀ (k : Nat) o, l[k]? = some o → ops[ms.length + k]? = some o) →
      ∀ (k : Nat) o, l[k]? = some o → (∀ e ∈ o.after, Region.binds .any e = true → D e.on) → ∀ i, ((masksFrom ms l).getD (ms.length + k) 0).testBit i = true → D i := by
    intro l
    induction l with
    | nil => intro ms _ _ k o h; simp at h
    | cons o' l ih =>
      intro ms hms hl k o hk hre i hi
      have h0 : ∀ o, (∀ e ∈ o.after, Region.binds .any e = true → D e.on) → ∀ i, (edgeMask ms o).testBit i = true → D i := by
        intro o hre
        refine edgeMask_spec fun e he hb => ⟨hre e he hb, fun b hb' => ?_⟩
        by_cases hlt' : e.on < ms.length
        · exact hms e.on hlt' (hre e he hb) b hb'
        · rw [List.getD_eq_getElem?_getD, List.getElem?_eq_none (by omega)] at hb'
          simp at hb'
      cases k with
      | zero =>
        simp at hk; subst hk
        simp only [masksFrom, Nat.add_zero] at hi
        rw [masksFrom_get l _ ms.length (by simp)] at hi
        simp [List.getD_eq_getElem?_getD] at hi
        exact h0 _ hre i hi
      | succ k =>
        simp only [masksFrom] at hi
        refine ih (ms ++ [edgeMask ms o']) ?_ ?_ k o (by simpa using hk) hre i (by simpa [Nat.add_assoc, Nat.add_comm 1 k] using hi)
        · intro i hi hDi b hb
          by_cases hlt' : i < ms.length
          · rw [List.getD_eq_getElem?_getD, List.getElem?_append_left hlt', ← List.getD_eq_getElem?_getD] at hb
            exact hms i hlt' hDi b hb
          · have : i = ms.length := by simp at hi; omega
            subst this
            simp [List.getD_eq_getElem?_getD] at hb
            have ho' := hl 0 o' (by simp)
            exact h0 o' (hcl _ _ (by simpa using ho') hDi) b hb
        · intro k o hk
          have := hl (k + 1) o (by simpa using hk)
          simpa [Nat.add_assoc, Nat.add_comm 1 k] using this
  intro j o hj hre i hi
  have := key ops.toList [] (fun i hi => by simp at hi) (fun k o hk => by simpa using hk) j o (by simpa using hj) hre i (by simpa [masks] using hi)
  exact this


section
variable {P : Program} {ops : Array Oper} {C : World → Prop}

/-- One round of the loop l, in whatever function's activation. -/
def RdOk (P : Program) (l : Nat) (f : FuncId) (tmps : Array Value) (assign body : Code) (w : World) (R : Value → World → Prop) : Prop :=
  ∀ r, RoundIn (FR r) 0 P l f tmps assign body w (fun e w' => ∃ v, e = .returned v ∧ R v w')

theorem RdOk.mono {l : Nat} {f : FuncId} {tmps : Array Value} {assign body : Code} {w : World} {R R' : Value → World → Prop} (h : RdOk P l f tmps assign body w R) (hr : ∀ v w', R v w' → R' v w') : RdOk P l f tmps assign body w R' :=
  fun r => (h r).mono fun _ _ ⟨v, he, hR⟩ => ⟨v, he, hr _ _ hR⟩

/-- One operation that acts: what follows is told its value. -/
def effStep (P : Program) (o : Oper) (a : Act) (w : World) (K : Value → World → Prop) : Prop :=
  match (execOp a.eval o).run P w with
  | .ok (.value v) w' => K v w'
  | .ok .skip w' => K undef w'
  | .ok (.enter f args) w' => Calls P f args w' fun e w'' => ∃ v, e = .returned v ∧ K v w''
  | .ok (.round l f tmps assign body) w' => RdOk P l f tmps assign body w' K
  | _ => False

theorem effStep.mono {o : Oper} {a : Act} {w : World} {K K' : Value → World → Prop} (h : effStep P o a w K) (hk : ∀ v w', K v w' → K' v w') : effStep P o a w K' := by
  unfold effStep at *
  split <;> rename_i hr <;> simp only [hr] at h
  · exact hk _ _ h
  · exact hk _ _ h
  · exact Calls.mono h fun _ _ ⟨v, he, hK⟩ => ⟨v, he, hk _ _ hK⟩
  · exact RdOk.mono h hk

theorem effStep.some {o : Oper} {a : Act} {w : World} {K : Value → World → Prop} (h : effStep P o a w K) : ∃ v w', K v w' := by
  unfold effStep at h
  split at h
  · exact ⟨_, _, h⟩
  · exact ⟨_, _, h⟩
  · obtain ⟨_, w', _, ⟨v, _, hK⟩, _⟩ := h []
    exact ⟨v, w', hK⟩
  · obtain ⟨_, w', ⟨v, _, hK⟩, _⟩ := (h none).2 default [] (by simp [Fence.room, Fence.wide])
    exact ⟨v, w', hK⟩
  · exact h.elim

theorem effStep.wpIn {ro : Cx} {o : Oper} {a : Act} {w : World} {K : Act → World → Prop} {Q : Fin} (hk : kindOk o.op = true) (h : effStep P o a w fun v w' => K (a.put o.dst v) w') : o.wpIn (FR ro.ro) 0 P a w K Q := by
  refine ⟨fun f _ => fr_fn f, ?_⟩
  rw [Oper.semAt_eq _ _ _ (fun c hc => by rw [hc] at hk; cases hk)]
  unfold effStep at h
  generalize (execOp a.eval o).run P w = r at h
  cases r with
  | halt x w' => exact h.elim
  | ok x w' =>
    cases x <;> first | exact h | (exact h.elim) | skip
    case enter f args =>
      refine ⟨fun hx => by simp [Fence.wide] at hx, callsIn_FR (Calls.mono h ?_)⟩
      rintro x w' ⟨v, rfl, hK⟩
      exact hK
    case round l f tmps assign body =>
      refine ⟨fun hx => by simp [Fence.wide] at hx, RoundIn.mono (h ro.ro) ?_⟩
      rintro x w' ⟨v, rfl, hK⟩
      exact hK

/-- The text's order. -/
def wpFl (P : Program) (ops : Array Oper) (C : World → Prop) (K : Act → World → Prop) : List Nat → Act → World → Prop
  | [], a, w => K a w
  | i :: rest, a, w => match ops[i]? with
    | none => wpFl P ops C K rest a w
    | some o => if Region.wanted o (yielded ops a.tmps) = true then
        (if eff o.op = true then effStep P o a w (fun v w' => C w' ∧ wpFl P ops C K rest (a.put o.dst v) w')
         else ∃ v, (∀ w', C w' → (execOp a.eval o).run P w' = .ok (.value v) w') ∧ wpFl P ops C K rest (a.put o.dst v) w)
      else wpFl P ops C K rest (a.put o.dst undef) w

theorem exec_put {o : Oper} (hk : kindOk o.op = true) (a : Act) (dst : Option Tmp) (v : Value) (h : ∀ d, dst = some d → d ∉ o.looksAt ops) : execOp (a.put dst v).eval o = execOp a.eval o :=
  execOp_put o (fun cs b hc => by rw [hc] at hk; cases hk) a dst v h

variable {K : Act → World → Prop}

/-- Operation j, not acting, may be taken first. -/
theorem fl_swap_quiet (hF : FlOk ops) {j : Nat} {oj : Oper} (hj : ops[j]? = some oj) (hne : eff oj.op = false) : ∀ (l1 l2 : List Nat) (a : Act) (w : World),
    (∀ i ∈ l1, ∀ oi, ops[i]? = some oi → oi.apart ops oj = true) → Region.wanted oj (yielded ops a.tmps) = true → C w → wpFl P ops C K (l1 ++ j :: l2) a w →
    ∃ v, (∀ w', C w' → (execOp a.eval oj).run P w' = .ok (.value v) w') ∧ wpFl P ops C K (l1 ++ l2) (a.put oj.dst v) w := by
  intro l1
  induction l1 with
  | nil =>
    intro l2 a w _ hw hC h
    simp only [List.nil_append, wpFl, hj, hw, if_true, hne] at h
    simpa using h
  | cons i l1 ih =>
    intro l2 a w hap hw hC h
    have ih' := fun a w => ih l2 a w (fun i' hi' => hap i' (List.mem_cons_of_mem _ hi'))
    simp only [List.cons_append, wpFl] at h ⊢
    cases hi : ops[i]? with
    | none => simp only [hi] at h ⊢; exact ih' a w hw hC h
    | some oi =>
      simp only [hi] at h ⊢
      obtain ⟨p1, p2, p3⟩ := Oper.apart_spec (hap i List.mem_cons_self oi hi)
      have kj := hF.kind j oj hj
      have ki := hF.kind i oi hi
      have ej : ∀ (a : Act) v, execOp (a.put oi.dst v).eval oj = execOp a.eval oj := fun a v => exec_put kj a oi.dst v p1
      have ei : ∀ (a : Act) v, execOp (a.put oj.dst v).eval oi = execOp a.eval oi := fun a v => exec_put ki a oj.dst v p3
      have wj : ∀ (a : Act) v, Region.wanted oj (yielded ops (a.put oi.dst v).tmps) = Region.wanted oj (yielded ops a.tmps) := fun a v => wanted_put oj a oi.dst v p1
      have wi : ∀ (a : Act) v, Region.wanted oi (yielded ops (a.put oj.dst v).tmps) = Region.wanted oi (yielded ops a.tmps) := fun a v => wanted_put oi a oj.dst v p3
      have cm : ∀ (a : Act) u v, (a.put oi.dst u).put oj.dst v = (a.put oj.dst v).put oi.dst u := fun a u v => Act.put_comm a u v p2
      by_cases hwi : Region.wanted oi (yielded ops a.tmps) = true
      · simp only [hwi, if_true] at h
        by_cases he : eff oi.op = true
        · simp only [he, if_true] at h
          obtain ⟨v0, w0, hC0, h0⟩ := h.some
          obtain ⟨v, hv, _⟩ := ih' _ w0 (by rw [wj]; exact hw) hC0 h0
          simp only [ej] at hv
          refine ⟨v, hv, ?_⟩
          rw [wi]
          simp only [hwi, if_true, he]
          have h1 : effStep P oi (a.put oj.dst v) w (fun u w' => C w' ∧ wpFl P ops C K (l1 ++ j :: l2) (a.put oi.dst u) w') := by
            unfold effStep at h ⊢
            rw [ei]
            exact h
          refine h1.mono fun u w' ⟨hC', h2⟩ => ⟨hC', ?_⟩
          obtain ⟨v', hv', h3⟩ := ih' _ w' (by rw [wj]; exact hw) hC' h2
          simp only [ej] at hv'
          have e1 := hv w hC
          have e2 := hv' w hC
          rw [e1] at e2
          have : v = v' := by simpa using e2
          subst this
          rw [cm] at h3
          exact h3
        · simp only [he] at h
          obtain ⟨u, hu, h⟩ := h
          obtain ⟨v, hv, h3⟩ := ih' _ w (by rw [wj]; exact hw) hC h
          simp only [ej] at hv
          refine ⟨v, hv, ?_⟩
          rw [wi]
          simp only [hwi, if_true, he]
          refine ⟨u, fun w' hC' => by rw [ei]; exact hu w' hC', ?_⟩
          rw [cm] at h3
          exact h3
      · simp only [hwi] at h
        obtain ⟨v, hv, h3⟩ := ih' _ w (by rw [wj]; exact hw) hC h
        simp only [ej] at hv
        refine ⟨v, hv, ?_⟩
        rw [wi]
        simp only [hwi]
        rw [cm] at h3
        exact h3

/-- .. and so one that is not wanted. -/
theorem fl_swap_skip (hF : FlOk ops) {j : Nat} {oj : Oper} (hj : ops[j]? = some oj) : ∀ (l1 l2 : List Nat) (a : Act) (w : World),
    (∀ i ∈ l1, ∀ oi, ops[i]? = some oi → oi.apart ops oj = true) → Region.wanted oj (yielded ops a.tmps) = false → wpFl P ops C K (l1 ++ j :: l2) a w → wpFl P ops C K (l1 ++ l2) (a.put oj.dst undef) w := by
  intro l1
  induction l1 with
  | nil =>
    intro l2 a w _ hw h
    simp only [List.nil_append, wpFl, hj, hw] at h
    simpa using h
  | cons i l1 ih =>
    intro l2 a w hap hw h
    have ih' := fun a w => ih l2 a w (fun i' hi' => hap i' (List.mem_cons_of_mem _ hi'))
    simp only [List.cons_append, wpFl] at h ⊢
    cases hi : ops[i]? with
    | none => simp only [hi] at h ⊢; exact ih' a w hw h
    | some oi =>
      simp only [hi] at h ⊢
      obtain ⟨p1, p2, p3⟩ := Oper.apart_spec (hap i List.mem_cons_self oi hi)
      have ki := hF.kind i oi hi
      have ei : ∀ (a : Act) v, execOp (a.put oj.dst v).eval oi = execOp a.eval oi := fun a v => exec_put ki a oj.dst v p3
      have wj : ∀ (a : Act) v, Region.wanted oj (yielded ops (a.put oi.dst v).tmps) = Region.wanted oj (yielded ops a.tmps) := fun a v => wanted_put oj a oi.dst v p1
      have wi : ∀ (a : Act) v, Region.wanted oi (yielded ops (a.put oj.dst v).tmps) = Region.wanted oi (yielded ops a.tmps) := fun a v => wanted_put oi a oj.dst v p3
      have cm : ∀ (a : Act) u v, (a.put oi.dst u).put oj.dst v = (a.put oj.dst v).put oi.dst u := fun a u v => Act.put_comm a u v p2
      rw [wi]
      by_cases hwi : Region.wanted oi (yielded ops a.tmps) = true
      · simp only [hwi, if_true] at h ⊢
        by_cases he : eff oi.op = true
        · simp only [he, if_true] at h ⊢
          have h1 : effStep P oi (a.put oj.dst undef) w (fun u w' => C w' ∧ wpFl P ops C K (l1 ++ j :: l2) (a.put oi.dst u) w') := by
            unfold effStep at h ⊢
            rw [ei]
            exact h
          refine h1.mono fun u w' ⟨hC', h2⟩ => ⟨hC', ?_⟩
          have h3 := ih' _ w' (by rw [wj]; exact hw) h2
          rw [cm] at h3
          exact h3
        · simp only [he] at h ⊢
          obtain ⟨u, hu, h⟩ := h
          have h3 := ih' _ w (by rw [wj]; exact hw) h
          refine ⟨u, fun w' hC' => by rw [ei]; exact hu w' hC', ?_⟩
          rw [cm] at h3
          exact h3
      · simp only [hwi] at h ⊢
        have h3 := ih' _ w (by rw [wj]; exact hw) h
        rw [cm] at h3
        exact h3

/-- .. and one that acts, where nothing ahead of it acts. -/
theorem fl_swap_eff (hF : FlOk ops) {j : Nat} {oj : Oper} (hj : ops[j]? = some oj) (he : eff oj.op = true) : ∀ (l1 l2 : List Nat) (a : Act) (w : World),
    (∀ i ∈ l1, ∀ oi, ops[i]? = some oi → oi.apart ops oj = true ∧ eff oi.op = false) → Region.wanted oj (yielded ops a.tmps) = true → wpFl P ops C K (l1 ++ j :: l2) a w →
    effStep P oj a w (fun v w' => C w' ∧ wpFl P ops C K (l1 ++ l2) (a.put oj.dst v) w') := by
  intro l1
  induction l1 with
  | nil =>
    intro l2 a w _ hw h
    simp only [List.nil_append, wpFl, hj, hw, if_true, he] at h
    simpa using h
  | cons i l1 ih =>
    intro l2 a w hap hw h
    have ih' := fun a w => ih l2 a w (fun i' hi' => hap i' (List.mem_cons_of_mem _ hi'))
    simp only [List.cons_append, wpFl] at h ⊢
    cases hi : ops[i]? with
    | none => simp only [hi] at h ⊢; exact ih' a w hw h
    | some oi =>
      simp only [hi] at h ⊢
      obtain ⟨hap', hei⟩ := hap i List.mem_cons_self oi hi
      obtain ⟨p1, p2, p3⟩ := Oper.apart_spec hap'
      have kj := hF.kind j oj hj
      have ki := hF.kind i oi hi
      have ej : ∀ (a : Act) v, execOp (a.put oi.dst v).eval oj = execOp a.eval oj := fun a v => exec_put kj a oi.dst v p1
      have ei : ∀ (a : Act) v, execOp (a.put oj.dst v).eval oi = execOp a.eval oi := fun a v => exec_put ki a oj.dst v p3
      have wj : ∀ (a : Act) v, Region.wanted oj (yielded ops (a.put oi.dst v).tmps) = Region.wanted oj (yielded ops a.tmps) := fun a v => wanted_put oj a oi.dst v p1
      have wi : ∀ (a : Act) v, Region.wanted oi (yielded ops (a.put oj.dst v).tmps) = Region.wanted oi (yielded ops a.tmps) := fun a v => wanted_put oi a oj.dst v p3
      have cm : ∀ (a : Act) u v, (a.put oi.dst u).put oj.dst v = (a.put oj.dst v).put oi.dst u := fun a u v => Act.put_comm a u v p2
      by_cases hwi : Region.wanted oi (yielded ops a.tmps) = true
      · simp only [hwi, if_true, hei] at h
        simp only [Bool.false_eq_true, if_false] at h
        obtain ⟨u, hu, h⟩ := h
        have h3 := ih' _ w (by rw [wj]; exact hw) h
        have h4 : effStep P oj a w (fun v w' => C w' ∧ wpFl P ops C K (l1 ++ l2) ((a.put oi.dst u).put oj.dst v) w') := by
          unfold effStep at h3 ⊢
          rw [ej] at h3
          exact h3
        refine h4.mono fun v w' ⟨hC', h5⟩ => ⟨hC', ?_⟩
        rw [wi]
        simp only [hwi, if_true, hei, Bool.false_eq_true, if_false]
        refine ⟨u, fun w' hC' => by rw [ei]; exact hu w' hC', ?_⟩
        rw [cm] at h5
        exact h5
      · simp only [hwi] at h
        simp only [Bool.false_eq_true, if_false] at h
        have h3 := ih' _ w (by rw [wj]; exact hw) h
        have h4 : effStep P oj a w (fun v w' => C w' ∧ wpFl P ops C K (l1 ++ l2) ((a.put oi.dst undef).put oj.dst v) w') := by
          unfold effStep at h3 ⊢
          rw [ej] at h3
          exact h3
        refine h4.mono fun v w' ⟨hC', h5⟩ => ⟨hC', ?_⟩
        rw [wi]
        simp only [hwi, Bool.false_eq_true, if_false]
        rw [cm] at h5
        exact h5


variable {ro : Cx} {Q : Fin}

/-- From the text's order to every order: R is what is left, in the text's order. -/
theorem any_of_fl (hF : FlOk ops) (hK : ∀ a w, C w → K a w → Q .normal a w) : ∀ (fuel : Nat) (R : List Nat) (listed : Array Bool) (a : Act) (w : World),
    R.length = fuel → listed.size = ops.size → R.Pairwise (· < ·) → (∀ i, i ∈ R ↔ i < ops.size ∧ listed.getD i true = false) →
    (∀ (m : Nat) o, ops[m]? = some o → listed.getD m false = true → ∀ e ∈ o.after, Region.binds .any e = true → listed.getD e.on false = true) →
    C w → wpFl P ops C K R a w → wpAnyIn (FR ro.ro) 0 P .any ops Q fuel listed a w := by
  intro fuel
  induction fuel with
  | zero =>
    intro R listed a w hl hsz hR hmem hcl hC h
    have : R = [] := by simpa using hl
    subst this
    refine ⟨?_, hK _ _ hC h⟩
    refine List.eq_nil_iff_forall_not_mem.2 fun i hi => ?_
    obtain ⟨h0, o, ho, _⟩ := mem_ready.1 hi
    exact absurd ((hmem i).2 ⟨(Array.getElem?_eq_some_iff.1 ho).1, h0⟩) (by simp)
  | succ fuel ih =>
    intro R listed a w hl hsz hR hmem hcl hC h
    refine ⟨fun h0 => ?_, fun j hj => ?_⟩
    · -- nothing is ready: but the first of R waits for earlier ones alone, all of which are listed
      exfalso
      cases R with
      | nil => simp at hl
      | cons i R =>
        obtain ⟨hi1, hi2⟩ := (hmem i).1 List.mem_cons_self
        have hrd : i ∈ Region.ready .any ops listed := by
          refine mem_ready.2 ⟨hi2, ops[i], Array.getElem?_eq_getElem hi1, fun e he hb => ?_⟩
          have hlt := hF.back i _ (Array.getElem?_eq_getElem hi1) e he hb
          have hnot : e.on ∉ i :: R := by
            intro hx
            rcases List.mem_cons.1 hx with hx | hx
            · omega
            · have := List.rel_of_pairwise_cons hR hx
              omega
          have h3 : ¬ (e.on < ops.size ∧ listed.getD e.on true = false) := fun hx => hnot ((hmem _).2 hx)
          have h4 : e.on < listed.size := by omega
          simp only [Array.getD_eq_getD_getElem?, Array.getElem?_eq_getElem h4, Option.getD_some] at h3 ⊢
          cases hc : listed[e.on] with
          | true => rfl
          | false => exact absurd ⟨by omega, hc⟩ h3
        rw [h0] at hrd
        cases hrd
    · obtain ⟨h0, oj, hoj, hre⟩ := mem_ready.1 hj
      have hjR : j ∈ R := (hmem j).2 ⟨(Array.getElem?_eq_some_iff.1 hoj).1, h0⟩
      obtain ⟨l1, l2, rfl⟩ := List.append_of_mem hjR
      have hlt1 : ∀ i ∈ l1, i < j := fun i hi => (List.pairwise_append.1 hR).2.2 i hi j (by simp)
      have hjl : listed.getD j false = true → False := fun hx => by
        simp only [Array.getD_eq_getD_getElem?] at hx h0
        cases hc : listed[j]? <;> simp [hc] at hx h0
        simp [hx] at h0
      have hun : ∀ i ∈ l1, ((masks ops.toList).getD j 0).testBit i = false := fun i hi => by
        cases hb : ((masks ops.toList).getD j 0).testBit i with
        | false => rfl
        | true =>
          have h1 := masks_spec (D := fun m => listed.getD m false = true) (fun m o hm hD e he hb => hcl m o hm hD e he hb) j oj hoj (fun e he hb => hre e he hb) i hb
          have h2 := ((hmem i).1 (by simp [hi])).2
          simp only [Array.getD_eq_getD_getElem?] at h1 h2
          cases hc : listed[i]? <;> simp [hc] at h1 h2
          simp [h1] at h2
      have hpair : ∀ i ∈ l1, ∀ oi, ops[i]? = some oi → oi.apart ops oj = true ∧ (eff oi.op = true → eff oj.op = true → False) := fun i hi oi hoi => by
        rcases hF.pair i j oi oj (hlt1 i hi) hoi hoj with h1 | h1
        · rw [hun i hi] at h1; cases h1
        · exact h1
      have next : ∀ a w, C w → wpFl P ops C K (l1 ++ l2) a w → wpAnyIn (FR ro.ro) 0 P .any ops Q fuel (listed.setIfInBounds j true) a w := by
        intro a w hC h
        refine ih (l1 ++ l2) _ a w ?_ (by simp [hsz]) ?_ ?_ ?_ hC h
        · simp at hl ⊢; omega
        · exact hR.sublist (List.Sublist.append_left (List.sublist_cons_self _ _) _)
        · intro i
          have hnd : j ∉ l1 ++ l2 := by
            intro hx
            rcases List.mem_append.1 hx with hx | hx
            · exact absurd (hlt1 j hx) (by omega)
            · have := (List.pairwise_append.1 hR).2.1
              have := List.rel_of_pairwise_cons this hx
              omega
          constructor
          · intro hi
            have hne : j ≠ i := fun e => hnd (e ▸ hi)
            have h1 := (hmem i).1 (by rcases List.mem_append.1 hi with hi | hi <;> simp [hi])
            exact ⟨h1.1, by rw [getD_set_ne true hne]; exact h1.2⟩
          · rintro ⟨h1, h2⟩
            have hne : j ≠ i := fun e => by
              subst e
              simp [hsz, h1] at h2
            rw [getD_set_ne true hne] at h2
            have := (hmem i).2 ⟨h1, h2⟩
            rcases List.mem_append.1 this with hx | hx
            · exact List.mem_append.2 (.inl hx)
            · rcases List.mem_cons.1 hx with hx | hx
              · exact absurd hx.symm hne
              · exact List.mem_append.2 (.inr hx)
        · intro m o hm hD e he hb
          by_cases hmj : j = m
          · subst hmj
            rw [hoj] at hm
            obtain rfl := Option.some.inj hm
            exact getD_set_true (hre e he hb)
          · rw [getD_set_ne false hmj] at hD
            exact getD_set_true (hcl m o hm hD e he hb)
      unfold wpOpIn
      simp only [hoj]
      by_cases hw : Region.wanted oj (yielded ops a.tmps) = true
      · simp only [hw, if_true]
        cases he : eff oj.op with
        | true =>
          have h1 := fl_swap_eff hF hoj he l1 l2 a w (fun i hi oi hoi => ⟨(hpair i hi oi hoi).1, by
            cases hx : eff oi.op with
            | false => rfl
            | true => exact ((hpair i hi oi hoi).2 hx he).elim⟩) hw h
          exact effStep.wpIn (hF.kind j oj hoj) (h1.mono fun v w' ⟨hC', h2⟩ => next _ _ hC' h2)
        | false =>
          obtain ⟨v, hv, h2⟩ := fl_swap_quiet hF hoj he l1 l2 a w (fun i hi oi hoi => (hpair i hi oi hoi).1) hw hC h
          exact upon_FR (fun c hc => by have := hF.kind j oj hoj; rw [hc] at this; cases this) (hv w hC) (next _ _ hC h2)
      · have hw' : Region.wanted oj (yielded ops a.tmps) = false := by simpa using hw
        simp only [hw', Bool.false_eq_true, if_false]
        exact ⟨fun f _ => fr_fn f, next _ _ hC (fl_swap_skip hF hoj l1 l2 a w (fun i hi oi hoi => (hpair i hi oi hoi).1) hw' h)⟩


/-- **A region that draws its order, by the text's order.** -/
theorem wpIn_region_fl {id : Nat} {a : Act} {w : World} (hm : P.follows .mixedOrders = true) (hF : FlOk ops) (hC : C { w with drawn := w.drawn + 1 })
    (hK : ∀ a w, C w → K a w → Q .normal a w) (h : wpFl P ops C K (List.range ops.size) a { w with drawn := w.drawn + 1 }) : (Code.region id ops true).wpIn (FR ro.ro) 0 P Q a w := by
  refine wpIn_region_any hm (any_of_fl hF hK ops.size (List.range ops.size) _ a _ (by simp) (by simp) List.pairwise_lt_range ?_ ?_ hC h)
  · intro i
    simp only [List.mem_range]
    constructor
    · intro hi
      exact ⟨hi, by simp [hi]⟩
    · exact fun hi => hi.1
  · intro m o _ hD
    simp only [Array.getD_eq_getD_getElem?, Array.getElem?_replicate] at hD
    split at hD <;> simp at hD

end
end Go.Eng

/- The engine, part 6: the rules for a region that draws its order. -/
namespace Go.Eng
open Go Go.RowKit

section
variable {P : Program} {T : Tab} {ops : Array Oper} {C : World → Prop}

def wpFlL (P : Program) (ops : Array Oper) (C : World → Prop) (K : Act → World → Prop) : List Oper → Act → World → Prop
  | [], a, w => K a w
  | o :: rest, a, w => if Region.wanted o (yielded ops a.tmps) = true then
        (if eff o.op = true then effStep P o a w (fun v w' => C w' ∧ wpFlL P ops C K rest (a.put o.dst v) w')
         else ∃ v, (∀ w', C w' → (execOp a.eval o).run P w' = .ok (.value v) w') ∧ wpFlL P ops C K rest (a.put o.dst v) w)
      else wpFlL P ops C K rest (a.put o.dst undef) w

theorem wpFl_eq {K : Act → World → Prop} (l : List Oper) : ∀ k, (∀ j, l[j]? = ops[k + j]?) → wpFl P ops C K (List.range' k l.length) = wpFlL P ops C K l := by
  induction l with
  | nil => intro k _; funext a w; simp [wpFl, wpFlL]
  | cons o l ih =>
    intro k h
    have h0 : ops[k]? = some o := by simpa using (h 0).symm
    have ih' := ih (k + 1) (fun j => by have := h (j + 1); simpa [Nat.add_assoc, Nat.add_comm 1 j] using this)
    funext a w
    simp only [List.length_cons, List.range'_succ, wpFl, h0, wpFlL, ih']

variable {ro : Cx} {n : Nat} {F : Fin} {k : List It} {l rest : List Oper} {e : Env} {w : World} {o : Oper}

/-- What is left of a region that draws its order. -/
def YF (P : Program) (ro : Cx) (n : Nat) (F : Fin) (k : List It) (ops : Array Oper) (C : World → Prop) (l : List Oper) (e : Env) (w : World) : Prop :=
  ∀ a, Fits n e a → a.defers = ro.ds → wpFlL P ops C (fun a w => S P ro.ro F k .normal a w) l a w

theorem yf_nil (h : Y P ro n F k e w) : YF P ro n F k ops C [] e w := h

/-- An operation that only looks. -/
theorem yf_quiet {t : Nat} {v : Value} {op : Op} {ty : TypeId} {pos : String} {af : Array Edge} (he : eff op = false) (ht : Nat.blt t n = true)
    (hr : ∀ a, Fits n e a → ∀ w', C w' → (execOp a.eval ⟨some t, op, ty, pos, af, none⟩).run P w' = .ok (.value v) w') (h : YF P ro n F k ops C rest ((t, v) :: e) w) :
    YF P ro n F k ops C (⟨some t, op, ty, pos, af, none⟩ :: rest) e w := fun a hf hd => by
  simp only [wpFlL, Region.wanted, if_true, he, Bool.false_eq_true, if_false]
  exact ⟨v, hr a hf, h _ (hf.put v ht) (by simpa [Act.put] using hd)⟩

theorem yf_pure (hT : T.Ok P) {t : Nat} {v : Value} {op : Op} {ty : TypeId} {pos : String} {af : Array Edge} (hv : evp T e op = some v) (he : eff op = false) (ht : Nat.blt t n = true)
    (h : YF P ro n F k ops C rest ((t, v) :: e) w) : YF P ro n F k ops C (⟨some t, op, ty, pos, af, none⟩ :: rest) e w :=
  yf_quiet he ht (fun _ hf w' _ => evp_run hT hf hv w') h

theorem yf_load1 (hT : T.Ok P) {d t : Nat} {x : Operand} {ad : Addr} {v : Value} {ty : TypeId} {pos : String} {af : Array Edge}
    (hx : opv e x = some (.pointer (some ad))) (h1 : has T.one t = true) (hd : Nat.blt d n = true) (hc : ∀ w', C w' → w'.cell? ad = some v)
    (h : YF P ro n F k ops C rest ((d, v) :: e) w) : YF P ro n F k ops C (⟨some d, .load t x, ty, pos, af, none⟩ :: rest) e w :=
  yf_quiet rfl hd (fun a hf w' hw' => by
    have e1 := hf.op hx
    obtain ⟨r1, _⟩ := one_run hT h1 w'
    simp only [execOp, e1]
    simp [Instr.loadAt, Instr.sureAddr, loadVar, r1, load, Sem.run, hc w' hw']) h

theorem yf_loadA (hT : T.Ok P) {d t m : Nat} {x : Operand} {b off : Nat} {cs : List Value} {ty : TypeId} {pos : String} {af : Array Edge}
    (hx : opv e x = some (.pointer (some ⟨b, off, none⟩))) (h1 : find1 T.agg t = some m) (hd : Nat.blt d n = true) (hl : cs.length = m) (hc : ∀ w', C w' → ∀ j, j < m → w'.cell? ⟨b, off + j, none⟩ = cs[j]?)
    (h : YF P ro n F k ops C rest ((d, .agg cs.toArray) :: e) w) : YF P ro n F k ops C (⟨some d, .load t x, ty, pos, af, none⟩ :: rest) e w :=
  yf_quiet rfl hd (fun a hf w' hw' => by
    have e1 := hf.op hx
    obtain ⟨r1, r2⟩ := agg_run hT h1 w'
    have r3 := loadCellsFrom_run (P := P) w' ⟨b, off, none⟩ m 0 #[] cs hl (fun j hj => by rw [Nat.zero_add, Addr.add_lit]; exact hc w' hw' j hj)
    simp only [execOp, e1]
    simp [Instr.loadAt, Instr.sureAddr, loadVar, loadCells, r1, r2, r3]) h

theorem yf_index (hT : T.Ok P) {d t et sz : Nat} {x ix : Operand} {b off len cap : Nat} {ik : IntKind} {i : Int} {ty : TypeId} {pos : String} {af : Array Edge}
    (hx : opv e x = some (.slice (some ⟨b, off, none⟩) len cap)) (hi : opv e ix = some (.int ik i)) (hs : find1 T.esz t = some (et, sz)) (hsl : has T.len t = true) (hd : Nat.blt d n = true) (h0 : 0 ≤ i) (h1 : i < len)
    (h : YF P ro n F k ops C rest ((d, .pointer (some ⟨b, off + i.toNat * sz, none⟩)) :: e) w) : YF P ro n F k ops C (⟨some d, .indexAddr t x ix, ty, pos, af, none⟩ :: rest) e w :=
  yf_quiet rfl hd (fun a hf w' _ => by
    have e1 := hf.op hx
    have e2 := hf.op hi
    have hsz := hT.esz _ _ _ hs
    have hl := hT.len _ hsl
    simp only [eszB, Bool.and_eq_true] at hsz
    simp only [lenB] at hl
    obtain ⟨ha, hb⟩ := hsz
    split at hl
    · rename_i el hu
      rw [hu] at ha
      have he := Nat.eq_of_beq_eq_true ha
      subst he
      split at hb
      · rename_i inf hinf
        have hsz := Nat.eq_of_beq_eq_true hb
        simp only [execOp, e1, e2]
        simp [Instr.indexAt, asIntOf, run_underlying hu, h0, h1, sizeOf, typeInfo, hinf, hsz, Addr.add_lit]
      · cases hb
    · cases hl) h

theorem yf_rem {d t t' : Nat} {x y : Operand} {kd : IntKind} {p q : Int} {ty : TypeId} {pos : String} {af : Array Edge}
    (hx : opv e x = some (.int kd p)) (hy : opv e y = some (.int kd q)) (hq : q ≠ 0) (hd : Nat.blt d n = true)
    (h : YF P ro n F k ops C rest ((d, .int kd (p.tmod q)) :: e) w) : YF P ro n F k ops C (⟨some d, .binOp .rem t x y t', ty, pos, af, none⟩ :: rest) e w :=
  yf_quiet rfl hd (fun a hf w' _ => by
    have e1 := hf.op hx
    have e2 := hf.op hy
    simp only [execOp, e1, e2]
    simp [eqGuard, binOp, Op.intDiv, hq]) h

theorem yf_build {d t : Nat} {parts : List (Nat × Operand)} {v : Value} {us : List Value} {ty : TypeId} {pos : String} {af : Array Edge}
    (hp : opvs e (parts.map (·.2)) = some us) (hb : ∀ w, (Instr.build t ((parts.map (·.1)).zip us).toArray).run P w = .ok v w) (hd : Nat.blt d n = true)
    (h : YF P ro n F k ops C rest ((d, v) :: e) w) : YF P ro n F k ops C (⟨some d, .build t parts.toArray, ty, pos, af, none⟩ :: rest) e w :=
  yf_quiet rfl hd (fun a hf w' _ => by
    have e1 := hf.ops hp
    have e2 : (parts.toArray.map fun (x : Nat × Operand) => (x.1, a.eval x.2)) = ((parts.map (·.1)).zip us).toArray := by
      rw [← e1]
      simp only [List.map_toArray]
      congr 1
      clear hp hb h e1
      induction parts with
      | nil => rfl
      | cons p ps ih => simp [ih]
    simp only [execOp]
    rw [e2]
    simp [hb w']) h

theorem yf_guard_yes {dst : Option Nat} {op : Op} {ty : TypeId} {pos : String} {af : Array Edge} {j : Nat} {b : Bool} (hg : guardV ops e j = some b)
    (h : YF P ro n F k ops C (⟨dst, op, ty, pos, af, none⟩ :: rest) e w) : YF P ro n F k ops C (⟨dst, op, ty, pos, af, some (j, b)⟩ :: rest) e w := fun a hf hd => by
  have h1 := h a hf hd
  have hy := guardV_yielded hf hg
  simp only [wpFlL, Region.wanted, if_true] at h1
  simp only [wpFlL, Region.wanted, hy, beq_self_eq_true, if_true]
  exact h1

theorem yf_guard_no {t : Nat} {op : Op} {ty : TypeId} {pos : String} {af : Array Edge} {j : Nat} {b c : Bool} (hg : guardV ops e j = some c) (hne : (c == b) = false) (ht : Nat.blt t n = true)
    (h : YF P ro n F k ops C rest ((t, undef) :: e) w) : YF P ro n F k ops C (⟨some t, op, ty, pos, af, some (j, b)⟩ :: rest) e w := fun a hf hd => by
  have hy := guardV_yielded hf hg
  have hw : (some c == some b) = false := by simpa using hne
  simp only [wpFlL, Region.wanted, hy, hw]
  exact h _ (hf.put undef ht) (by simpa [Act.put] using hd)

theorem yl_dec {t : Nat} {b : Bool} (hl : look e t = some (.bool b)) (hy : b = true → YL P ro n F k ops l ((t, .bool true) :: e) w) (hn : b = false → YL P ro n F k ops l ((t, .bool false) :: e) w) :
    YL P ro n F k ops l e w := fun a hf hd => by
  have key : ∀ c, b = c → Fits n ((t, .bool c) :: e) a := fun c hc => ⟨hf.size, fun s v hs => by
    subst hc
    simp only [look] at hs
    cases hb : Nat.beq t s with
    | true =>
      rw [hb] at hs
      have := Nat.eq_of_beq_eq_true hb
      subst this
      simp at hs
      subst hs
      exact hf.at_ t _ hl
    | false => rw [hb] at hs; exact hf.at_ s v hs⟩
  cases hb : b with
  | true => exact hy hb a (key _ hb) hd
  | false => exact hn hb a (key _ hb) hd

def guardT (ops : Array Oper) (j : Nat) : Option Nat := (ops[j]?).bind (·.dst)

theorem yl_split {dst : Option Nat} {op : Op} {ty : TypeId} {pos : String} {af : Array Edge} {j t : Nat} {b c : Bool} (_hg : guardT ops j = some t) (hl : look e t = some (.bool b))
    (hy : b = true → YL P ro n F k ops (⟨dst, op, ty, pos, af, some (j, c)⟩ :: rest) ((t, .bool true) :: e) w) (hn : b = false → YL P ro n F k ops (⟨dst, op, ty, pos, af, some (j, c)⟩ :: rest) ((t, .bool false) :: e) w) :
    YL P ro n F k ops (⟨dst, op, ty, pos, af, some (j, c)⟩ :: rest) e w := yl_dec hl hy hn

/-- An operation that acts. -/
theorem yf_eff {t : Nat} {v : Value} {w' : World} {op : Op} {ty : TypeId} {pos : String} {af : Array Edge} (he : eff op = true) (ht : Nat.blt t n = true)
    (hr : ∀ a, Fits n e a → (execOp a.eval ⟨some t, op, ty, pos, af, none⟩).run P w = .ok (.value v) w') (hC : C w') (h : YF P ro n F k ops C rest ((t, v) :: e) w') :
    YF P ro n F k ops C (⟨some t, op, ty, pos, af, none⟩ :: rest) e w := fun a hf hd => by
  simp only [wpFlL, Region.wanted, if_true, he, effStep, hr a hf]
  exact ⟨hC, h _ (hf.put v ht) (by simpa [Act.put] using hd)⟩

theorem yf_do {w' : World} {op : Op} {ty : TypeId} {pos : String} {af : Array Edge} (he : eff op = true)
    (hr : ∀ a, Fits n e a → (execOp a.eval ⟨none, op, ty, pos, af, none⟩).run P w = .ok .skip w') (hC : C w') (h : YF P ro n F k ops C rest e w') :
    YF P ro n F k ops C (⟨none, op, ty, pos, af, none⟩ :: rest) e w := fun a hf hd => by
  simp only [wpFlL, Region.wanted, if_true, he, effStep, hr a hf]
  exact ⟨hC, h _ hf hd⟩

theorem yf_call (hT : T.Ok P) {t : Nat} {f : Operand} {ars : List Operand} {tys : Array TypeId} {ty : TypeId} {pos : String} {af : Array Edge} {g : Nat} {first caps : Array Value} {vs : List Value} {R : Value → World → Prop}
    (hf : opv e f = some (.func (.func g) first caps)) (hg : has T.fn g = true) (has_ : opvs e ars = some vs) (ht : Nat.blt t n = true)
    (hc : Ca P g (first.toList ++ vs ++ caps.toList) w R) (h : ∀ v w', R v w' → C w' ∧ YF P ro n F k ops C rest ((t, v) :: e) w') :
    YF P ro n F k ops C (⟨some t, .call { callee := .value f, args := ars.toArray, argTypes := tys }, ty, pos, af, none⟩ :: rest) e w := fun a hfit hd => by
  have e1 := hfit.op hf
  have e2 := hfit.ops has_
  have hrun : (execOp a.eval ⟨some t, .call { callee := .value f, args := ars.toArray, argTypes := tys }, ty, pos, af, none⟩).run P w = .ok (.enter g (first.toList ++ vs ++ caps.toList).toArray) w := by
    simp only [execOp, resolve, List.map_toArray, e1, e2, Deferred.ofValue]
    simp [invoke, run_callFunc hT hg]
  have he : eff (.call { callee := .value f, args := ars.toArray, argTypes := tys }) = true := rfl
  simp only [wpFlL, Region.wanted, if_true, he, effStep, hrun]
  refine Calls.mono hc ?_
  rintro x w' ⟨v, rfl, hR⟩
  obtain ⟨h1, h2⟩ := h v w' hR
  exact ⟨v, rfl, h1, h2 _ (hfit.put v ht) (by simpa [Act.put] using hd)⟩

theorem yf_alloc {d t : Nat} {z : Value} {ty : TypeId} {pos : String} {af : Array Edge}
    (hz : (P.info? t).bind (·.zero) = some z) (hd : Nat.blt d n = true)
    (h : ∀ w', Chg [] w w' → w'.heap.size = w.heap.size + 1 → Blk w' w.heap.size z.cells.toList t → C w' ∧ YF P ro n F k ops C rest ((d, .pointer (some ⟨w.heap.size, 0, none⟩)) :: e) w') :
    YF P ro n F k ops C (⟨some d, .alloc t, ty, pos, af, none⟩ :: rest) e w := by
  obtain ⟨h1, h2⟩ := h _ (alloc_chg _ _) (by simp) (alloc_blk w z.cells t)
  exact yf_eff (w' := w.alloc (.cells z.cells t)) rfl hd (fun a hf => by
    cases hi : P.info? t with
    | none => simp [hi] at hz
    | some i =>
      simp [hi] at hz
      simp only [execOp]
      simp [Instr.alloc, zeroValue, typeInfo, hi, hz, newVar, newRow, go_sem]) h1 h2

theorem yf_store1 (hT : T.Ok P) {t : Nat} {x y : Operand} {b i : Nat} {cs : List Value} {bt : TypeId} {v : Value} {ty : TypeId} {pos : String} {af : Array Edge}
    (hx : opv e x = some (.pointer (some ⟨b, i, none⟩))) (hy : opv e y = some v) (h1 : has T.one t = true) (hv : oneV v = true) (hb : Blk w b cs bt) (hi : i < cs.length)
    (h : ∀ w', Chg [b] w w' → w'.heap.size = w.heap.size → Blk w' b (cs.set i v) bt → C w' ∧ YF P ro n F k ops C rest e w') :
    YF P ro n F k ops C (⟨none, .store t x y, ty, pos, af, none⟩ :: rest) e w := by
  obtain ⟨h3, h4⟩ := h (upd w b (.cells (cs.set i v).toArray bt (0, 0))) (upd_chg _ _ _) (upd_size _ _ _) (upd_blk hb.lt)
  exact yf_do rfl (fun a hf => by
    have e1 := hf.op hx
    have e2 := hf.op hy
    obtain ⟨_, r2⟩ := one_run hT h1 w
    have hc := hb.cell i
    rw [List.getElem?_eq_getElem hi] at hc
    have hfr := hb.frozen i
    have hcells : v.cells = #[v] := by cases v <;> first | (simp [oneV] at hv; done) | rfl
    rw [← setCell_blk hb]
    simp only [execOp, e1, e2]
    cases v <;> first | (simp [oneV] at hv; done) | simp [Instr.storeAt, Instr.sureAddr, storeVar, r2, hcells, storeCells, store, Sem.run, hc, hfr, Addr.add_zero']) h3 h4

/-! Conditions -/

theorem y_if {c : Operand} {x y : Code} {p : Prop} [Decidable p] (hc : opv e c = some (.bool (decide p))) (ht : p → Y P ro n F (.code x :: k) e w) (hf : ¬p → Y P ro n F (.code y :: k) e w) :
    Y P ro n F (.code (.cond c x y) :: k) e w := y_cond hc (fun h => ht (of_decide_eq_true h)) (fun h => hf (of_decide_eq_false h))

theorem y_ifn {c : Operand} {x y : Code} {p : Prop} [Decidable p] (hc : opv e c = some (.bool (!decide p))) (ht : ¬p → Y P ro n F (.code x :: k) e w) (hf : p → Y P ro n F (.code y :: k) e w) :
    Y P ro n F (.code (.cond c x y) :: k) e w := y_cond hc (fun h => ht (by simpa using h)) (fun h => hf (by simpa using h))


/-! What stands next: each fails at once where it does not fit. -/

/-! Loads out of blocks of our own -/


theorem yl_loadB (hT : T.Ok P) {d t : Nat} {x : Operand} {b i : Nat} {cs : List Value} {bt : TypeId} {v : Value} {ty : TypeId} {pos : String} {af : Array Edge}
    (hx : opv e x = some (.pointer (some ⟨b, i, none⟩))) (h1 : has T.one t = true) (hd : Nat.blt d n = true) (hb : Blk w b cs bt) (hv : cs[i]? = some v)
    (h : YL P ro n F k ops rest ((d, v) :: e) w) : YL P ro n F k ops (⟨some d, .load t x, ty, pos, af, none⟩ :: rest) e w :=
  yl_load1 hT hx h1 hd ((hb.cell i).trans hv) h

theorem yl_loadAB (hT : T.Ok P) {d t m : Nat} {x : Operand} {b i : Nat} {cs us : List Value} {bt : TypeId} {ty : TypeId} {pos : String} {af : Array Edge}
    (hx : opv e x = some (.pointer (some ⟨b, i, none⟩))) (h1 : find1 T.agg t = some m) (hd : Nat.blt d n = true) (hb : Blk w b cs bt) (hu : (cs.drop i).take m = us) (hl : us.length = m)
    (h : YL P ro n F k ops rest ((d, .agg us.toArray) :: e) w) : YL P ro n F k ops (⟨some d, .load t x, ty, pos, af, none⟩ :: rest) e w :=
  yl_loadA hT hx h1 hd hl (fun j hj => by
    rw [hb.cell, ← hu, List.getElem?_take, if_pos hj, List.getElem?_drop]) h

theorem Rd.cell {w : World} {lo hi : Nat} {b off cap m : Nat} {size : Nat} {cs : List Value} {v : Value} (h : Rd w lo hi v size m cs) (hv : v = .slice (some ⟨b, off, none⟩) m cap) (j : Nat) (hj : j < cs.length) : w.cell? ⟨b, off + j, none⟩ = cs[j]? := by
  obtain ⟨hl, ⟨rfl | ⟨a', cap', rfl⟩, _⟩ | ⟨b', off', cap', rfl, _, hc⟩⟩ := h
  · cases hv
  · cases hv
    rw [hl] at hj
    omega
  · cases hv
    exact hc j hj

end
end Go.Eng

/- The engine, part 7: scopes, arrays, storing a struct, comparing with nil. -/
namespace Go.Eng
open Go Go.RowKit

section
variable {P : Program} {T : Tab} {ops : Array Oper} {C : World → Prop}
variable {ro : Cx} {n : Nat} {F : Fin} {k : List It} {l rest : List Oper} {e : Env} {w : World} {o : Oper}

theorem S_goto_inv {r : Option Nat} {k : List It} {l : Nat} {a : Act} {w : World} (h : S P r F k (.goto l) a w) : F (.goto l) a w := by
  induction k with
  | nil => exact h
  | cons i k ih => cases i <;> exact ih h

theorem y_scope {c : Code} (hF : ∀ l a w, ¬ F (.goto l) a w) {ds : List Deferred} (h : Y P ⟨none, ds⟩ n F (.code c :: k) e w) : Y P ⟨none, ds⟩ n F (.code (.scope c) :: k) e w := fun a hf hd => by
  have h1 : c.wpIn (FR none) 0 P (S P none F k) a w := h a hf hd
  refine (wpIn_wide (n := 0)).2 (wp_scope_straight (Code.wp_mono ?_ ((wpIn_wide (n := 0)).1 h1)))
  intro x a w hx
  cases x <;> first | exact hx | exact hF _ _ _ (S_goto_inv hx)

/-- An array's element. -/
def arrB (P : Program) (t len et sz : Nat) : Bool :=
  (match P.underlying t with | some (.array n e') => Nat.beq n len && Nat.beq e' et | _ => false) && (match P.info? et with | some i => Nat.beq i.size sz | none => false)

theorem run_indexA {t len et sz : Nat} (h : arrB P t len et sz = true) {b off : Nat} {ik : IntKind} {i : Int} (h0 : 0 ≤ i) (h1 : i < len) (w : World) :
    (Instr.indexAt t (.pointer (some ⟨b, off, none⟩)) (.int ik i)).run P w = .ok (.pointer (some ⟨b, off + i.toNat * sz, none⟩)) w := by
  simp only [arrB, Bool.and_eq_true] at h
  obtain ⟨ha, hb⟩ := h
  split at ha
  · rename_i m e' hu
    simp only [Bool.and_eq_true] at ha
    have e1 := Nat.eq_of_beq_eq_true ha.1
    have e2 := Nat.eq_of_beq_eq_true ha.2
    subst e1; subst e2
    split at hb
    · rename_i inf hinf
      have hsz := Nat.eq_of_beq_eq_true hb
      simp [Instr.indexAt, asIntOf, Instr.sureAddr, run_underlying hu, h0, h1, sizeOf, typeInfo, hinf, hsz, Addr.add_lit]
    · cases hb
  · cases ha

theorem yl_indexA {d t et sz len : Nat} {x ix : Operand} {b off : Nat} {ik : IntKind} {i : Int} {ty : TypeId} {pos : String} {af : Array Edge} (hA : arrB P t len et sz = true)
    (hx : opv e x = some (.pointer (some ⟨b, off, none⟩))) (hi : opv e ix = some (.int ik i)) (hd : Nat.blt d n = true) (h0 : 0 ≤ i) (h1 : i < len)
    (h : YL P ro n F k ops rest ((d, .pointer (some ⟨b, off + i.toNat * sz, none⟩)) :: e) w) : YL P ro n F k ops (⟨some d, .indexAddr t x ix, ty, pos, af, none⟩ :: rest) e w :=
  yl_val (by simp) hd (fun a hf => by
    simp only [execOp, hf.op hx, hf.op hi]
    simp [run_indexA hA h0 h1 w]) h

theorem yf_indexA {d t et sz len : Nat} {x ix : Operand} {b off : Nat} {ik : IntKind} {i : Int} {ty : TypeId} {pos : String} {af : Array Edge} (hA : arrB P t len et sz = true)
    (hx : opv e x = some (.pointer (some ⟨b, off, none⟩))) (hi : opv e ix = some (.int ik i)) (hd : Nat.blt d n = true) (h0 : 0 ≤ i) (h1 : i < len)
    (h : YF P ro n F k ops C rest ((d, .pointer (some ⟨b, off + i.toNat * sz, none⟩)) :: e) w) : YF P ro n F k ops C (⟨some d, .indexAddr t x ix, ty, pos, af, none⟩ :: rest) e w :=
  yf_quiet rfl hd (fun a hf w' _ => by
    simp only [execOp, hf.op hx, hf.op hi]
    simp [run_indexA hA h0 h1 w']) h

/-! Storing several cells -/

def setL (cs : List Value) (i : Nat) : List Value → List Value
  | [] => cs
  | u :: us => setL (cs.set i u) (i + 1) us

theorem upd_upd (w : World) (b : Nat) (o o' : Obj) : upd (upd w b o) b o' = upd w b o' := by
  simp only [upd]
  congr 1
  apply Array.ext_getElem?
  intro j
  by_cases h : b = j
  · subst h
    by_cases hlt : b < w.heap.size <;> simp [hlt]
  · simp [Array.getElem?_setIfInBounds_ne h]

theorem upd_same {w : World} {b : Nat} {cs : List Value} {t : TypeId} (h : Blk w b cs t) : upd w b (.cells cs.toArray t (0, 0)) = w := by
  have hlt := h.lt
  unfold Blk at h
  have : w.heap.setIfInBounds b (.cells cs.toArray t (0, 0)) = w.heap := by
    apply Array.ext_getElem?
    intro j
    by_cases hj : b = j
    · subst hj
      have h2 := (Array.getElem?_eq_some_iff.1 h).2
      simp [hlt, h2]
    · simp [Array.getElem?_setIfInBounds_ne hj]
  simp only [upd, this]

theorem storeCells_run (b off : Nat) (bt : TypeId) : ∀ (us : List Value) (i : Nat) (cs : List Value) (w : World), Blk w b cs bt → off + i + us.length ≤ cs.length → (∀ u ∈ us, oneV u = true) →
    (storeCells ⟨b, off, none⟩ us i).run P w = .ok () (upd w b (.cells (setL cs (off + i) us).toArray bt (0, 0)))
  | [], i, cs, w, hb, hl, h1 => by
    simp only [storeCells, setL]
    rw [upd_same hb]
    rfl
  | u :: us, i, cs, w, hb, hl, h1 => by
    have hu := h1 u List.mem_cons_self
    simp only [List.length_cons] at hl
    have hi : off + i < cs.length := by omega
    have hc := hb.cell (off + i)
    rw [List.getElem?_eq_getElem hi] at hc
    have hfr := hb.frozen (off + i)
    have ih := storeCells_run b off bt us (i + 1) (cs.set (off + i) u) (upd w b (.cells (cs.set (off + i) u).toArray bt (0, 0))) (upd_blk hb.lt) (by simp; omega) (fun u' hu' => h1 u' (List.mem_cons_of_mem _ hu'))
    rw [upd_upd] at ih
    simp only [storeCells, setL]
    have hst : (store ((⟨b, off, none⟩ : Addr).add i) u).run P w = .ok () (upd w b (.cells (cs.set (off + i) u).toArray bt (0, 0))) := by
      rw [Addr.add_lit, ← setCell_blk hb]
      cases u <;> first | (simp [oneV] at hu; done) | simp [store, Sem.run, hc, hfr]
    simp [hst, ih, Nat.add_assoc]

theorem run_storeA (hT : T.Ok P) {t m : Nat} (h1 : find1 T.agg t = some m) {b off : Nat} {cs us : List Value} {bt : TypeId} (hb : Blk w b cs bt) (hl : off + m ≤ cs.length) (hm : us.length = m) (h1v : ∀ u ∈ us, oneV u = true) :
    (Instr.storeAt t (.pointer (some ⟨b, off, none⟩)) (.agg us.toArray)).run P w = .ok () (upd w b (.cells (setL cs off us).toArray bt (0, 0))) := by
  obtain ⟨_, r2⟩ := agg_run hT h1 w
  have h2 := storeCells_run (P := P) b off bt us 0 cs w hb (by omega) h1v
  simp [Instr.storeAt, Instr.sureAddr, storeVar, r2, Value.cells, hm, h2]

theorem yl_storeA (hT : T.Ok P) {t m : Nat} {x y : Operand} {b off : Nat} {cs us : List Value} {bt : TypeId} {ty : TypeId} {pos : String} {af : Array Edge}
    (hx : opv e x = some (.pointer (some ⟨b, off, none⟩))) (hy : opv e y = some (.agg us.toArray)) (h1 : find1 T.agg t = some m) (hm : us.length = m) (h1v : ∀ u ∈ us, oneV u = true) (hb : Blk w b cs bt) (hl : off + m ≤ cs.length)
    (h : ∀ w', Chg [b] w w' → w'.heap.size = w.heap.size → Blk w' b (setL cs off us) bt → YL P ro n F k ops rest e w') :
    YL P ro n F k ops (⟨none, .store t x y, ty, pos, af, none⟩ :: rest) e w :=
  yl_do (by simp) (fun a hf => by
    simp only [execOp, hf.op hx, hf.op hy]
    simp [run_storeA hT h1 hb hl hm h1v]) (h _ (upd_chg _ _ _) (upd_size _ _ _) (upd_blk hb.lt))

theorem yf_storeA (hT : T.Ok P) {t m : Nat} {x y : Operand} {b off : Nat} {cs us : List Value} {bt : TypeId} {ty : TypeId} {pos : String} {af : Array Edge}
    (hx : opv e x = some (.pointer (some ⟨b, off, none⟩))) (hy : opv e y = some (.agg us.toArray)) (h1 : find1 T.agg t = some m) (hm : us.length = m) (h1v : ∀ u ∈ us, oneV u = true) (hb : Blk w b cs bt) (hl : off + m ≤ cs.length)
    (h : ∀ w', Chg [b] w w' → w'.heap.size = w.heap.size → Blk w' b (setL cs off us) bt → C w' ∧ YF P ro n F k ops C rest e w') :
    YF P ro n F k ops C (⟨none, .store t x y, ty, pos, af, none⟩ :: rest) e w := by
  obtain ⟨h3, h4⟩ := h _ (upd_chg _ _ _) (upd_size _ _ _) (upd_blk hb.lt)
  exact yf_do rfl (fun a hf => by
    simp only [execOp, hf.op hx, hf.op hy]
    simp [run_storeA hT h1 hb hl hm h1v]) h3 h4

/-- A slice against nil. -/
theorem len_slice {t : Nat} (hT : T.Ok P) (h : has T.len t = true) : ∃ el, P.underlying t = some (.slice el) := by
  have hl := hT.len _ h
  simp only [lenB] at hl
  split at hl
  · rename_i el hu; exact ⟨el, hu⟩
  · cases hl

theorem yl_neqnil (hT : T.Ok P) {d t t' : Nat} {x y : Operand} {a : Option Addr} {m c m' c' : Nat} {ty : TypeId} {pos : String} {af : Array Edge} (h : has T.len t = true)
    (hx : opv e x = some (.slice a m c)) (hy : opv e y = some (.slice none m' c')) (hd : Nat.blt d n = true)
    (hk : YL P ro n F k ops rest ((d, .bool (!a.isNone)) :: e) w) : YL P ro n F k ops (⟨some d, .binOp .neq t x y t', ty, pos, af, none⟩ :: rest) e w :=
  yl_val (by simp) hd (fun ac hf => by
    obtain ⟨el, hu⟩ := len_slice hT h
    simp only [execOp, hf.op hx, hf.op hy]
    simp [eqGuard_at_slice, Go.run_neq_slice_nil_any w t el a m c m' c' hu]) hk

end
end Go.Eng

/- The engine, part 8: structs and slices that are built, by the program's own table; append in regions that draw. -/
namespace Go.Eng
open Go Go.RowKit
variable {P : Program} {T : Tab}

/-- What a slice literal holds. -/
def builtS (P : Program) (t len : Nat) (parts : List (Nat × Value)) : Option (Nat × Array Value) :=
  match P.underlying t with
  | some (.slice e) => match P.info? e with
    | some ie => match ie.zero with
      | some z => bif Nat.ble (len * ie.size) 16777216 && !(Nat.beq (len * ie.size) 0) then
          (Instr.fill (fun i => some (i * ie.size, ie.size)) ((Array.range (len * ie.size)).map (z.cells[· % z.cells.size]!)) parts).map (fun c => (e, c)) else none
      | none => none
    | none => none
  | _ => none

theorem builtS_run {t len e : Nat} {parts : List (Nat × Value)} {cells : Array Value} (h : builtS P t len parts = some (e, cells)) (w : World) :
    (Instr.buildSlice t len parts.toArray).run P w = .ok (.slice (some ⟨w.heap.size, 0, none⟩) len len) (w.alloc (.cells cells e)) := by
  unfold builtS at h
  split at h
  · rename_i e' hu
    split at h
    · rename_i ie hie
      split at h
      · rename_i z hz
        cases hc : (Nat.ble (len * ie.size) 16777216 && !(Nat.beq (len * ie.size) 0)) with
        | false => simp [hc] at h
        | true =>
          simp only [hc, cond_true] at h
          simp only [Bool.and_eq_true, Bool.not_eq_true', Nat.ble_eq] at hc
          cases hf : Instr.fill (fun i => some (i * ie.size, ie.size)) ((Array.range (len * ie.size)).map (z.cells[· % z.cells.size]!)) parts with
          | none => simp [hf] at h
          | some c =>
            simp [hf] at h
            obtain ⟨rfl, rfl⟩ := h
            refine run_buildSlice w t e' len parts.toArray c ie z hu hie hz (by omega) (fun h0 => ?_) hf
            rw [h0] at hc
            simp at hc
      · cases h
    · cases h
  · cases h

section
variable {ro : Cx} {n : Nat} {F : Fin} {k : List It} {ops : Array Oper} {l rest : List Oper} {e : Env} {w : World}

theorem yl_mk {d t : Nat} {parts : List (Nat × Operand)} {us : List Value} (cells : Array Value) {ty : TypeId} {pos : String} {af : Array Edge}
    (hp : opvs e (parts.map (·.2)) = some us) (hb : P.built t ((parts.map (·.1)).zip us) = some cells) (hd : Nat.blt d n = true)
    (h : YL P ro n F k ops rest ((d, .agg cells) :: e) w) : YL P ro n F k ops (⟨some d, .build t parts.toArray, ty, pos, af, none⟩ :: rest) e w :=
  yl_build hp (fun w => run_build w t _ cells hb) hd h

theorem yl_mkS {d t len : Nat} {parts : List (Nat × Operand)} {us : List Value} (et : Nat) (cs : List Value) {ty : TypeId} {pos : String} {af : Array Edge}
    (hp : opvs e (parts.map (·.2)) = some us) (hb : builtS P t len ((parts.map (·.1)).zip us) = some (et, cs.toArray)) (hd : Nat.blt d n = true)
    (h : ∀ w', Chg [] w w' → w'.heap.size = w.heap.size + 1 → Blk w' w.heap.size cs et → YL P ro n F k ops rest ((d, .slice (some ⟨w.heap.size, 0, none⟩) len len) :: e) w') :
    YL P ro n F k ops (⟨some d, .buildSlice t len parts.toArray, ty, pos, af, none⟩ :: rest) e w :=
  yl_buildSlice hp (fun w => builtS_run hb w) hd h

variable {C : World → Prop}

theorem yf_mk {d t : Nat} {parts : List (Nat × Operand)} {us : List Value} (cells : Array Value) {ty : TypeId} {pos : String} {af : Array Edge}
    (hp : opvs e (parts.map (·.2)) = some us) (hb : P.built t ((parts.map (·.1)).zip us) = some cells) (hd : Nat.blt d n = true)
    (h : YF P ro n F k ops C rest ((d, .agg cells) :: e) w) : YF P ro n F k ops C (⟨some d, .build t parts.toArray, ty, pos, af, none⟩ :: rest) e w :=
  yf_build hp (fun w => run_build w t _ cells hb) hd h

theorem yf_mkS {d t len : Nat} {parts : List (Nat × Operand)} {us : List Value} (et : Nat) (cs : List Value) {ty : TypeId} {pos : String} {af : Array Edge}
    (hp : opvs e (parts.map (·.2)) = some us) (hb : builtS P t len ((parts.map (·.1)).zip us) = some (et, cs.toArray)) (hd : Nat.blt d n = true)
    (h : ∀ w', Chg [] w w' → w'.heap.size = w.heap.size + 1 → Blk w' w.heap.size cs et → C w' ∧ YF P ro n F k ops C rest ((d, .slice (some ⟨w.heap.size, 0, none⟩) len len) :: e) w') :
    YF P ro n F k ops C (⟨some d, .buildSlice t len parts.toArray, ty, pos, af, none⟩ :: rest) e w := by
  obtain ⟨h1, h2⟩ := h _ (alloc_chg _ _) (by simp) (alloc_blk w cs.toArray et)
  refine yf_eff rfl hd (fun a hf => ?_) h1 h2
  have e1 := hf.ops hp
  have e2 : (parts.toArray.map fun (x : Nat × Operand) => (x.1, a.eval x.2)) = ((parts.map (·.1)).zip us).toArray := by
    rw [← e1]
    simp only [List.map_toArray]
    congr 1
    clear hp hb h h1 h2 e1
    induction parts with
    | nil => rfl
    | cons p ps ih => simp [ih]
  simp only [execOp]
  rw [e2]
  simp [builtS_run hb w]

theorem own_nil (w : World) (base e size : Nat) : w.ownsRow base e size (.slice none 0 0) 0 [] := ⟨by simp, .inl ⟨rfl, rfl⟩⟩

theorem run_loadAB (hT : T.Ok P) {t m : Nat} {b : Nat} {us : List Value} {bt : TypeId} (h1 : find1 T.agg t = some m) (hb : Blk w b us bt) (hl : us.length = m) :
    (loadVar t ⟨b, 0, none⟩).run P w = .ok (.agg us.toArray) w := by
  obtain ⟨r1, r2⟩ := agg_run hT h1 w
  have r3 := loadCellsFrom_run (P := P) w ⟨b, 0, none⟩ m 0 #[] us hl (fun j hj => by rw [Nat.zero_add, Addr.add_lit, hb.cell, Nat.zero_add])
  simp [loadVar, loadCells, r1, r2, r3]

end
end Go.Eng

/- The engine, part 9: a region that draws its order, in which some operations only stand ahead of what acts. -/
namespace Go.Eng
open Go Go.RowKit
section
variable {P : Program} {ops : Array Oper} {Cq Ce : Nat → World → Prop}

/-- The text's order. -/
def wpFl2 (P : Program) (ops : Array Oper) (Cq Ce : Nat → World → Prop) (K : Act → World → Prop) : List Nat → Act → World → Prop
  | [], a, w => K a w
  | i :: rest, a, w => match ops[i]? with
    | none => wpFl2 P ops Cq Ce K rest a w
    | some o => if Region.wanted o (yielded ops a.tmps) = true then
        (if eff o.op = true then effStep P o a w (fun v w' => Ce i w' ∧ wpFl2 P ops Cq Ce K rest (a.put o.dst v) w')
         else ∃ v, (∀ w', Cq i w' → (execOp a.eval o).run P w' = .ok (.value v) w') ∧ wpFl2 P ops Cq Ce K rest (a.put o.dst v) w)
      else wpFl2 P ops Cq Ce K rest (a.put o.dst undef) w

variable {K : Act → World → Prop}

/-- Operation j, not acting, may be taken first. -/
theorem fl_swap_quiet2 (hF : FlOk ops) {j : Nat} {oj : Oper} (hj : ops[j]? = some oj) (hne : eff oj.op = false) : ∀ (l1 l2 : List Nat) (a : Act) (w : World),
    (∀ i ∈ l1, ∀ oi, ops[i]? = some oi → oi.apart ops oj = true ∧ (eff oi.op = true → ∀ w', Ce i w' → Cq j w')) → Region.wanted oj (yielded ops a.tmps) = true → Cq j w → wpFl2 P ops Cq Ce K (l1 ++ j :: l2) a w →
    ∃ v, (∀ w', Cq j w' → (execOp a.eval oj).run P w' = .ok (.value v) w') ∧ wpFl2 P ops Cq Ce K (l1 ++ l2) (a.put oj.dst v) w := by
  intro l1
  induction l1 with
  | nil =>
    intro l2 a w _ hw hC h
    simp only [List.nil_append, wpFl2, hj, hw, if_true, hne] at h
    simpa using h
  | cons i l1 ih =>
    intro l2 a w hap hw hC h
    have ih' := fun a w => ih l2 a w (fun i' hi' => hap i' (List.mem_cons_of_mem _ hi'))
    simp only [List.cons_append, wpFl2] at h ⊢
    cases hi : ops[i]? with
    | none => simp only [hi] at h ⊢; exact ih' a w hw hC h
    | some oi =>
      simp only [hi] at h ⊢
      obtain ⟨p1, p2, p3⟩ := Oper.apart_spec (hap i List.mem_cons_self oi hi).1
      have kj := hF.kind j oj hj
      have ki := hF.kind i oi hi
      have ej : ∀ (a : Act) v, execOp (a.put oi.dst v).eval oj = execOp a.eval oj := fun a v => exec_put kj a oi.dst v p1
      have ei : ∀ (a : Act) v, execOp (a.put oj.dst v).eval oi = execOp a.eval oi := fun a v => exec_put ki a oj.dst v p3
      have wj : ∀ (a : Act) v, Region.wanted oj (yielded ops (a.put oi.dst v).tmps) = Region.wanted oj (yielded ops a.tmps) := fun a v => wanted_put oj a oi.dst v p1
      have wi : ∀ (a : Act) v, Region.wanted oi (yielded ops (a.put oj.dst v).tmps) = Region.wanted oi (yielded ops a.tmps) := fun a v => wanted_put oi a oj.dst v p3
      have cm : ∀ (a : Act) u v, (a.put oi.dst u).put oj.dst v = (a.put oj.dst v).put oi.dst u := fun a u v => Act.put_comm a u v p2
      by_cases hwi : Region.wanted oi (yielded ops a.tmps) = true
      · simp only [hwi, if_true] at h
        by_cases he : eff oi.op = true
        · simp only [he, if_true] at h
          obtain ⟨v0, w0, hC0, h0⟩ := h.some
          obtain ⟨v, hv, _⟩ := ih' _ w0 (by rw [wj]; exact hw) ((hap i List.mem_cons_self oi hi).2 he w0 hC0) h0
          simp only [ej] at hv
          refine ⟨v, hv, ?_⟩
          rw [wi]
          simp only [hwi, if_true, he]
          have h1 : effStep P oi (a.put oj.dst v) w (fun u w' => Ce i w' ∧ wpFl2 P ops Cq Ce K (l1 ++ j :: l2) (a.put oi.dst u) w') := by
            unfold effStep at h ⊢
            rw [ei]
            exact h
          refine h1.mono fun u w' ⟨hC', h2⟩ => ⟨hC', ?_⟩
          obtain ⟨v', hv', h3⟩ := ih' _ w' (by rw [wj]; exact hw) ((hap i List.mem_cons_self oi hi).2 he w' hC') h2
          simp only [ej] at hv'
          have e1 := hv w hC
          have e2 := hv' w hC
          rw [e1] at e2
          have : v = v' := by simpa using e2
          subst this
          rw [cm] at h3
          exact h3
        · simp only [he] at h
          obtain ⟨u, hu, h⟩ := h
          obtain ⟨v, hv, h3⟩ := ih' _ w (by rw [wj]; exact hw) hC h
          simp only [ej] at hv
          refine ⟨v, hv, ?_⟩
          rw [wi]
          simp only [hwi, if_true, he]
          refine ⟨u, fun w' hC' => by rw [ei]; exact hu w' hC', ?_⟩
          rw [cm] at h3
          exact h3
      · simp only [hwi] at h
        obtain ⟨v, hv, h3⟩ := ih' _ w (by rw [wj]; exact hw) hC h
        simp only [ej] at hv
        refine ⟨v, hv, ?_⟩
        rw [wi]
        simp only [hwi]
        rw [cm] at h3
        exact h3

/-- .. and so one that is not wanted. -/
theorem fl_swap_skip2 (hF : FlOk ops) {j : Nat} {oj : Oper} (hj : ops[j]? = some oj) : ∀ (l1 l2 : List Nat) (a : Act) (w : World),
    (∀ i ∈ l1, ∀ oi, ops[i]? = some oi → oi.apart ops oj = true) → Region.wanted oj (yielded ops a.tmps) = false → wpFl2 P ops Cq Ce K (l1 ++ j :: l2) a w → wpFl2 P ops Cq Ce K (l1 ++ l2) (a.put oj.dst undef) w := by
  intro l1
  induction l1 with
  | nil =>
    intro l2 a w _ hw h
    simp only [List.nil_append, wpFl2, hj, hw] at h
    simpa using h
  | cons i l1 ih =>
    intro l2 a w hap hw h
    have ih' := fun a w => ih l2 a w (fun i' hi' => hap i' (List.mem_cons_of_mem _ hi'))
    simp only [List.cons_append, wpFl2] at h ⊢
    cases hi : ops[i]? with
    | none => simp only [hi] at h ⊢; exact ih' a w hw h
    | some oi =>
      simp only [hi] at h ⊢
      obtain ⟨p1, p2, p3⟩ := Oper.apart_spec (hap i List.mem_cons_self oi hi)
      have ki := hF.kind i oi hi
      have ei : ∀ (a : Act) v, execOp (a.put oj.dst v).eval oi = execOp a.eval oi := fun a v => exec_put ki a oj.dst v p3
      have wj : ∀ (a : Act) v, Region.wanted oj (yielded ops (a.put oi.dst v).tmps) = Region.wanted oj (yielded ops a.tmps) := fun a v => wanted_put oj a oi.dst v p1
      have wi : ∀ (a : Act) v, Region.wanted oi (yielded ops (a.put oj.dst v).tmps) = Region.wanted oi (yielded ops a.tmps) := fun a v => wanted_put oi a oj.dst v p3
      have cm : ∀ (a : Act) u v, (a.put oi.dst u).put oj.dst v = (a.put oj.dst v).put oi.dst u := fun a u v => Act.put_comm a u v p2
      rw [wi]
      by_cases hwi : Region.wanted oi (yielded ops a.tmps) = true
      · simp only [hwi, if_true] at h ⊢
        by_cases he : eff oi.op = true
        · simp only [he, if_true] at h ⊢
          have h1 : effStep P oi (a.put oj.dst undef) w (fun u w' => Ce i w' ∧ wpFl2 P ops Cq Ce K (l1 ++ j :: l2) (a.put oi.dst u) w') := by
            unfold effStep at h ⊢
            rw [ei]
            exact h
          refine h1.mono fun u w' ⟨hC', h2⟩ => ⟨hC', ?_⟩
          have h3 := ih' _ w' (by rw [wj]; exact hw) h2
          rw [cm] at h3
          exact h3
        · simp only [he] at h ⊢
          obtain ⟨u, hu, h⟩ := h
          have h3 := ih' _ w (by rw [wj]; exact hw) h
          refine ⟨u, fun w' hC' => by rw [ei]; exact hu w' hC', ?_⟩
          rw [cm] at h3
          exact h3
      · simp only [hwi] at h ⊢
        have h3 := ih' _ w (by rw [wj]; exact hw) h
        rw [cm] at h3
        exact h3

/-- .. and one that acts, where nothing ahead of it acts. -/
theorem fl_swap_eff2 (hF : FlOk ops) {j : Nat} {oj : Oper} (hj : ops[j]? = some oj) (he : eff oj.op = true) : ∀ (l1 l2 : List Nat) (a : Act) (w : World),
    (∀ i ∈ l1, ∀ oi, ops[i]? = some oi → oi.apart ops oj = true ∧ eff oi.op = false) → Region.wanted oj (yielded ops a.tmps) = true → wpFl2 P ops Cq Ce K (l1 ++ j :: l2) a w →
    effStep P oj a w (fun v w' => Ce j w' ∧ wpFl2 P ops Cq Ce K (l1 ++ l2) (a.put oj.dst v) w') := by
  intro l1
  induction l1 with
  | nil =>
    intro l2 a w _ hw h
    simp only [List.nil_append, wpFl2, hj, hw, if_true, he] at h
    simpa using h
  | cons i l1 ih =>
    intro l2 a w hap hw h
    have ih' := fun a w => ih l2 a w (fun i' hi' => hap i' (List.mem_cons_of_mem _ hi'))
    simp only [List.cons_append, wpFl2] at h ⊢
    cases hi : ops[i]? with
    | none => simp only [hi] at h ⊢; exact ih' a w hw h
    | some oi =>
      simp only [hi] at h ⊢
      obtain ⟨hap', hei⟩ := hap i List.mem_cons_self oi hi
      obtain ⟨p1, p2, p3⟩ := Oper.apart_spec hap'
      have kj := hF.kind j oj hj
      have ki := hF.kind i oi hi
      have ej : ∀ (a : Act) v, execOp (a.put oi.dst v).eval oj = execOp a.eval oj := fun a v => exec_put kj a oi.dst v p1
      have ei : ∀ (a : Act) v, execOp (a.put oj.dst v).eval oi = execOp a.eval oi := fun a v => exec_put ki a oj.dst v p3
      have wj : ∀ (a : Act) v, Region.wanted oj (yielded ops (a.put oi.dst v).tmps) = Region.wanted oj (yielded ops a.tmps) := fun a v => wanted_put oj a oi.dst v p1
      have wi : ∀ (a : Act) v, Region.wanted oi (yielded ops (a.put oj.dst v).tmps) = Region.wanted oi (yielded ops a.tmps) := fun a v => wanted_put oi a oj.dst v p3
      have cm : ∀ (a : Act) u v, (a.put oi.dst u).put oj.dst v = (a.put oj.dst v).put oi.dst u := fun a u v => Act.put_comm a u v p2
      by_cases hwi : Region.wanted oi (yielded ops a.tmps) = true
      · simp only [hwi, if_true, hei] at h
        simp only [Bool.false_eq_true, if_false] at h
        obtain ⟨u, hu, h⟩ := h
        have h3 := ih' _ w (by rw [wj]; exact hw) h
        have h4 : effStep P oj a w (fun v w' => Ce j w' ∧ wpFl2 P ops Cq Ce K (l1 ++ l2) ((a.put oi.dst u).put oj.dst v) w') := by
          unfold effStep at h3 ⊢
          rw [ej] at h3
          exact h3
        refine h4.mono fun v w' ⟨hC', h5⟩ => ⟨hC', ?_⟩
        rw [wi]
        simp only [hwi, if_true, hei, Bool.false_eq_true, if_false]
        refine ⟨u, fun w' hC' => by rw [ei]; exact hu w' hC', ?_⟩
        rw [cm] at h5
        exact h5
      · simp only [hwi] at h
        simp only [Bool.false_eq_true, if_false] at h
        have h3 := ih' _ w (by rw [wj]; exact hw) h
        have h4 : effStep P oj a w (fun v w' => Ce j w' ∧ wpFl2 P ops Cq Ce K (l1 ++ l2) ((a.put oi.dst undef).put oj.dst v) w') := by
          unfold effStep at h3 ⊢
          rw [ej] at h3
          exact h3
        refine h4.mono fun v w' ⟨hC', h5⟩ => ⟨hC', ?_⟩
        rw [wi]
        simp only [hwi, Bool.false_eq_true, if_false]
        rw [cm] at h5
        exact h5


variable {ro : Cx} {Q : Fin}

/-- From the text's order to every order: R is what is left, in the text's order. -/
theorem any_of_fl2 (hF : FlOk ops) (hH : ∀ (i j : Nat) oi oj, ops[i]? = some oi → ops[j]? = some oj → eff oi.op = false → eff oj.op = true → (j < i ∨ ((masks ops.toList).getD j 0).testBit i = false) → ∀ w, Ce j w → Cq i w) (hK : ∀ a w, K a w → Q .normal a w) : ∀ (fuel : Nat) (R : List Nat) (listed : Array Bool) (a : Act) (w : World),
    R.length = fuel → listed.size = ops.size → R.Pairwise (· < ·) → (∀ i, i ∈ R ↔ i < ops.size ∧ listed.getD i true = false) →
    (∀ (m : Nat) o, ops[m]? = some o → listed.getD m false = true → ∀ e ∈ o.after, Region.binds .any e = true → listed.getD e.on false = true) →
    (∀ i ∈ R, ∀ o, ops[i]? = some o → eff o.op = false → Cq i w) → wpFl2 P ops Cq Ce K R a w → wpAnyIn (FR ro.ro) 0 P .any ops Q fuel listed a w := by
  intro fuel
  induction fuel with
  | zero =>
    intro R listed a w hl hsz hR hmem hcl hC h
    have : R = [] := by simpa using hl
    subst this
    refine ⟨?_, hK _ _ h⟩
    refine List.eq_nil_iff_forall_not_mem.2 fun i hi => ?_
    obtain ⟨h0, o, ho, _⟩ := mem_ready.1 hi
    exact absurd ((hmem i).2 ⟨(Array.getElem?_eq_some_iff.1 ho).1, h0⟩) (by simp)
  | succ fuel ih =>
    intro R listed a w hl hsz hR hmem hcl hC h
    refine ⟨fun h0 => ?_, fun j hj => ?_⟩
    · -- nothing is ready: but the first of R waits for earlier ones alone, all of which are listed
      exfalso
      cases R with
      | nil => simp at hl
      | cons i R =>
        obtain ⟨hi1, hi2⟩ := (hmem i).1 List.mem_cons_self
        have hrd : i ∈ Region.ready .any ops listed := by
          refine mem_ready.2 ⟨hi2, ops[i], Array.getElem?_eq_getElem hi1, fun e he hb => ?_⟩
          have hlt := hF.back i _ (Array.getElem?_eq_getElem hi1) e he hb
          have hnot : e.on ∉ i :: R := by
            intro hx
            rcases List.mem_cons.1 hx with hx | hx
            · omega
            · have := List.rel_of_pairwise_cons hR hx
              omega
          have h3 : ¬ (e.on < ops.size ∧ listed.getD e.on true = false) := fun hx => hnot ((hmem _).2 hx)
          have h4 : e.on < listed.size := by omega
          simp only [Array.getD_eq_getD_getElem?, Array.getElem?_eq_getElem h4, Option.getD_some] at h3 ⊢
          cases hc : listed[e.on] with
          | true => rfl
          | false => exact absurd ⟨by omega, hc⟩ h3
        rw [h0] at hrd
        cases hrd
    · obtain ⟨h0, oj, hoj, hre⟩ := mem_ready.1 hj
      have hjR : j ∈ R := (hmem j).2 ⟨(Array.getElem?_eq_some_iff.1 hoj).1, h0⟩
      obtain ⟨l1, l2, rfl⟩ := List.append_of_mem hjR
      have hlt1 : ∀ i ∈ l1, i < j := fun i hi => (List.pairwise_append.1 hR).2.2 i hi j (by simp)
      have hjl : listed.getD j false = true → False := fun hx => by
        simp only [Array.getD_eq_getD_getElem?] at hx h0
        cases hc : listed[j]? <;> simp [hc] at hx h0
        simp [hx] at h0
      have hun : ∀ i ∈ l1, ((masks ops.toList).getD j 0).testBit i = false := fun i hi => by
        cases hb : ((masks ops.toList).getD j 0).testBit i with
        | false => rfl
        | true =>
          have h1 := masks_spec (D := fun m => listed.getD m false = true) (fun m o hm hD e he hb => hcl m o hm hD e he hb) j oj hoj (fun e he hb => hre e he hb) i hb
          have h2 := ((hmem i).1 (by simp [hi])).2
          simp only [Array.getD_eq_getD_getElem?] at h1 h2
          cases hc : listed[i]? <;> simp [hc] at h1 h2
          simp [h1] at h2
      have hpair : ∀ i ∈ l1, ∀ oi, ops[i]? = some oi → oi.apart ops oj = true ∧ (eff oi.op = true → eff oj.op = true → False) := fun i hi oi hoi => by
        rcases hF.pair i j oi oj (hlt1 i hi) hoi hoj with h1 | h1
        · rw [hun i hi] at h1; cases h1
        · exact h1
      have next : ∀ a w, (∀ i ∈ l1 ++ l2, ∀ o, ops[i]? = some o → eff o.op = false → Cq i w) → wpFl2 P ops Cq Ce K (l1 ++ l2) a w → wpAnyIn (FR ro.ro) 0 P .any ops Q fuel (listed.setIfInBounds j true) a w := by
        intro a w hC h
        refine ih (l1 ++ l2) _ a w ?_ (by simp [hsz]) ?_ ?_ ?_ hC h
        · simp at hl ⊢; omega
        · exact hR.sublist (List.Sublist.append_left (List.sublist_cons_self _ _) _)
        · intro i
          have hnd : j ∉ l1 ++ l2 := by
            intro hx
            rcases List.mem_append.1 hx with hx | hx
            · exact absurd (hlt1 j hx) (by omega)
            · have := (List.pairwise_append.1 hR).2.1
              have := List.rel_of_pairwise_cons this hx
              omega
          constructor
          · intro hi
            have hne : j ≠ i := fun e => hnd (e ▸ hi)
            have h1 := (hmem i).1 (by rcases List.mem_append.1 hi with hi | hi <;> simp [hi])
            exact ⟨h1.1, by rw [getD_set_ne true hne]; exact h1.2⟩
          · rintro ⟨h1, h2⟩
            have hne : j ≠ i := fun e => by
              subst e
              simp [hsz, h1] at h2
            rw [getD_set_ne true hne] at h2
            have := (hmem i).2 ⟨h1, h2⟩
            rcases List.mem_append.1 this with hx | hx
            · exact List.mem_append.2 (.inl hx)
            · rcases List.mem_cons.1 hx with hx | hx
              · exact absurd hx.symm hne
              · exact List.mem_append.2 (.inr hx)
        · intro m o hm hD e he hb
          by_cases hmj : j = m
          · subst hmj
            rw [hoj] at hm
            obtain rfl := Option.some.inj hm
            exact getD_set_true (hre e he hb)
          · rw [getD_set_ne false hmj] at hD
            exact getD_set_true (hcl m o hm hD e he hb)
      unfold wpOpIn
      simp only [hoj]
      by_cases hw : Region.wanted oj (yielded ops a.tmps) = true
      · simp only [hw, if_true]
        cases he : eff oj.op with
        | true =>
          have h1 := fl_swap_eff2 hF hoj he l1 l2 a w (fun i hi oi hoi => ⟨(hpair i hi oi hoi).1, by
            cases hx : eff oi.op with
            | false => rfl
            | true => exact ((hpair i hi oi hoi).2 hx he).elim⟩) hw h
          exact effStep.wpIn (hF.kind j oj hoj) (h1.mono fun v w' ⟨hC', h2⟩ => next _ _ (fun i hi o ho hq => hH i j o oj ho hoj hq he (by
            rcases List.mem_append.1 hi with hx | hx
            · exact .inr (hun i hx)
            · exact .inl (List.rel_of_pairwise_cons (List.pairwise_append.1 hR).2.1 hx)) w' hC') h2)
        | false =>
          obtain ⟨v, hv, h2⟩ := fl_swap_quiet2 hF hoj he l1 l2 a w (fun i hi oi hoi => ⟨(hpair i hi oi hoi).1, fun hei w' hC' => hH j i oj oi hoj hoi he hei (.inl (hlt1 i hi)) w' hC'⟩) hw (hC j (by simp) oj hoj he) h
          exact upon_FR (fun c hc => by have := hF.kind j oj hoj; rw [hc] at this; cases this) (hv w (hC j (by simp) oj hoj he)) (next _ _ (fun i hi => hC i (by rcases List.mem_append.1 hi with hx | hx <;> simp [hx])) h2)
      · have hw' : Region.wanted oj (yielded ops a.tmps) = false := by simpa using hw
        simp only [hw', Bool.false_eq_true, if_false]
        exact ⟨fun f _ => fr_fn f, next _ _ (fun i hi => hC i (by rcases List.mem_append.1 hi with hx | hx <;> simp [hx])) (fl_swap_skip2 hF hoj l1 l2 a w (fun i hi oi hoi => (hpair i hi oi hoi).1) hw' h)⟩


/-- **A region that draws its order, by the text's order.** -/
theorem wpIn_region_fl2 {id : Nat} {a : Act} {w : World} (hm : P.follows .mixedOrders = true) (hF : FlOk ops) (hH : ∀ (i j : Nat) oi oj, ops[i]? = some oi → ops[j]? = some oj → eff oi.op = false → eff oj.op = true → (j < i ∨ ((masks ops.toList).getD j 0).testBit i = false) → ∀ w, Ce j w → Cq i w) (hC : ∀ i, Cq i { w with drawn := w.drawn + 1 })
    (hK : ∀ a w, K a w → Q .normal a w) (h : wpFl2 P ops Cq Ce K (List.range ops.size) a { w with drawn := w.drawn + 1 }) : (Code.region id ops true).wpIn (FR ro.ro) 0 P Q a w := by
  refine wpIn_region_any hm (any_of_fl2 hF hH hK ops.size (List.range ops.size) _ a _ (by simp) (by simp) List.pairwise_lt_range ?_ ?_ (fun i _ _ _ _ => hC i) h)
  · intro i
    simp only [List.mem_range]
    constructor
    · intro hi
      exact ⟨hi, by simp [hi]⟩
    · exact fun hi => hi.1
  · intro m o _ hD
    simp only [Array.getD_eq_getD_getElem?, Array.getElem?_replicate] at hD
    split at hD <;> simp at hD

end

section
variable {P : Program} {T : Tab} {ops : Array Oper}

/-- One flag for each operation: those that are marked see the first kind of worlds alone, the others the second kind as well. -/
def wpFlB (P : Program) (ops : Array Oper) (C1 C2 : World → Prop) (K : Act → World → Prop) : List Bool → List Oper → Act → World → Prop
  | _, [], a, w => K a w
  | bs, o :: rest, a, w => if Region.wanted o (yielded ops a.tmps) = true then
        (if eff o.op = true then effStep P o a w (fun v w' => (bif bs.headD false then C1 w' else C2 w') ∧ wpFlB P ops C1 C2 K bs.tail rest (a.put o.dst v) w')
         else ∃ v, (∀ w', (bif bs.headD false then C1 w' else C2 w') → (execOp a.eval o).run P w' = .ok (.value v) w') ∧ wpFlB P ops C1 C2 K bs.tail rest (a.put o.dst v) w)
      else wpFlB P ops C1 C2 K bs.tail rest (a.put o.dst undef) w

def flagC (C1 C2 : World → Prop) (bs : List Bool) (i : Nat) : World → Prop := fun w => bif bs.getD i false then C1 w else C2 w

theorem wpFlB_eq {C1 C2 : World → Prop} {K : Act → World → Prop} {bs : List Bool} (l : List Oper) : ∀ k, (∀ j, l[j]? = ops[k + j]?) → wpFl2 P ops (flagC C1 C2 bs) (flagC C1 C2 bs) K (List.range' k l.length) = wpFlB P ops C1 C2 K (bs.drop k) l := by
  induction l with
  | nil => intro k _; funext a w; simp [wpFl2, wpFlB]
  | cons o l ih =>
    intro k h
    have h0 : ops[k]? = some o := by simpa using (h 0).symm
    have ih' := ih (k + 1) (fun j => by have := h (j + 1); simpa [Nat.add_assoc, Nat.add_comm 1 j] using this)
    have e1 : (bs.drop k).headD false = bs.getD k false := by simp [List.headD_eq_head?_getD, List.head?_drop]
    have e2 : (bs.drop k).tail = bs.drop (k + 1) := by simp
    funext a w
    simp only [List.length_cons, List.range'_succ, wpFl2, h0, wpFlB, ih', e1, e2, flagC]

/-- An operation that acts and is not marked comes after all that are marked. -/
def flagB (ops : Array Oper) (bs : List Bool) : Bool :=
  (List.range ops.size).all fun j => match ops[j]? with
    | none => true
    | some oj => !(eff oj.op) || bs.getD j false || (List.range ops.size).all fun i => match ops[i]? with
      | none => true
      | some oi => eff oi.op || !(bs.getD i false) || (Nat.blt i j && ((masks ops.toList).getD j 0).testBit i)

theorem flagB_spec {bs : List Bool} (h : flagB ops bs = true) {C1 C2 : World → Prop} (h12 : ∀ w, C1 w → C2 w) (i j : Nat) (oi oj : Oper) (hi : ops[i]? = some oi) (hj : ops[j]? = some oj) (hei : eff oi.op = false) (hej : eff oj.op = true)
    (hm : j < i ∨ ((masks ops.toList).getD j 0).testBit i = false) (w : World) (hC : flagC C1 C2 bs j w) : flagC C1 C2 bs i w := by
  have h1 := List.all_eq_true.1 h j (List.mem_range.2 (Array.getElem?_eq_some_iff.1 hj).1)
  simp only [hj, hej, Bool.not_true, Bool.false_or, Bool.or_eq_true] at h1
  unfold flagC at hC ⊢
  rcases h1 with h1 | h1
  · rw [h1] at hC
    cases bs.getD i false with
    | true => exact hC
    | false => exact h12 _ hC
  · have h2 := List.all_eq_true.1 h1 i (List.mem_range.2 (Array.getElem?_eq_some_iff.1 hi).1)
    simp only [hi, hei, Bool.false_or, Bool.or_eq_true, Bool.not_eq_true', Bool.and_eq_true, Nat.blt_eq] at h2
    rcases h2 with h2 | h2
    · rw [h2]
      cases hb : bs.getD j false with
      | true => rw [hb] at hC; exact h12 _ hC
      | false => rw [hb] at hC; exact hC
    · exfalso
      rcases hm with hm | hm
      · omega
      · rw [h2.2] at hm; cases hm

variable {ro : Cx} {n : Nat} {F : Fin} {k : List It} {l rest : List Oper} {e : Env} {w : World} {o : Oper}

def YB (P : Program) (ro : Cx) (n : Nat) (F : Fin) (k : List It) (ops : Array Oper) (C1 C2 : World → Prop) (bs : List Bool) (l : List Oper) (e : Env) (w : World) : Prop :=
  ∀ a, Fits n e a → a.defers = ro.ds → wpFlB P ops C1 C2 (fun a w => S P ro.ro F k .normal a w) bs l a w

variable {C1 C2 : World → Prop}

theorem yb_nil {bs : List Bool} (h : Y P ro n F k e w) : YB P ro n F k ops C1 C2 bs [] e w := h

/-- Operations with the same mark are walked as ever. -/
theorem yb_seg (b : Bool) (c : Nat) {bs : List Bool} (hb : (bs.take c).all (fun x => x == b) = true) (hc : c ≤ bs.length)
    (h : ∀ K1 : Act → World → Prop, (∀ e' w', YB P ro n F k ops C1 C2 (bs.drop c) (l.drop c) e' w' → ∀ a, Fits n e' a → a.defers = ro.ds → K1 a w') → YF P ro n F (.k K1 :: k) ops (bif b then C1 else C2) (l.take c) e w) :
    YB P ro n F k ops C1 C2 bs l e w := fun a hf hd => by
  have h1 := h (fun a w => wpFlB P ops C1 C2 (fun a w => S P ro.ro F k .normal a w) (bs.drop c) (l.drop c) a w) (fun e' w' hY a hf hd => hY a hf hd) a hf hd
  clear h hf
  generalize hk : (fun a w => S P ro.ro F k .normal a w) = K at h1 ⊢
  have key : ∀ (c : Nat) (bs : List Bool) (l : List Oper) (a : Act) (w : World), (bs.take c).all (fun x => x == b) = true → c ≤ bs.length →
      wpFlL P ops (bif b then C1 else C2) (fun a w => wpFlB P ops C1 C2 K (bs.drop c) (l.drop c) a w) (l.take c) a w → wpFlB P ops C1 C2 K bs l a w := by
    intro c
    induction c with
    | zero => intro bs l a w _ _ h; simpa [wpFlL] using h
    | succ c ih =>
      intro bs l a w hb hc h
      cases bs with
      | nil => simp at hc
      | cons b0 bs =>
        simp only [List.take_succ_cons, List.all_cons, Bool.and_eq_true, beq_iff_eq] at hb
        obtain ⟨rfl, hb⟩ := hb
        cases l with
        | nil => simpa [wpFlL, wpFlB] using h
        | cons o l =>
          have hce : ∀ w', (bif b0 then C1 else C2) w' = (bif b0 then C1 w' else C2 w') := fun w' => by cases b0 <;> rfl
          simp only [List.take_succ_cons, List.drop_succ_cons, wpFlL] at h
          simp only [wpFlB, List.headD_cons, List.tail_cons]
          by_cases hw : Region.wanted o (yielded ops a.tmps) = true
          · simp only [hw, if_true] at h ⊢
            by_cases he : eff o.op = true
            · simp only [he, if_true] at h ⊢
              refine h.mono fun v w' ⟨h1, h2⟩ => ⟨by rw [← hce]; exact h1, ih bs l _ _ hb (by simpa using hc) h2⟩
            · simp only [he] at h ⊢
              obtain ⟨v, hv, h2⟩ := h
              exact ⟨v, fun w' hw' => hv w' (by rw [hce]; exact hw'), ih bs l _ _ hb (by simpa using hc) h2⟩
          · simp only [hw] at h ⊢
            exact ih bs l _ _ hb (by simpa using hc) h
  have h2 : ∀ a w, S P ro.ro F (.k (fun a w => wpFlB P ops C1 C2 K (bs.drop c) (l.drop c) a w) :: k) .normal a w = wpFlB P ops C1 C2 K (bs.drop c) (l.drop c) a w := fun a w => rfl
  refine key c bs l a w hb hc ?_
  simp only [h2] at h1
  exact h1

end
end Go.Eng

/- Numbers that wrap. -/
namespace Go.Eng
open Go

theorem w64 {x : Int} (h1 : -9223372036854775808 ≤ x) (h2 : x < 9223372036854775808) : IntKind.i64.wrap x = x := by
  simp only [IntKind.wrap, IntKind.bits, IntKind.signed]
  simp
  omega
end Go.Eng

/- Readable slices by their elements; predicates handed over as function values. -/
namespace Go.Eng
open Go Go.RowKit

def cellsOf (es : List Value) : List Value := es.flatMap (fun v => v.cells.toList)

theorem flat_get {sz : Nat} : ∀ (es : List Value), (∀ e ∈ es, e.cells.size = sz) → ∀ (i j : Nat) (hi : i < es.length), j < sz → (cellsOf es)[i * sz + j]? = (es[i].cells.toList)[j]?
  | [], _, i, j, hi, _ => by simp at hi
  | v :: es, h, i, j, hi, hj => by
    have hv := h v List.mem_cons_self
    have hl : v.cells.toList.length = sz := by simpa using hv
    simp only [cellsOf, List.flatMap_cons]
    cases i with
    | zero =>
      rw [Nat.zero_mul, Nat.zero_add, List.getElem?_append_left (by omega)]
      rfl
    | succ i =>
      rw [List.getElem?_append_right (by rw [hl, Nat.succ_mul]; omega), hl]
      have := flat_get es (fun e he => h e (List.mem_cons_of_mem _ he)) i j (by simpa using hi) hj
      rw [show (i + 1) * sz + j - sz = i * sz + j from by rw [Nat.succ_mul]; omega]
      exact this

theorem cellsOf_length {sz : Nat} : ∀ (es : List Value), (∀ e ∈ es, e.cells.size = sz) → (cellsOf es).length = es.length * sz
  | [], _ => by simp [cellsOf]
  | v :: es, h => by
    have hv := h v List.mem_cons_self
    have ih := cellsOf_length es (fun e he => h e (List.mem_cons_of_mem _ he))
    simp only [cellsOf, List.flatMap_cons, List.length_append] at ih ⊢
    rw [ih]
    simp [hv, Nat.succ_mul, Nat.add_comm]

/-- A readable slice with these elements, each of sz cells. -/
structure RdE (w : World) (lo hi : Nat) (v : Value) (sz : Nat) (es : List Value) : Prop where
  rd : Rd w lo hi v sz es.length (cellsOf es)
  sz : ∀ e ∈ es, e.cells.size = sz

theorem RdE.chg {w w' : World} {lo hi : Nat} {v : Value} {sz : Nat} {es : List Value} {N : List Nat} (h : RdE w lo hi v sz es) (c : Chg N w w') (hN : ∀ k ∈ N, k < lo ∨ hi ≤ k) : RdE w' lo hi v sz es := ⟨h.rd.chg c hN, h.sz⟩
theorem RdE.keep {w w' : World} {lo hi : Nat} {v : Value} {sz : Nat} {es : List Value} (h : RdE w lo hi v sz es) (c : Chg [] w w') : RdE w' lo hi v sz es := ⟨h.rd.keep c, h.sz⟩
theorem RdE.wide {w : World} {lo hi lo' hi' : Nat} {v : Value} {sz : Nat} {es : List Value} (h : RdE w lo hi v sz es) (hl : lo' ≤ lo) (hh : hi ≤ hi') : RdE w lo' hi' v sz es := ⟨h.rd.wide hl hh, h.sz⟩
theorem RdE.out {w : World} {lo hi : Nat} {v : Value} {sz : Nat} {es : List Value} (h : RdE w lo hi v sz es) :
    ∃ a cap, v = .slice a es.length cap ∧ (0 < es.length → ∃ b off, a = some ⟨b, off, none⟩) := by
  obtain ⟨a, cap, hv, hs⟩ := h.rd.out
  exact ⟨a, cap, hv, fun hp => let ⟨b, off, ha, _⟩ := hs hp; ⟨b, off, ha⟩⟩
/-- One cell of element i. -/
theorem RdE.cell {w : World} {lo hi : Nat} {b off len cap : Nat} {sz : Nat} {es : List Value} (h : RdE w lo hi (.slice (some ⟨b, off, none⟩) len cap) sz es) (i j : Nat) (hi : i < es.length) (hj : j < sz) :
    w.cell? ⟨b, off + i * sz + j, none⟩ = (es[i].cells.toList)[j]? := by
  obtain ⟨a, cap', hv, hs⟩ := h.rd.out
  cases hv
  have hl := cellsOf_length es h.sz
  have hlt : i * sz + j < (cellsOf es).length := by
    rw [hl]
    have : (i + 1) * sz ≤ es.length * sz := Nat.mul_le_mul_right _ hi
    rw [Nat.succ_mul] at this
    omega
  rw [Nat.add_assoc, h.rd.cell rfl _ hlt, flat_get es h.sz i j hi hj]
/-- An element of one cell. -/
theorem RdE.cell1 {w : World} {lo hi : Nat} {b off len cap : Nat} {es : List Value} (h : RdE w lo hi (.slice (some ⟨b, off, none⟩) len cap) 1 es) (i : Nat) (hi : i < es.length) (h1 : oneV es[i] = true) :
    w.cell? ⟨b, off + i * 1, none⟩ = some es[i] := by
  have := h.cell i 0 hi (by omega)
  rw [Nat.add_zero] at this
  rw [this]
  generalize es[i] = v at *
  cases v <;> first | (simp [oneV] at h1; done) | rfl

/-- A slice of integers. -/
abbrev ints (l : List Int) : List Value := l.map (Value.int .i64)
abbrev RdI (w : World) (lo hi : Nat) (v : Value) (l : List Int) : Prop := RdE w lo hi v 1 (ints l)

/-- A predicate, as a function value: at w and in every world grown out of it. -/
def PredAt (P : Program) (T : Tab) (w0 : World) (cv : Value) (es : List Value) (p : Value → Bool) : Prop :=
  ∃ g first caps, cv = .func (.func g) first caps ∧ has T.fn g = true ∧
    ∀ w, Chg [] w0 w → ∀ x ∈ es, Ca P g (first.toList ++ [x] ++ caps.toList) w fun v w' => v = .bool (p x) ∧ Chg [] w w'

theorem PredAt.keep {P : Program} {T : Tab} {w0 w1 : World} {cv : Value} {es : List Value} {p : Value → Bool} (h : PredAt P T w0 cv es p) (c : Chg [] w0 w1) : PredAt P T w1 cv es p := by
  obtain ⟨g, f, cs, h1, h2, h3⟩ := h
  exact ⟨g, f, cs, h1, h2, fun w hw => h3 w (c.trans hw)⟩

end Go.Eng

/- Lists of numbers and of truth values that can be read; changes beyond what was there. -/
namespace Go.Eng
open Go Go.RowKit

/-- What changes later changes nothing that was there before. -/
theorem Chg.up {N M : List Nat} {a b c : World} (h : Chg N a b) (g : Chg M b c) (hM : ∀ k ∈ M, k ∈ N ∨ a.heap.size ≤ k) : Chg N a c :=
  ⟨g.os.trans h.os, g.tape.trans h.tape, g.output.trans h.output, Nat.le_trans h.size g.size, fun k hk hn =>
    (g.block k (Nat.lt_of_lt_of_le hk h.size) (fun hm => by rcases hM k hm with h1 | h1 <;> first | exact hn h1 | omega)).trans (h.block k hk hn)⟩

theorem RdI.at {w : World} {lo hi b off len cap : Nat} {l : List Int} (h : RdI w lo hi (.slice (some ⟨b, off, none⟩) len cap) l) (i : Nat) (hi : i < l.length) :
    w.cell? ⟨b, off + i * 1, none⟩ = some (.int .i64 l[i]) := by
  have := RdE.cell1 h i (by simpa using hi) (by simp [oneV])
  rw [this]
  simp

theorem RdI.outI {w : World} {lo hi : Nat} {v : Value} {l : List Int} (h : RdI w lo hi v l) :
    ∃ a cap, v = .slice a l.length cap ∧ (0 < l.length → ∃ b off, a = some ⟨b, off, none⟩) := by
  have := RdE.out h
  simpa using this

/-- How many rounds hit. -/
def hitsOf (l : List Bool) : Nat := l.count true

abbrev bools (l : List Bool) : List Value := l.map Value.bool
abbrev RdB (w : World) (lo hi : Nat) (v : Value) (l : List Bool) : Prop := RdE w lo hi v 1 (bools l)
theorem RdB.at {w : World} {lo hi b off len cap : Nat} {l : List Bool} (h : RdB w lo hi (.slice (some ⟨b, off, none⟩) len cap) l) (i : Nat) (hi : i < l.length) :
    w.cell? ⟨b, off + i * 1, none⟩ = some (.bool l[i]) := by
  have := RdE.cell1 h i (by simpa using hi) (by simp [oneV])
  rw [this]
  simp
theorem cellsOf_ints (l : List Int) : cellsOf (ints l) = ints l := by
  simp [cellsOf, List.flatMap_map, Value.cells]
  induction l with
  | nil => rfl
  | cons x l ih => simp [ih]
theorem cellsOf_bools (l : List Bool) : cellsOf (bools l) = bools l := by
  simp [cellsOf, List.flatMap_map, Value.cells]
  induction l with
  | nil => rfl
  | cons x l ih => simp [ih]
theorem ints_size (l : List Int) : ∀ e ∈ ints l, e.cells.size = 1 := by
  intro e he
  obtain ⟨x, _, rfl⟩ := List.mem_map.1 he
  rfl
theorem bools_size (l : List Bool) : ∀ e ∈ bools l, e.cells.size = 1 := by
  intro e he
  obtain ⟨x, _, rfl⟩ := List.mem_map.1 he
  rfl

theorem RdI.of {w : World} {lo hi : Nat} {v : Value} {l : List Int} (h : Rd w lo hi v 1 l.length (ints l)) : RdI w lo hi v l :=
  ⟨by rw [cellsOf_ints]; simpa using h, ints_size l⟩
theorem RdB.of {w : World} {lo hi : Nat} {v : Value} {l : List Bool} (h : Rd w lo hi v 1 l.length (bools l)) : RdB w lo hi v l :=
  ⟨by rw [cellsOf_bools]; simpa using h, bools_size l⟩
theorem RdE.ofOwn {w : World} {base t sz : Nat} {v : Value} {es : List Value} (h : w.ownsRow base t sz v es.length (cellsOf es)) (hs : ∀ e ∈ es, e.cells.size = sz) : RdE w base w.heap.size v sz es := ⟨own_rd h, hs⟩

end Go.Eng

/- The engine, part B1: memory as a list of pieces. A judgement that holds for every world that fits the list. -/
namespace Go.Eng
open Go Go.RowKit

/-- What changed lies in N. -/
structure ChgP (N : Nat → Prop) (w w' : World) : Prop where
  os : w'.os = w.os
  tape : w'.tape = w.tape
  output : w'.output = w.output
  size : w.heap.size ≤ w'.heap.size
  block : ∀ k, k < w.heap.size → ¬ N k → w'.heap[k]? = w.heap[k]?

theorem Chg.P {N : List Nat} {w w' : World} (h : Chg N w w') : ChgP (· ∈ N) w w' := ⟨h.os, h.tape, h.output, h.size, h.block⟩
theorem ChgP.list {N : List Nat} {w w' : World} (h : ChgP (· ∈ N) w w') : Chg N w w' := ⟨h.os, h.tape, h.output, h.size, h.block⟩
theorem ChgP.refl (N : Nat → Prop) (w : World) : ChgP N w w := ⟨rfl, rfl, rfl, Nat.le_refl _, fun _ _ _ => rfl⟩
theorem ChgP.upP {N M : Nat → Prop} {a b c : World} (h : ChgP N a b) (g : ChgP M b c) (hM : ∀ k, M k → N k ∨ a.heap.size ≤ k) : ChgP N a c :=
  ⟨g.os.trans h.os, g.tape.trans h.tape, g.output.trans h.output, Nat.le_trans h.size g.size, fun k hk hn =>
    (g.block k (Nat.lt_of_lt_of_le hk h.size) (fun hm => by rcases hM k hm with h1 | h1 <;> first | exact hn h1 | omega)).trans (h.block k hk hn)⟩
theorem ChgP.up {N : Nat → Prop} {M : List Nat} {a b c : World} (h : ChgP N a b) (g : Chg M b c) (hM : ∀ k ∈ M, N k ∨ a.heap.size ≤ k) : ChgP N a c := h.upP g.P hM

/-- No block. -/
abbrev M0 : Nat → Prop := fun _ => False
theorem ChgP.none {w w' : World} (h : ChgP M0 w w') : Chg [] w w' := ⟨h.os, h.tape, h.output, h.size, fun k hk _ => h.block k hk (fun h => h)⟩
theorem Chg.P0 {w w' : World} (h : Chg [] w w') : ChgP M0 w w' := ⟨h.os, h.tape, h.output, h.size, fun k hk _ => h.block k hk (by simp)⟩

/-- A piece of memory: a block known whole; a slice of our own that can grow; anything that hangs on some blocks alone. -/
inductive Ck where
  | pt (b : Nat) (cs : List Value) (t : TypeId)
  | ow (v : Value) (e sz n : Nat) (xs : List Value)
  | gn (D : Nat → Prop) (p : World → Prop) (st : ∀ w w' N, p w → ChgP N w w' → (∀ b, D b → ¬ N b) → p w')

/-- The blocks that a piece takes. -/
def Ck.D : Ck → Nat → Prop
  | .pt b _ _, x => x = b
  | .ow v _ _ _ _, x => v.ownBlock = some x
  | .gn D _ _, x => D x

/-- What a piece says. -/
def Ck.p : Ck → World → Prop
  | .pt b cs t, w => Blk w b cs t
  | .ow v e sz n xs, w => w.ownsRow 0 e sz v n xs
  | .gn _ p _, w => p w

theorem Ck.st {c : Ck} {w w' : World} {N : Nat → Prop} (h : c.p w) (hc : ChgP N w w') (hb : ∀ b, c.D b → ¬ N b) : c.p w' := by
  cases c with
  | pt b cs t => exact (hc.block b (Blk.lt h) (hb b rfl)).trans h
  | ow v e sz n xs =>
    obtain ⟨h1, h2⟩ := h
    refine ⟨h1, ?_⟩
    rcases h2 with h2 | ⟨g, cap, cur, rfl, hg, hh, r⟩
    · exact .inl h2
    · exact .inr ⟨g, cap, cur, rfl, hg, (hc.block g (Array.getElem?_eq_some_iff.1 hh).1 (hb g rfl)).trans hh, r⟩
  | gn D p st => exact st w w' N h hc hb

/-- The world fits the list; since w0 only blocks of M, and new ones, have changed. -/
structure Sat (w0 : World) (M : Nat → Prop) (H : List Ck) (w : World) : Prop where
  chg : ChgP M w0 w
  all : ∀ c ∈ H, c.p w
  sep : H.Pairwise (fun c d => ∀ b, c.D b → ¬ d.D b)
  bd : ∀ c ∈ H, ∀ b, c.D b → b < w.heap.size ∧ (M b ∨ w0.heap.size ≤ b)

theorem Sat.nil (w0 : World) (M : Nat → Prop) : Sat w0 M [] w0 := ⟨ChgP.refl _ _, by simp, .nil, by simp⟩

theorem Sat.keep {w0 : World} {M : Nat → Prop} {H : List Ck} {w w' : World} (h : Sat w0 M H w) (c : Chg [] w w') : Sat w0 M H w' :=
  ⟨h.chg.up c (by simp), fun x hx => Ck.st (h.all x hx) c.P0 (fun _ _ h => h), h.sep, fun x hx b hb => ⟨Nat.lt_of_lt_of_le (h.bd x hx b hb).1 c.size, (h.bd x hx b hb).2⟩⟩

theorem Sat.add {w0 : World} {M : Nat → Prop} {H : List Ck} {w w' : World} (h : Sat w0 M H w) (c : Chg [] w w') {x : Ck} (hp : x.p w') (hD : ∀ b, x.D b → w.heap.size ≤ b ∧ b < w'.heap.size) : Sat w0 M (x :: H) w' := by
  have h' := h.keep c
  refine ⟨h'.chg, ?_, ?_, ?_⟩
  · intro y hy
    rcases List.mem_cons.1 hy with rfl | hy
    · exact hp
    · exact h'.all y hy
  · refine List.pairwise_cons.2 ⟨fun y hy b hb hb' => ?_, h.sep⟩
    have := (h.bd y hy b hb').1
    have := (hD b hb).1
    omega
  · intro y hy b hb
    rcases List.mem_cons.1 hy with rfl | hy
    · exact ⟨(hD b hb).2, .inr (Nat.le_trans h.chg.size (hD b hb).1)⟩
    · exact h'.bd y hy b hb

theorem Sat.chg0 {w0 : World} {H : List Ck} {w : World} (h : Sat w0 M0 H w) : Chg [] w0 w := h.chg.none

/-- One piece put in another's place. -/
inductive Rp : List Ck → Ck → Ck → List Ck → Prop
  | z {H : List Ck} {c c' : Ck} : Rp (c :: H) c c' (c' :: H)
  | s {H H' : List Ck} {c c' d : Ck} : Rp H c c' H' → Rp (d :: H) c c' (d :: H')

theorem Rp.mem {H H' : List Ck} {c c' : Ck} (h : Rp H c c' H') : c ∈ H := by
  induction h with
  | z => exact List.mem_cons_self
  | s _ ih => exact List.mem_cons_of_mem _ ih

theorem Sat.mem {w0 : World} {M : Nat → Prop} {H : List Ck} {w : World} (h : Sat w0 M H w) {c : Ck} (hc : c ∈ H) : c.p w := h.all c hc

theorem Sat.blk {w0 : World} {M : Nat → Prop} {H : List Ck} {w : World} (h : Sat w0 M H w) {b : Nat} {cs : List Value} {t : TypeId} (hc : Ck.pt b cs t ∈ H) : Blk w b cs t := h.all _ hc

theorem Sat.tail {w0 : World} {M : Nat → Prop} {H : List Ck} {c : Ck} {w : World} (h : Sat w0 M (c :: H) w) : Sat w0 M H w :=
  ⟨h.chg, fun x hx => h.all x (List.mem_cons_of_mem _ hx), (List.pairwise_cons.1 h.sep).2, fun x hx => h.bd x (List.mem_cons_of_mem _ hx)⟩

theorem Sat.perm {w0 : World} {M : Nat → Prop} {H H' : List Ck} {w : World} (h : Sat w0 M H w) (hp : H.Perm H') : Sat w0 M H' w :=
  ⟨h.chg, fun x hx => h.all x (hp.mem_iff.2 hx), (hp.pairwise_iff (fun {_ _} hs b h1 h2 => hs b h2 h1)).1 h.sep, fun x hx => h.bd x (hp.mem_iff.2 hx)⟩

theorem Rp.perm {H H' : List Ck} {c c' : Ck} (h : Rp H c c' H') : ∃ R, H.Perm (c :: R) ∧ H'.Perm (c' :: R) := by
  induction h with
  | z => exact ⟨_, .refl _, .refl _⟩
  | @s H H' c c' d _ ih =>
    obtain ⟨R, h1, h2⟩ := ih
    exact ⟨d :: R, (h1.cons d).trans (.swap _ _ _), (h2.cons d).trans (.swap _ _ _)⟩

theorem Sat.rep {w0 : World} {M : Nat → Prop} {N : List Nat} {H H' : List Ck} {c c' : Ck} {w w' : World} (h : Sat w0 M H w) (hr : Rp H c c' H') (g : Chg N w w') (hN : ∀ k ∈ N, c.D k) (hp : c'.p w')
    (hD : ∀ b, c'.D b → (c.D b ∨ w.heap.size ≤ b) ∧ b < w'.heap.size) : Sat w0 M H' w' := by
  obtain ⟨R, h1, h2⟩ := hr.perm
  have h3 := h.perm h1
  refine Sat.perm ?_ h2.symm
  have hsep := List.pairwise_cons.1 h3.sep
  have hbd := h3.bd c List.mem_cons_self
  refine ⟨h.chg.up g (fun k hk => (hbd k (hN k hk)).2), ?_, List.pairwise_cons.2 ⟨?_, hsep.2⟩, ?_⟩
  · intro y hy
    rcases List.mem_cons.1 hy with rfl | hy
    · exact hp
    · exact Ck.st (h3.all y (List.mem_cons_of_mem _ hy)) g.P (fun b hb hm => hsep.1 y hy b (hN b hm) hb)
  · intro y hy b hb hb'
    rcases (hD b hb).1 with h4 | h4
    · exact hsep.1 y hy b h4 hb'
    · have := (h3.bd y (List.mem_cons_of_mem _ hy) b hb').1
      omega
  · intro y hy b hb
    rcases List.mem_cons.1 hy with rfl | hy
    · refine ⟨(hD b hb).2, ?_⟩
      rcases (hD b hb).1 with h4 | h4
      · exact (hbd b h4).2
      · exact .inr (Nat.le_trans h.chg.size h4)
    · exact ⟨Nat.lt_of_lt_of_le (h3.bd y (List.mem_cons_of_mem _ hy) b hb).1 g.size, (h3.bd y (List.mem_cons_of_mem _ hy) b hb).2⟩

/-- Some of the pieces, in some order. -/
inductive Rm : List Ck → Ck → List Ck → Prop
  | z {H : List Ck} {c : Ck} : Rm (c :: H) c H
  | s {H H' : List Ck} {c d : Ck} : Rm H c H' → Rm (d :: H) c (d :: H')
inductive Sp : List Ck → List Ck → Prop
  | nil {H : List Ck} : Sp H []
  | cons {H H1 H' : List Ck} {c : Ck} : Rm H c H1 → Sp H1 H' → Sp H (c :: H')

theorem Rm.perm {H H' : List Ck} {c : Ck} (h : Rm H c H') : H.Perm (c :: H') := by
  induction h with
  | z => exact .refl _
  | @s H H' c d _ ih => exact (ih.cons d).trans (.swap _ _ _)

theorem Sat.sp {w0 : World} {M : Nat → Prop} {H H' : List Ck} {w : World} (h : Sat w0 M H w) (hs : Sp H H') : Sat w0 M H' w := by
  induction hs with
  | nil => exact ⟨h.chg, by simp, .nil, by simp⟩
  | @cons H H1 H' c hr _ ih =>
    have h1 := h.perm hr.perm
    have h2 := ih h1.tail
    have key : ∀ {A B : List Ck}, Sp A B → ∀ c ∈ B, c ∈ A := by
      intro A B hs
      induction hs with
      | nil => intro c hc; simp at hc
      | @cons A A1 B c hr _ ih =>
        intro d hd
        rcases List.mem_cons.1 hd with rfl | hd
        · exact hr.perm.mem_iff.2 List.mem_cons_self
        · exact hr.perm.mem_iff.2 (List.mem_cons_of_mem _ (ih d hd))
    rename_i hsp
    refine ⟨h.chg, ?_, List.pairwise_cons.2 ⟨fun y hy => (List.pairwise_cons.1 h1.sep).1 y (key hsp y hy), h2.sep⟩, ?_⟩
    · intro y hy
      rcases List.mem_cons.1 hy with rfl | hy
      · exact h1.all _ List.mem_cons_self
      · exact h2.all y hy
    · intro y hy
      rcases List.mem_cons.1 hy with rfl | hy
      · exact h1.bd _ List.mem_cons_self
      · exact h2.bd y hy

section
variable {P : Program} {T : Tab}

/-- The judgement of parts A, at every world that fits the pieces. -/
structure Q (P : Program) (ro : Cx) (n : Nat) (F : Fin) (w0 : World) (M : Nat → Prop) (k : List It) (e : Env) (H : List Ck) : Prop where
  h : ∀ w, Sat w0 M H w → Y P ro n F k e w
structure QL (P : Program) (ro : Cx) (n : Nat) (F : Fin) (w0 : World) (M : Nat → Prop) (k : List It) (ops : Array Oper) (l : List Oper) (e : Env) (H : List Ck) : Prop where
  h : ∀ w, Sat w0 M H w → YL P ro n F k ops l e w
/-- In a region that draws its order: Hq are the pieces that stay as they are till its end. -/
structure QF (P : Program) (ro : Cx) (n : Nat) (F : Fin) (w0 : World) (M : Nat → Prop) (k : List It) (ops : Array Oper) (Hq : List Ck) (l : List Oper) (e : Env) (H : List Ck) : Prop where
  h : ∀ w, Sat w0 M (H ++ Hq) w → YF P ro n F k ops (Sat w0 M Hq) l e w

variable {ro : Cx} {n : Nat} {F : Fin} {w0 : World} {M : Nat → Prop} {k : List It} {ops : Array Oper} {l rest : List Oper} {e : Env} {H Hq : List Ck}

instance : CoeFun (Q P ro n F w0 M k e H) (fun _ => ∀ w, Sat w0 M H w → Y P ro n F k e w) := ⟨Q.h⟩
instance : CoeFun (QL P ro n F w0 M k ops l e H) (fun _ => ∀ w, Sat w0 M H w → YL P ro n F k ops l e w) := ⟨QL.h⟩
instance : CoeFun (QF P ro n F w0 M k ops Hq l e H) (fun _ => ∀ w, Sat w0 M (H ++ Hq) w → YF P ro n F k ops (Sat w0 M Hq) l e w) := ⟨QF.h⟩

theorem Sat.right {w : World} : ∀ {H : List Ck}, Sat w0 M (H ++ Hq) w → Sat w0 M Hq w
  | [], h => h
  | _ :: _, h => Sat.right (Sat.tail h)

/-! Code -/
theorem q_seq {c d : Code} (h : Q P ro n F w0 M (.code c :: .code d :: k) e H) : Q P ro n F w0 M (.code (.seq c d) :: k) e H := .mk fun w hs => y_seq (h w hs)
theorem q_skip (h : Q P ro n F w0 M k e H) : Q P ro n F w0 M (.code .skip :: k) e H := .mk fun w hs => y_skip (h w hs)
theorem q_label {l : Nat} (h : Q P ro n F w0 M k e H) : Q P ro n F w0 M (.code (.label l) :: k) e H := .mk fun w hs => y_label (h w hs)
theorem q_block {id : Nat} {c : Code} (h : Q P ro n F w0 M (.code c :: .blk id :: k) e H) : Q P ro n F w0 M (.code (.block id c) :: k) e H := .mk fun w hs => y_block (h w hs)
theorem q_blk {id : Nat} (h : Q P ro n F w0 M k e H) : Q P ro n F w0 M (.blk id :: k) e H := .mk fun w hs => y_blk (h w hs)
theorem q_exit {id : Nat} (k' : List It) (hk : dropTo id k = some k') (h : Q P ro n F w0 M k' e H) : Q P ro n F w0 M (.code (.exit id) :: k) e H := .mk fun w hs => y_exit k' hk (h w hs)
theorem q_exit_out {id : Nat} (hk : dropTo id k = none) (h : Q P ro n (fun _ => F (.exit id)) w0 M [] e H) : Q P ro n F w0 M (.code (.exit id) :: k) e H := .mk fun w hs => y_exit_out hk (h w hs)
theorem q_ret (h : Q P ro n (fun _ => F .ret) w0 M [] e H) : Q P ro n F w0 M (.code .ret :: k) e H := .mk fun w hs => y_ret (h w hs)
theorem q_cond_true {c : Operand} {x y : Code} (hc : opv e c = some (.bool true)) (h : Q P ro n F w0 M (.code x :: k) e H) : Q P ro n F w0 M (.code (.cond c x y) :: k) e H := .mk fun w hs => y_cond_true hc (h w hs)
theorem q_cond_false {c : Operand} {x y : Code} (hc : opv e c = some (.bool false)) (h : Q P ro n F w0 M (.code y :: k) e H) : Q P ro n F w0 M (.code (.cond c x y) :: k) e H := .mk fun w hs => y_cond_false hc (h w hs)
theorem q_if {c : Operand} {x y : Code} {p : Prop} [Decidable p] (hc : opv e c = some (.bool (decide p))) (ht : p → Q P ro n F w0 M (.code x :: k) e H) (hf : ¬p → Q P ro n F w0 M (.code y :: k) e H) :
    Q P ro n F w0 M (.code (.cond c x y) :: k) e H := .mk fun w hs => y_if hc (fun h => ht h w hs) (fun h => hf h w hs)
theorem q_ifn {c : Operand} {x y : Code} {p : Prop} [Decidable p] (hc : opv e c = some (.bool (!decide p))) (ht : ¬p → Q P ro n F w0 M (.code x :: k) e H) (hf : p → Q P ro n F w0 M (.code y :: k) e H) :
    Q P ro n F w0 M (.code (.cond c x y) :: k) e H := .mk fun w hs => y_ifn hc (fun h => ht h w hs) (fun h => hf h w hs)
theorem q_region {id : Nat} {l : List Oper} (h : QL P ro n F w0 M k l.toArray l e H) : Q P ro n F w0 M (.code (.region id l.toArray false) :: k) e H := .mk fun w hs => y_region (h w hs)
theorem q_scope {r : List Deferred} {c : Code} (hF : ∀ l a w, ¬ F (.goto l) a w) (h : Q P ⟨none, r⟩ n F w0 M (.code c :: k) e H) : Q P ⟨none, r⟩ n F w0 M (.code (.scope c) :: k) e H := .mk fun w hs => y_scope hF (h w hs)
theorem q_nil (h : Q P ro n F w0 M k e H) : QL P ro n F w0 M k ops [] e H := .mk fun w hs => yl_nil (h w hs)

theorem q_draw {id : Nat} {l : List Oper} (Hq Hm : List Ck) (hH : Sp H (Hm ++ Hq)) (hm : P.follows .mixedOrders = true) (hB : flB l.toArray = true) (h : QF P ro n F w0 M k l.toArray Hq l e Hm) :
    Q P ro n F w0 M (.code (.region id l.toArray true) :: k) e H := .mk fun w hs a hf hd => by
  have hs1 := (hs.sp hH).keep (Chg.drew (N := []) w)
  have h1 := h _ hs1 a hf hd
  refine wpIn_region_fl hm (flB_spec hB) (C := Sat w0 M Hq) hs1.right (fun _ _ _ h => h) ?_
  have h2 := wpFl_eq (P := P) (ops := l.toArray) (C := Sat w0 M Hq) (K := fun a w => S P ro.ro F k .normal a w) l 0 (by simp)
  rw [show List.range l.toArray.size = List.range' 0 l.length from by simp [List.range_eq_range'], h2]
  exact h1
theorem qf_nil (h : Q P ro n F w0 M k e (H ++ Hq)) : QF P ro n F w0 M k ops Hq [] e H := .mk fun w hs => yf_nil (h w hs)

/-- A loop, whose state is s. -/
theorem q_loop {σ : Type} {body : Code} (inv : σ → Prop) (m : σ → Nat) (env : σ → Env) (hp : σ → List Ck) (s0 : σ) (h0 : inv s0) (hs : Sub (env s0) e) (hH : Sp H (hp s0))
    (round : ∀ s, inv s → ∀ K : Act → World → Prop, (∀ s' e' H', inv s' → m s' < m s → Sub (env s') e' → Sp H' (hp s') → Q P ro n F w0 M (.k K :: k) e' H') → Q P ro n F w0 M (.code body :: .k K :: k) (env s) (hp s)) :
    Q P ro n F w0 M (.code (.loop body) :: k) e H := .mk fun w hw =>
  y_loop (fun m' l w' => ∃ s, inv s ∧ m' = m s ∧ l = env s ∧ Sat w0 M (hp s) w') (m := m s0) (l := env s0) ⟨s0, h0, rfl, rfl, hw.sp hH⟩ hs (by
    rintro m' l w' ⟨s, hi, rfl, rfl, hsat⟩ K hK
    exact round s hi K (fun s' e' H' hi' hlt hsub hsp => .mk fun w'' hw'' a hf hd => hK (m s') (env s') e' w'' ⟨s', hi', rfl, rfl, hw''.sp hsp⟩ hlt hsub a hf hd) w' hsat)

end
end Go.Eng

/- The engine, part B2: operations, over pieces of memory. -/
namespace Go.Eng
open Go Go.RowKit

section
variable {P : Program} {T : Tab}
variable {ro : Cx} {n : Nat} {F : Fin} {w0 : World} {M : Nat → Prop} {k : List It} {ops : Array Oper} {l rest : List Oper} {e : Env} {H Hq : List Ck}

theorem Rp.app {H H' : List Ck} {c c' : Ck} (h : Rp H c c' H') (R : List Ck) : Rp (H ++ R) c c' (H' ++ R) := by
  induction h with
  | z => exact .z
  | s _ ih => exact .s ih

theorem Rm.app {H H' : List Ck} {c : Ck} (h : Rm H c H') (R : List Ck) : Rm (H ++ R) c (H' ++ R) := by
  induction h with
  | z => exact .z
  | s _ ih => exact .s ih
theorem Sp.refl : ∀ (H : List Ck), Sp H H
  | [] => .nil
  | _ :: H => .cons .z (Sp.refl H)
theorem Sp.skip : ∀ (A R : List Ck), Sp (A ++ R) R
  | [], R => .refl R
  | a :: A, R => by
    have h := Sp.skip A R
    have key : ∀ {X Y : List Ck}, Sp X Y → Sp (a :: X) Y := by
      intro X Y hs
      induction hs with
      | nil => exact .nil
      | cons hr _ ih => exact .cons (.s hr) ih
    exact key h
theorem Sp.app {H H' : List Ck} (h : Sp H H') (R : List Ck) : Sp (H ++ R) (H' ++ R) := by
  induction h with
  | @nil H => exact Sp.skip H R
  | cons hr _ ih => exact .cons (hr.app R) ih

/-! What stands next -/
/-! Pure operations -/
theorem ql_pure (hT : T.Ok P) {t : Nat} {v : Value} {op : Op} {ty : TypeId} {pos : String} {af : Array Edge} (hv : evp T e op = some v) (ht : Nat.blt t n = true)
    (h : QL P ro n F w0 M k ops rest ((t, v) :: e) H) : QL P ro n F w0 M k ops (⟨some t, op, ty, pos, af, none⟩ :: rest) e H := .mk fun w hs => yl_pure hT hv ht (h w hs)
theorem qf_pure (hT : T.Ok P) {t : Nat} {v : Value} {op : Op} {ty : TypeId} {pos : String} {af : Array Edge} (hv : evp T e op = some v) (he : eff op = false) (ht : Nat.blt t n = true)
    (h : QF P ro n F w0 M k ops Hq rest ((t, v) :: e) H) : QF P ro n F w0 M k ops Hq (⟨some t, op, ty, pos, af, none⟩ :: rest) e H := .mk fun w hs => yf_pure hT hv he ht (h w hs)

theorem evp_arith {o : BinOp} {t t' : Nat} {x y : Operand} {a b : Int} (hx : opv e x = some (.int .i64 a)) (hy : opv e y = some (.int .i64 b)) : evp T e (.binOp o t x y t') = binV o .i64 a b := by
  simp [evp, hx, hy, kindEq]

theorem ql_ext (hT : T.Ok P) {t i : Nat} {x : Operand} {vs : Array Value} {v : Value} {ty : TypeId} {pos : String} {af : Array Edge} (hx : opv e x = some (.tuple vs)) (hv : vs.toList[i]? = some v) (ht : Nat.blt t n = true)
    (h : QL P ro n F w0 M k ops rest ((t, v) :: e) H) : QL P ro n F w0 M k ops (⟨some t, .extract x i, ty, pos, af, none⟩ :: rest) e H := ql_pure hT (by simp only [evp, hx]; simpa using hv) ht h
theorem qf_ext (hT : T.Ok P) {t i : Nat} {x : Operand} {vs : Array Value} {v : Value} {ty : TypeId} {pos : String} {af : Array Edge} (hx : opv e x = some (.tuple vs)) (hv : vs.toList[i]? = some v) (ht : Nat.blt t n = true)
    (h : QF P ro n F w0 M k ops Hq rest ((t, v) :: e) H) : QF P ro n F w0 M k ops Hq (⟨some t, .extract x i, ty, pos, af, none⟩ :: rest) e H := qf_pure hT (by simp only [evp, hx]; simpa using hv) rfl ht h
/-- The sum, difference or product that does not wrap. -/
def arV : BinOp → Int → Int → Option Int
  | .add, a, b => some (a + b)
  | .sub, a, b => some (a - b)
  | .mul, a, b => some (a * b)
  | _, _, _ => none

theorem arV_bin {o : BinOp} {a b c : Int} (h : arV o a b = some c) (h1 : -9223372036854775808 ≤ c) (h2 : c < 9223372036854775808) : binV o .i64 a b = some (.int .i64 c) := by
  cases o <;> simp [arV] at h <;> subst h <;> simp [binV, w64 h1 h2]

theorem ql_ar (hT : T.Ok P) {d : Nat} {o : BinOp} {t t' : Nat} {x y : Operand} {a b c : Int} {ty : TypeId} {pos : String} {af : Array Edge} (hx : opv e x = some (.int .i64 a)) (hy : opv e y = some (.int .i64 b)) (hc : arV o a b = some c) (hd : Nat.blt d n = true)
    (h1 : -9223372036854775808 ≤ c) (h2 : c < 9223372036854775808) (h : QL P ro n F w0 M k ops rest ((d, .int .i64 c) :: e) H) : QL P ro n F w0 M k ops (⟨some d, .binOp o t x y t', ty, pos, af, none⟩ :: rest) e H :=
  ql_pure hT ((evp_arith hx hy).trans (arV_bin hc h1 h2)) hd h
theorem qf_ar (hT : T.Ok P) {d : Nat} {o : BinOp} {t t' : Nat} {x y : Operand} {a b c : Int} {ty : TypeId} {pos : String} {af : Array Edge} (hx : opv e x = some (.int .i64 a)) (hy : opv e y = some (.int .i64 b)) (hc : arV o a b = some c) (hd : Nat.blt d n = true)
    (h1 : -9223372036854775808 ≤ c) (h2 : c < 9223372036854775808) (h : QF P ro n F w0 M k ops Hq rest ((d, .int .i64 c) :: e) H) : QF P ro n F w0 M k ops Hq (⟨some d, .binOp o t x y t', ty, pos, af, none⟩ :: rest) e H :=
  qf_pure hT ((evp_arith hx hy).trans (arV_bin hc h1 h2)) rfl hd h

theorem evp_neg {t : Nat} {x : Operand} {a : Int} (hx : opv e x = some (.int .i64 a)) (h1 : -9223372036854775808 ≤ -a) (h2 : -a < 9223372036854775808) : evp T e (.unOp .neg t x) = some (.int .i64 (-a)) := by
  simp [evp, hx]
  rw [w64 (by omega) (by omega)]
theorem ql_neg (hT : T.Ok P) {d t : Nat} {x : Operand} {a : Int} {ty : TypeId} {pos : String} {af : Array Edge} (hx : opv e x = some (.int .i64 a)) (hd : Nat.blt d n = true) (h1 : -9223372036854775808 ≤ -a) (h2 : -a < 9223372036854775808)
    (h : QL P ro n F w0 M k ops rest ((d, .int .i64 (-a)) :: e) H) : QL P ro n F w0 M k ops (⟨some d, .unOp .neg t x, ty, pos, af, none⟩ :: rest) e H := ql_pure hT (evp_neg hx h1 h2) hd h
/-! Guards -/
theorem ql_gyes {dst : Option Nat} {op : Op} {ty : TypeId} {pos : String} {af : Array Edge} {j : Nat} {b : Bool} (hg : guardV ops e j = some b)
    (h : QL P ro n F w0 M k ops (⟨dst, op, ty, pos, af, none⟩ :: rest) e H) : QL P ro n F w0 M k ops (⟨dst, op, ty, pos, af, some (j, b)⟩ :: rest) e H := .mk fun w hs => yl_guard_yes hg (h w hs)
theorem ql_gno {t : Nat} {op : Op} {ty : TypeId} {pos : String} {af : Array Edge} {j : Nat} {b c : Bool} (hg : guardV ops e j = some c) (hne : (c == b) = false) (ht : Nat.blt t n = true)
    (h : QL P ro n F w0 M k ops rest ((t, undef) :: e) H) : QL P ro n F w0 M k ops (⟨some t, op, ty, pos, af, some (j, b)⟩ :: rest) e H := .mk fun w hs => yl_guard_no hg hne ht (h w hs)
theorem qf_gyes {dst : Option Nat} {op : Op} {ty : TypeId} {pos : String} {af : Array Edge} {j : Nat} {b : Bool} (hg : guardV ops e j = some b)
    (h : QF P ro n F w0 M k ops Hq (⟨dst, op, ty, pos, af, none⟩ :: rest) e H) : QF P ro n F w0 M k ops Hq (⟨dst, op, ty, pos, af, some (j, b)⟩ :: rest) e H := .mk fun w hs => yf_guard_yes hg (h w hs)
theorem qf_gno {t : Nat} {op : Op} {ty : TypeId} {pos : String} {af : Array Edge} {j : Nat} {b c : Bool} (hg : guardV ops e j = some c) (hne : (c == b) = false) (ht : Nat.blt t n = true)
    (h : QF P ro n F w0 M k ops Hq rest ((t, undef) :: e) H) : QF P ro n F w0 M k ops Hq (⟨some t, op, ty, pos, af, some (j, b)⟩ :: rest) e H := .mk fun w hs => yf_guard_no hg hne ht (h w hs)
/-- The operation that guards has been left out, too. -/
def guardN (ops : Array Oper) (e : Env) (j : Nat) : Bool :=
  match (ops[j]?).bind (·.dst) with
  | some t => (match look e t with | some (.bool _) => false | some _ => true | none => false)
  | none => false
theorem guardN_yielded {ops : Array Oper} {a : Act} (hf : Fits n e a) {j : Nat} (h : guardN ops e j = true) : yielded ops a.tmps j = none := by
  simp only [guardN] at h
  cases hd : (ops[j]?).bind (·.dst) with
  | none => simp [hd] at h
  | some t =>
    simp only [hd] at h
    cases hl : look e t with
    | none => simp [hl] at h
    | some v =>
      have h1 := hf.at_ t v hl
      simp only [yielded, hd, Option.bind_some]
      simp only [Array.getD_eq_getD_getElem?] at h1
      cases hc : a.tmps[t]? with
      | none => simp
      | some u =>
        simp [hc] at h1
        subst h1
        cases u <;> first | (simp [hl] at h; done) | simp
theorem ql_gnone {t : Nat} {op : Op} {ty : TypeId} {pos : String} {af : Array Edge} {j : Nat} {b : Bool} (hg : guardN ops e j = true) (ht : Nat.blt t n = true)
    (h : QL P ro n F w0 M k ops rest ((t, undef) :: e) H) : QL P ro n F w0 M k ops (⟨some t, op, ty, pos, af, some (j, b)⟩ :: rest) e H := .mk fun w hs a hf hd => by
  have hy := guardN_yielded hf hg
  have hw : ((none : Option Bool) == some b) = false := by cases b <;> rfl
  simp only [wpListIn, Region.wanted, hy, hw]
  exact ⟨fun f _ => fr_fn f, h w hs _ (hf.put undef ht) (by simpa [Act.put] using hd)⟩
theorem qf_gnone {t : Nat} {op : Op} {ty : TypeId} {pos : String} {af : Array Edge} {j : Nat} {b : Bool} (hg : guardN ops e j = true) (ht : Nat.blt t n = true)
    (h : QF P ro n F w0 M k ops Hq rest ((t, undef) :: e) H) : QF P ro n F w0 M k ops Hq (⟨some t, op, ty, pos, af, some (j, b)⟩ :: rest) e H := .mk fun w hs a hf hd => by
  have hy := guardN_yielded hf hg
  have hw : ((none : Option Bool) == some b) = false := by cases b <;> rfl
  simp only [wpFlL, Region.wanted, hy, hw]
  exact h w hs _ (hf.put undef ht) (by simpa [Act.put] using hd)
theorem ql_split {dst : Option Nat} {op : Op} {ty : TypeId} {pos : String} {af : Array Edge} {j t : Nat} {b c : Bool} (hg : guardT ops j = some t) (hl : look e t = some (.bool b))
    (hy : b = true → QL P ro n F w0 M k ops (⟨dst, op, ty, pos, af, some (j, c)⟩ :: rest) ((t, .bool true) :: e) H) (hn : b = false → QL P ro n F w0 M k ops (⟨dst, op, ty, pos, af, some (j, c)⟩ :: rest) ((t, .bool false) :: e) H) :
    QL P ro n F w0 M k ops (⟨dst, op, ty, pos, af, some (j, c)⟩ :: rest) e H := .mk fun w hs => yl_split hg hl (fun h => hy h w hs) (fun h => hn h w hs)
/-! Loads -/
theorem ql_load1 (hT : T.Ok P) {d t : Nat} {x : Operand} {ad : Addr} {v : Value} {ty : TypeId} {pos : String} {af : Array Edge}
    (hx : opv e x = some (.pointer (some ad))) (h1 : has T.one t = true) (hd : Nat.blt d n = true) (hc : ∀ w, Sat w0 M H w → w.cell? ad = some v)
    (h : QL P ro n F w0 M k ops rest ((d, v) :: e) H) : QL P ro n F w0 M k ops (⟨some d, .load t x, ty, pos, af, none⟩ :: rest) e H := .mk fun w hs => yl_load1 hT hx h1 hd (hc w hs) (h w hs)
theorem ql_loadA (hT : T.Ok P) {d t m : Nat} {x : Operand} {b off : Nat} {cs : List Value} {ty : TypeId} {pos : String} {af : Array Edge}
    (hx : opv e x = some (.pointer (some ⟨b, off, none⟩))) (h1 : find1 T.agg t = some m) (hd : Nat.blt d n = true) (hl : cs.length = m) (hc : ∀ w, Sat w0 M H w → ∀ j, j < m → w.cell? ⟨b, off + j, none⟩ = cs[j]?)
    (h : QL P ro n F w0 M k ops rest ((d, .agg cs.toArray) :: e) H) : QL P ro n F w0 M k ops (⟨some d, .load t x, ty, pos, af, none⟩ :: rest) e H := .mk fun w hs => yl_loadA hT hx h1 hd hl (hc w hs) (h w hs)
theorem qf_load1 (hT : T.Ok P) {d t : Nat} {x : Operand} {ad : Addr} {v : Value} {ty : TypeId} {pos : String} {af : Array Edge}
    (hx : opv e x = some (.pointer (some ad))) (h1 : has T.one t = true) (hd : Nat.blt d n = true) (hc : ∀ w, Sat w0 M Hq w → w.cell? ad = some v)
    (h : QF P ro n F w0 M k ops Hq rest ((d, v) :: e) H) : QF P ro n F w0 M k ops Hq (⟨some d, .load t x, ty, pos, af, none⟩ :: rest) e H := .mk fun w hs => yf_load1 hT hx h1 hd hc (h w hs)
theorem qf_loadA (hT : T.Ok P) {d t m : Nat} {x : Operand} {b off : Nat} {cs : List Value} {ty : TypeId} {pos : String} {af : Array Edge}
    (hx : opv e x = some (.pointer (some ⟨b, off, none⟩))) (h1 : find1 T.agg t = some m) (hd : Nat.blt d n = true) (hl : cs.length = m) (hc : ∀ w, Sat w0 M Hq w → ∀ j, j < m → w.cell? ⟨b, off + j, none⟩ = cs[j]?)
    (h : QF P ro n F w0 M k ops Hq rest ((d, .agg cs.toArray) :: e) H) : QF P ro n F w0 M k ops Hq (⟨some d, .load t x, ty, pos, af, none⟩ :: rest) e H := .mk fun w hs => yf_loadA hT hx h1 hd hl hc (h w hs)
theorem ql_loadB (hT : T.Ok P) {d t : Nat} {x : Operand} {b i : Nat} {cs : List Value} {bt : TypeId} {v : Value} {ty : TypeId} {pos : String} {af : Array Edge}
    (hx : opv e x = some (.pointer (some ⟨b, i, none⟩))) (h1 : has T.one t = true) (hd : Nat.blt d n = true) (hb : Ck.pt b cs bt ∈ H) (hv : cs[i]? = some v)
    (h : QL P ro n F w0 M k ops rest ((d, v) :: e) H) : QL P ro n F w0 M k ops (⟨some d, .load t x, ty, pos, af, none⟩ :: rest) e H := ql_load1 hT hx h1 hd (fun _ hs => (Blk.cell (hs.mem hb) i).trans hv) h
theorem ql_loadAB (hT : T.Ok P) {d t m : Nat} {x : Operand} {b i : Nat} {cs us : List Value} {bt : TypeId} {ty : TypeId} {pos : String} {af : Array Edge}
    (hx : opv e x = some (.pointer (some ⟨b, i, none⟩))) (h1 : find1 T.agg t = some m) (hd : Nat.blt d n = true) (hb : Ck.pt b cs bt ∈ H) (hu : (cs.drop i).take m = us) (hl : us.length = m)
    (h : QL P ro n F w0 M k ops rest ((d, .agg us.toArray) :: e) H) : QL P ro n F w0 M k ops (⟨some d, .load t x, ty, pos, af, none⟩ :: rest) e H :=
  ql_loadA hT hx h1 hd hl (fun _ hs j hj => by rw [Blk.cell (hs.mem hb), ← hu, List.getElem?_take, if_pos hj, List.getElem?_drop]) h
theorem qf_loadB (hT : T.Ok P) {d t : Nat} {x : Operand} {b i : Nat} {cs : List Value} {bt : TypeId} {v : Value} {ty : TypeId} {pos : String} {af : Array Edge}
    (hx : opv e x = some (.pointer (some ⟨b, i, none⟩))) (h1 : has T.one t = true) (hd : Nat.blt d n = true) (hb : Ck.pt b cs bt ∈ Hq) (hv : cs[i]? = some v)
    (h : QF P ro n F w0 M k ops Hq rest ((d, v) :: e) H) : QF P ro n F w0 M k ops Hq (⟨some d, .load t x, ty, pos, af, none⟩ :: rest) e H := qf_load1 hT hx h1 hd (fun _ hs => (Blk.cell (hs.mem hb) i).trans hv) h
theorem qf_loadAB (hT : T.Ok P) {d t m : Nat} {x : Operand} {b i : Nat} {cs us : List Value} {bt : TypeId} {ty : TypeId} {pos : String} {af : Array Edge}
    (hx : opv e x = some (.pointer (some ⟨b, i, none⟩))) (h1 : find1 T.agg t = some m) (hd : Nat.blt d n = true) (hb : Ck.pt b cs bt ∈ Hq) (hu : (cs.drop i).take m = us) (hl : us.length = m)
    (h : QF P ro n F w0 M k ops Hq rest ((d, .agg us.toArray) :: e) H) : QF P ro n F w0 M k ops Hq (⟨some d, .load t x, ty, pos, af, none⟩ :: rest) e H :=
  qf_loadA hT hx h1 hd hl (fun _ hs j hj => by rw [Blk.cell (hs.mem hb), ← hu, List.getElem?_take, if_pos hj, List.getElem?_drop]) h
/-! The same, with what can be found by trying left out -/
theorem ql_loadBa (hT : T.Ok P) {d t : Nat} {x : Operand} {b i : Nat} {cs : List Value} {bt : TypeId} {v : Value} {ty : TypeId} {pos : String} {af : Array Edge}
    (hx : opv e x = some (.pointer (some ⟨b, i, none⟩))) (h1 : has T.one t = true) (hd : Nat.blt d n = true)
    (h : QL P ro n F w0 M k ops rest ((d, v) :: e) H) (hb : Ck.pt b cs bt ∈ H := by repeat constructor) (hv : cs[i]? = some v := by rfl) : QL P ro n F w0 M k ops (⟨some d, .load t x, ty, pos, af, none⟩ :: rest) e H := ql_loadB hT hx h1 hd hb hv h
theorem ql_loadABa (hT : T.Ok P) {d t m : Nat} {x : Operand} {b i : Nat} {cs us : List Value} {bt : TypeId} {ty : TypeId} {pos : String} {af : Array Edge}
    (hx : opv e x = some (.pointer (some ⟨b, i, none⟩))) (h1 : find1 T.agg t = some m) (hd : Nat.blt d n = true)
    (h : QL P ro n F w0 M k ops rest ((d, .agg us.toArray) :: e) H) (hb : Ck.pt b cs bt ∈ H := by repeat constructor) (hu : (cs.drop i).take m = us := by rfl) (hl : us.length = m := by rfl) : QL P ro n F w0 M k ops (⟨some d, .load t x, ty, pos, af, none⟩ :: rest) e H := ql_loadAB hT hx h1 hd hb hu hl h
theorem qf_loadBa (hT : T.Ok P) {d t : Nat} {x : Operand} {b i : Nat} {cs : List Value} {bt : TypeId} {v : Value} {ty : TypeId} {pos : String} {af : Array Edge}
    (hx : opv e x = some (.pointer (some ⟨b, i, none⟩))) (h1 : has T.one t = true) (hd : Nat.blt d n = true)
    (h : QF P ro n F w0 M k ops Hq rest ((d, v) :: e) H) (hb : Ck.pt b cs bt ∈ Hq := by repeat constructor) (hv : cs[i]? = some v := by rfl) : QF P ro n F w0 M k ops Hq (⟨some d, .load t x, ty, pos, af, none⟩ :: rest) e H := qf_loadB hT hx h1 hd hb hv h
theorem qf_loadABa (hT : T.Ok P) {d t m : Nat} {x : Operand} {b i : Nat} {cs us : List Value} {bt : TypeId} {ty : TypeId} {pos : String} {af : Array Edge}
    (hx : opv e x = some (.pointer (some ⟨b, i, none⟩))) (h1 : find1 T.agg t = some m) (hd : Nat.blt d n = true)
    (h : QF P ro n F w0 M k ops Hq rest ((d, .agg us.toArray) :: e) H) (hb : Ck.pt b cs bt ∈ Hq := by repeat constructor) (hu : (cs.drop i).take m = us := by rfl) (hl : us.length = m := by rfl) : QF P ro n F w0 M k ops Hq (⟨some d, .load t x, ty, pos, af, none⟩ :: rest) e H := qf_loadAB hT hx h1 hd hb hu hl h

/-! Loads out of blocks that lay there before -/
theorem ql_loadP (hT : T.Ok P) {d t : Nat} {x : Operand} {b i : Nat} {cs : List Value} {bt : TypeId} {v : Value} {ty : TypeId} {pos : String} {af : Array Edge}
    (hx : opv e x = some (.pointer (some ⟨b, i, none⟩))) (h1 : has T.one t = true) (hd : Nat.blt d n = true) (hb : Blk w0 b cs bt) (hv : cs[i]? = some v)
    (h : QL P ro n F w0 M0 k ops rest ((d, v) :: e) H) : QL P ro n F w0 M0 k ops (⟨some d, .load t x, ty, pos, af, none⟩ :: rest) e H := ql_load1 hT hx h1 hd (fun _ hs => ((hb.keep hs.chg0).cell i).trans hv) h
theorem ql_loadPA (hT : T.Ok P) {d t m : Nat} {x : Operand} {b i : Nat} {cs us : List Value} {bt : TypeId} {ty : TypeId} {pos : String} {af : Array Edge}
    (hx : opv e x = some (.pointer (some ⟨b, i, none⟩))) (h1 : find1 T.agg t = some m) (hd : Nat.blt d n = true) (hb : Blk w0 b cs bt) (hu : (cs.drop i).take m = us) (hl : us.length = m)
    (h : QL P ro n F w0 M0 k ops rest ((d, .agg us.toArray) :: e) H) : QL P ro n F w0 M0 k ops (⟨some d, .load t x, ty, pos, af, none⟩ :: rest) e H :=
  ql_loadA hT hx h1 hd hl (fun _ hs j hj => by rw [(hb.keep hs.chg0).cell, ← hu, List.getElem?_take, if_pos hj, List.getElem?_drop]) h
theorem qf_loadP (hT : T.Ok P) {d t : Nat} {x : Operand} {b i : Nat} {cs : List Value} {bt : TypeId} {v : Value} {ty : TypeId} {pos : String} {af : Array Edge}
    (hx : opv e x = some (.pointer (some ⟨b, i, none⟩))) (h1 : has T.one t = true) (hd : Nat.blt d n = true) (hb : Blk w0 b cs bt) (hv : cs[i]? = some v)
    (h : QF P ro n F w0 M0 k ops Hq rest ((d, v) :: e) H) : QF P ro n F w0 M0 k ops Hq (⟨some d, .load t x, ty, pos, af, none⟩ :: rest) e H := qf_load1 hT hx h1 hd (fun _ hs => ((hb.keep hs.chg0).cell i).trans hv) h
theorem qf_loadPA (hT : T.Ok P) {d t m : Nat} {x : Operand} {b i : Nat} {cs us : List Value} {bt : TypeId} {ty : TypeId} {pos : String} {af : Array Edge}
    (hx : opv e x = some (.pointer (some ⟨b, i, none⟩))) (h1 : find1 T.agg t = some m) (hd : Nat.blt d n = true) (hb : Blk w0 b cs bt) (hu : (cs.drop i).take m = us) (hl : us.length = m)
    (h : QF P ro n F w0 M0 k ops Hq rest ((d, .agg us.toArray) :: e) H) : QF P ro n F w0 M0 k ops Hq (⟨some d, .load t x, ty, pos, af, none⟩ :: rest) e H :=
  qf_loadA hT hx h1 hd hl (fun _ hs j hj => by rw [(hb.keep hs.chg0).cell, ← hu, List.getElem?_take, if_pos hj, List.getElem?_drop]) h

theorem ql_loadG (hT : T.Ok P) {d t : Nat} {x : Operand} {b i : Nat} {cs : List Value} {bt : TypeId} {v : Value} {ty : TypeId} {pos : String} {af : Array Edge}
    (hx : opv e x = some (.pointer (some ⟨b, i, none⟩))) (h1 : has T.one t = true) (hd : Nat.blt d n = true) (hb : ∀ w', ChgP M w0 w' → Blk w' b cs bt) (hv : cs[i]? = some v)
    (h : QL P ro n F w0 M k ops rest ((d, v) :: e) H) : QL P ro n F w0 M k ops (⟨some d, .load t x, ty, pos, af, none⟩ :: rest) e H := ql_load1 hT hx h1 hd (fun w hs => ((hb w hs.chg).cell i).trans hv) h
theorem qf_loadG (hT : T.Ok P) {d t : Nat} {x : Operand} {b i : Nat} {cs : List Value} {bt : TypeId} {v : Value} {ty : TypeId} {pos : String} {af : Array Edge}
    (hx : opv e x = some (.pointer (some ⟨b, i, none⟩))) (h1 : has T.one t = true) (hd : Nat.blt d n = true) (hb : ∀ w', ChgP M w0 w' → Blk w' b cs bt) (hv : cs[i]? = some v)
    (h : QF P ro n F w0 M k ops Hq rest ((d, v) :: e) H) : QF P ro n F w0 M k ops Hq (⟨some d, .load t x, ty, pos, af, none⟩ :: rest) e H := qf_load1 hT hx h1 hd (fun w hs => ((hb w hs.chg).cell i).trans hv) h
theorem ql_loadGA (hT : T.Ok P) {d t m : Nat} {x : Operand} {b i : Nat} {cs us : List Value} {bt : TypeId} {ty : TypeId} {pos : String} {af : Array Edge}
    (hx : opv e x = some (.pointer (some ⟨b, i, none⟩))) (h1 : find1 T.agg t = some m) (hd : Nat.blt d n = true) (hb : ∀ w', ChgP M w0 w' → Blk w' b cs bt) (hu : (cs.drop i).take m = us) (hl : us.length = m)
    (h : QL P ro n F w0 M k ops rest ((d, .agg us.toArray) :: e) H) : QL P ro n F w0 M k ops (⟨some d, .load t x, ty, pos, af, none⟩ :: rest) e H :=
  ql_loadA hT hx h1 hd hl (fun w hs j hj => by rw [(hb w hs.chg).cell, ← hu, List.getElem?_take, if_pos hj, List.getElem?_drop]) h
/-! New variables -/
/-- The zero value of a type. -/
structure ZeroOf (P : Program) (t : TypeId) (z : Value) : Prop where
  h : (P.info? t).bind (·.zero) = some z
theorem pt_new {w w' : World} {cs : List Value} {t : TypeId} (hz : w'.heap.size = w.heap.size + 1) : ∀ b, (Ck.pt w.heap.size cs t).D b → w.heap.size ≤ b ∧ b < w'.heap.size := by
  intro b hb
  simp only [Ck.D] at hb
  omega
theorem Sat.addPt {w w' : World} {cs : List Value} {t : TypeId} (h : Sat w0 M H w) (c : Chg [] w w') (hz : w'.heap.size = w.heap.size + 1) (hb : Blk w' w.heap.size cs t) : Sat w0 M (.pt w.heap.size cs t :: H) w' :=
  h.add (x := .pt w.heap.size cs t) c hb (pt_new hz)
theorem ql_box {d t : Nat} {x : Operand} {v : Value} {ty : TypeId} {pos : String} {af : Array Edge} (hx : opv e x = some v) (hd : Nat.blt d n = true)
    (h : ∀ b, QL P ro n F w0 M k ops rest ((d, .pointer (some ⟨b, 0, none⟩)) :: e) (.pt b v.cells.toList t :: H)) : QL P ro n F w0 M k ops (⟨some d, .box t x, ty, pos, af, none⟩ :: rest) e H :=
  .mk fun _ hs => yl_box hx hd (fun w' hc hz hb => h _ w' (hs.addPt hc hz hb))
theorem ql_alloc {d t : Nat} {z : Value} {ty : TypeId} {pos : String} {af : Array Edge} (hz : ZeroOf P t z) (hd : Nat.blt d n = true)
    (h : ∀ b, QL P ro n F w0 M k ops rest ((d, .pointer (some ⟨b, 0, none⟩)) :: e) (.pt b z.cells.toList t :: H)) : QL P ro n F w0 M k ops (⟨some d, .alloc t, ty, pos, af, none⟩ :: rest) e H :=
  .mk fun _ hs => yl_alloc hz.h hd (fun w' hc hz hb => h _ w' (hs.addPt hc hz hb))
theorem qf_alloc {d t : Nat} {z : Value} {ty : TypeId} {pos : String} {af : Array Edge} (hz : ZeroOf P t z) (hd : Nat.blt d n = true)
    (h : ∀ b, QF P ro n F w0 M k ops Hq rest ((d, .pointer (some ⟨b, 0, none⟩)) :: e) (.pt b z.cells.toList t :: H)) : QF P ro n F w0 M k ops Hq (⟨some d, .alloc t, ty, pos, af, none⟩ :: rest) e H :=
  .mk fun _ hs => yf_alloc hz.h hd (fun w' hc hz hb => have hs' := hs.addPt hc hz hb; ⟨(hs'.tail).right, h _ w' hs'⟩)

/-! Stores -/
theorem Sat.pt {w w' : World} {b : Nat} {cs cs' : List Value} {t : TypeId} {H' : List Ck} (hs : Sat w0 M H w) (hr : Rp H (.pt b cs t) (.pt b cs' t) H') (hc : Chg [b] w w') (hb : Blk w' b cs' t) : Sat w0 M H' w' :=
  hs.rep hr hc (fun k hk => by simpa [Ck.D] using hk) hb (fun x hx => ⟨.inl hx, by simp only [Ck.D] at hx; subst hx; exact Blk.lt hb⟩)
theorem ql_store1 (hT : T.Ok P) {t : Nat} {x y : Operand} {b i : Nat} {cs : List Value} {bt : TypeId} {v : Value} {H' : List Ck} {ty : TypeId} {pos : String} {af : Array Edge}
    (hx : opv e x = some (.pointer (some ⟨b, i, none⟩))) (hy : opv e y = some v) (h1 : has T.one t = true) (hv : oneV v = true) (hr : Rp H (.pt b cs bt) (.pt b (cs.set i v) bt) H') (hi : i < cs.length)
    (h : QL P ro n F w0 M k ops rest e H') : QL P ro n F w0 M k ops (⟨none, .store t x y, ty, pos, af, none⟩ :: rest) e H :=
  .mk fun _ hs => yl_store1 hT hx hy h1 hv (hs.mem hr.mem) hi (fun w' hc _ hb => h w' (hs.pt hr hc hb))
theorem ql_storeA (hT : T.Ok P) {t m : Nat} {x y : Operand} {b off : Nat} {cs us : List Value} {bt : TypeId} {H' : List Ck} {ty : TypeId} {pos : String} {af : Array Edge}
    (hx : opv e x = some (.pointer (some ⟨b, off, none⟩))) (hy : opv e y = some (.agg us.toArray)) (h1 : find1 T.agg t = some m) (hm : us.length = m) (h1v : ∀ u ∈ us, oneV u = true) (hr : Rp H (.pt b cs bt) (.pt b (setL cs off us) bt) H') (hl : off + m ≤ cs.length)
    (h : QL P ro n F w0 M k ops rest e H') : QL P ro n F w0 M k ops (⟨none, .store t x y, ty, pos, af, none⟩ :: rest) e H :=
  .mk fun _ hs => yl_storeA hT hx hy h1 hm h1v (hs.mem hr.mem) hl (fun w' hc _ hb => h w' (hs.pt hr hc hb))
theorem qf_store1 (hT : T.Ok P) {t : Nat} {x y : Operand} {b i : Nat} {cs : List Value} {bt : TypeId} {v : Value} {H' : List Ck} {ty : TypeId} {pos : String} {af : Array Edge}
    (hx : opv e x = some (.pointer (some ⟨b, i, none⟩))) (hy : opv e y = some v) (h1 : has T.one t = true) (hv : oneV v = true) (hr : Rp H (.pt b cs bt) (.pt b (cs.set i v) bt) H') (hi : i < cs.length)
    (h : QF P ro n F w0 M k ops Hq rest e H') : QF P ro n F w0 M k ops Hq (⟨none, .store t x y, ty, pos, af, none⟩ :: rest) e H :=
  .mk fun _ hs => yf_store1 hT hx hy h1 hv (hs.mem (hr.app Hq).mem) hi (fun w' hc _ hb => have hs' := hs.pt (hr.app Hq) hc hb; ⟨hs'.right, h w' hs'⟩)
theorem qf_storeA (hT : T.Ok P) {t m : Nat} {x y : Operand} {b off : Nat} {cs us : List Value} {bt : TypeId} {H' : List Ck} {ty : TypeId} {pos : String} {af : Array Edge}
    (hx : opv e x = some (.pointer (some ⟨b, off, none⟩))) (hy : opv e y = some (.agg us.toArray)) (h1 : find1 T.agg t = some m) (hm : us.length = m) (h1v : ∀ u ∈ us, oneV u = true) (hr : Rp H (.pt b cs bt) (.pt b (setL cs off us) bt) H') (hl : off + m ≤ cs.length)
    (h : QF P ro n F w0 M k ops Hq rest e H') : QF P ro n F w0 M k ops Hq (⟨none, .store t x y, ty, pos, af, none⟩ :: rest) e H :=
  .mk fun _ hs => yf_storeA hT hx hy h1 hm h1v (hs.mem (hr.app Hq).mem) hl (fun w' hc _ hb => have hs' := hs.pt (hr.app Hq) hc hb; ⟨hs'.right, h w' hs'⟩)
/-- A variable of one cell. -/
theorem ql_set (hT : T.Ok P) {t : Nat} {x y : Operand} {b : Nat} {u : Value} {bt : TypeId} {v : Value} {H' : List Ck} {ty : TypeId} {pos : String} {af : Array Edge}
    (hx : opv e x = some (.pointer (some ⟨b, 0, none⟩))) (hy : opv e y = some v) (h1 : has T.one t = true) (hv : oneV v = true) (hr : Rp H (.pt b [u] bt) (.pt b [v] bt) H')
    (h : QL P ro n F w0 M k ops rest e H') : QL P ro n F w0 M k ops (⟨none, .store t x y, ty, pos, af, none⟩ :: rest) e H := ql_store1 hT hx hy h1 hv hr (by simp) h
theorem qf_set (hT : T.Ok P) {t : Nat} {x y : Operand} {b : Nat} {u : Value} {bt : TypeId} {v : Value} {H' : List Ck} {ty : TypeId} {pos : String} {af : Array Edge}
    (hx : opv e x = some (.pointer (some ⟨b, 0, none⟩))) (hy : opv e y = some v) (h1 : has T.one t = true) (hv : oneV v = true) (hr : Rp H (.pt b [u] bt) (.pt b [v] bt) H')
    (h : QF P ro n F w0 M k ops Hq rest e H') : QF P ro n F w0 M k ops Hq (⟨none, .store t x y, ty, pos, af, none⟩ :: rest) e H := qf_store1 hT hx hy h1 hv hr (by simp) h
theorem ql_st1 (hT : T.Ok P) {t : Nat} {x y : Operand} {b : Nat} {u0 u1 : Value} {us : List Value} {bt : TypeId} {v : Value} {H' : List Ck} {ty : TypeId} {pos : String} {af : Array Edge}
    (hx : opv e x = some (.pointer (some ⟨b, 1, none⟩))) (hy : opv e y = some v) (h1 : has T.one t = true) (hv : oneV v = true) (hr : Rp H (.pt b (u0 :: u1 :: us) bt) (.pt b (u0 :: v :: us) bt) H')
    (h : QL P ro n F w0 M k ops rest e H') : QL P ro n F w0 M k ops (⟨none, .store t x y, ty, pos, af, none⟩ :: rest) e H := ql_store1 hT hx hy h1 hv hr (by simp) h
theorem ql_st2 (hT : T.Ok P) {t : Nat} {x y : Operand} {b : Nat} {u0 u1 u2 : Value} {us : List Value} {bt : TypeId} {v : Value} {H' : List Ck} {ty : TypeId} {pos : String} {af : Array Edge}
    (hx : opv e x = some (.pointer (some ⟨b, 2, none⟩))) (hy : opv e y = some v) (h1 : has T.one t = true) (hv : oneV v = true) (hr : Rp H (.pt b (u0 :: u1 :: u2 :: us) bt) (.pt b (u0 :: u1 :: v :: us) bt) H')
    (h : QL P ro n F w0 M k ops rest e H') : QL P ro n F w0 M k ops (⟨none, .store t x y, ty, pos, af, none⟩ :: rest) e H := ql_store1 hT hx hy h1 hv hr (by simp) h
theorem setL_all : ∀ (cs us pre : List Value), us.length = cs.length → setL (pre ++ cs) pre.length us = pre ++ us
  | [], [], pre, _ => rfl
  | c :: cs, u :: us, pre, h => by
    have ih := setL_all cs us (pre ++ [u]) (by simpa using h)
    simp only [setL]
    rw [List.set_append_right _ _ (Nat.le_refl _), Nat.sub_self, List.set_cons_zero]
    simpa using ih
/-- A whole variable of several cells. -/
theorem ql_setA (hT : T.Ok P) {t m : Nat} {x y : Operand} {b : Nat} {cs us : List Value} {bt : TypeId} {H' : List Ck} {ty : TypeId} {pos : String} {af : Array Edge}
    (hx : opv e x = some (.pointer (some ⟨b, 0, none⟩))) (hy : opv e y = some (.agg us.toArray)) (h1 : find1 T.agg t = some m) (hm : us.length = m) (h1v : (us.all oneV) = true) (hr : Rp H (.pt b cs bt) (.pt b us bt) H') (hl : cs.length = m)
    (h : QL P ro n F w0 M k ops rest e H') : QL P ro n F w0 M k ops (⟨none, .store t x y, ty, pos, af, none⟩ :: rest) e H := by
  have e1 : setL cs 0 us = us := setL_all cs us [] (by omega)
  exact ql_storeA hT hx hy h1 hm (List.all_eq_true.1 h1v) (by rw [e1]; exact hr) (by omega) h

theorem qf_setA (hT : T.Ok P) {t m : Nat} {x y : Operand} {b : Nat} {cs us : List Value} {bt : TypeId} {H' : List Ck} {ty : TypeId} {pos : String} {af : Array Edge}
    (hx : opv e x = some (.pointer (some ⟨b, 0, none⟩))) (hy : opv e y = some (.agg us.toArray)) (h1 : find1 T.agg t = some m) (hm : us.length = m) (h1v : (us.all oneV) = true) (hr : Rp H (.pt b cs bt) (.pt b us bt) H') (hl : cs.length = m)
    (h : QF P ro n F w0 M k ops Hq rest e H') : QF P ro n F w0 M k ops Hq (⟨none, .store t x y, ty, pos, af, none⟩ :: rest) e H := by
  have e1 : setL cs 0 us = us := setL_all cs us [] (by omega)
  exact qf_storeA hT hx hy h1 hm (List.all_eq_true.1 h1v) (by rw [e1]; exact hr) (by omega) h
/-! A block of numbers -/
theorem ql_loadI (hT : T.Ok P) {d t : Nat} {x : Operand} {b off : Nat} {l : List Int} {bt : TypeId} {ty : TypeId} {pos : String} {af : Array Edge} (i : Nat)
    (hx : opv e x = some (.pointer (some ⟨b, off, none⟩))) (h1 : has T.one t = true) (hd : Nat.blt d n = true) (hb : Ck.pt b (ints l) bt ∈ H) (ho : off = i) (hi : i < l.length)
    (h : QL P ro n F w0 M k ops rest ((d, .int .i64 l[i]) :: e) H) : QL P ro n F w0 M k ops (⟨some d, .load t x, ty, pos, af, none⟩ :: rest) e H :=
  ql_load1 hT hx h1 hd (fun _ hs => (Blk.cell (hs.mem hb) off).trans (by subst ho; simp [hi])) h
theorem ql_storeI (hT : T.Ok P) {t : Nat} {x y : Operand} {b off : Nat} {l : List Int} {z : Int} {bt : TypeId} {H' : List Ck} {ty : TypeId} {pos : String} {af : Array Edge} (i : Nat)
    (hx : opv e x = some (.pointer (some ⟨b, off, none⟩))) (hy : opv e y = some (.int .i64 z)) (h1 : has T.one t = true) (hr : Rp H (.pt b (ints l) bt) (.pt b (ints (l.set i z)) bt) H') (ho : off = i) (hi : i < l.length)
    (h : QL P ro n F w0 M k ops rest e H') : QL P ro n F w0 M k ops (⟨none, .store t x y, ty, pos, af, none⟩ :: rest) e H :=
  ql_store1 hT hx hy h1 rfl (by subst ho; rw [← List.map_set]; exact hr) (by subst ho; simpa using hi) h
theorem qf_loadI (hT : T.Ok P) {d t : Nat} {x : Operand} {b off : Nat} {l : List Int} {bt : TypeId} {ty : TypeId} {pos : String} {af : Array Edge} (i : Nat)
    (hx : opv e x = some (.pointer (some ⟨b, off, none⟩))) (h1 : has T.one t = true) (hd : Nat.blt d n = true) (hb : Ck.pt b (ints l) bt ∈ Hq) (ho : off = i) (hi : i < l.length)
    (h : QF P ro n F w0 M k ops Hq rest ((d, .int .i64 l[i]) :: e) H) : QF P ro n F w0 M k ops Hq (⟨some d, .load t x, ty, pos, af, none⟩ :: rest) e H :=
  qf_load1 hT hx h1 hd (fun _ hs => (Blk.cell (hs.mem hb) off).trans (by subst ho; simp [hi])) h
/-! Slices and structs -/
theorem ql_index (hT : T.Ok P) {d t et sz : Nat} {x ix : Operand} {b off len cap : Nat} {ik : IntKind} {i : Int} {ty : TypeId} {pos : String} {af : Array Edge}
    (hx : opv e x = some (.slice (some ⟨b, off, none⟩) len cap)) (hi : opv e ix = some (.int ik i)) (hs : find1 T.esz t = some (et, sz)) (hsl : has T.len t = true) (hd : Nat.blt d n = true) (h0 : 0 ≤ i) (h1 : i < len)
    (h : QL P ro n F w0 M k ops rest ((d, .pointer (some ⟨b, off + i.toNat * sz, none⟩)) :: e) H) : QL P ro n F w0 M k ops (⟨some d, .indexAddr t x ix, ty, pos, af, none⟩ :: rest) e H := .mk fun w hw => yl_index hT hx hi hs hsl hd h0 h1 (h w hw)
theorem qf_index (hT : T.Ok P) {d t et sz : Nat} {x ix : Operand} {b off len cap : Nat} {ik : IntKind} {i : Int} {ty : TypeId} {pos : String} {af : Array Edge}
    (hx : opv e x = some (.slice (some ⟨b, off, none⟩) len cap)) (hi : opv e ix = some (.int ik i)) (hs : find1 T.esz t = some (et, sz)) (hsl : has T.len t = true) (hd : Nat.blt d n = true) (h0 : 0 ≤ i) (h1 : i < len)
    (h : QF P ro n F w0 M k ops Hq rest ((d, .pointer (some ⟨b, off + i.toNat * sz, none⟩)) :: e) H) : QF P ro n F w0 M k ops Hq (⟨some d, .indexAddr t x ix, ty, pos, af, none⟩ :: rest) e H := .mk fun w hw => yf_index hT hx hi hs hsl hd h0 h1 (h w hw)
theorem ql_indexA {d t et sz len : Nat} {x ix : Operand} {b off : Nat} {ik : IntKind} {i : Int} {ty : TypeId} {pos : String} {af : Array Edge} (hA : arrB P t len et sz = true)
    (hx : opv e x = some (.pointer (some ⟨b, off, none⟩))) (hi : opv e ix = some (.int ik i)) (hd : Nat.blt d n = true) (h0 : 0 ≤ i) (h1 : i < len)
    (h : QL P ro n F w0 M k ops rest ((d, .pointer (some ⟨b, off + i.toNat * sz, none⟩)) :: e) H) : QL P ro n F w0 M k ops (⟨some d, .indexAddr t x ix, ty, pos, af, none⟩ :: rest) e H := .mk fun w hw => yl_indexA hA hx hi hd h0 h1 (h w hw)
theorem qf_indexA {d t et sz len : Nat} {x ix : Operand} {b off : Nat} {ik : IntKind} {i : Int} {ty : TypeId} {pos : String} {af : Array Edge} (hA : arrB P t len et sz = true)
    (hx : opv e x = some (.pointer (some ⟨b, off, none⟩))) (hi : opv e ix = some (.int ik i)) (hd : Nat.blt d n = true) (h0 : 0 ≤ i) (h1 : i < len)
    (h : QF P ro n F w0 M k ops Hq rest ((d, .pointer (some ⟨b, off + i.toNat * sz, none⟩)) :: e) H) : QF P ro n F w0 M k ops Hq (⟨some d, .indexAddr t x ix, ty, pos, af, none⟩ :: rest) e H := .mk fun w hw => yf_indexA hA hx hi hd h0 h1 (h w hw)
theorem ql_rem {d t t' : Nat} {x y : Operand} {kd : IntKind} {p q : Int} {ty : TypeId} {pos : String} {af : Array Edge} (hx : opv e x = some (.int kd p)) (hy : opv e y = some (.int kd q)) (hq : q ≠ 0) (hd : Nat.blt d n = true)
    (h : QL P ro n F w0 M k ops rest ((d, .int kd (p.tmod q)) :: e) H) : QL P ro n F w0 M k ops (⟨some d, .binOp .rem t x y t', ty, pos, af, none⟩ :: rest) e H := .mk fun w hw => yl_rem hx hy hq hd (h w hw)
theorem qf_rem {d t t' : Nat} {x y : Operand} {kd : IntKind} {p q : Int} {ty : TypeId} {pos : String} {af : Array Edge} (hx : opv e x = some (.int kd p)) (hy : opv e y = some (.int kd q)) (hq : q ≠ 0) (hd : Nat.blt d n = true)
    (h : QF P ro n F w0 M k ops Hq rest ((d, .int kd (p.tmod q)) :: e) H) : QF P ro n F w0 M k ops Hq (⟨some d, .binOp .rem t x y t', ty, pos, af, none⟩ :: rest) e H := .mk fun w hw => yf_rem hx hy hq hd (h w hw)
theorem ql_remN {d t t' : Nat} {x y : Operand} {p q : Int} {ty : TypeId} {pos : String} {af : Array Edge} (hx : opv e x = some (.int .i64 p)) (hy : opv e y = some (.int .i64 q)) (hd : Nat.blt d n = true) (h0 : 0 ≤ p) (hq : 0 < q)
    (h : QL P ro n F w0 M k ops rest ((d, .int .i64 (p % q)) :: e) H) : QL P ro n F w0 M k ops (⟨some d, .binOp .rem t x y t', ty, pos, af, none⟩ :: rest) e H := ql_rem hx hy (by omega) hd (by rw [Int.tmod_eq_emod_of_nonneg h0]; exact h)
theorem qf_remN {d t t' : Nat} {x y : Operand} {p q : Int} {ty : TypeId} {pos : String} {af : Array Edge} (hx : opv e x = some (.int .i64 p)) (hy : opv e y = some (.int .i64 q)) (hd : Nat.blt d n = true) (h0 : 0 ≤ p) (hq : 0 < q)
    (h : QF P ro n F w0 M k ops Hq rest ((d, .int .i64 (p % q)) :: e) H) : QF P ro n F w0 M k ops Hq (⟨some d, .binOp .rem t x y t', ty, pos, af, none⟩ :: rest) e H := qf_rem hx hy (by omega) hd (by rw [Int.tmod_eq_emod_of_nonneg h0]; exact h)
theorem ql_mk {d t : Nat} {parts : List (Nat × Operand)} {us : List Value} (cells : Array Value) {ty : TypeId} {pos : String} {af : Array Edge}
    (hp : opvs e (parts.map (·.2)) = some us) (hb : P.built t ((parts.map (·.1)).zip us) = some cells) (hd : Nat.blt d n = true)
    (h : QL P ro n F w0 M k ops rest ((d, .agg cells) :: e) H) : QL P ro n F w0 M k ops (⟨some d, .build t parts.toArray, ty, pos, af, none⟩ :: rest) e H := .mk fun w hw => yl_mk cells hp hb hd (h w hw)
theorem qf_mk {d t : Nat} {parts : List (Nat × Operand)} {us : List Value} (cells : Array Value) {ty : TypeId} {pos : String} {af : Array Edge}
    (hp : opvs e (parts.map (·.2)) = some us) (hb : P.built t ((parts.map (·.1)).zip us) = some cells) (hd : Nat.blt d n = true)
    (h : QF P ro n F w0 M k ops Hq rest ((d, .agg cells) :: e) H) : QF P ro n F w0 M k ops Hq (⟨some d, .build t parts.toArray, ty, pos, af, none⟩ :: rest) e H := .mk fun w hw => yf_mk cells hp hb hd (h w hw)
theorem ql_mkS {d t len : Nat} {parts : List (Nat × Operand)} {us : List Value} (et : Nat) (cs : List Value) {ty : TypeId} {pos : String} {af : Array Edge}
    (hp : opvs e (parts.map (·.2)) = some us) (hb : builtS P t len ((parts.map (·.1)).zip us) = some (et, cs.toArray)) (hd : Nat.blt d n = true)
    (h : ∀ b, QL P ro n F w0 M k ops rest ((d, .slice (some ⟨b, 0, none⟩) len len) :: e) (.pt b cs et :: H)) : QL P ro n F w0 M k ops (⟨some d, .buildSlice t len parts.toArray, ty, pos, af, none⟩ :: rest) e H :=
  .mk fun _ hs => yl_mkS et cs hp hb hd (fun w' hc hz hb => h _ w' (hs.addPt hc hz hb))
theorem qf_mkS {d t len : Nat} {parts : List (Nat × Operand)} {us : List Value} (et : Nat) (cs : List Value) {ty : TypeId} {pos : String} {af : Array Edge}
    (hp : opvs e (parts.map (·.2)) = some us) (hb : builtS P t len ((parts.map (·.1)).zip us) = some (et, cs.toArray)) (hd : Nat.blt d n = true)
    (h : ∀ b, QF P ro n F w0 M k ops Hq rest ((d, .slice (some ⟨b, 0, none⟩) len len) :: e) (.pt b cs et :: H)) : QF P ro n F w0 M k ops Hq (⟨some d, .buildSlice t len parts.toArray, ty, pos, af, none⟩ :: rest) e H :=
  .mk fun _ hs => yf_mkS et cs hp hb hd (fun w' hc hz hb => have hs' := hs.addPt hc hz hb; ⟨(hs'.tail).right, h _ w' hs'⟩)

/-! append -/
theorem own_bd {w : World} {base e sz n : Nat} {v : Value} {xs : List Value} (h : w.ownsRow base e sz v n xs) : ∀ b, (Ck.ow v e sz n xs).D b → b < w.heap.size := by
  intro b hb
  simp only [Ck.D] at hb
  rcases h.2 with ⟨rfl, _⟩ | ⟨g, cap, cur, rfl, _, hh, _⟩
  · cases hb
  · cases hb
    exact (Array.getElem?_eq_some_iff.1 hh).1
theorem Sat.app {w w' : World} {v v' : Value} {et sz m q : Nat} {xs ys : List Value} {H' : List Ck} (hs : Sat w0 M H w) (hr : Rp H (.ow v et sz m xs) (.ow v' et sz q ys) H') (hc : Chg v.ownBlock.toList w w') (hb : w'.ownsRow 0 et sz v' q ys) (hn : ∀ b, v'.ownBlock = some b → v.ownBlock = some b ∨ w.heap.size ≤ b) : Sat w0 M H' w' :=
  hs.rep hr hc (fun k hk => by simpa [Ck.D] using hk) hb (fun x hx => ⟨hn x hx, own_bd hb x hx⟩)

theorem run_append_own2 {w : World} (t ty e : TypeId) (i : TypeInfo) (z : Value) (size bytes : Nat) (ht : P.underlying t = some (.slice e)) (hi : P.info? e = some i) (hz : i.zero = some z)
    (hsize : i.size = size) (hby : i.bytes = bytes) (hzs : z.cells.size = size) (hsz : 0 < size) (v : Value) (n : Nat) (xs : List Value) (hown : w.ownsRow 0 e size v n xs)
    (a : Addr) (m c : Nat) (news : List Value) (hl : news.length = m * size) (hnews : ∀ j u, news[j]? = some u → w.cell? (a.add j) = some u) (h1 : ∀ u ∈ news, u.oneCell' = true)
    (h63 : n + m ≤ maxLen) (hbytes : (n + m) * bytes ≤ 140737488355328) :
    ∃ v' w', (Builtin.append_ #[t, t] ty #[v, .slice (some a) m c]).run P w = .ok v' w' ∧ w'.ownsRow 0 e size v' (n + m) (xs ++ news) ∧ w.grownBy w' v.ownBlock ∧ (∀ b, v'.ownBlock = some b → v.ownBlock = some b ∨ w.heap.size ≤ b) := by
  obtain ⟨v', w', hr, ho, hg, _⟩ := run_append_own (P := P) w 0 t ty e i z size bytes ht hi hz hsize hby hzs hsz v n xs hown a m c news hl hnews h1 h63 hbytes (Nat.zero_le _)
  refine ⟨v', w', hr, ho, hg, ?_⟩
  rcases hown.2 with ⟨rfl, rfl⟩ | ⟨g, cap, cur, rfl, _, hgc, hnc, hcm, hcs, htake⟩
  · have hx : xs = [] := List.eq_nil_of_length_eq_zero (by simpa using hown.1)
    subst hx
    obtain ⟨v2, w2, hr2, ho2, _, _⟩ := run_append_own (P := P) w w.heap.size t ty e i z size bytes ht hi hz hsize hby hzs hsz (.slice none 0 0) 0 [] (World.ownsRow_nil w w.heap.size e size) a m c news hl hnews h1 h63 hbytes (Nat.le_refl _)
    rw [hr] at hr2
    obtain ⟨rfl, rfl⟩ : v' = v2 ∧ w' = w2 := by simpa using hr2
    intro b hb
    rcases ho2.2 with ⟨rfl, _⟩ | ⟨g, cap, cur, rfl, hg2, _⟩
    · cases hb
    · cases hb
      exact .inr hg2
  · subst hsize
    subst hby
    by_cases hroom : n + m ≤ cap
    · have hfit : n * i.size + news.length ≤ cur.size := by rw [hl, hcs, ← Nat.add_mul]; exact Nat.mul_le_mul_right _ hroom
      have hr2 := run_append_room (P := P) w t ty e i ht hi g n cap cur hgc a m c news hl hnews h1 hroom hfit
      rw [hr] at hr2
      simp only [Result.ok.injEq] at hr2
      obtain ⟨rfl, _⟩ := hr2
      exact fun b hb => .inl hb
    · have holds : ∀ j u, xs[j]? = some u → w.cell? ((⟨g, 0, none⟩ : Addr).add j) = some u := hown.cells (g := g) rfl
      simp only [maxLen] at h63
      have hr2 := run_append_grow (P := P) w t ty e i z ht hi hz ⟨g, 0, none⟩ n cap xs hown.1 holds a m c news hl hnews (by omega) (by omega) (growslice_fits (by omega) hbytes)
      rw [hr] at hr2
      simp only [Result.ok.injEq] at hr2
      obtain ⟨rfl, _⟩ := hr2
      intro b hb
      cases hb
      exact .inr (Nat.le_refl _)

theorem run_app {w : World} {t et size bytes : Nat} {z : Value} (hS : SlT P t et size bytes z) {v u : Value} {m : Nat} {xs news : List Value} {q lo hi : Nat} (ty : TypeId) (hown : w.ownsRow 0 et size v m xs) (hrd : Rd w lo hi u size q news) (h1 : ∀ c ∈ news, oneV c = true)
    (hm : (m + q) * bytes ≤ 140737488355328) (hm2 : m + q ≤ 140737488355328) :
    ∃ v' w', (Builtin.append_ #[t, t] ty #[v, u]).run P w = .ok v' w' ∧ w'.ownsRow 0 et size v' (m + q) (xs ++ news) ∧ Chg v.ownBlock.toList w w' ∧ (∀ b, v'.ownBlock = some b → v.ownBlock = some b ∨ w.heap.size ≤ b) := by
  obtain ⟨ht, hi', hzs, hsz⟩ := hS
  cases hinf : P.info? et with
  | none => simp [hinf] at hi'
  | some i =>
    simp [hinf] at hi'
    obtain ⟨hz, hsize, hby⟩ := hi'
    obtain ⟨hl, hr⟩ := hrd
    have hr2 : (u = .slice none 0 0 ∧ q = 0) ∨ ∃ a cap, u = .slice (some a) q cap ∧ ∀ j c, news[j]? = some c → w.cell? (a.add j) = some c := by
      rcases hr with ⟨hu | ⟨a, cap, hu⟩, rfl⟩ | ⟨b, off, cap, hu, _, hc⟩
      · exact .inl ⟨hu, rfl⟩
      · exact .inr ⟨a, cap, hu, fun j c hj => by rw [show news = [] by simpa using hl] at hj; simp at hj⟩
      · refine .inr ⟨_, cap, hu, fun j c hj => ?_⟩
        have hjl := (List.getElem?_eq_some_iff.1 hj).1
        rw [Addr.add_lit, hc j hjl, hj]
    rcases hr2 with ⟨rfl, rfl⟩ | ⟨ad, cap, rfl, hc⟩
    · have hrun := run_append_owned_none (P := P) (w := w) 0 t ty et i size ht hinf v m xs hown
      have : news = [] := by simpa using hl
      subst this
      exact ⟨v, w, hrun, by simpa using hown, Chg.refl _ _, fun b hb => .inl hb⟩
    · have hone : ∀ c ∈ news, c.oneCell' = true := fun c hc' => by
        have := h1 c hc'
        cases c <;> first | rfl | simp [oneV] at this
      obtain ⟨v', w', hrun, hown', hg, hn⟩ := run_append_own2 (P := P) t ty et i z size bytes ht hinf hz hsize hby hzs hsz v m xs hown ad q cap news hl hc hone (by simp only [maxLen]; omega) hm
      exact ⟨v', w', hrun, hown', grown_chg hg, hn⟩

/-- append to a slice of our own; what is appended can be read. -/
theorem ql_append {d t et size bytes : Nat} {z : Value} (hS : SlT P t et size bytes z) {x y : Operand} {v u : Value} {m : Nat} {xs news : List Value} {q : Nat} {H1 : Value → List Ck} {ty : TypeId} {pos : String} {af : Array Edge}
    (hx : opv e x = some v) (hy : opv e y = some u) (hd : Nat.blt d n = true) (hr : ∀ v', Rp H (.ow v et size m xs) (.ow v' et size (m + q) (xs ++ news)) (H1 v')) (hrd : ∀ w, Sat w0 M H w → ∃ lo hi, Rd w lo hi u size q news) (h1 : ∀ c ∈ news, oneV c = true)
    (hm : (m + q) * bytes ≤ 140737488355328) (hm2 : m + q ≤ 140737488355328)
    (h : ∀ v', QL P ro n F w0 M k ops rest ((d, v') :: e) (H1 v')) :
    QL P ro n F w0 M k ops (⟨some d, .call { callee := .builtin .append, args := [x, y].toArray, argTypes := [t, t].toArray }, ty, pos, af, none⟩ :: rest) e H := .mk fun w hs => by
  obtain ⟨lo, hi, hrd⟩ := hrd w hs
  obtain ⟨v', w', hrun, ho, hc, hn⟩ := run_app hS ty (hs.mem (hr v).mem) hrd h1 hm hm2
  refine yl_val (w' := w') (by simp) hd (fun a hf => ?_) (h v' w' (hs.app (hr v') hc ho hn))
  have e1 := hf.op hx
  have e2 := hf.op hy
  simp [execOp, resolve, invoke, builtin, e1, e2, hrun]

theorem qf_append {d t et size bytes : Nat} {z : Value} (hS : SlT P t et size bytes z) {x y : Operand} {v u : Value} {m : Nat} {xs news : List Value} {q : Nat} {H1 : Value → List Ck} {ty : TypeId} {pos : String} {af : Array Edge}
    (hx : opv e x = some v) (hy : opv e y = some u) (hd : Nat.blt d n = true) (hr : ∀ v', Rp H (.ow v et size m xs) (.ow v' et size (m + q) (xs ++ news)) (H1 v')) (hrd : ∀ w, Sat w0 M (H ++ Hq) w → ∃ lo hi, Rd w lo hi u size q news) (h1 : ∀ c ∈ news, oneV c = true)
    (hm : (m + q) * bytes ≤ 140737488355328) (hm2 : m + q ≤ 140737488355328)
    (h : ∀ v', QF P ro n F w0 M k ops Hq rest ((d, v') :: e) (H1 v')) :
    QF P ro n F w0 M k ops Hq (⟨some d, .call { callee := .builtin .append, args := [x, y].toArray, argTypes := [t, t].toArray }, ty, pos, af, none⟩ :: rest) e H := .mk fun w hs => by
  obtain ⟨lo, hi, hrd⟩ := hrd w hs
  obtain ⟨v', w', hrun, ho, hc, hn⟩ := run_app hS ty (hs.mem ((hr v).app Hq).mem) hrd h1 hm hm2
  have hs' := hs.app ((hr v').app Hq) hc ho hn
  refine yf_eff (w' := w') rfl hd (fun a hf => ?_) hs'.right (h v' w' hs')
  have e1 := hf.op hx
  have e2 := hf.op hy
  simp [execOp, resolve, invoke, builtin, e1, e2, hrun]

/-! Calls -/
/-- What a callee makes of the pieces that it is given, the others as they were. -/
theorem Sat.call {w w' : World} {L0 R L' : List Ck} {M' : Nat → Prop} (h : Sat w0 M (L0 ++ R) w) (g : Sat w M' L' w') (hM : ∀ b, M' b → ∃ c ∈ L0, c.D b) : Sat w0 M (L' ++ R) w' := by
  have hp := List.pairwise_append.1 h.sep
  have hbd : ∀ c ∈ R, ∀ b, c.D b → b < w.heap.size ∧ (M b ∨ w0.heap.size ≤ b) := fun c hc => h.bd c (List.mem_append_right _ hc)
  have hnM : ∀ c ∈ R, ∀ b, c.D b → ¬ M' b := fun c hc b hb hm => by
    obtain ⟨c0, h0, h1⟩ := hM b hm
    exact hp.2.2 c0 h0 c hc b h1 hb
  refine ⟨h.chg.upP g.chg (fun b hb => ?_), ?_, List.pairwise_append.2 ⟨g.sep, hp.2.1, ?_⟩, ?_⟩
  · obtain ⟨c0, h0, h1⟩ := hM b hb
    exact (h.bd c0 (List.mem_append_left _ h0) b h1).2
  · intro c hc
    rcases List.mem_append.1 hc with hc | hc
    · exact g.all c hc
    · exact Ck.st (h.all c (List.mem_append_right _ hc)) g.chg (fun b hb => hnM c hc b hb)
  · intro c hc d hd b hb hb'
    rcases (g.bd c hc b hb).2 with h1 | h1
    · exact hnM d hd b hb' h1
    · have := (hbd d hd b hb').1
      omega
  · intro c hc b hb
    rcases List.mem_append.1 hc with hc | hc
    · refine ⟨(g.bd c hc b hb).1, ?_⟩
      rcases (g.bd c hc b hb).2 with h1 | h1
      · obtain ⟨c0, h0, h2⟩ := hM b h1
        exact (h.bd c0 (List.mem_append_left _ h0) b h2).2
      · exact .inr (Nat.le_trans h.chg.size h1)
    · exact ⟨Nat.lt_of_lt_of_le (hbd c hc b hb).1 g.chg.size, (hbd c hc b hb).2⟩

/-- A call: the callee gets the pieces L0, whose blocks M' it may change, and hands back L'. -/
theorem ql_call (hT : T.Ok P) {t : Nat} {f : Operand} {ars : List Operand} {tys : Array TypeId} {ty : TypeId} {pos : String} {af : Array Edge} {g : Nat} {first caps : Array Value} {vs : List Value} {β : Type} {ψ : β → Value → Prop} {L' : β → List Ck}
    (L0 R : List Ck) (M' : Nat → Prop) (hf : opv e f = some (.func (.func g) first caps)) (hg : has T.fn g = true) (has_ : opvs e ars = some vs) (ht : Nat.blt t n = true) (hH : Sp H (L0 ++ R)) (hM : ∀ b, M' b → ∃ c ∈ L0, c.D b)
    (hc : ∀ w, Sat w0 M (L0 ++ R) w → Ca P g (first.toList ++ vs ++ caps.toList) w fun v w' => ∃ x, ψ x v ∧ Sat w M' (L' x) w')
    (h : ∀ x v, ψ x v → QL P ro n F w0 M k ops rest ((t, v) :: e) (L' x ++ R)) :
    QL P ro n F w0 M k ops (⟨some t, .call { callee := .value f, args := ars.toArray, argTypes := tys }, ty, pos, af, none⟩ :: rest) e H := .mk fun w hs =>
  have hs1 := hs.sp hH
  yl_call hT hf hg has_ ht (hc w hs1) (fun v w' ⟨x, hx, hs'⟩ => h x v hx w' (hs1.call hs' hM))

/-- A call that changes nothing and makes nothing that is kept. -/
theorem ql_callv (hT : T.Ok P) {t : Nat} {f : Operand} {ars : List Operand} {tys : Array TypeId} {ty : TypeId} {pos : String} {af : Array Edge} {g : Nat} {first caps : Array Value} {vs : List Value} {val : Value}
    (hf : opv e f = some (.func (.func g) first caps)) (hg : has T.fn g = true) (has_ : opvs e ars = some vs) (ht : Nat.blt t n = true)
    (hc : ∀ w, Sat w0 M H w → Ca P g (first.toList ++ vs ++ caps.toList) w fun v w' => v = val ∧ Chg [] w w')
    (h : QL P ro n F w0 M k ops rest ((t, val) :: e) H) :
    QL P ro n F w0 M k ops (⟨some t, .call { callee := .value f, args := ars.toArray, argTypes := tys }, ty, pos, af, none⟩ :: rest) e H := .mk fun w hs =>
  yl_call hT hf hg has_ ht (hc w hs) (fun v w' ⟨hv, hc'⟩ => by rw [hv]; exact h w' (hs.keep hc'))

theorem qf_call (hT : T.Ok P) {t : Nat} {f : Operand} {ars : List Operand} {tys : Array TypeId} {ty : TypeId} {pos : String} {af : Array Edge} {g : Nat} {first caps : Array Value} {vs : List Value} {β : Type} {ψ : β → Value → Prop} {L' : β → List Ck}
    (L0 R : List Ck) (M' : Nat → Prop) (hf : opv e f = some (.func (.func g) first caps)) (hg : has T.fn g = true) (has_ : opvs e ars = some vs) (ht : Nat.blt t n = true) (hH : Sp H (L0 ++ R)) (hM : ∀ b, M' b → ∃ c ∈ L0, c.D b)
    (hc : ∀ w, Sat w0 M (L0 ++ (R ++ Hq)) w → Ca P g (first.toList ++ vs ++ caps.toList) w fun v w' => ∃ x, ψ x v ∧ Sat w M' (L' x) w')
    (h : ∀ x v, ψ x v → QF P ro n F w0 M k ops Hq rest ((t, v) :: e) (L' x ++ R)) :
    QF P ro n F w0 M k ops Hq (⟨some t, .call { callee := .value f, args := ars.toArray, argTypes := tys }, ty, pos, af, none⟩ :: rest) e H := .mk fun w hs => by
  have hs1 : Sat w0 M (L0 ++ (R ++ Hq)) w := by
    rw [← List.append_assoc]
    exact hs.sp (Sp.app hH Hq)
  refine yf_call hT hf hg has_ ht (hc w hs1) (fun v w' ⟨x, hx, hs'⟩ => ?_)
  have hs2 := hs1.call hs' hM
  exact ⟨hs2.right.right, h x v hx w' (by rw [List.append_assoc]; exact hs2)⟩

theorem qf_callv (hT : T.Ok P) {t : Nat} {f : Operand} {ars : List Operand} {tys : Array TypeId} {ty : TypeId} {pos : String} {af : Array Edge} {g : Nat} {first caps : Array Value} {vs : List Value} {val : Value}
    (hf : opv e f = some (.func (.func g) first caps)) (hg : has T.fn g = true) (has_ : opvs e ars = some vs) (ht : Nat.blt t n = true)
    (hc : ∀ w, Sat w0 M (H ++ Hq) w → Ca P g (first.toList ++ vs ++ caps.toList) w fun v w' => v = val ∧ Chg [] w w')
    (h : QF P ro n F w0 M k ops Hq rest ((t, val) :: e) H) :
    QF P ro n F w0 M k ops Hq (⟨some t, .call { callee := .value f, args := ars.toArray, argTypes := tys }, ty, pos, af, none⟩ :: rest) e H := .mk fun w hs =>
  yf_call hT hf hg has_ ht (hc w hs) (fun v w' ⟨hv, hc'⟩ => by rw [hv]; exact ⟨(hs.keep hc').right, h w' (hs.keep hc')⟩)

/-! Comparing -/
theorem ql_neqnil (hT : T.Ok P) {d t t' : Nat} {x y : Operand} {a : Option Addr} {m c m' c' : Nat} {ty : TypeId} {pos : String} {af : Array Edge} (h : has T.len t = true)
    (hx : opv e x = some (.slice a m c)) (hy : opv e y = some (.slice none m' c')) (hd : Nat.blt d n = true)
    (hk : QL P ro n F w0 M k ops rest ((d, .bool (!a.isNone)) :: e) H) : QL P ro n F w0 M k ops (⟨some d, .binOp .neq t x y t', ty, pos, af, none⟩ :: rest) e H := .mk fun w hs => yl_neqnil hT h hx hy hd (hk w hs)

/-! The beginning and the end of a function -/
theorem q_of {g : FuncId} {fn : Func} {c : Code} {args : List Value} {w : World} {R : Value → World → Prop} (hs : Sat w M H w) (hfn : P.funcs[g]? = some fn) (hb : fn.body = some c) (hn : args.length ≤ fn.ntmps)
    (h : Q P ⟨none, []⟩ fn.ntmps (fin P fn R) w M [.code c] (env0 0 args) H) : Ca P g args w R := ca_of hfn hb hn (h w hs)
end
end Go.Eng

/- The engine, part B3: function values; ranges over functions. -/
namespace Go.Eng
open Go Go.RowKit

section
variable {P : Program} {T : Tab}

/-- A call of a function value: of a function, or of the yield of a loop. -/
def CaF (P : Program) (fv : Value) (args : List Value) (w : World) (R : Value → World → Prop) : Prop :=
  (∃ g first caps, fv = .func (.func g) first caps ∧ fnB P g = true ∧ Ca P g (first.toList ++ args ++ caps.toList) w R) ∨
  (∃ l f tmps assign body, fv = .func (.yield l) #[] #[] ∧ (Instr.yield l args.toArray).run P w = .ok (.round l f tmps assign body) w ∧ RdOk P l f tmps assign body w R)

theorem CaF.mono {fv : Value} {args : List Value} {w : World} {R R' : Value → World → Prop} (h : CaF P fv args w R) (hr : ∀ v w', R v w' → R' v w') : CaF P fv args w R' := by
  rcases h with ⟨g, fi, ca, h1, h2, h3⟩ | ⟨l, f, t, a, b, h1, h2, h3⟩
  · exact .inl ⟨g, fi, ca, h1, h2, h3.mono hr⟩
  · exact .inr ⟨l, f, t, a, b, h1, h2, fun r => (h3 r).mono fun e w' ⟨v, he, hR⟩ => ⟨v, he, hr _ _ hR⟩⟩

theorem CaF.of {g : Nat} {first caps : Array Value} {args : List Value} {w : World} {R : Value → World → Prop} (hT : T.Ok P) (hg : has T.fn g = true) (h : Ca P g (first.toList ++ args ++ caps.toList) w R) : CaF P (.func (.func g) first caps) args w R :=
  .inl ⟨g, first, caps, rfl, hT.fn _ hg, h⟩

theorem run_callFuncB {g : Nat} (hg : fnB P g = true) (args : Array Value) (w : World) : (callFunc g args).run P w = .ok (.enter g args) w := by
  simp only [fnB] at hg
  split at hg
  · rename_i fn hfn
    simp only [Bool.and_eq_true, Bool.not_eq_true'] at hg
    obtain ⟨hb, hn⟩ := hg
    have hn' : ¬ fn.name = "runtime.NumGoroutine" := by simpa using hn
    have hb2 : ¬ fn.body = none := by intro h0; rw [h0] at hb; cases hb
    simp [callFunc, hfn, hn', hb2]
  · cases hg

variable {ro : Cx} {n : Nat} {F : Fin} {k : List It} {ops : Array Oper} {rest : List Oper} {e : Env} {w : World}

theorem yl_callF {dst : Option Nat} {f : Operand} {ars : List Operand} {tys : Array TypeId} {ty : TypeId} {pos : String} {af : Array Edge} {fv : Value} {vs : List Value} {R : Value → World → Prop}
    (hf : opv e f = some fv) (has_ : opvs e ars = some vs) (hc : CaF P fv vs w R)
    (h : ∀ v w', R v w' → ∀ a, Fits n e a → a.defers = ro.ds → wpListIn (FR ro.ro) 0 P ops (S P ro.ro F k) rest (a.put dst v) w') :
    YL P ro n F k ops (⟨dst, .call { callee := .value f, args := ars.toArray, argTypes := tys }, ty, pos, af, none⟩ :: rest) e w := fun a hfit hd =>
  wpListIn_plain rfl fun K hK => by
    refine ⟨fun f _ => fr_fn f, ?_⟩
    rw [Oper.semAt_eq _ _ _ (by simp)]
    have e1 := hfit.op hf
    have e2 := hfit.ops has_
    rcases hc with ⟨g, first, caps, rfl, hg, hc⟩ | ⟨l, f, tmps, assign, body, rfl, hrun, hc⟩
    · have hrun : (execOp a.eval ⟨dst, .call { callee := .value f, args := ars.toArray, argTypes := tys }, ty, pos, af, none⟩).run P w = .ok (.enter g (first.toList ++ vs ++ caps.toList).toArray) w := by
        simp only [execOp, resolve, List.map_toArray, e1, e2, Deferred.ofValue]
        simp [invoke, run_callFuncB hg]
      rw [hrun]
      refine ⟨fun hx => by simp [Fence.wide] at hx, callsIn_FR (Calls.mono hc ?_)⟩
      rintro x w' ⟨v, rfl, hR⟩
      exact hK _ _ (h v w' hR a hfit hd)
    · rename_i fop
      have hrun2 : (execOp a.eval ⟨dst, .call { callee := .value fop, args := ars.toArray, argTypes := tys }, ty, pos, af, none⟩).run P w = .ok (.round l f tmps assign body) w := by
        simp only [execOp, resolve, List.map_toArray, e1, e2, Deferred.ofValue]
        simp [invoke, hrun]
      rw [hrun2]
      refine ⟨fun hx => by simp [Fence.wide] at hx, RoundIn.mono (hc ro.ro) ?_⟩
      rintro x w' ⟨v, rfl, hR⟩
      exact hK _ _ (h v w' hR a hfit hd)

variable {w0 : World} {M : Nat → Prop} {H Hq : List Ck}

/-- A call of a function value. -/
theorem ql_callF {t : Nat} {f : Operand} {ars : List Operand} {tys : Array TypeId} {ty : TypeId} {pos : String} {af : Array Edge} {fv : Value} {vs : List Value} {β : Type} {ψ : β → Value → Prop} {L' : β → List Ck}
    (L0 R : List Ck) (M' : Nat → Prop) (hf : opv e f = some fv) (has_ : opvs e ars = some vs) (ht : Nat.blt t n = true) (hH : Sp H (L0 ++ R)) (hM : ∀ b, M' b → ∃ c ∈ L0, c.D b)
    (hc : ∀ w, Sat w0 M (L0 ++ R) w → CaF P fv vs w fun v w' => ∃ x, ψ x v ∧ Sat w M' (L' x) w')
    (h : ∀ x v, ψ x v → QL P ro n F w0 M k ops rest ((t, v) :: e) (L' x ++ R)) :
    QL P ro n F w0 M k ops (⟨some t, .call { callee := .value f, args := ars.toArray, argTypes := tys }, ty, pos, af, none⟩ :: rest) e H := .mk fun w hs =>
  have hs1 := hs.sp hH
  yl_callF hf has_ (hc w hs1) (fun v w' ⟨x, hx, hs'⟩ a hfit hd => h x v hx w' (hs1.call hs' hM) _ (hfit.put v ht) (by simpa [Act.put] using hd))

theorem yf_callF {C : World → Prop} {t : Nat} {f : Operand} {ars : List Operand} {tys : Array TypeId} {ty : TypeId} {pos : String} {af : Array Edge} {fv : Value} {vs : List Value} {R : Value → World → Prop}
    (hf : opv e f = some fv) (has_ : opvs e ars = some vs) (ht : Nat.blt t n = true) (hc : CaF P fv vs w R) (h : ∀ v w', R v w' → C w' ∧ YF P ro n F k ops C rest ((t, v) :: e) w') :
    YF P ro n F k ops C (⟨some t, .call { callee := .value f, args := ars.toArray, argTypes := tys }, ty, pos, af, none⟩ :: rest) e w := fun a hfit hd => by
  have e1 := hfit.op hf
  have e2 := hfit.ops has_
  have he : eff (.call { callee := .value f, args := ars.toArray, argTypes := tys }) = true := rfl
  rcases hc with ⟨g, first, caps, rfl, hg, hc⟩ | ⟨l, f, tmps, assign, body, rfl, hrun, hc⟩
  · have hrun : (execOp a.eval ⟨some t, .call { callee := .value f, args := ars.toArray, argTypes := tys }, ty, pos, af, none⟩).run P w = .ok (.enter g (first.toList ++ vs ++ caps.toList).toArray) w := by
      simp only [execOp, resolve, List.map_toArray, e1, e2, Deferred.ofValue]
      simp [invoke, run_callFuncB hg]
    simp only [wpFlL, Region.wanted, if_true, he, effStep, hrun]
    refine Calls.mono hc ?_
    rintro x w' ⟨v, rfl, hR⟩
    obtain ⟨h1, h2⟩ := h v w' hR
    exact ⟨v, rfl, h1, h2 _ (hfit.put v ht) (by simpa [Act.put] using hd)⟩
  · rename_i fop
    have hrun2 : (execOp a.eval ⟨some t, .call { callee := .value fop, args := ars.toArray, argTypes := tys }, ty, pos, af, none⟩).run P w = .ok (.round l f tmps assign body) w := by
      simp only [execOp, resolve, List.map_toArray, e1, e2, Deferred.ofValue]
      simp [invoke, hrun]
    have he2 : eff (.call { callee := .value fop, args := ars.toArray, argTypes := tys }) = true := rfl
    simp only [wpFlL, Region.wanted, if_true, he2, effStep, hrun2]
    refine RdOk.mono hc ?_
    intro v w' hR
    obtain ⟨h1, h2⟩ := h v w' hR
    exact ⟨h1, h2 _ (hfit.put v ht) (by simpa [Act.put] using hd)⟩

theorem qf_callF {t : Nat} {f : Operand} {ars : List Operand} {tys : Array TypeId} {ty : TypeId} {pos : String} {af : Array Edge} {fv : Value} {vs : List Value} {β : Type} {ψ : β → Value → Prop} {L' : β → List Ck}
    (L0 R : List Ck) (M' : Nat → Prop) (hf : opv e f = some fv) (has_ : opvs e ars = some vs) (ht : Nat.blt t n = true) (hH : Sp H (L0 ++ R)) (hM : ∀ b, M' b → ∃ c ∈ L0, c.D b)
    (hc : ∀ w, Sat w0 M (L0 ++ (R ++ Hq)) w → CaF P fv vs w fun v w' => ∃ x, ψ x v ∧ Sat w M' (L' x) w')
    (h : ∀ x v, ψ x v → QF P ro n F w0 M k ops Hq rest ((t, v) :: e) (L' x ++ R)) :
    QF P ro n F w0 M k ops Hq (⟨some t, .call { callee := .value f, args := ars.toArray, argTypes := tys }, ty, pos, af, none⟩ :: rest) e H := .mk fun w hs => by
  have hs1 : Sat w0 M (L0 ++ (R ++ Hq)) w := by
    rw [← List.append_assoc]
    exact hs.sp (Sp.app hH Hq)
  refine yf_callF hf has_ ht (hc w hs1) (fun v w' ⟨x, hx, hs'⟩ => ?_)
  have hs2 := hs1.call hs' hM
  exact ⟨hs2.right.right, (h x v hx).h w' (by rw [List.append_assoc]; exact hs2)⟩

theorem qf_callFv {t : Nat} {f : Operand} {ars : List Operand} {tys : Array TypeId} {ty : TypeId} {pos : String} {af : Array Edge} {fv : Value} {vs : List Value} {val : Value}
    (hf : opv e f = some fv) (has_ : opvs e ars = some vs) (ht : Nat.blt t n = true)
    (hc : ∀ w, Sat w0 M (H ++ Hq) w → CaF P fv vs w fun v w' => v = val ∧ Chg [] w w')
    (h : QF P ro n F w0 M k ops Hq rest ((t, val) :: e) H) :
    QF P ro n F w0 M k ops Hq (⟨some t, .call { callee := .value f, args := ars.toArray, argTypes := tys }, ty, pos, af, none⟩ :: rest) e H := .mk fun w hs =>
  yf_callF hf has_ ht (hc w hs) (fun v w' ⟨hv, hc'⟩ => by rw [hv]; exact ⟨(hs.keep hc').right, h.h w' (hs.keep hc')⟩)

/-- .. that changes nothing and makes nothing that is kept. -/
theorem ql_callFv {t : Nat} {f : Operand} {ars : List Operand} {tys : Array TypeId} {ty : TypeId} {pos : String} {af : Array Edge} {fv : Value} {vs : List Value} {val : Value}
    (hf : opv e f = some fv) (has_ : opvs e ars = some vs) (ht : Nat.blt t n = true)
    (hc : ∀ w, Sat w0 M H w → CaF P fv vs w fun v w' => v = val ∧ Chg [] w w')
    (h : QL P ro n F w0 M k ops rest ((t, val) :: e) H) :
    QL P ro n F w0 M k ops (⟨some t, .call { callee := .value f, args := ars.toArray, argTypes := tys }, ty, pos, af, none⟩ :: rest) e H := .mk fun w hs =>
  yl_callF hf has_ (hc w hs) (fun v w' ⟨hv, hc'⟩ a hfit hd => by rw [hv]; exact h w' (hs.keep hc') _ (hfit.put val ht) (by simpa [Act.put] using hd))

/-! Pieces as one -/
def DL (L : List Ck) (b : Nat) : Prop := ∃ c ∈ L, c.D b

theorem Sat.self {w : World} {A B : List Ck} (h : Sat w0 M (A ++ B) w) : Sat w (DL A) A w :=
  ⟨ChgP.refl _ _, fun c hc => h.all c (List.mem_append_left _ hc), (List.pairwise_append.1 h.sep).1, fun c hc b hb => ⟨(h.bd c (List.mem_append_left _ hc) b hb).1, .inl ⟨c, hc, hb⟩⟩⟩

/-- Some pieces taken for one. -/
def un (L : List Ck) : Ck := .gn (DL L) (fun w => (∀ c ∈ L, c.p w) ∧ L.Pairwise (fun (c d : Ck) => ∀ b : Nat, c.D b → ¬ d.D b) ∧ ∀ b, DL L b → b < w.heap.size)
  (fun _ _ _ ⟨h1, h2, h3⟩ hc hn => ⟨fun c hcL => Ck.st (h1 c hcL) hc (fun b hb => hn b ⟨c, hcL, hb⟩), h2, fun b hb => Nat.lt_of_lt_of_le (h3 b hb) hc.size⟩)

theorem Sat.un_iff {w : World} {L R : List Ck} : Sat w0 M (un L :: R) w ↔ Sat w0 M (L ++ R) w := by
  constructor
  · intro h
    obtain ⟨h1, h2, h3⟩ := (h.all (un L) List.mem_cons_self : (un L).p w)
    have hp := List.pairwise_cons.1 h.sep
    refine ⟨h.chg, ?_, List.pairwise_append.2 ⟨h2, hp.2, fun c hc d hd b hb => hp.1 d hd b ⟨c, hc, hb⟩⟩, ?_⟩
    · intro c hc
      rcases List.mem_append.1 hc with hc | hc
      · exact h1 c hc
      · exact h.all c (List.mem_cons_of_mem _ hc)
    · intro c hc b hb
      rcases List.mem_append.1 hc with hc | hc
      · exact h.bd (un L) List.mem_cons_self b ⟨c, hc, hb⟩
      · exact h.bd c (List.mem_cons_of_mem _ hc) b hb
  · intro h
    have hp := List.pairwise_append.1 h.sep
    refine ⟨h.chg, ?_, List.pairwise_cons.2 ⟨fun d hd b hb => ?_, hp.2.1⟩, ?_⟩
    · intro c hc
      rcases List.mem_cons.1 hc with rfl | hc
      · exact ⟨fun c hc => h.all c (List.mem_append_left _ hc), hp.1, fun b ⟨c, hc, hb⟩ => (h.bd c (List.mem_append_left _ hc) b hb).1⟩
      · exact h.all c (List.mem_append_right _ hc)
    · obtain ⟨c, hc, hb⟩ := hb
      exact hp.2.2 c hc d hd b hb
    · intro c hc b hb
      rcases List.mem_cons.1 hc with rfl | hc
      · obtain ⟨c, hc, hb⟩ := hb
        exact h.bd c (List.mem_append_left _ hc) b hb
      · exact h.bd c (List.mem_append_right _ hc) b hb

/-! Iterators -/
/-- At the world w the function gf, with what it has captured, is an iterator over xs; the body changes nothing but what lies in D. -/
def ItOk {α : Type} (P : Program) (gf : Nat) (lb : List Value) (enc : α → List Value) (xs : List α) (w : World) (D : Nat → Prop) : Prop :=
  ∀ (fv : Value) (σ : Type) (L : σ → List Ck) (I : List α → σ → Prop) (E : σ → Prop) (s0 : σ), I [] s0 → (∀ b, DL (L s0) b → D b) → Sat w (DL (L s0)) (L s0) w →
    (∀ pre x post s w', xs = pre ++ x :: post → I pre s → Sat w (DL (L s0)) (L s) w' → CaF P fv (enc x) w' (fun v w'' => ∃ s', ((v = .bool true ∧ I (pre ++ [x]) s') ∨ (v = .bool false ∧ E s')) ∧ Sat w' (DL (L s)) (L s') w'')) →
    Ca P gf (fv :: lb) w (fun _ w' => ∃ s', (I xs s' ∨ E s') ∧ Sat w (DL (L s0)) (L s') w')

def mark (D : Nat) : Deferred := { target := .collected D, args := #[] }

/-- A block that is o, and another one. -/
def obj2 (l : Nat) (o : Obj) (D : Nat) (o' : Obj) : Ck := .gn (fun b => b = l ∨ b = D) (fun w => w.heap[l]? = some o ∧ w.heap[D]? = some o')
  (fun _ _ _ ⟨h1, h2⟩ hc hn => ⟨(hc.block l (Array.getElem?_eq_some_iff.1 h1).1 (hn l (.inl rfl))).trans h1, (hc.block D (Array.getElem?_eq_some_iff.1 h2).1 (hn D (.inr rfl))).trans h2⟩)
def dfr (D : Nat) : Ck := .gn (· = D) (fun w => w.heap[D]? = some (.deferred (some [])))
  (fun _ _ _ h hc hn => (hc.block D (Array.getElem?_eq_some_iff.1 h).1 (hn D rfl)).trans h)

theorem putObj_chg (w : World) (l : Nat) (o : Obj) : Chg [l] w (w.putObj l o) :=
  ⟨rfl, rfl, rfl, by simp, fun k _ hn => World.putObj_heap_other (by simpa using hn)⟩

theorem Sat.obj2 {w : World} {l D : Nat} {o o' o2 : Obj} {R : List Ck} (h : Sat w0 M (obj2 l o D o' :: R) w) (hne : D ≠ l) : Sat w0 M (Eng.obj2 l o2 D o' :: R) (w.putObj l o2) := by
  have hp : w.heap[l]? = some o ∧ w.heap[D]? = some o' := h.all _ List.mem_cons_self
  refine h.rep .z (putObj_chg w l o2) (fun k hk => .inl (by simpa using hk)) ⟨World.putObj_heap_same (Array.getElem?_eq_some_iff.1 hp.1).1, (World.putObj_heap_other hne).trans hp.2⟩ (fun b hb => ⟨.inl hb, ?_⟩)
  rw [World.putObj_size]
  exact (h.bd _ List.mem_cons_self b hb).1

theorem Fits.fold {n : Nat} {ds : List Deferred} : ∀ (l : List (Nat × Value)) (e : Env) (tmps : Array Value) (ds' : List Deferred), Fits n e { tmps := tmps, defers := ds' } → (l.all fun p => Nat.blt p.1 n) = true →
    Fits n (l.foldl (fun e p => p :: e) e) { tmps := l.foldl (fun t p => t.setIfInBounds p.1 p.2) tmps, defers := ds }
  | [], e, tmps, ds', h, _ => ⟨h.size, h.at_⟩
  | p :: l, e, tmps, ds', h, hl => by
    simp only [List.all_cons, Bool.and_eq_true] at hl
    exact Fits.fold l (p :: e) (tmps.setIfInBounds p.1 p.2) ds' (h.put (t := p.1) p.2 hl.1) hl.2

/-- **for .. := range g { .. }**, at an outermost loop. -/
theorem q_range {ds : List Deferred} {g : Operand} {ps : List Nat} {assign body : Code} {gf : Nat} {lb : Array Value} {α : Type} (enc : α → List Value) (σ : Type) (xs : List α) (I : List α → σ → Prop) (E : Code → σ → Prop) (Hb : σ → List Ck) (R : List Ck) (s0 : σ)
    (hg : opv e g = some (.func (.func gf) #[] lb)) (hfn : fnB P gf = true) (hps : (ps.all fun p => Nat.blt p n) = true) (hlen : ∀ x ∈ xs, (enc x).length = ps.length) (hI0 : I [] s0) (hH : Sp H (Hb s0 ++ R))
    (it : ∀ w D, Sat w0 M (Hb s0 ++ R) w → (∀ b, D b → ¬ DL R b ∧ (M b ∨ w0.heap.size ≤ b)) → ItOk P gf lb.toList enc xs w D)
    (round : ∀ pre x post s w l (rdy bsy : Ck) (K : Act → World → Prop) (F' : Fin), xs = pre ++ x :: post → I pre s → Sat w0 M (Hb s ++ R) w → (∀ w', ChgP (DL (rdy :: Hb s)) w w' → Sat w0 M R w') →
      (∀ e' H', Q P ⟨some l, []⟩ n F' w (DL (rdy :: Hb s)) [.code body] e' (bsy :: H') → Q P ⟨some l, []⟩ n (fun _ _ _ => False) w (DL (rdy :: Hb s)) [.k K] e' (rdy :: H')) →
      (∀ e' H' s', I (pre ++ [x]) s' → Sp H' (bsy :: Hb s') → Q P ⟨some l, []⟩ n F' w (DL (rdy :: Hb s)) [] e' H') →
      (∀ e' H' s', E .ret s' → Sp H' (bsy :: Hb s') → Q P ⟨some l, []⟩ n (fun _ => F' .ret) w (DL (rdy :: Hb s)) [] e' H') →
      (∀ id e' H' s', E (.exit id) s' → Sp H' (bsy :: Hb s') → Q P ⟨some l, []⟩ n (fun _ => F' (.exit id)) w (DL (rdy :: Hb s)) [] e' H') →
      Q P ⟨some l, []⟩ n (fun _ _ _ => False) w (DL (rdy :: Hb s)) [.code assign, .k K] ((ps.zip (enc x)).foldl (fun e p => p :: e) e) (rdy :: Hb s))
    (done : ∀ D s, I xs s → Q P ⟨none, mark D :: ds⟩ n F w0 M k e (dfr D :: (Hb s ++ R)))
    (stops : ∀ D s c, E c s → Q P ⟨none, mark D :: ds⟩ n F w0 M (.code c :: k) e (dfr D :: (Hb s ++ R))) :
    Q P ⟨none, ds⟩ n F w0 M (.code (.rangeFunc g ps.toArray assign body) :: k) e H := .mk fun w hsH a hfit hd => by
  have hs := hsH.sp hH
  have eg := hfit.op hg
  show (Code.rangeFunc g ps.toArray assign body).wpIn (FR none) 0 P (S P none F k) a w
  refine wpIn_rangeFunc ?_
  intro fn hfnF
  obtain ⟨rec, hrec⟩ : ∃ rec : LoopState → Option Code → Loop, rec = fun st pe => { state := st, pending := pe, fn, tmps := a.tmps, params := ps.toArray, assign, body, defers := w.heap.size } := ⟨_, rfl⟩
  have hW1 : (Instr.enterLoop fn a.tmps ps.toArray assign body none).run P w = .ok (w.heap.size + 1, [mark w.heap.size]) ((w.alloc (.deferred (some []))).alloc (.loop (rec .ready none))) := by
    rw [hrec]
    exact run_enterLoop_outer _ _ _ _ _
  generalize hl : w.heap.size + 1 = l at hW1
  generalize hD : w.heap.size = D at hW1
  have hne : D ≠ l := by omega
  have hs1 : Sat w0 M (obj2 l (.loop (rec .ready none)) D (.deferred (some [])) :: (Hb s0 ++ R)) ((w.alloc (.deferred (some []))).alloc (.loop (rec .ready none))) := by
    refine hs.add ((alloc_chg _ _).trans (alloc_chg _ _)) ⟨?_, ?_⟩ (fun b hb => ?_)
    · have := World.alloc_heap_new (w.alloc (.deferred (some []))) (.loop (rec .ready none))
      rw [World.size_alloc, hl] at this
      exact this
    · have h1 := (alloc_chg (w.alloc (.deferred (some []))) (.loop (rec .ready none))).block w.heap.size (by simp) (by simp)
      rw [← hD, h1]
      exact World.alloc_heap_new w _
    · simp only [World.size_alloc]
      rcases hb with rfl | rfl <;> omega
  generalize hWW : (w.alloc (.deferred (some []))).alloc (.loop (rec .ready none)) = W1 at hW1 hs1
  refine ⟨l, [mark D], W1, { target := .fn (.func gf) lb, args := #[.func (.yield l) #[] #[]] }, W1, gf, #[.func (.yield l) #[] #[]] ++ lb, W1, hW1, ?_, fun f _ => fr_fn f, ?_, fun hx => by simp [Fence.wide] at hx, ?_⟩
  · simp only [resolve, eg]
    simp [go_sem]
  · simp [invoke, run_callFuncB hfn]
  -- the iterator, over the states 'running' and 'stopped'
  let L : σ ⊕ (σ × Code) → List Ck := fun
    | .inl s => obj2 l (.loop (rec .ready none)) D (.deferred (some [])) :: Hb s
    | .inr (s, c) => obj2 l (.loop (rec .done (some c))) D (.deferred (some [])) :: Hb s
  have hit := it W1 (DL (L (.inl s0))) hs1.tail (fun b ⟨c, hc, hb⟩ => by
    have hp := List.pairwise_append.1 (show ((obj2 l (.loop (rec .ready none)) D (.deferred (some [])) :: Hb s0) ++ R).Pairwise _ from hs1.sep)
    exact ⟨fun ⟨c', hc', hb'⟩ => hp.2.2 c hc c' hc' b hb hb', (hs1.bd c (List.mem_append_left R hc) b hb).2⟩)
  have hself : Sat W1 (DL (L (.inl s0))) (L (.inl s0)) W1 := Sat.self (A := L (.inl s0)) (B := R) hs1
  have hcall := hit (.func (.yield l) #[] #[]) (σ ⊕ (σ × Code)) L (fun pre st => ∃ s, st = .inl s ∧ I pre s) (fun st => ∃ s c, st = .inr (s, c) ∧ E c s) (.inl s0) ⟨s0, rfl, hI0⟩ (fun _ h => h) hself ?_
  · have hargs : #[Value.func (.yield l) #[] #[]] ++ lb = (Value.func (.yield l) #[] #[] :: lb.toList).toArray := by
      apply Array.ext'
      simp
    rw [hargs]
    refine callsIn_FR (Calls.mono hcall ?_)
    rintro x w' ⟨v, rfl, st, hst, hs'⟩
    have hs2 : Sat w0 M (L st ++ R) w' := Sat.call (L0 := L (.inl s0)) hs1 hs' (fun b hb => hb)
    have hdfr : ∀ {o : Obj} {s : σ} {w2 : World}, Sat w0 M (obj2 l o D (.deferred (some [])) :: (Hb s ++ R)) w2 → Sat w0 M (dfr D :: (Hb s ++ R)) w2 := fun {o s w2} h =>
      h.rep .z (Chg.refl [] _) (by simp) (h.all _ List.mem_cons_self : (obj2 l o D (.deferred (some []))).p w2).2 (fun b hb => ⟨.inl (.inr hb), (h.bd _ List.mem_cons_self b (.inr hb)).1⟩)
    rcases hst with ⟨s, rfl, hI⟩ | ⟨s, c, rfl, hE⟩
    · have hp : w'.heap[l]? = some (.loop (rec .ready none)) ∧ _ := hs2.all _ List.mem_cons_self
      have hr := run_endLoop (P := P) hp.1 (by rw [hrec]; simp)
      rw [show (rec .ready none).pending = none by rw [hrec]] at hr
      refine ⟨none, _, hr, ?_⟩
      exact done D s hI _ (hdfr (Sat.obj2 hs2 hne)) _ ⟨hfit.size, hfit.at_⟩ (by rw [hd]; rfl)
    · have hp : w'.heap[l]? = some (.loop (rec .done (some c))) ∧ _ := hs2.all _ List.mem_cons_self
      have hr := run_endLoop (P := P) hp.1 (by rw [hrec]; simp)
      rw [show (rec .done (some c)).pending = some c by rw [hrec]] at hr
      refine ⟨some c, _, hr, ?_⟩
      exact stops D s c hE _ (hdfr (Sat.obj2 hs2 hne)) _ ⟨hfit.size, hfit.at_⟩ (by rw [hd]; rfl)
  · rintro pre x post st w2 hx ⟨s, rfl, hI⟩ hs2
    have hp : w2.heap[l]? = some (.loop (rec .ready none)) ∧ _ := hs2.all _ List.mem_cons_self
    have hy := run_yield (P := P) (args := (enc x).toArray) hp.1 (by rw [hrec]; simpa using hlen x (by rw [hx]; simp))
    refine .inr ⟨l, _, _, _, _, rfl, hy, fun r => ?_⟩
    rw [hrec]
    have hfull : Sat w0 M (L (.inl s) ++ R) w2 := Sat.call (L0 := L (.inl s0)) hs1 hs2 (fun b hb => hb)
    let F' : Fin := fun ex a w' => roundPost P l (fun e w'' => ∃ v, e = .returned v ∧ ∃ st', ((v = .bool true ∧ ∃ s, st' = .inl s ∧ I (pre ++ [x]) s) ∨ (v = .bool false ∧ ∃ s c, st' = .inr (s, c) ∧ E c s)) ∧ Sat w2 (DL (L (.inl s))) (L st') w'') ex a w'
    let K : Act → World → Prop := fun a1 w1 => ∃ w3, (Instr.beginRound l).run P w1 = .ok () w3 ∧ body.wpIn ((FR r).inRound l) 0 P F' a1 w3
    have hend : ∀ (j : Option Code) (s' : σ) (w4 : World), Sat w2 (DL (L (.inl s))) (obj2 l (.loop (rec .busy none)) D (.deferred (some [])) :: Hb s') w4 →
        ∃ v w5, (Instr.endRound l j).run P w4 = .ok v w5 ∧ v = .bool j.isNone ∧ Sat w2 (DL (L (.inl s))) (obj2 l (.loop (rec (if j.isNone then .ready else .done) j)) D (.deferred (some [])) :: Hb s') w5 := by
      intro j s' w4 h4
      have hp4 : w4.heap[l]? = some (.loop (rec .busy none)) ∧ _ := h4.all _ List.mem_cons_self
      have hr := run_endRound (P := P) j hp4.1
      refine ⟨_, _, hr, rfl, ?_⟩
      have h5 := Sat.obj2 (o2 := .loop (rec (if j.isNone then .ready else .done) j)) h4 hne
      rw [hrec] at h5 ⊢
      exact h5
    have key := round pre x post s w2 l (obj2 l (.loop (rec .ready none)) D (.deferred (some []))) (obj2 l (.loop (rec .busy none)) D (.deferred (some []))) K F' hx hI hfull.tail
      (fun w' hc => ?_) (fun e' H' hb => .mk fun w1 hw1 a1 hf1 hd1 => ?_) (fun e' H' s' hI' hsp => .mk fun w4 hw4 a4 hf4 hd4 => ?_) (fun e' H' s' hE' hsp => .mk fun w4 hw4 a4 hf4 hd4 => ?_) (fun id e' H' s' hE' hsp => .mk fun w4 hw4 a4 hf4 hd4 => ?_)
    · have h1 := key w2 (Sat.self (A := L (.inl s)) (B := R) hfull) _ (Fits.fold (ds := []) (ps.zip (enc x)) e a.tmps a.defers hfit (List.all_eq_true.2 fun p hp => List.all_eq_true.1 hps p.1 (List.of_mem_zip hp).1)) rfl
      refine roundIn_of_wpIn (fr_fn _) ?_
      have h2 : assign.wpIn ((FR r).inRound l) 0 P (Exit.then K (fun _ _ _ => False)) { tmps := (ps.zip (enc x)).foldl (fun t p => t.setIfInBounds p.1 p.2) a.tmps, defers := [] } w2 := h1
      simpa [K, F'] using h2
    · have hp3 := List.pairwise_append.1 hfull.sep
      refine ⟨hfull.chg.upP hc (fun b ⟨c, hc, hb⟩ => (hfull.bd c (List.mem_append_left _ hc) b hb).2), fun c hcR => Ck.st (hfull.all c (List.mem_append_right _ hcR)) hc (fun b hb ⟨c', hc', hb'⟩ => hp3.2.2 c' hc' c hcR b hb' hb), hp3.2.1, fun c hcR b hb => ?_⟩
      have := hfull.bd c (List.mem_append_right _ hcR) b hb
      exact ⟨Nat.lt_of_lt_of_le this.1 hc.size, this.2⟩
    · have hp1 : w1.heap[l]? = some (.loop (rec .ready none)) ∧ _ := hw1.all _ List.mem_cons_self
      have hr := run_beginRound (P := P) hp1.1 (by rw [hrec])
      refine ⟨_, hr, ?_⟩
      have h3 := Sat.obj2 (o2 := .loop (rec .busy none)) hw1 hne
      have h4 := hb _ h3 a1 hf1 hd1
      rw [hrec]
      rw [hrec] at h4
      exact h4
    · obtain ⟨v, w5, hr, hv, h5⟩ := hend none s' w4 (hw4.sp hsp)
      exact ⟨v, w5, hr, v, rfl, .inl s', .inl ⟨hv, s', rfl, hI'⟩, h5⟩
    · obtain ⟨v, w5, hr, hv, h5⟩ := hend (some .ret) s' w4 (hw4.sp hsp)
      exact ⟨v, w5, hr, v, rfl, .inr (s', .ret), .inr ⟨hv, s', .ret, rfl, hE'⟩, h5⟩
    · obtain ⟨v, w5, hr, hv, h5⟩ := hend (some (.exit id)) s' w4 (hw4.sp hsp)
      exact ⟨v, w5, hr, v, rfl, .inr (s', .exit id), .inr ⟨hv, s', .exit id, rfl, hE'⟩, h5⟩

/-! A function whose activation bears marks -/
def finM (P : Program) (fn : Func) (R : Value → World → Prop) : Fin := bodyPostM (FR none) 0 P fn fun e w' => ∃ v, e = .returned v ∧ R v w'

theorem q_ofM {g : FuncId} {fn : Func} {c : Code} {args : List Value} {w : World} {R : Value → World → Prop} (hs : Sat w M H w) (hfn : P.funcs[g]? = some fn) (hb : fn.body = some c) (hn : args.length ≤ fn.ntmps)
    (h : Q P ⟨none, []⟩ fn.ntmps (finM P fn R) w M [.code c] (env0 0 args) H) : Ca P g args w R := by
  refine (callsIn_wide (n := 0)).1 (callsIn_of_wp_marks hfn hb trivial ?_ rfl)
  have h1 := h w hs { tmps := args.toArray ++ Array.replicate (fn.ntmps - args.toArray.size) undef, defers := [] } ⟨by simp; omega, fun t v ht => ?_⟩ rfl
  · exact h1
  · obtain ⟨_, h2⟩ := look_env0 args 0 t v ht
    simp at h2
    have hlt : t < args.length := (List.getElem?_eq_some_iff.1 h2).1
    have h3 : args[t] = v := by rw [List.getElem?_eq_getElem hlt] at h2; exact Option.some.inj h2
    simp [Array.getD_eq_getD_getElem?, Array.getElem?_append, hlt, h3]

theorem leaves_nil {fn : Func} {tmps : Array Value} {R : Ending → World → Prop} {w : World} {v : Value} (hr : (results fn tmps).run P w = .ok v w) (hR : R (.returned v) w) : LeavesInM (FR none) 0 P fn tmps R [] .returning w := by
  show LeavesIn (FR none) 0 P fn tmps R [] .returning w
  exact ⟨v, hr, hR⟩

/-- The end of a function with no mark on the way that it took. -/
theorem q_finM0 {fn : Func} {R : Value → World → Prop} {v : Value} (hr : ∀ a w, Fits n e a → Sat w0 M H w → (results fn a.tmps).run P w = .ok v w) (hR : ∀ w, Sat w0 M H w → R v w) : Q P ⟨none, []⟩ n (fun _ => finM P fn R .ret) w0 M [] e H := .mk fun w hs a hf hd => by
  show LeavesInM (FR none) 0 P fn a.tmps _ a.defers .returning w
  rw [show a.defers = [] from hd]
  exact leaves_nil (hr a w hf hs) ⟨v, rfl, hR w hs⟩
/-- .. with one mark. -/
theorem q_finM1 {D : Nat} {fn : Func} {R : Value → World → Prop} {v : Value} {H' : List Ck} (hH : Rm H (dfr D) H') (hr : ∀ a w, Fits n e a → Sat w0 M H' w → (results fn a.tmps).run P w = .ok v w) (hR : ∀ w, Sat w0 M H' w → R v w) : Q P ⟨none, [mark D]⟩ n (fun _ => finM P fn R .ret) w0 M [] e H := .mk fun w hs a hf hd => by
  show LeavesInM (FR none) 0 P fn a.tmps _ a.defers .returning w
  rw [show a.defers = [mark D] from hd]
  have h1 : Sat w0 M (dfr D :: H') w := hs.perm hH.perm
  have hp : w.heap[D]? = some (.deferred (some [])) := h1.all _ List.mem_cons_self
  have h2 : Sat w0 M H' (w.putObj D (.deferred none)) := by
    have hsep := List.pairwise_cons.1 h1.sep
    refine ⟨h1.chg.up (putObj_chg w D _) (fun b hb => ?_), fun c hc => Ck.st (h1.all c (List.mem_cons_of_mem _ hc)) (putObj_chg w D _).P (fun b hb hm => ?_), hsep.2, fun c hc b hb => ?_⟩
    · simp at hb
      subst hb
      exact (h1.bd _ List.mem_cons_self b rfl).2
    · simp at hm
      subst hm
      exact hsep.1 c hc b rfl hb
    · rw [World.putObj_size]
      exact h1.bd c (List.mem_cons_of_mem _ hc) b hb
  refine ⟨by simp, .inl ⟨D, _, rfl, run_takeDeferred hp, ?_⟩⟩
  exact leaves_nil (hr a _ hf h2) ⟨v, rfl, hR _ h2⟩
end
end Go.Eng

/- The engine, part B4: what a function hands back. -/
namespace Go.Eng
open Go Go.RowKit

section
variable {P : Program} {T : Tab}
variable {ro : Cx} {n : Nat} {F : Fin} {w0 : World} {M : Nat → Prop} {k : List It} {ops : Array Oper} {rest : List Oper} {e : Env} {H Hq : List Ck}

/-- What the results hold. -/
inductive RVs (T : Tab) (e : Env) (H : List Ck) : List ResultVar → List Value → Prop where
  | nil : RVs T e H [] []
  | tmp {t : Nat} {v : Value} {rs : List ResultVar} {vs : List Value} : look e t = some v → RVs T e H rs vs → RVs T e H (.tmp t :: rs) (v :: vs)
  | cellA {t ty m b : Nat} {us : List Value} {bt : TypeId} {rs : List ResultVar} {vs : List Value} : look e t = some (.pointer (some ⟨b, 0, none⟩)) → find1 T.agg ty = some m → Ck.pt b us bt ∈ H → us.length = m → RVs T e H rs vs → RVs T e H (.cell t ty :: rs) (.agg us.toArray :: vs)
  | cell1 {t ty b : Nat} {v : Value} {bt : TypeId} {rs : List ResultVar} {vs : List Value} : look e t = some (.pointer (some ⟨b, 0, none⟩)) → has T.one ty = true → Ck.pt b [v] bt ∈ H → RVs T e H rs vs → RVs T e H (.cell t ty :: rs) (v :: vs)

def retV : List Value → Value
  | [v] => v
  | vs => .tuple vs.toArray

theorem mapM_run {α : Type} {f : α → Sem Value} {x : α} {xs : List α} {v : Value} {vs : List Value} {w : World} (h1 : (f x).run P w = .ok v w) (h2 : (xs.mapM f).run P w = .ok vs w) : ((x :: xs).mapM f).run P w = .ok (v :: vs) w := by
  rw [List.mapM_cons]
  simp only [Sem.run_bind, h1, Result.andThen_ok, h2]
  rfl

/-- One result. -/
def resOne (tmps : Array Value) : ResultVar → Sem Value
  | .tmp t => pure (tmps.getD t undef)
  | .cell a t => do loadVar t (← asAddr (tmps.getD a undef))

theorem rvs_run (hT : T.Ok P) {rs : List ResultVar} {vs : List Value} (h : RVs T e H rs vs) {a : Act} (hf : Fits n e a) {w : World} (hs : Sat w0 M H w) :
    (rs.mapM (resOne a.tmps)).run P w = .ok vs w := by
  induction h with
  | nil => rfl
  | tmp hl _ ih =>
    have h1 := hf.at_ _ _ hl
    exact mapM_run (by simp only [resOne, h1]; rfl) ih
  | @cellA t ty m b us bt rs vs hl ht hm hlen _ ih =>
    have h1 := hf.at_ _ _ hl
    have h2 := run_loadAB (P := P) (w := w) hT ht (hs.mem hm) hlen
    exact mapM_run (by simp only [resOne, h1]; simp [asAddr, h2]) ih
  | @cell1 t ty b v bt rs vs hl ht hm _ ih =>
    have h1 := hf.at_ _ _ hl
    have h2 : (loadVar ty ⟨b, 0, none⟩).run P w = .ok v w := by
      obtain ⟨r1, _⟩ := one_run hT ht w
      have hc := Blk.cell (hs.mem hm) 0
      simp [loadVar, r1, load, Sem.run, hc]
    exact mapM_run (by simp only [resOne, h1]; simp [asAddr, h2]) ih

theorem results_run (hT : T.Ok P) {fn : Func} {rs : List ResultVar} {vs : List Value} (hres : fn.results = rs.toArray) (h : RVs T e H rs vs) {a : Act} (hf : Fits n e a) {w : World} (hs : Sat w0 M H w) :
    (results fn a.tmps).run P w = .ok (retV vs) w := by
  have h1 := rvs_run hT h hf hs
  have e1 : results fn a.tmps = (do
      let vs ← fn.results.mapM (resOne a.tmps)
      pure (if h : vs.size = 1 then vs[0] else .tuple vs)) := by
    unfold results
    congr 1
  rw [e1, hres, List.mapM_toArray]
  have h2 : (Functor.map List.toArray (rs.mapM (resOne a.tmps))).run P w = .ok vs.toArray w := by
    rw [map_eq_pure_bind]
    simp only [Sem.run_bind, h1, Result.andThen_ok]
    rfl
  simp only [Sem.run_bind, h2]
  rcases vs with _ | ⟨v, _ | ⟨u, vs⟩⟩ <;> simp [retV, Result.andThen]

theorem q_fin (hT : T.Ok P) {r : Option Nat} {fn : Func} {R : Value → World → Prop} {rs : List ResultVar} {vs : List Value} (hres : fn.results = rs.toArray) (h : RVs T e H rs vs) (hR : ∀ w, Sat w0 M H w → R (retV vs) w) : Q P ⟨r, []⟩ n (fun _ => fin P fn R .ret) w0 M [] e H :=
  .mk fun w hs => y_fin (fun a hf => results_run hT hres h hf hs) (hR w hs)
theorem q_end (hT : T.Ok P) {r : Option Nat} {fn : Func} {R : Value → World → Prop} {rs : List ResultVar} {vs : List Value} (hres : fn.results = rs.toArray) (h : RVs T e H rs vs) (hR : ∀ w, Sat w0 M H w → R (retV vs) w) : Q P ⟨r, []⟩ n (fin P fn R) w0 M [] e H :=
  .mk fun w hs _ hf hd => ⟨hd, retV vs, results_run hT hres h hf hs, _, rfl, hR w hs⟩
/-- .. of an activation that may bear a mark. -/
theorem q_finM (hT : T.Ok P) {fn : Func} {R : Value → World → Prop} {rs : List ResultVar} {vs : List Value} (hres : fn.results = rs.toArray) (h : RVs T e H rs vs) (hR : ∀ w, Sat w0 M H w → R (retV vs) w) : Q P ⟨none, []⟩ n (fun _ => finM P fn R .ret) w0 M [] e H :=
  q_finM0 (fun _ _ hf hs => results_run hT hres h hf hs) hR
theorem q_finMD (hT : T.Ok P) {D : Nat} {fn : Func} {R : Value → World → Prop} {rs : List ResultVar} {vs : List Value} {H' : List Ck} (hH : Rm H (dfr D) H') (hres : fn.results = rs.toArray) (h : RVs T e H' rs vs) (hR : ∀ w, Sat w0 M H' w → R (retV vs) w) : Q P ⟨none, [mark D]⟩ n (fun _ => finM P fn R .ret) w0 M [] e H :=
  q_finM1 hH (fun _ _ hf hs => results_run hT hres h hf hs) hR
theorem wpFlB_false {C1 C2 : World → Prop} {K : Act → World → Prop} : ∀ (l : List Oper) (bs : List Bool), (∀ x ∈ bs, x = false) → ∀ (a : Act) (w : World), wpFlL P ops C2 K l a w → wpFlB P ops C1 C2 K bs l a w
  | [], _, _, _, _, h => by simpa [wpFlL, wpFlB] using h
  | o :: l, bs, hb, a, w, h => by
    have h0 : bs.headD false = false := by
      cases bs with
      | nil => rfl
      | cons x bs => exact hb x List.mem_cons_self
    have h1 : ∀ x ∈ bs.tail, x = false := fun x hx => hb x (List.mem_of_mem_tail hx)
    simp only [wpFlL] at h
    simp only [wpFlB, h0, cond_false]
    by_cases hw : Region.wanted o (yielded ops a.tmps) = true
    · simp only [hw, if_true] at h ⊢
      by_cases he : eff o.op = true
      · simp only [he, if_true] at h ⊢
        exact h.mono fun v w' ⟨g1, g2⟩ => ⟨g1, wpFlB_false l _ h1 _ _ g2⟩
      · simp only [he] at h ⊢
        obtain ⟨v, hv, g2⟩ := h
        exact ⟨v, hv, wpFlB_false l _ h1 _ _ g2⟩
    · simp only [hw] at h ⊢
      exact wpFlB_false l _ h1 _ _ h

theorem Chg.old {w w1 w' : World} {D : Nat → Prop} (h : Chg [] w w1) (g : ChgP D w1 w') (hD : ∀ b, D b → w.heap.size ≤ b) : Chg [] w w' := (h.P0.upP g (fun k hk => .inr (hD k hk))).none

theorem Sat.un1 {w : World} {L : List Ck} : Sat w0 M [un L] w ↔ Sat w0 M L w := by
  have h := Sat.un_iff (w0 := w0) (M := M) (w := w) (L := L) (R := [])
  rwa [List.append_nil] at h

/-- What is known of the body, at a call of yield. -/
theorem yieldF {α σ : Type} {enc : α → List Value} {xs : List α} {w : World} {fv : Value} {L : σ → List Ck} {I : List α → σ → Prop} {E : σ → Prop} {s0 : σ}
    (hcb : ∀ pre x post s w', xs = pre ++ x :: post → I pre s → Sat w (DL (L s0)) (L s) w' → CaF P fv (enc x) w' (fun v w'' => ∃ s', ((v = .bool true ∧ I (pre ++ [x]) s') ∨ (v = .bool false ∧ E s')) ∧ Sat w' (DL (L s)) (L s') w''))
    {pre : List α} {x : α} {post : List α} {s : σ} (hx : xs = pre ++ x :: post) (hI : I pre s) {R : List Ck} : ∀ w', Sat w (DL (L s0)) ([un (L s)] ++ R) w' →
      CaF P fv (enc x) w' (fun v w'' => ∃ s', ((v = .bool true ∧ I (pre ++ [x]) s') ∨ (v = .bool false ∧ E s')) ∧ Sat w' (DL (L s)) [un (L s')] w'') := fun w' hs => by
  have h1 : Sat w (DL (L s0)) (L s) w' := (Sat.un_iff.1 hs).sp (by
    have := Sp.refl (L s)
    have key : ∀ (A B : List Ck), Sp (A ++ B) A := by
      intro A B
      induction A with
      | nil => exact .nil
      | cons a A ih => exact .cons .z ih
    exact key _ _)
  exact (hcb pre x post s w' hx hI h1).mono fun v w'' ⟨s', h2, h3⟩ => ⟨s', h2, Sat.un1.2 h3⟩

/-- A region that draws, whose first c operations stand ahead of all that changes Hm. -/
theorem q_drawS {id : Nat} {l : List Oper} (c : Nat) (Hq2 Hm : List Ck) (hH : Sp H (Hm ++ Hq2)) (hm : P.follows .mixedOrders = true) (hB : flB l.toArray = true)
    (hbs : flagB l.toArray (List.replicate c true ++ List.replicate (l.length - c) false) = true)
    (h : ∀ K1 : Act → World → Prop, (∀ e' H' Hm', Sp H' (Hm' ++ Hq2) → QF P ro n F w0 M k l.toArray Hq2 (l.drop c) e' Hm' → Q P ro n F w0 M (.k K1 :: k) e' H') → QF P ro n F w0 M (.k K1 :: k) l.toArray H (l.take c) e []) :
    Q P ro n F w0 M (.code (.region id l.toArray true) :: k) e H := .mk fun w hs a hf hd => by
  have hs1 : Sat w0 M H { w with drawn := w.drawn + 1 } := hs.keep (Chg.drew (N := []) w)
  have h12 : ∀ w, Sat w0 M H w → Sat w0 M Hq2 w := fun w hw => (hw.sp hH).right
  let bs := List.replicate c true ++ List.replicate (l.length - c) false
  refine wpIn_region_fl2 hm (flB_spec hB) (K := fun a w => S P ro.ro F k .normal a w) (Cq := flagC (Sat w0 M H) (Sat w0 M Hq2) bs) (Ce := flagC (Sat w0 M H) (Sat w0 M Hq2) bs)
    (fun i j oi oj => flagB_spec hbs h12 i j oi oj) (fun i => ?_) (fun _ _ h => h) ?_
  · unfold flagC
    cases bs.getD i false
    · exact h12 _ hs1
    · exact hs1
  · have h2 := wpFlB_eq (P := P) (ops := l.toArray) (C1 := Sat w0 M H) (C2 := Sat w0 M Hq2) (bs := bs) (K := fun a w => S P ro.ro F k .normal a w) l 0 (by simp)
    rw [show List.range l.toArray.size = List.range' 0 l.length from by simp [List.range_eq_range'], h2]
    refine yb_seg (P := P) (ro := ro) (n := n) (F := F) (k := k) (C1 := Sat w0 M H) (C2 := Sat w0 M Hq2) (bs := bs) (l := l) true c (by simp [bs]) (by simp [bs]) (fun K1 hK1 => ?_) a hf hd
    have h3 := h K1 (fun e' H' Hm' hsp hq => .mk fun w' hw' a' hf' hd' => ?_)
    · exact h3 _ (by simpa using hs1)
    · refine hK1 e' w' (fun a2 hf2 hd2 => ?_) a' hf' hd'
      have h4 : bs.drop c = List.replicate (l.length - c) false := by simp [bs]
      rw [h4]
      exact wpFlB_false _ _ (by simp) a2 w' (hq w' (hw'.sp hsp) a2 hf2 hd2)
end
end Go.Eng

/- What the engine reads off the program: offsets of fields, sizes of elements, which types have one cell. Written by gentab.py. -/
namespace Go.Proofs.Ytcmpdmobmbbplaa
open Go Go.Eng
def tab : Tab where
  foff := [((25, 0), 0), ((25, 1), 1), ((25, 2), 2), ((33, 0), 0), ((33, 1), 1), ((33, 2), 2), ((45, 0), 0), ((45, 1), 1), ((63, 0), 0), ((63, 1), 1), ((70, 0), 0), ((70, 1), 1), ((70, 2), 2), ((95, 1), 1), ((95, 2), 2), ((96, 0), 0), ((96, 1), 1), ((96, 2), 2), ((112, 0), 0), ((112, 1), 1), ((117, 0), 0), ((117, 1), 1), ((120, 0), 0), ((120, 1), 1), ((127, 0), 0), ((127, 1), 1), ((127, 2), 2), ((136, 0), 0), ((136, 1), 3), ((157, 0), 0), ((157, 1), 1), ((160, 0), 0), ((160, 1), 1), ((160, 2), 2), ((186, 0), 0)]
  esz := [(22, (5, 1)), (23, (33, 3)), (26, (3, 1)), (34, (3, 1)), (35, (45, 2)), (36, (35, 1)), (37, (25, 3)), (49, (26, 1)), (58, (63, 2)), (68, (160, 3)), (88, (96, 3)), (91, (95, 3)), (110, (112, 2)), (113, (120, 3)), (132, (4, 1)), (134, (132, 8)), (154, (157, 2)), (163, (4, 1)), (195, (3, 1))]
  one := [3, 4, 5, 22, 23, 26, 35, 49, 68, 101, 102, 110, 125, 129, 139, 140, 154, 162, 174, 183, 184]
  agg := [(25, 3), (33, 3), (34, 4), (36, 4), (45, 2), (63, 2), (70, 3), (95, 3), (96, 3), (112, 2), (117, 2), (120, 3), (127, 3), (134, 64), (136, 67), (157, 2), (160, 3), (186, 1), (187, 2), (195, 8)]
  len := [22, 23, 26, 35, 37, 49, 58, 68, 88, 91, 110, 113, 154, 163]
  iks := [(3, .i64), (5, .u8), (125, .u32), (210, .u64)]
  fn := [2, 3, 4, 5, 6, 7, 8, 9, 10, 11, 12, 13, 14, 15, 16, 17, 18, 19, 20, 21, 22, 23, 24, 25, 26, 27, 28, 29, 30, 31, 32, 33, 34, 35, 36, 37, 38, 39, 40, 41, 42, 43, 44, 45, 46, 47, 48, 49, 50, 51, 52, 53, 54, 55, 56, 57, 58, 59, 60, 61, 62, 63, 64, 65, 66, 67, 68, 69, 70, 71, 72, 73, 74, 75, 76, 77, 78, 79, 80, 81, 82, 83, 84, 85, 86, 87, 88, 89, 90, 91, 92, 93, 94, 95, 96, 97, 98, 99, 100, 101, 102, 103, 104, 105, 106, 107, 108, 109, 110, 111, 112, 113, 114, 115, 116, 117, 118, 119, 120, 121, 122, 123, 124, 125, 126, 127, 128, 129, 130, 131, 132, 133, 134, 135, 136, 137, 138, 139, 140, 141, 142, 143, 144, 145, 146, 147, 148, 149, 150, 151, 152, 153, 154, 155, 156, 157]
theorem tab_check : tab.ok Try.prog = true := by kernel_rfl
theorem tabOk : tab.Ok Try.prog := Tab.ok_spec tab_check
theorem zero3 : ZeroOf Try.prog 3 (.int .i64 0) := ⟨by kernel_rfl⟩
theorem zero25 : ZeroOf Try.prog 25 (.agg #[.int .i64 0, .int .i64 0, .slice none 0 0]) := ⟨by kernel_rfl⟩
theorem zero26 : ZeroOf Try.prog 26 (.slice none 0 0) := ⟨by kernel_rfl⟩
theorem zero33 : ZeroOf Try.prog 33 (.agg #[.int .i64 0, .int .i64 0, .int .i64 0]) := ⟨by kernel_rfl⟩
theorem zero45 : ZeroOf Try.prog 45 (.agg #[.int .i64 0, .int .i64 0]) := ⟨by kernel_rfl⟩
theorem zero63 : ZeroOf Try.prog 63 (.agg #[.int .i64 0, .int .i64 0]) := ⟨by kernel_rfl⟩
theorem zero70 : ZeroOf Try.prog 70 (.agg #[.int .i64 0, .int .i64 0, .slice none 0 0]) := ⟨by kernel_rfl⟩
theorem zero96 : ZeroOf Try.prog 96 (.agg #[.int .i64 0, .int .i64 0, .int .i64 0]) := ⟨by kernel_rfl⟩
theorem zero129 : ZeroOf Try.prog 129 (.pointer none) := ⟨by kernel_rfl⟩
theorem zero134 : ZeroOf Try.prog 134 (.agg #[.bool false, .bool false, .bool false, .bool false, .bool false, .bool false, .bool false, .bool false, .bool false, .bool false, .bool false, .bool false, .bool false, .bool false, .bool false, .bool false, .bool false, .bool false, .bool false, .bool false, .bool false, .bool false, .bool false, .bool false, .bool false, .bool false, .bool false, .bool false, .bool false, .bool false, .bool false, .bool false, .bool false, .bool false, .bool false, .bool false, .bool false, .bool false, .bool false, .bool false, .bool false, .bool false, .bool false, .bool false, .bool false, .bool false, .bool false, .bool false, .bool false, .bool false, .bool false, .bool false, .bool false, .bool false, .bool false, .bool false, .bool false, .bool false, .bool false, .bool false, .bool false, .bool false, .bool false, .bool false]) := ⟨by kernel_rfl⟩
theorem zero139 : ZeroOf Try.prog 139 (.nilFunc) := ⟨by kernel_rfl⟩
theorem zero140 : ZeroOf Try.prog 140 (.nilFunc) := ⟨by kernel_rfl⟩
theorem zero157 : ZeroOf Try.prog 157 (.agg #[.slice none 0 0, .int .i64 0]) := ⟨by kernel_rfl⟩
theorem zero160 : ZeroOf Try.prog 160 (.agg #[.int .i64 0, .int .i64 0, .int .i64 0]) := ⟨by kernel_rfl⟩
theorem zero183 : ZeroOf Try.prog 183 (.map none) := ⟨by kernel_rfl⟩
theorem zero186 : ZeroOf Try.prog 186 (.agg #[.nilFunc]) := ⟨by kernel_rfl⟩
theorem zero187 : ZeroOf Try.prog 187 (.agg #[.nilFunc, .nilFunc]) := ⟨by kernel_rfl⟩
theorem zero195 : ZeroOf Try.prog 195 (.agg #[.int .i64 0, .int .i64 0, .int .i64 0, .int .i64 0, .int .i64 0, .int .i64 0, .int .i64 0, .int .i64 0]) := ⟨by kernel_rfl⟩
end Go.Proofs.Ytcmpdmobmbbplaa

/- The plain laws of skis: orders as numbers of 64 bits, with one pair more and all that follows. -/
namespace Go.Proofs.Ytcmpdmobmbbplaa

/-- The number whose bits are those of a function. -/
def mkB (g : Nat → Bool) : Nat → Nat
  | 0 => 0
  | n + 1 => mkB g n ||| (cond (g n) (2 ^ n) 0)
theorem mkB_bit (g : Nat → Bool) (i : Nat) : ∀ n, (mkB g n).testBit i = (decide (i < n) && g i)
  | 0 => by simp [mkB]
  | n + 1 => by
    rw [mkB, Nat.testBit_or, mkB_bit g i n]
    by_cases h : i = n
    · subst h
      cases hg : g i <;> simp [Nat.testBit_two_pow_self]
    · have h1 : (cond (g n) (2 ^ n) 0).testBit i = false := by
        cases g n
        · simp
        · simp [Nat.testBit_two_pow_of_ne (Ne.symm h)]
      rw [h1, Bool.or_false]
      congr 1
      exact decide_eq_decide.2 (by omega)
theorem mkB_lt (g : Nat → Bool) : ∀ n, mkB g n < 2 ^ n := fun n => Nat.lt_pow_two_of_testBit _ fun i hi => by
  rw [mkB_bit]
  simp; omega
/-- Whether a is faster than b. -/
def fa (o a b : Nat) : Bool := o.testBit (8 * a + b)
/-- The order in which one ski more is faster than another one, and all that follows. -/
def withO (o f s : Nat) : Nat := mkB (fun c => o.testBit c || ((c / 8 == f || fa o (c / 8) f) && (c % 8 == s || fa o s (c % 8)))) 64
theorem fa_with (o f s : Nat) {a b : Nat} (ha : a < 8) (hb : b < 8) : fa (withO o f s) a b = (fa o a b || ((a == f || fa o a f) && (b == s || fa o s b))) := by
  unfold withO
  rw [fa, mkB_bit]
  have h1 : (8 * a + b) / 8 = a := by omega
  have h2 : (8 * a + b) % 8 = b := by omega
  have h3 : decide (8 * a + b < 64) = true := decide_eq_true (by omega)
  rw [h3, h1, h2, Bool.true_and]
  rfl
theorem with_iff {o f s a b : Nat} (ha : a < 8) (hb : b < 8) : fa (withO o f s) a b = true ↔ fa o a b = true ∨ ((a = f ∨ fa o a f = true) ∧ (b = s ∨ fa o s b = true)) := by
  rw [fa_with o f s ha hb]
  simp
theorem with_lt (o f s : Nat) : withO o f s < 2 ^ 64 := mkB_lt _ _
theorem ext_o {o p : Nat} (ho : o < 2 ^ 64) (hp : p < 2 ^ 64) (h : ∀ a b, a < 8 → b < 8 → fa o a b = fa p a b) : o = p := by
  refine Nat.eq_of_testBit_eq fun i => ?_
  by_cases hi : i < 64
  · have := h (i / 8) (i % 8) (by omega) (by omega)
    unfold fa at this
    rw [show 8 * (i / 8) + i % 8 = i from by omega] at this
    exact this
  · rw [Nat.testBit_lt_two_pow (Nat.lt_of_lt_of_le ho (Nat.pow_le_pow_right (by omega) (by omega))), Nat.testBit_lt_two_pow (Nat.lt_of_lt_of_le hp (Nat.pow_le_pow_right (by omega) (by omega)))]

/-- Orders: less than 2 ^ 64, and chains lead on. -/
structure Ord (o : Nat) : Prop where
  lt : o < 2 ^ 64
  tr : ∀ a b c, a < 8 → b < 8 → c < 8 → fa o a b = true → fa o b c = true → fa o a c = true
theorem Ord.zero : Ord 0 := ⟨by decide, fun a b c _ _ _ h => by simp [fa] at h⟩
theorem Ord.with {o f s : Nat} (h : Ord o) (hf : f < 8) (hs : s < 8) : Ord (withO o f s) := ⟨with_lt _ _ _, fun a b c ha hb hc h1 h2 => by
  rw [with_iff ha hb] at h1
  rw [with_iff hb hc] at h2
  rw [with_iff ha hc]
  rcases h1 with h1 | ⟨h1, h1'⟩ <;> rcases h2 with h2 | ⟨h2, h2'⟩
  · exact .inl (h.tr a b c ha hb hc h1 h2)
  · refine .inr ⟨?_, h2'⟩
    rcases h2 with rfl | h2
    · exact .inr h1
    · exact .inr (h.tr a b f ha hb hf h1 h2)
  · refine .inr ⟨h1, ?_⟩
    rcases h1' with rfl | h1'
    · exact .inr h2
    · exact .inr (h.tr s b c hs hb hc h1' h2)
  · exact .inr ⟨h1, h2'⟩⟩
/-- All that one order says, another one says. -/
def LeO (o p : Nat) : Prop := ∀ a b, a < 8 → b < 8 → fa o a b = true → fa p a b = true
theorem LeO.refl (o : Nat) : LeO o o := fun _ _ _ _ h => h
theorem LeO.trans {o p q : Nat} (h : LeO o p) (g : LeO p q) : LeO o q := fun a b ha hb x => g a b ha hb (h a b ha hb x)
theorem le_with (o f s : Nat) : LeO o (withO o f s) := fun a b ha hb h => (with_iff ha hb).2 (.inl h)
theorem with_self {o f s : Nat} (hf : f < 8) (hs : s < 8) : fa (withO o f s) f s = true := (with_iff hf hs).2 (.inr ⟨.inl rfl, .inl rfl⟩)
/-- A relation that chains lead on in, and that has a pair, has all that follows. -/
theorem with_sub {o f s : Nat} {R : Nat → Nat → Prop} (hf : f < 8) (hs : s < 8) (hR : ∀ a b c, a < 8 → b < 8 → c < 8 → R a b → R b c → R a c) (h : ∀ a b, a < 8 → b < 8 → fa o a b = true → R a b) (hp : R f s) : ∀ a b, a < 8 → b < 8 → fa (withO o f s) a b = true → R a b := fun a b ha hb hab => by
  rcases (with_iff ha hb).1 hab with h1 | ⟨h1, h2⟩
  · exact h a b ha hb h1
  · have h3 : R a s := by
      rcases h1 with rfl | h1
      · exact hp
      · exact hR a f s ha hf hs (h a f ha hf h1) hp
    rcases h2 with rfl | h2
    · exact h3
    · exact hR a s b ha hs hb h3 (h s b hs hb h2)
theorem with_le {o p f s : Nat} (hf : f < 8) (hs : s < 8) (hp : Ord p) (h : LeO o p) (hx : fa p f s = true) : LeO (withO o f s) p := with_sub hf hs hp.tr h hx
theorem with_eq {o f s : Nat} (h : Ord o) (hf : f < 8) (hs : s < 8) : withO o f s = o ↔ fa o f s = true := by
  constructor
  · intro e
    rw [← e]
    exact with_self hf hs
  · intro e
    refine ext_o (with_lt _ _ _) h.lt fun a b ha hb => Bool.eq_iff_iff.2 ⟨with_le hf hs h (LeO.refl o) e a b ha hb, le_with o f s a b ha hb⟩

/-- The order that pairs show. -/
def orderV (l : List (Nat × Nat)) : Nat := l.foldl (fun o p => withO o p.1 p.2) 0
theorem order_snoc (l : List (Nat × Nat)) (p : Nat × Nat) : orderV (l ++ [p]) = withO (orderV l) p.1 p.2 := by simp [orderV]
theorem snocI {α : Type} {p : List α → Prop} (h0 : p []) (hs : ∀ l a, p l → p (l ++ [a])) : ∀ l, p l := fun l => by
  have : ∀ n (l : List α), l.length = n → p l := by
    intro n
    induction n with
    | zero => intro l hl; rw [List.length_eq_zero_iff.1 hl]; exact h0
    | succ n ih =>
      intro l hl
      have hne : l ≠ [] := by intro h; rw [h] at hl; cases hl
      rw [← List.dropLast_concat_getLast hne]
      exact hs _ _ (ih _ (by simp [hl]))
  exact this _ l rfl
def In8 (l : List (Nat × Nat)) : Prop := ∀ p ∈ l, p.1 < 8 ∧ p.2 < 8
theorem order_ord : ∀ l, In8 l → Ord (orderV l) := fun l => snocI (p := fun l => In8 l → Ord (orderV l)) (fun _ => Ord.zero) (fun l a ih h => by
  rw [order_snoc]
  have := h a (by simp)
  exact (ih (fun p hp => h p (by simp [hp]))).with this.1 this.2) l
theorem order_has {l : List (Nat × Nat)} (h : In8 l) {p : Nat × Nat} (hp : p ∈ l) : fa (orderV l) p.1 p.2 = true := by
  revert h hp
  refine snocI (p := fun l => In8 l → p ∈ l → fa (orderV l) p.1 p.2 = true) (fun _ h => by cases h) (fun l a ih h hp => ?_) l
  rw [order_snoc]
  have h8 := h p hp
  rcases List.mem_append.1 hp with hp | hp
  · exact le_with _ _ _ _ _ h8.1 h8.2 (ih (fun q hq => h q (by simp [hq])) hp)
  · obtain rfl := List.mem_singleton.1 hp
    exact with_self h8.1 h8.2
theorem order_sub {l : List (Nat × Nat)} (h8 : In8 l) {R : Nat → Nat → Prop} (hR : ∀ a b c, a < 8 → b < 8 → c < 8 → R a b → R b c → R a c) (h : ∀ p ∈ l, R p.1 p.2) : ∀ a b, a < 8 → b < 8 → fa (orderV l) a b = true → R a b := by
  revert h8 h
  refine snocI (p := fun l => In8 l → (∀ p ∈ l, R p.1 p.2) → ∀ a b, a < 8 → b < 8 → fa (orderV l) a b = true → R a b) (fun _ _ a b _ _ h => by simp [orderV, fa] at h) (fun l p ih h8 h => ?_) l
  rw [order_snoc]
  have := h8 p (by simp)
  exact with_sub this.1 this.2 hR (ih (fun q hq => h8 q (by simp [hq])) (fun q hq => h q (by simp [hq]))) (h p (by simp))
theorem order_le {l m : List (Nat × Nat)} (h8 : In8 l) (h8m : In8 m) (h : ∀ p ∈ l, p ∈ m) : LeO (orderV l) (orderV m) := order_sub h8 (order_ord m h8m).tr (fun p hp => order_has h8m (h p hp))

/-- How many skis are faster than one, and how many slower. -/
def upN (o s n : Nat) : Nat := ((List.range n).filter (fun t => fa o t s)).length
def dnN (o s n : Nat) : Nat := ((List.range n).filter (fun t => fa o s t)).length
theorem filter_le {α : Type} (p q : α → Bool) : ∀ l : List α, (∀ a ∈ l, p a = true → q a = true) → (l.filter p).length ≤ (l.filter q).length
  | [], _ => by simp
  | a :: l, h => by
    have ih := filter_le p q l (fun b hb => h b (List.mem_cons_of_mem _ hb))
    have ha := h a List.mem_cons_self
    simp only [List.filter_cons]
    split
    · rename_i hp
      rw [if_pos (ha hp)]
      simp only [List.length_cons]; omega
    · split
      · simp only [List.length_cons]; omega
      · exact ih
/-- Whether all that are faster than a ski are of a set, and it is not. -/
def freeO (o n s S : Nat) : Bool := !S.testBit s && (List.range n).all (fun t => !fa o t s || S.testBit t)
theorem free_iff {o n s S : Nat} : freeO o n s S = true ↔ S.testBit s = false ∧ ∀ t, t < n → fa o t s = true → S.testBit t = true := by
  unfold freeO
  simp only [Bool.and_eq_true, Bool.not_eq_true', List.all_eq_true, List.mem_range, Bool.or_eq_true]
  constructor
  · rintro ⟨h1, h2⟩
    exact ⟨h1, fun t ht h => (h2 t ht).resolve_left (by simp [h])⟩
  · rintro ⟨h1, h2⟩
    refine ⟨h1, fun t ht => ?_⟩
    cases hf : fa o t s with
    | false => exact .inl rfl
    | true => exact .inr (h2 t ht hf)
/-- The sum over skis. -/
def sumN (f : Nat → Nat) : Nat → Nat
  | 0 => 0
  | n + 1 => sumN f n + f n
theorem sumN_congr {f g : Nat → Nat} : ∀ n, (∀ i, i < n → f i = g i) → sumN f n = sumN g n
  | 0, _ => rfl
  | n + 1, h => by rw [sumN, sumN, sumN_congr n fun i hi => h i (by omega), h n (by omega)]
/-- How many orders of a set fit, for sets that are no greater than the fuel. -/
def cntF (o n : Nat) : Nat → Nat → Nat
  | 0, S => if S = 0 then 1 else 0
  | k + 1, S => if S = 0 then 1 else sumN (fun s => cond (S.testBit s && freeO o n s (S ^^^ 2 ^ s)) (cntF o n k (S ^^^ 2 ^ s)) 0) n
def cnt (o n S : Nat) : Nat := cntF o n S S
theorem xor_lt {S s : Nat} (h : S.testBit s = true) : S ^^^ 2 ^ s < S := by
  have h1 : (S ^^^ 2 ^ s).testBit s = false := by rw [Nat.testBit_xor, h, Nat.testBit_two_pow_self]; rfl
  have h2 : S ^^^ 2 ^ s = S &&& (S ^^^ 2 ^ s) := Nat.eq_of_testBit_eq fun i => by
    rw [Nat.testBit_and]
    by_cases e : i = s
    · subst e; rw [h1]; simp
    · rw [Nat.testBit_xor, Nat.testBit_two_pow_of_ne (Ne.symm e)]; simp
  have h3 : S ^^^ 2 ^ s ≤ S := by rw [h2]; exact Nat.and_le_left
  have h4 : S ^^^ 2 ^ s ≠ S := fun e => by rw [e, h] at h1; cases h1
  omega
theorem cntF_eq (o n : Nat) : ∀ S k, S ≤ k → cntF o n k S = cnt o n S := by
  intro S
  induction S using Nat.strongRecOn with
  | _ S ih =>
    have key : ∀ k, S ≤ k + 1 → S ≠ 0 → cntF o n (k + 1) S = sumN (fun s => cond (S.testBit s && freeO o n s (S ^^^ 2 ^ s)) (cnt o n (S ^^^ 2 ^ s)) 0) n := by
      intro k hk h0
      rw [cntF, if_neg h0]
      refine sumN_congr n fun s _ => ?_
      cases hc : S.testBit s && freeO o n s (S ^^^ 2 ^ s) with
      | false => rfl
      | true =>
        have h1 : S.testBit s = true := by revert hc; cases S.testBit s <;> simp
        have h2 := xor_lt h1
        exact ih _ h2 k (by omega)
    intro k hk
    by_cases h0 : S = 0
    · subst h0
      cases k <;> simp [cnt, cntF]
    · obtain ⟨k, rfl⟩ : ∃ m, k = m + 1 := ⟨k - 1, by omega⟩
      obtain ⟨S', hS⟩ : ∃ m, S = m + 1 := ⟨S - 1, by omega⟩
      rw [key k hk h0]
      show _ = cntF o n S S
      rw [show cntF o n S S = cntF o n (S' + 1) S from by rw [← hS], key S' (by omega) h0]
theorem cnt_zero (o n : Nat) : cnt o n 0 = 1 := by simp [cnt, cntF]
theorem cnt_eq {o n S : Nat} (h : S ≠ 0) : cnt o n S = sumN (fun s => cond (S.testBit s && freeO o n s (S ^^^ 2 ^ s)) (cnt o n (S ^^^ 2 ^ s)) 0) n := by
  obtain ⟨S', hS⟩ : ∃ m, S = m + 1 := ⟨S - 1, by omega⟩
  show cntF o n S S = _
  rw [show cntF o n S S = cntF o n (S' + 1) S from by rw [← hS], cntF, if_neg h]
  refine sumN_congr n fun s _ => ?_
  cases hc : S.testBit s && freeO o n s (S ^^^ 2 ^ s) with
  | false => rfl
  | true =>
    have h1 : S.testBit s = true := by revert hc; cases S.testBit s <;> simp
    have h2 := xor_lt h1
    exact cntF_eq o n _ S' (by omega)
end Go.Proofs.Ytcmpdmobmbbplaa

/- The plain laws of skis: orders with the one before the other; plans. -/
namespace Go.Proofs.Ytcmpdmobmbbplaa

theorem cond_zero (b : Bool) : (cond b 0 0 : Nat) = 0 := by cases b <;> rfl
theorem bit_xor {S s t : Nat} (h : t ≠ s) : (S ^^^ 2 ^ s).testBit t = S.testBit t := by
  rw [Nat.testBit_xor, Nat.testBit_two_pow_of_ne (Ne.symm h)]; simp
theorem bit_xor_self {S s : Nat} (h : S.testBit s = true) : (S ^^^ 2 ^ s).testBit s = false := by
  rw [Nat.testBit_xor, h, Nat.testBit_two_pow_self]; rfl
structure Und (o n x y : Nat) : Prop where
  ord : Ord o
  n8 : n ≤ 8
  hx : x < n
  hy : y < n
  ne : x ≠ y
  xy : fa o x y = false
  yx : fa o y x = false
theorem Und.swap {o n x y : Nat} (h : Und o n x y) : Und o n y x := ⟨h.ord, h.n8, h.hy, h.hx, h.ne.symm, h.yx, h.xy⟩
/-- No ski is faster than itself. -/
def NoC (o n : Nat) : Prop := ∀ s, s < n → fa o s s = false
theorem NoC.with {o n x y : Nat} (hc : NoC o n) (h : Und o n x y) : NoC (withO o x y) n := fun s hs => by
  have h8 := h.n8
  cases hx : fa (withO o x y) s s with
  | false => rfl
  | true =>
    exfalso
    have hx1 := h.hx
    have hy1 := h.hy
    rcases (with_iff (by omega) (by omega)).1 hx with hx | ⟨h1, h2⟩
    · rw [hc s hs] at hx; cases hx
    · have : fa o y x = true := by
        rcases h1 with rfl | h1 <;> rcases h2 with h2 | h2
        · exact absurd h2 h.ne
        · exact h2
        · subst h2; exact h1
        · exact h.ord.tr y s x (by omega) (by omega) (by omega) h2 h1
      rw [h.yx] at this; cases this
theorem filter_add {α : Type} (p q : α → Bool) : ∀ l : List α, (∀ a ∈ l, p a = true → q a = false) → (l.filter p).length + (l.filter q).length = (l.filter (fun a => p a || q a)).length
  | [], _ => by simp
  | a :: l, h => by
    have ih := filter_add p q l (fun b hb => h b (List.mem_cons_of_mem _ hb))
    have ha := h a List.mem_cons_self
    simp only [List.filter_cons]
    cases hp : p a with
    | true =>
      have := ha hp
      simp only [this, Bool.true_or, if_true, List.length_cons]
      simp; omega
    | false =>
      cases hq : q a with
      | true => simp; omega
      | false => simp; exact ih
/-- Whether the first places are known. -/
def knownO (o n k : Nat) : Bool := (List.range k).all fun place => (List.range n).any fun s => upN o s n == place && dnN o s n + 1 + place == n
/-- All pairs of skis. -/
def pairsN (n : Nat) : List (Nat × Nat) := (List.range n).flatMap fun a => (List.range a).map fun b => (a, b)
theorem pairs_iff {n a b : Nat} : (a, b) ∈ pairsN n ↔ a < n ∧ b < a := by
  unfold pairsN
  simp [List.mem_flatMap]
/-- Whether it is not known of a pair which one is faster. -/
def undO (o : Nat) (p : Nat × Nat) : Bool := !(fa o p.1 p.2 || fa o p.2 p.1)
theorem und_iff {o : Nat} {p : Nat × Nat} : undO o p = true ↔ fa o p.1 p.2 = false ∧ fa o p.2 p.1 = false := by
  unfold undO
  simp
def undN (o n : Nat) : Nat := ((pairsN n).filter (undO o)).length
theorem filter_lt {α : Type} (p q : α → Bool) : ∀ l : List α, (∀ a ∈ l, p a = true → q a = true) → (∃ a ∈ l, q a = true ∧ p a = false) → (l.filter p).length < (l.filter q).length
  | [], _, h => by obtain ⟨a, ha, _⟩ := h; cases ha
  | a :: l, h, ⟨b, hb, h1, h2⟩ => by
    have ih := filter_lt p q l (fun b hb => h b (List.mem_cons_of_mem _ hb))
    have il := filter_le p q l (fun b hb => h b (List.mem_cons_of_mem _ hb))
    have ha := h a List.mem_cons_self
    simp only [List.filter_cons]
    rcases List.mem_cons.1 hb with rfl | hb
    · rw [h1, h2]
      simp; omega
    · have := ih ⟨b, hb, h1, h2⟩
      split
      · rename_i hp
        rw [if_pos (ha hp)]
        simp only [List.length_cons]; omega
      · split
        · simp only [List.length_cons]; omega
        · exact this
theorem und_lt {o n a b : Nat} (h : Und o n a b) : undN (withO o a b) n < undN o n := by
  have h8 := h.n8
  have hx := h.hx
  have hy := h.hy
  have hne := h.ne
  refine filter_lt _ _ _ (fun p hp hu => ?_) ?_
  · rw [und_iff] at hu ⊢
    obtain ⟨p1, p2⟩ := p
    have := pairs_iff.1 hp
    refine ⟨?_, ?_⟩
    · cases hx : fa o p1 p2 with
      | false => rfl
      | true => have := le_with o a b p1 p2 (by omega) (by omega) hx; rw [hu.1] at this; cases this
    · cases hx : fa o p2 p1 with
      | false => rfl
      | true => have := le_with o a b p2 p1 (by omega) (by omega) hx; rw [hu.2] at this; cases this
  · have hw : fa (withO o a b) a b = true := with_self (by omega) (by omega)
    by_cases hab : b < a
    · exact ⟨(a, b), pairs_iff.2 ⟨hx, hab⟩, und_iff.2 ⟨h.xy, h.yx⟩, by simp [undO, hw]⟩
    · exact ⟨(b, a), pairs_iff.2 ⟨hy, by omega⟩, und_iff.2 ⟨h.yx, h.xy⟩, by simp [undO, hw]⟩
theorem Und.of {o n : Nat} (ho : Ord o) (hn : n ≤ 8) {p : Nat × Nat} (hp : p ∈ pairsN n) (hu : undO o p = true) : Und o n p.1 p.2 := by
  obtain ⟨a, b⟩ := p
  have h1 := pairs_iff.1 hp
  have h2 := und_iff.1 hu
  exact ⟨ho, hn, h1.1, by simp only; omega, by simp only; omega, h2.1, h2.2⟩
/-- The fewest further runs, with fuel. -/
def planF (n k : Nat) : Nat → Nat → Nat
  | 0, _ => 0
  | m + 1, o => if knownO o n k then 0 else (pairsN n).foldl (fun best p => cond (undO o p) (min best (1 + max (planF n k m (withO o p.1 p.2)) (planF n k m (withO o p.2 p.1)))) best) (n * n)
def planO (n k o : Nat) : Nat := planF n k (undN o n + 1) o
/-- The best of a pair. -/
def worthO (n k o a b : Nat) : Nat := 1 + max (planO n k (withO o a b)) (planO n k (withO o b a))
theorem foldl_eq {α β : Type} (f f' : α → β → α) : ∀ (l : List β) (a : α), (∀ a, ∀ b ∈ l, f a b = f' a b) → l.foldl f a = l.foldl f' a
  | [], _, _ => rfl
  | b :: l, a, h => by
    rw [List.foldl_cons, List.foldl_cons, h a b List.mem_cons_self]
    exact foldl_eq f f' l _ (fun a b hb => h a b (List.mem_cons_of_mem _ hb))
theorem planF_step {n k : Nat} (hn : n ≤ 8) {u : Nat} (ih : ∀ v, v < u → ∀ o, undN o n = v → Ord o → ∀ m, v < m → planF n k m o = planO n k o) {o : Nat} (hu : undN o n = u) (ho : Ord o) {m : Nat} (hm : u < m + 1) :
    planF n k (m + 1) o = if knownO o n k then 0 else (pairsN n).foldl (fun best p => cond (undO o p) (min best (worthO n k o p.1 p.2)) best) (n * n) := by
  rw [planF]
  congr 1
  refine foldl_eq _ _ _ _ fun best p hp => ?_
  cases hc : undO o p with
  | false => rfl
  | true =>
    have hU := Und.of ho hn hp hc
    have h1 := und_lt hU
    have h2 := und_lt hU.swap
    have hx := hU.hx
    have hy := hU.hy
    show min best (1 + max _ _) = min best (1 + max _ _)
    rw [ih _ (by omega) _ rfl (ho.with (by omega) (by omega)) m (by omega), ih _ (by omega) _ rfl (ho.with (by omega) (by omega)) m (by omega)]
theorem planF_eq {n k : Nat} (hn : n ≤ 8) : ∀ u o, undN o n = u → Ord o → ∀ m, u < m → planF n k m o = planO n k o := by
  intro u
  induction u using Nat.strongRecOn with
  | _ u ih =>
    intro o hu ho m hm
    obtain ⟨m, rfl⟩ : ∃ j, m = j + 1 := ⟨m - 1, by omega⟩
    rw [planF_step hn ih hu ho (by omega), planO, hu, planF_step hn ih hu ho (by omega)]
/-- The fewest further runs. -/
theorem plan_eq {n k o : Nat} (hn : n ≤ 8) (ho : Ord o) : planO n k o = if knownO o n k then 0 else (pairsN n).foldl (fun best p => cond (undO o p) (min best (worthO n k o p.1 p.2)) best) (n * n) :=
  planF_step hn (fun v _ => planF_eq hn v) rfl ho (by omega)
theorem fold_le (u : Nat × Nat → Bool) (g : Nat × Nat → Nat) : ∀ (l : List (Nat × Nat)) (a : Nat), l.foldl (fun best p => cond (u p) (min best (g p)) best) a ≤ a ∧ ∀ p ∈ l, u p = true → l.foldl (fun best p => cond (u p) (min best (g p)) best) a ≤ g p
  | [], a => ⟨Nat.le_refl _, fun _ h => by cases h⟩
  | q :: l, a => by
    rw [List.foldl_cons]
    have ih := fold_le u g l (cond (u q) (min a (g q)) a)
    have h1 : cond (u q) (min a (g q)) a ≤ a := by cases u q <;> simp <;> omega
    refine ⟨Nat.le_trans ih.1 h1, fun p hp hu => ?_⟩
    rcases List.mem_cons.1 hp with rfl | hp
    · rw [hu] at ih ⊢
      exact Nat.le_trans ih.1 (Nat.min_le_right _ _)
    · exact ih.2 p hp hu
theorem plan_le {n k o : Nat} (hn : n ≤ 8) (ho : Ord o) : planO n k o ≤ n * n := by
  rw [plan_eq hn ho]
  split
  · exact Nat.zero_le _
  · exact (fold_le _ _ _ _).1
end Go.Proofs.Ytcmpdmobmbbplaa

/- The plain laws of skis: labs. -/
namespace Go.Proofs.Ytcmpdmobmbbplaa

structure Rn where
  a : Int
  b : Int
  lead : Int
structure Lb where
  skis : Int
  err : Int
  runs : List Rn
/-- What a run shows. -/
def runV (e : Int) (r : Rn) : Option (Nat × Nat) := if e < r.lead then some (r.a.toNat, r.b.toNat) else if r.lead < -e then some (r.b.toNat, r.a.toNat) else none
def Lb.pairs (l : Lb) : List (Nat × Nat) := l.runs.filterMap (runV l.err)
def Lb.ord (l : Lb) : Nat := orderV l.pairs
def Lb.n (l : Lb) : Nat := l.skis.toNat
/-- A number within two others. -/
def inB (n lo hi : Int) : Bool := decide (lo ≤ n) && decide (n ≤ hi)
theorem inB_iff {n lo hi : Int} : inB n lo hi = true ↔ lo ≤ n ∧ n ≤ hi := by simp [inB]
def knownB (l : Lb) : Bool := l.runs.all fun r => inB r.a 0 (l.skis - 1) && (inB r.b 0 (l.skis - 1) && (!decide (r.a = r.b)))
def leadB (l : Lb) : Bool := l.runs.all fun r => inB r.lead (-10000) 10000
/-- The error of a lab. -/
def checkV (l : Lb) : Int := if (inB l.skis 1 8 && inB l.err 0 1000) = false then 3 else if 40 < l.runs.length then 2 else if knownB l = false then 1 else if leadB l = false then 3 else 0
structure Rn.Ok (s : Int) (r : Rn) : Prop where
  a0 : 0 ≤ r.a
  a1 : r.a < s
  b0 : 0 ≤ r.b
  b1 : r.b < s
  ne : r.a ≠ r.b
  l0 : -10000 ≤ r.lead
  l1 : r.lead ≤ 10000
structure Lb.Ok (l : Lb) : Prop where
  s0 : 1 ≤ l.skis
  s1 : l.skis ≤ 8
  e0 : 0 ≤ l.err
  e1 : l.err ≤ 1000
  len : l.runs.length ≤ 40
  run : ∀ r ∈ l.runs, r.Ok l.skis
theorem check_iff {l : Lb} : checkV l = 0 ↔ l.Ok := by
  unfold checkV
  constructor
  · intro h
    split at h
    · cases h
    split at h
    · cases h
    split at h
    · cases h
    split at h
    · cases h
    rename_i h1 h2 h3 h4
    simp only [Bool.not_eq_false, Bool.and_eq_true, inB_iff] at h1
    simp only [Bool.not_eq_false] at h3 h4
    refine ⟨h1.1.1, h1.1.2, h1.2.1, h1.2.2, by omega, fun r hr => ?_⟩
    have h5 := List.all_eq_true.1 h3 r hr
    have h6 := List.all_eq_true.1 h4 r hr
    simp only [Bool.and_eq_true, inB_iff, Bool.not_eq_true', decide_eq_false_iff_not] at h5 h6
    exact ⟨h5.1.1, by omega, h5.2.1.1, by omega, h5.2.2, h6.1, h6.2⟩
  · intro h
    rw [if_neg (by simp [inB_iff, h.s0, h.s1, h.e0, h.e1]), if_neg (by have := h.len; omega), if_neg, if_neg]
    · simp only [Bool.not_eq_false]
      exact List.all_eq_true.2 fun r hr => inB_iff.2 ⟨(h.run r hr).l0, (h.run r hr).l1⟩
    · simp only [Bool.not_eq_false]
      refine List.all_eq_true.2 fun r hr => ?_
      have := h.run r hr
      simp only [Bool.and_eq_true, inB_iff, Bool.not_eq_true', decide_eq_false_iff_not]
      exact ⟨⟨this.a0, by have := this.a1; omega⟩, ⟨this.b0, by have := this.b1; omega⟩, this.ne⟩
theorem runV_in {e s : Int} {r : Rn} (h : r.Ok s) (hs : s ≤ 8) {p : Nat × Nat} (hp : runV e r = some p) : p.1 < s.toNat ∧ p.2 < s.toNat ∧ p.1 ≠ p.2 := by
  have h1 := h.a0
  have h2 := h.a1
  have h3 := h.b0
  have h4 := h.b1
  have h5 := h.ne
  unfold runV at hp
  split at hp
  · cases hp; simp only; omega
  · split at hp
    · cases hp; simp only; omega
    · cases hp
theorem Lb.Ok.n8 {l : Lb} (h : l.Ok) : l.n ≤ 8 := by have := h.s0; have := h.s1; unfold Lb.n; omega
theorem Lb.Ok.in {l : Lb} (h : l.Ok) : ∀ p ∈ l.pairs, p.1 < l.n ∧ p.2 < l.n ∧ p.1 ≠ p.2 := fun p hp => by
  obtain ⟨r, hr, h1⟩ := List.mem_filterMap.1 hp
  exact runV_in (h.run r hr) h.s1 h1
theorem Lb.Ok.in8 {l : Lb} (h : l.Ok) : In8 l.pairs := fun p hp => by
  have h1 := h.in p hp
  have h2 := h.n8
  exact ⟨by omega, by omega⟩
theorem Lb.Ok.o {l : Lb} (h : l.Ok) : Ord l.ord := order_ord _ h.in8
/-- The first ski that is faster than itself. -/
def conflB (o n : Nat) : Bool := (List.range n).any (fun s => fa o s s) && true
theorem confl_iff {o n : Nat} : conflB o n = false ↔ NoC o n := by
  unfold conflB NoC
  simp
/-- The error of a lab, also that its runs contradict each other. -/
def agreedV (l : Lb) : Int := if checkV l ≠ 0 then checkV l else if conflB l.ord l.n = true then 7 else 0
theorem agreed_iff {l : Lb} : agreedV l = 0 ↔ l.Ok ∧ NoC l.ord l.n := by
  unfold agreedV
  by_cases h : checkV l = 0
  · rw [if_neg (by simpa using h)]
    cases hc : conflB l.ord l.n with
    | true =>
      simp only [if_true]
      constructor
      · intro h; cases h
      · rintro ⟨_, h2⟩; rw [confl_iff.2 h2] at hc; cases hc
    | false => simp [check_iff.1 h, confl_iff.1 hc]
  · rw [if_pos h]
    constructor
    · intro h2; exact absurd h2 h
    · rintro ⟨h1, _⟩; exact absurd (check_iff.2 h1) h

/-- Leads that are what the skis really are, within the error. -/
structure Rn.True (e : Int) (real : List Int) (r : Rn) : Prop where
  lo : real.getD r.a.toNat 0 - real.getD r.b.toNat 0 - e ≤ r.lead
  hi : r.lead ≤ real.getD r.a.toNat 0 - real.getD r.b.toNat 0 + e
def Lb.True (l : Lb) (real : List Int) : Prop := ∀ r ∈ l.runs, r.True l.err real
/-- A run more. -/
def Lb.add (l : Lb) (r : Rn) : Lb := ⟨l.skis, l.err, l.runs ++ [r]⟩
theorem add_pairs (l : Lb) (r : Rn) : (l.add r).pairs = l.pairs ++ (runV l.err r).toList := by
  unfold Lb.pairs Lb.add
  simp only [List.filterMap_append]
  cases h : runV l.err r <;> simp [h]
theorem Lb.Ok.add {l : Lb} (h : l.Ok) (hn : l.runs.length < 40) {r : Rn} (hr : r.Ok l.skis) : (l.add r).Ok :=
  ⟨h.s0, h.s1, h.e0, h.e1, by simp [Lb.add]; omega, fun q hq => by
    rcases List.mem_append.1 hq with hq | hq
    · exact h.run q hq
    · obtain rfl := List.mem_singleton.1 hq; exact hr⟩
/-- A greater error. -/
def Lb.loose (l : Lb) (d : Int) : Lb := ⟨l.skis, l.err + d, l.runs⟩
/-- The order turned round. -/
def revO (o : Nat) : Nat := mkB (fun c => o.testBit (8 * (c % 8) + c / 8)) 64
theorem filter_congr2 {α : Type} {p q : α → Bool} {l : List α} (h : ∀ a ∈ l, p a = q a) : (l.filter p).length = (l.filter q).length := Nat.le_antisymm (filter_le _ _ _ fun a ha hx => by rw [← h a ha]; exact hx) (filter_le _ _ _ fun a ha hx => by rw [h a ha]; exact hx)
end Go.Proofs.Ytcmpdmobmbbplaa
