/- My texts, joined: lemmas for RifleSmall. -/
import Derived.CallsIn
import Derived.OrdersIn
import Derived.Tactics
import Derived.RangeFuncIn
import Derived.LoopNIn
import Derived.RowKit3
import Derived.Below
import Derived.TacticsIn
import Derived.Laws.OwnMore
import Derived.OwnWalk
import Derived.Scope
import Derived.WalkSpells
import Derived.Great.BuildSlice
import Derived.KernelRfl
set_option linter.unusedVariables false
set_option maxHeartbeats 16000000
namespace Go.Eng
abbrev aB9 (b n c : Nat) : Go.Value := .slice (some ⟨b, 0, none⟩) n c
abbrev aC0 (b : Nat) : Go.Value := .pointer (some ⟨b, 0, none⟩)
theorem Z.{u} {α : Sort u} {a : α} : a = a := rfl
theorem yq {A0 : Sort _} {a0 : A0} {A1 : Sort _} {a1 : A1} {A2 : Sort _} {a2 : A2} : a0 = a0 ∧ a1 = a1 ∧ a2 = a2 := ⟨rfl, rfl, rfl⟩
theorem O {p : Prop} (h : p := by repeat constructor) : p := h
theorem J {p : Prop} (h : p := by omega) : p := h
theorem qB {p : Prop} (h : p := by kernel_rfl) : p := h
theorem qC {p : Prop} (h : p := by intro _ h; exact h.elim) : p := h
set_option maxRecDepth 4000
open Go
abbrev Env := List (Nat × Value)
def look : Env → Nat → Option Value
 | [], _ => none
 | (t, v) :: e, s => bif Nat.beq t s then some v else look e s
def opv (e : Env) : Operand → Option Value
 | .tmp t => look e t
 | .const v => some v
 | .global g => some (aC0 g)
 | .func f => some (.func (.func f) #[] #[])
structure Fits (n : Nat) (e : Env) (a : Act) : Prop where
 size : a.tmps.size = n
 at_ : ∀ t v, look e t = some v → a.tmps.getD t undef = v
theorem Fits.op {n : Nat} {e : Env} {a : Act} (h : Fits n e a) {x : Operand} {v : Value} (hx : opv e x = some v) : a.eval x = v := by
 cases x with
 | tmp t => exact h.at_ t v hx
 | const u => simpa [opv, Act.eval] using hx
 | global g => simpa [opv, Act.eval] using hx
 | func f => simpa [opv, Act.eval] using hx
theorem Fits.put {n : Nat} {e : Env} {a : Act} (h : Fits n e a) {t : Nat} (v : Value) (ht : Nat.blt t n = true) : Fits n ((t, v) :: e) (a.put (some t) v) := by
 have ht' : t < n := by simpa [Nat.blt_eq] using ht
 refine ⟨by simp [Act.put, h.size], fun s u hs => ?_⟩;simp only [look] at hs;by_cases hst : t = s
 ·subst hst;simp at hs;subst hs;simp [Act.put, Array.getD, h.size, ht']
 ·have : Nat.beq t s = false := by
   cases hb : Nat.beq t s
   ·rfl
   ·exact absurd (Nat.eq_of_beq_eq_true hb) hst
  rw [this] at hs;have := h.at_ s u hs;simpa [Act.put, Array.getElem?_setIfInBounds_ne hst] using this
def Sub : Env → Env → Prop
 | [], _ => True
 | (t, v) :: l, e => look e t = some v ∧ Sub l e
theorem Sub.look {l e : Env} (h : Sub l e) {t : Nat} {v : Value} (ht : Eng.look l t = some v) : Eng.look e t = some v := by
 induction l with
 | nil => simp [Eng.look] at ht
 | cons p l ih =>
  obtain ⟨s, u⟩ := p;simp only [Eng.look] at ht;cases hb : Nat.beq s t with
  | true =>
   rw [hb] at ht;simp at ht;have := Nat.eq_of_beq_eq_true hb;subst this; subst ht;exact h.1
  | false =>
   rw [hb] at ht;exact ih h.2 ht
theorem Fits.sub {n : Nat} {e l : Env} {a : Act} (h : Fits n e a) (hs : Sub l e) : Fits n l a := ⟨h.size, fun t v ht => h.at_ t v (hs.look ht)⟩
abbrev FR (r : Option Nat) : Fence := { Fence.wide with round := r }
structure Cx where
 ro : Option Nat
 ds : List Deferred
theorem nH {r : Option Nat} {n : Nat} {P : Program} {f : FuncId} {args : Array Value} {w : World} {R : Ending → World → Prop} (h : Calls P f args w R) : CallsIn (FR r) n P f args w R :=
 (callsIn_wide (n := n)).2 h
inductive It where
 | code (c : Code)
 | blk (id : Nat)
 | k (K : Act → World → Prop)
abbrev Fin := Exit → Act → World → Prop
def S (P : Program) (r : Option Nat) (F : Fin) : List It → Fin
 | [] => F
 | .code c :: k => Exit.then (fun a w => c.wpIn (FR r) 0 P (S P r F k) a w) (S P r F k)
 | .blk id :: k => Exit.inBlock id (S P r F k)
 | .k K :: k => Exit.then K (S P r F k)
def Y (P : Program) (ro : Cx) (n : Nat) (F : Fin) (k : List It) (e : Env) (w : World) : Prop :=
 ∀ a, Fits n e a → a.defers = ro.ds → S P ro.ro F k .normal a w
section rules
variable {P : Program} {ro : Cx} {n : Nat} {F : Fin} {k : List It} {e : Env} {w : World}
theorem Y.sub {l : Env} (h : Y P ro n F k l w) (hs : Sub l e) : Y P ro n F k e w := fun a hf hd => h a (hf.sub hs) hd
theorem cS {c d : Code} (h : Y P ro n F (.code c :: .code d :: k) e w) : Y P ro n F (.code (.seq c d) :: k) e w :=
 fun a hf hd => wpIn_seq (h a hf hd)
theorem lR (h : Y P ro n F k e w) : Y P ro n F (.code .skip :: k) e w := fun a hf hd => wpIn_skip (h a hf hd)
theorem y_label {l : Nat} (h : Y P ro n F k e w) : Y P ro n F (.code (.label l) :: k) e w := fun a hf hd => wpIn_label (h a hf hd)
theorem iK {id : Nat} {c : Code} (h : Y P ro n F (.code c :: .blk id :: k) e w) : Y P ro n F (.code (.block id c) :: k) e w :=
 fun a hf hd => wpIn_block (h a hf hd)
theorem y_blk {id : Nat} (h : Y P ro n F k e w) : Y P ro n F (.blk id :: k) e w := h
def oP (id : Nat) : List It → Option (List It)
 | [] => none
 | .blk i :: k => bif Nat.beq id i then some k else oP id k
 | _ :: k => oP id k
theorem S_exit {r : Option Nat} {id : Nat} {k k' : List It} (h : oP id k = some k') (a : Act) (w : World) (hs : S P r F k' .normal a w) : S P r F k (.exit id) a w := by
 induction k with
 | nil => simp [oP] at h
 | cons i k ih =>
  cases i with
  | code c => exact ih (by simpa [oP] using h)
  | k K => exact ih (by simpa [oP] using h)
  | blk j =>
   simp only [oP] at h;cases hb : Nat.beq id j with
   | true =>
    rw [hb] at h;simp at h;have := Nat.eq_of_beq_eq_true hb;subst this; subst h;simpa [S, Exit.inBlock] using hs
   | false =>
    rw [hb] at h;have hne : id ≠ j := fun e => by subst e; simp at hb
    simp only [S, Exit.inBlock, if_neg hne];exact ih h
theorem y_exit {id : Nat} (k' : List It) (hk : oP id k = some k') (h : Y P ro n F k' e w) : Y P ro n F (.code (.exit id) :: k) e w :=
 fun a hf hd => wpIn_exit (S_exit hk a w (h a hf hd))
theorem S_pass {r : Option Nat} {k : List It} {x : Exit} (hx : x = .ret ∨ x = .outgrown ∨ (∃ c, x = .panic c) ∨ ∃ l, x = .goto l) (a : Act) (w : World) (hs : F x a w) : S P r F k x a w := by
 induction k with
 | nil => exact hs
 | cons i k ih =>
  rcases hx with rfl | rfl | ⟨c, rfl⟩ | ⟨l, rfl⟩ <;> cases i <;> exact ih
theorem gU (h : Y P ro n (fun _ => F .ret) [] e w) : Y P ro n F (.code .ret :: k) e w :=
 fun a hf hd => wpIn_ret (S_pass (.inl rfl) a w (h a hf hd))
theorem pE {c : Operand} {x y : Code} {t : Bool} (hc : opv e c = some (.bool t)) (ht : t = true → Y P ro n F (.code x :: k) e w) (hf : t = false → Y P ro n F (.code y :: k) e w) :
  Y P ro n F (.code (.cond c x y) :: k) e w :=
 fun a hfit hd => wpIn_cond_split (hfit.op hc) (fun h => ht h a hfit hd) (fun h => hf h a hfit hd)
theorem y_cond_true {c : Operand} {x y : Code} (hc : opv e c = some (.bool true)) (h : Y P ro n F (.code x :: k) e w) :
  Y P ro n F (.code (.cond c x y) :: k) e w := pE hc (fun _ => h) (fun h => by cases h)
theorem y_cond_false {c : Operand} {x y : Code} (hc : opv e c = some (.bool false)) (h : Y P ro n F (.code y :: k) e w) :
  Y P ro n F (.code (.cond c x y) :: k) e w := pE hc (fun h => by cases h) (fun _ => h)
theorem roundsIn_mono {r : Option Nat} {body : Code} {Q : Fin} {i j : Nat} (hij : i ≤ j) {a : Act} {w : World} (h : Code.roundsIn (FR r) 0 P body Q i a w) : Code.roundsIn (FR r) 0 P body Q j a w := by
 induction i generalizing j a w with
 | zero => exact h.elim
 | succ i ih =>
  cases j with
  | zero => omega
  | succ j =>
   refine wpIn_mono h fun x a w hq => ?_;cases x <;> first | exact ih J hq | exact hq
theorem y_loop {body : Code} (I : Nat → Env → World → Prop) {m : Nat} {l : Env} (h0 : I m l w) (hs : Sub l e)
  (round : ∀ m l w, I m l w → ∀ K : Act → World → Prop, (∀ m' l' e' w', I m' l' w' → m' < m → Sub l' e' → ∀ a, Fits n e' a → a.defers = ro.ds → K a w') → Y P ro n F (.code body :: .k K :: k) l w) :
  Y P ro n F (.code (.loop body) :: k) e w := by
 intro a hf hd
 have key : ∀ m l w, I m l w → ∀ a, Fits n l a → a.defers = ro.ds → Code.roundsIn (FR ro.ro) 0 P body (S P ro.ro F k) (m + 1) a w := by
  intro m
  induction m using Nat.strongRecOn with
  | _ m ih =>
   intro l w hI a hf hd;exact round m l w hI (Code.roundsIn (FR ro.ro) 0 P body (S P ro.ro F k) m) (fun m' l' e' w' hI' hlt hs' a' hf' hd' => roundsIn_mono J (ih m' hlt l' w' hI' a' (hf'.sub hs') hd')) a hf hd
 exact wpIn_loop_rounds (m + 1) (key m l w h0 a (hf.sub hs) hd)
theorem y_k {K : Act → World → Prop} (h : ∀ a, Fits n e a → a.defers = ro.ds → K a w) : Y P ro n F (.k K :: k) e w := h
end rules
end Go.Eng
namespace Go.Eng
set_option maxRecDepth 4000
open Go
structure Tab where
 foff : List ((Nat × Nat) × Nat)
 esz : List (Nat × (Nat × Nat))
 one : List Nat
 agg : List (Nat × Nat)
 len : List Nat
 iks : List (Nat × IntKind)
 fn : List Nat
def find2 : List ((Nat × Nat) × Nat) → Nat → Nat → Option Nat
 | [], _, _ => none
 | ((a, b), c) :: l, x, y => bif Nat.beq a x then (bif Nat.beq b y then some c else find2 l x y) else find2 l x y
def fS {α : Type} : List (Nat × α) → Nat → Option α
 | [], _ => none
 | (a, c) :: l, x => bif Nat.beq a x then some c else fS l x
def has : List Nat → Nat → Bool
 | [], _ => false
 | a :: l, x => bif Nat.beq a x then true else has l x
theorem find2_mem {l : List ((Nat × Nat) × Nat)} {x y c : Nat} (h : find2 l x y = some c) : ((x, y), c) ∈ l := by
 induction l with
 | nil => simp [find2] at h
 | cons p l ih =>
  obtain ⟨⟨a, b⟩, d⟩ := p;simp only [find2] at h;cases h1 : Nat.beq a x <;> rw [h1] at h <;> simp at h
  ·exact List.mem_cons_of_mem _ (ih h)
  ·cases h2 : Nat.beq b y <;> rw [h2] at h <;> simp at h
   ·exact List.mem_cons_of_mem _ (ih h)
   ·have e1 := Nat.eq_of_beq_eq_true h1;have e2 := Nat.eq_of_beq_eq_true h2;subst e1; subst e2; subst h;exact List.mem_cons_self
theorem find1_mem {α : Type} {l : List (Nat × α)} {x : Nat} {c : α} (h : fS l x = some c) : (x, c) ∈ l := by
 induction l with
 | nil => simp [fS] at h
 | cons p l ih =>
  obtain ⟨a, d⟩ := p;simp only [fS] at h;cases h1 : Nat.beq a x <;> rw [h1] at h <;> simp at h
  ·exact List.mem_cons_of_mem _ (ih h)
  ·have e1 := Nat.eq_of_beq_eq_true h1;subst e1; subst h;exact List.mem_cons_self
theorem has_mem {l : List Nat} {x : Nat} (h : has l x = true) : x ∈ l := by
 induction l with
 | nil => simp [has] at h
 | cons a l ih =>
  simp only [has] at h;cases h1 : Nat.beq a x <;> rw [h1] at h <;> simp at h
  ·exact List.mem_cons_of_mem _ (ih h)
  ·have e1 := Nat.eq_of_beq_eq_true h1;subst e1;exact List.mem_cons_self
def foffB (P : Program) (t i o : Nat) : Bool :=
 match P.underlying t with
 | some (.struct fs) => (match fs[i]? with | some f => Nat.beq f.offset o && (match P.info? f.type with | some i => !(Nat.beq i.size 0) | none => false) | none => false)
 | _ => false
def eszB (P : Program) (t e s : Nat) : Bool :=
 (match P.underlying t with | some (.slice e') => Nat.beq e e' | some (.array _ e') => Nat.beq e e' | _ => false) && (match P.info? e with | some i => Nat.beq i.size s | none => false)
def oneB (P : Program) (t : Nat) : Bool :=
 (match P.underlying t with | some (.struct _) => false | some (.array _ _) => false | some _ => true | none => false) && (match P.info? t with | some i => Nat.beq i.size 1 | none => false)
def aggB (P : Program) (t n : Nat) : Bool :=
 (match P.underlying t with | some (.struct _) => true | some (.array _ _) => true | _ => false) && (match P.info? t with | some i => Nat.beq i.size n | none => false)
def lenB (P : Program) (t : Nat) : Bool :=
 match P.underlying t with | some (.slice _) => true | _ => false
def ikEq : IntKind → IntKind → Bool
 | .i64, .i64 => true | .u8, .u8 => true | .u32, .u32 => true | .i32, .i32 => true | .u64, .u64 => true | .u16, .u16 => true | .i8, .i8 => true | _, _ => false
theorem ikEq_eq {a b : IntKind} (h : ikEq a b = true) : a = b := by
 cases a <;> cases b <;> first | rfl | simp [ikEq] at h
def ikB (P : Program) (t : Nat) (k : IntKind) : Bool :=
 match P.underlying t with | some (.int k') => ikEq k k' | _ => false
def fnB (P : Program) (f : Nat) : Bool :=
 match P.funcs[f]? with | some fn => fn.body.isSome && !(fn.name == "runtime.NumGoroutine") | none => false
def Tab.ok (T : Tab) (P : Program) : Bool :=
 T.foff.all (fun p => foffB P p.1.1 p.1.2 p.2) && T.esz.all (fun p => eszB P p.1 p.2.1 p.2.2) && T.one.all (oneB P) && T.agg.all (fun p => aggB P p.1 p.2) && T.len.all (lenB P) && T.iks.all (fun p => ikB P p.1 p.2) && T.fn.all (fnB P)
structure Tab.Ok (T : Tab) (P : Program) : Prop where
 foff : ∀ t i o, find2 T.foff t i = some o → foffB P t i o = true
 esz : ∀ t e s, fS T.esz t = some (e, s) → eszB P t e s = true
 one : ∀ t, has T.one t = true → oneB P t = true
 agg : ∀ t n, fS T.agg t = some n → aggB P t n = true
 len : ∀ t, has T.len t = true → lenB P t = true
 iks : ∀ t k, fS T.iks t = some k → ikB P t k = true
 fn : ∀ f, has T.fn f = true → fnB P f = true
theorem Tab.ok_spec {T : Tab} {P : Program} (h : T.ok P = true) : T.Ok P := by
 simp only [Tab.ok, Bool.and_eq_true, List.all_eq_true] at h;obtain ⟨⟨⟨⟨⟨⟨h1, h2⟩, h3⟩, h4⟩, h5⟩, h7⟩, h6⟩ := h;exact ⟨fun t i o hh => h1 _ (find2_mem hh), fun t e s hh => h2 _ (find1_mem hh), fun t hh => h3 _ (has_mem hh), fun t n hh => h4 _ (find1_mem hh), fun t hh => h5 _ (has_mem hh), fun t k hh => h7 _ (find1_mem hh), fun f hh => h6 _ (has_mem hh)⟩
def oH (op : BinOp) (k : IntKind) (a b : Int) : Option Value :=
 match op with
 | .add => some (.int k (k.wrap (a + b)))
 | .sub => some (.int k (k.wrap (a - b)))
 | .mul => some (.int k (k.wrap (a * b)))
 | .lss => some (.bool (decide (a < b)))
 | .leq => some (.bool (decide (a ≤ b)))
 | .gtr => some (.bool (decide (b < a)))
 | .geq => some (.bool (decide (b ≤ a)))
 | .eql => some (.bool (decide (a = b)))
 | .neq => some (.bool (!decide (a = b)))
 | _ => none
def kindEq : IntKind → IntKind → Bool
 | .i64, .i64 => true | .u8, .u8 => true | .u32, .u32 => true | .i32, .i32 => true | .u64, .u64 => true | _, _ => false
def oI (e : Env) : List Operand → Option (List Value)
 | [] => some []
 | x :: l => match opv e x, oI e l with
  | some v, some vs => some (v :: vs)
  | _, _ => none
def lenV (T : Tab) (e : Env) (c : Call) : Option Value :=
 match c.callee, c.args.toList, c.argTypes.toList with
 | .builtin .len, [x], [t] => (match opv e x, has T.len t with
  | some (.slice _ n _), true => some (.int .i64 n)
  | _, _ => none)
 | .builtin .max, [x, y], _ => (match opv e x, opv e y with
  | some (.int k a), some (.int _ b) => some (.int k (max a b))
  | _, _ => none)
 | .builtin .min, [x, y], _ => (match opv e x, opv e y with
  | some (.int k a), some (.int _ b) => some (.int k (min a b))
  | _, _ => none)
 | .builtin .max, [x, y, z], _ => (match opv e x, opv e y, opv e z with
  | some (.int k a), some (.int _ b), some (.int _ c) => some (.int k (max (max a b) c))
  | _, _, _ => none)
 | _, _, _ => none
def evp (T : Tab) (e : Env) : Op → Option Value
 | .move x => opv e x
 | .assign x => opv e x
 | .pick c a b => match opv e c with
  | some (.bool true) => opv e a
  | some (.bool false) => opv e b
  | _ => none
 | .binOp op _ x y _ => match opv e x, opv e y with
  | some (.int k a), some (.int k' b) => bif kindEq k k' then oH op k a b else none
  | _, _ => none
 | .unOp .neg _ x => match opv e x with
  | some (.int k a) => some (.int k (k.wrap (0 - a)))
  | _ => none
 | .unOp .not _ x => match opv e x with
  | some (.bool b) => some (.bool (!b))
  | _ => none
 | .nilCheck x => match opv e x with
  | some (.pointer (some a)) => some (.pointer (some a))
  | _ => none
 | .fieldAddr t x i => match find2 T.foff t i, opv e x with
  | some o, some (.pointer (some ⟨b, off, none⟩)) => some (.pointer (some ⟨b, off + o, none⟩))
  | _, _ => none
 | .extract x i => match opv e x with
  | some (.tuple vs) => vs[i]?
  | _ => none
 | .makeFunc fn first caps => match oI e first.toList, oI e caps.toList with
  | some f, some c => some (.func fn f.toArray c.toArray)
  | _, _ => none
 | .convert s d x => match fS T.iks s, fS T.iks d, opv e x with
  | some _, some k, some (.int _ m) => some (.int k (k.wrap m))
  | _, _, _ => none
 | .call c => lenV T e c
 | _ => none
theorem Fits.ops {n : Nat} {e : Env} {a : Act} (h : Fits n e a) : ∀ {l : List Operand} {vs : List Value}, oI e l = some vs → l.map a.eval = vs
 | [], vs, hx => by simp [oI] at hx; simp [hx]
 | x :: l, vs, hx => by
  simp only [oI] at hx;cases h1 : opv e x with
  | none => simp [h1] at hx
  | some v =>
   cases h2 : oI e l with
   | none => simp [h1, h2] at hx
   | some us =>
    simp [h1, h2] at hx;subst hx;simp [h.op h1, h.ops h2]
theorem oZ {a b : IntKind} (h : kindEq a b = true) : a = b := by
 cases a <;> cases b <;> first | rfl | simp [kindEq] at h
theorem run_binV {P : Program} {w : World} {op : BinOp} {k : IntKind} {a b : Int} {v : Value} (t : TypeId) (h : oH op k a b = some v) : (binOp op t (.int k a) (.int k b)).run P w = .ok v w := by
 cases op <;> simp [oH] at h <;> subst h <;> simp [binOp, Op.intArith, Op.intCmp, pure]
 ·rfl
 ·rfl
variable {P : Program} {T : Tab}
theorem evp_run (hT : T.Ok P) {n : Nat} {e : Env} {a : Act} (hf : Fits n e a) {o : Oper} {v : Value} (h : evp T e o.op = some v) (w : World) :
  (execOp a.eval o).run P w = .ok (.value v) w := by
 unfold execOp;cases hop : o.op <;> rw [hop] at h <;> simp only [evp] at h <;> dsimp only
 case move x => rw [hf.op h]; rfl
 case assign x => rw [hf.op h]; rfl
 case pick c x y =>
  cases hc : opv e c with
  | none => simp [hc] at h
  | some u =>
   cases u <;> simp [hc] at h
   case bool b =>
    cases b <;> simp at h <;> simp [hf.op hc, hf.op h, asBool]
 case binOp op xt x y yt =>
  split at h
  ·rename_i k m k' m' h1 h2
   cases hk : kindEq k k' <;> rw [hk] at h <;> simp at h
   have := oZ hk;subst this;have hr := run_binV (P := P) (w := w) xt h;simp [hf.op h1, hf.op h2, eqGuard, hr]
  ·cases h
 case unOp op xt x =>
  cases op <;> simp at h
  case neg =>
   split at h
   ·rename_i k m h1
    cases h
    simp [hf.op h1, Op.unary, Op.intArith]
   ·cases h
  case not =>
   split at h
   ·rename_i b h1
    cases h
    simp [hf.op h1, Op.unary]
   ·cases h
 case nilCheck x =>
  split at h
  ·rename_i ad h1
   cases h
   simp [hf.op h1]
  ·cases h
 case fieldAddr t x i =>
  split at h
  ·rename_i off b o' hfo h1
   cases h
   have := hT.foff _ _ _ hfo;simp only [foffB] at this;split at this
   ·rename_i fs hu
    split at this
    ·rename_i f hff
     simp only [Bool.and_eq_true] at this;obtain ⟨ho, hz⟩ := this;have ho := Nat.eq_of_beq_eq_true ho;subst ho;split at hz
     ·rename_i i hi
      have hi0 : i.size ≠ 0 := by intro e0; rw [e0] at hz; simp at hz
      rw [hf.op h1];simp [go_sem, run_underlying hu, hff, typeInfo, hi, hi0, sizeOf]
     ·cases hz
    ·cases this
   ·cases this
  ·cases h
 case extract x i =>
  split at h
  ·rename_i vs h1
   simp [hf.op h1, Instr.extract, h]
  ·cases h
 case makeFunc fn first caps =>
  split at h
  ·rename_i f c h1 h2
   cases h
   have e1 := hf.ops h1;have e2 := hf.ops h2
   have e1' : first.map a.eval = f.toArray := by
    apply Array.ext';simpa using e1
   have e2' : caps.map a.eval = c.toArray := by
    apply Array.ext';simpa using e2
   simp [Instr.makeFunc, e1', e2']
  ·cases h
 case convert s d x =>
  split at h
  ·rename_i ks k kx m h1 h2 h3
   cases h
   have a1 := hT.iks _ _ h1;have a2 := hT.iks _ _ h2;simp only [ikB] at a1 a2;split at a1
   ·rename_i k1 hu1
    split at a2
    ·rename_i k2 hu2
     have := ikEq_eq a2;subst this;rw [hf.op h3];simp [convert, run_underlying hu1, run_underlying hu2, Conv.intToInt]
    ·cases a2
   ·cases a1
  ·cases h
 case call c =>
  obtain ⟨cal, ars, tys⟩ := c;simp only [lenV] at h;split at h
  ·rename_i _ _ _ x t ha ht
   split at h
   ·rename_i aa m cc h1 h2
    cases h
    have := hT.len _ h2;simp only [lenB] at this;split at this
    ·rename_i el hu
     obtain rfl : ars = #[x] := Array.ext' ha;obtain rfl : tys = #[t] := Array.ext' ht;have e0 := hf.op h1;simp only [resolve, List.map_toArray, List.map_cons, List.map_nil, e0];simp [invoke, builtin, Builtin.len_, run_underlying hu, goInt]
    ·cases this
   ·cases h
  ·rename_i _ _ _ x y ha
   split at h
   ·rename_i kx ax ky ay h1 h2
    cases h
    obtain rfl : ars = #[x, y] := Array.ext' ha;have e0 := hf.op h1;have e1 := hf.op h2;simp only [resolve, List.map_toArray, List.map_cons, List.map_nil, e0, e1];have : (if ax < ay then ay else ax) = max ax ay := by simp only [Int.max_def]; split <;> split <;> omega
    simp [invoke, builtin, Builtin.max_, Builtin.max2, this]
   ·cases h
  ·rename_i _ _ _ x y ha
   split at h
   ·rename_i kx ax ky ay h1 h2
    cases h
    obtain rfl : ars = #[x, y] := Array.ext' ha;have e0 := hf.op h1;have e1 := hf.op h2;simp only [resolve, List.map_toArray, List.map_cons, List.map_nil, e0, e1];have : (if ay < ax then ay else ax) = min ax ay := by simp only [Int.min_def]; split <;> split <;> omega
    simp [invoke, builtin, Builtin.min_, Builtin.min2, this]
   ·cases h
  ·rename_i _ _ _ x y z ha
   split at h
   ·rename_i kx ax ky ay kz az h1 h2 h3
    cases h
    obtain rfl : ars = #[x, y, z] := Array.ext' ha;have e0 := hf.op h1;have e1 := hf.op h2;have e2 := hf.op h3;simp only [resolve, List.map_toArray, List.map_cons, List.map_nil, e0, e1, e2];have q : ∀ p q : Int, (if p < q then q else p) = max p q := fun p q => by simp only [Int.max_def]; split <;> split <;> omega
    simp [invoke, builtin, Builtin.max_, Builtin.max2, q]
   ·cases h
  ·cases h
 all_goals cases h
def YL (P : Program) (ro : Cx) (n : Nat) (F : Fin) (k : List It) (ops : Array Oper) (l : List Oper) (e : Env) (w : World) : Prop :=
 ∀ a, Fits n e a → a.defers = ro.ds → wpListIn (FR ro.ro) 0 P ops (S P ro.ro F k) l a w
section
variable {ro : Cx} {n : Nat} {F : Fin} {k : List It} {ops : Array Oper} {l rest : List Oper} {e : Env} {w : World} {o : Oper}
theorem bJ {id : Nat} {l : List Oper} (h : YL P ro n F k l.toArray l e w) : Y P ro n F (.code (.region id l.toArray false) :: k) e w :=
 fun a hf hd => wpIn_region_lit (h a hf hd)
theorem mW (h : Y P ro n F k e w) : YL P ro n F k ops [] e w := fun a hf hd => wpListIn_nil (h a hf hd)
theorem nZ {r : Option Nat} (f : FuncId) : (FR r).fn f := trivial
theorem upon_FR {nx : Act → World → Prop} {a : Act} {Q : Fin} {v : Value} {w' : World} (hop : ∀ c, o.op ≠ .defer c) (hr : (execOp a.eval o).run P w = .ok (.value v) w') (h : nx (a.put o.dst v) w') : o.wpIn (FR ro.ro) 0 P a w nx Q := by
 refine ⟨fun f _ => nZ f, ?_⟩;rw [Oper.semAt_eq _ _ _ hop, hr];exact h
theorem upon_FR_skip {nx : Act → World → Prop} {a : Act} {Q : Fin} {w' : World} (hop : ∀ c, o.op ≠ .defer c) (hr : (execOp a.eval o).run P w = .ok .skip w') (h : nx (a.put o.dst undef) w') : o.wpIn (FR ro.ro) 0 P a w nx Q := by
 refine ⟨fun f _ => nZ f, ?_⟩;rw [Oper.semAt_eq _ _ _ hop, hr];exact h
theorem eV {t : Nat} {v : Value} {w' : World} {op : Op} {ty : TypeId} {pos : String} {af : Array Edge} (hop : ∀ c, op ≠ .defer c) (ht : Nat.blt t n = true)
  (hr : ∀ a, Fits n e a → (execOp a.eval ⟨some t, op, ty, pos, af, none⟩).run P w = .ok (.value v) w') (h : YL P ro n F k ops rest ((t, v) :: e) w') :
  YL P ro n F k ops (⟨some t, op, ty, pos, af, none⟩ :: rest) e w := fun a hf hd =>
 wpListIn_plain rfl fun _ hK => upon_FR hop (hr a hf) (hK _ _ (h _ (hf.put v ht) (by simpa [Act.put] using hd)))
theorem yl_do {w' : World} {op : Op} {ty : TypeId} {pos : String} {af : Array Edge} (hop : ∀ c, op ≠ .defer c)
  (hr : ∀ a, Fits n e a → (execOp a.eval ⟨none, op, ty, pos, af, none⟩).run P w = .ok .skip w') (h : YL P ro n F k ops rest e w') :
  YL P ro n F k ops (⟨none, op, ty, pos, af, none⟩ :: rest) e w := fun a hf hd =>
 wpListIn_plain rfl fun _ hK => upon_FR_skip hop (hr a hf) (hK _ _ (h _ hf hd))
theorem evp_defer {op : Op} {v : Value} (h : evp T e op = some v) (c : Call) : op ≠ .defer c := by
 rintro rfl;simp [evp] at h
theorem aY (hT : T.Ok P) {t : Nat} {v : Value} {op : Op} {ty : TypeId} {pos : String} {af : Array Edge} (hv : evp T e op = some v) (ht : Nat.blt t n = true)
  (h : YL P ro n F k ops rest ((t, v) :: e) w) : YL P ro n F k ops (⟨some t, op, ty, pos, af, none⟩ :: rest) e w :=
 eV (evp_defer hv) ht (fun _ hf => evp_run hT hf hv w) h
theorem aA0 {t : Nat} {v : Value} {op : Op} {ty : TypeId} {pos : String} {af : Array Edge} (p_ : (T.Ok P) ∧ (evp T e op = some v) ∧ (Nat.blt t n = true)) (h : YL P ro n F k ops rest ((t, v) :: e) w) : YL P ro n F k ops (⟨some t, op, ty, pos, af, none⟩ :: rest) e w := aY p_.1 p_.2.1 p_.2.2 h
def nU (ops : Array Oper) (e : Env) (j : Nat) : Option Bool :=
 match (ops[j]?).bind (·.dst) with
 | some t => (match look e t with | some (.bool b) => some b | _ => none)
 | none => none
theorem gY {a : Act} (hf : Fits n e a) {j : Nat} {b : Bool} (h : nU ops e j = some b) : yielded ops a.tmps j = some b := by
 simp only [nU] at h;cases hd : (ops[j]?).bind (·.dst) with
 | none => simp [hd] at h
 | some t =>
  simp only [hd] at h;cases hl : look e t with
  | none => simp [hl] at h
  | some v =>
   cases v <;> simp [hl] at h
   case bool c =>
    subst h;have := hf.at_ t _ hl;simp only [yielded, hd, Option.bind_some];cases hc : a.tmps[t]? with
    | none => simp [Array.getD_eq_getD_getElem?, hc, undef] at this
    | some u =>
     simp [Array.getD_eq_getD_getElem?, hc] at this;simp [this]
theorem yl_guard_yes {dst : Option Nat} {op : Op} {ty : TypeId} {pos : String} {af : Array Edge} {j : Nat} {b : Bool} (hg : nU ops e j = some b)
  (h : YL P ro n F k ops (⟨dst, op, ty, pos, af, none⟩ :: rest) e w) : YL P ro n F k ops (⟨dst, op, ty, pos, af, some (j, b)⟩ :: rest) e w := fun a hf hd => by
 have h1 := h a hf hd;have hy := gY hf hg;simp only [wpListIn, Region.wanted, if_true] at h1;simp only [wpListIn, Region.wanted, hy, beq_self_eq_true, if_true];exact h1
theorem yl_guard_no {t : Nat} {op : Op} {ty : TypeId} {pos : String} {af : Array Edge} {j : Nat} {b c : Bool} (hg : nU ops e j = some c) (hne : (c == b) = false) (ht : Nat.blt t n = true)
  (h : YL P ro n F k ops rest ((t, undef) :: e) w) : YL P ro n F k ops (⟨some t, op, ty, pos, af, some (j, b)⟩ :: rest) e w := fun a hf hd => by
 have hy := gY hf hg;have hw : (some c == some b) = false := by simpa using hne
 simp only [wpListIn, Region.wanted, hy, hw];exact ⟨fun f _ => nZ f, h _ (hf.put undef ht) (by simpa [Act.put] using hd)⟩
def Ca (P : Program) (g : FuncId) (args : List Value) (w : World) (R : Value → World → Prop) : Prop :=
 Calls P g args.toArray w fun e w' => ∃ v, e = .returned v ∧ R v w'
theorem Ca.mono {g : FuncId} {args : List Value} {R R' : Value → World → Prop} (h : Ca P g args w R) (hr : ∀ v w', R v w' → R' v w') : Ca P g args w R' :=
 Calls.mono h fun _ _ ⟨v, he, hR⟩ => ⟨v, he, hr _ _ hR⟩
theorem run_callFunc (hT : T.Ok P) {g : Nat} (hg : has T.fn g = true) (args : Array Value) : (callFunc g args).run P w = .ok (.enter g args) w := by
 have h1 := hT.fn _ hg;simp only [fnB] at h1;split at h1
 ·rename_i fn hfn
  simp only [Bool.and_eq_true, Bool.not_eq_true'] at h1;obtain ⟨hb, hn⟩ := h1;have hn' : ¬ fn.name = "runtime.NumGoroutine" := by simpa using hn
  have hb2 : ¬ fn.body = none := by intro h0; rw [h0] at hb; cases hb
  simp [callFunc, hfn, hn', hb2]
 ·cases h1
theorem eO (hT : T.Ok P) {t : Nat} {f : Operand} {ars : List Operand} {tys : Array TypeId} {ty : TypeId} {pos : String} {af : Array Edge} {g : Nat} {first caps : Array Value} {vs : List Value} {R : Value → World → Prop}
  (hf : opv e f = some (.func (.func g) first caps)) (hg : has T.fn g = true) (has_ : oI e ars = some vs) (ht : Nat.blt t n = true)
  (hc : Ca P g (first.toList ++ vs ++ caps.toList) w R) (h : ∀ v w', R v w' → YL P ro n F k ops rest ((t, v) :: e) w') :
  YL P ro n F k ops (⟨some t, .call { callee := .value f, args := ars.toArray, argTypes := tys }, ty, pos, af, none⟩ :: rest) e w := fun a hfit hd =>
 wpListIn_plain rfl fun K hK => by
  refine ⟨fun f _ => nZ f, ?_⟩;rw [Oper.semAt_eq _ _ _ (by simp)];have e1 := hfit.op hf;have e2 := hfit.ops has_
  have hrun : (execOp a.eval ⟨some t, .call { callee := .value f, args := ars.toArray, argTypes := tys }, ty, pos, af, none⟩).run P w = .ok (.enter g (first.toList ++ vs ++ caps.toList).toArray) w := by
   simp only [execOp, resolve, List.map_toArray, e1, e2, Deferred.ofValue];simp [invoke, run_callFunc hT hg]
  rw [hrun];refine ⟨fun hx => by simp [Fence.wide] at hx, nH (Calls.mono hc ?_)⟩;rintro x w' ⟨v, rfl, hR⟩;exact hK _ _ (h v w' hR _ (hfit.put v ht) (by simpa [Act.put] using hd))
def fin (P : Program) (fn : Func) (R : Value → World → Prop) : Fin := bodyPost P fn fun e w' => ∃ v, e = .returned v ∧ R v w'
def env0 : Nat → List Value → Env
 | _, [] => []
 | i, v :: vs => (i, v) :: env0 (i + 1) vs
theorem look_env0 (vs : List Value) : ∀ i t v, look (env0 i vs) t = some v → i ≤ t ∧ vs[t - i]? = some v := by
 induction vs with
 | nil => intro i t v h; simp [env0, look] at h
 | cons u vs ih =>
  intro i t v h;simp only [env0, look] at h;cases hb : Nat.beq i t with
  | true =>
   rw [hb] at h;have := Nat.eq_of_beq_eq_true hb;subst this;simp at h;subst h;simp
  | false =>
   rw [hb] at h;obtain ⟨h1, h2⟩ := ih _ _ _ h;refine ⟨by omega, ?_⟩;rw [show t - i = (t - (i + 1)) + 1 from by omega, List.getElem?_cons_succ];exact h2
theorem lH {g : FuncId} {fn : Func} {c : Code} {args : List Value} {R : Value → World → Prop} (hfn : P.funcs[g]? = some fn) (hb : fn.body = some c) (hn : args.length ≤ fn.ntmps)
  (h : Y P ⟨none, []⟩ fn.ntmps (fin P fn R) [.code c] (env0 0 args) w) : Ca P g args w R := by
 refine (callsIn_wide (n := 0)).1 (callsIn_of_wp hfn hb trivial ?_ Z);have h1 := h { tmps := args.toArray ++ Array.replicate (fn.ntmps - args.toArray.size) undef, defers := [] } ⟨by simp; omega, fun t v ht => ?_⟩ rfl
 ·exact h1
 ·obtain ⟨_, h2⟩ := look_env0 args 0 t v ht;simp at h2;have hlt : t < args.length := (List.getElem?_eq_some_iff.1 h2).1;have h3 : args[t] = v := by rw [List.getElem?_eq_getElem hlt] at h2; exact Option.some.inj h2
  simp [Array.getD_eq_getD_getElem?, Array.getElem?_append, hlt, h3]
theorem y_fin {r : Option Nat} {fn : Func} {R : Value → World → Prop} {v : Value} (hr : ∀ a, Fits n e a → (results fn a.tmps).run P w = .ok v w) (hR : R v w) : Y P ⟨r, []⟩ n (fun _ => fin P fn R .ret) [] e w :=
 fun a hf hd => ⟨hd, v, hr a hf, v, rfl, hR⟩
theorem eN {r : Option Nat} {fn : Func} {R : Value → World → Prop} {t : Nat} {v : Value} (hres : fn.results = #[.tmp t]) (hv : look e t = some v) (hR : R v w) : Y P ⟨r, []⟩ n (fun _ => fin P fn R .ret) [] e w :=
 y_fin (fun a hf => by rw [results_tmp hres]; rw [hf.at_ t v hv]) hR
end
end Go.Eng
namespace Go.Eng
set_option maxRecDepth 4000
open Go Go.RowKit
structure Chg (N : List Nat) (w w' : World) : Prop where
 os : w'.os = w.os
 tape : w'.tape = w.tape
 output : w'.output = w.output
 size : w.heap.size ≤ w'.heap.size
 block : ∀ k, k < w.heap.size → k ∉ N → w'.heap[k]? = w.heap[k]?
theorem Chg.refl (N : List Nat) (w : World) : Chg N w w := ⟨rfl, rfl, rfl, Nat.le_refl _, fun _ _ _ => rfl⟩
theorem Chg.trans {N : List Nat} {a b c : World} (h : Chg N a b) (g : Chg N b c) : Chg N a c :=
 ⟨g.os.trans h.os, g.tape.trans h.tape, g.output.trans h.output, Nat.le_trans h.size g.size, fun k hk hn => (g.block k (Nat.lt_of_lt_of_le hk h.size) hn).trans (h.block k hk hn)⟩
theorem Chg.mono {N M : List Nat} {a b : World} (h : Chg N a b) (hs : ∀ k ∈ N, k ∈ M) : Chg M a b :=
 ⟨h.os, h.tape, h.output, h.size, fun k hk hn => h.block k hk (fun hk' => hn (hs k hk'))⟩
theorem Chg.nil {N : List Nat} {a b : World} (h : Chg [] a b) : Chg N a b := h.mono (by simp)
theorem Chg.below {w w' : World} (h : Chg [] w w') : Below w.heap.size w w' := ⟨h.os, h.tape, h.output, h.size, fun k hk => h.block k hk (by simp)⟩
theorem Below.chg {B : Nat} {N : List Nat} {w0 w w' : World} (h : Below B w0 w) (c : Chg N w w') (hB : B ≤ w.heap.size) (hN : ∀ k ∈ N, B ≤ k) : Below B w0 w' :=
 h.trans ⟨c.os, c.tape, c.output, c.size, fun k hk => c.block k J (fun hk' => by have := hN k hk'; omega)⟩
theorem Chg.drew {N : List Nat} (w : World) : Chg N w { w with drawn := w.drawn + 1 } := ⟨rfl, rfl, rfl, Nat.le_refl _, fun _ _ _ => rfl⟩
def Blk (w : World) (b : Nat) (cs : List Value) (t : TypeId) : Prop := w.heap[b]? = some (.cells cs.toArray t (0, 0))
theorem Blk.lt {w : World} {b : Nat} {cs : List Value} {t : TypeId} (h : Blk w b cs t) : b < w.heap.size := (Array.getElem?_eq_some_iff.1 h).1
theorem Blk.chg {w w' : World} {b : Nat} {cs : List Value} {t : TypeId} {N : List Nat} (h : Blk w b cs t) (c : Chg N w w') (hb : b ∉ N) : Blk w' b cs t := (c.block b h.lt hb).trans h
theorem Blk.keep {w w' : World} {b : Nat} {cs : List Value} {t : TypeId} (h : Blk w b cs t) (c : Chg [] w w') : Blk w' b cs t := h.chg c (by simp)
theorem Blk.cell {w : World} {b : Nat} {cs : List Value} {t : TypeId} (h : Blk w b cs t) (i : Nat) : w.cell? ⟨b, i, none⟩ = cs[i]? := by
 unfold Blk at h;simp [World.cell?, h]
theorem Blk.frozen {w : World} {b : Nat} {cs : List Value} {t : TypeId} (h : Blk w b cs t) (i : Nat) : w.frozen? ⟨b, i, none⟩ = false := by
 unfold Blk at h;simp [World.frozen?, h]
def upd (w : World) (b : Nat) (o : Obj) : World := { w with heap := w.heap.setIfInBounds b o }
theorem upd_chg (w : World) (b : Nat) (o : Obj) : Chg [b] w (upd w b o) :=
 ⟨rfl, rfl, rfl, by simp [upd], fun k _ hn => by
  simp only [List.mem_singleton] at hn;simp [upd, Array.getElem?_setIfInBounds_ne (Ne.symm hn)]⟩
theorem upd_blk {w : World} {b : Nat} {cs : List Value} {t : TypeId} (h : b < w.heap.size) : Blk (upd w b (.cells cs.toArray t (0, 0))) b cs t := by
 simp [Blk, upd, h]
theorem upd_size (w : World) (b : Nat) (o : Obj) : (upd w b o).heap.size = w.heap.size := by simp [upd]
theorem eA (w : World) (o : Obj) : Chg [] w (w.alloc o) :=
 ⟨rfl, rfl, rfl, by simp, fun k hk _ => Below.heap_alloc w o k hk⟩
theorem oE {w : World} {b i : Nat} {cs : List Value} {t : TypeId} (h : Blk w b cs t) (v : Value) : w.setCell ⟨b, i, none⟩ v = upd w b (.cells (cs.set i v).toArray t (0, 0)) := by
 unfold Blk at h;have hlt := (Array.getElem?_eq_some_iff.1 h).1;have hget := (Array.getElem?_eq_some_iff.1 h).2;unfold World.setCell upd
 congr 1
 apply Array.ext_getElem?;intro k;simp only [Array.getElem?_modify];by_cases hk : b = k
 ·subst hk;simp [hlt, hget]
 ·simp [hk, Array.getElem?_setIfInBounds_ne hk]
theorem fX (w : World) (cs : Array Value) (t : TypeId) : Blk (w.alloc (.cells cs t)) w.heap.size cs.toList t := by
 show (w.heap.push _)[w.heap.size]? = _
 simp
def dJ : Value → Bool
 | .agg _ | .tuple _ => false
 | _ => true
variable {P : Program} {T : Tab}
section
variable {ro : Cx} {n : Nat} {F : Fin} {k : List It} {ops : Array Oper} {l rest : List Oper} {e : Env} {w : World}
theorem one_run (hT : T.Ok P) {t : Nat} (h : has T.one t = true) (w : World) : (isAgg t).run P w = .ok false w ∧ (sizeOf t).run P w = .ok 1 w := by
 have h1 := hT.one _ h;simp only [oneB, Bool.and_eq_true] at h1;obtain ⟨ha, hb⟩ := h1;constructor
 ·split at ha <;> first | (cases ha; done) | (rename_i d hd1 hd2 hu; cases d <;> first | exact absurd rfl (hd1 _) | exact absurd rfl (hd2 _ _) | simp [isAgg, run_underlying hu])
 ·split at hb
  ·rename_i i hi
   have := Nat.eq_of_beq_eq_true hb;simp [sizeOf, typeInfo, hi, this]
  ·cases hb
theorem agg_run (hT : T.Ok P) {t m : Nat} (h : fS T.agg t = some m) (w : World) : (isAgg t).run P w = .ok true w ∧ (sizeOf t).run P w = .ok m w := by
 have h1 := hT.agg _ _ h;simp only [aggB, Bool.and_eq_true] at h1;obtain ⟨ha, hb⟩ := h1;constructor
 ·split at ha
  ·rename_i fs hu; simp [isAgg, run_underlying hu]
  ·rename_i a b hu; simp [isAgg, run_underlying hu]
  ·cases ha
 ·split at hb
  ·rename_i i hi
   have := Nat.eq_of_beq_eq_true hb;simp [sizeOf, typeInfo, hi, this]
  ·cases hb
theorem pD (hT : T.Ok P) {d t : Nat} {x : Operand} {ad : Addr} {v : Value} {ty : TypeId} {pos : String} {af : Array Edge}
  (hx : opv e x = some (.pointer (some ad))) (h1 : has T.one t = true) (hd : Nat.blt d n = true) (hc : w.cell? ad = some v)
  (h : YL P ro n F k ops rest ((d, v) :: e) w) : YL P ro n F k ops (⟨some d, .load t x, ty, pos, af, none⟩ :: rest) e w :=
 eV (by simp) hd (fun a hf => by
  have e1 := hf.op hx;obtain ⟨r1, _⟩ := one_run hT h1 w;simp only [execOp, e1];simp [Instr.loadAt, Instr.sureAddr, loadVar, r1, load, Sem.run, hc]) h
theorem fO (w : World) (ad : Addr) : ∀ (m i : Nat) (acc : Array Value) (cs : List Value), cs.length = m → (∀ j, j < m → w.cell? (ad.add (i + j)) = cs[j]?) →
  (loadCellsFrom ad i m acc).run P w = .ok (acc ++ cs.toArray) w
 | 0, i, acc, cs, hl, hc => by
  obtain rfl : cs = [] := by simpa using hl
  simp [loadCellsFrom]
 | m + 1, i, acc, cs, hl, hc => by
  cases cs with
  | nil => simp at hl
  | cons c cs =>
   have h0 := hc 0 J;simp at h0
   have ih := fO w ad m (i + 1) (acc.push c) cs (by simpa using hl) (fun j hj => by
    have := hc (j + 1) J;rw [show i + 1 + j = i + (j + 1) from by omega, this];simp)
   simp only [loadCellsFrom];simp [load, Sem.run, h0, ih]
theorem yl_loadA (hT : T.Ok P) {d t m : Nat} {x : Operand} {b off : Nat} {cs : List Value} {ty : TypeId} {pos : String} {af : Array Edge}
  (hx : opv e x = some (.pointer (some ⟨b, off, none⟩))) (h1 : fS T.agg t = some m) (hd : Nat.blt d n = true) (hl : cs.length = m) (hc : ∀ j, j < m → w.cell? ⟨b, off + j, none⟩ = cs[j]?)
  (h : YL P ro n F k ops rest ((d, .agg cs.toArray) :: e) w) : YL P ro n F k ops (⟨some d, .load t x, ty, pos, af, none⟩ :: rest) e w :=
 eV (by simp) hd (fun a hf => by
  have e1 := hf.op hx;obtain ⟨r1, r2⟩ := agg_run hT h1 w;have r3 := fO (P := P) w ⟨b, off, none⟩ m 0 #[] cs hl (fun j hj => by rw [Nat.zero_add, Addr.add_lit]; exact hc j hj);simp only [execOp, e1];simp [Instr.loadAt, Instr.sureAddr, loadVar, loadCells, r1, r2, r3]) h
theorem yl_box {d t : Nat} {x : Operand} {v : Value} {ty : TypeId} {pos : String} {af : Array Edge}
  (hx : opv e x = some v) (hd : Nat.blt d n = true)
  (h : ∀ w', Chg [] w w' → w'.heap.size = w.heap.size + 1 → Blk w' w.heap.size v.cells.toList t → YL P ro n F k ops rest ((d, aC0 w.heap.size) :: e) w') :
  YL P ro n F k ops (⟨some d, .box t x, ty, pos, af, none⟩ :: rest) e w :=
 eV (w' := w.alloc (.cells v.cells t)) (by simp) hd (fun a hf => by
  have e1 := hf.op hx;simp only [execOp, e1];simp [Instr.box, newVar, newRow, go_sem]) (h _ (eA _ _) (by simp) (fX _ _ _))
theorem yl_alloc {d t : Nat} {z : Value} {ty : TypeId} {pos : String} {af : Array Edge}
  (hz : (P.info? t).bind (·.zero) = some z) (hd : Nat.blt d n = true)
  (h : ∀ w', Chg [] w w' → w'.heap.size = w.heap.size + 1 → Blk w' w.heap.size z.cells.toList t → YL P ro n F k ops rest ((d, aC0 w.heap.size) :: e) w') :
  YL P ro n F k ops (⟨some d, .alloc t, ty, pos, af, none⟩ :: rest) e w :=
 eV (w' := w.alloc (.cells z.cells t)) (by simp) hd (fun a hf => by
  cases hi : P.info? t with
  | none => simp [hi] at hz
  | some i =>
   simp [hi] at hz;simp only [execOp];simp [Instr.alloc, zeroValue, typeInfo, hi, hz, newVar, newRow, go_sem]) (h _ (eA _ _) (by simp) (fX _ _ _))
theorem yl_store1 (hT : T.Ok P) {t : Nat} {x y : Operand} {b i : Nat} {cs : List Value} {bt : TypeId} {v : Value} {ty : TypeId} {pos : String} {af : Array Edge}
  (hx : opv e x = some (.pointer (some ⟨b, i, none⟩))) (hy : opv e y = some v) (h1 : has T.one t = true) (hv : dJ v = true) (hb : Blk w b cs bt) (hi : i < cs.length)
  (h : ∀ w', Chg [b] w w' → w'.heap.size = w.heap.size → Blk w' b (cs.set i v) bt → YL P ro n F k ops rest e w') :
  YL P ro n F k ops (⟨none, .store t x y, ty, pos, af, none⟩ :: rest) e w :=
 yl_do (w' := w.setCell ⟨b, i, none⟩ v) (by simp) (fun a hf => by
  have e1 := hf.op hx;have e2 := hf.op hy;obtain ⟨_, r2⟩ := one_run hT h1 w;have hc := hb.cell i;rw [List.getElem?_eq_getElem hi] at hc;have hfr := hb.frozen i;have hcells : v.cells = #[v] := by cases v <;> first | (simp [dJ] at hv; done) | rfl
  simp only [execOp, e1, e2];cases v <;> first | (simp [dJ] at hv; done) | simp [Instr.storeAt, Instr.sureAddr, storeVar, r2, hcells, storeCells, store, Sem.run, hc, hfr, Addr.add_zero']) (by
  rw [oE hb];exact h _ (upd_chg _ _ _) (upd_size _ _ _) (upd_blk hb.lt))
end
end Go.Eng
namespace Go.Eng
set_option maxRecDepth 4000
open Go Go.RowKit
def Rd (w : World) (lo hi : Nat) (v : Value) (size n : Nat) (cs : List Value) : Prop :=
 cs.length = n * size ∧ (((v = .slice none 0 0 ∨ ∃ a cap, v = .slice (some a) 0 cap) ∧ n = 0) ∨
  ∃ b off cap, v = .slice (some ⟨b, off, none⟩) n cap ∧ (0 < cs.length → lo ≤ b ∧ b < hi ∧ b < w.heap.size) ∧ ∀ j, j < cs.length → w.cell? ⟨b, off + j, none⟩ = cs[j]?)
theorem Rd.chg {w w' : World} {lo hi : Nat} {v : Value} {size n : Nat} {cs : List Value} {N : List Nat} (h : Rd w lo hi v size n cs) (c : Chg N w w') (hN : ∀ k ∈ N, k < lo ∨ hi ≤ k) : Rd w' lo hi v size n cs := by
 obtain ⟨h1, h2⟩ := h;refine ⟨h1, ?_⟩;rcases h2 with h2 | ⟨b, off, cap, hv, hb, hc⟩
 ·exact .inl h2
 ·refine .inr ⟨b, off, cap, hv, fun hp => ⟨(hb hp).1, (hb hp).2.1, Nat.lt_of_lt_of_le (hb hp).2.2 c.size⟩, fun j hj => ?_⟩;have hb' := hb J;have hbN : b ∉ N := fun hm => by have := hN b hm; omega
  rw [← hc j hj];exact World.cell?_of_block (w := w) (c.block b hb'.2.2 hbN)
theorem Rd.keep {w w' : World} {lo hi : Nat} {v : Value} {size n : Nat} {cs : List Value} (h : Rd w lo hi v size n cs) (c : Chg [] w w') : Rd w' lo hi v size n cs := h.chg c (by simp)
theorem Rd.below {w w' : World} {hi B : Nat} {lo : Nat} {v : Value} {size n : Nat} {cs : List Value} (h : Rd w lo hi v size n cs) (c : Below B w w') (hB : hi ≤ B) : Rd w' lo hi v size n cs := by
 obtain ⟨h1, h2⟩ := h;refine ⟨h1, ?_⟩;rcases h2 with h2 | ⟨b, off, cap, hv, hb, hc⟩
 ·exact .inl h2
 ·refine .inr ⟨b, off, cap, hv, fun hp => ⟨(hb hp).1, (hb hp).2.1, Nat.lt_of_lt_of_le (hb hp).2.2 c.size⟩, fun j hj => ?_⟩;have hb' := hb J;rw [← hc j hj];exact World.cell?_of_block (w := w) (c.block b J)
theorem Rd.wide {w : World} {lo hi lo' hi' : Nat} {v : Value} {size n : Nat} {cs : List Value} (h : Rd w lo hi v size n cs) (hl : lo' ≤ lo) (hh : hi ≤ hi') : Rd w lo' hi' v size n cs := by
 obtain ⟨h1, h2⟩ := h;refine ⟨h1, ?_⟩;rcases h2 with h2 | ⟨b, off, cap, hv, hb, hc⟩
 ·exact .inl h2
 ·exact .inr ⟨b, off, cap, hv, fun hp => ⟨by have := (hb hp).1; omega, by have := (hb hp).2.1; omega, (hb hp).2.2⟩, hc⟩
theorem Rd.out {w : World} {lo hi : Nat} {v : Value} {size n : Nat} {cs : List Value} (h : Rd w lo hi v size n cs) :
  ∃ a cap, v = .slice a n cap ∧ (0 < n → ∃ b off, a = some ⟨b, off, none⟩ ∧ ∀ j, j < cs.length → w.cell? ⟨b, off + j, none⟩ = cs[j]?) := by
 obtain ⟨_, ⟨rfl | ⟨a, cap, rfl⟩, rfl⟩ | ⟨b, off, cap, rfl, _, hc⟩⟩ := h
 ·exact ⟨none, 0, Z, fun h => absurd h J⟩
 ·exact ⟨_, cap, Z, fun h => absurd h J⟩
 ·exact ⟨_, cap, Z, fun _ => ⟨b, off, Z, hc⟩⟩
theorem own_rd {w : World} {base : Nat} {e : TypeId} {size : Nat} {v : Value} {n : Nat} {xs : List Value} (h : w.ownsRow base e size v n xs) : Rd w base w.heap.size v size n xs := by
 have hlen := h.1;refine ⟨hlen, ?_⟩;rcases h.2 with h2 | ⟨g, cap, cur, hv, hg, hh, hnc, hcm, hcs, ht⟩
 ·exact .inl ⟨.inl h2.1, h2.2⟩
 ·have hlt := (Array.getElem?_eq_some_iff.1 hh).1;subst hv;refine .inr ⟨g, 0, cap, Z, fun _ => ⟨hg, hlt, hlt⟩, fun j hj => ?_⟩;rw [Nat.zero_add];exact h.cellAt j J
theorem grown_chg {w w' : World} {v : Value} (h : w.grownBy w' v.ownBlock) : Chg v.ownBlock.toList w w' :=
 ⟨h.os, h.tape, h.output, h.size, fun k hk hn => h.block k hk (fun e => hn (by rw [← e]; simp))⟩
structure SlT (P : Program) (t e size bytes : Nat) (z : Value) : Prop where
 ht : P.underlying t = some (.slice e)
 hi : (P.info? e).map (fun i => (i.zero, i.size, i.bytes)) = some (some z, size, bytes)
 hzs : z.cells.size = size
 hsz : 0 < size
variable {P : Program} {T : Tab}
section
variable {ro : Cx} {n : Nat} {F : Fin} {k : List It} {ops : Array Oper} {l rest : List Oper} {e : Env} {w : World}
theorem nN (hT : T.Ok P) {d t et sz : Nat} {x ix : Operand} {b off len cap : Nat} {ik : IntKind} {i : Int} {ty : TypeId} {pos : String} {af : Array Edge}
  (hx : opv e x = some (.slice (some ⟨b, off, none⟩) len cap)) (hi : opv e ix = some (.int ik i)) (hs : fS T.esz t = some (et, sz)) (hsl : has T.len t = true) (hd : Nat.blt d n = true) (h0 : 0 ≤ i) (h1 : i < len)
  (h : YL P ro n F k ops rest ((d, .pointer (some ⟨b, off + i.toNat * sz, none⟩)) :: e) w) : YL P ro n F k ops (⟨some d, .indexAddr t x ix, ty, pos, af, none⟩ :: rest) e w :=
 eV (by simp) hd (fun a hf => by
  have e1 := hf.op hx;have e2 := hf.op hi;have hsz := hT.esz _ _ _ hs;have hl := hT.len _ hsl;simp only [eszB, Bool.and_eq_true] at hsz;simp only [lenB] at hl;obtain ⟨ha, hb⟩ := hsz;split at hl
  ·rename_i el hu
   rw [hu] at ha;have he := Nat.eq_of_beq_eq_true ha;subst he;split at hb
   ·rename_i inf hinf
    have hsz := Nat.eq_of_beq_eq_true hb;simp only [execOp, e1, e2];simp [Instr.indexAt, asIntOf, run_underlying hu, h0, h1, sizeOf, typeInfo, hinf, hsz, Addr.add_lit]
   ·cases hb
  ·cases hl) h
theorem yl_quo {d t t' : Nat} {x y : Operand} {kd : IntKind} {p q : Int} {ty : TypeId} {pos : String} {af : Array Edge}
  (hx : opv e x = some (.int kd p)) (hy : opv e y = some (.int kd q)) (hq : q ≠ 0) (hd : Nat.blt d n = true)
  (h : YL P ro n F k ops rest ((d, .int kd (kd.wrap (p.tdiv q))) :: e) w) : YL P ro n F k ops (⟨some d, .binOp .quo t x y t', ty, pos, af, none⟩ :: rest) e w :=
 eV (by simp) hd (fun a hf => by
  have e1 := hf.op hx;have e2 := hf.op hy;simp only [execOp, e1, e2];simp [eqGuard, binOp, Op.intDiv, hq]) h
theorem yl_rem {d t t' : Nat} {x y : Operand} {kd : IntKind} {p q : Int} {ty : TypeId} {pos : String} {af : Array Edge}
  (hx : opv e x = some (.int kd p)) (hy : opv e y = some (.int kd q)) (hq : q ≠ 0) (hd : Nat.blt d n = true)
  (h : YL P ro n F k ops rest ((d, .int kd (p.tmod q)) :: e) w) : YL P ro n F k ops (⟨some d, .binOp .rem t x y t', ty, pos, af, none⟩ :: rest) e w :=
 eV (by simp) hd (fun a hf => by
  have e1 := hf.op hx;have e2 := hf.op hy;simp only [execOp, e1, e2];simp [eqGuard, binOp, Op.intDiv, hq]) h
theorem yl_build {d t : Nat} {parts : List (Nat × Operand)} {v : Value} {us : List Value} {ty : TypeId} {pos : String} {af : Array Edge}
  (hp : oI e (parts.map (·.2)) = some us) (hb : ∀ w, (Instr.build t ((parts.map (·.1)).zip us).toArray).run P w = .ok v w) (hd : Nat.blt d n = true)
  (h : YL P ro n F k ops rest ((d, v) :: e) w) : YL P ro n F k ops (⟨some d, .build t parts.toArray, ty, pos, af, none⟩ :: rest) e w :=
 eV (by simp) hd (fun a hf => by
  have e1 := hf.ops hp
  have e2 : (parts.toArray.map fun (x : Nat × Operand) => (x.1, a.eval x.2)) = ((parts.map (·.1)).zip us).toArray := by
   rw [← e1];simp only [List.map_toArray]
   congr 1
   clear hp hb h e1
   induction parts with
   | nil => rfl
   | cons p ps ih => simp [ih]
  simp only [execOp];rw [e2];simp [hb w]) h
theorem yl_buildSlice {d t len et : Nat} {parts : List (Nat × Operand)} {cs : List Value} {us : List Value} {ty : TypeId} {pos : String} {af : Array Edge}
  (hp : oI e (parts.map (·.2)) = some us) (hb : ∀ w, (Instr.buildSlice t len ((parts.map (·.1)).zip us).toArray).run P w = .ok (aB9 w.heap.size len len) (w.alloc (.cells cs.toArray et))) (hd : Nat.blt d n = true)
  (h : ∀ w', Chg [] w w' → w'.heap.size = w.heap.size + 1 → Blk w' w.heap.size cs et → YL P ro n F k ops rest ((d, aB9 w.heap.size len len) :: e) w') : YL P ro n F k ops (⟨some d, .buildSlice t len parts.toArray, ty, pos, af, none⟩ :: rest) e w :=
 eV (by simp) hd (fun a hf => by
  have e1 := hf.ops hp
  have e2 : (parts.toArray.map fun (x : Nat × Operand) => (x.1, a.eval x.2)) = ((parts.map (·.1)).zip us).toArray := by
   rw [← e1];simp only [List.map_toArray]
   congr 1
   clear hp hb h e1
   induction parts with
   | nil => rfl
   | cons p ps ih => simp [ih]
  simp only [execOp];rw [e2];simp [hb w]) (h _ (eA _ _) (by simp) (fX _ _ _))
end
end Go.Eng
namespace Go.Eng
set_option maxRecDepth 4000
open Go Go.RowKit
def eff : Op → Bool
 | .call { callee := .builtin .len, .. } | .call { callee := .builtin .max, .. } | .call { callee := .builtin .min, .. } => false
 | .move _ | .assign _ | .pick _ _ _ | .load _ _ | .nilCheck _ | .binOp _ _ _ _ _ | .unOp _ _ _ | .convert _ _ _ | .makeFunc _ _ _ | .fieldAddr _ _ _ | .field _ _ _ | .indexAddr _ _ _ | .index _ _ _ | .lookup _ _ _ _ | .extract _ _ | .build _ _ | .slice _ _ _ _ _ => false
 | _ => true
def kindOk : Op → Bool
 | .select _ _ | .defer _ | .go _ => false
 | _ => true
def pA (ms : List Nat) (o : Oper) : Nat := o.after.toList.foldl (fun m e => bif Region.binds .any e then (m ||| (1 <<< e.on)) ||| ms.getD e.on 0 else m) 0
def iR : List Nat → List Oper → List Nat
 | ms, [] => ms
 | ms, o :: l => iR (ms ++ [pA ms o]) l
def dW (l : List Oper) : List Nat := iR [] l
def okPair (ops : Array Oper) (m i : Nat) (oi oj : Oper) : Bool := m.testBit i || (oi.apart ops oj && !(eff oi.op && eff oj.op))
def okBefore (ops : Array Oper) (m : Nat) (oj : Oper) : Nat → List Oper → Bool
 | _, [] => true
 | i, oi :: l => okPair ops m i oi oj && okBefore ops m oj (i + 1) l
def okAll (ops : Array Oper) (ms : List Nat) : Nat → List Oper → List Oper → Bool
 | _, _, [] => true
 | j, done, oj :: l => (kindOk oj.op && oj.after.all (fun e => !(Region.binds .any e) || Nat.blt e.on j)) && okBefore ops (ms.getD j 0) oj 0 done && okAll ops ms (j + 1) (done ++ [oj]) l
def flB (ops : Array Oper) : Bool := okAll ops (dW ops.toList) 0 [] ops.toList
structure FlOk (ops : Array Oper) : Prop where
 kind : ∀ (j : Nat) o, ops[j]? = some o → kindOk o.op = true
 back : ∀ (j : Nat) o, ops[j]? = some o → ∀ e ∈ o.after, Region.binds .any e = true → e.on < j
 pair : ∀ (i j : Nat) oi oj, i < j → ops[i]? = some oi → ops[j]? = some oj → ((dW ops.toList).getD j 0).testBit i = true ∨ (oi.apart ops oj = true ∧ (eff oi.op = true → eff oj.op = true → False))
theorem pH {ops : Array Oper} {m : Nat} {oj : Oper} : ∀ (l : List Oper) (i : Nat), okBefore ops m oj i l = true → ∀ (k : Nat) oi, l[k]? = some oi → okPair ops m (i + k) oi oj = true
 | [], _, _, k, oi, h => by simp at h
 | o :: l, i, hB, k, oi, h => by
  simp only [okBefore, Bool.and_eq_true] at hB;cases k with
  | zero => simp at h; subst h; exact hB.1
  | succ k =>
   have := pH l (i + 1) hB.2 k oi (by simpa using h)
   rwa [show i + 1 + k = i + (k + 1) from by omega] at this
theorem okAll_spec {ops : Array Oper} {ms : List Nat} : ∀ (l : List Oper) (j : Nat) (done : List Oper), done.length = j → okAll ops ms j done l = true →
  ∀ (k : Nat) oj, l[k]? = some oj → (kindOk oj.op && oj.after.all (fun e => !(Region.binds .any e) || Nat.blt e.on (j + k))) = true ∧ ∀ (i : Nat) oi, (done ++ l)[i]? = some oi → i < j + k → okPair ops (ms.getD (j + k) 0) i oi oj = true
 | [], _, _, _, _, k, oj, h => by simp at h
 | o :: l, j, done, hl, hB, k, oj, h => by
  simp only [okAll, Bool.and_eq_true] at hB;obtain ⟨⟨h1, h2⟩, h3⟩ := hB;cases k with
  | zero =>
   simp at h; subst h;refine ⟨by rw [Nat.add_zero, Bool.and_eq_true]; exact h1, fun i oi hi hlt => ?_⟩;have hi' : done[i]? = some oi := by rw [List.getElem?_append_left J] at hi; exact hi
   have := pH done 0 h2 i oi hi';simpa using this
  | succ k =>
   obtain ⟨e1, e2⟩ := okAll_spec l (j + 1) (done ++ [o]) (by simp [hl]) h3 k oj (by simpa using h);rw [show j + 1 + k = j + (k + 1) from by omega] at e1;refine ⟨e1, fun i oi hi hlt => ?_⟩;have := e2 i oi (by simpa using hi) J
   rwa [show j + 1 + k = j + (k + 1) from by omega] at this
theorem flB_spec {ops : Array Oper} (h : flB ops = true) : FlOk ops := by
 have h1 := okAll_spec ops.toList 0 [] rfl h;refine ⟨fun j o hj => ?_, fun j o hj e he hb => ?_, fun i j oi oj hlt hi hj => ?_⟩
 ·have := (h1 j o (by simpa using hj)).1;simp only [Bool.and_eq_true] at this;exact this.1
 ·have := (h1 j o (by simpa using hj)).1;simp only [Bool.and_eq_true] at this;have h2 := Array.all_eq_true_iff_forall_mem.1 this.2 e he;simpa [hb, Nat.blt_eq] using h2
 have h2 := (h1 j oj (by simpa using hj)).2 i oi (by simpa using hi) J;simp only [okPair, Bool.or_eq_true, Bool.and_eq_true, Bool.not_eq_true', Bool.and_eq_false_iff, Nat.zero_add] at h2;rcases h2 with h2 | ⟨h2, h3⟩
 ·exact .inl h2
 ·exact .inr ⟨h2, fun a b => by rcases h3 with h3 | h3 <;> simp_all⟩
theorem edgeMask_spec {ms : List Nat} {o : Oper} {D : Nat → Prop} (hD : ∀ e ∈ o.after, Region.binds .any e = true → D e.on ∧ ∀ i, (ms.getD e.on 0).testBit i = true → D i) :
  ∀ i, (pA ms o).testBit i = true → D i := by
 have key : ∀ (l : List Edge) (m : Nat), (∀ e ∈ l, Region.binds .any e = true → D e.on ∧ ∀ i, (ms.getD e.on 0).testBit i = true → D i) → (∀ i, m.testBit i = true → D i) →
   ∀ i, (l.foldl (fun m e => bif Region.binds .any e then (m ||| (1 <<< e.on)) ||| ms.getD e.on 0 else m) m).testBit i = true → D i := by
  intro l
  induction l with
  | nil => intro m _ hm i hi; exact hm i hi
  | cons e l ih =>
   intro m hl hm i hi;simp only [List.foldl_cons] at hi;refine ih _ (fun e' he' => hl e' (List.mem_cons_of_mem _ he')) ?_ i hi;intro i hi;cases hb : Region.binds .any e with
   | false => rw [hb] at hi; exact hm i hi
   | true =>
    rw [hb] at hi;obtain ⟨h1, h2⟩ := hl e List.mem_cons_self hb;simp only [cond_true, Nat.testBit_or, Bool.or_eq_true] at hi;rcases hi with (hi | hi) | hi
    ·exact hm i hi
    ·have : i = e.on := by
      rw [Nat.one_shiftLeft, Nat.testBit_two_pow] at hi;exact (by simpa using hi : e.on = i).symm
     subst this; exact h1
    ·exact h2 i hi
 intro i hi;exact key o.after.toList 0 (fun e he => hD e (by simpa using he)) (fun i hi => by simp at hi) i hi
theorem masksFrom_get (l : List Oper) : ∀ (ms : List Nat) (j : Nat), j < ms.length → (iR ms l).getD j 0 = ms.getD j 0 := by
 induction l with
 | nil => intro ms j _; rfl
 | cons o l ih =>
  intro ms j hj;simp only [iR];rw [ih _ _ (by simp; omega)];simp [List.getD_eq_getElem?_getD, List.getElem?_append_left hj]
theorem nD {ops : Array Oper} {D : Nat → Prop} (hcl : ∀ (m : Nat) o, ops[m]? = some o → D m → ∀ e ∈ o.after, Region.binds .any e = true → D e.on) :
  ∀ (j : Nat) o, ops[j]? = some o → (∀ e ∈ o.after, Region.binds .any e = true → D e.on) → ∀ i, ((dW ops.toList).getD j 0).testBit i = true → D i := by
 have key : ∀ (l : List Oper) (ms : List Nat), (∀ i, i < ms.length → D i → ∀ b, (ms.getD i 0).testBit b = true → D b) → (∀ (k : Nat) o, l[k]? = some o → ops[ms.length + k]? = some o) →
   ∀ (k : Nat) o, l[k]? = some o → (∀ e ∈ o.after, Region.binds .any e = true → D e.on) → ∀ i, ((iR ms l).getD (ms.length + k) 0).testBit i = true → D i := by
  intro l
  induction l with
  | nil => intro ms _ _ k o h; simp at h
  | cons o' l ih =>
   intro ms hms hl k o hk hre i hi
   have h0 : ∀ o, (∀ e ∈ o.after, Region.binds .any e = true → D e.on) → ∀ i, (pA ms o).testBit i = true → D i := by
    intro o hre;refine edgeMask_spec fun e he hb => ⟨hre e he hb, fun b hb' => ?_⟩
    by_cases hlt' : e.on < ms.length
    ·exact hms e.on hlt' (hre e he hb) b hb'
    ·rw [List.getD_eq_getElem?_getD, List.getElem?_eq_none J] at hb';simp at hb'
   cases k with
   | zero =>
    simp at hk; subst hk;simp only [iR, Nat.add_zero] at hi;rw [masksFrom_get l _ ms.length (by simp)] at hi;simp [List.getD_eq_getElem?_getD] at hi;exact h0 _ hre i hi
   | succ k =>
    simp only [iR] at hi;refine ih (ms ++ [pA ms o']) ?_ ?_ k o (by simpa using hk) hre i (by simpa [Nat.add_assoc, Nat.add_comm 1 k] using hi)
    ·intro i hi hDi b hb;by_cases hlt' : i < ms.length
     ·rw [List.getD_eq_getElem?_getD, List.getElem?_append_left hlt', ← List.getD_eq_getElem?_getD] at hb;exact hms i hlt' hDi b hb
     ·have : i = ms.length := by simp at hi; omega
      subst this;simp [List.getD_eq_getElem?_getD] at hb;have ho' := hl 0 o' (by simp);exact h0 o' (hcl _ _ (by simpa using ho') hDi) b hb
    ·intro k o hk;have := hl (k + 1) o (by simpa using hk);simpa [Nat.add_assoc, Nat.add_comm 1 k] using this
 intro j o hj hre i hi;have := key ops.toList [] (fun i hi => by simp at hi) (fun k o hk => by simpa using hk) j o (by simpa using hj) hre i (by simpa [dW] using hi);exact this
section
variable {P : Program} {ops : Array Oper} {C : World → Prop}
def RdOk (P : Program) (l : Nat) (f : FuncId) (tmps : Array Value) (assign body : Code) (w : World) (R : Value → World → Prop) : Prop :=
 ∀ r, RoundIn (FR r) 0 P l f tmps assign body w (fun e w' => ∃ v, e = .returned v ∧ R v w')
theorem RdOk.mono {l : Nat} {f : FuncId} {tmps : Array Value} {assign body : Code} {w : World} {R R' : Value → World → Prop} (h : RdOk P l f tmps assign body w R) (hr : ∀ v w', R v w' → R' v w') : RdOk P l f tmps assign body w R' :=
 fun r => (h r).mono fun _ _ ⟨v, he, hR⟩ => ⟨v, he, hr _ _ hR⟩
def bS (P : Program) (o : Oper) (a : Act) (w : World) (K : Value → World → Prop) : Prop :=
 match (execOp a.eval o).run P w with
 | .ok (.value v) w' => K v w'
 | .ok .skip w' => K undef w'
 | .ok (.enter f args) w' => Calls P f args w' fun e w'' => ∃ v, e = .returned v ∧ K v w''
 | .ok (.round l f tmps assign body) w' => RdOk P l f tmps assign body w' K
 | _ => False
theorem bS.mono {o : Oper} {a : Act} {w : World} {K K' : Value → World → Prop} (h : bS P o a w K) (hk : ∀ v w', K v w' → K' v w') : bS P o a w K' := by
 unfold bS at *;split <;> rename_i hr <;> simp only [hr] at h
 ·exact hk _ _ h
 ·exact hk _ _ h
 ·exact Calls.mono h fun _ _ ⟨v, he, hK⟩ => ⟨v, he, hk _ _ hK⟩
 ·exact RdOk.mono h hk
theorem bS.some {o : Oper} {a : Act} {w : World} {K : Value → World → Prop} (h : bS P o a w K) : ∃ v w', K v w' := by
 unfold bS at h;split at h
 ·exact ⟨_, _, h⟩
 ·exact ⟨_, _, h⟩
 ·obtain ⟨_, w', _, ⟨v, _, hK⟩, _⟩ := h [];exact ⟨v, w', hK⟩
 ·obtain ⟨_, w', ⟨v, _, hK⟩, _⟩ := (h none).2 default [] (by simp [Fence.room, Fence.wide]);exact ⟨v, w', hK⟩
 ·exact h.elim
theorem bS.wpIn {ro : Cx} {o : Oper} {a : Act} {w : World} {K : Act → World → Prop} {Q : Fin} (hk : kindOk o.op = true) (h : bS P o a w fun v w' => K (a.put o.dst v) w') : o.wpIn (FR ro.ro) 0 P a w K Q := by
 refine ⟨fun f _ => nZ f, ?_⟩;rw [Oper.semAt_eq _ _ _ (fun c hc => by rw [hc] at hk; cases hk)];unfold bS at h;generalize (execOp a.eval o).run P w = r at h;cases r with
 | halt x w' => exact h.elim
 | ok x w' =>
  cases x <;> first | exact h | (exact h.elim) | skip
  case enter f args =>
   refine ⟨fun hx => by simp [Fence.wide] at hx, nH (Calls.mono h ?_)⟩;rintro x w' ⟨v, rfl, hK⟩;exact hK
  case round l f tmps assign body =>
   refine ⟨fun hx => by simp [Fence.wide] at hx, RoundIn.mono (h ro.ro) ?_⟩;rintro x w' ⟨v, rfl, hK⟩;exact hK
def wpFl (P : Program) (ops : Array Oper) (C : World → Prop) (K : Act → World → Prop) : List Nat → Act → World → Prop
 | [], a, w => K a w
 | i :: rest, a, w => match ops[i]? with
  | none => wpFl P ops C K rest a w
  | some o => if Region.wanted o (yielded ops a.tmps) = true then
    (if eff o.op = true then bS P o a w (fun v w' => C w' ∧ wpFl P ops C K rest (a.put o.dst v) w')
     else ∃ v, (∀ w', C w' → (execOp a.eval o).run P w' = .ok (.value v) w') ∧ wpFl P ops C K rest (a.put o.dst v) w)
   else wpFl P ops C K rest (a.put o.dst undef) w
theorem dF {o : Oper} (hk : kindOk o.op = true) (a : Act) (dst : Option Tmp) (v : Value) (h : ∀ d, dst = some d → d ∉ o.looksAt ops) : execOp (a.put dst v).eval o = execOp a.eval o :=
 execOp_put o (fun cs b hc => by rw [hc] at hk; cases hk) a dst v h
variable {K : Act → World → Prop}
theorem fl_swap_quiet (hF : FlOk ops) {j : Nat} {oj : Oper} (hj : ops[j]? = some oj) (hne : eff oj.op = false) : ∀ (l1 l2 : List Nat) (a : Act) (w : World),
  (∀ i ∈ l1, ∀ oi, ops[i]? = some oi → oi.apart ops oj = true) → Region.wanted oj (yielded ops a.tmps) = true → C w → wpFl P ops C K (l1 ++ j :: l2) a w →
  ∃ v, (∀ w', C w' → (execOp a.eval oj).run P w' = .ok (.value v) w') ∧ wpFl P ops C K (l1 ++ l2) (a.put oj.dst v) w := by
 intro l1
 induction l1 with
 | nil =>
  intro l2 a w _ hw hC h;simp only [List.nil_append, wpFl, hj, hw, if_true, hne] at h;simpa using h
 | cons i l1 ih =>
  intro l2 a w hap hw hC h;have ih' := fun a w => ih l2 a w (fun i' hi' => hap i' (List.mem_cons_of_mem _ hi'))
  simp only [List.cons_append, wpFl] at h ⊢;cases hi : ops[i]? with
  | none => simp only [hi] at h ⊢; exact ih' a w hw hC h
  | some oi =>
   simp only [hi] at h ⊢;obtain ⟨p1, p2, p3⟩ := Oper.apart_spec (hap i List.mem_cons_self oi hi);have kj := hF.kind j oj hj;have ki := hF.kind i oi hi;have ej : ∀ (a : Act) v, execOp (a.put oi.dst v).eval oj = execOp a.eval oj := fun a v => dF kj a oi.dst v p1
   have ei : ∀ (a : Act) v, execOp (a.put oj.dst v).eval oi = execOp a.eval oi := fun a v => dF ki a oj.dst v p3
   have wj : ∀ (a : Act) v, Region.wanted oj (yielded ops (a.put oi.dst v).tmps) = Region.wanted oj (yielded ops a.tmps) := fun a v => wanted_put oj a oi.dst v p1
   have wi : ∀ (a : Act) v, Region.wanted oi (yielded ops (a.put oj.dst v).tmps) = Region.wanted oi (yielded ops a.tmps) := fun a v => wanted_put oi a oj.dst v p3
   have cm : ∀ (a : Act) u v, (a.put oi.dst u).put oj.dst v = (a.put oj.dst v).put oi.dst u := fun a u v => Act.put_comm a u v p2
   by_cases hwi : Region.wanted oi (yielded ops a.tmps) = true
   ·simp only [hwi, if_true] at h;by_cases he : eff oi.op = true
    ·simp only [he, if_true] at h;obtain ⟨v0, w0, hC0, h0⟩ := h.some;obtain ⟨v, hv, _⟩ := ih' _ w0 (by rw [wj]; exact hw) hC0 h0;simp only [ej] at hv;refine ⟨v, hv, ?_⟩;rw [wi];simp only [hwi, if_true, he]
     have h1 : bS P oi (a.put oj.dst v) w (fun u w' => C w' ∧ wpFl P ops C K (l1 ++ j :: l2) (a.put oi.dst u) w') := by
      unfold bS at h ⊢;rw [ei];exact h
     refine h1.mono fun u w' ⟨hC', h2⟩ => ⟨hC', ?_⟩;obtain ⟨v', hv', h3⟩ := ih' _ w' (by rw [wj]; exact hw) hC' h2
     simp only [ej] at hv';have e1 := hv w hC;have e2 := hv' w hC;rw [e1] at e2;have : v = v' := by simpa using e2
     subst this;rw [cm] at h3;exact h3
    ·simp only [he] at h;obtain ⟨u, hu, h⟩ := h;obtain ⟨v, hv, h3⟩ := ih' _ w (by rw [wj]; exact hw) hC h;simp only [ej] at hv;refine ⟨v, hv, ?_⟩;rw [wi];simp only [hwi, if_true, he];refine ⟨u, fun w' hC' => by rw [ei]; exact hu w' hC', ?_⟩;rw [cm] at h3;exact h3
   ·simp only [hwi] at h;obtain ⟨v, hv, h3⟩ := ih' _ w (by rw [wj]; exact hw) hC h;simp only [ej] at hv;refine ⟨v, hv, ?_⟩;rw [wi];simp only [hwi];rw [cm] at h3;exact h3
theorem fl_swap_skip (hF : FlOk ops) {j : Nat} {oj : Oper} (hj : ops[j]? = some oj) : ∀ (l1 l2 : List Nat) (a : Act) (w : World),
  (∀ i ∈ l1, ∀ oi, ops[i]? = some oi → oi.apart ops oj = true) → Region.wanted oj (yielded ops a.tmps) = false → wpFl P ops C K (l1 ++ j :: l2) a w → wpFl P ops C K (l1 ++ l2) (a.put oj.dst undef) w := by
 intro l1
 induction l1 with
 | nil =>
  intro l2 a w _ hw h;simp only [List.nil_append, wpFl, hj, hw] at h;simpa using h
 | cons i l1 ih =>
  intro l2 a w hap hw h;have ih' := fun a w => ih l2 a w (fun i' hi' => hap i' (List.mem_cons_of_mem _ hi'))
  simp only [List.cons_append, wpFl] at h ⊢;cases hi : ops[i]? with
  | none => simp only [hi] at h ⊢; exact ih' a w hw h
  | some oi =>
   simp only [hi] at h ⊢;obtain ⟨p1, p2, p3⟩ := Oper.apart_spec (hap i List.mem_cons_self oi hi);have ki := hF.kind i oi hi;have ei : ∀ (a : Act) v, execOp (a.put oj.dst v).eval oi = execOp a.eval oi := fun a v => dF ki a oj.dst v p3
   have wj : ∀ (a : Act) v, Region.wanted oj (yielded ops (a.put oi.dst v).tmps) = Region.wanted oj (yielded ops a.tmps) := fun a v => wanted_put oj a oi.dst v p1
   have wi : ∀ (a : Act) v, Region.wanted oi (yielded ops (a.put oj.dst v).tmps) = Region.wanted oi (yielded ops a.tmps) := fun a v => wanted_put oi a oj.dst v p3
   have cm : ∀ (a : Act) u v, (a.put oi.dst u).put oj.dst v = (a.put oj.dst v).put oi.dst u := fun a u v => Act.put_comm a u v p2
   rw [wi];by_cases hwi : Region.wanted oi (yielded ops a.tmps) = true
   ·simp only [hwi, if_true] at h ⊢;by_cases he : eff oi.op = true
    ·simp only [he, if_true] at h ⊢
     have h1 : bS P oi (a.put oj.dst undef) w (fun u w' => C w' ∧ wpFl P ops C K (l1 ++ j :: l2) (a.put oi.dst u) w') := by
      unfold bS at h ⊢;rw [ei];exact h
     refine h1.mono fun u w' ⟨hC', h2⟩ => ⟨hC', ?_⟩;have h3 := ih' _ w' (by rw [wj]; exact hw) h2
     rw [cm] at h3;exact h3
    ·simp only [he] at h ⊢;obtain ⟨u, hu, h⟩ := h;have h3 := ih' _ w (by rw [wj]; exact hw) h;refine ⟨u, fun w' hC' => by rw [ei]; exact hu w' hC', ?_⟩;rw [cm] at h3;exact h3
   ·simp only [hwi] at h ⊢;have h3 := ih' _ w (by rw [wj]; exact hw) h;rw [cm] at h3;exact h3
theorem fl_swap_eff (hF : FlOk ops) {j : Nat} {oj : Oper} (hj : ops[j]? = some oj) (he : eff oj.op = true) : ∀ (l1 l2 : List Nat) (a : Act) (w : World),
  (∀ i ∈ l1, ∀ oi, ops[i]? = some oi → oi.apart ops oj = true ∧ eff oi.op = false) → Region.wanted oj (yielded ops a.tmps) = true → wpFl P ops C K (l1 ++ j :: l2) a w →
  bS P oj a w (fun v w' => C w' ∧ wpFl P ops C K (l1 ++ l2) (a.put oj.dst v) w') := by
 intro l1
 induction l1 with
 | nil =>
  intro l2 a w _ hw h;simp only [List.nil_append, wpFl, hj, hw, if_true, he] at h;simpa using h
 | cons i l1 ih =>
  intro l2 a w hap hw h;have ih' := fun a w => ih l2 a w (fun i' hi' => hap i' (List.mem_cons_of_mem _ hi'))
  simp only [List.cons_append, wpFl] at h ⊢;cases hi : ops[i]? with
  | none => simp only [hi] at h ⊢; exact ih' a w hw h
  | some oi =>
   simp only [hi] at h ⊢;obtain ⟨hap', hei⟩ := hap i List.mem_cons_self oi hi;obtain ⟨p1, p2, p3⟩ := Oper.apart_spec hap';have kj := hF.kind j oj hj;have ki := hF.kind i oi hi;have ej : ∀ (a : Act) v, execOp (a.put oi.dst v).eval oj = execOp a.eval oj := fun a v => dF kj a oi.dst v p1
   have ei : ∀ (a : Act) v, execOp (a.put oj.dst v).eval oi = execOp a.eval oi := fun a v => dF ki a oj.dst v p3
   have wj : ∀ (a : Act) v, Region.wanted oj (yielded ops (a.put oi.dst v).tmps) = Region.wanted oj (yielded ops a.tmps) := fun a v => wanted_put oj a oi.dst v p1
   have wi : ∀ (a : Act) v, Region.wanted oi (yielded ops (a.put oj.dst v).tmps) = Region.wanted oi (yielded ops a.tmps) := fun a v => wanted_put oi a oj.dst v p3
   have cm : ∀ (a : Act) u v, (a.put oi.dst u).put oj.dst v = (a.put oj.dst v).put oi.dst u := fun a u v => Act.put_comm a u v p2
   by_cases hwi : Region.wanted oi (yielded ops a.tmps) = true
   ·simp only [hwi, if_true, hei] at h;simp only [Bool.false_eq_true, if_false] at h;obtain ⟨u, hu, h⟩ := h;have h3 := ih' _ w (by rw [wj]; exact hw) h
    have h4 : bS P oj a w (fun v w' => C w' ∧ wpFl P ops C K (l1 ++ l2) ((a.put oi.dst u).put oj.dst v) w') := by
     unfold bS at h3 ⊢;rw [ej] at h3;exact h3
    refine h4.mono fun v w' ⟨hC', h5⟩ => ⟨hC', ?_⟩;rw [wi]
    simp only [hwi, if_true, hei, Bool.false_eq_true, if_false];refine ⟨u, fun w' hC' => by rw [ei]; exact hu w' hC', ?_⟩;rw [cm] at h5;exact h5
   ·simp only [hwi] at h;simp only [Bool.false_eq_true, if_false] at h;have h3 := ih' _ w (by rw [wj]; exact hw) h
    have h4 : bS P oj a w (fun v w' => C w' ∧ wpFl P ops C K (l1 ++ l2) ((a.put oi.dst undef).put oj.dst v) w') := by
     unfold bS at h3 ⊢;rw [ej] at h3;exact h3
    refine h4.mono fun v w' ⟨hC', h5⟩ => ⟨hC', ?_⟩;rw [wi]
    simp only [hwi, Bool.false_eq_true, if_false];rw [cm] at h5;exact h5
variable {ro : Cx} {Q : Fin}
theorem any_of_fl (hF : FlOk ops) (hK : ∀ a w, C w → K a w → Q .normal a w) : ∀ (fuel : Nat) (R : List Nat) (listed : Array Bool) (a : Act) (w : World),
  R.length = fuel → listed.size = ops.size → R.Pairwise (· < ·) → (∀ i, i ∈ R ↔ i < ops.size ∧ listed.getD i true = false) →
  (∀ (m : Nat) o, ops[m]? = some o → listed.getD m false = true → ∀ e ∈ o.after, Region.binds .any e = true → listed.getD e.on false = true) →
  C w → wpFl P ops C K R a w → wpAnyIn (FR ro.ro) 0 P .any ops Q fuel listed a w := by
 intro fuel
 induction fuel with
 | zero =>
  intro R listed a w hl hsz hR hmem hcl hC h;have : R = [] := by simpa using hl
  subst this;refine ⟨?_, hK _ _ hC h⟩;refine List.eq_nil_iff_forall_not_mem.2 fun i hi => ?_
  obtain ⟨h0, o, ho, _⟩ := mem_ready.1 hi;exact absurd ((hmem i).2 ⟨(Array.getElem?_eq_some_iff.1 ho).1, h0⟩) (by simp)
 | succ fuel ih =>
  intro R listed a w hl hsz hR hmem hcl hC h;refine ⟨fun h0 => ?_, fun j hj => ?_⟩
  · -- nothing is ready: but the first of R waits for earlier ones alone, all of which are listed
   exfalso;cases R with
   | nil => simp at hl
   | cons i R =>
    obtain ⟨hi1, hi2⟩ := (hmem i).1 List.mem_cons_self
    have hrd : i ∈ Region.ready .any ops listed := by
     refine mem_ready.2 ⟨hi2, ops[i], Array.getElem?_eq_getElem hi1, fun e he hb => ?_⟩;have hlt := hF.back i _ (Array.getElem?_eq_getElem hi1) e he hb
     have hnot : e.on ∉ i :: R := by
      intro hx;rcases List.mem_cons.1 hx with hx | hx
      ·omega
      ·have := List.rel_of_pairwise_cons hR hx;omega
     have h3 : ¬ (e.on < ops.size ∧ listed.getD e.on true = false) := fun hx => hnot ((hmem _).2 hx)
     have h4 : e.on < listed.size := by omega
     simp only [Array.getD_eq_getD_getElem?, Array.getElem?_eq_getElem h4, Option.getD_some] at h3 ⊢;cases hc : listed[e.on] with
     | true => rfl
     | false => exact absurd ⟨by omega, hc⟩ h3
    rw [h0] at hrd;cases hrd
  ·obtain ⟨h0, oj, hoj, hre⟩ := mem_ready.1 hj;have hjR : j ∈ R := (hmem j).2 ⟨(Array.getElem?_eq_some_iff.1 hoj).1, h0⟩;obtain ⟨l1, l2, rfl⟩ := List.append_of_mem hjR;have hlt1 : ∀ i ∈ l1, i < j := fun i hi => (List.pairwise_append.1 hR).2.2 i hi j (by simp)
   have hjl : listed.getD j false = true → False := fun hx => by
    simp only [Array.getD_eq_getD_getElem?] at hx h0;cases hc : listed[j]? <;> simp [hc] at hx h0
    simp [hx] at h0
   have hun : ∀ i ∈ l1, ((dW ops.toList).getD j 0).testBit i = false := fun i hi => by
    cases hb : ((dW ops.toList).getD j 0).testBit i with
    | false => rfl
    | true =>
     have h1 := nD (D := fun m => listed.getD m false = true) (fun m o hm hD e he hb => hcl m o hm hD e he hb) j oj hoj (fun e he hb => hre e he hb) i hb;have h2 := ((hmem i).1 (by simp [hi])).2;simp only [Array.getD_eq_getD_getElem?] at h1 h2;cases hc : listed[i]? <;> simp [hc] at h1 h2
     simp [h1] at h2
   have hpair : ∀ i ∈ l1, ∀ oi, ops[i]? = some oi → oi.apart ops oj = true ∧ (eff oi.op = true → eff oj.op = true → False) := fun i hi oi hoi => by
    rcases hF.pair i j oi oj (hlt1 i hi) hoi hoj with h1 | h1
    ·rw [hun i hi] at h1; cases h1
    ·exact h1
   have next : ∀ a w, C w → wpFl P ops C K (l1 ++ l2) a w → wpAnyIn (FR ro.ro) 0 P .any ops Q fuel (listed.setIfInBounds j true) a w := by
    intro a w hC h;refine ih (l1 ++ l2) _ a w ?_ (by simp [hsz]) ?_ ?_ ?_ hC h
    ·simp at hl ⊢; omega
    ·exact hR.sublist (List.Sublist.append_left (List.sublist_cons_self _ _) _)
    ·intro i
     have hnd : j ∉ l1 ++ l2 := by
      intro hx;rcases List.mem_append.1 hx with hx | hx
      ·exact absurd (hlt1 j hx) J
      ·have := (List.pairwise_append.1 hR).2.1;have := List.rel_of_pairwise_cons this hx;omega
     constructor
     ·intro hi;have hne : j ≠ i := fun e => hnd (e ▸ hi)
      have h1 := (hmem i).1 (by rcases List.mem_append.1 hi with hi | hi <;> simp [hi]);exact ⟨h1.1, by rw [getD_set_ne true hne]; exact h1.2⟩
     ·rintro ⟨h1, h2⟩
      have hne : j ≠ i := fun e => by
       subst e;simp [hsz, h1] at h2
      rw [getD_set_ne true hne] at h2;have := (hmem i).2 ⟨h1, h2⟩;rcases List.mem_append.1 this with hx | hx
      ·exact List.mem_append.2 (.inl hx)
      ·rcases List.mem_cons.1 hx with hx | hx
       ·exact absurd hx.symm hne
       ·exact List.mem_append.2 (.inr hx)
    ·intro m o hm hD e he hb;by_cases hmj : j = m
     ·subst hmj;rw [hoj] at hm;obtain rfl := Option.some.inj hm;exact getD_set_true (hre e he hb)
     ·rw [getD_set_ne false hmj] at hD;exact getD_set_true (hcl m o hm hD e he hb)
   unfold wpOpIn;simp only [hoj];by_cases hw : Region.wanted oj (yielded ops a.tmps) = true
   ·simp only [hw, if_true];cases he : eff oj.op with
    | true =>
     have h1 := fl_swap_eff hF hoj he l1 l2 a w (fun i hi oi hoi => ⟨(hpair i hi oi hoi).1, by
      cases hx : eff oi.op with
      | false => rfl
      | true => exact ((hpair i hi oi hoi).2 hx he).elim⟩) hw h
     exact bS.wpIn (hF.kind j oj hoj) (h1.mono fun v w' ⟨hC', h2⟩ => next _ _ hC' h2)
    | false =>
     obtain ⟨v, hv, h2⟩ := fl_swap_quiet hF hoj he l1 l2 a w (fun i hi oi hoi => (hpair i hi oi hoi).1) hw hC h;exact upon_FR (fun c hc => by have := hF.kind j oj hoj; rw [hc] at this; cases this) (hv w hC) (next _ _ hC h2)
   ·have hw' : Region.wanted oj (yielded ops a.tmps) = false := by simpa using hw
    simp only [hw', Bool.false_eq_true, if_false];exact ⟨fun f _ => nZ f, next _ _ hC (fl_swap_skip hF hoj l1 l2 a w (fun i hi oi hoi => (hpair i hi oi hoi).1) hw' h)⟩
theorem wpIn_region_fl {id : Nat} {a : Act} {w : World} (hm : P.follows .mixedOrders = true) (hF : FlOk ops) (hC : C { w with drawn := w.drawn + 1 })
  (hK : ∀ a w, C w → K a w → Q .normal a w) (h : wpFl P ops C K (List.range ops.size) a { w with drawn := w.drawn + 1 }) : (Code.region id ops true).wpIn (FR ro.ro) 0 P Q a w := by
 refine wpIn_region_any hm (any_of_fl hF hK ops.size (List.range ops.size) _ a _ (by simp) (by simp) List.pairwise_lt_range ?_ ?_ hC h)
 ·intro i;simp only [List.mem_range];constructor
  ·intro hi;exact ⟨hi, by simp [hi]⟩
  ·exact fun hi => hi.1
 ·intro m o _ hD;simp only [Array.getD_eq_getD_getElem?, Array.getElem?_replicate] at hD;split at hD <;> simp at hD
end
section
variable {P : Program} {T : Tab} {ops : Array Oper} {C : World → Prop}
def gK (P : Program) (ops : Array Oper) (C : World → Prop) (K : Act → World → Prop) : List Oper → Act → World → Prop
 | [], a, w => K a w
 | o :: rest, a, w => if Region.wanted o (yielded ops a.tmps) = true then
    (if eff o.op = true then bS P o a w (fun v w' => C w' ∧ gK P ops C K rest (a.put o.dst v) w')
     else ∃ v, (∀ w', C w' → (execOp a.eval o).run P w' = .ok (.value v) w') ∧ gK P ops C K rest (a.put o.dst v) w)
   else gK P ops C K rest (a.put o.dst undef) w
theorem wpFl_eq {K : Act → World → Prop} (l : List Oper) : ∀ k, (∀ j, l[j]? = ops[k + j]?) → wpFl P ops C K (List.range' k l.length) = gK P ops C K l := by
 induction l with
 | nil => intro k _; funext a w; simp [wpFl, gK]
 | cons o l ih =>
  intro k h;have h0 : ops[k]? = some o := by simpa using (h 0).symm
  have ih' := ih (k + 1) (fun j => by have := h (j + 1); simpa [Nat.add_assoc, Nat.add_comm 1 j] using this)
  funext a w
  simp only [List.length_cons, List.range'_succ, wpFl, h0, gK, ih']
variable {ro : Cx} {n : Nat} {F : Fin} {k : List It} {l rest : List Oper} {e : Env} {w : World} {o : Oper}
def YF (P : Program) (ro : Cx) (n : Nat) (F : Fin) (k : List It) (ops : Array Oper) (C : World → Prop) (l : List Oper) (e : Env) (w : World) : Prop :=
 ∀ a, Fits n e a → a.defers = ro.ds → gK P ops C (fun a w => S P ro.ro F k .normal a w) l a w
theorem yf_nil (h : Y P ro n F k e w) : YF P ro n F k ops C [] e w := h
theorem gM {t : Nat} {v : Value} {op : Op} {ty : TypeId} {pos : String} {af : Array Edge} (he : eff op = false) (ht : Nat.blt t n = true)
  (hr : ∀ a, Fits n e a → ∀ w', C w' → (execOp a.eval ⟨some t, op, ty, pos, af, none⟩).run P w' = .ok (.value v) w') (h : YF P ro n F k ops C rest ((t, v) :: e) w) :
  YF P ro n F k ops C (⟨some t, op, ty, pos, af, none⟩ :: rest) e w := fun a hf hd => by
 simp only [gK, Region.wanted, if_true, he, Bool.false_eq_true, if_false];exact ⟨v, hr a hf, h _ (hf.put v ht) (by simpa [Act.put] using hd)⟩
theorem yf_pure (hT : T.Ok P) {t : Nat} {v : Value} {op : Op} {ty : TypeId} {pos : String} {af : Array Edge} (hv : evp T e op = some v) (he : eff op = false) (ht : Nat.blt t n = true)
  (h : YF P ro n F k ops C rest ((t, v) :: e) w) : YF P ro n F k ops C (⟨some t, op, ty, pos, af, none⟩ :: rest) e w :=
 gM he ht (fun _ hf w' _ => evp_run hT hf hv w') h
theorem yf_load1 (hT : T.Ok P) {d t : Nat} {x : Operand} {ad : Addr} {v : Value} {ty : TypeId} {pos : String} {af : Array Edge}
  (hx : opv e x = some (.pointer (some ad))) (h1 : has T.one t = true) (hd : Nat.blt d n = true) (hc : ∀ w', C w' → w'.cell? ad = some v)
  (h : YF P ro n F k ops C rest ((d, v) :: e) w) : YF P ro n F k ops C (⟨some d, .load t x, ty, pos, af, none⟩ :: rest) e w :=
 gM rfl hd (fun a hf w' hw' => by
  have e1 := hf.op hx;obtain ⟨r1, _⟩ := one_run hT h1 w';simp only [execOp, e1];simp [Instr.loadAt, Instr.sureAddr, loadVar, r1, load, Sem.run, hc w' hw']) h
theorem yf_loadA (hT : T.Ok P) {d t m : Nat} {x : Operand} {b off : Nat} {cs : List Value} {ty : TypeId} {pos : String} {af : Array Edge}
  (hx : opv e x = some (.pointer (some ⟨b, off, none⟩))) (h1 : fS T.agg t = some m) (hd : Nat.blt d n = true) (hl : cs.length = m) (hc : ∀ w', C w' → ∀ j, j < m → w'.cell? ⟨b, off + j, none⟩ = cs[j]?)
  (h : YF P ro n F k ops C rest ((d, .agg cs.toArray) :: e) w) : YF P ro n F k ops C (⟨some d, .load t x, ty, pos, af, none⟩ :: rest) e w :=
 gM rfl hd (fun a hf w' hw' => by
  have e1 := hf.op hx;obtain ⟨r1, r2⟩ := agg_run hT h1 w';have r3 := fO (P := P) w' ⟨b, off, none⟩ m 0 #[] cs hl (fun j hj => by rw [Nat.zero_add, Addr.add_lit]; exact hc w' hw' j hj);simp only [execOp, e1];simp [Instr.loadAt, Instr.sureAddr, loadVar, loadCells, r1, r2, r3]) h
theorem yf_index (hT : T.Ok P) {d t et sz : Nat} {x ix : Operand} {b off len cap : Nat} {ik : IntKind} {i : Int} {ty : TypeId} {pos : String} {af : Array Edge}
  (hx : opv e x = some (.slice (some ⟨b, off, none⟩) len cap)) (hi : opv e ix = some (.int ik i)) (hs : fS T.esz t = some (et, sz)) (hsl : has T.len t = true) (hd : Nat.blt d n = true) (h0 : 0 ≤ i) (h1 : i < len)
  (h : YF P ro n F k ops C rest ((d, .pointer (some ⟨b, off + i.toNat * sz, none⟩)) :: e) w) : YF P ro n F k ops C (⟨some d, .indexAddr t x ix, ty, pos, af, none⟩ :: rest) e w :=
 gM rfl hd (fun a hf w' _ => by
  have e1 := hf.op hx;have e2 := hf.op hi;have hsz := hT.esz _ _ _ hs;have hl := hT.len _ hsl;simp only [eszB, Bool.and_eq_true] at hsz;simp only [lenB] at hl;obtain ⟨ha, hb⟩ := hsz;split at hl
  ·rename_i el hu
   rw [hu] at ha;have he := Nat.eq_of_beq_eq_true ha;subst he;split at hb
   ·rename_i inf hinf
    have hsz := Nat.eq_of_beq_eq_true hb;simp only [execOp, e1, e2];simp [Instr.indexAt, asIntOf, run_underlying hu, h0, h1, sizeOf, typeInfo, hinf, hsz, Addr.add_lit]
   ·cases hb
  ·cases hl) h
theorem yf_quo {d t t' : Nat} {x y : Operand} {kd : IntKind} {p q : Int} {ty : TypeId} {pos : String} {af : Array Edge}
  (hx : opv e x = some (.int kd p)) (hy : opv e y = some (.int kd q)) (hq : q ≠ 0) (hd : Nat.blt d n = true)
  (h : YF P ro n F k ops C rest ((d, .int kd (kd.wrap (p.tdiv q))) :: e) w) : YF P ro n F k ops C (⟨some d, .binOp .quo t x y t', ty, pos, af, none⟩ :: rest) e w :=
 gM rfl hd (fun a hf w' _ => by
  have e1 := hf.op hx;have e2 := hf.op hy;simp only [execOp, e1, e2];simp [eqGuard, binOp, Op.intDiv, hq]) h
theorem yf_rem {d t t' : Nat} {x y : Operand} {kd : IntKind} {p q : Int} {ty : TypeId} {pos : String} {af : Array Edge}
  (hx : opv e x = some (.int kd p)) (hy : opv e y = some (.int kd q)) (hq : q ≠ 0) (hd : Nat.blt d n = true)
  (h : YF P ro n F k ops C rest ((d, .int kd (p.tmod q)) :: e) w) : YF P ro n F k ops C (⟨some d, .binOp .rem t x y t', ty, pos, af, none⟩ :: rest) e w :=
 gM rfl hd (fun a hf w' _ => by
  have e1 := hf.op hx;have e2 := hf.op hy;simp only [execOp, e1, e2];simp [eqGuard, binOp, Op.intDiv, hq]) h
theorem yf_build {d t : Nat} {parts : List (Nat × Operand)} {v : Value} {us : List Value} {ty : TypeId} {pos : String} {af : Array Edge}
  (hp : oI e (parts.map (·.2)) = some us) (hb : ∀ w, (Instr.build t ((parts.map (·.1)).zip us).toArray).run P w = .ok v w) (hd : Nat.blt d n = true)
  (h : YF P ro n F k ops C rest ((d, v) :: e) w) : YF P ro n F k ops C (⟨some d, .build t parts.toArray, ty, pos, af, none⟩ :: rest) e w :=
 gM rfl hd (fun a hf w' _ => by
  have e1 := hf.ops hp
  have e2 : (parts.toArray.map fun (x : Nat × Operand) => (x.1, a.eval x.2)) = ((parts.map (·.1)).zip us).toArray := by
   rw [← e1];simp only [List.map_toArray]
   congr 1
   clear hp hb h e1
   induction parts with
   | nil => rfl
   | cons p ps ih => simp [ih]
  simp only [execOp];rw [e2];simp [hb w']) h
theorem yf_guard_yes {dst : Option Nat} {op : Op} {ty : TypeId} {pos : String} {af : Array Edge} {j : Nat} {b : Bool} (hg : nU ops e j = some b)
  (h : YF P ro n F k ops C (⟨dst, op, ty, pos, af, none⟩ :: rest) e w) : YF P ro n F k ops C (⟨dst, op, ty, pos, af, some (j, b)⟩ :: rest) e w := fun a hf hd => by
 have h1 := h a hf hd;have hy := gY hf hg;simp only [gK, Region.wanted, if_true] at h1;simp only [gK, Region.wanted, hy, beq_self_eq_true, if_true];exact h1
theorem yf_guard_no {t : Nat} {op : Op} {ty : TypeId} {pos : String} {af : Array Edge} {j : Nat} {b c : Bool} (hg : nU ops e j = some c) (hne : (c == b) = false) (ht : Nat.blt t n = true)
  (h : YF P ro n F k ops C rest ((t, undef) :: e) w) : YF P ro n F k ops C (⟨some t, op, ty, pos, af, some (j, b)⟩ :: rest) e w := fun a hf hd => by
 have hy := gY hf hg;have hw : (some c == some b) = false := by simpa using hne
 simp only [gK, Region.wanted, hy, hw];exact h _ (hf.put undef ht) (by simpa [Act.put] using hd)
theorem yl_dec {t : Nat} {b : Bool} (hl : look e t = some (.bool b)) (hy : b = true → YL P ro n F k ops l ((t, .bool true) :: e) w) (hn : b = false → YL P ro n F k ops l ((t, .bool false) :: e) w) :
  YL P ro n F k ops l e w := fun a hf hd => by
 have key : ∀ c, b = c → Fits n ((t, .bool c) :: e) a := fun c hc => ⟨hf.size, fun s v hs => by
  subst hc;simp only [look] at hs;cases hb : Nat.beq t s with
  | true =>
   rw [hb] at hs;have := Nat.eq_of_beq_eq_true hb;subst this;simp at hs;subst hs;exact hf.at_ t _ hl
  | false => rw [hb] at hs; exact hf.at_ s v hs⟩
 cases hb : b with
 | true => exact hy hb a (key _ hb) hd
 | false => exact hn hb a (key _ hb) hd
def guardT (ops : Array Oper) (j : Nat) : Option Nat := (ops[j]?).bind (·.dst)
theorem yl_split {dst : Option Nat} {op : Op} {ty : TypeId} {pos : String} {af : Array Edge} {j t : Nat} {b c : Bool} (_hg : guardT ops j = some t) (hl : look e t = some (.bool b))
  (hy : b = true → YL P ro n F k ops (⟨dst, op, ty, pos, af, some (j, c)⟩ :: rest) ((t, .bool true) :: e) w) (hn : b = false → YL P ro n F k ops (⟨dst, op, ty, pos, af, some (j, c)⟩ :: rest) ((t, .bool false) :: e) w) :
  YL P ro n F k ops (⟨dst, op, ty, pos, af, some (j, c)⟩ :: rest) e w := yl_dec hl hy hn
theorem yf_eff {t : Nat} {v : Value} {w' : World} {op : Op} {ty : TypeId} {pos : String} {af : Array Edge} (he : eff op = true) (ht : Nat.blt t n = true)
  (hr : ∀ a, Fits n e a → (execOp a.eval ⟨some t, op, ty, pos, af, none⟩).run P w = .ok (.value v) w') (hC : C w') (h : YF P ro n F k ops C rest ((t, v) :: e) w') :
  YF P ro n F k ops C (⟨some t, op, ty, pos, af, none⟩ :: rest) e w := fun a hf hd => by
 simp only [gK, Region.wanted, if_true, he, bS, hr a hf];exact ⟨hC, h _ (hf.put v ht) (by simpa [Act.put] using hd)⟩
theorem yf_do {w' : World} {op : Op} {ty : TypeId} {pos : String} {af : Array Edge} (he : eff op = true)
  (hr : ∀ a, Fits n e a → (execOp a.eval ⟨none, op, ty, pos, af, none⟩).run P w = .ok .skip w') (hC : C w') (h : YF P ro n F k ops C rest e w') :
  YF P ro n F k ops C (⟨none, op, ty, pos, af, none⟩ :: rest) e w := fun a hf hd => by
 simp only [gK, Region.wanted, if_true, he, bS, hr a hf];exact ⟨hC, h _ hf hd⟩
theorem yf_call (hT : T.Ok P) {t : Nat} {f : Operand} {ars : List Operand} {tys : Array TypeId} {ty : TypeId} {pos : String} {af : Array Edge} {g : Nat} {first caps : Array Value} {vs : List Value} {R : Value → World → Prop}
  (hf : opv e f = some (.func (.func g) first caps)) (hg : has T.fn g = true) (has_ : oI e ars = some vs) (ht : Nat.blt t n = true)
  (hc : Ca P g (first.toList ++ vs ++ caps.toList) w R) (h : ∀ v w', R v w' → C w' ∧ YF P ro n F k ops C rest ((t, v) :: e) w') :
  YF P ro n F k ops C (⟨some t, .call { callee := .value f, args := ars.toArray, argTypes := tys }, ty, pos, af, none⟩ :: rest) e w := fun a hfit hd => by
 have e1 := hfit.op hf;have e2 := hfit.ops has_
 have hrun : (execOp a.eval ⟨some t, .call { callee := .value f, args := ars.toArray, argTypes := tys }, ty, pos, af, none⟩).run P w = .ok (.enter g (first.toList ++ vs ++ caps.toList).toArray) w := by
  simp only [execOp, resolve, List.map_toArray, e1, e2, Deferred.ofValue];simp [invoke, run_callFunc hT hg]
 have he : eff (.call { callee := .value f, args := ars.toArray, argTypes := tys }) = true := rfl;simp only [gK, Region.wanted, if_true, he, bS, hrun];refine Calls.mono hc ?_;rintro x w' ⟨v, rfl, hR⟩;obtain ⟨h1, h2⟩ := h v w' hR;exact ⟨v, Z, h1, h2 _ (hfit.put v ht) (by simpa [Act.put] using hd)⟩
theorem yf_alloc {d t : Nat} {z : Value} {ty : TypeId} {pos : String} {af : Array Edge}
  (hz : (P.info? t).bind (·.zero) = some z) (hd : Nat.blt d n = true)
  (h : ∀ w', Chg [] w w' → w'.heap.size = w.heap.size + 1 → Blk w' w.heap.size z.cells.toList t → C w' ∧ YF P ro n F k ops C rest ((d, aC0 w.heap.size) :: e) w') :
  YF P ro n F k ops C (⟨some d, .alloc t, ty, pos, af, none⟩ :: rest) e w := by
 obtain ⟨h1, h2⟩ := h _ (eA _ _) (by simp) (fX w z.cells t)
 exact yf_eff (w' := w.alloc (.cells z.cells t)) Z hd (fun a hf => by
  cases hi : P.info? t with
  | none => simp [hi] at hz
  | some i =>
   simp [hi] at hz;simp only [execOp];simp [Instr.alloc, zeroValue, typeInfo, hi, hz, newVar, newRow, go_sem]) h1 h2
theorem yf_store1 (hT : T.Ok P) {t : Nat} {x y : Operand} {b i : Nat} {cs : List Value} {bt : TypeId} {v : Value} {ty : TypeId} {pos : String} {af : Array Edge}
  (hx : opv e x = some (.pointer (some ⟨b, i, none⟩))) (hy : opv e y = some v) (h1 : has T.one t = true) (hv : dJ v = true) (hb : Blk w b cs bt) (hi : i < cs.length)
  (h : ∀ w', Chg [b] w w' → w'.heap.size = w.heap.size → Blk w' b (cs.set i v) bt → C w' ∧ YF P ro n F k ops C rest e w') :
  YF P ro n F k ops C (⟨none, .store t x y, ty, pos, af, none⟩ :: rest) e w := by
 obtain ⟨h3, h4⟩ := h (upd w b (.cells (cs.set i v).toArray bt (0, 0))) (upd_chg _ _ _) (upd_size _ _ _) (upd_blk hb.lt)
 exact yf_do Z (fun a hf => by
  have e1 := hf.op hx;have e2 := hf.op hy;obtain ⟨_, r2⟩ := one_run hT h1 w;have hc := hb.cell i;rw [List.getElem?_eq_getElem hi] at hc;have hfr := hb.frozen i;have hcells : v.cells = #[v] := by cases v <;> first | (simp [dJ] at hv; done) | rfl
  rw [← oE hb];simp only [execOp, e1, e2];cases v <;> first | (simp [dJ] at hv; done) | simp [Instr.storeAt, Instr.sureAddr, storeVar, r2, hcells, storeCells, store, Sem.run, hc, hfr, Addr.add_zero']) h3 h4
theorem y_if {c : Operand} {x y : Code} {p : Prop} [Decidable p] (hc : opv e c = some (.bool (decide p))) (ht : p → Y P ro n F (.code x :: k) e w) (hf : ¬p → Y P ro n F (.code y :: k) e w) :
  Y P ro n F (.code (.cond c x y) :: k) e w := pE hc (fun h => ht (of_decide_eq_true h)) (fun h => hf (of_decide_eq_false h))
theorem yl_loadB (hT : T.Ok P) {d t : Nat} {x : Operand} {b i : Nat} {cs : List Value} {bt : TypeId} {v : Value} {ty : TypeId} {pos : String} {af : Array Edge}
  (hx : opv e x = some (.pointer (some ⟨b, i, none⟩))) (h1 : has T.one t = true) (hd : Nat.blt d n = true) (hb : Blk w b cs bt) (hv : cs[i]? = some v)
  (h : YL P ro n F k ops rest ((d, v) :: e) w) : YL P ro n F k ops (⟨some d, .load t x, ty, pos, af, none⟩ :: rest) e w :=
 pD hT hx h1 hd ((hb.cell i).trans hv) h
theorem yl_loadAB (hT : T.Ok P) {d t m : Nat} {x : Operand} {b i : Nat} {cs us : List Value} {bt : TypeId} {ty : TypeId} {pos : String} {af : Array Edge}
  (hx : opv e x = some (.pointer (some ⟨b, i, none⟩))) (h1 : fS T.agg t = some m) (hd : Nat.blt d n = true) (hb : Blk w b cs bt) (hu : (cs.drop i).take m = us) (hl : us.length = m)
  (h : YL P ro n F k ops rest ((d, .agg us.toArray) :: e) w) : YL P ro n F k ops (⟨some d, .load t x, ty, pos, af, none⟩ :: rest) e w :=
 yl_loadA hT hx h1 hd hl (fun j hj => by
  rw [hb.cell, ← hu, List.getElem?_take, if_pos hj, List.getElem?_drop]) h
theorem Rd.cell {w : World} {lo hi : Nat} {b off cap m : Nat} {size : Nat} {cs : List Value} {v : Value} (h : Rd w lo hi v size m cs) (hv : v = .slice (some ⟨b, off, none⟩) m cap) (j : Nat) (hj : j < cs.length) : w.cell? ⟨b, off + j, none⟩ = cs[j]? := by
 obtain ⟨hl, ⟨rfl | ⟨a', cap', rfl⟩, _⟩ | ⟨b', off', cap', rfl, _, hc⟩⟩ := h
 ·cases hv
 ·cases hv
  rw [hl] at hj;omega
 ·cases hv
  exact hc j hj
end
end Go.Eng
namespace Go.Eng
set_option maxRecDepth 4000
open Go
theorem w64 {x : Int} (h1 : -9223372036854775808 ≤ x) (h2 : x < 9223372036854775808) : IntKind.i64.wrap x = x := by
 simp only [IntKind.wrap, IntKind.bits, IntKind.signed];simp;omega
end Go.Eng
namespace Go.Proofs.YtopdmadgkjdgcaaGreat
open Go Go.Eng
set_option maxRecDepth 4000
structure Hd where
 who : Int
 f : Int
 t : Int
deriving DecidableEq
def Hd.cov (h : Hd) (m : Int) : Bool := (decide (h.f ≤ m) && decide (m < h.t)) && true
theorem Hd.cov_iff {h : Hd} {m : Int} : h.cov m = true ↔ h.f ≤ m ∧ m < h.t := by simp [Hd.cov]
theorem Hd.cov_not {h : Hd} {m : Int} : h.cov m = false ↔ ¬ (h.f ≤ m ∧ m < h.t) := by rw [← Hd.cov_iff]; simp
def Gd (C : List Hd) (a b : Int) : Prop := ∀ m, a ≤ m → m < b → ∃ h ∈ C, h.cov m = true
theorem Gd.sub {C D : List Hd} {a b : Int} (h : Gd C a b) (hs : ∀ x ∈ C, x ∈ D) : Gd D a b := fun m h1 h2 => by
 obtain ⟨x, hx, hc⟩ := h m h1 h2;exact ⟨x, hs x hx, hc⟩
theorem Gd.part {C : List Hd} {a b c d : Int} (h : Gd C a b) (h1 : a ≤ c) (h2 : d ≤ b) : Gd C c d := fun m g1 g2 => h m J J
structure Mk (L : List Hd) (a b : Int) (ms : List Int) : Prop where
 bd : ∀ m ∈ ms, a ≤ m ∧ m < b
 inc : ms.Pairwise (· < ·)
 one : ms.Pairwise fun x y => ∀ h ∈ L, ¬ (h.cov x = true ∧ h.cov y = true)
theorem mk_le : ∀ (ms : List Int) (C : List Hd), (∀ m ∈ ms, ∃ h ∈ C, h.cov m = true) → ms.Pairwise (fun x y => ∀ h ∈ C, ¬ (h.cov x = true ∧ h.cov y = true)) → ms.length ≤ C.length
 | [], _, _, _ => Nat.zero_le _
 | m :: ms, C, h1, h2 => by
  obtain ⟨h, hC, hc⟩ := h1 m (.head _);rw [List.pairwise_cons] at h2
  have h3 := mk_le ms (C.erase h) (fun x hx => by
   obtain ⟨g, hg, hgc⟩ := h1 x (.tail _ hx);have hne : g ≠ h := fun e => h2.1 x hx h hC ⟨hc, e ▸ hgc⟩
   exact ⟨g, (List.mem_erase_of_ne hne).2 hg, hgc⟩) (h2.2.imp fun h g hg => h g (List.mem_of_mem_erase hg))
  have h4 := List.length_erase_of_mem hC;have h5 : 0 < C.length := List.length_pos_of_mem hC;rw [List.length_cons];omega
theorem Mk.le {L C : List Hd} {a b : Int} {ms : List Int} (h : Mk L a b ms) (hs : ∀ x ∈ C, x ∈ L) (hg : Gd C a b) : ms.length ≤ C.length :=
 mk_le ms C (fun m hm => hg m (h.bd m hm).1 (h.bd m hm).2) (h.one.imp fun h g hgc => h g (hs g hgc))
def hdL (L : List Hd) (i : Nat) : Hd := L.getD i ⟨0, 0, 0⟩
theorem hdL_mem {L : List Hd} {i : Nat} (h : i < L.length) : hdL L i ∈ L := by
 unfold hdL;rw [List.getD_eq_getElem?_getD, List.getElem?_eq_getElem h, Option.getD_some];exact List.getElem_mem h
theorem hdL_of_mem {L : List Hd} {h : Hd} (hm : h ∈ L) : ∃ i, i < L.length ∧ hdL L i = h := by
 obtain ⟨i, hi, rfl⟩ := List.mem_iff_getElem.1 hm;exact ⟨i, hi, by unfold hdL; rw [List.getD_eq_getElem?_getD, List.getElem?_eq_getElem hi, Option.getD_some]⟩
inductive Lk (L : List Hd) (b : Int) : Int → List Nat → List Int → Int → Prop
 | done {a : Int} : b ≤ a → Lk L b a [] [] b
 | gap {a : Int} : a < b → (∀ h ∈ L, h.cov a = false) → Lk L b a [] [] a
 | step {a e : Int} {i : Nat} {hs : List Nat} {ms : List Int} : a < b → i < L.length → (hdL L i).cov a = true → (∀ h ∈ L, h.cov a = true → h.t ≤ (hdL L i).t) → Lk L b (hdL L i).t hs ms e → Lk L b a (i :: hs) (a :: ms) e
section
variable {L : List Hd} {a b e : Int} {hs : List Nat} {ms : List Int}
theorem Lk.len (h : Lk L b a hs ms e) : hs.length = ms.length := by
 induction h with
 | done _ => rfl
 | gap _ _ => rfl
 | step _ _ _ _ _ ih => simp [ih]
theorem Lk.idx (h : Lk L b a hs ms e) : ∀ i ∈ hs, i < L.length := by
 induction h with
 | done _ => simp
 | gap _ _ => simp
 | step _ h1 _ _ _ ih => intro i hi; rcases List.mem_cons.1 hi with rfl | hi; exact h1; exact ih i hi
theorem Lk.sub (h : Lk L b a hs ms e) : ∀ x ∈ hs.map (hdL L), x ∈ L := fun x hx => by
 obtain ⟨i, hi, rfl⟩ := List.mem_map.1 hx;exact hdL_mem (h.idx i hi)
theorem Lk.le (h : Lk L b a hs ms e) : e ≤ b ∧ (a ≤ b → a ≤ e) := by
 induction h with
 | done h => exact ⟨Int.le_refl _, fun h => h⟩
 | gap h _ => exact ⟨by omega, fun _ => Int.le_refl _⟩
 | @step a e i hs ms h1 h2 h3 h4 h5 ih =>
  refine ⟨ih.1, fun _ => ?_⟩;rw [Hd.cov_iff] at h3;rcases Int.lt_or_le b (hdL L i).t with h | h
  ·cases h5 with
   | done _ => omega
   | gap _ _ => omega
   | step _ _ _ _ _ => omega
  ·have := ih.2 h;omega
theorem Lk.gd (h : Lk L b a hs ms e) : Gd (hs.map (hdL L)) a e := by
 induction h with
 | done h => exact fun m h1 h2 => by omega
 | gap h _ => exact fun m h1 h2 => by omega
 | @step a e i hs ms h1 h2 h3 h4 h5 ih =>
  intro m g1 g2;rw [Hd.cov_iff] at h3;by_cases g : m < (hdL L i).t
  ·exact ⟨hdL L i, List.mem_cons_self, Hd.cov_iff.2 ⟨by omega, g⟩⟩
  ·obtain ⟨x, hx, hc⟩ := ih m J g2;exact ⟨x, List.mem_cons_of_mem _ hx, hc⟩
theorem Lk.end (h : Lk L b a hs ms e) (he : e < b) : ∀ x ∈ L, x.cov e = false := by
 induction h with
 | done _ => omega
 | gap _ h => exact h
 | step _ _ _ _ _ ih => exact ih he
theorem Lk.lb (h : Lk L b a hs ms e) : ∀ m ∈ ms, a ≤ m ∧ m < b := by
 induction h with
 | done _ => simp
 | gap _ _ => simp
 | step h1 _ h3 _ _ ih =>
  intro m hm;rw [Hd.cov_iff] at h3;rcases List.mem_cons.1 hm with rfl | hm
  ·omega
  ·have := ih m hm;omega
theorem Lk.mk (h : Lk L b a hs ms e) : Mk L a b ms := by
 refine ⟨h.lb, ?_, ?_⟩
 ·induction h with
  | done _ => exact .nil
  | gap _ _ => exact .nil
  | step h1 _ h3 _ h5 ih =>
   rw [Hd.cov_iff] at h3;exact List.pairwise_cons.2 ⟨fun m hm => by have := h5.lb m hm; omega, ih⟩
 ·induction h with
  | done _ => exact .nil
  | gap _ _ => exact .nil
  | step h1 _ h3 h4 h5 ih =>
   refine List.pairwise_cons.2 ⟨fun m hm x hx ⟨g1, g2⟩ => ?_, ih⟩;have g3 := h4 x hx g1;have g4 := h5.lb m hm;rw [Hd.cov_iff] at g2;omega
theorem Lk.nodup (h : Lk L b a hs ms e) : hs.Nodup := by
 have key : ∀ {a hs ms e}, Lk L b a hs ms e → ∀ i ∈ hs, a < (hdL L i).t := by
  intro a hs ms e h
  induction h with
  | done _ => simp
  | gap _ _ => simp
  | step h1 _ h3 _ _ ih =>
   rw [Hd.cov_iff] at h3;intro i hi;rcases List.mem_cons.1 hi with rfl | hi
   ·exact h3.2
   ·have := ih i hi;omega
 induction h with
 | done _ => exact .nil
 | gap _ _ => exact .nil
 | step h1 _ h3 h4 h5 ih => exact List.nodup_cons.2 ⟨fun hm => by have := key h5 _ hm; omega, ih⟩
theorem Lk.full (h : Lk L b a hs ms e) (hab : a ≤ b) : e = b ↔ Gd L a b := by
 constructor
 ·rintro rfl;exact h.gd.sub h.sub
 ·intro hg;have h1 := h.le;refine Int.le_antisymm h1.1 (Int.not_lt.1 fun he => ?_);obtain ⟨x, hx, hc⟩ := hg e (h1.2 hab) he;rw [h.end he x hx] at hc;cases hc
theorem Lk.first (h : Lk L b a hs ms e) (hab : a ≤ b) (he : e < b) {g : Int} (g1 : a ≤ g) (g2 : g < b) (g3 : Gd L a g) (g4 : ∀ x ∈ L, x.cov g = false) : e = g := by
 have h1 := h.le.2 hab;rcases Int.lt_trichotomy e g with h2 | h2 | h2
 ·obtain ⟨x, hx, hc⟩ := g3 e h1 h2;rw [h.end he x hx] at hc;cases hc
 ·exact h2
 ·obtain ⟨x, hx, hc⟩ := (h.gd.sub h.sub) g g1 h2;rw [g4 x hx] at hc;cases hc
theorem Lk.min (h : Lk L b a hs ms e) {C : List Hd} (hs' : ∀ x ∈ C, x ∈ L) (hg : Gd C a b) : hs.length ≤ C.length := by
 rw [h.len];exact h.mk.le hs' hg
theorem Lk.split (h : Lk L b a hs ms e) (hb : e = b) {mid : Int} (h1 : a ≤ mid) (h2 : mid ≤ b) : ∃ c d : List Nat, (∀ i ∈ c, i ∈ hs) ∧ (∀ i ∈ d, i ∈ hs) ∧ Gd (c.map (hdL L)) a mid ∧ Gd (d.map (hdL L)) mid b ∧ c.length + d.length ≤ hs.length + 1 := by
 induction h with
 | done h => exact ⟨[], [], by simp, by simp, fun m g1 g2 => by omega, fun m g1 g2 => by omega, by simp⟩
 | gap h _ => omega
 | @step a e i hs ms g1 g2 g3 g4 g5 ih =>
  have hgd := g5.gd;rw [Hd.cov_iff] at g3;rcases Int.lt_or_le (hdL L i).t mid with g | g
  ·obtain ⟨c, d, c1, d1, c2, d2, hl⟩ := ih hb J;refine ⟨i :: c, d, fun x hx => ?_, fun x hx => .tail _ (d1 x hx), fun m k1 k2 => ?_, d2, by simp only [List.length_cons]; omega⟩
   ·rcases List.mem_cons.1 hx with rfl | hx
    ·exact .head _
    ·exact .tail _ (c1 x hx)
   ·by_cases k : m < (hdL L i).t
    ·exact ⟨hdL L i, List.mem_cons_self, Hd.cov_iff.2 ⟨by omega, k⟩⟩
    ·obtain ⟨x, hx, hc⟩ := c2 m J k2;exact ⟨x, List.mem_cons_of_mem _ hx, hc⟩
  ·refine ⟨[i], i :: hs, fun x hx => ?_, fun x hx => hx, fun m k1 k2 => ⟨hdL L i, by simp, Hd.cov_iff.2 ⟨by omega, by omega⟩⟩, fun m k1 k2 => ?_, by simp only [List.length_cons, List.length_nil]; omega⟩
   ·rw [List.mem_singleton.1 hx];exact .head _
   ·by_cases k : m < (hdL L i).t
    ·exact ⟨hdL L i, List.mem_cons_self, Hd.cov_iff.2 ⟨by omega, k⟩⟩
    ·obtain ⟨x, hx, hc⟩ := hgd m J J;exact ⟨x, List.mem_cons_of_mem _ hx, hc⟩
end
def Hd.back (h : Hd) : Hd := ⟨h.who, 10000 - h.t, 10000 - h.f⟩
theorem lk_mono {L R : List Hd} {a b c d : Int} {hs hs2 : List Nat} {ms ms2 : List Int} {e : Int} (h : Lk L b a hs ms b) (h2 : Lk R d c hs2 ms2 e) (h1 : a ≤ c) (h3 : d ≤ b) (hR : ∀ x ∈ L, x ∈ R) : hs2.length ≤ hs.length := by
 have h4 := h2.min (C := hs.map (hdL L)) (fun x hx => hR x (h.sub x hx)) (h.gd.part h1 h3);simpa using h4
def smF (f : Nat → Int) : Nat → Int
 | 0 => 0
 | n + 1 => smF f n + f n
theorem lF {f g : Nat → Int} : ∀ {n : Nat}, (∀ i, i < n → f i ≤ g i) → smF f n ≤ smF g n
 | 0, _ => Int.le_refl _
 | n + 1, h => by
  have h1 := lF (n := n) fun i hi => h i J
  have h2 := h n J;simp only [smF];omega
theorem kC {f g : Nat → Int} {n : Nat} (h : ∀ i, i < n → f i = g i) : smF f n = smF g n := Int.le_antisymm (lF fun i hi => by rw [h i hi]; exact Int.le_refl _) (lF fun i hi => by rw [h i hi]; exact Int.le_refl _)
theorem smF_add (f g : Nat → Int) : ∀ n : Nat, smF (fun i => f i + g i) n = smF f n + smF g n
 | 0 => rfl
 | n + 1 => by
  simp only [smF];rw [smF_add f g n];omega
theorem smF_mul (p : Int) (g : Nat → Int) : ∀ n : Nat, smF (fun i => p * g i) n = p * smF g n
 | 0 => by simp [smF]
 | n + 1 => by
  simp only [smF];rw [smF_mul p g n, Int.mul_add]
theorem smF_zero {f : Nat → Int} {n : Nat} (h : ∀ i, i < n → f i = 0) : smF f n = 0 := by
 rw [kC (g := fun _ => 0) h];clear h
 induction n with
 | zero => rfl
 | succ n ih => simp only [smF]; omega
theorem smF_nn {f : Nat → Int} {n : Nat} (h : ∀ i, i < n → 0 ≤ f i) : 0 ≤ smF f n := by
 have := lF (f := fun _ => 0) h
 rwa [smF_zero (f := fun _ => 0) fun _ _ => rfl] at this
theorem smF_one {f g : Nat → Int} {k : Nat} : ∀ {n : Nat}, k < n → (∀ i, i < n → i ≠ k → f i = g i) → smF f n = smF g n + (f k - g k)
 | 0, h, _ => absurd h J
 | n + 1, hk, h => by
  simp only [smF];by_cases e : k = n
  ·subst e;rw [kC (f := f) (g := g) fun i hi => h i J J];omega
  ·rw [smF_one (n := n) J fun i hi => h i J, h n J (fun h => e h.symm)];omega
def amA (A : List (List Int)) (i w : Nat) : Int := (A.getD i []).getD w 0
def amW (A : List (List Int)) (i : Nat) : Nat := (A.getD i []).length
structure AimOk (A : List (List Int)) : Prop where
 n1 : 1 ≤ A.length
 n8 : A.length ≤ 8
 row : ∀ i, i < A.length → 1 ≤ amW A i ∧ amW A i ≤ 21
 bd : ∀ i w, i < A.length → w < amW A i → 0 ≤ amA A i w ∧ amA A i w ≤ 1000
 dec : ∀ i w, i < A.length → w + 1 < amW A i → amA A i (w + 1) ≤ amA A i w
 cvx : ∀ i w, i < A.length → w + 2 < amW A i → amA A i (w + 1) - amA A i (w + 2) ≤ amA A i w - amA A i (w + 1)
def wtO (W : List Nat) (i : Nat) : Nat := W.getD i 0
def iH (A : List (List Int)) (W : List Nat) : Int := smF (fun i => amA A i (wtO W i)) A.length
def lG (W : List Nat) (n : Nat) : Int := smF (fun i => (wtO W i : Int)) n
structure WOk (A : List (List Int)) (W : List Nat) : Prop where
 len : W.length = A.length
 lt : ∀ i, i < A.length → wtO W i < amW A i
def incV (A : List (List Int)) (W : List Nat) (i : Nat) : Int := amA A i (wtO W i) - amA A i (wtO W i + 1)
def helpS (A : List (List Int)) (W : List Nat) : Nat → Int × Nat
 | 0 => (0, 0)
 | k + 1 => if wtO W k + 1 < amW A k ∧ (helpS A W k).1 < incV A W k then (incV A W k, k) else helpS A W k
theorem fR (A : List (List Int)) (W : List Nat) : ∀ k, 0 ≤ (helpS A W k).1 ∧ (∀ i, i < k → wtO W i + 1 < amW A i → incV A W i ≤ (helpS A W k).1) ∧ (0 < (helpS A W k).1 → (helpS A W k).2 < k ∧ wtO W (helpS A W k).2 + 1 < amW A (helpS A W k).2 ∧ incV A W (helpS A W k).2 = (helpS A W k).1)
 | 0 => ⟨Int.le_refl _, fun i hi => by omega, fun h => absurd h (by simp [helpS])⟩
 | k + 1 => by
  obtain ⟨h1, h2, h3⟩ := fR A W k;simp only [helpS];split
  ·rename_i hc
   refine ⟨by simp only; omega, fun i hi hw => ?_, fun _ => ⟨by simp only; omega, hc.1, Z⟩⟩;by_cases e : i = k
   ·subst e; exact Int.le_refl _
   ·have := h2 i J hw;simp only;omega
  ·rename_i hc
   refine ⟨h1, fun i hi hw => ?_, fun h => ?_⟩
   ·by_cases e : i = k
    ·subst e;exact Int.not_lt.1 fun h => hc ⟨hw, h⟩
    ·exact h2 i J hw
   ·obtain ⟨g1, g2, g3⟩ := h3 h;exact ⟨by omega, g2, g3⟩
def mostV (A : List (List Int)) (W : List Nat) : Int := (helpS A W A.length).1
def shotV (A : List (List Int)) (W : List Nat) : Nat := (helpS A W A.length).2
def stepW (A : List (List Int)) (W : List Nat) : List Nat := if mostV A W = 0 then W else W.set (shotV A W) (wtO W (shotV A W) + 1)
def wtsV (A : List (List Int)) : Nat → List Nat
 | 0 => List.replicate A.length 0
 | t + 1 => stepW A (wtsV A t)
theorem wtO_set {W : List Nat} {k : Nat} (hk : k < W.length) (x i : Nat) : wtO (W.set k x) i = if i = k then x else wtO W i := by
 unfold wtO;rw [List.getD_eq_getElem?_getD, List.getElem?_set, List.getD_eq_getElem?_getD];by_cases e : k = i
 ·subst e;simp [hk]
 ·rw [if_neg e, if_neg (fun h => e h.symm)]
structure GrI (A : List (List Int)) (t : Nat) (W : List Nat) : Prop where
 ok : WOk A W
 taken : ∀ i, i < A.length → 0 < wtO W i → mostV A W ≤ amA A i (wtO W i - 1) - amA A i (wtO W i)
 sum : 0 ≤ lG W A.length ∧ lG W A.length ≤ t
 all : lG W A.length < t → mostV A W = 0
section
variable {A : List (List Int)}
theorem step_most {W : List Nat} (h : AimOk A) (hW : WOk A W) : mostV A (stepW A W) ≤ mostV A W := by
 have hs := fR A W A.length;unfold stepW;split
 ·exact Int.le_refl _
 ·rename_i hm
  have h0 : 0 < (helpS A W A.length).1 := by have := hs.1; unfold mostV at hm; omega
  obtain ⟨g1, g2, g3⟩ := hs.2.2 h0;have hs2 := fR A (W.set (shotV A W) (wtO W (shotV A W) + 1)) A.length;refine Int.not_lt.1 fun hlt => ?_
  have h1 : 0 < (helpS A (W.set (shotV A W) (wtO W (shotV A W) + 1)) A.length).1 := by unfold mostV at hlt; omega
  obtain ⟨k1, k2, k3⟩ := hs2.2.2 h1;have e := wtO_set (W := W) (k := shotV A W) (by rw [hW.len]; exact g1) (wtO W (shotV A W) + 1);generalize (helpS A (W.set (shotV A W) (wtO W (shotV A W) + 1)) A.length).2 = j at *;unfold incV at k3;rw [e] at k2 k3;unfold mostV at hlt;rw [← k3] at hlt;by_cases ej : j = shotV A W
  ·rw [if_pos ej] at k2 k3 hlt;subst ej;have hc := h.cvx (shotV A W) (wtO W (shotV A W)) k1 J;have e2 : wtO W (shotV A W) + 1 + 1 = wtO W (shotV A W) + 2 := rfl;have g4 : amA A (shotV A W) (wtO W (shotV A W)) - amA A (shotV A W) (wtO W (shotV A W) + 1) = mostV A W := g3;rw [e2] at hlt k3;have g5 : mostV A W = (helpS A W A.length).1 := rfl;omega
  ·rw [if_neg ej] at k2 k3 hlt;have h2 := hs.2.1 j k1 k2;unfold incV at h2;omega
theorem gP (h : AimOk A) : ∀ t, GrI A t (wtsV A t)
 | 0 => by
  have h0 : ∀ i, wtO (List.replicate A.length 0) i = 0 := fun i => by
   unfold wtO;rw [List.getD_eq_getElem?_getD, List.getElem?_replicate];split <;> rfl
  have hs : lG (List.replicate A.length 0) A.length = 0 := smF_zero fun i _ => by rw [h0]; rfl
  refine ⟨⟨List.length_replicate, fun i hi => ?_⟩, fun i hi hp => ?_, ?_, ?_⟩
  ·show wtO (List.replicate A.length 0) i < _
   rw [h0];have := (h.row i hi).1;omega
  ·exfalso;have h1 := h0 i;unfold wtsV at hp;omega
  ·show 0 ≤ lG (List.replicate A.length 0) A.length ∧ lG (List.replicate A.length 0) A.length ≤ _
   omega
  ·intro hh;unfold wtsV at hh;omega
 | t + 1 => by
  have ih := gP h t;have hmn := step_most h ih.ok
  show GrI A (t + 1) (stepW A (wtsV A t))
  generalize wtsV A t = W at *;have hs := fR A W A.length;unfold stepW at *;split at hmn
  ·rename_i hm
   rw [if_pos hm];exact ⟨ih.ok, ih.taken, ⟨ih.sum.1, by have := ih.sum.2; omega⟩, fun _ => hm⟩
  ·rename_i hm
   rw [if_neg hm];have h0 : 0 < (helpS A W A.length).1 := by have := hs.1; unfold mostV at hm; omega
   obtain ⟨g1, g2, g3⟩ := hs.2.2 h0;have hfull : ¬ lG W A.length < t := fun hh => hm (ih.all hh)
   have e := wtO_set (W := W) (k := shotV A W) (by rw [ih.ok.len]; exact g1) (wtO W (shotV A W) + 1)
   have hsum : lG (W.set (shotV A W) (wtO W (shotV A W) + 1)) A.length = lG W A.length + 1 := by
    unfold lG;rw [smF_one (k := shotV A W) (g := fun i => (wtO W i : Int)) g1 fun i hi hne => by rw [e, if_neg hne]];rw [e, if_pos rfl];omega
   refine ⟨⟨by rw [List.length_set]; exact ih.ok.len, fun i hi => ?_⟩, fun i hi hp => ?_, ?_, ?_⟩
   ·rw [e];split
    ·rename_i he
     subst he;exact g2
    ·exact ih.ok.lt i hi
   ·refine Int.le_trans hmn ?_;rw [e] at hp ⊢;by_cases he : i = shotV A W
    ·rw [if_pos he];subst he;rw [Nat.add_sub_cancel];unfold incV shotV at *;unfold mostV;omega
    ·rw [if_neg he] at hp ⊢;exact ih.taken i hi hp
   ·rw [hsum];have := ih.sum;omega
   ·intro hh;rw [hsum] at hh;omega
theorem cvx_mono (h : AimOk A) {i : Nat} (hi : i < A.length) {u : Nat} : ∀ d, u + d + 1 < amW A i → amA A i (u + d) - amA A i (u + d + 1) ≤ amA A i u - amA A i (u + 1)
 | 0, _ => Int.le_refl _
 | d + 1, hd => by
  have h1 := cvx_mono h hi (u := u) d J;have h2 := h.cvx i (u + d) hi J;rw [show u + d + 2 = u + d + 1 + 1 from rfl] at h2;rw [show u + (d + 1) = u + d + 1 from rfl];omega
def HoldsV (A : List (List Int)) (W : List Nat) (p : Int) : Prop := ∀ i, i < A.length → ∀ v, v < amW A i → amA A i (wtO W i) + p * wtO W i ≤ amA A i v + p * v
theorem holds_of (h : AimOk A) {W : List Nat} (hW : WOk A W) {p : Int} (h1 : ∀ i, i < A.length → 0 < wtO W i → p ≤ amA A i (wtO W i - 1) - amA A i (wtO W i)) (h2 : ∀ i, i < A.length → wtO W i + 1 < amW A i → incV A W i ≤ p) : HoldsV A W p := by
 intro i hi v hv;have hw := hW.lt i hi;rcases Nat.lt_or_ge v (wtO W i) with hlt | hge
 ·have key : ∀ d, d ≤ wtO W i → p * d ≤ amA A i (wtO W i - d) - amA A i (wtO W i) := by
   intro d
   induction d with
   | zero => intro _; simp
   | succ d ih =>
    intro hd;have g1 := ih J;have g2 := cvx_mono h hi (u := wtO W i - (d + 1)) d J;have g3 := h1 i hi J;rw [show wtO W i - (d + 1) + d = wtO W i - 1 from by omega, show wtO W i - 1 + 1 = wtO W i from by omega, show wtO W i - (d + 1) + 1 = wtO W i - d from by omega] at g2;rw [Int.natCast_succ, Int.mul_add, Int.mul_one];omega
  have k := key (wtO W i - v) J;rw [show wtO W i - (wtO W i - v) = v from by omega, Int.natCast_sub J, Int.mul_sub] at k;omega
 ·have key : ∀ d, wtO W i + d < amW A i → amA A i (wtO W i) - amA A i (wtO W i + d) ≤ p * d := by
   intro d
   induction d with
   | zero => intro _; simp
   | succ d ih =>
    intro hd;have g1 := ih J;have g2 := cvx_mono h hi (u := wtO W i) d J;have g3 := h2 i hi J;unfold incV at g3;rw [Int.natCast_succ, Int.mul_add, Int.mul_one, show wtO W i + (d + 1) = wtO W i + d + 1 from rfl];omega
  have k := key (v - wtO W i) J;rw [show wtO W i + (v - wtO W i) = v from by omega, Int.natCast_sub hge, Int.mul_sub] at k;omega
theorem gr_holds (h : AimOk A) (t : Nat) : HoldsV A (wtsV A t) (mostV A (wtsV A t)) :=
 holds_of h (gP h t).ok (gP h t).taken fun i hi hw => (fR A (wtsV A t) A.length).2.1 i hi hw
theorem most_nn (A : List (List Int)) (W : List Nat) : 0 ≤ mostV A W := (fR A W A.length).1
theorem holds_le {W V : List Nat} {p : Int} (h : HoldsV A W p) (hV : WOk A V) : iH A W + p * lG W A.length ≤ iH A V + p * lG V A.length := by
 unfold iH lG;rw [← smF_mul, ← smF_mul, ← smF_add, ← smF_add];exact lF fun i hi => h i hi _ (hV.lt i hi)
theorem holds_best {W V : List Nat} {p : Int} (h : HoldsV A W p) (hp : 0 ≤ p) (hV : WOk A V) (hs : lG V A.length ≤ lG W A.length) : iH A W ≤ iH A V := by
 have h1 := holds_le h hV;have h2 := Int.mul_le_mul_of_nonneg_left hs hp;omega
def cvV (A : List (List Int)) (t : Nat) : Int := iH A (wtsV A t)
theorem cv_best (h : AimOk A) {t : Nat} {V : List Nat} (hV : WOk A V) (hs : lG V A.length ≤ t) : cvV A t ≤ iH A V := by
 have hg := gP h t;have hh := gr_holds h t;by_cases hm : mostV A (wtsV A t) = 0
 ·rw [hm] at hh;have := holds_le hh hV;unfold cvV;omega
 ·have h1 : ¬ lG (wtsV A t) A.length < t := fun h => hm (hg.all h)
  exact holds_best hh (most_nn _ _) hV J
theorem cv_next (h : AimOk A) (t : Nat) : cvV A t - cvV A (t + 1) = mostV A (wtsV A t) := by
 have hg := gP h t;have hs := fR A (wtsV A t) A.length;unfold cvV
 show _ - iH A (stepW A (wtsV A t)) = _
 unfold stepW;split
 ·rename_i hm
  rw [hm];omega
 ·rename_i hm
  have h0 : 0 < (helpS A (wtsV A t) A.length).1 := by have := hs.1; unfold mostV at hm; omega
  obtain ⟨g1, g2, g3⟩ := hs.2.2 h0;have e := wtO_set (W := wtsV A t) (k := shotV A (wtsV A t)) (by rw [hg.ok.len]; exact g1) (wtO (wtsV A t) (shotV A (wtsV A t)) + 1);unfold iH;rw [smF_one (f := fun i => amA A i (wtO ((wtsV A t).set (shotV A (wtsV A t)) (wtO (wtsV A t) (shotV A (wtsV A t)) + 1)) i)) (g := fun i => amA A i (wtO (wtsV A t) i)) (k := shotV A (wtsV A t)) g1 fun i hi hne => by rw [e, if_neg hne]];rw [e, if_pos rfl];unfold mostV;unfold incV at g3;unfold shotV;omega
theorem most_anti (h : AimOk A) (t : Nat) : mostV A (wtsV A (t + 1)) ≤ mostV A (wtsV A t) := step_most h (gP h t).ok
theorem cv_mono (h : AimOk A) {s : Nat} : ∀ d, cvV A (s + d) ≤ cvV A s
 | 0 => Int.le_refl _
 | d + 1 => by
  have h1 := cv_mono h (s := s) d;have h2 := cv_next h (s + d);have h3 := most_nn A (wtsV A (s + d));rw [show s + (d + 1) = s + d + 1 from rfl];omega
theorem cv_le (h : AimOk A) {s t : Nat} (hs : s ≤ t) : cvV A t ≤ cvV A s := by
 have := cv_mono h (s := s) (t - s)
 rwa [show s + (t - s) = t from by omega] at this
def manyV (A : List (List Int)) : Int := smF (fun i => (amW A i : Int) - 1) A.length
theorem many_nn (h : AimOk A) : 0 ≤ manyV A := smF_nn fun i hi => by have := (h.row i hi).1; omega
theorem sum_many {V : List Nat} (hV : WOk A V) : lG V A.length ≤ manyV A := lF fun i hi => by have := hV.lt i hi; omega
theorem sum_nn (V : List Nat) (n : Nat) : 0 ≤ lG V n := smF_nn fun i _ => by omega
theorem cv_many (h : AimOk A) {t : Nat} (ht : manyV A ≤ t) : cvV A t = cvV A (manyV A).toNat := by
 have h0 := many_nn h;refine Int.le_antisymm (cv_le h J) (cv_best h (gP h t).ok ?_);have := sum_many (gP h t).ok;omega
theorem most_many (h : AimOk A) {t : Nat} (ht : manyV A ≤ t) : mostV A (wtsV A t) = 0 := by
 rw [← cv_next h t, cv_many h ht, cv_many h (t := t + 1) J];omega
theorem miss_bd (h : AimOk A) {W : List Nat} (hW : WOk A W) : 0 ≤ iH A W ∧ iH A W ≤ 1000 * A.length := by
 refine ⟨smF_nn fun i hi => (h.bd i _ hi (hW.lt i hi)).1, ?_⟩;have h1 : iH A W ≤ smF (fun _ => 1000 * 1) A.length := lF fun i hi => by have := (h.bd i _ hi (hW.lt i hi)).2; omega
 rw [smF_mul 1000 fun _ => 1] at h1
 have h2 : ∀ n : Nat, smF (fun _ => (1 : Int)) n = n := fun n => by
  induction n with
  | zero => rfl
  | succ n ih => simp only [smF]; omega
 rw [h2] at h1;exact h1
end
theorem getD_app2 {α : Type} {l m : List α} {d : α} {i : Nat} (h : l.length ≤ i) : (l ++ m).getD i d = m.getD (i - l.length) d := by
 rw [List.getD_eq_getElem?_getD, List.getElem?_append_right h, List.getD_eq_getElem?_getD]
section
variable {A B : List (List Int)}
end
structure Sc where
 err : Int
 least : Int
 tests : List (Int × Int)
 rifles : List Int
def Sc.rif (s : Sc) (i : Nat) : Int := s.rifles.getD i 0
def gB (s : Sc) (t : Int × Int) : Int × Int := (max (-1000) (t.2 - t.1 - s.err), min 1000 (t.2 - t.1 + s.err))
def lQ (a b : Int × Int) : Int × Int := (max a.1 b.1, min a.2 b.2)
def offL (s : Sc) (l : List (Int × Int)) : Int × Int := l.foldl (fun a t => lQ a (gB s t)) (-1000, 1000)
def dS (s : Sc) : Int × Int := offL s s.tests
structure Sc.Ok (s : Sc) : Prop where
 tn : s.tests.length ≤ 10
 rn1 : 1 ≤ s.rifles.length
 rn8 : s.rifles.length ≤ 8
 err : 0 ≤ s.err ∧ s.err ≤ 100
 least : 1 ≤ s.least ∧ s.least ≤ 10000
 test : ∀ t ∈ s.tests, (1 ≤ t.1 ∧ t.1 ≤ 10000) ∧ 0 ≤ t.2 ∧ t.2 ≤ 20000
 rifle : ∀ n ∈ s.rifles, 0 ≤ n ∧ n ≤ 20000
theorem Sc.Ok.rif {s : Sc} (h : s.Ok) {i : Nat} (hi : i < s.rifles.length) : 0 ≤ s.rif i ∧ s.rif i ≤ 20000 := by
 unfold Sc.rif;rw [List.getD_eq_getElem?_getD, List.getElem?_eq_getElem hi, Option.getD_some];exact h.rifle _ (List.getElem_mem hi)
theorem offL_bd (s : Sc) : ∀ (l : List (Int × Int)) (a : Int × Int), a.1 ≤ (l.foldl (fun a t => lQ a (gB s t)) a).1 ∧ (l.foldl (fun a t => lQ a (gB s t)) a).2 ≤ a.2
 | [], a => ⟨Int.le_refl _, Int.le_refl _⟩
 | t :: l, a => by
  have h := offL_bd s l (lQ a (gB s t));simp only [List.foldl_cons];simp only [lQ] at h ⊢;omega
theorem off_bd (s : Sc) : -1000 ≤ (dS s).1 ∧ (dS s).2 ≤ 1000 := offL_bd s s.tests (-1000, 1000)
def alwP (s : Sc) (t : Int × Int) (o : Int) : Prop := (-1000 ≤ o ∧ o ≤ 1000) ∧ -s.err ≤ t.2 - t.1 - o ∧ t.2 - t.1 - o ≤ s.err
theorem alw_iff {s : Sc} {t : Int × Int} {o : Int} : ((gB s t).1 ≤ o ∧ o ≤ (gB s t).2) ↔ alwP s t o := by
 simp only [gB, alwP];omega
theorem offL_iff (s : Sc) (o : Int) : ∀ (l : List (Int × Int)) (a : Int × Int), ((l.foldl (fun a t => lQ a (gB s t)) a).1 ≤ o ∧ o ≤ (l.foldl (fun a t => lQ a (gB s t)) a).2) ↔ ((a.1 ≤ o ∧ o ≤ a.2) ∧ ∀ t ∈ l, alwP s t o)
 | [], a => by simp
 | t :: l, a => by
  have h1 : ((lQ a (gB s t)).1 ≤ o ∧ o ≤ (lQ a (gB s t)).2) ↔ (a.1 ≤ o ∧ o ≤ a.2) ∧ ((gB s t).1 ≤ o ∧ o ≤ (gB s t).2) := by
   simp only [lQ];omega
  rw [List.foldl_cons, offL_iff s o l, List.forall_mem_cons, ← alw_iff, h1, and_assoc]
theorem off_iff {s : Sc} {o : Int} : ((dS s).1 ≤ o ∧ o ≤ (dS s).2) ↔ ((-1000 ≤ o ∧ o ≤ 1000) ∧ ∀ t ∈ s.tests, alwP s t o) := offL_iff s o s.tests (-1000, 1000)
def gL (s : Sc) (i : Nat) (o : Int × Int) : Int × Int := (s.rif i - o.2 - s.err, s.rif i - o.1 + s.err)
structure Kn where
 lo : Int
 hi : Int
 p : List Bool
 f : List Bool
structure Kn.Fit (k : Kn) : Prop where
 p8 : k.p.length = 8
 f8 : k.f.length = 8
 lo : -1000 ≤ k.lo
 hi : k.hi ≤ 1000
 le : k.lo ≤ k.hi
def Kn.off (k : Kn) : Int × Int := (k.lo, k.hi)
def none8 : List Bool := List.replicate 8 false
def bP (s : Sc) : Kn := ⟨(dS s).1, (dS s).2, none8, none8⟩
theorem eK {s : Sc} (h : (dS s).1 ≤ (dS s).2) : (bP s).Fit := ⟨rfl, rfl, (off_bd s).1, (off_bd s).2, h⟩
def Kn.free (k : Kn) (i : Nat) : Bool := !k.p.getD i false && !k.f.getD i false
def openI (s : Sc) (k : Kn) (i : Nat) : Bool := decide ((gL s i k.off).1 < s.least) && decide (s.least ≤ (gL s i k.off).2)
def eG (s : Sc) (k : Kn) (i : Nat) : Bool := k.free i && openI s k i
def dO (s : Sc) (k : Kn) : List Nat := (List.range s.rifles.length).filter (eG s k)
def passL (s : Sc) : List Nat := (List.range s.rifles.length).filter fun i => decide (s.least ≤ (gL s i (dS s)).1) && true
def edgeV (s : Sc) (i : Nat) : Int := s.rif i - s.least
def cI (s : Sc) (k : Kn) (i : Nat) : Kn := ⟨max k.lo (-1000), min k.hi (edgeV s i + s.err), k.p.set i true, k.f⟩
def cD (s : Sc) (k : Kn) (i : Nat) : Kn := ⟨max k.lo (edgeV s i + 1 - s.err), min k.hi 1000, k.p, k.f.set i true⟩
theorem eP {s : Sc} {k : Kn} {i : Nat} : eG s k i = true ↔ k.free i = true ∧ s.rif i - k.hi - s.err < s.least ∧ s.least ≤ s.rif i - k.lo + s.err := by
 unfold eG openI gL Kn.off;rw [Bool.and_eq_true, Bool.and_eq_true, decide_eq_true_iff, decide_eq_true_iff]
theorem iC {s : Sc} {k : Kn} {i : Nat} : i ∈ dO s k ↔ i < s.rifles.length ∧ eG s k i = true := by
 unfold dO;rw [List.mem_filter, List.mem_range]
theorem fN {s : Sc} {k : Kn} {i : Nat} (h : k.Fit) (ho : eG s k i = true) : (cI s k i).Fit := by
 obtain ⟨h1, h2, h3⟩ := eP.1 ho;have := h.lo;have := h.hi;have := h.le;unfold cI edgeV;exact ⟨by rw [List.length_set]; exact h.p8, h.f8, by simp only; omega, by simp only; omega, by simp only; omega⟩
theorem fI {s : Sc} {k : Kn} {i : Nat} (h : k.Fit) (ho : eG s k i = true) : (cD s k i).Fit := by
 obtain ⟨h1, h2, h3⟩ := eP.1 ho;have := h.lo;have := h.hi;have := h.le;unfold cD edgeV;exact ⟨h.p8, by rw [List.length_set]; exact h.f8, by simp only; omega, by simp only; omega, by simp only; omega⟩
theorem pM {l : List Bool} {i j : Nat} (hi : i < l.length) : (l.set i true).getD j false = (decide (i = j) || l.getD j false) := by
 rw [List.getD_eq_getElem?_getD, List.getElem?_set, List.getD_eq_getElem?_getD];by_cases e : i = j
 ·subst e;simp [hi]
 ·simp [e]
theorem passK_free {s : Sc} {k : Kn} {i : Nat} (h : k.Fit) (hi : i < 8) (j : Nat) : (cI s k i).free j = (k.free j && !decide (i = j)) := by
 unfold Kn.free cI;simp only;rw [pM (by rw [h.p8]; exact hi)];cases decide (i = j) <;> cases k.p.getD j false <;> cases k.f.getD j false <;> rfl
theorem failK_free {s : Sc} {k : Kn} {i : Nat} (h : k.Fit) (hi : i < 8) (j : Nat) : (cD s k i).free j = (k.free j && !decide (i = j)) := by
 unfold Kn.free cD;simp only;rw [pM (by rw [h.f8]; exact hi)];cases decide (i = j) <;> cases k.p.getD j false <;> cases k.f.getD j false <;> rfl
def cntK (s : Sc) (k : Kn) : Nat := ((List.range s.rifles.length).filter k.free).length
theorem mX {p : Nat → Bool} {i : Nat} : ∀ {l : List Nat}, l.Nodup → i ∈ l → p i = true → (l.filter fun j => p j && !decide (i = j)).length + 1 = (l.filter p).length
 | [], _, h, _ => by cases h
 | a :: l, hn, h, hp => by
  rw [List.nodup_cons] at hn;rcases List.mem_cons.1 h with e | hm
  ·subst e
   have h1 : (l.filter fun j => p j && !decide (i = j)) = l.filter p := List.filter_congr fun j hj => by
    have : i ≠ j := fun e => hn.1 (e ▸ hj)
    simp [this]
   rw [List.filter_cons, List.filter_cons, if_neg (by simp), if_pos hp, h1, List.length_cons]
  ·have ih := mX hn.2 hm hp;have hne : i ≠ a := fun e => hn.1 (e ▸ hm)
   rw [List.filter_cons, List.filter_cons];cases hpa : p a
   ·simpa using ih
   ·simp [hne, ih]
theorem nM {s : Sc} {k : Kn} {i : Nat} (h : k.Fit) (h8 : s.rifles.length ≤ 8) (hi : i < s.rifles.length) (hf : k.free i = true) : cntK s (cI s k i) + 1 = cntK s k := by
 unfold cntK;rw [← mX (p := k.free) List.nodup_range (List.mem_range.2 hi) hf]
 congr 2
 exact List.filter_congr fun j _ => passK_free h J j
theorem nG {s : Sc} {k : Kn} {i : Nat} (h : k.Fit) (h8 : s.rifles.length ≤ 8) (hi : i < s.rifles.length) (hf : k.free i = true) : cntK s (cD s k i) + 1 = cntK s k := by
 unfold cntK;rw [← mX (p := k.free) List.nodup_range (List.mem_range.2 hi) hf]
 congr 2
 exact List.filter_congr fun j _ => failK_free h J j
def pickS (D : Kn → Int) (s : Sc) (k : Kn) (out : Int × Int) (i : Nat) : Int × Int :=
 if out = (0, 0) ∨ 1 + max (D (cI s k i)) (D (cD s k i)) < out.2 then ((i : Int), 1 + max (D (cI s k i)) (D (cD s k i))) else out
theorem pickS_congr {D E : Kn → Int} {s : Sc} {k : Kn} {a : Int × Int} {i : Nat} (h1 : D (cI s k i) = E (cI s k i)) (h2 : D (cD s k i) = E (cD s k i)) : pickS D s k a i = pickS E s k a i := by
 unfold pickS;rw [h1, h2]
def bestF (s : Sc) : Nat → Kn → Int × Int
 | 0, _ => (0, 0)
 | n + 1, k => (dO s k).foldl (pickS (fun k => (bestF s n k).2) s k) (0, 0)
def mK (s : Sc) (k : Kn) : Int × Int := bestF s (cntK s k) k
theorem mH {α β : Type} {f g : α → β → α} : ∀ (l : List β) (a : α), (∀ x ∈ l, ∀ a, f a x = g a x) → l.foldl f a = l.foldl g a
 | [], _, _ => rfl
 | x :: l, a, h => by
  rw [List.foldl_cons, List.foldl_cons, h x (.head _)];exact mH l _ fun y hy => h y (.tail _ hy)
theorem oR {s : Sc} {k : Kn} (h : cntK s k = 0) : dO s k = [] := by
 unfold cntK at h;have h1 := List.eq_nil_of_length_eq_zero h;refine List.filter_eq_nil_iff.2 fun i hi ho => ?_
 have := List.filter_eq_nil_iff.1 h1 i hi;exact this (eP.1 ho).1
theorem iG {s : Sc} (h8 : s.rifles.length ≤ 8) : ∀ (n : Nat) (k : Kn), k.Fit → cntK s k ≤ n → bestF s n k = mK s k
 | 0, k, _, hn => by
  unfold mK;rw [show cntK s k = 0 from by omega]
 | n + 1, k, hk, hn => by
  cases hc : cntK s k with
  | zero =>
   unfold mK;rw [hc];simp only [bestF];rw [oR hc]
   rfl
  | succ c =>
   unfold mK;rw [hc];simp only [bestF];refine mH _ _ fun i hi a => ?_
   obtain ⟨hi1, ho⟩ := iC.1 hi;have hf := (eP.1 ho).1;have c1 := nM hk h8 hi1 hf;have c2 := nG hk h8 hi1 hf;refine pickS_congr ?_ ?_
   ·rw [iG h8 n _ (fN hk ho) J];unfold mK;rw [show cntK s (cI s k i) = c from by omega]
   ·rw [iG h8 n _ (fI hk ho) J];unfold mK;rw [show cntK s (cD s k i) = c from by omega]
def dE (s : Sc) (k : Kn) : Int := (mK s k).2
theorem bstK_eq {s : Sc} (h8 : s.rifles.length ≤ 8) {k : Kn} (hk : k.Fit) : mK s k = (dO s k).foldl (pickS (dE s) s k) (0, 0) := by
 rw [← iG h8 (cntK s k + 1) k hk J];simp only [bestF];refine mH _ _ fun i hi a => ?_
 obtain ⟨hi1, ho⟩ := iC.1 hi;have hf := (eP.1 ho).1;have c1 := nM hk h8 hi1 hf;have c2 := nG hk h8 hi1 hf;refine pickS_congr ?_ ?_
 ·rw [iG h8 _ _ (fN hk ho) J]
  rfl
 ·rw [iG h8 _ _ (fI hk ho) J]
  rfl
def tryV (s : Sc) (k : Kn) (i : Nat) : Int := 1 + max (dE s (cI s k i)) (dE s (cD s k i))
structure PkI (s : Sc) (k : Kn) (X : List Nat) (z : Int × Int) : Prop where
 nil : X = [] → z = (0, 0)
 at_ : X ≠ [] → ∃ i ∈ X, z = ((i : Int), tryV s k i) ∧ 0 < tryV s k i
 le : ∀ i ∈ X, z.2 ≤ tryV s k i
theorem pk_all {s : Sc} {k : Kn} (hp : ∀ i, 0 < tryV s k i) : ∀ (X Y : List Nat) (z : Int × Int), PkI s k Y z → PkI s k (Y ++ X) (X.foldl (pickS (dE s) s k) z)
 | [], Y, z, h => by rw [List.append_nil]; exact h
 | i :: X, Y, z, h => by
  rw [List.foldl_cons, show Y ++ i :: X = (Y ++ [i]) ++ X from by simp];refine pk_all hp X (Y ++ [i]) _ ?_
  show PkI s k (Y ++ [i]) (if z = (0, 0) ∨ tryV s k i < z.2 then ((i : Int), tryV s k i) else z)
  have hpi := hp i;split
  ·rename_i hc
   refine ⟨fun e => by simp at e, fun _ => ⟨i, by simp, Z, hpi⟩, fun j hj => ?_⟩;rcases List.mem_append.1 hj with hj | hj
   ·have h1 := h.le j hj;rcases hc with hc | hc
    ·by_cases e : Y = []
     ·rw [e] at hj; cases hj
     ·obtain ⟨m, _, hm, hm2⟩ := h.at_ e;rw [hc] at hm;have := congrArg Prod.snd hm;simp only at this;omega
    ·simp only;omega
   ·rw [List.mem_singleton.1 hj];exact Int.le_refl _
  ·rename_i hc
   have hz : z ≠ (0, 0) := fun e => hc (.inl e)
   have hl : z.2 ≤ tryV s k i := Int.not_lt.1 fun e => hc (.inr e)
   have hY : Y ≠ [] := fun e => hz (h.nil e)
   refine ⟨fun e => by simp at e, fun _ => ?_, fun j hj => ?_⟩
   ·obtain ⟨m, h1, h2, h3⟩ := h.at_ hY;exact ⟨m, List.mem_append_left _ h1, h2, h3⟩
   ·rcases List.mem_append.1 hj with hj | hj
    ·exact h.le j hj
    ·rw [List.mem_singleton.1 hj]; exact hl
theorem pick_nn {D : Kn → Int} {s : Sc} {k : Kn} (hD : ∀ k, 0 ≤ D k) : ∀ (X : List Nat) (z : Int × Int), 0 ≤ z.2 → 0 ≤ (X.foldl (pickS D s k) z).2
 | [], z, h => h
 | i :: X, z, h => by
  rw [List.foldl_cons];refine pick_nn hD X _ ?_;unfold pickS;split
  ·have := hD (cI s k i);simp only;omega
  ·exact h
theorem bestF_nn (s : Sc) : ∀ (n : Nat) (k : Kn), 0 ≤ (bestF s n k).2
 | 0, _ => Int.le_refl _
 | n + 1, k => pick_nn (fun k => bestF_nn s n k) _ _ (Int.le_refl _)
theorem dep_nn (s : Sc) (k : Kn) : 0 ≤ dE s k := bestF_nn s _ k
theorem try_pos (s : Sc) (k : Kn) (i : Nat) : 0 < tryV s k i := by
 have := dep_nn s (cI s k i);unfold tryV;omega
theorem best_is {s : Sc} (h8 : s.rifles.length ≤ 8) {k : Kn} (hk : k.Fit) : PkI s k (dO s k) (mK s k) := by
 rw [bstK_eq h8 hk];have := pk_all (s := s) (k := k) (try_pos s k) (dO s k) [] (0, 0) ⟨fun _ => rfl, fun h => absurd rfl h, fun i hi => by cases hi⟩
 rwa [List.nil_append] at this
theorem kS {s : Sc} (h8 : s.rifles.length ≤ 8) {k : Kn} (hk : k.Fit) : dE s k = 0 ↔ dO s k = [] := by
 have h := best_is h8 hk;constructor
 ·intro e;refine Classical.byContradiction fun hn => ?_
  obtain ⟨i, _, h1, h2⟩ := h.at_ hn;have h3 : dE s k = tryV s k i := by unfold dE; rw [h1]
  omega
 ·intro e;unfold dE;rw [h.nil e]
theorem dep_le {s : Sc} (h8 : s.rifles.length ≤ 8) {k : Kn} (hk : k.Fit) {i : Nat} (hi : i ∈ dO s k) : dE s k ≤ tryV s k i := (best_is h8 hk).le i hi
theorem dep_at {s : Sc} (h8 : s.rifles.length ≤ 8) {k : Kn} (hk : k.Fit) (hn : dO s k ≠ []) : ∃ i ∈ dO s k, mK s k = ((i : Int), dE s k) ∧ dE s k = tryV s k i := by
 obtain ⟨i, h1, h2, _⟩ := (best_is h8 hk).at_ hn;have h3 : dE s k = tryV s k i := by unfold dE; rw [h2]
 exact ⟨i, h1, by rw [h3]; exact h2, h3⟩
structure Nar (s s2 : Sc) (d : Int) (k k2 : Kn) : Prop where
 lo : k.lo + d ≤ k2.lo
 hi : k2.hi ≤ k.hi + d
 op : ∀ i, i < s.rifles.length → eG s2 k2 i = true → eG s k i = true
 fr : ∀ i, k.free i = true → k2.free i = true
structure Shf (s s2 : Sc) (d : Int) : Prop where
 n : s2.rifles.length = s.rifles.length
 err : s2.err = s.err
 least : s2.least = s.least
 rif : ∀ i, i < s.rifles.length → s2.rif i = s.rif i + d
theorem dep_open {s : Sc} (h8 : s.rifles.length ≤ 8) : ∀ (n : Nat) (k : Kn), (dO s k).length = n → k.Fit → dE s k ≤ n := by
 intro n
 induction n using Nat.strongRecOn with
 | ind n ih =>
  intro k hn hk;by_cases e : dO s k = []
  ·rw [(kS h8 hk).2 e];omega
  ·obtain ⟨i, hi⟩ := List.exists_mem_of_ne_nil _ e;obtain ⟨hi1, hio⟩ := iC.1 hi
   have sub : ∀ k', (∀ j, eG s k' j = true → eG s k j = true ∧ i ≠ j) → (dO s k').length + 1 ≤ (dO s k).length := by
    intro k' hs;have h1 := mX (p := eG s k) (l := List.range s.rifles.length) (i := i) List.nodup_range (List.mem_range.2 hi1) hio
    have h2 : (dO s k').length ≤ ((List.range s.rifles.length).filter fun j => eG s k j && !decide (i = j)).length := by
     unfold dO
     rw [show (List.range s.rifles.length).filter (eG s k') = ((List.range s.rifles.length).filter fun j => eG s k j && !decide (i = j)).filter (eG s k') from by
      rw [List.filter_filter];refine List.filter_congr fun j _ => ?_
      cases ho : eG s k' j
      ·rfl
      ·have := hs j ho;simp [this.1, this.2]]
     exact List.length_filter_le _ _
    unfold dO at h2 ⊢;omega
   have s1 := sub (cI s k i) fun j hj => by
    obtain ⟨b1, b2, b3⟩ := eP.1 hj;rw [passK_free hk J, Bool.and_eq_true] at b1;have := hk.lo;unfold cI edgeV at b2 b3;simp only at b2 b3;exact ⟨eP.2 ⟨b1.1, by omega, by omega⟩, by simpa using b1.2⟩
   have s2 := sub (cD s k i) fun j hj => by
    obtain ⟨b1, b2, b3⟩ := eP.1 hj;rw [failK_free hk J, Bool.and_eq_true] at b1;have := hk.hi;unfold cD edgeV at b2 b3;simp only at b2 b3;exact ⟨eP.2 ⟨b1.1, by omega, by omega⟩, by simpa using b1.2⟩
   have d := dep_le h8 hk hi;have d1 := ih _ J _ rfl (fN hk hio);have d2 := ih _ J _ rfl (fI hk hio);unfold tryV at d;omega
structure Nd where
 r : Int
 p : Int
 f : Int
def cQ (s : Sc) (k : Kn) (i : Nat) (passes : Bool) : Kn × Bool :=
 if k.free i = false then (k, k.p.getD i false == passes) else
 if passes = true then (cI s k i, decide ((cI s k i).lo ≤ (cI s k i).hi) && true) else (cD s k i, decide ((cD s k i).lo ≤ (cD s k i).hi) && true)
def ndV (plan : List Nd) (n : Int) : Nd := plan.getD n.toNat ⟨0, -1, -1⟩
def jL (s : Sc) (plan : List Nd) : Nat → Int → Kn → Int
 | 0, _, k => if dO s k = [] then 0 else -1
 | g + 1, n, k => if n < 0 then (if dO s k = [] then 0 else -1) else
  let a := cQ s k (ndV plan n).r.toNat true
  let b := cQ s k (ndV plan n).r.toNat false
  if a.2 = true ∧ jL s plan g (ndV plan n).p a.1 < 0 then -1 else
  if b.2 = true ∧ jL s plan g (ndV plan n).f b.1 < 0 then -1 else
  max (if a.2 = true then 1 + jL s plan g (ndV plan n).p a.1 else 0) (if b.2 = true then 1 + jL s plan g (ndV plan n).f b.1 else 0)
def RpOk (s : Sc) (plan : List Nd) : Prop := ∀ i, i < plan.length → (0 ≤ (ndV plan i).r ∧ (ndV plan i).r < s.rifles.length) ∧ ((ndV plan i).p = -1 ∨ (i : Int) < (ndV plan i).p ∧ (ndV plan i).p < plan.length) ∧ ((ndV plan i).f = -1 ∨ (i : Int) < (ndV plan i).f ∧ (ndV plan i).f < plan.length)
section
variable {s : Sc} {plan : List Nd}
theorem pX {k : Kn} (hk : k.Fit) {i : Nat} {b : Bool} (h : (cQ s k i b).2 = true) : (cQ s k i b).1.Fit := by
 unfold cQ at h ⊢;split
 ·exact hk
 ·rename_i hf
  rw [if_neg hf] at h;have h1 := hk.lo;have h2 := hk.hi;cases b
  ·rw [if_neg (by simp)] at h ⊢;simp only [Bool.and_true, decide_eq_true_iff] at h;exact ⟨hk.p8, by unfold cD; simp only; rw [List.length_set]; exact hk.f8, by unfold cD; simp only; omega, by unfold cD; simp only; omega, h⟩
  ·rw [if_pos rfl] at h ⊢;simp only [Bool.and_true, decide_eq_true_iff] at h;exact ⟨by unfold cI; simp only; rw [List.length_set]; exact hk.p8, hk.f8, by unfold cI; simp only; omega, by unfold cI; simp only; omega, h⟩
end
def dZ (s : Sc) : Nat → Kn → Nat → List Nd
 | 0, _, _ => []
 | g + 1, k, m => if dE s k = 0 then [] else
  let i := (mK s k).1.toNat
  let A := dZ s g (cI s k i) (m + 1)
  let B := dZ s g (cD s k i) (m + 1 + A.length)
  ⟨i, if A = [] then -1 else (m + 1 : Nat), if B = [] then -1 else (m + 1 + A.length : Nat)⟩ :: (A ++ B)
def rtN (m : Nat) (A : List Nd) : Int := if A = [] then -1 else m
theorem grow_nil {s : Sc} (h8 : s.rifles.length ≤ 8) : ∀ {g : Nat} {k : Kn} {m : Nat}, k.Fit → cntK s k ≤ g → (dZ s g k m = [] ↔ dE s k = 0)
 | 0, k, m, hk, hg => by
  refine ⟨fun _ => (kS h8 hk).2 (oR J), fun _ => Z⟩
 | g + 1, k, m, hk, hg => by
  simp only [dZ];split
  ·rename_i e; simp [e]
  ·rename_i e; simp [e]
structure NodeAt (s : Sc) (k : Kn) (i : Nat) : Prop where
 lt : i < s.rifles.length
 op : eG s k i = true
 dep : dE s k = tryV s k i
theorem node_at {s : Sc} (h8 : s.rifles.length ≤ 8) {k : Kn} (hk : k.Fit) (h : dE s k ≠ 0) : NodeAt s k (mK s k).1.toNat := by
 obtain ⟨i, h1, h2, h3⟩ := dep_at h8 hk fun e => h ((kS h8 hk).2 e)
 rw [h2];obtain ⟨g1, g2⟩ := iC.1 h1;exact ⟨g1, g2, h3⟩
theorem grow_len {s : Sc} (h8 : s.rifles.length ≤ 8) : ∀ (g : Nat) (k : Kn) (m : Nat), k.Fit → (dZ s g k m).length + 1 ≤ 2 ^ (dE s k).toNat
 | 0, k, m, _ => Nat.pow_pos J
 | g + 1, k, m, hk => by
  simp only [dZ];split
  ·exact Nat.pow_pos J
  ·rename_i e
   have hn := node_at h8 hk e;have h1 := grow_len h8 g _ (m + 1) (fN hk hn.op);have h2 := grow_len h8 g _ (m + 1 + (dZ s g (cI s k (mK s k).1.toNat) (m + 1)).length) (fI hk hn.op);have d := hn.dep;have e1 := dep_nn s (cI s k (mK s k).1.toNat);have e2 := dep_nn s (cD s k (mK s k).1.toNat);unfold tryV at d;obtain ⟨q, hq⟩ : ∃ q, (dE s k).toNat = q + 1 := ⟨(dE s k).toNat - 1, by omega⟩;have p1 := Nat.pow_le_pow_right (show 0 < 2 by omega) (show (dE s (cI s k (mK s k).1.toNat)).toNat ≤ q by omega);have p2 := Nat.pow_le_pow_right (show 0 < 2 by omega) (show (dE s (cD s k (mK s k).1.toNat)).toNat ≤ q by omega);rw [hq, Nat.pow_succ];simp only [List.length_cons, List.length_append];omega
theorem ndV_at {X Y : List Nd} {x : Nd} {n : Int} (hn : n = X.length) : ndV (X ++ x :: Y) n = x := by
 unfold ndV;rw [hn, Int.toNat_natCast, getD_app2 (Nat.le_refl _), Nat.sub_self]
 rfl
theorem grow_fol {s : Sc} (h8 : s.rifles.length ≤ 8) : ∀ (g : Nat) (k : Kn) (X Y : List Nd) (f : Nat), k.Fit → cntK s k ≤ g → (dZ s g k X.length).length ≤ f → jL s (X ++ dZ s g k X.length ++ Y) f (rtN X.length (dZ s g k X.length)) k = dE s k := by
 intro g
 induction g with
 | zero =>
  intro k X Y f hk hg hf;have h0 := oR (s := s) (k := k) J;have h1 := (kS h8 hk).2 h0
  show jL s _ f (-1) k = _
  cases f with
  | zero => simp [jL, h0, h1]
  | succ f => simp [jL, h0, h1]
 | succ g ih =>
  intro k X Y f hk hg hf;by_cases e : dE s k = 0
  ·have h0 := (kS h8 hk).1 e;have hn : dZ s (g + 1) k X.length = [] := (grow_nil h8 hk hg).2 e;rw [hn]
   show jL s _ f (-1) k = _
   cases f with
   | zero => simp [jL, h0, e]
   | succ f => simp [jL, h0, e]
  ·have hn := node_at h8 hk e;have hfr := (eP.1 hn.op).1;have c1 := nM hk h8 hn.lt hfr;have c2 := nG hk h8 hn.lt hfr;have f1 := fN hk hn.op;have f2 := fI hk hn.op;have d := hn.dep;have e1 := dep_nn s (cI s k (mK s k).1.toNat);have e2 := dep_nn s (cD s k (mK s k).1.toNat);generalize hi : (mK s k).1.toNat = i at *;obtain ⟨A, hA⟩ : ∃ A, dZ s g (cI s k i) (X.length + 1) = A := ⟨_, rfl⟩;obtain ⟨B, hB⟩ : ∃ B, dZ s g (cD s k i) (X.length + 1 + A.length) = B := ⟨_, rfl⟩
   have hG : dZ s (g + 1) k X.length = ⟨i, rtN (X.length + 1) A, rtN (X.length + 1 + A.length) B⟩ :: (A ++ B) := by
    simp only [dZ, if_neg e, hi, hA, hB, rtN]
   rw [hG] at hf ⊢;rw [List.length_cons, List.length_append] at hf;obtain ⟨f, rfl⟩ : ∃ f', f = f' + 1 := ⟨f - 1, by omega⟩;have ia := ih (cI s k i) (X ++ [⟨i, rtN (X.length + 1) A, rtN (X.length + 1 + A.length) B⟩]) (B ++ Y) f f1 J (by rw [List.length_append, List.length_singleton, hA]; omega);have ib := ih (cD s k i) (X ++ [⟨i, rtN (X.length + 1) A, rtN (X.length + 1 + A.length) B⟩] ++ A) Y f f2 J (by rw [List.length_append, List.length_append, List.length_singleton, hB]; omega);rw [List.length_append, List.length_singleton, hA] at ia;rw [List.length_append, List.length_append, List.length_singleton, hB] at ib;have el : X ++ ⟨i, rtN (X.length + 1) A, rtN (X.length + 1 + A.length) B⟩ :: (A ++ B) ++ Y = X ++ ⟨i, rtN (X.length + 1) A, rtN (X.length + 1 + A.length) B⟩ :: (A ++ B ++ Y) := by simp
   have ea : X ++ [(⟨i, rtN (X.length + 1) A, rtN (X.length + 1 + A.length) B⟩ : Nd)] ++ A ++ (B ++ Y) = X ++ ⟨i, rtN (X.length + 1) A, rtN (X.length + 1 + A.length) B⟩ :: (A ++ B ++ Y) := by simp
   have eb : X ++ [(⟨i, rtN (X.length + 1) A, rtN (X.length + 1 + A.length) B⟩ : Nd)] ++ A ++ B ++ Y = X ++ ⟨i, rtN (X.length + 1) A, rtN (X.length + 1 + A.length) B⟩ :: (A ++ B ++ Y) := by simp
   rw [ea] at ia;rw [eb] at ib;rw [el];have hret : rtN X.length (⟨i, rtN (X.length + 1) A, rtN (X.length + 1 + A.length) B⟩ :: (A ++ B)) = (X.length : Int) := by simp [rtN]
   rw [hret];have hnd : ndV (X ++ ⟨i, rtN (X.length + 1) A, rtN (X.length + 1 + A.length) B⟩ :: (A ++ B ++ Y)) (X.length : Int) = ⟨i, rtN (X.length + 1) A, rtN (X.length + 1 + A.length) B⟩ := ndV_at rfl;generalize X ++ (⟨i, rtN (X.length + 1) A, rtN (X.length + 1 + A.length) B⟩ : Nd) :: (A ++ B ++ Y) = P at *
   have ha : cQ s k i true = (cI s k i, true) := by
    unfold cQ;rw [if_neg (by rw [hfr]; simp), if_pos rfl, decide_eq_true f1.le]
    rfl
   have hb : cQ s k i false = (cD s k i, true) := by
    unfold cQ;rw [if_neg (by rw [hfr]; simp), if_neg (by simp), decide_eq_true f2.le]
    rfl
   simp only [jL];rw [if_neg J, hnd];simp only [Int.toNat_natCast];rw [ha, hb];simp only [true_and, if_true];rw [ia, ib, if_neg J, if_neg J, d];unfold tryV;omega
def NdOk (s : Sc) (n : Nat) (i : Nat) (x : Nd) : Prop := (0 ≤ x.r ∧ x.r < s.rifles.length) ∧ (x.p = -1 ∨ (i : Int) < x.p ∧ x.p < n) ∧ (x.f = -1 ∨ (i : Int) < x.f ∧ x.f < n)
theorem NdOk.more {s : Sc} {n m i : Nat} {x : Nd} (h : NdOk s n i x) (hm : n ≤ m) : NdOk s m i x := by
 obtain ⟨h1, h2, h3⟩ := h;refine ⟨h1, ?_, ?_⟩
 ·rcases h2 with h2 | h2
  ·exact .inl h2
  ·exact .inr ⟨h2.1, by omega⟩
 ·rcases h3 with h3 | h3
  ·exact .inl h3
  ·exact .inr ⟨h3.1, by omega⟩
theorem grow_ok {s : Sc} (h8 : s.rifles.length ≤ 8) : ∀ (g : Nat) (k : Kn) (m : Nat), k.Fit → ∀ j (hj : j < (dZ s g k m).length), NdOk s (m + (dZ s g k m).length) (m + j) (dZ s g k m)[j]
 | 0, k, m, _, j, hj => absurd hj (by simp [dZ])
 | g + 1, k, m, hk, j, hj => by
  by_cases e : dE s k = 0
  ·have : dZ s (g + 1) k m = [] := by simp [dZ, e]
   rw [this] at hj;exact absurd hj (by simp)
  ·have hn := node_at h8 hk e;generalize hi : (mK s k).1.toNat = i at *;obtain ⟨A, hA⟩ : ∃ A, dZ s g (cI s k i) (m + 1) = A := ⟨_, rfl⟩;obtain ⟨B, hB⟩ : ∃ B, dZ s g (cD s k i) (m + 1 + A.length) = B := ⟨_, rfl⟩
   have hG : dZ s (g + 1) k m = ⟨i, rtN (m + 1) A, rtN (m + 1 + A.length) B⟩ :: (A ++ B) := by
    simp only [dZ, if_neg e, hi, hA, hB, rtN]
   have oa := grow_ok h8 g _ (m + 1) (fN hk hn.op);have ob := grow_ok h8 g _ (m + 1 + A.length) (fI hk hn.op);rw [hA] at oa;rw [hB] at ob
   have key : ∀ L, dZ s (g + 1) k m = L → ∀ (hj : j < L.length), NdOk s (m + L.length) (m + j) L[j] := by
    rintro L hL hj;rw [hG] at hL;subst hL;cases j with
    | zero =>
     have h1 := hn.lt;refine ⟨⟨by simp, by simpa using h1⟩, ?_, ?_⟩
     ·simp only [List.getElem_cons_zero, rtN];split
      ·exact .inl Z
      ·rename_i ne
       have := List.length_pos_iff.2 ne;refine .inr ⟨by omega, ?_⟩;simp only [List.length_cons, List.length_append];omega
     ·simp only [List.getElem_cons_zero, rtN];split
      ·exact .inl Z
      ·rename_i ne
       have := List.length_pos_iff.2 ne;refine .inr ⟨by omega, ?_⟩;simp only [List.length_cons, List.length_append];omega
    | succ j =>
     simp only [List.length_cons, List.length_append] at hj ⊢;simp only [List.getElem_cons_succ];by_cases ej : j < A.length
     ·rw [List.getElem_append_left ej];have := (oa j ej).more (m := m + (A.length + B.length + 1)) J
      rwa [show m + 1 + j = m + (j + 1) from by omega] at this
     ·rw [List.getElem_append_right J];have := (ob (j - A.length) J).more (m := m + (A.length + B.length + 1)) J
      rwa [show m + 1 + A.length + (j - A.length) = m + (j + 1) from by omega] at this
   exact key _ Z hj
def jX (s : Sc) : List Nd := dZ s (cntK s (bP s)) (bP s) 0
theorem plan_ok {s : Sc} (h8 : s.rifles.length ≤ 8) (h : (dS s).1 ≤ (dS s).2) : RpOk s (jX s) := fun i hi => by
 have := grow_ok h8 (cntK s (bP s)) (bP s) 0 (eK h) i hi;rw [Nat.zero_add, Nat.zero_add] at this
 have e : ndV (jX s) i = (jX s)[i] := by
  unfold ndV;rw [Int.toNat_natCast, List.getD_eq_getElem?_getD, List.getElem?_eq_getElem hi, Option.getD_some]
 rw [e];exact this
theorem plan_fol {s : Sc} (h8 : s.rifles.length ≤ 8) (h : (dS s).1 ≤ (dS s).2) {f : Nat} (hf : (jX s).length ≤ f) : jL s (jX s) f (if jX s = [] then -1 else 0) (bP s) = dE s (bP s) := by
 have := grow_fol h8 (cntK s (bP s)) (bP s) [] [] f (eK h) (Nat.le_refl _) hf;rw [List.nil_append, List.append_nil] at this;exact this
theorem oY {s : Sc} (h8 : s.rifles.length ≤ 8) (h : (dS s).1 ≤ (dS s).2) : (jX s).length ≤ 255 := by
 have h1 := grow_len h8 (cntK s (bP s)) (bP s) 0 (eK h);have h2 := dep_open h8 _ (bP s) rfl (eK h);have h3 : (dO s (bP s)).length ≤ 8 := Nat.le_trans (List.length_filter_le _ _) (by rw [List.length_range]; exact h8);have h4 := Nat.pow_le_pow_right (show 0 < 2 by omega) (show (dE s (bP s)).toNat ≤ 8 by omega);unfold jX;omega
end Go.Proofs.YtopdmadgkjdgcaaGreat
namespace Go.Eng
set_option maxRecDepth 4000
open Go Go.RowKit
section
variable {P : Program} {T : Tab} {ops : Array Oper} {C : World → Prop}
variable {ro : Cx} {n : Nat} {F : Fin} {k : List It} {l rest : List Oper} {e : Env} {w : World} {o : Oper}
theorem S_goto_inv {r : Option Nat} {k : List It} {l : Nat} {a : Act} {w : World} (h : S P r F k (.goto l) a w) : F (.goto l) a w := by
 induction k with
 | nil => exact h
 | cons i k ih => cases i <;> exact ih h
theorem y_scope {c : Code} (hF : ∀ l a w, ¬ F (.goto l) a w) {ds : List Deferred} (h : Y P ⟨none, ds⟩ n F (.code c :: k) e w) : Y P ⟨none, ds⟩ n F (.code (.scope c) :: k) e w := fun a hf hd => by
 have h1 : c.wpIn (FR none) 0 P (S P none F k) a w := h a hf hd;refine (wpIn_wide (n := 0)).2 (wp_scope_straight (Code.wp_mono ?_ ((wpIn_wide (n := 0)).1 h1)));intro x a w hx;cases x <;> first | exact hx | exact hF _ _ _ (S_goto_inv hx)
def arrB (P : Program) (t len et sz : Nat) : Bool :=
 (match P.underlying t with | some (.array n e') => Nat.beq n len && Nat.beq e' et | _ => false) && (match P.info? et with | some i => Nat.beq i.size sz | none => false)
theorem run_indexA {t len et sz : Nat} (h : arrB P t len et sz = true) {b off : Nat} {ik : IntKind} {i : Int} (h0 : 0 ≤ i) (h1 : i < len) (w : World) :
  (Instr.indexAt t (.pointer (some ⟨b, off, none⟩)) (.int ik i)).run P w = .ok (.pointer (some ⟨b, off + i.toNat * sz, none⟩)) w := by
 simp only [arrB, Bool.and_eq_true] at h;obtain ⟨ha, hb⟩ := h;split at ha
 ·rename_i m e' hu
  simp only [Bool.and_eq_true] at ha;have e1 := Nat.eq_of_beq_eq_true ha.1;have e2 := Nat.eq_of_beq_eq_true ha.2;subst e1; subst e2;split at hb
  ·rename_i inf hinf
   have hsz := Nat.eq_of_beq_eq_true hb;simp [Instr.indexAt, asIntOf, Instr.sureAddr, run_underlying hu, h0, h1, sizeOf, typeInfo, hinf, hsz, Addr.add_lit]
  ·cases hb
 ·cases ha
theorem yl_indexA {d t et sz len : Nat} {x ix : Operand} {b off : Nat} {ik : IntKind} {i : Int} {ty : TypeId} {pos : String} {af : Array Edge} (hA : arrB P t len et sz = true)
  (hx : opv e x = some (.pointer (some ⟨b, off, none⟩))) (hi : opv e ix = some (.int ik i)) (hd : Nat.blt d n = true) (h0 : 0 ≤ i) (h1 : i < len)
  (h : YL P ro n F k ops rest ((d, .pointer (some ⟨b, off + i.toNat * sz, none⟩)) :: e) w) : YL P ro n F k ops (⟨some d, .indexAddr t x ix, ty, pos, af, none⟩ :: rest) e w :=
 eV (by simp) hd (fun a hf => by
  simp only [execOp, hf.op hx, hf.op hi];simp [run_indexA hA h0 h1 w]) h
theorem yf_indexA {d t et sz len : Nat} {x ix : Operand} {b off : Nat} {ik : IntKind} {i : Int} {ty : TypeId} {pos : String} {af : Array Edge} (hA : arrB P t len et sz = true)
  (hx : opv e x = some (.pointer (some ⟨b, off, none⟩))) (hi : opv e ix = some (.int ik i)) (hd : Nat.blt d n = true) (h0 : 0 ≤ i) (h1 : i < len)
  (h : YF P ro n F k ops C rest ((d, .pointer (some ⟨b, off + i.toNat * sz, none⟩)) :: e) w) : YF P ro n F k ops C (⟨some d, .indexAddr t x ix, ty, pos, af, none⟩ :: rest) e w :=
 gM rfl hd (fun a hf w' _ => by
  simp only [execOp, hf.op hx, hf.op hi];simp [run_indexA hA h0 h1 w']) h
def setL (cs : List Value) (i : Nat) : List Value → List Value
 | [] => cs
 | u :: us => setL (cs.set i u) (i + 1) us
theorem upd_upd (w : World) (b : Nat) (o o' : Obj) : upd (upd w b o) b o' = upd w b o' := by
 simp only [upd]
 congr 1
 apply Array.ext_getElem?;intro j;by_cases h : b = j
 ·subst h;by_cases hlt : b < w.heap.size <;> simp [hlt]
 ·simp [Array.getElem?_setIfInBounds_ne h]
theorem upd_same {w : World} {b : Nat} {cs : List Value} {t : TypeId} (h : Blk w b cs t) : upd w b (.cells cs.toArray t (0, 0)) = w := by
 have hlt := h.lt;unfold Blk at h
 have : w.heap.setIfInBounds b (.cells cs.toArray t (0, 0)) = w.heap := by
  apply Array.ext_getElem?;intro j;by_cases hj : b = j
  ·subst hj;have h2 := (Array.getElem?_eq_some_iff.1 h).2;simp [hlt, h2]
  ·simp [Array.getElem?_setIfInBounds_ne hj]
 simp only [upd, this]
theorem nS (b off : Nat) (bt : TypeId) : ∀ (us : List Value) (i : Nat) (cs : List Value) (w : World), Blk w b cs bt → off + i + us.length ≤ cs.length → (∀ u ∈ us, dJ u = true) →
  (storeCells ⟨b, off, none⟩ us i).run P w = .ok () (upd w b (.cells (setL cs (off + i) us).toArray bt (0, 0)))
 | [], i, cs, w, hb, hl, h1 => by
  simp only [storeCells, setL];rw [upd_same hb]
  rfl
 | u :: us, i, cs, w, hb, hl, h1 => by
  have hu := h1 u List.mem_cons_self;simp only [List.length_cons] at hl;have hi : off + i < cs.length := by omega
  have hc := hb.cell (off + i);rw [List.getElem?_eq_getElem hi] at hc;have hfr := hb.frozen (off + i);have ih := nS b off bt us (i + 1) (cs.set (off + i) u) (upd w b (.cells (cs.set (off + i) u).toArray bt (0, 0))) (upd_blk hb.lt) (by simp; omega) (fun u' hu' => h1 u' (List.mem_cons_of_mem _ hu'));rw [upd_upd] at ih;simp only [storeCells, setL]
  have hst : (store ((⟨b, off, none⟩ : Addr).add i) u).run P w = .ok () (upd w b (.cells (cs.set (off + i) u).toArray bt (0, 0))) := by
   rw [Addr.add_lit, ← oE hb];cases u <;> first | (simp [dJ] at hu; done) | simp [store, Sem.run, hc, hfr]
  simp [hst, ih, Nat.add_assoc]
theorem run_storeA (hT : T.Ok P) {t m : Nat} (h1 : fS T.agg t = some m) {b off : Nat} {cs us : List Value} {bt : TypeId} (hb : Blk w b cs bt) (hl : off + m ≤ cs.length) (hm : us.length = m) (h1v : ∀ u ∈ us, dJ u = true) :
  (Instr.storeAt t (.pointer (some ⟨b, off, none⟩)) (.agg us.toArray)).run P w = .ok () (upd w b (.cells (setL cs off us).toArray bt (0, 0))) := by
 obtain ⟨_, r2⟩ := agg_run hT h1 w;have h2 := nS (P := P) b off bt us 0 cs w hb J h1v;simp [Instr.storeAt, Instr.sureAddr, storeVar, r2, Value.cells, hm, h2]
theorem yl_storeA (hT : T.Ok P) {t m : Nat} {x y : Operand} {b off : Nat} {cs us : List Value} {bt : TypeId} {ty : TypeId} {pos : String} {af : Array Edge}
  (hx : opv e x = some (.pointer (some ⟨b, off, none⟩))) (hy : opv e y = some (.agg us.toArray)) (h1 : fS T.agg t = some m) (hm : us.length = m) (h1v : ∀ u ∈ us, dJ u = true) (hb : Blk w b cs bt) (hl : off + m ≤ cs.length)
  (h : ∀ w', Chg [b] w w' → w'.heap.size = w.heap.size → Blk w' b (setL cs off us) bt → YL P ro n F k ops rest e w') :
  YL P ro n F k ops (⟨none, .store t x y, ty, pos, af, none⟩ :: rest) e w :=
 yl_do (by simp) (fun a hf => by
  simp only [execOp, hf.op hx, hf.op hy];simp [run_storeA hT h1 hb hl hm h1v]) (h _ (upd_chg _ _ _) (upd_size _ _ _) (upd_blk hb.lt))
theorem yf_storeA (hT : T.Ok P) {t m : Nat} {x y : Operand} {b off : Nat} {cs us : List Value} {bt : TypeId} {ty : TypeId} {pos : String} {af : Array Edge}
  (hx : opv e x = some (.pointer (some ⟨b, off, none⟩))) (hy : opv e y = some (.agg us.toArray)) (h1 : fS T.agg t = some m) (hm : us.length = m) (h1v : ∀ u ∈ us, dJ u = true) (hb : Blk w b cs bt) (hl : off + m ≤ cs.length)
  (h : ∀ w', Chg [b] w w' → w'.heap.size = w.heap.size → Blk w' b (setL cs off us) bt → C w' ∧ YF P ro n F k ops C rest e w') :
  YF P ro n F k ops C (⟨none, .store t x y, ty, pos, af, none⟩ :: rest) e w := by
 obtain ⟨h3, h4⟩ := h _ (upd_chg _ _ _) (upd_size _ _ _) (upd_blk hb.lt)
 exact yf_do Z (fun a hf => by
  simp only [execOp, hf.op hx, hf.op hy];simp [run_storeA hT h1 hb hl hm h1v]) h3 h4
end
variable {P : Program} {T : Tab}
def builtS (P : Program) (t len : Nat) (parts : List (Nat × Value)) : Option (Nat × Array Value) :=
 match P.underlying t with
 | some (.slice e) => match P.info? e with
  | some ie => match ie.zero with
   | some z => bif Nat.ble (len * ie.size) 16777216 && !(Nat.beq (len * ie.size) 0) then
     (Instr.fill (fun i => some (i * ie.size, ie.size)) ((Array.range (len * ie.size)).map (z.cells[· % z.cells.size]!)) parts).map (fun c => (e, c)) else none
   | none => none
  | none => none
 | _ => none
theorem builtS_run {t len e : Nat} {parts : List (Nat × Value)} {cells : Array Value} (h : builtS P t len parts = some (e, cells)) (w : World) :
  (Instr.buildSlice t len parts.toArray).run P w = .ok (aB9 w.heap.size len len) (w.alloc (.cells cells e)) := by
 unfold builtS at h;split at h
 ·rename_i e' hu
  split at h
  ·rename_i ie hie
   split at h
   ·rename_i z hz
    cases hc : (Nat.ble (len * ie.size) 16777216 && !(Nat.beq (len * ie.size) 0)) with
    | false => simp [hc] at h
    | true =>
     simp only [hc, cond_true] at h;simp only [Bool.and_eq_true, Bool.not_eq_true', Nat.ble_eq] at hc;cases hf : Instr.fill (fun i => some (i * ie.size, ie.size)) ((Array.range (len * ie.size)).map (z.cells[· % z.cells.size]!)) parts with
     | none => simp [hf] at h
     | some c =>
      simp [hf] at h;obtain ⟨rfl, rfl⟩ := h;refine run_buildSlice w t e' len parts.toArray c ie z hu hie hz J (fun h0 => ?_) hf;rw [h0] at hc;simp at hc
   ·cases h
  ·cases h
 ·cases h
section
variable {ro : Cx} {n : Nat} {F : Fin} {k : List It} {ops : Array Oper} {l rest : List Oper} {e : Env} {w : World}
theorem yl_mk {d t : Nat} {parts : List (Nat × Operand)} {us : List Value} (cells : Array Value) {ty : TypeId} {pos : String} {af : Array Edge}
  (hp : oI e (parts.map (·.2)) = some us) (hb : P.built t ((parts.map (·.1)).zip us) = some cells) (hd : Nat.blt d n = true)
  (h : YL P ro n F k ops rest ((d, .agg cells) :: e) w) : YL P ro n F k ops (⟨some d, .build t parts.toArray, ty, pos, af, none⟩ :: rest) e w :=
 yl_build hp (fun w => run_build w t _ cells hb) hd h
theorem yl_mkS {d t len : Nat} {parts : List (Nat × Operand)} {us : List Value} (et : Nat) (cs : List Value) {ty : TypeId} {pos : String} {af : Array Edge}
  (hp : oI e (parts.map (·.2)) = some us) (hb : builtS P t len ((parts.map (·.1)).zip us) = some (et, cs.toArray)) (hd : Nat.blt d n = true)
  (h : ∀ w', Chg [] w w' → w'.heap.size = w.heap.size + 1 → Blk w' w.heap.size cs et → YL P ro n F k ops rest ((d, aB9 w.heap.size len len) :: e) w') :
  YL P ro n F k ops (⟨some d, .buildSlice t len parts.toArray, ty, pos, af, none⟩ :: rest) e w :=
 yl_buildSlice hp (fun w => builtS_run hb w) hd h
variable {C : World → Prop}
theorem yf_mk {d t : Nat} {parts : List (Nat × Operand)} {us : List Value} (cells : Array Value) {ty : TypeId} {pos : String} {af : Array Edge}
  (hp : oI e (parts.map (·.2)) = some us) (hb : P.built t ((parts.map (·.1)).zip us) = some cells) (hd : Nat.blt d n = true)
  (h : YF P ro n F k ops C rest ((d, .agg cells) :: e) w) : YF P ro n F k ops C (⟨some d, .build t parts.toArray, ty, pos, af, none⟩ :: rest) e w :=
 yf_build hp (fun w => run_build w t _ cells hb) hd h
theorem yf_mkS {d t len : Nat} {parts : List (Nat × Operand)} {us : List Value} (et : Nat) (cs : List Value) {ty : TypeId} {pos : String} {af : Array Edge}
  (hp : oI e (parts.map (·.2)) = some us) (hb : builtS P t len ((parts.map (·.1)).zip us) = some (et, cs.toArray)) (hd : Nat.blt d n = true)
  (h : ∀ w', Chg [] w w' → w'.heap.size = w.heap.size + 1 → Blk w' w.heap.size cs et → C w' ∧ YF P ro n F k ops C rest ((d, aB9 w.heap.size len len) :: e) w') :
  YF P ro n F k ops C (⟨some d, .buildSlice t len parts.toArray, ty, pos, af, none⟩ :: rest) e w := by
 obtain ⟨h1, h2⟩ := h _ (eA _ _) (by simp) (fX w cs.toArray et);refine yf_eff Z hd (fun a hf => ?_) h1 h2;have e1 := hf.ops hp
 have e2 : (parts.toArray.map fun (x : Nat × Operand) => (x.1, a.eval x.2)) = ((parts.map (·.1)).zip us).toArray := by
  rw [← e1];simp only [List.map_toArray]
  congr 1
  clear hp hb h h1 h2 e1
  induction parts with
  | nil => rfl
  | cons p ps ih => simp [ih]
 simp only [execOp];rw [e2];simp [builtS_run hb w]
theorem own_nil (w : World) (base e size : Nat) : w.ownsRow base e size (.slice none 0 0) 0 [] := ⟨by simp, .inl ⟨rfl, rfl⟩⟩
theorem run_loadAB (hT : T.Ok P) {t m : Nat} {b : Nat} {us : List Value} {bt : TypeId} (h1 : fS T.agg t = some m) (hb : Blk w b us bt) (hl : us.length = m) :
  (loadVar t ⟨b, 0, none⟩).run P w = .ok (.agg us.toArray) w := by
 obtain ⟨r1, r2⟩ := agg_run hT h1 w;have r3 := fO (P := P) w ⟨b, 0, none⟩ m 0 #[] us hl (fun j hj => by rw [Nat.zero_add, Addr.add_lit, hb.cell, Nat.zero_add]);simp [loadVar, loadCells, r1, r2, r3]
end
end Go.Eng
namespace Go.Eng
set_option maxRecDepth 4000
open Go Go.RowKit
section
variable {P : Program} {ops : Array Oper} {Cq Ce : Nat → World → Prop}
def iF (P : Program) (ops : Array Oper) (Cq Ce : Nat → World → Prop) (K : Act → World → Prop) : List Nat → Act → World → Prop
 | [], a, w => K a w
 | i :: rest, a, w => match ops[i]? with
  | none => iF P ops Cq Ce K rest a w
  | some o => if Region.wanted o (yielded ops a.tmps) = true then
    (if eff o.op = true then bS P o a w (fun v w' => Ce i w' ∧ iF P ops Cq Ce K rest (a.put o.dst v) w')
     else ∃ v, (∀ w', Cq i w' → (execOp a.eval o).run P w' = .ok (.value v) w') ∧ iF P ops Cq Ce K rest (a.put o.dst v) w)
   else iF P ops Cq Ce K rest (a.put o.dst undef) w
variable {K : Act → World → Prop}
theorem fl_swap_quiet2 (hF : FlOk ops) {j : Nat} {oj : Oper} (hj : ops[j]? = some oj) (hne : eff oj.op = false) : ∀ (l1 l2 : List Nat) (a : Act) (w : World),
  (∀ i ∈ l1, ∀ oi, ops[i]? = some oi → oi.apart ops oj = true ∧ (eff oi.op = true → ∀ w', Ce i w' → Cq j w')) → Region.wanted oj (yielded ops a.tmps) = true → Cq j w → iF P ops Cq Ce K (l1 ++ j :: l2) a w →
  ∃ v, (∀ w', Cq j w' → (execOp a.eval oj).run P w' = .ok (.value v) w') ∧ iF P ops Cq Ce K (l1 ++ l2) (a.put oj.dst v) w := by
 intro l1
 induction l1 with
 | nil =>
  intro l2 a w _ hw hC h;simp only [List.nil_append, iF, hj, hw, if_true, hne] at h;simpa using h
 | cons i l1 ih =>
  intro l2 a w hap hw hC h;have ih' := fun a w => ih l2 a w (fun i' hi' => hap i' (List.mem_cons_of_mem _ hi'))
  simp only [List.cons_append, iF] at h ⊢;cases hi : ops[i]? with
  | none => simp only [hi] at h ⊢; exact ih' a w hw hC h
  | some oi =>
   simp only [hi] at h ⊢;obtain ⟨p1, p2, p3⟩ := Oper.apart_spec (hap i List.mem_cons_self oi hi).1;have kj := hF.kind j oj hj;have ki := hF.kind i oi hi;have ej : ∀ (a : Act) v, execOp (a.put oi.dst v).eval oj = execOp a.eval oj := fun a v => dF kj a oi.dst v p1
   have ei : ∀ (a : Act) v, execOp (a.put oj.dst v).eval oi = execOp a.eval oi := fun a v => dF ki a oj.dst v p3
   have wj : ∀ (a : Act) v, Region.wanted oj (yielded ops (a.put oi.dst v).tmps) = Region.wanted oj (yielded ops a.tmps) := fun a v => wanted_put oj a oi.dst v p1
   have wi : ∀ (a : Act) v, Region.wanted oi (yielded ops (a.put oj.dst v).tmps) = Region.wanted oi (yielded ops a.tmps) := fun a v => wanted_put oi a oj.dst v p3
   have cm : ∀ (a : Act) u v, (a.put oi.dst u).put oj.dst v = (a.put oj.dst v).put oi.dst u := fun a u v => Act.put_comm a u v p2
   by_cases hwi : Region.wanted oi (yielded ops a.tmps) = true
   ·simp only [hwi, if_true] at h;by_cases he : eff oi.op = true
    ·simp only [he, if_true] at h;obtain ⟨v0, w0, hC0, h0⟩ := h.some;obtain ⟨v, hv, _⟩ := ih' _ w0 (by rw [wj]; exact hw) ((hap i List.mem_cons_self oi hi).2 he w0 hC0) h0;simp only [ej] at hv;refine ⟨v, hv, ?_⟩;rw [wi];simp only [hwi, if_true, he]
     have h1 : bS P oi (a.put oj.dst v) w (fun u w' => Ce i w' ∧ iF P ops Cq Ce K (l1 ++ j :: l2) (a.put oi.dst u) w') := by
      unfold bS at h ⊢;rw [ei];exact h
     refine h1.mono fun u w' ⟨hC', h2⟩ => ⟨hC', ?_⟩;obtain ⟨v', hv', h3⟩ := ih' _ w' (by rw [wj]; exact hw) ((hap i List.mem_cons_self oi hi).2 he w' hC') h2
     simp only [ej] at hv';have e1 := hv w hC;have e2 := hv' w hC;rw [e1] at e2;have : v = v' := by simpa using e2
     subst this;rw [cm] at h3;exact h3
    ·simp only [he] at h;obtain ⟨u, hu, h⟩ := h;obtain ⟨v, hv, h3⟩ := ih' _ w (by rw [wj]; exact hw) hC h;simp only [ej] at hv;refine ⟨v, hv, ?_⟩;rw [wi];simp only [hwi, if_true, he];refine ⟨u, fun w' hC' => by rw [ei]; exact hu w' hC', ?_⟩;rw [cm] at h3;exact h3
   ·simp only [hwi] at h;obtain ⟨v, hv, h3⟩ := ih' _ w (by rw [wj]; exact hw) hC h;simp only [ej] at hv;refine ⟨v, hv, ?_⟩;rw [wi];simp only [hwi];rw [cm] at h3;exact h3
theorem fl_swap_skip2 (hF : FlOk ops) {j : Nat} {oj : Oper} (hj : ops[j]? = some oj) : ∀ (l1 l2 : List Nat) (a : Act) (w : World),
  (∀ i ∈ l1, ∀ oi, ops[i]? = some oi → oi.apart ops oj = true) → Region.wanted oj (yielded ops a.tmps) = false → iF P ops Cq Ce K (l1 ++ j :: l2) a w → iF P ops Cq Ce K (l1 ++ l2) (a.put oj.dst undef) w := by
 intro l1
 induction l1 with
 | nil =>
  intro l2 a w _ hw h;simp only [List.nil_append, iF, hj, hw] at h;simpa using h
 | cons i l1 ih =>
  intro l2 a w hap hw h;have ih' := fun a w => ih l2 a w (fun i' hi' => hap i' (List.mem_cons_of_mem _ hi'))
  simp only [List.cons_append, iF] at h ⊢;cases hi : ops[i]? with
  | none => simp only [hi] at h ⊢; exact ih' a w hw h
  | some oi =>
   simp only [hi] at h ⊢;obtain ⟨p1, p2, p3⟩ := Oper.apart_spec (hap i List.mem_cons_self oi hi);have ki := hF.kind i oi hi;have ei : ∀ (a : Act) v, execOp (a.put oj.dst v).eval oi = execOp a.eval oi := fun a v => dF ki a oj.dst v p3
   have wj : ∀ (a : Act) v, Region.wanted oj (yielded ops (a.put oi.dst v).tmps) = Region.wanted oj (yielded ops a.tmps) := fun a v => wanted_put oj a oi.dst v p1
   have wi : ∀ (a : Act) v, Region.wanted oi (yielded ops (a.put oj.dst v).tmps) = Region.wanted oi (yielded ops a.tmps) := fun a v => wanted_put oi a oj.dst v p3
   have cm : ∀ (a : Act) u v, (a.put oi.dst u).put oj.dst v = (a.put oj.dst v).put oi.dst u := fun a u v => Act.put_comm a u v p2
   rw [wi];by_cases hwi : Region.wanted oi (yielded ops a.tmps) = true
   ·simp only [hwi, if_true] at h ⊢;by_cases he : eff oi.op = true
    ·simp only [he, if_true] at h ⊢
     have h1 : bS P oi (a.put oj.dst undef) w (fun u w' => Ce i w' ∧ iF P ops Cq Ce K (l1 ++ j :: l2) (a.put oi.dst u) w') := by
      unfold bS at h ⊢;rw [ei];exact h
     refine h1.mono fun u w' ⟨hC', h2⟩ => ⟨hC', ?_⟩;have h3 := ih' _ w' (by rw [wj]; exact hw) h2
     rw [cm] at h3;exact h3
    ·simp only [he] at h ⊢;obtain ⟨u, hu, h⟩ := h;have h3 := ih' _ w (by rw [wj]; exact hw) h;refine ⟨u, fun w' hC' => by rw [ei]; exact hu w' hC', ?_⟩;rw [cm] at h3;exact h3
   ·simp only [hwi] at h ⊢;have h3 := ih' _ w (by rw [wj]; exact hw) h;rw [cm] at h3;exact h3
theorem fl_swap_eff2 (hF : FlOk ops) {j : Nat} {oj : Oper} (hj : ops[j]? = some oj) (he : eff oj.op = true) : ∀ (l1 l2 : List Nat) (a : Act) (w : World),
  (∀ i ∈ l1, ∀ oi, ops[i]? = some oi → oi.apart ops oj = true ∧ eff oi.op = false) → Region.wanted oj (yielded ops a.tmps) = true → iF P ops Cq Ce K (l1 ++ j :: l2) a w →
  bS P oj a w (fun v w' => Ce j w' ∧ iF P ops Cq Ce K (l1 ++ l2) (a.put oj.dst v) w') := by
 intro l1
 induction l1 with
 | nil =>
  intro l2 a w _ hw h;simp only [List.nil_append, iF, hj, hw, if_true, he] at h;simpa using h
 | cons i l1 ih =>
  intro l2 a w hap hw h;have ih' := fun a w => ih l2 a w (fun i' hi' => hap i' (List.mem_cons_of_mem _ hi'))
  simp only [List.cons_append, iF] at h ⊢;cases hi : ops[i]? with
  | none => simp only [hi] at h ⊢; exact ih' a w hw h
  | some oi =>
   simp only [hi] at h ⊢;obtain ⟨hap', hei⟩ := hap i List.mem_cons_self oi hi;obtain ⟨p1, p2, p3⟩ := Oper.apart_spec hap';have kj := hF.kind j oj hj;have ki := hF.kind i oi hi;have ej : ∀ (a : Act) v, execOp (a.put oi.dst v).eval oj = execOp a.eval oj := fun a v => dF kj a oi.dst v p1
   have ei : ∀ (a : Act) v, execOp (a.put oj.dst v).eval oi = execOp a.eval oi := fun a v => dF ki a oj.dst v p3
   have wj : ∀ (a : Act) v, Region.wanted oj (yielded ops (a.put oi.dst v).tmps) = Region.wanted oj (yielded ops a.tmps) := fun a v => wanted_put oj a oi.dst v p1
   have wi : ∀ (a : Act) v, Region.wanted oi (yielded ops (a.put oj.dst v).tmps) = Region.wanted oi (yielded ops a.tmps) := fun a v => wanted_put oi a oj.dst v p3
   have cm : ∀ (a : Act) u v, (a.put oi.dst u).put oj.dst v = (a.put oj.dst v).put oi.dst u := fun a u v => Act.put_comm a u v p2
   by_cases hwi : Region.wanted oi (yielded ops a.tmps) = true
   ·simp only [hwi, if_true, hei] at h;simp only [Bool.false_eq_true, if_false] at h;obtain ⟨u, hu, h⟩ := h;have h3 := ih' _ w (by rw [wj]; exact hw) h
    have h4 : bS P oj a w (fun v w' => Ce j w' ∧ iF P ops Cq Ce K (l1 ++ l2) ((a.put oi.dst u).put oj.dst v) w') := by
     unfold bS at h3 ⊢;rw [ej] at h3;exact h3
    refine h4.mono fun v w' ⟨hC', h5⟩ => ⟨hC', ?_⟩;rw [wi]
    simp only [hwi, if_true, hei, Bool.false_eq_true, if_false];refine ⟨u, fun w' hC' => by rw [ei]; exact hu w' hC', ?_⟩;rw [cm] at h5;exact h5
   ·simp only [hwi] at h;simp only [Bool.false_eq_true, if_false] at h;have h3 := ih' _ w (by rw [wj]; exact hw) h
    have h4 : bS P oj a w (fun v w' => Ce j w' ∧ iF P ops Cq Ce K (l1 ++ l2) ((a.put oi.dst undef).put oj.dst v) w') := by
     unfold bS at h3 ⊢;rw [ej] at h3;exact h3
    refine h4.mono fun v w' ⟨hC', h5⟩ => ⟨hC', ?_⟩;rw [wi]
    simp only [hwi, Bool.false_eq_true, if_false];rw [cm] at h5;exact h5
variable {ro : Cx} {Q : Fin}
theorem any_of_fl2 (hF : FlOk ops) (hH : ∀ (i j : Nat) oi oj, ops[i]? = some oi → ops[j]? = some oj → eff oi.op = false → eff oj.op = true → (j < i ∨ ((dW ops.toList).getD j 0).testBit i = false) → ∀ w, Ce j w → Cq i w) (hK : ∀ a w, K a w → Q .normal a w) : ∀ (fuel : Nat) (R : List Nat) (listed : Array Bool) (a : Act) (w : World),
  R.length = fuel → listed.size = ops.size → R.Pairwise (· < ·) → (∀ i, i ∈ R ↔ i < ops.size ∧ listed.getD i true = false) →
  (∀ (m : Nat) o, ops[m]? = some o → listed.getD m false = true → ∀ e ∈ o.after, Region.binds .any e = true → listed.getD e.on false = true) →
  (∀ i ∈ R, ∀ o, ops[i]? = some o → eff o.op = false → Cq i w) → iF P ops Cq Ce K R a w → wpAnyIn (FR ro.ro) 0 P .any ops Q fuel listed a w := by
 intro fuel
 induction fuel with
 | zero =>
  intro R listed a w hl hsz hR hmem hcl hC h;have : R = [] := by simpa using hl
  subst this;refine ⟨?_, hK _ _ h⟩;refine List.eq_nil_iff_forall_not_mem.2 fun i hi => ?_
  obtain ⟨h0, o, ho, _⟩ := mem_ready.1 hi;exact absurd ((hmem i).2 ⟨(Array.getElem?_eq_some_iff.1 ho).1, h0⟩) (by simp)
 | succ fuel ih =>
  intro R listed a w hl hsz hR hmem hcl hC h;refine ⟨fun h0 => ?_, fun j hj => ?_⟩
  · -- nothing is ready: but the first of R waits for earlier ones alone, all of which are listed
   exfalso;cases R with
   | nil => simp at hl
   | cons i R =>
    obtain ⟨hi1, hi2⟩ := (hmem i).1 List.mem_cons_self
    have hrd : i ∈ Region.ready .any ops listed := by
     refine mem_ready.2 ⟨hi2, ops[i], Array.getElem?_eq_getElem hi1, fun e he hb => ?_⟩;have hlt := hF.back i _ (Array.getElem?_eq_getElem hi1) e he hb
     have hnot : e.on ∉ i :: R := by
      intro hx;rcases List.mem_cons.1 hx with hx | hx
      ·omega
      ·have := List.rel_of_pairwise_cons hR hx;omega
     have h3 : ¬ (e.on < ops.size ∧ listed.getD e.on true = false) := fun hx => hnot ((hmem _).2 hx)
     have h4 : e.on < listed.size := by omega
     simp only [Array.getD_eq_getD_getElem?, Array.getElem?_eq_getElem h4, Option.getD_some] at h3 ⊢;cases hc : listed[e.on] with
     | true => rfl
     | false => exact absurd ⟨by omega, hc⟩ h3
    rw [h0] at hrd;cases hrd
  ·obtain ⟨h0, oj, hoj, hre⟩ := mem_ready.1 hj;have hjR : j ∈ R := (hmem j).2 ⟨(Array.getElem?_eq_some_iff.1 hoj).1, h0⟩;obtain ⟨l1, l2, rfl⟩ := List.append_of_mem hjR;have hlt1 : ∀ i ∈ l1, i < j := fun i hi => (List.pairwise_append.1 hR).2.2 i hi j (by simp)
   have hjl : listed.getD j false = true → False := fun hx => by
    simp only [Array.getD_eq_getD_getElem?] at hx h0;cases hc : listed[j]? <;> simp [hc] at hx h0
    simp [hx] at h0
   have hun : ∀ i ∈ l1, ((dW ops.toList).getD j 0).testBit i = false := fun i hi => by
    cases hb : ((dW ops.toList).getD j 0).testBit i with
    | false => rfl
    | true =>
     have h1 := nD (D := fun m => listed.getD m false = true) (fun m o hm hD e he hb => hcl m o hm hD e he hb) j oj hoj (fun e he hb => hre e he hb) i hb;have h2 := ((hmem i).1 (by simp [hi])).2;simp only [Array.getD_eq_getD_getElem?] at h1 h2;cases hc : listed[i]? <;> simp [hc] at h1 h2
     simp [h1] at h2
   have hpair : ∀ i ∈ l1, ∀ oi, ops[i]? = some oi → oi.apart ops oj = true ∧ (eff oi.op = true → eff oj.op = true → False) := fun i hi oi hoi => by
    rcases hF.pair i j oi oj (hlt1 i hi) hoi hoj with h1 | h1
    ·rw [hun i hi] at h1; cases h1
    ·exact h1
   have next : ∀ a w, (∀ i ∈ l1 ++ l2, ∀ o, ops[i]? = some o → eff o.op = false → Cq i w) → iF P ops Cq Ce K (l1 ++ l2) a w → wpAnyIn (FR ro.ro) 0 P .any ops Q fuel (listed.setIfInBounds j true) a w := by
    intro a w hC h;refine ih (l1 ++ l2) _ a w ?_ (by simp [hsz]) ?_ ?_ ?_ hC h
    ·simp at hl ⊢; omega
    ·exact hR.sublist (List.Sublist.append_left (List.sublist_cons_self _ _) _)
    ·intro i
     have hnd : j ∉ l1 ++ l2 := by
      intro hx;rcases List.mem_append.1 hx with hx | hx
      ·exact absurd (hlt1 j hx) J
      ·have := (List.pairwise_append.1 hR).2.1;have := List.rel_of_pairwise_cons this hx;omega
     constructor
     ·intro hi;have hne : j ≠ i := fun e => hnd (e ▸ hi)
      have h1 := (hmem i).1 (by rcases List.mem_append.1 hi with hi | hi <;> simp [hi]);exact ⟨h1.1, by rw [getD_set_ne true hne]; exact h1.2⟩
     ·rintro ⟨h1, h2⟩
      have hne : j ≠ i := fun e => by
       subst e;simp [hsz, h1] at h2
      rw [getD_set_ne true hne] at h2;have := (hmem i).2 ⟨h1, h2⟩;rcases List.mem_append.1 this with hx | hx
      ·exact List.mem_append.2 (.inl hx)
      ·rcases List.mem_cons.1 hx with hx | hx
       ·exact absurd hx.symm hne
       ·exact List.mem_append.2 (.inr hx)
    ·intro m o hm hD e he hb;by_cases hmj : j = m
     ·subst hmj;rw [hoj] at hm;obtain rfl := Option.some.inj hm;exact getD_set_true (hre e he hb)
     ·rw [getD_set_ne false hmj] at hD;exact getD_set_true (hcl m o hm hD e he hb)
   unfold wpOpIn;simp only [hoj];by_cases hw : Region.wanted oj (yielded ops a.tmps) = true
   ·simp only [hw, if_true];cases he : eff oj.op with
    | true =>
     have h1 := fl_swap_eff2 hF hoj he l1 l2 a w (fun i hi oi hoi => ⟨(hpair i hi oi hoi).1, by
      cases hx : eff oi.op with
      | false => rfl
      | true => exact ((hpair i hi oi hoi).2 hx he).elim⟩) hw h
     exact bS.wpIn (hF.kind j oj hoj) (h1.mono fun v w' ⟨hC', h2⟩ => next _ _ (fun i hi o ho hq => hH i j o oj ho hoj hq he (by
      rcases List.mem_append.1 hi with hx | hx
      ·exact .inr (hun i hx)
      ·exact .inl (List.rel_of_pairwise_cons (List.pairwise_append.1 hR).2.1 hx)) w' hC') h2)
    | false =>
     obtain ⟨v, hv, h2⟩ := fl_swap_quiet2 hF hoj he l1 l2 a w (fun i hi oi hoi => ⟨(hpair i hi oi hoi).1, fun hei w' hC' => hH j i oj oi hoj hoi he hei (.inl (hlt1 i hi)) w' hC'⟩) hw (hC j (by simp) oj hoj he) h;exact upon_FR (fun c hc => by have := hF.kind j oj hoj; rw [hc] at this; cases this) (hv w (hC j (by simp) oj hoj he)) (next _ _ (fun i hi => hC i (by rcases List.mem_append.1 hi with hx | hx <;> simp [hx])) h2)
   ·have hw' : Region.wanted oj (yielded ops a.tmps) = false := by simpa using hw
    simp only [hw', Bool.false_eq_true, if_false];exact ⟨fun f _ => nZ f, next _ _ (fun i hi => hC i (by rcases List.mem_append.1 hi with hx | hx <;> simp [hx])) (fl_swap_skip2 hF hoj l1 l2 a w (fun i hi oi hoi => (hpair i hi oi hoi).1) hw' h)⟩
theorem iL {id : Nat} {a : Act} {w : World} (hm : P.follows .mixedOrders = true) (hF : FlOk ops) (hH : ∀ (i j : Nat) oi oj, ops[i]? = some oi → ops[j]? = some oj → eff oi.op = false → eff oj.op = true → (j < i ∨ ((dW ops.toList).getD j 0).testBit i = false) → ∀ w, Ce j w → Cq i w) (hC : ∀ i, Cq i { w with drawn := w.drawn + 1 })
  (hK : ∀ a w, K a w → Q .normal a w) (h : iF P ops Cq Ce K (List.range ops.size) a { w with drawn := w.drawn + 1 }) : (Code.region id ops true).wpIn (FR ro.ro) 0 P Q a w := by
 refine wpIn_region_any hm (any_of_fl2 hF hH hK ops.size (List.range ops.size) _ a _ (by simp) (by simp) List.pairwise_lt_range ?_ ?_ (fun i _ _ _ _ => hC i) h)
 ·intro i;simp only [List.mem_range];constructor
  ·intro hi;exact ⟨hi, by simp [hi]⟩
  ·exact fun hi => hi.1
 ·intro m o _ hD;simp only [Array.getD_eq_getD_getElem?, Array.getElem?_replicate] at hD;split at hD <;> simp at hD
end
section
variable {P : Program} {T : Tab} {ops : Array Oper}
def mO (P : Program) (ops : Array Oper) (C1 C2 : World → Prop) (K : Act → World → Prop) : List Bool → List Oper → Act → World → Prop
 | _, [], a, w => K a w
 | bs, o :: rest, a, w => if Region.wanted o (yielded ops a.tmps) = true then
    (if eff o.op = true then bS P o a w (fun v w' => (bif bs.headD false then C1 w' else C2 w') ∧ mO P ops C1 C2 K bs.tail rest (a.put o.dst v) w')
     else ∃ v, (∀ w', (bif bs.headD false then C1 w' else C2 w') → (execOp a.eval o).run P w' = .ok (.value v) w') ∧ mO P ops C1 C2 K bs.tail rest (a.put o.dst v) w)
   else mO P ops C1 C2 K bs.tail rest (a.put o.dst undef) w
def fP (C1 C2 : World → Prop) (bs : List Bool) (i : Nat) : World → Prop := fun w => bif bs.getD i false then C1 w else C2 w
theorem wpFlB_eq {C1 C2 : World → Prop} {K : Act → World → Prop} {bs : List Bool} (l : List Oper) : ∀ k, (∀ j, l[j]? = ops[k + j]?) → iF P ops (fP C1 C2 bs) (fP C1 C2 bs) K (List.range' k l.length) = mO P ops C1 C2 K (bs.drop k) l := by
 induction l with
 | nil => intro k _; funext a w; simp [iF, mO]
 | cons o l ih =>
  intro k h;have h0 : ops[k]? = some o := by simpa using (h 0).symm
  have ih' := ih (k + 1) (fun j => by have := h (j + 1); simpa [Nat.add_assoc, Nat.add_comm 1 j] using this);have e1 : (bs.drop k).headD false = bs.getD k false := by simp [List.headD_eq_head?_getD, List.head?_drop]
  have e2 : (bs.drop k).tail = bs.drop (k + 1) := by simp
  funext a w
  simp only [List.length_cons, List.range'_succ, iF, h0, mO, ih', e1, e2, fP]
def flagB (ops : Array Oper) (bs : List Bool) : Bool :=
 (List.range ops.size).all fun j => match ops[j]? with
  | none => true
  | some oj => !(eff oj.op) || bs.getD j false || (List.range ops.size).all fun i => match ops[i]? with
   | none => true
   | some oi => eff oi.op || !(bs.getD i false) || (Nat.blt i j && ((dW ops.toList).getD j 0).testBit i)
theorem nA {bs : List Bool} (h : flagB ops bs = true) {C1 C2 : World → Prop} (h12 : ∀ w, C1 w → C2 w) (i j : Nat) (oi oj : Oper) (hi : ops[i]? = some oi) (hj : ops[j]? = some oj) (hei : eff oi.op = false) (hej : eff oj.op = true)
  (hm : j < i ∨ ((dW ops.toList).getD j 0).testBit i = false) (w : World) (hC : fP C1 C2 bs j w) : fP C1 C2 bs i w := by
 have h1 := List.all_eq_true.1 h j (List.mem_range.2 (Array.getElem?_eq_some_iff.1 hj).1);simp only [hj, hej, Bool.not_true, Bool.false_or, Bool.or_eq_true] at h1;unfold fP at hC ⊢;rcases h1 with h1 | h1
 ·rw [h1] at hC;cases bs.getD i false with
  | true => exact hC
  | false => exact h12 _ hC
 ·have h2 := List.all_eq_true.1 h1 i (List.mem_range.2 (Array.getElem?_eq_some_iff.1 hi).1);simp only [hi, hei, Bool.false_or, Bool.or_eq_true, Bool.not_eq_true', Bool.and_eq_true, Nat.blt_eq] at h2;rcases h2 with h2 | h2
  ·rw [h2];cases hb : bs.getD j false with
   | true => rw [hb] at hC; exact h12 _ hC
   | false => rw [hb] at hC; exact hC
  ·exfalso;rcases hm with hm | hm
   ·omega
   ·rw [h2.2] at hm; cases hm
variable {ro : Cx} {n : Nat} {F : Fin} {k : List It} {l rest : List Oper} {e : Env} {w : World} {o : Oper}
def YB (P : Program) (ro : Cx) (n : Nat) (F : Fin) (k : List It) (ops : Array Oper) (C1 C2 : World → Prop) (bs : List Bool) (l : List Oper) (e : Env) (w : World) : Prop :=
 ∀ a, Fits n e a → a.defers = ro.ds → mO P ops C1 C2 (fun a w => S P ro.ro F k .normal a w) bs l a w
variable {C1 C2 : World → Prop}
theorem yb_nil {bs : List Bool} (h : Y P ro n F k e w) : YB P ro n F k ops C1 C2 bs [] e w := h
theorem yb_seg (b : Bool) (c : Nat) {bs : List Bool} (hb : (bs.take c).all (fun x => x == b) = true) (hc : c ≤ bs.length)
  (h : ∀ K1 : Act → World → Prop, (∀ e' w', YB P ro n F k ops C1 C2 (bs.drop c) (l.drop c) e' w' → ∀ a, Fits n e' a → a.defers = ro.ds → K1 a w') → YF P ro n F (.k K1 :: k) ops (bif b then C1 else C2) (l.take c) e w) :
  YB P ro n F k ops C1 C2 bs l e w := fun a hf hd => by
 have h1 := h (fun a w => mO P ops C1 C2 (fun a w => S P ro.ro F k .normal a w) (bs.drop c) (l.drop c) a w) (fun e' w' hY a hf hd => hY a hf hd) a hf hd;clear h hf;generalize hk : (fun a w => S P ro.ro F k .normal a w) = K at h1 ⊢
 have key : ∀ (c : Nat) (bs : List Bool) (l : List Oper) (a : Act) (w : World), (bs.take c).all (fun x => x == b) = true → c ≤ bs.length →
   gK P ops (bif b then C1 else C2) (fun a w => mO P ops C1 C2 K (bs.drop c) (l.drop c) a w) (l.take c) a w → mO P ops C1 C2 K bs l a w := by
  intro c
  induction c with
  | zero => intro bs l a w _ _ h; simpa [gK] using h
  | succ c ih =>
   intro bs l a w hb hc h;cases bs with
   | nil => simp at hc
   | cons b0 bs =>
    simp only [List.take_succ_cons, List.all_cons, Bool.and_eq_true, beq_iff_eq] at hb;obtain ⟨rfl, hb⟩ := hb;cases l with
    | nil => simpa [gK, mO] using h
    | cons o l =>
     have hce : ∀ w', (bif b0 then C1 else C2) w' = (bif b0 then C1 w' else C2 w') := fun w' => by cases b0 <;> rfl
     simp only [List.take_succ_cons, List.drop_succ_cons, gK] at h;simp only [mO, List.headD_cons, List.tail_cons];by_cases hw : Region.wanted o (yielded ops a.tmps) = true
     ·simp only [hw, if_true] at h ⊢;by_cases he : eff o.op = true
      ·simp only [he, if_true] at h ⊢;refine h.mono fun v w' ⟨h1, h2⟩ => ⟨by rw [← hce]; exact h1, ih bs l _ _ hb (by simpa using hc) h2⟩
      ·simp only [he] at h ⊢;obtain ⟨v, hv, h2⟩ := h;exact ⟨v, fun w' hw' => hv w' (by rw [hce]; exact hw'), ih bs l _ _ hb (by simpa using hc) h2⟩
     ·simp only [hw] at h ⊢;exact ih bs l _ _ hb (by simpa using hc) h
 have h2 : ∀ a w, S P ro.ro F (.k (fun a w => mO P ops C1 C2 K (bs.drop c) (l.drop c) a w) :: k) .normal a w = mO P ops C1 C2 K (bs.drop c) (l.drop c) a w := fun a w => rfl
 refine key c bs l a w hb hc ?_;simp only [h2] at h1;exact h1
end
def cellsOf (es : List Value) : List Value := es.flatMap (fun v => v.cells.toList)
theorem flat_get {sz : Nat} : ∀ (es : List Value), (∀ e ∈ es, e.cells.size = sz) → ∀ (i j : Nat) (hi : i < es.length), j < sz → (cellsOf es)[i * sz + j]? = (es[i].cells.toList)[j]?
 | [], _, i, j, hi, _ => by simp at hi
 | v :: es, h, i, j, hi, hj => by
  have hv := h v List.mem_cons_self;have hl : v.cells.toList.length = sz := by simpa using hv
  simp only [cellsOf, List.flatMap_cons];cases i with
  | zero =>
   rw [Nat.zero_mul, Nat.zero_add, List.getElem?_append_left J]
   rfl
  | succ i =>
   rw [List.getElem?_append_right (by rw [hl, Nat.succ_mul]; omega), hl];have := flat_get es (fun e he => h e (List.mem_cons_of_mem _ he)) i j (by simpa using hi) hj;rw [show (i + 1) * sz + j - sz = i * sz + j from by rw [Nat.succ_mul]; omega];exact this
theorem fY {sz : Nat} : ∀ (es : List Value), (∀ e ∈ es, e.cells.size = sz) → (cellsOf es).length = es.length * sz
 | [], _ => by simp [cellsOf]
 | v :: es, h => by
  have hv := h v List.mem_cons_self;have ih := fY es (fun e he => h e (List.mem_cons_of_mem _ he));simp only [cellsOf, List.flatMap_cons, List.length_append] at ih ⊢;rw [ih];simp [hv, Nat.succ_mul, Nat.add_comm]
structure RdE (w : World) (lo hi : Nat) (v : Value) (sz : Nat) (es : List Value) : Prop where
 rd : Rd w lo hi v sz es.length (cellsOf es)
 sz : ∀ e ∈ es, e.cells.size = sz
theorem RdE.chg {w w' : World} {lo hi : Nat} {v : Value} {sz : Nat} {es : List Value} {N : List Nat} (h : RdE w lo hi v sz es) (c : Chg N w w') (hN : ∀ k ∈ N, k < lo ∨ hi ≤ k) : RdE w' lo hi v sz es := ⟨h.rd.chg c hN, h.sz⟩
theorem RdE.keep {w w' : World} {lo hi : Nat} {v : Value} {sz : Nat} {es : List Value} (h : RdE w lo hi v sz es) (c : Chg [] w w') : RdE w' lo hi v sz es := ⟨h.rd.keep c, h.sz⟩
theorem RdE.wide {w : World} {lo hi lo' hi' : Nat} {v : Value} {sz : Nat} {es : List Value} (h : RdE w lo hi v sz es) (hl : lo' ≤ lo) (hh : hi ≤ hi') : RdE w lo' hi' v sz es := ⟨h.rd.wide hl hh, h.sz⟩
theorem RdE.out {w : World} {lo hi : Nat} {v : Value} {sz : Nat} {es : List Value} (h : RdE w lo hi v sz es) :
  ∃ a cap, v = .slice a es.length cap ∧ (0 < es.length → ∃ b off, a = some ⟨b, off, none⟩) := by
 obtain ⟨a, cap, hv, hs⟩ := h.rd.out;exact ⟨a, cap, hv, fun hp => let ⟨b, off, ha, _⟩ := hs hp; ⟨b, off, ha⟩⟩
theorem RdE.cell {w : World} {lo hi : Nat} {b off len cap : Nat} {sz : Nat} {es : List Value} (h : RdE w lo hi (.slice (some ⟨b, off, none⟩) len cap) sz es) (i j : Nat) (hi : i < es.length) (hj : j < sz) :
  w.cell? ⟨b, off + i * sz + j, none⟩ = (es[i].cells.toList)[j]? := by
 obtain ⟨a, cap', hv, hs⟩ := h.rd.out;cases hv
 have hl := fY es h.sz
 have hlt : i * sz + j < (cellsOf es).length := by
  rw [hl];have : (i + 1) * sz ≤ es.length * sz := Nat.mul_le_mul_right _ hi;rw [Nat.succ_mul] at this;omega
 rw [Nat.add_assoc, h.rd.cell rfl _ hlt, flat_get es h.sz i j hi hj]
theorem RdE.cell1 {w : World} {lo hi : Nat} {b off len cap : Nat} {es : List Value} (h : RdE w lo hi (.slice (some ⟨b, off, none⟩) len cap) 1 es) (i : Nat) (hi : i < es.length) (h1 : dJ es[i] = true) :
  w.cell? ⟨b, off + i * 1, none⟩ = some es[i] := by
 have := h.cell i 0 hi J;rw [Nat.add_zero] at this;rw [this];generalize es[i] = v at *;cases v <;> first | (simp [dJ] at h1; done) | rfl
abbrev aX (l : List Int) : List Value := l.map (Value.int .i64)
abbrev RdI (w : World) (lo hi : Nat) (v : Value) (l : List Int) : Prop := RdE w lo hi v 1 (aX l)
def PredAt (P : Program) (T : Tab) (w0 : World) (cv : Value) (es : List Value) (p : Value → Bool) : Prop :=
 ∃ g first caps, cv = .func (.func g) first caps ∧ has T.fn g = true ∧
  ∀ w, Chg [] w0 w → ∀ x ∈ es, Ca P g (first.toList ++ [x] ++ caps.toList) w fun v w' => v = .bool (p x) ∧ Chg [] w w'
theorem PredAt.keep {P : Program} {T : Tab} {w0 w1 : World} {cv : Value} {es : List Value} {p : Value → Bool} (h : PredAt P T w0 cv es p) (c : Chg [] w0 w1) : PredAt P T w1 cv es p := by
 obtain ⟨g, f, cs, h1, h2, h3⟩ := h;exact ⟨g, f, cs, h1, h2, fun w hw => h3 w (c.trans hw)⟩
theorem Chg.up {N M : List Nat} {a b c : World} (h : Chg N a b) (g : Chg M b c) (hM : ∀ k ∈ M, k ∈ N ∨ a.heap.size ≤ k) : Chg N a c :=
 ⟨g.os.trans h.os, g.tape.trans h.tape, g.output.trans h.output, Nat.le_trans h.size g.size, fun k hk hn =>
  (g.block k (Nat.lt_of_lt_of_le hk h.size) (fun hm => by rcases hM k hm with h1 | h1 <;> first | exact hn h1 | omega)).trans (h.block k hk hn)⟩
theorem RdI.at {w : World} {lo hi b off len cap : Nat} {l : List Int} (h : RdI w lo hi (.slice (some ⟨b, off, none⟩) len cap) l) (i : Nat) (hi : i < l.length) :
  w.cell? ⟨b, off + i * 1, none⟩ = some (.int .i64 l[i]) := by
 have := RdE.cell1 h i (by simpa using hi) (by simp [dJ]);rw [this];simp
theorem RdI.outI {w : World} {lo hi : Nat} {v : Value} {l : List Int} (h : RdI w lo hi v l) :
  ∃ a cap, v = .slice a l.length cap ∧ (0 < l.length → ∃ b off, a = some ⟨b, off, none⟩) := by
 have := RdE.out h;simpa using this
def hitsOf (l : List Bool) : Nat := l.count true
abbrev cK (l : List Bool) : List Value := l.map Value.bool
abbrev RdB (w : World) (lo hi : Nat) (v : Value) (l : List Bool) : Prop := RdE w lo hi v 1 (cK l)
theorem RdB.at {w : World} {lo hi b off len cap : Nat} {l : List Bool} (h : RdB w lo hi (.slice (some ⟨b, off, none⟩) len cap) l) (i : Nat) (hi : i < l.length) :
  w.cell? ⟨b, off + i * 1, none⟩ = some (.bool l[i]) := by
 have := RdE.cell1 h i (by simpa using hi) (by simp [dJ]);rw [this];simp
theorem mM (l : List Int) : cellsOf (aX l) = aX l := by
 simp [cellsOf, List.flatMap_map, Value.cells]
 induction l with
 | nil => rfl
 | cons x l ih => simp [ih]
theorem oN (l : List Bool) : cellsOf (cK l) = cK l := by
 simp [cellsOf, List.flatMap_map, Value.cells]
 induction l with
 | nil => rfl
 | cons x l ih => simp [ih]
theorem ints_size (l : List Int) : ∀ e ∈ aX l, e.cells.size = 1 := by
 intro e he;obtain ⟨x, _, rfl⟩ := List.mem_map.1 he
 rfl
theorem bools_size (l : List Bool) : ∀ e ∈ cK l, e.cells.size = 1 := by
 intro e he;obtain ⟨x, _, rfl⟩ := List.mem_map.1 he
 rfl
theorem RdI.of {w : World} {lo hi : Nat} {v : Value} {l : List Int} (h : Rd w lo hi v 1 l.length (aX l)) : RdI w lo hi v l :=
 ⟨by rw [mM]; simpa using h, ints_size l⟩
theorem RdB.of {w : World} {lo hi : Nat} {v : Value} {l : List Bool} (h : Rd w lo hi v 1 l.length (cK l)) : RdB w lo hi v l :=
 ⟨by rw [oN]; simpa using h, bools_size l⟩
structure ChgP (N : Nat → Prop) (w w' : World) : Prop where
 os : w'.os = w.os
 tape : w'.tape = w.tape
 output : w'.output = w.output
 size : w.heap.size ≤ w'.heap.size
 block : ∀ k, k < w.heap.size → ¬ N k → w'.heap[k]? = w.heap[k]?
theorem Chg.P {N : List Nat} {w w' : World} (h : Chg N w w') : ChgP (· ∈ N) w w' := ⟨h.os, h.tape, h.output, h.size, h.block⟩
theorem ChgP.list {N : List Nat} {w w' : World} (h : ChgP (· ∈ N) w w') : Chg N w w' := ⟨h.os, h.tape, h.output, h.size, h.block⟩
theorem ChgP.refl (N : Nat → Prop) (w : World) : ChgP N w w := ⟨rfl, rfl, rfl, Nat.le_refl _, fun _ _ _ => rfl⟩
theorem ChgP.upP {N M : Nat → Prop} {a b c : World} (h : ChgP N a b) (g : ChgP M b c) (hM : ∀ k, M k → N k ∨ a.heap.size ≤ k) : ChgP N a c :=
 ⟨g.os.trans h.os, g.tape.trans h.tape, g.output.trans h.output, Nat.le_trans h.size g.size, fun k hk hn =>
  (g.block k (Nat.lt_of_lt_of_le hk h.size) (fun hm => by rcases hM k hm with h1 | h1 <;> first | exact hn h1 | omega)).trans (h.block k hk hn)⟩
theorem ChgP.up {N : Nat → Prop} {M : List Nat} {a b c : World} (h : ChgP N a b) (g : Chg M b c) (hM : ∀ k ∈ M, N k ∨ a.heap.size ≤ k) : ChgP N a c := h.upP g.P hM
abbrev M0 : Nat → Prop := fun _ => False
theorem ChgP.none {w w' : World} (h : ChgP M0 w w') : Chg [] w w' := ⟨h.os, h.tape, h.output, h.size, fun k hk _ => h.block k hk (fun h => h)⟩
theorem Chg.P0 {w w' : World} (h : Chg [] w w') : ChgP M0 w w' := ⟨h.os, h.tape, h.output, h.size, fun k hk _ => h.block k hk (by simp)⟩
inductive Ck where
 | pt (b : Nat) (cs : List Value) (t : TypeId)
 | ow (v : Value) (e sz n : Nat) (xs : List Value)
 | gn (D : Nat → Prop) (p : World → Prop) (st : ∀ w w' N, p w → ChgP N w w' → (∀ b, D b → ¬ N b) → p w')
def Ck.D : Ck → Nat → Prop
 | .pt b _ _, x => x = b
 | .ow v _ _ _ _, x => v.ownBlock = some x
 | .gn D _ _, x => D x
def Ck.p : Ck → World → Prop
 | .pt b cs t, w => Blk w b cs t
 | .ow v e sz n xs, w => w.ownsRow 0 e sz v n xs
 | .gn _ p _, w => p w
theorem Ck.st {c : Ck} {w w' : World} {N : Nat → Prop} (h : c.p w) (hc : ChgP N w w') (hb : ∀ b, c.D b → ¬ N b) : c.p w' := by
 cases c with
 | pt b cs t => exact (hc.block b (Blk.lt h) (hb b rfl)).trans h
 | ow v e sz n xs =>
  obtain ⟨h1, h2⟩ := h;refine ⟨h1, ?_⟩;rcases h2 with h2 | ⟨g, cap, cur, rfl, hg, hh, r⟩
  ·exact .inl h2
  ·exact .inr ⟨g, cap, cur, Z, hg, (hc.block g (Array.getElem?_eq_some_iff.1 hh).1 (hb g Z)).trans hh, r⟩
 | gn D p st => exact st w w' N h hc hb
structure Sat (w0 : World) (M : Nat → Prop) (H : List Ck) (w : World) : Prop where
 chg : ChgP M w0 w
 all : ∀ c ∈ H, c.p w
 sep : H.Pairwise (fun c d => ∀ b, c.D b → ¬ d.D b)
 bd : ∀ c ∈ H, ∀ b, c.D b → b < w.heap.size ∧ (M b ∨ w0.heap.size ≤ b)
theorem Sat.nil (w0 : World) (M : Nat → Prop) : Sat w0 M [] w0 := ⟨ChgP.refl _ _, by simp, .nil, by simp⟩
theorem Sat.keep {w0 : World} {M : Nat → Prop} {H : List Ck} {w w' : World} (h : Sat w0 M H w) (c : Chg [] w w') : Sat w0 M H w' :=
 ⟨h.chg.up c (by simp), fun x hx => Ck.st (h.all x hx) c.P0 (fun _ _ h => h), h.sep, fun x hx b hb => ⟨Nat.lt_of_lt_of_le (h.bd x hx b hb).1 c.size, (h.bd x hx b hb).2⟩⟩
theorem Sat.add {w0 : World} {M : Nat → Prop} {H : List Ck} {w w' : World} (h : Sat w0 M H w) (c : Chg [] w w') {x : Ck} (hp : x.p w') (hD : ∀ b, x.D b → w.heap.size ≤ b ∧ b < w'.heap.size) : Sat w0 M (x :: H) w' := by
 have h' := h.keep c;refine ⟨h'.chg, ?_, ?_, ?_⟩
 ·intro y hy;rcases List.mem_cons.1 hy with rfl | hy
  ·exact hp
  ·exact h'.all y hy
 ·refine List.pairwise_cons.2 ⟨fun y hy b hb hb' => ?_, h.sep⟩;have := (h.bd y hy b hb').1;have := (hD b hb).1;omega
 ·intro y hy b hb;rcases List.mem_cons.1 hy with rfl | hy
  ·exact ⟨(hD b hb).2, .inr (Nat.le_trans h.chg.size (hD b hb).1)⟩
  ·exact h'.bd y hy b hb
theorem Sat.chg0 {w0 : World} {H : List Ck} {w : World} (h : Sat w0 M0 H w) : Chg [] w0 w := h.chg.none
inductive Rp : List Ck → Ck → Ck → List Ck → Prop
 | z {H : List Ck} {c c' : Ck} : Rp (c :: H) c c' (c' :: H)
 | s {H H' : List Ck} {c c' d : Ck} : Rp H c c' H' → Rp (d :: H) c c' (d :: H')
theorem Rp.mem {H H' : List Ck} {c c' : Ck} (h : Rp H c c' H') : c ∈ H := by
 induction h with
 | z => exact List.mem_cons_self
 | s _ ih => exact List.mem_cons_of_mem _ ih
theorem Sat.mem {w0 : World} {M : Nat → Prop} {H : List Ck} {w : World} (h : Sat w0 M H w) {c : Ck} (hc : c ∈ H) : c.p w := h.all c hc
theorem Sat.blk {w0 : World} {M : Nat → Prop} {H : List Ck} {w : World} (h : Sat w0 M H w) {b : Nat} {cs : List Value} {t : TypeId} (hc : Ck.pt b cs t ∈ H) : Blk w b cs t := h.all _ hc
theorem Sat.tail {w0 : World} {M : Nat → Prop} {H : List Ck} {c : Ck} {w : World} (h : Sat w0 M (c :: H) w) : Sat w0 M H w :=
 ⟨h.chg, fun x hx => h.all x (List.mem_cons_of_mem _ hx), (List.pairwise_cons.1 h.sep).2, fun x hx => h.bd x (List.mem_cons_of_mem _ hx)⟩
theorem Sat.perm {w0 : World} {M : Nat → Prop} {H H' : List Ck} {w : World} (h : Sat w0 M H w) (hp : H.Perm H') : Sat w0 M H' w :=
 ⟨h.chg, fun x hx => h.all x (hp.mem_iff.2 hx), (hp.pairwise_iff (fun {_ _} hs b h1 h2 => hs b h2 h1)).1 h.sep, fun x hx => h.bd x (hp.mem_iff.2 hx)⟩
theorem Rp.perm {H H' : List Ck} {c c' : Ck} (h : Rp H c c' H') : ∃ R, H.Perm (c :: R) ∧ H'.Perm (c' :: R) := by
 induction h with
 | z => exact ⟨_, .refl _, .refl _⟩
 | @s H H' c c' d _ ih =>
  obtain ⟨R, h1, h2⟩ := ih;exact ⟨d :: R, (h1.cons d).trans (.swap _ _ _), (h2.cons d).trans (.swap _ _ _)⟩
theorem Sat.rep {w0 : World} {M : Nat → Prop} {N : List Nat} {H H' : List Ck} {c c' : Ck} {w w' : World} (h : Sat w0 M H w) (hr : Rp H c c' H') (g : Chg N w w') (hN : ∀ k ∈ N, c.D k) (hp : c'.p w')
  (hD : ∀ b, c'.D b → (c.D b ∨ w.heap.size ≤ b) ∧ b < w'.heap.size) : Sat w0 M H' w' := by
 obtain ⟨R, h1, h2⟩ := hr.perm;have h3 := h.perm h1;refine Sat.perm ?_ h2.symm;have hsep := List.pairwise_cons.1 h3.sep;have hbd := h3.bd c List.mem_cons_self;refine ⟨h.chg.up g (fun k hk => (hbd k (hN k hk)).2), ?_, List.pairwise_cons.2 ⟨?_, hsep.2⟩, ?_⟩
 ·intro y hy;rcases List.mem_cons.1 hy with rfl | hy
  ·exact hp
  ·exact Ck.st (h3.all y (List.mem_cons_of_mem _ hy)) g.P (fun b hb hm => hsep.1 y hy b (hN b hm) hb)
 ·intro y hy b hb hb';rcases (hD b hb).1 with h4 | h4
  ·exact hsep.1 y hy b h4 hb'
  ·have := (h3.bd y (List.mem_cons_of_mem _ hy) b hb').1;omega
 ·intro y hy b hb;rcases List.mem_cons.1 hy with rfl | hy
  ·refine ⟨(hD b hb).2, ?_⟩;rcases (hD b hb).1 with h4 | h4
   ·exact (hbd b h4).2
   ·exact .inr (Nat.le_trans h.chg.size h4)
  ·exact ⟨Nat.lt_of_lt_of_le (h3.bd y (List.mem_cons_of_mem _ hy) b hb).1 g.size, (h3.bd y (List.mem_cons_of_mem _ hy) b hb).2⟩
inductive Rm : List Ck → Ck → List Ck → Prop
 | z {H : List Ck} {c : Ck} : Rm (c :: H) c H
 | s {H H' : List Ck} {c d : Ck} : Rm H c H' → Rm (d :: H) c (d :: H')
inductive Sp : List Ck → List Ck → Prop
 | nil {H : List Ck} : Sp H []
 | cons {H H1 H' : List Ck} {c : Ck} : Rm H c H1 → Sp H1 H' → Sp H (c :: H')
theorem Rm.perm {H H' : List Ck} {c : Ck} (h : Rm H c H') : H.Perm (c :: H') := by
 induction h with
 | z => exact .refl _
 | @s H H' c d _ ih => exact (ih.cons d).trans (.swap _ _ _)
theorem Sat.sp {w0 : World} {M : Nat → Prop} {H H' : List Ck} {w : World} (h : Sat w0 M H w) (hs : Sp H H') : Sat w0 M H' w := by
 induction hs with
 | nil => exact ⟨h.chg, by simp, .nil, by simp⟩
 | @cons H H1 H' c hr _ ih =>
  have h1 := h.perm hr.perm;have h2 := ih h1.tail
  have key : ∀ {A B : List Ck}, Sp A B → ∀ c ∈ B, c ∈ A := by
   intro A B hs
   induction hs with
   | nil => intro c hc; simp at hc
   | @cons A A1 B c hr _ ih =>
    intro d hd;rcases List.mem_cons.1 hd with rfl | hd
    ·exact hr.perm.mem_iff.2 List.mem_cons_self
    ·exact hr.perm.mem_iff.2 (List.mem_cons_of_mem _ (ih d hd))
  rename_i hsp
  refine ⟨h.chg, ?_, List.pairwise_cons.2 ⟨fun y hy => (List.pairwise_cons.1 h1.sep).1 y (key hsp y hy), h2.sep⟩, ?_⟩
  ·intro y hy;rcases List.mem_cons.1 hy with rfl | hy
   ·exact h1.all _ List.mem_cons_self
   ·exact h2.all y hy
  ·intro y hy;rcases List.mem_cons.1 hy with rfl | hy
   ·exact h1.bd _ List.mem_cons_self
   ·exact h2.bd y hy
section
variable {P : Program} {T : Tab}
structure Q (P : Program) (ro : Cx) (n : Nat) (F : Fin) (w0 : World) (M : Nat → Prop) (k : List It) (e : Env) (H : List Ck) : Prop where
 h : ∀ w, Sat w0 M H w → Y P ro n F k e w
structure QL (P : Program) (ro : Cx) (n : Nat) (F : Fin) (w0 : World) (M : Nat → Prop) (k : List It) (ops : Array Oper) (l : List Oper) (e : Env) (H : List Ck) : Prop where
 h : ∀ w, Sat w0 M H w → YL P ro n F k ops l e w
structure QF (P : Program) (ro : Cx) (n : Nat) (F : Fin) (w0 : World) (M : Nat → Prop) (k : List It) (ops : Array Oper) (Hq : List Ck) (l : List Oper) (e : Env) (H : List Ck) : Prop where
 h : ∀ w, Sat w0 M (H ++ Hq) w → YF P ro n F k ops (Sat w0 M Hq) l e w
variable {ro : Cx} {n : Nat} {F : Fin} {w0 : World} {M : Nat → Prop} {k : List It} {ops : Array Oper} {l rest : List Oper} {e : Env} {H Hq : List Ck}
instance : CoeFun (Q P ro n F w0 M k e H) (fun _ => ∀ w, Sat w0 M H w → Y P ro n F k e w) := ⟨Q.h⟩
instance : CoeFun (QL P ro n F w0 M k ops l e H) (fun _ => ∀ w, Sat w0 M H w → YL P ro n F k ops l e w) := ⟨QL.h⟩
instance : CoeFun (QF P ro n F w0 M k ops Hq l e H) (fun _ => ∀ w, Sat w0 M (H ++ Hq) w → YF P ro n F k ops (Sat w0 M Hq) l e w) := ⟨QF.h⟩
theorem Sat.right {w : World} : ∀ {H : List Ck}, Sat w0 M (H ++ Hq) w → Sat w0 M Hq w
 | [], h => h
 | _ :: _, h => Sat.right (Sat.tail h)
theorem aC {c d : Code} (h : Q P ro n F w0 M (.code c :: .code d :: k) e H) : Q P ro n F w0 M (.code (.seq c d) :: k) e H := .mk fun w hs => cS (h w hs)
theorem aK (h : Q P ro n F w0 M k e H) : Q P ro n F w0 M (.code .skip :: k) e H := .mk fun w hs => lR (h w hs)
theorem q_label {l : Nat} (h : Q P ro n F w0 M k e H) : Q P ro n F w0 M (.code (.label l) :: k) e H := .mk fun w hs => y_label (h w hs)
theorem aM {id : Nat} {c : Code} (h : Q P ro n F w0 M (.code c :: .blk id :: k) e H) : Q P ro n F w0 M (.code (.block id c) :: k) e H := .mk fun w hs => iK (h w hs)
theorem bK {id : Nat} (h : Q P ro n F w0 M k e H) : Q P ro n F w0 M (.blk id :: k) e H := .mk fun w hs => y_blk (h w hs)
theorem bH {id : Nat} (k' : List It) (hk : oP id k = some k') (h : Q P ro n F w0 M k' e H) : Q P ro n F w0 M (.code (.exit id) :: k) e H := .mk fun w hs => y_exit k' hk (h w hs)
theorem aS (h : Q P ro n (fun _ => F .ret) w0 M [] e H) : Q P ro n F w0 M (.code .ret :: k) e H := .mk fun w hs => gU (h w hs)
theorem aH {c : Operand} {x y : Code} (hc : opv e c = some (.bool true)) (h : Q P ro n F w0 M (.code x :: k) e H) : Q P ro n F w0 M (.code (.cond c x y) :: k) e H := .mk fun w hs => y_cond_true hc (h w hs)
theorem aG {c : Operand} {x y : Code} (hc : opv e c = some (.bool false)) (h : Q P ro n F w0 M (.code y :: k) e H) : Q P ro n F w0 M (.code (.cond c x y) :: k) e H := .mk fun w hs => y_cond_false hc (h w hs)
theorem q_cond {c : Operand} {x y : Code} {t : Bool} (hc : opv e c = some (.bool t)) (ht : t = true → Q P ro n F w0 M (.code x :: k) e H) (hf : t = false → Q P ro n F w0 M (.code y :: k) e H) :
  Q P ro n F w0 M (.code (.cond c x y) :: k) e H := .mk fun w hs => pE hc (fun h => ht h w hs) (fun h => hf h w hs)
theorem dN {c : Operand} {x y : Code} {p : Prop} [Decidable p] (hc : opv e c = some (.bool (decide p))) (ht : p → Q P ro n F w0 M (.code x :: k) e H) (hf : ¬p → Q P ro n F w0 M (.code y :: k) e H) :
  Q P ro n F w0 M (.code (.cond c x y) :: k) e H := .mk fun w hs => y_if hc (fun h => ht h w hs) (fun h => hf h w hs)
theorem aB {id : Nat} {l : List Oper} (h : QL P ro n F w0 M k l.toArray l e H) : Q P ro n F w0 M (.code (.region id l.toArray false) :: k) e H := .mk fun w hs => bJ (h w hs)
theorem q_scope {r : List Deferred} {c : Code} (hF : ∀ l a w, ¬ F (.goto l) a w) (h : Q P ⟨none, r⟩ n F w0 M (.code c :: k) e H) : Q P ⟨none, r⟩ n F w0 M (.code (.scope c) :: k) e H := .mk fun w hs => y_scope hF (h w hs)
theorem aD (h : Q P ro n F w0 M k e H) : QL P ro n F w0 M k ops [] e H := .mk fun w hs => mW (h w hs)
theorem bZ {id : Nat} {l : List Oper} (Hq Hm : List Ck) (hH : Sp H (Hm ++ Hq)) (hm : P.follows .mixedOrders = true) (hB : flB l.toArray = true) (h : QF P ro n F w0 M k l.toArray Hq l e Hm) :
  Q P ro n F w0 M (.code (.region id l.toArray true) :: k) e H := .mk fun w hs a hf hd => by
 have hs1 := (hs.sp hH).keep (Chg.drew (N := []) w);have h1 := h _ hs1 a hf hd;refine wpIn_region_fl hm (flB_spec hB) (C := Sat w0 M Hq) hs1.right (fun _ _ _ h => h) ?_;have h2 := wpFl_eq (P := P) (ops := l.toArray) (C := Sat w0 M Hq) (K := fun a w => S P ro.ro F k .normal a w) l 0 (by simp);rw [show List.range l.toArray.size = List.range' 0 l.length from by simp [List.range_eq_range'], h2];exact h1
theorem aN (h : Q P ro n F w0 M k e (H ++ Hq)) : QF P ro n F w0 M k ops Hq [] e H := .mk fun w hs => yf_nil (h w hs)
theorem bM {σ : Type} {body : Code} (inv : σ → Prop) (m : σ → Nat) (env : σ → Env) (hp : σ → List Ck) (s0 : σ) (h0 : inv s0) (hs : Sub (env s0) e) (hH : Sp H (hp s0))
  (round : ∀ s, inv s → ∀ K : Act → World → Prop, (∀ s' e' H', inv s' → m s' < m s → Sub (env s') e' → Sp H' (hp s') → Q P ro n F w0 M (.k K :: k) e' H') → Q P ro n F w0 M (.code body :: .k K :: k) (env s) (hp s)) :
  Q P ro n F w0 M (.code (.loop body) :: k) e H := .mk fun w hw =>
 y_loop (fun m' l w' => ∃ s, inv s ∧ m' = m s ∧ l = env s ∧ Sat w0 M (hp s) w') (m := m s0) (l := env s0) ⟨s0, h0, rfl, rfl, hw.sp hH⟩ hs (by
  rintro m' l w' ⟨s, hi, rfl, rfl, hsat⟩ K hK;exact round s hi K (fun s' e' H' hi' hlt hsub hsp => .mk fun w'' hw'' a hf hd => hK (m s') (env s') e' w'' ⟨s', hi', Z, Z, hw''.sp hsp⟩ hlt hsub a hf hd) w' hsat)
end
section
variable {P : Program} {T : Tab}
variable {ro : Cx} {n : Nat} {F : Fin} {w0 : World} {M : Nat → Prop} {k : List It} {ops : Array Oper} {l rest : List Oper} {e : Env} {H Hq : List Ck}
theorem Rp.app {H H' : List Ck} {c c' : Ck} (h : Rp H c c' H') (R : List Ck) : Rp (H ++ R) c c' (H' ++ R) := by
 induction h with
 | z => exact .z
 | s _ ih => exact .s ih
theorem Rm.app {H H' : List Ck} {c : Ck} (h : Rm H c H') (R : List Ck) : Rm (H ++ R) c (H' ++ R) := by
 induction h with
 | z => exact .z
 | s _ ih => exact .s ih
theorem Sp.refl : ∀ (H : List Ck), Sp H H
 | [] => .nil
 | _ :: H => .cons .z (Sp.refl H)
theorem Sp.skip : ∀ (A R : List Ck), Sp (A ++ R) R
 | [], R => .refl R
 | a :: A, R => by
  have h := Sp.skip A R
  have key : ∀ {X Y : List Ck}, Sp X Y → Sp (a :: X) Y := by
   intro X Y hs
   induction hs with
   | nil => exact .nil
   | cons hr _ ih => exact .cons (.s hr) ih
  exact key h
theorem Sp.app {H H' : List Ck} (h : Sp H H') (R : List Ck) : Sp (H ++ R) (H' ++ R) := by
 induction h with
 | @nil H => exact Sp.skip H R
 | cons hr _ ih => exact .cons (hr.app R) ih
theorem aA (hT : T.Ok P) {t : Nat} {v : Value} {op : Op} {ty : TypeId} {pos : String} {af : Array Edge} (hv : evp T e op = some v) (ht : Nat.blt t n = true)
  (h : QL P ro n F w0 M k ops rest ((t, v) :: e) H) : QL P ro n F w0 M k ops (⟨some t, op, ty, pos, af, none⟩ :: rest) e H := .mk fun w hs => aY hT hv ht (h w hs)
theorem aA1 {t : Nat} {v : Value} {op : Op} {ty : TypeId} {pos : String} {af : Array Edge} (p_ : (T.Ok P) ∧ (evp T e op = some v) ∧ (Nat.blt t n = true)) (h : QL P ro n F w0 M k ops rest ((t, v) :: e) H) : QL P ro n F w0 M k ops (⟨some t, op, ty, pos, af, none⟩ :: rest) e H := aA p_.1 p_.2.1 p_.2.2 h
theorem aF (hT : T.Ok P) {t : Nat} {v : Value} {op : Op} {ty : TypeId} {pos : String} {af : Array Edge} (hv : evp T e op = some v) (he : eff op = false) (ht : Nat.blt t n = true)
  (h : QF P ro n F w0 M k ops Hq rest ((t, v) :: e) H) : QF P ro n F w0 M k ops Hq (⟨some t, op, ty, pos, af, none⟩ :: rest) e H := .mk fun w hs => yf_pure hT hv he ht (h w hs)
theorem aA2 {t : Nat} {v : Value} {op : Op} {ty : TypeId} {pos : String} {af : Array Edge} (p_ : (T.Ok P) ∧ (evp T e op = some v) ∧ (eff op = false) ∧ (Nat.blt t n = true)) (h : QF P ro n F w0 M k ops Hq rest ((t, v) :: e) H) : QF P ro n F w0 M k ops Hq (⟨some t, op, ty, pos, af, none⟩ :: rest) e H := aF p_.1 p_.2.1 p_.2.2.1 p_.2.2.2 h
theorem cP {o : BinOp} {t t' : Nat} {x y : Operand} {a b : Int} (hx : opv e x = some (.int .i64 a)) (hy : opv e y = some (.int .i64 b)) : evp T e (.binOp o t x y t') = oH o .i64 a b := by
 simp [evp, hx, hy, kindEq]
theorem aO (hT : T.Ok P) {t i : Nat} {x : Operand} {vs : Array Value} {v : Value} {ty : TypeId} {pos : String} {af : Array Edge} (hx : opv e x = some (.tuple vs)) (hv : vs.toList[i]? = some v) (ht : Nat.blt t n = true)
  (h : QL P ro n F w0 M k ops rest ((t, v) :: e) H) : QL P ro n F w0 M k ops (⟨some t, .extract x i, ty, pos, af, none⟩ :: rest) e H := aA hT (by simp only [evp, hx]; simpa using hv) ht h
theorem aB5 {t i : Nat} {x : Operand} {vs : Array Value} {v : Value} {ty : TypeId} {pos : String} {af : Array Edge} (p_ : (T.Ok P) ∧ (opv e x = some (.tuple vs)) ∧ (vs.toList[i]? = some v) ∧ (Nat.blt t n = true)) (h : QL P ro n F w0 M k ops rest ((t, v) :: e) H) : QL P ro n F w0 M k ops (⟨some t, .extract x i, ty, pos, af, none⟩ :: rest) e H := aO p_.1 p_.2.1 p_.2.2.1 p_.2.2.2 h
theorem cX (hT : T.Ok P) {t i : Nat} {x : Operand} {vs : Array Value} {v : Value} {ty : TypeId} {pos : String} {af : Array Edge} (hx : opv e x = some (.tuple vs)) (hv : vs.toList[i]? = some v) (ht : Nat.blt t n = true)
  (h : QF P ro n F w0 M k ops Hq rest ((t, v) :: e) H) : QF P ro n F w0 M k ops Hq (⟨some t, .extract x i, ty, pos, af, none⟩ :: rest) e H := aF hT (by simp only [evp, hx]; simpa using hv) rfl ht h
theorem aB8 {t i : Nat} {x : Operand} {vs : Array Value} {v : Value} {ty : TypeId} {pos : String} {af : Array Edge} (p_ : (T.Ok P) ∧ (opv e x = some (.tuple vs)) ∧ (vs.toList[i]? = some v) ∧ (Nat.blt t n = true)) (h : QF P ro n F w0 M k ops Hq rest ((t, v) :: e) H) : QF P ro n F w0 M k ops Hq (⟨some t, .extract x i, ty, pos, af, none⟩ :: rest) e H := cX p_.1 p_.2.1 p_.2.2.1 p_.2.2.2 h
def arV : BinOp → Int → Int → Option Int
 | .add, a, b => some (a + b)
 | .sub, a, b => some (a - b)
 | .mul, a, b => some (a * b)
 | _, _, _ => none
theorem arV_bin {o : BinOp} {a b c : Int} (h : arV o a b = some c) (h1 : -9223372036854775808 ≤ c) (h2 : c < 9223372036854775808) : oH o .i64 a b = some (.int .i64 c) := by
 cases o <;> simp [arV] at h <;> subst h <;> simp [oH, w64 h1 h2]
theorem aU (hT : T.Ok P) {d : Nat} {o : BinOp} {t t' : Nat} {x y : Operand} {a b c : Int} {ty : TypeId} {pos : String} {af : Array Edge} (hx : opv e x = some (.int .i64 a)) (hy : opv e y = some (.int .i64 b)) (hc : arV o a b = some c) (hd : Nat.blt d n = true)
  (h1 : -9223372036854775808 ≤ c) (h2 : c < 9223372036854775808) (h : QL P ro n F w0 M k ops rest ((d, .int .i64 c) :: e) H) : QL P ro n F w0 M k ops (⟨some d, .binOp o t x y t', ty, pos, af, none⟩ :: rest) e H :=
 aA hT ((cP hx hy).trans (arV_bin hc h1 h2)) hd h
theorem aA4 {d : Nat} {o : BinOp} {t t' : Nat} {x y : Operand} {a b c : Int} {ty : TypeId} {pos : String} {af : Array Edge} (p_ : (T.Ok P) ∧ (opv e x = some (.int .i64 a)) ∧ (opv e y = some (.int .i64 b)) ∧ (arV o a b = some c) ∧ (Nat.blt d n = true)) (h1 : -9223372036854775808 ≤ c) (h2 : c < 9223372036854775808) (h : QL P ro n F w0 M k ops rest ((d, .int .i64 c) :: e) H) : QL P ro n F w0 M k ops (⟨some d, .binOp o t x y t', ty, pos, af, none⟩ :: rest) e H := aU p_.1 p_.2.1 p_.2.2.1 p_.2.2.2.1 p_.2.2.2.2 h1 h2 h
theorem cF (hT : T.Ok P) {d : Nat} {o : BinOp} {t t' : Nat} {x y : Operand} {a b c : Int} {ty : TypeId} {pos : String} {af : Array Edge} (hx : opv e x = some (.int .i64 a)) (hy : opv e y = some (.int .i64 b)) (hc : arV o a b = some c) (hd : Nat.blt d n = true)
  (h1 : -9223372036854775808 ≤ c) (h2 : c < 9223372036854775808) (h : QF P ro n F w0 M k ops Hq rest ((d, .int .i64 c) :: e) H) : QF P ro n F w0 M k ops Hq (⟨some d, .binOp o t x y t', ty, pos, af, none⟩ :: rest) e H :=
 aF hT ((cP hx hy).trans (arV_bin hc h1 h2)) rfl hd h
theorem aA9 {d : Nat} {o : BinOp} {t t' : Nat} {x y : Operand} {a b c : Int} {ty : TypeId} {pos : String} {af : Array Edge} (p_ : (T.Ok P) ∧ (opv e x = some (.int .i64 a)) ∧ (opv e y = some (.int .i64 b)) ∧ (arV o a b = some c) ∧ (Nat.blt d n = true)) (h1 : -9223372036854775808 ≤ c) (h2 : c < 9223372036854775808) (h : QF P ro n F w0 M k ops Hq rest ((d, .int .i64 c) :: e) H) : QF P ro n F w0 M k ops Hq (⟨some d, .binOp o t x y t', ty, pos, af, none⟩ :: rest) e H := cF p_.1 p_.2.1 p_.2.2.1 p_.2.2.2.1 p_.2.2.2.2 h1 h2 h
theorem evp_neg {t : Nat} {x : Operand} {a : Int} (hx : opv e x = some (.int .i64 a)) (h1 : -9223372036854775808 ≤ -a) (h2 : -a < 9223372036854775808) : evp T e (.unOp .neg t x) = some (.int .i64 (-a)) := by
 simp [evp, hx];rw [w64 J J]
theorem ql_neg (hT : T.Ok P) {d t : Nat} {x : Operand} {a : Int} {ty : TypeId} {pos : String} {af : Array Edge} (hx : opv e x = some (.int .i64 a)) (hd : Nat.blt d n = true) (h1 : -9223372036854775808 ≤ -a) (h2 : -a < 9223372036854775808)
  (h : QL P ro n F w0 M k ops rest ((d, .int .i64 (-a)) :: e) H) : QL P ro n F w0 M k ops (⟨some d, .unOp .neg t x, ty, pos, af, none⟩ :: rest) e H := aA hT (evp_neg hx h1 h2) hd h
theorem aE {dst : Option Nat} {op : Op} {ty : TypeId} {pos : String} {af : Array Edge} {j : Nat} {b : Bool} (hg : nU ops e j = some b)
  (h : QL P ro n F w0 M k ops (⟨dst, op, ty, pos, af, none⟩ :: rest) e H) : QL P ro n F w0 M k ops (⟨dst, op, ty, pos, af, some (j, b)⟩ :: rest) e H := .mk fun w hs => yl_guard_yes hg (h w hs)
theorem bQ {t : Nat} {op : Op} {ty : TypeId} {pos : String} {af : Array Edge} {j : Nat} {b c : Bool} (hg : nU ops e j = some c) (hne : (c == b) = false) (ht : Nat.blt t n = true)
  (h : QL P ro n F w0 M k ops rest ((t, undef) :: e) H) : QL P ro n F w0 M k ops (⟨some t, op, ty, pos, af, some (j, b)⟩ :: rest) e H := .mk fun w hs => yl_guard_no hg hne ht (h w hs)
theorem aA8 {t : Nat} {op : Op} {ty : TypeId} {pos : String} {af : Array Edge} {j : Nat} {b c : Bool} (p_ : (nU ops e j = some c) ∧ ((c == b) = false) ∧ (Nat.blt t n = true)) (h : QL P ro n F w0 M k ops rest ((t, undef) :: e) H) : QL P ro n F w0 M k ops (⟨some t, op, ty, pos, af, some (j, b)⟩ :: rest) e H := bQ p_.1 p_.2.1 p_.2.2 h
theorem aL {dst : Option Nat} {op : Op} {ty : TypeId} {pos : String} {af : Array Edge} {j : Nat} {b : Bool} (hg : nU ops e j = some b)
  (h : QF P ro n F w0 M k ops Hq (⟨dst, op, ty, pos, af, none⟩ :: rest) e H) : QF P ro n F w0 M k ops Hq (⟨dst, op, ty, pos, af, some (j, b)⟩ :: rest) e H := .mk fun w hs => yf_guard_yes hg (h w hs)
theorem dH {t : Nat} {op : Op} {ty : TypeId} {pos : String} {af : Array Edge} {j : Nat} {b c : Bool} (hg : nU ops e j = some c) (hne : (c == b) = false) (ht : Nat.blt t n = true)
  (h : QF P ro n F w0 M k ops Hq rest ((t, undef) :: e) H) : QF P ro n F w0 M k ops Hq (⟨some t, op, ty, pos, af, some (j, b)⟩ :: rest) e H := .mk fun w hs => yf_guard_no hg hne ht (h w hs)
def guardN (ops : Array Oper) (e : Env) (j : Nat) : Bool :=
 match (ops[j]?).bind (·.dst) with
 | some t => (match look e t with | some (.bool _) => false | some _ => true | none => false)
 | none => false
theorem nR {ops : Array Oper} {a : Act} (hf : Fits n e a) {j : Nat} (h : guardN ops e j = true) : yielded ops a.tmps j = none := by
 simp only [guardN] at h;cases hd : (ops[j]?).bind (·.dst) with
 | none => simp [hd] at h
 | some t =>
  simp only [hd] at h;cases hl : look e t with
  | none => simp [hl] at h
  | some v =>
   have h1 := hf.at_ t v hl;simp only [yielded, hd, Option.bind_some];simp only [Array.getD_eq_getD_getElem?] at h1;cases hc : a.tmps[t]? with
   | none => simp
   | some u =>
    simp [hc] at h1;subst h1;cases u <;> first | (simp [hl] at h; done) | simp
theorem oU {t : Nat} {op : Op} {ty : TypeId} {pos : String} {af : Array Edge} {j : Nat} {b : Bool} (hg : guardN ops e j = true) (ht : Nat.blt t n = true)
  (h : QL P ro n F w0 M k ops rest ((t, undef) :: e) H) : QL P ro n F w0 M k ops (⟨some t, op, ty, pos, af, some (j, b)⟩ :: rest) e H := .mk fun w hs a hf hd => by
 have hy := nR hf hg;have hw : ((none : Option Bool) == some b) = false := by cases b <;> rfl
 simp only [wpListIn, Region.wanted, hy, hw];exact ⟨fun f _ => nZ f, h w hs _ (hf.put undef ht) (by simpa [Act.put] using hd)⟩
theorem pZ {t : Nat} {op : Op} {ty : TypeId} {pos : String} {af : Array Edge} {j : Nat} {b : Bool} (hg : guardN ops e j = true) (ht : Nat.blt t n = true)
  (h : QF P ro n F w0 M k ops Hq rest ((t, undef) :: e) H) : QF P ro n F w0 M k ops Hq (⟨some t, op, ty, pos, af, some (j, b)⟩ :: rest) e H := .mk fun w hs a hf hd => by
 have hy := nR hf hg;have hw : ((none : Option Bool) == some b) = false := by cases b <;> rfl
 simp only [gK, Region.wanted, hy, hw];exact h w hs _ (hf.put undef ht) (by simpa [Act.put] using hd)
theorem pL {dst : Option Nat} {op : Op} {ty : TypeId} {pos : String} {af : Array Edge} {j t : Nat} {b c : Bool} (hg : guardT ops j = some t) (hl : look e t = some (.bool b))
  (hy : b = true → QL P ro n F w0 M k ops (⟨dst, op, ty, pos, af, some (j, c)⟩ :: rest) ((t, .bool true) :: e) H) (hn : b = false → QL P ro n F w0 M k ops (⟨dst, op, ty, pos, af, some (j, c)⟩ :: rest) ((t, .bool false) :: e) H) :
  QL P ro n F w0 M k ops (⟨dst, op, ty, pos, af, some (j, c)⟩ :: rest) e H := .mk fun w hs => yl_split hg hl (fun h => hy h w hs) (fun h => hn h w hs)
theorem bI (hT : T.Ok P) {d t : Nat} {x : Operand} {ad : Addr} {v : Value} {ty : TypeId} {pos : String} {af : Array Edge}
  (hx : opv e x = some (.pointer (some ad))) (h1 : has T.one t = true) (hd : Nat.blt d n = true) (hc : ∀ w, Sat w0 M H w → w.cell? ad = some v)
  (h : QL P ro n F w0 M k ops rest ((d, v) :: e) H) : QL P ro n F w0 M k ops (⟨some d, .load t x, ty, pos, af, none⟩ :: rest) e H := .mk fun w hs => pD hT hx h1 hd (hc w hs) (h w hs)
theorem dC (hT : T.Ok P) {d t m : Nat} {x : Operand} {b off : Nat} {cs : List Value} {ty : TypeId} {pos : String} {af : Array Edge}
  (hx : opv e x = some (.pointer (some ⟨b, off, none⟩))) (h1 : fS T.agg t = some m) (hd : Nat.blt d n = true) (hl : cs.length = m) (hc : ∀ w, Sat w0 M H w → ∀ j, j < m → w.cell? ⟨b, off + j, none⟩ = cs[j]?)
  (h : QL P ro n F w0 M k ops rest ((d, .agg cs.toArray) :: e) H) : QL P ro n F w0 M k ops (⟨some d, .load t x, ty, pos, af, none⟩ :: rest) e H := .mk fun w hs => yl_loadA hT hx h1 hd hl (hc w hs) (h w hs)
theorem aR (hT : T.Ok P) {d t : Nat} {x : Operand} {ad : Addr} {v : Value} {ty : TypeId} {pos : String} {af : Array Edge}
  (hx : opv e x = some (.pointer (some ad))) (h1 : has T.one t = true) (hd : Nat.blt d n = true) (hc : ∀ w, Sat w0 M Hq w → w.cell? ad = some v)
  (h : QF P ro n F w0 M k ops Hq rest ((d, v) :: e) H) : QF P ro n F w0 M k ops Hq (⟨some d, .load t x, ty, pos, af, none⟩ :: rest) e H := .mk fun w hs => yf_load1 hT hx h1 hd hc (h w hs)
theorem cV (hT : T.Ok P) {d t m : Nat} {x : Operand} {b off : Nat} {cs : List Value} {ty : TypeId} {pos : String} {af : Array Edge}
  (hx : opv e x = some (.pointer (some ⟨b, off, none⟩))) (h1 : fS T.agg t = some m) (hd : Nat.blt d n = true) (hl : cs.length = m) (hc : ∀ w, Sat w0 M Hq w → ∀ j, j < m → w.cell? ⟨b, off + j, none⟩ = cs[j]?)
  (h : QF P ro n F w0 M k ops Hq rest ((d, .agg cs.toArray) :: e) H) : QF P ro n F w0 M k ops Hq (⟨some d, .load t x, ty, pos, af, none⟩ :: rest) e H := .mk fun w hs => yf_loadA hT hx h1 hd hl hc (h w hs)
theorem ql_loadB (hT : T.Ok P) {d t : Nat} {x : Operand} {b i : Nat} {cs : List Value} {bt : TypeId} {v : Value} {ty : TypeId} {pos : String} {af : Array Edge}
  (hx : opv e x = some (.pointer (some ⟨b, i, none⟩))) (h1 : has T.one t = true) (hd : Nat.blt d n = true) (hb : Ck.pt b cs bt ∈ H) (hv : cs[i]? = some v)
  (h : QL P ro n F w0 M k ops rest ((d, v) :: e) H) : QL P ro n F w0 M k ops (⟨some d, .load t x, ty, pos, af, none⟩ :: rest) e H := bI hT hx h1 hd (fun _ hs => (Blk.cell (hs.mem hb) i).trans hv) h
theorem ql_loadAB (hT : T.Ok P) {d t m : Nat} {x : Operand} {b i : Nat} {cs us : List Value} {bt : TypeId} {ty : TypeId} {pos : String} {af : Array Edge}
  (hx : opv e x = some (.pointer (some ⟨b, i, none⟩))) (h1 : fS T.agg t = some m) (hd : Nat.blt d n = true) (hb : Ck.pt b cs bt ∈ H) (hu : (cs.drop i).take m = us) (hl : us.length = m)
  (h : QL P ro n F w0 M k ops rest ((d, .agg us.toArray) :: e) H) : QL P ro n F w0 M k ops (⟨some d, .load t x, ty, pos, af, none⟩ :: rest) e H :=
 dC hT hx h1 hd hl (fun _ hs j hj => by rw [Blk.cell (hs.mem hb), ← hu, List.getElem?_take, if_pos hj, List.getElem?_drop]) h
theorem qf_loadB (hT : T.Ok P) {d t : Nat} {x : Operand} {b i : Nat} {cs : List Value} {bt : TypeId} {v : Value} {ty : TypeId} {pos : String} {af : Array Edge}
  (hx : opv e x = some (.pointer (some ⟨b, i, none⟩))) (h1 : has T.one t = true) (hd : Nat.blt d n = true) (hb : Ck.pt b cs bt ∈ Hq) (hv : cs[i]? = some v)
  (h : QF P ro n F w0 M k ops Hq rest ((d, v) :: e) H) : QF P ro n F w0 M k ops Hq (⟨some d, .load t x, ty, pos, af, none⟩ :: rest) e H := aR hT hx h1 hd (fun _ hs => (Blk.cell (hs.mem hb) i).trans hv) h
theorem qf_loadAB (hT : T.Ok P) {d t m : Nat} {x : Operand} {b i : Nat} {cs us : List Value} {bt : TypeId} {ty : TypeId} {pos : String} {af : Array Edge}
  (hx : opv e x = some (.pointer (some ⟨b, i, none⟩))) (h1 : fS T.agg t = some m) (hd : Nat.blt d n = true) (hb : Ck.pt b cs bt ∈ Hq) (hu : (cs.drop i).take m = us) (hl : us.length = m)
  (h : QF P ro n F w0 M k ops Hq rest ((d, .agg us.toArray) :: e) H) : QF P ro n F w0 M k ops Hq (⟨some d, .load t x, ty, pos, af, none⟩ :: rest) e H :=
 cV hT hx h1 hd hl (fun _ hs j hj => by rw [Blk.cell (hs.mem hb), ← hu, List.getElem?_take, if_pos hj, List.getElem?_drop]) h
theorem aJ (hT : T.Ok P) {d t : Nat} {x : Operand} {b i : Nat} {cs : List Value} {bt : TypeId} {v : Value} {ty : TypeId} {pos : String} {af : Array Edge}
  (hx : opv e x = some (.pointer (some ⟨b, i, none⟩))) (h1 : has T.one t = true) (hd : Nat.blt d n = true)
  (h : QL P ro n F w0 M k ops rest ((d, v) :: e) H) (hb : Ck.pt b cs bt ∈ H := by repeat constructor) (hv : cs[i]? = some v := by rfl) : QL P ro n F w0 M k ops (⟨some d, .load t x, ty, pos, af, none⟩ :: rest) e H := ql_loadB hT hx h1 hd hb hv h
theorem aP (hT : T.Ok P) {d t m : Nat} {x : Operand} {b i : Nat} {cs us : List Value} {bt : TypeId} {ty : TypeId} {pos : String} {af : Array Edge}
  (hx : opv e x = some (.pointer (some ⟨b, i, none⟩))) (h1 : fS T.agg t = some m) (hd : Nat.blt d n = true)
  (h : QL P ro n F w0 M k ops rest ((d, .agg us.toArray) :: e) H) (hb : Ck.pt b cs bt ∈ H := by repeat constructor) (hu : (cs.drop i).take m = us := by rfl) (hl : us.length = m := by rfl) : QL P ro n F w0 M k ops (⟨some d, .load t x, ty, pos, af, none⟩ :: rest) e H := ql_loadAB hT hx h1 hd hb hu hl h
theorem bB (hT : T.Ok P) {d t : Nat} {x : Operand} {b i : Nat} {cs : List Value} {bt : TypeId} {v : Value} {ty : TypeId} {pos : String} {af : Array Edge}
  (hx : opv e x = some (.pointer (some ⟨b, i, none⟩))) (h1 : has T.one t = true) (hd : Nat.blt d n = true)
  (h : QF P ro n F w0 M k ops Hq rest ((d, v) :: e) H) (hb : Ck.pt b cs bt ∈ Hq := by repeat constructor) (hv : cs[i]? = some v := by rfl) : QF P ro n F w0 M k ops Hq (⟨some d, .load t x, ty, pos, af, none⟩ :: rest) e H := qf_loadB hT hx h1 hd hb hv h
theorem aV (hT : T.Ok P) {d t m : Nat} {x : Operand} {b i : Nat} {cs us : List Value} {bt : TypeId} {ty : TypeId} {pos : String} {af : Array Edge}
  (hx : opv e x = some (.pointer (some ⟨b, i, none⟩))) (h1 : fS T.agg t = some m) (hd : Nat.blt d n = true)
  (h : QF P ro n F w0 M k ops Hq rest ((d, .agg us.toArray) :: e) H) (hb : Ck.pt b cs bt ∈ Hq := by repeat constructor) (hu : (cs.drop i).take m = us := by rfl) (hl : us.length = m := by rfl) : QF P ro n F w0 M k ops Hq (⟨some d, .load t x, ty, pos, af, none⟩ :: rest) e H := qf_loadAB hT hx h1 hd hb hu hl h
theorem gA (hT : T.Ok P) {d t : Nat} {x : Operand} {b i : Nat} {cs : List Value} {bt : TypeId} {v : Value} {ty : TypeId} {pos : String} {af : Array Edge}
  (hx : opv e x = some (.pointer (some ⟨b, i, none⟩))) (h1 : has T.one t = true) (hd : Nat.blt d n = true) (hb : Blk w0 b cs bt) (hv : cs[i]? = some v)
  (h : QL P ro n F w0 M0 k ops rest ((d, v) :: e) H) : QL P ro n F w0 M0 k ops (⟨some d, .load t x, ty, pos, af, none⟩ :: rest) e H := bI hT hx h1 hd (fun _ hs => ((hb.keep hs.chg0).cell i).trans hv) h
theorem dV (hT : T.Ok P) {d t : Nat} {x : Operand} {b i : Nat} {cs : List Value} {bt : TypeId} {v : Value} {ty : TypeId} {pos : String} {af : Array Edge}
  (hx : opv e x = some (.pointer (some ⟨b, i, none⟩))) (h1 : has T.one t = true) (hd : Nat.blt d n = true) (hb : Blk w0 b cs bt) (hv : cs[i]? = some v)
  (h : QF P ro n F w0 M0 k ops Hq rest ((d, v) :: e) H) : QF P ro n F w0 M0 k ops Hq (⟨some d, .load t x, ty, pos, af, none⟩ :: rest) e H := aR hT hx h1 hd (fun _ hs => ((hb.keep hs.chg0).cell i).trans hv) h
theorem gC (hT : T.Ok P) {d t : Nat} {x : Operand} {b i : Nat} {cs : List Value} {bt : TypeId} {v : Value} {ty : TypeId} {pos : String} {af : Array Edge}
  (hx : opv e x = some (.pointer (some ⟨b, i, none⟩))) (h1 : has T.one t = true) (hd : Nat.blt d n = true) (hb : ∀ w', ChgP M w0 w' → Blk w' b cs bt) (hv : cs[i]? = some v)
  (h : QL P ro n F w0 M k ops rest ((d, v) :: e) H) : QL P ro n F w0 M k ops (⟨some d, .load t x, ty, pos, af, none⟩ :: rest) e H := bI hT hx h1 hd (fun w hs => ((hb w hs.chg).cell i).trans hv) h
theorem lD (hT : T.Ok P) {d t : Nat} {x : Operand} {b i : Nat} {cs : List Value} {bt : TypeId} {v : Value} {ty : TypeId} {pos : String} {af : Array Edge}
  (hx : opv e x = some (.pointer (some ⟨b, i, none⟩))) (h1 : has T.one t = true) (hd : Nat.blt d n = true) (hb : ∀ w', ChgP M w0 w' → Blk w' b cs bt) (hv : cs[i]? = some v)
  (h : QF P ro n F w0 M k ops Hq rest ((d, v) :: e) H) : QF P ro n F w0 M k ops Hq (⟨some d, .load t x, ty, pos, af, none⟩ :: rest) e H := aR hT hx h1 hd (fun w hs => ((hb w hs.chg).cell i).trans hv) h
structure ZeroOf (P : Program) (t : TypeId) (z : Value) : Prop where
 h : (P.info? t).bind (·.zero) = some z
theorem pt_new {w w' : World} {cs : List Value} {t : TypeId} (hz : w'.heap.size = w.heap.size + 1) : ∀ b, (Ck.pt w.heap.size cs t).D b → w.heap.size ≤ b ∧ b < w'.heap.size := by
 intro b hb;simp only [Ck.D] at hb;omega
theorem Sat.addPt {w w' : World} {cs : List Value} {t : TypeId} (h : Sat w0 M H w) (c : Chg [] w w') (hz : w'.heap.size = w.heap.size + 1) (hb : Blk w' w.heap.size cs t) : Sat w0 M (.pt w.heap.size cs t :: H) w' :=
 h.add (x := .pt w.heap.size cs t) c hb (pt_new hz)
theorem bR {d t : Nat} {x : Operand} {v : Value} {ty : TypeId} {pos : String} {af : Array Edge} (hx : opv e x = some v) (hd : Nat.blt d n = true)
  (h : ∀ b, QL P ro n F w0 M k ops rest ((d, aC0 b) :: e) (.pt b v.cells.toList t :: H)) : QL P ro n F w0 M k ops (⟨some d, .box t x, ty, pos, af, none⟩ :: rest) e H :=
 .mk fun _ hs => yl_box hx hd (fun w' hc hz hb => h _ w' (hs.addPt hc hz hb))
theorem bF {d t : Nat} {z : Value} {ty : TypeId} {pos : String} {af : Array Edge} (hz : ZeroOf P t z) (hd : Nat.blt d n = true)
  (h : ∀ b, QL P ro n F w0 M k ops rest ((d, aC0 b) :: e) (.pt b z.cells.toList t :: H)) : QL P ro n F w0 M k ops (⟨some d, .alloc t, ty, pos, af, none⟩ :: rest) e H :=
 .mk fun _ hs => yl_alloc hz.h hd (fun w' hc hz hb => h _ w' (hs.addPt hc hz hb))
theorem bG {d t : Nat} {z : Value} {ty : TypeId} {pos : String} {af : Array Edge} (hz : ZeroOf P t z) (hd : Nat.blt d n = true)
  (h : ∀ b, QF P ro n F w0 M k ops Hq rest ((d, aC0 b) :: e) (.pt b z.cells.toList t :: H)) : QF P ro n F w0 M k ops Hq (⟨some d, .alloc t, ty, pos, af, none⟩ :: rest) e H :=
 .mk fun _ hs => yf_alloc hz.h hd (fun w' hc hz hb => have hs' := hs.addPt hc hz hb; ⟨(hs'.tail).right, h _ w' hs'⟩)
theorem Sat.pt {w w' : World} {b : Nat} {cs cs' : List Value} {t : TypeId} {H' : List Ck} (hs : Sat w0 M H w) (hr : Rp H (.pt b cs t) (.pt b cs' t) H') (hc : Chg [b] w w') (hb : Blk w' b cs' t) : Sat w0 M H' w' :=
 hs.rep hr hc (fun k hk => by simpa [Ck.D] using hk) hb (fun x hx => ⟨.inl hx, by simp only [Ck.D] at hx; subst hx; exact Blk.lt hb⟩)
theorem fG (hT : T.Ok P) {t : Nat} {x y : Operand} {b i : Nat} {cs : List Value} {bt : TypeId} {v : Value} {H' : List Ck} {ty : TypeId} {pos : String} {af : Array Edge}
  (hx : opv e x = some (.pointer (some ⟨b, i, none⟩))) (hy : opv e y = some v) (h1 : has T.one t = true) (hv : dJ v = true) (hr : Rp H (.pt b cs bt) (.pt b (cs.set i v) bt) H') (hi : i < cs.length)
  (h : QL P ro n F w0 M k ops rest e H') : QL P ro n F w0 M k ops (⟨none, .store t x y, ty, pos, af, none⟩ :: rest) e H :=
 .mk fun _ hs => yl_store1 hT hx hy h1 hv (hs.mem hr.mem) hi (fun w' hc _ hb => h w' (hs.pt hr hc hb))
theorem ql_storeA (hT : T.Ok P) {t m : Nat} {x y : Operand} {b off : Nat} {cs us : List Value} {bt : TypeId} {H' : List Ck} {ty : TypeId} {pos : String} {af : Array Edge}
  (hx : opv e x = some (.pointer (some ⟨b, off, none⟩))) (hy : opv e y = some (.agg us.toArray)) (h1 : fS T.agg t = some m) (hm : us.length = m) (h1v : ∀ u ∈ us, dJ u = true) (hr : Rp H (.pt b cs bt) (.pt b (setL cs off us) bt) H') (hl : off + m ≤ cs.length)
  (h : QL P ro n F w0 M k ops rest e H') : QL P ro n F w0 M k ops (⟨none, .store t x y, ty, pos, af, none⟩ :: rest) e H :=
 .mk fun _ hs => yl_storeA hT hx hy h1 hm h1v (hs.mem hr.mem) hl (fun w' hc _ hb => h w' (hs.pt hr hc hb))
theorem qf_store1 (hT : T.Ok P) {t : Nat} {x y : Operand} {b i : Nat} {cs : List Value} {bt : TypeId} {v : Value} {H' : List Ck} {ty : TypeId} {pos : String} {af : Array Edge}
  (hx : opv e x = some (.pointer (some ⟨b, i, none⟩))) (hy : opv e y = some v) (h1 : has T.one t = true) (hv : dJ v = true) (hr : Rp H (.pt b cs bt) (.pt b (cs.set i v) bt) H') (hi : i < cs.length)
  (h : QF P ro n F w0 M k ops Hq rest e H') : QF P ro n F w0 M k ops Hq (⟨none, .store t x y, ty, pos, af, none⟩ :: rest) e H :=
 .mk fun _ hs => yf_store1 hT hx hy h1 hv (hs.mem (hr.app Hq).mem) hi (fun w' hc _ hb => have hs' := hs.pt (hr.app Hq) hc hb; ⟨hs'.right, h w' hs'⟩)
theorem qf_storeA (hT : T.Ok P) {t m : Nat} {x y : Operand} {b off : Nat} {cs us : List Value} {bt : TypeId} {H' : List Ck} {ty : TypeId} {pos : String} {af : Array Edge}
  (hx : opv e x = some (.pointer (some ⟨b, off, none⟩))) (hy : opv e y = some (.agg us.toArray)) (h1 : fS T.agg t = some m) (hm : us.length = m) (h1v : ∀ u ∈ us, dJ u = true) (hr : Rp H (.pt b cs bt) (.pt b (setL cs off us) bt) H') (hl : off + m ≤ cs.length)
  (h : QF P ro n F w0 M k ops Hq rest e H') : QF P ro n F w0 M k ops Hq (⟨none, .store t x y, ty, pos, af, none⟩ :: rest) e H :=
 .mk fun _ hs => yf_storeA hT hx hy h1 hm h1v (hs.mem (hr.app Hq).mem) hl (fun w' hc _ hb => have hs' := hs.pt (hr.app Hq) hc hb; ⟨hs'.right, h w' hs'⟩)
theorem eM (hT : T.Ok P) {t : Nat} {x y : Operand} {b : Nat} {u : Value} {bt : TypeId} {v : Value} {H' : List Ck} {ty : TypeId} {pos : String} {af : Array Edge}
  (hx : opv e x = some (aC0 b)) (hy : opv e y = some v) (h1 : has T.one t = true) (hv : dJ v = true) (hr : Rp H (.pt b [u] bt) (.pt b [v] bt) H')
  (h : QL P ro n F w0 M k ops rest e H') : QL P ro n F w0 M k ops (⟨none, .store t x y, ty, pos, af, none⟩ :: rest) e H := fG hT hx hy h1 hv hr (by simp) h
theorem ql_st0 (hT : T.Ok P) {t : Nat} {x y : Operand} {b : Nat} {u0 : Value} {us : List Value} {bt : TypeId} {v : Value} {H' : List Ck} {ty : TypeId} {pos : String} {af : Array Edge}
  (hx : opv e x = some (aC0 b)) (hy : opv e y = some v) (h1 : has T.one t = true) (hv : dJ v = true) (hr : Rp H (.pt b (u0 :: us) bt) (.pt b (v :: us) bt) H')
  (h : QL P ro n F w0 M k ops rest e H') : QL P ro n F w0 M k ops (⟨none, .store t x y, ty, pos, af, none⟩ :: rest) e H := fG hT hx hy h1 hv hr (by simp) h
theorem ql_st1 (hT : T.Ok P) {t : Nat} {x y : Operand} {b : Nat} {u0 u1 : Value} {us : List Value} {bt : TypeId} {v : Value} {H' : List Ck} {ty : TypeId} {pos : String} {af : Array Edge}
  (hx : opv e x = some (.pointer (some ⟨b, 1, none⟩))) (hy : opv e y = some v) (h1 : has T.one t = true) (hv : dJ v = true) (hr : Rp H (.pt b (u0 :: u1 :: us) bt) (.pt b (u0 :: v :: us) bt) H')
  (h : QL P ro n F w0 M k ops rest e H') : QL P ro n F w0 M k ops (⟨none, .store t x y, ty, pos, af, none⟩ :: rest) e H := fG hT hx hy h1 hv hr (by simp) h
theorem ql_st2 (hT : T.Ok P) {t : Nat} {x y : Operand} {b : Nat} {u0 u1 u2 : Value} {us : List Value} {bt : TypeId} {v : Value} {H' : List Ck} {ty : TypeId} {pos : String} {af : Array Edge}
  (hx : opv e x = some (.pointer (some ⟨b, 2, none⟩))) (hy : opv e y = some v) (h1 : has T.one t = true) (hv : dJ v = true) (hr : Rp H (.pt b (u0 :: u1 :: u2 :: us) bt) (.pt b (u0 :: u1 :: v :: us) bt) H')
  (h : QL P ro n F w0 M k ops rest e H') : QL P ro n F w0 M k ops (⟨none, .store t x y, ty, pos, af, none⟩ :: rest) e H := fG hT hx hy h1 hv hr (by simp) h
theorem ql_st3 (hT : T.Ok P) {t : Nat} {x y : Operand} {b : Nat} {u0 u1 u2 u3 : Value} {us : List Value} {bt : TypeId} {v : Value} {H' : List Ck} {ty : TypeId} {pos : String} {af : Array Edge}
  (hx : opv e x = some (.pointer (some ⟨b, 3, none⟩))) (hy : opv e y = some v) (h1 : has T.one t = true) (hv : dJ v = true) (hr : Rp H (.pt b (u0 :: u1 :: u2 :: u3 :: us) bt) (.pt b (u0 :: u1 :: u2 :: v :: us) bt) H')
  (h : QL P ro n F w0 M k ops rest e H') : QL P ro n F w0 M k ops (⟨none, .store t x y, ty, pos, af, none⟩ :: rest) e H := fG hT hx hy h1 hv hr (by simp) h
theorem ql_st4 (hT : T.Ok P) {t : Nat} {x y : Operand} {b : Nat} {u0 u1 u2 u3 u4 : Value} {us : List Value} {bt : TypeId} {v : Value} {H' : List Ck} {ty : TypeId} {pos : String} {af : Array Edge}
  (hx : opv e x = some (.pointer (some ⟨b, 4, none⟩))) (hy : opv e y = some v) (h1 : has T.one t = true) (hv : dJ v = true) (hr : Rp H (.pt b (u0 :: u1 :: u2 :: u3 :: u4 :: us) bt) (.pt b (u0 :: u1 :: u2 :: u3 :: v :: us) bt) H')
  (h : QL P ro n F w0 M k ops rest e H') : QL P ro n F w0 M k ops (⟨none, .store t x y, ty, pos, af, none⟩ :: rest) e H := fG hT hx hy h1 hv hr (by simp) h
theorem ql_st5 (hT : T.Ok P) {t : Nat} {x y : Operand} {b : Nat} {u0 u1 u2 u3 u4 u5 : Value} {us : List Value} {bt : TypeId} {v : Value} {H' : List Ck} {ty : TypeId} {pos : String} {af : Array Edge}
  (hx : opv e x = some (.pointer (some ⟨b, 5, none⟩))) (hy : opv e y = some v) (h1 : has T.one t = true) (hv : dJ v = true) (hr : Rp H (.pt b (u0 :: u1 :: u2 :: u3 :: u4 :: u5 :: us) bt) (.pt b (u0 :: u1 :: u2 :: u3 :: u4 :: v :: us) bt) H')
  (h : QL P ro n F w0 M k ops rest e H') : QL P ro n F w0 M k ops (⟨none, .store t x y, ty, pos, af, none⟩ :: rest) e H := fG hT hx hy h1 hv hr (by simp) h
theorem qf_st2 (hT : T.Ok P) {t : Nat} {x y : Operand} {b : Nat} {u0 u1 u2 : Value} {us : List Value} {bt : TypeId} {v : Value} {H' : List Ck} {ty : TypeId} {pos : String} {af : Array Edge}
  (hx : opv e x = some (.pointer (some ⟨b, 2, none⟩))) (hy : opv e y = some v) (h1 : has T.one t = true) (hv : dJ v = true) (hr : Rp H (.pt b (u0 :: u1 :: u2 :: us) bt) (.pt b (u0 :: u1 :: v :: us) bt) H')
  (h : QF P ro n F w0 M k ops Hq rest e H') : QF P ro n F w0 M k ops Hq (⟨none, .store t x y, ty, pos, af, none⟩ :: rest) e H := qf_store1 hT hx hy h1 hv hr (by simp) h
theorem qf_st3 (hT : T.Ok P) {t : Nat} {x y : Operand} {b : Nat} {u0 u1 u2 u3 : Value} {us : List Value} {bt : TypeId} {v : Value} {H' : List Ck} {ty : TypeId} {pos : String} {af : Array Edge}
  (hx : opv e x = some (.pointer (some ⟨b, 3, none⟩))) (hy : opv e y = some v) (h1 : has T.one t = true) (hv : dJ v = true) (hr : Rp H (.pt b (u0 :: u1 :: u2 :: u3 :: us) bt) (.pt b (u0 :: u1 :: u2 :: v :: us) bt) H')
  (h : QF P ro n F w0 M k ops Hq rest e H') : QF P ro n F w0 M k ops Hq (⟨none, .store t x y, ty, pos, af, none⟩ :: rest) e H := qf_store1 hT hx hy h1 hv hr (by simp) h
theorem setL_all : ∀ (cs us pre : List Value), us.length = cs.length → setL (pre ++ cs) pre.length us = pre ++ us
 | [], [], pre, _ => rfl
 | c :: cs, u :: us, pre, h => by
  have ih := setL_all cs us (pre ++ [u]) (by simpa using h);simp only [setL];rw [List.set_append_right _ _ (Nat.le_refl _), Nat.sub_self, List.set_cons_zero];simpa using ih
theorem bW (hT : T.Ok P) {t m : Nat} {x y : Operand} {b : Nat} {cs us : List Value} {bt : TypeId} {H' : List Ck} {ty : TypeId} {pos : String} {af : Array Edge}
  (hx : opv e x = some (aC0 b)) (hy : opv e y = some (.agg us.toArray)) (h1 : fS T.agg t = some m) (hm : us.length = m) (h1v : (us.all dJ) = true) (hr : Rp H (.pt b cs bt) (.pt b us bt) H') (hl : cs.length = m)
  (h : QL P ro n F w0 M k ops rest e H') : QL P ro n F w0 M k ops (⟨none, .store t x y, ty, pos, af, none⟩ :: rest) e H := by
 have e1 : setL cs 0 us = us := setL_all cs us [] J;exact ql_storeA hT hx hy h1 hm (List.all_eq_true.1 h1v) (by rw [e1]; exact hr) J h
theorem aB6 {t m : Nat} {x y : Operand} {b : Nat} {cs us : List Value} {bt : TypeId} {H' : List Ck} {ty : TypeId} {pos : String} {af : Array Edge} (p_ : (T.Ok P) ∧ (opv e x = some (aC0 b)) ∧ (opv e y = some (.agg us.toArray)) ∧ (fS T.agg t = some m) ∧ (us.length = m) ∧ ((us.all dJ) = true)) (hr : Rp H (.pt b cs bt) (.pt b us bt) H') (hl : cs.length = m) (h : QL P ro n F w0 M k ops rest e H') : QL P ro n F w0 M k ops (⟨none, .store t x y, ty, pos, af, none⟩ :: rest) e H := bW p_.1 p_.2.1 p_.2.2.1 p_.2.2.2.1 p_.2.2.2.2.1 p_.2.2.2.2.2 hr hl h
theorem cL (hT : T.Ok P) {t m : Nat} {x y : Operand} {b : Nat} {cs us : List Value} {bt : TypeId} {H' : List Ck} {ty : TypeId} {pos : String} {af : Array Edge}
  (hx : opv e x = some (aC0 b)) (hy : opv e y = some (.agg us.toArray)) (h1 : fS T.agg t = some m) (hm : us.length = m) (h1v : (us.all dJ) = true) (hr : Rp H (.pt b cs bt) (.pt b us bt) H') (hl : cs.length = m)
  (h : QF P ro n F w0 M k ops Hq rest e H') : QF P ro n F w0 M k ops Hq (⟨none, .store t x y, ty, pos, af, none⟩ :: rest) e H := by
 have e1 : setL cs 0 us = us := setL_all cs us [] J;exact qf_storeA hT hx hy h1 hm (List.all_eq_true.1 h1v) (by rw [e1]; exact hr) J h
theorem aB7 {t m : Nat} {x y : Operand} {b : Nat} {cs us : List Value} {bt : TypeId} {H' : List Ck} {ty : TypeId} {pos : String} {af : Array Edge} (p_ : (T.Ok P) ∧ (opv e x = some (aC0 b)) ∧ (opv e y = some (.agg us.toArray)) ∧ (fS T.agg t = some m) ∧ (us.length = m) ∧ ((us.all dJ) = true)) (hr : Rp H (.pt b cs bt) (.pt b us bt) H') (hl : cs.length = m) (h : QF P ro n F w0 M k ops Hq rest e H') : QF P ro n F w0 M k ops Hq (⟨none, .store t x y, ty, pos, af, none⟩ :: rest) e H := cL p_.1 p_.2.1 p_.2.2.1 p_.2.2.2.1 p_.2.2.2.2.1 p_.2.2.2.2.2 hr hl h
theorem kP (hT : T.Ok P) {d t : Nat} {x : Operand} {b off : Nat} {l : List Int} {bt : TypeId} {ty : TypeId} {pos : String} {af : Array Edge} (i : Nat)
  (hx : opv e x = some (.pointer (some ⟨b, off, none⟩))) (h1 : has T.one t = true) (hd : Nat.blt d n = true) (hb : Ck.pt b (aX l) bt ∈ H) (ho : off = i) (hi : i < l.length)
  (h : QL P ro n F w0 M k ops rest ((d, .int .i64 l[i]) :: e) H) : QL P ro n F w0 M k ops (⟨some d, .load t x, ty, pos, af, none⟩ :: rest) e H :=
 bI hT hx h1 hd (fun _ hs => (Blk.cell (hs.mem hb) off).trans (by subst ho; simp [hi])) h
theorem oJ (hT : T.Ok P) {t : Nat} {x y : Operand} {b off : Nat} {l : List Int} {z : Int} {bt : TypeId} {H' : List Ck} {ty : TypeId} {pos : String} {af : Array Edge} (i : Nat)
  (hx : opv e x = some (.pointer (some ⟨b, off, none⟩))) (hy : opv e y = some (.int .i64 z)) (h1 : has T.one t = true) (hr : Rp H (.pt b (aX l) bt) (.pt b (aX (l.set i z)) bt) H') (ho : off = i) (hi : i < l.length)
  (h : QL P ro n F w0 M k ops rest e H') : QL P ro n F w0 M k ops (⟨none, .store t x y, ty, pos, af, none⟩ :: rest) e H :=
 fG hT hx hy h1 rfl (by subst ho; rw [← List.map_set]; exact hr) (by subst ho; simpa using hi) h
theorem qf_loadI (hT : T.Ok P) {d t : Nat} {x : Operand} {b off : Nat} {l : List Int} {bt : TypeId} {ty : TypeId} {pos : String} {af : Array Edge} (i : Nat)
  (hx : opv e x = some (.pointer (some ⟨b, off, none⟩))) (h1 : has T.one t = true) (hd : Nat.blt d n = true) (hb : Ck.pt b (aX l) bt ∈ Hq) (ho : off = i) (hi : i < l.length)
  (h : QF P ro n F w0 M k ops Hq rest ((d, .int .i64 l[i]) :: e) H) : QF P ro n F w0 M k ops Hq (⟨some d, .load t x, ty, pos, af, none⟩ :: rest) e H :=
 aR hT hx h1 hd (fun _ hs => (Blk.cell (hs.mem hb) off).trans (by subst ho; simp [hi])) h
theorem qf_storeI (hT : T.Ok P) {t : Nat} {x y : Operand} {b off : Nat} {l : List Int} {z : Int} {bt : TypeId} {H' : List Ck} {ty : TypeId} {pos : String} {af : Array Edge} (i : Nat)
  (hx : opv e x = some (.pointer (some ⟨b, off, none⟩))) (hy : opv e y = some (.int .i64 z)) (h1 : has T.one t = true) (hr : Rp H (.pt b (aX l) bt) (.pt b (aX (l.set i z)) bt) H') (ho : off = i) (hi : i < l.length)
  (h : QF P ro n F w0 M k ops Hq rest e H') : QF P ro n F w0 M k ops Hq (⟨none, .store t x y, ty, pos, af, none⟩ :: rest) e H :=
 qf_store1 hT hx hy h1 rfl (by subst ho; rw [← List.map_set]; exact hr) (by subst ho; simpa using hi) h
theorem aZ (hT : T.Ok P) {d t et sz : Nat} {x ix : Operand} {b off len cap : Nat} {ik : IntKind} {i : Int} {ty : TypeId} {pos : String} {af : Array Edge}
  (hx : opv e x = some (.slice (some ⟨b, off, none⟩) len cap)) (hi : opv e ix = some (.int ik i)) (hs : fS T.esz t = some (et, sz)) (hsl : has T.len t = true) (hd : Nat.blt d n = true) (h0 : 0 ≤ i) (h1 : i < len)
  (h : QL P ro n F w0 M k ops rest ((d, .pointer (some ⟨b, off + i.toNat * sz, none⟩)) :: e) H) : QL P ro n F w0 M k ops (⟨some d, .indexAddr t x ix, ty, pos, af, none⟩ :: rest) e H := .mk fun w hw => nN hT hx hi hs hsl hd h0 h1 (h w hw)
theorem aA7 {d t et sz : Nat} {x ix : Operand} {b off len cap : Nat} {ik : IntKind} {i : Int} {ty : TypeId} {pos : String} {af : Array Edge} (p_ : (T.Ok P) ∧ (opv e x = some (.slice (some ⟨b, off, none⟩) len cap)) ∧ (opv e ix = some (.int ik i)) ∧ (fS T.esz t = some (et, sz)) ∧ (has T.len t = true) ∧ (Nat.blt d n = true)) (h0 : 0 ≤ i) (h1 : i < len) (h : QL P ro n F w0 M k ops rest ((d, .pointer (some ⟨b, off + i.toNat * sz, none⟩)) :: e) H) : QL P ro n F w0 M k ops (⟨some d, .indexAddr t x ix, ty, pos, af, none⟩ :: rest) e H := aZ p_.1 p_.2.1 p_.2.2.1 p_.2.2.2.1 p_.2.2.2.2.1 p_.2.2.2.2.2 h0 h1 h
theorem aQ (hT : T.Ok P) {d t et sz : Nat} {x ix : Operand} {b off len cap : Nat} {ik : IntKind} {i : Int} {ty : TypeId} {pos : String} {af : Array Edge}
  (hx : opv e x = some (.slice (some ⟨b, off, none⟩) len cap)) (hi : opv e ix = some (.int ik i)) (hs : fS T.esz t = some (et, sz)) (hsl : has T.len t = true) (hd : Nat.blt d n = true) (h0 : 0 ≤ i) (h1 : i < len)
  (h : QF P ro n F w0 M k ops Hq rest ((d, .pointer (some ⟨b, off + i.toNat * sz, none⟩)) :: e) H) : QF P ro n F w0 M k ops Hq (⟨some d, .indexAddr t x ix, ty, pos, af, none⟩ :: rest) e H := .mk fun w hw => yf_index hT hx hi hs hsl hd h0 h1 (h w hw)
theorem aA3 {d t et sz : Nat} {x ix : Operand} {b off len cap : Nat} {ik : IntKind} {i : Int} {ty : TypeId} {pos : String} {af : Array Edge} (p_ : (T.Ok P) ∧ (opv e x = some (.slice (some ⟨b, off, none⟩) len cap)) ∧ (opv e ix = some (.int ik i)) ∧ (fS T.esz t = some (et, sz)) ∧ (has T.len t = true) ∧ (Nat.blt d n = true)) (h0 : 0 ≤ i) (h1 : i < len) (h : QF P ro n F w0 M k ops Hq rest ((d, .pointer (some ⟨b, off + i.toNat * sz, none⟩)) :: e) H) : QF P ro n F w0 M k ops Hq (⟨some d, .indexAddr t x ix, ty, pos, af, none⟩ :: rest) e H := aQ p_.1 p_.2.1 p_.2.2.1 p_.2.2.2.1 p_.2.2.2.2.1 p_.2.2.2.2.2 h0 h1 h
theorem pF {d t et sz len : Nat} {x ix : Operand} {b off : Nat} {ik : IntKind} {i : Int} {ty : TypeId} {pos : String} {af : Array Edge} (hA : arrB P t len et sz = true)
  (hx : opv e x = some (.pointer (some ⟨b, off, none⟩))) (hi : opv e ix = some (.int ik i)) (hd : Nat.blt d n = true) (h0 : 0 ≤ i) (h1 : i < len)
  (h : QL P ro n F w0 M k ops rest ((d, .pointer (some ⟨b, off + i.toNat * sz, none⟩)) :: e) H) : QL P ro n F w0 M k ops (⟨some d, .indexAddr t x ix, ty, pos, af, none⟩ :: rest) e H := .mk fun w hw => yl_indexA hA hx hi hd h0 h1 (h w hw)
theorem pK {d t et sz len : Nat} {x ix : Operand} {b off : Nat} {ik : IntKind} {i : Int} {ty : TypeId} {pos : String} {af : Array Edge} (hA : arrB P t len et sz = true)
  (hx : opv e x = some (.pointer (some ⟨b, off, none⟩))) (hi : opv e ix = some (.int ik i)) (hd : Nat.blt d n = true) (h0 : 0 ≤ i) (h1 : i < len)
  (h : QF P ro n F w0 M k ops Hq rest ((d, .pointer (some ⟨b, off + i.toNat * sz, none⟩)) :: e) H) : QF P ro n F w0 M k ops Hq (⟨some d, .indexAddr t x ix, ty, pos, af, none⟩ :: rest) e H := .mk fun w hw => yf_indexA hA hx hi hd h0 h1 (h w hw)
theorem ql_quo {d t t' : Nat} {x y : Operand} {kd : IntKind} {p q : Int} {ty : TypeId} {pos : String} {af : Array Edge} (hx : opv e x = some (.int kd p)) (hy : opv e y = some (.int kd q)) (hq : q ≠ 0) (hd : Nat.blt d n = true)
  (h : QL P ro n F w0 M k ops rest ((d, .int kd (kd.wrap (p.tdiv q))) :: e) H) : QL P ro n F w0 M k ops (⟨some d, .binOp .quo t x y t', ty, pos, af, none⟩ :: rest) e H := .mk fun w hw => yl_quo hx hy hq hd (h w hw)
theorem ql_rem {d t t' : Nat} {x y : Operand} {kd : IntKind} {p q : Int} {ty : TypeId} {pos : String} {af : Array Edge} (hx : opv e x = some (.int kd p)) (hy : opv e y = some (.int kd q)) (hq : q ≠ 0) (hd : Nat.blt d n = true)
  (h : QL P ro n F w0 M k ops rest ((d, .int kd (p.tmod q)) :: e) H) : QL P ro n F w0 M k ops (⟨some d, .binOp .rem t x y t', ty, pos, af, none⟩ :: rest) e H := .mk fun w hw => yl_rem hx hy hq hd (h w hw)
theorem qf_quo {d t t' : Nat} {x y : Operand} {kd : IntKind} {p q : Int} {ty : TypeId} {pos : String} {af : Array Edge} (hx : opv e x = some (.int kd p)) (hy : opv e y = some (.int kd q)) (hq : q ≠ 0) (hd : Nat.blt d n = true)
  (h : QF P ro n F w0 M k ops Hq rest ((d, .int kd (kd.wrap (p.tdiv q))) :: e) H) : QF P ro n F w0 M k ops Hq (⟨some d, .binOp .quo t x y t', ty, pos, af, none⟩ :: rest) e H := .mk fun w hw => yf_quo hx hy hq hd (h w hw)
theorem qf_rem {d t t' : Nat} {x y : Operand} {kd : IntKind} {p q : Int} {ty : TypeId} {pos : String} {af : Array Edge} (hx : opv e x = some (.int kd p)) (hy : opv e y = some (.int kd q)) (hq : q ≠ 0) (hd : Nat.blt d n = true)
  (h : QF P ro n F w0 M k ops Hq rest ((d, .int kd (p.tmod q)) :: e) H) : QF P ro n F w0 M k ops Hq (⟨some d, .binOp .rem t x y t', ty, pos, af, none⟩ :: rest) e H := .mk fun w hw => yf_rem hx hy hq hd (h w hw)
theorem tdiv_fit {p q : Int} (h0 : 0 ≤ p) (hq : 0 < q) (hp : p < 9223372036854775808) : IntKind.i64.wrap (p.tdiv q) = p / q := by
 have h1 : p / q ≤ p := Int.ediv_le_self q h0;have h2 : 0 ≤ p / q := Int.ediv_nonneg h0 J;rw [Int.tdiv_eq_ediv_of_nonneg h0];exact w64 J J
theorem fL {d t t' : Nat} {x y : Operand} {p q : Int} {ty : TypeId} {pos : String} {af : Array Edge} (hx : opv e x = some (.int .i64 p)) (hy : opv e y = some (.int .i64 q)) (hd : Nat.blt d n = true) (h0 : 0 ≤ p) (hq : 0 < q) (hp : p < 9223372036854775808)
  (h : QL P ro n F w0 M k ops rest ((d, .int .i64 (p / q)) :: e) H) : QL P ro n F w0 M k ops (⟨some d, .binOp .quo t x y t', ty, pos, af, none⟩ :: rest) e H := ql_quo hx hy J hd (by rw [tdiv_fit h0 hq hp]; exact h)
theorem cO {d t t' : Nat} {x y : Operand} {p q : Int} {ty : TypeId} {pos : String} {af : Array Edge} (hx : opv e x = some (.int .i64 p)) (hy : opv e y = some (.int .i64 q)) (hd : Nat.blt d n = true) (h0 : 0 ≤ p) (hq : 0 < q)
  (h : QL P ro n F w0 M k ops rest ((d, .int .i64 (p % q)) :: e) H) : QL P ro n F w0 M k ops (⟨some d, .binOp .rem t x y t', ty, pos, af, none⟩ :: rest) e H := ql_rem hx hy J hd (by rw [Int.tmod_eq_emod_of_nonneg h0]; exact h)
theorem nY {d t t' : Nat} {x y : Operand} {p q : Int} {ty : TypeId} {pos : String} {af : Array Edge} (hx : opv e x = some (.int .i64 p)) (hy : opv e y = some (.int .i64 q)) (hd : Nat.blt d n = true) (h0 : 0 ≤ p) (hq : 0 < q) (hp : p < 9223372036854775808)
  (h : QF P ro n F w0 M k ops Hq rest ((d, .int .i64 (p / q)) :: e) H) : QF P ro n F w0 M k ops Hq (⟨some d, .binOp .quo t x y t', ty, pos, af, none⟩ :: rest) e H := qf_quo hx hy J hd (by rw [tdiv_fit h0 hq hp]; exact h)
theorem oG {d t t' : Nat} {x y : Operand} {p q : Int} {ty : TypeId} {pos : String} {af : Array Edge} (hx : opv e x = some (.int .i64 p)) (hy : opv e y = some (.int .i64 q)) (hd : Nat.blt d n = true) (h0 : 0 ≤ p) (hq : 0 < q)
  (h : QF P ro n F w0 M k ops Hq rest ((d, .int .i64 (p % q)) :: e) H) : QF P ro n F w0 M k ops Hq (⟨some d, .binOp .rem t x y t', ty, pos, af, none⟩ :: rest) e H := qf_rem hx hy J hd (by rw [Int.tmod_eq_emod_of_nonneg h0]; exact h)
theorem fQ {d t : Nat} {parts : List (Nat × Operand)} {us : List Value} (cells : Array Value) {ty : TypeId} {pos : String} {af : Array Edge}
  (hp : oI e (parts.map (·.2)) = some us) (hb : P.built t ((parts.map (·.1)).zip us) = some cells) (hd : Nat.blt d n = true)
  (h : QL P ro n F w0 M k ops rest ((d, .agg cells) :: e) H) : QL P ro n F w0 M k ops (⟨some d, .build t parts.toArray, ty, pos, af, none⟩ :: rest) e H := .mk fun w hw => yl_mk cells hp hb hd (h w hw)
theorem kH {d t : Nat} {parts : List (Nat × Operand)} {us : List Value} (cells : Array Value) {ty : TypeId} {pos : String} {af : Array Edge}
  (hp : oI e (parts.map (·.2)) = some us) (hb : P.built t ((parts.map (·.1)).zip us) = some cells) (hd : Nat.blt d n = true)
  (h : QF P ro n F w0 M k ops Hq rest ((d, .agg cells) :: e) H) : QF P ro n F w0 M k ops Hq (⟨some d, .build t parts.toArray, ty, pos, af, none⟩ :: rest) e H := .mk fun w hw => yf_mk cells hp hb hd (h w hw)
theorem cT {d t len : Nat} {parts : List (Nat × Operand)} {us : List Value} (et : Nat) (cs : List Value) {ty : TypeId} {pos : String} {af : Array Edge}
  (hp : oI e (parts.map (·.2)) = some us) (hb : builtS P t len ((parts.map (·.1)).zip us) = some (et, cs.toArray)) (hd : Nat.blt d n = true)
  (h : ∀ b, QL P ro n F w0 M k ops rest ((d, aB9 b len len) :: e) (.pt b cs et :: H)) : QL P ro n F w0 M k ops (⟨some d, .buildSlice t len parts.toArray, ty, pos, af, none⟩ :: rest) e H :=
 .mk fun _ hs => yl_mkS et cs hp hb hd (fun w' hc hz hb => h _ w' (hs.addPt hc hz hb))
theorem eX {d t len : Nat} {parts : List (Nat × Operand)} {us : List Value} (et : Nat) (cs : List Value) {ty : TypeId} {pos : String} {af : Array Edge}
  (hp : oI e (parts.map (·.2)) = some us) (hb : builtS P t len ((parts.map (·.1)).zip us) = some (et, cs.toArray)) (hd : Nat.blt d n = true)
  (h : ∀ b, QF P ro n F w0 M k ops Hq rest ((d, aB9 b len len) :: e) (.pt b cs et :: H)) : QF P ro n F w0 M k ops Hq (⟨some d, .buildSlice t len parts.toArray, ty, pos, af, none⟩ :: rest) e H :=
 .mk fun _ hs => yf_mkS et cs hp hb hd (fun w' hc hz hb => have hs' := hs.addPt hc hz hb; ⟨(hs'.tail).right, h _ w' hs'⟩)
theorem own_bd {w : World} {base e sz n : Nat} {v : Value} {xs : List Value} (h : w.ownsRow base e sz v n xs) : ∀ b, (Ck.ow v e sz n xs).D b → b < w.heap.size := by
 intro b hb;simp only [Ck.D] at hb;rcases h.2 with ⟨rfl, _⟩ | ⟨g, cap, cur, rfl, _, hh, _⟩
 ·cases hb
 ·cases hb
  exact (Array.getElem?_eq_some_iff.1 hh).1
theorem Sat.app {w w' : World} {v v' : Value} {et sz m q : Nat} {xs ys : List Value} {H' : List Ck} (hs : Sat w0 M H w) (hr : Rp H (.ow v et sz m xs) (.ow v' et sz q ys) H') (hc : Chg v.ownBlock.toList w w') (hb : w'.ownsRow 0 et sz v' q ys) (hn : ∀ b, v'.ownBlock = some b → v.ownBlock = some b ∨ w.heap.size ≤ b) : Sat w0 M H' w' :=
 hs.rep hr hc (fun k hk => by simpa [Ck.D] using hk) hb (fun x hx => ⟨hn x hx, own_bd hb x hx⟩)
theorem run_append_own2 {w : World} (t ty e : TypeId) (i : TypeInfo) (z : Value) (size bytes : Nat) (ht : P.underlying t = some (.slice e)) (hi : P.info? e = some i) (hz : i.zero = some z)
  (hsize : i.size = size) (hby : i.bytes = bytes) (hzs : z.cells.size = size) (hsz : 0 < size) (v : Value) (n : Nat) (xs : List Value) (hown : w.ownsRow 0 e size v n xs)
  (a : Addr) (m c : Nat) (news : List Value) (hl : news.length = m * size) (hnews : ∀ j u, news[j]? = some u → w.cell? (a.add j) = some u) (h1 : ∀ u ∈ news, u.oneCell' = true)
  (h63 : n + m ≤ maxLen) (hbytes : (n + m) * bytes ≤ 140737488355328) :
  ∃ v' w', (Builtin.append_ #[t, t] ty #[v, .slice (some a) m c]).run P w = .ok v' w' ∧ w'.ownsRow 0 e size v' (n + m) (xs ++ news) ∧ w.grownBy w' v.ownBlock ∧ (∀ b, v'.ownBlock = some b → v.ownBlock = some b ∨ w.heap.size ≤ b) := by
 obtain ⟨v', w', hr, ho, hg, _⟩ := run_append_own (P := P) w 0 t ty e i z size bytes ht hi hz hsize hby hzs hsz v n xs hown a m c news hl hnews h1 h63 hbytes (Nat.zero_le _);refine ⟨v', w', hr, ho, hg, ?_⟩;rcases hown.2 with ⟨rfl, rfl⟩ | ⟨g, cap, cur, rfl, _, hgc, hnc, hcm, hcs, htake⟩
 ·have hx : xs = [] := List.eq_nil_of_length_eq_zero (by simpa using hown.1);subst hx;obtain ⟨v2, w2, hr2, ho2, _, _⟩ := run_append_own (P := P) w w.heap.size t ty e i z size bytes ht hi hz hsize hby hzs hsz (.slice none 0 0) 0 [] (World.ownsRow_nil w w.heap.size e size) a m c news hl hnews h1 h63 hbytes (Nat.le_refl _);rw [hr] at hr2;obtain ⟨rfl, rfl⟩ : v' = v2 ∧ w' = w2 := by simpa using hr2
  intro b hb;rcases ho2.2 with ⟨rfl, _⟩ | ⟨g, cap, cur, rfl, hg2, _⟩
  ·cases hb
  ·cases hb
   exact .inr hg2
 ·subst hsize;subst hby;by_cases hroom : n + m ≤ cap
  ·have hfit : n * i.size + news.length ≤ cur.size := by rw [hl, hcs, ← Nat.add_mul]; exact Nat.mul_le_mul_right _ hroom
   have hr2 := run_append_room (P := P) w t ty e i ht hi g n cap cur hgc a m c news hl hnews h1 hroom hfit;rw [hr] at hr2;simp only [Result.ok.injEq] at hr2;obtain ⟨rfl, _⟩ := hr2;exact fun b hb => .inl hb
  ·have holds : ∀ j u, xs[j]? = some u → w.cell? ((⟨g, 0, none⟩ : Addr).add j) = some u := hown.cells (g := g) rfl;simp only [maxLen] at h63;have hr2 := run_append_grow (P := P) w t ty e i z ht hi hz ⟨g, 0, none⟩ n cap xs hown.1 holds a m c news hl hnews J J (growslice_fits J hbytes);rw [hr] at hr2;simp only [Result.ok.injEq] at hr2;obtain ⟨rfl, _⟩ := hr2;intro b hb;cases hb
   exact .inr (Nat.le_refl _)
theorem run_app {w : World} {t et size bytes : Nat} {z : Value} (hS : SlT P t et size bytes z) {v u : Value} {m : Nat} {xs news : List Value} {q lo hi : Nat} (ty : TypeId) (hown : w.ownsRow 0 et size v m xs) (hrd : Rd w lo hi u size q news) (h1 : ∀ c ∈ news, dJ c = true)
  (hm : (m + q) * bytes ≤ 140737488355328) (hm2 : m + q ≤ 140737488355328) :
  ∃ v' w', (Builtin.append_ #[t, t] ty #[v, u]).run P w = .ok v' w' ∧ w'.ownsRow 0 et size v' (m + q) (xs ++ news) ∧ Chg v.ownBlock.toList w w' ∧ (∀ b, v'.ownBlock = some b → v.ownBlock = some b ∨ w.heap.size ≤ b) := by
 obtain ⟨ht, hi', hzs, hsz⟩ := hS;cases hinf : P.info? et with
 | none => simp [hinf] at hi'
 | some i =>
  simp [hinf] at hi';obtain ⟨hz, hsize, hby⟩ := hi';obtain ⟨hl, hr⟩ := hrd
  have hr2 : (u = .slice none 0 0 ∧ q = 0) ∨ ∃ a cap, u = .slice (some a) q cap ∧ ∀ j c, news[j]? = some c → w.cell? (a.add j) = some c := by
   rcases hr with ⟨hu | ⟨a, cap, hu⟩, rfl⟩ | ⟨b, off, cap, hu, _, hc⟩
   ·exact .inl ⟨hu, Z⟩
   ·exact .inr ⟨a, cap, hu, fun j c hj => by rw [show news = [] by simpa using hl] at hj; simp at hj⟩
   ·refine .inr ⟨_, cap, hu, fun j c hj => ?_⟩;have hjl := (List.getElem?_eq_some_iff.1 hj).1;rw [Addr.add_lit, hc j hjl, hj]
  rcases hr2 with ⟨rfl, rfl⟩ | ⟨ad, cap, rfl, hc⟩
  ·have hrun := run_append_owned_none (P := P) (w := w) 0 t ty et i size ht hinf v m xs hown;have : news = [] := by simpa using hl
   subst this;exact ⟨v, w, hrun, by simpa using hown, Chg.refl _ _, fun b hb => .inl hb⟩
  ·have hone : ∀ c ∈ news, c.oneCell' = true := fun c hc' => by
    have := h1 c hc';cases c <;> first | rfl | simp [dJ] at this
   obtain ⟨v', w', hrun, hown', hg, hn⟩ := run_append_own2 (P := P) t ty et i z size bytes ht hinf hz hsize hby hzs hsz v m xs hown ad q cap news hl hc hone (by simp only [maxLen]; omega) hm;exact ⟨v', w', hrun, hown', grown_chg hg, hn⟩
theorem cW {d t et size bytes : Nat} {z : Value} (hS : SlT P t et size bytes z) {x y : Operand} {v u : Value} {m : Nat} {xs news : List Value} {q : Nat} {H1 : Value → List Ck} {ty : TypeId} {pos : String} {af : Array Edge}
  (hx : opv e x = some v) (hy : opv e y = some u) (hd : Nat.blt d n = true) (hr : ∀ v', Rp H (.ow v et size m xs) (.ow v' et size (m + q) (xs ++ news)) (H1 v')) (hrd : ∀ w, Sat w0 M H w → ∃ lo hi, Rd w lo hi u size q news) (h1 : ∀ c ∈ news, dJ c = true)
  (hm : (m + q) * bytes ≤ 140737488355328) (hm2 : m + q ≤ 140737488355328)
  (h : ∀ v', QL P ro n F w0 M k ops rest ((d, v') :: e) (H1 v')) :
  QL P ro n F w0 M k ops (⟨some d, .call { callee := .builtin .append, args := [x, y].toArray, argTypes := [t, t].toArray }, ty, pos, af, none⟩ :: rest) e H := .mk fun w hs => by
 obtain ⟨lo, hi, hrd⟩ := hrd w hs;obtain ⟨v', w', hrun, ho, hc, hn⟩ := run_app hS ty (hs.mem (hr v).mem) hrd h1 hm hm2;refine eV (w' := w') (by simp) hd (fun a hf => ?_) (h v' w' (hs.app (hr v') hc ho hn));have e1 := hf.op hx;have e2 := hf.op hy;simp [execOp, resolve, invoke, builtin, e1, e2, hrun]
theorem dB {d t et size bytes : Nat} {z : Value} (hS : SlT P t et size bytes z) {x y : Operand} {v u : Value} {m : Nat} {xs news : List Value} {q : Nat} {H1 : Value → List Ck} {ty : TypeId} {pos : String} {af : Array Edge}
  (hx : opv e x = some v) (hy : opv e y = some u) (hd : Nat.blt d n = true) (hr : ∀ v', Rp H (.ow v et size m xs) (.ow v' et size (m + q) (xs ++ news)) (H1 v')) (hrd : ∀ w, Sat w0 M (H ++ Hq) w → ∃ lo hi, Rd w lo hi u size q news) (h1 : ∀ c ∈ news, dJ c = true)
  (hm : (m + q) * bytes ≤ 140737488355328) (hm2 : m + q ≤ 140737488355328)
  (h : ∀ v', QF P ro n F w0 M k ops Hq rest ((d, v') :: e) (H1 v')) :
  QF P ro n F w0 M k ops Hq (⟨some d, .call { callee := .builtin .append, args := [x, y].toArray, argTypes := [t, t].toArray }, ty, pos, af, none⟩ :: rest) e H := .mk fun w hs => by
 obtain ⟨lo, hi, hrd⟩ := hrd w hs;obtain ⟨v', w', hrun, ho, hc, hn⟩ := run_app hS ty (hs.mem ((hr v).app Hq).mem) hrd h1 hm hm2;have hs' := hs.app ((hr v').app Hq) hc ho hn;refine yf_eff (w' := w') Z hd (fun a hf => ?_) hs'.right (h v' w' hs');have e1 := hf.op hx;have e2 := hf.op hy;simp [execOp, resolve, invoke, builtin, e1, e2, hrun]
theorem Sat.call {w w' : World} {L0 R L' : List Ck} {M' : Nat → Prop} (h : Sat w0 M (L0 ++ R) w) (g : Sat w M' L' w') (hM : ∀ b, M' b → ∃ c ∈ L0, c.D b) : Sat w0 M (L' ++ R) w' := by
 have hp := List.pairwise_append.1 h.sep;have hbd : ∀ c ∈ R, ∀ b, c.D b → b < w.heap.size ∧ (M b ∨ w0.heap.size ≤ b) := fun c hc => h.bd c (List.mem_append_right _ hc)
 have hnM : ∀ c ∈ R, ∀ b, c.D b → ¬ M' b := fun c hc b hb hm => by
  obtain ⟨c0, h0, h1⟩ := hM b hm;exact hp.2.2 c0 h0 c hc b h1 hb
 refine ⟨h.chg.upP g.chg (fun b hb => ?_), ?_, List.pairwise_append.2 ⟨g.sep, hp.2.1, ?_⟩, ?_⟩
 ·obtain ⟨c0, h0, h1⟩ := hM b hb;exact (h.bd c0 (List.mem_append_left _ h0) b h1).2
 ·intro c hc;rcases List.mem_append.1 hc with hc | hc
  ·exact g.all c hc
  ·exact Ck.st (h.all c (List.mem_append_right _ hc)) g.chg (fun b hb => hnM c hc b hb)
 ·intro c hc d hd b hb hb';rcases (g.bd c hc b hb).2 with h1 | h1
  ·exact hnM d hd b hb' h1
  ·have := (hbd d hd b hb').1;omega
 ·intro c hc b hb;rcases List.mem_append.1 hc with hc | hc
  ·refine ⟨(g.bd c hc b hb).1, ?_⟩;rcases (g.bd c hc b hb).2 with h1 | h1
   ·obtain ⟨c0, h0, h2⟩ := hM b h1;exact (h.bd c0 (List.mem_append_left _ h0) b h2).2
   ·exact .inr (Nat.le_trans h.chg.size h1)
  ·exact ⟨Nat.lt_of_lt_of_le (hbd c hc b hb).1 g.chg.size, (hbd c hc b hb).2⟩
theorem bC (hT : T.Ok P) {t : Nat} {f : Operand} {ars : List Operand} {tys : Array TypeId} {ty : TypeId} {pos : String} {af : Array Edge} {g : Nat} {first caps : Array Value} {vs : List Value} {β : Type} {ψ : β → Value → Prop} {L' : β → List Ck}
  (L0 R : List Ck) (M' : Nat → Prop) (hf : opv e f = some (.func (.func g) first caps)) (hg : has T.fn g = true) (has_ : oI e ars = some vs) (ht : Nat.blt t n = true) (hH : Sp H (L0 ++ R)) (hM : ∀ b, M' b → ∃ c ∈ L0, c.D b)
  (hc : ∀ w, Sat w0 M (L0 ++ R) w → Ca P g (first.toList ++ vs ++ caps.toList) w fun v w' => ∃ x, ψ x v ∧ Sat w M' (L' x) w')
  (h : ∀ x v, ψ x v → QL P ro n F w0 M k ops rest ((t, v) :: e) (L' x ++ R)) :
  QL P ro n F w0 M k ops (⟨some t, .call { callee := .value f, args := ars.toArray, argTypes := tys }, ty, pos, af, none⟩ :: rest) e H := .mk fun w hs =>
 have hs1 := hs.sp hH
 eO hT hf hg has_ ht (hc w hs1) (fun v w' ⟨x, hx, hs'⟩ => h x v hx w' (hs1.call hs' hM))
theorem aI (hT : T.Ok P) {t : Nat} {f : Operand} {ars : List Operand} {tys : Array TypeId} {ty : TypeId} {pos : String} {af : Array Edge} {g : Nat} {first caps : Array Value} {vs : List Value} {val : Value}
  (hf : opv e f = some (.func (.func g) first caps)) (hg : has T.fn g = true) (has_ : oI e ars = some vs) (ht : Nat.blt t n = true)
  (hc : ∀ w, Sat w0 M H w → Ca P g (first.toList ++ vs ++ caps.toList) w fun v w' => v = val ∧ Chg [] w w')
  (h : QL P ro n F w0 M k ops rest ((t, val) :: e) H) :
  QL P ro n F w0 M k ops (⟨some t, .call { callee := .value f, args := ars.toArray, argTypes := tys }, ty, pos, af, none⟩ :: rest) e H := .mk fun w hs =>
 eO hT hf hg has_ ht (hc w hs) (fun v w' ⟨hv, hc'⟩ => by rw [hv]; exact h w' (hs.keep hc'))
theorem bX (hT : T.Ok P) {t : Nat} {f : Operand} {ars : List Operand} {tys : Array TypeId} {ty : TypeId} {pos : String} {af : Array Edge} {g : Nat} {first caps : Array Value} {vs : List Value} {β : Type} {ψ : β → Value → Prop} {L' : β → List Ck}
  (L0 R : List Ck) (M' : Nat → Prop) (hf : opv e f = some (.func (.func g) first caps)) (hg : has T.fn g = true) (has_ : oI e ars = some vs) (ht : Nat.blt t n = true) (hH : Sp H (L0 ++ R)) (hM : ∀ b, M' b → ∃ c ∈ L0, c.D b)
  (hc : ∀ w, Sat w0 M (L0 ++ (R ++ Hq)) w → Ca P g (first.toList ++ vs ++ caps.toList) w fun v w' => ∃ x, ψ x v ∧ Sat w M' (L' x) w')
  (h : ∀ x v, ψ x v → QF P ro n F w0 M k ops Hq rest ((t, v) :: e) (L' x ++ R)) :
  QF P ro n F w0 M k ops Hq (⟨some t, .call { callee := .value f, args := ars.toArray, argTypes := tys }, ty, pos, af, none⟩ :: rest) e H := .mk fun w hs => by
 have hs1 : Sat w0 M (L0 ++ (R ++ Hq)) w := by
  rw [← List.append_assoc];exact hs.sp (Sp.app hH Hq)
 refine yf_call hT hf hg has_ ht (hc w hs1) (fun v w' ⟨x, hx, hs'⟩ => ?_);have hs2 := hs1.call hs' hM;exact ⟨hs2.right.right, h x v hx w' (by rw [List.append_assoc]; exact hs2)⟩
theorem bN (hT : T.Ok P) {t : Nat} {f : Operand} {ars : List Operand} {tys : Array TypeId} {ty : TypeId} {pos : String} {af : Array Edge} {g : Nat} {first caps : Array Value} {vs : List Value} {val : Value}
  (hf : opv e f = some (.func (.func g) first caps)) (hg : has T.fn g = true) (has_ : oI e ars = some vs) (ht : Nat.blt t n = true)
  (hc : ∀ w, Sat w0 M (H ++ Hq) w → Ca P g (first.toList ++ vs ++ caps.toList) w fun v w' => v = val ∧ Chg [] w w')
  (h : QF P ro n F w0 M k ops Hq rest ((t, val) :: e) H) :
  QF P ro n F w0 M k ops Hq (⟨some t, .call { callee := .value f, args := ars.toArray, argTypes := tys }, ty, pos, af, none⟩ :: rest) e H := .mk fun w hs =>
 yf_call hT hf hg has_ ht (hc w hs) (fun v w' ⟨hv, hc'⟩ => by rw [hv]; exact ⟨(hs.keep hc').right, h w' (hs.keep hc')⟩)
theorem cN {g : FuncId} {fn : Func} {c : Code} {args : List Value} {w : World} {R : Value → World → Prop} (hs : Sat w M H w) (hfn : P.funcs[g]? = some fn) (hb : fn.body = some c) (hn : args.length ≤ fn.ntmps)
  (h : Q P ⟨none, []⟩ fn.ntmps (fin P fn R) w M [.code c] (env0 0 args) H) : Ca P g args w R := lH hfn hb hn (h w hs)
end
end Go.Eng
