/- The engine, part 2: the operations of a region, one by one. -/
import Derived.Test.YtmbifbippnncoaaA1
import Derived.TacticsIn
namespace Go.Eng
open Go

/-- What the walk reads off the program's types, once: offsets of fields, sizes. -/
structure Tab where
  foff : List ((Nat × Nat) × Nat)
  esz : List (Nat × (Nat × Nat))
  one : List Nat
  agg : List (Nat × Nat)
  len : List Nat
  iks : List (Nat × IntKind)
  fn : List Nat

def find2 : List ((Nat × Nat) × Nat) → Nat → Nat → Option Nat
  | [], _, _ => none
  | ((a, b), c) :: l, x, y => bif Nat.beq a x then (bif Nat.beq b y then some c else find2 l x y) else find2 l x y
def find1 {α : Type} : List (Nat × α) → Nat → Option α
  | [], _ => none
  | (a, c) :: l, x => bif Nat.beq a x then some c else find1 l x
def has : List Nat → Nat → Bool
  | [], _ => false
  | a :: l, x => bif Nat.beq a x then true else has l x

theorem find2_mem {l : List ((Nat × Nat) × Nat)} {x y c : Nat} (h : find2 l x y = some c) : ((x, y), c) ∈ l := by
  induction l with
  | nil => simp [find2] at h
  | cons p l ih =>
    obtain ⟨⟨a, b⟩, d⟩ := p
    simp only [find2] at h
    cases h1 : Nat.beq a x <;> rw [h1] at h <;> simp at h
    · exact List.mem_cons_of_mem _ (ih h)
    · cases h2 : Nat.beq b y <;> rw [h2] at h <;> simp at h
      · exact List.mem_cons_of_mem _ (ih h)
      · have e1 := Nat.eq_of_beq_eq_true h1
        have e2 := Nat.eq_of_beq_eq_true h2
        subst e1; subst e2; subst h
        exact List.mem_cons_self
theorem find1_mem {α : Type} {l : List (Nat × α)} {x : Nat} {c : α} (h : find1 l x = some c) : (x, c) ∈ l := by
  induction l with
  | nil => simp [find1] at h
  | cons p l ih =>
    obtain ⟨a, d⟩ := p
    simp only [find1] at h
    cases h1 : Nat.beq a x <;> rw [h1] at h <;> simp at h
    · exact List.mem_cons_of_mem _ (ih h)
    · have e1 := Nat.eq_of_beq_eq_true h1
      subst e1; subst h
      exact List.mem_cons_self
theorem has_mem {l : List Nat} {x : Nat} (h : has l x = true) : x ∈ l := by
  induction l with
  | nil => simp [has] at h
  | cons a l ih =>
    simp only [has] at h
    cases h1 : Nat.beq a x <;> rw [h1] at h <;> simp at h
    · exact List.mem_cons_of_mem _ (ih h)
    · have e1 := Nat.eq_of_beq_eq_true h1
      subst e1
      exact List.mem_cons_self

def foffB (P : Program) (t i o : Nat) : Bool :=
  match P.underlying t with
  | some (.struct fs) => (match fs[i]? with | some f => Nat.beq f.offset o && (match P.info? f.type with | some i => !(Nat.beq i.size 0) | none => false) | none => false)
  | _ => false
def eszB (P : Program) (t e s : Nat) : Bool :=
  (match P.underlying t with | some (.slice e') => Nat.beq e e' | some (.array _ e') => Nat.beq e e' | _ => false) && (match P.info? e with | some i => Nat.beq i.size s | none => false)
def oneB (P : Program) (t : Nat) : Bool :=
  (match P.underlying t with | some (.struct _) => false | some (.array _ _) => false | some _ => true | none => false) && (match P.info? t with | some i => Nat.beq i.size 1 | none => false)
def aggB (P : Program) (t n : Nat) : Bool :=
  (match P.underlying t with | some (.struct _) => true | some (.array _ _) => true | _ => false) && (match P.info? t with | some i => Nat.beq i.size n | none => false)
def lenB (P : Program) (t : Nat) : Bool :=
  match P.underlying t with | some (.slice _) => true | _ => false
def ikEq : IntKind → IntKind → Bool
  | .i64, .i64 => true | .u8, .u8 => true | .u32, .u32 => true | .i32, .i32 => true | .u64, .u64 => true | _, _ => false
theorem ikEq_eq {a b : IntKind} (h : ikEq a b = true) : a = b := by
  cases a <;> cases b <;> first | rfl | simp [ikEq] at h
def ikB (P : Program) (t : Nat) (k : IntKind) : Bool :=
  match P.underlying t with | some (.int k') => ikEq k k' | _ => false
def fnB (P : Program) (f : Nat) : Bool :=
  match P.funcs[f]? with | some fn => fn.body.isSome && !(fn.name == "runtime.NumGoroutine") | none => false

def Tab.ok (T : Tab) (P : Program) : Bool :=
  T.foff.all (fun p => foffB P p.1.1 p.1.2 p.2) && T.esz.all (fun p => eszB P p.1 p.2.1 p.2.2) && T.one.all (oneB P) && T.agg.all (fun p => aggB P p.1 p.2) && T.len.all (lenB P) && T.iks.all (fun p => ikB P p.1 p.2) && T.fn.all (fnB P)

structure Tab.Ok (T : Tab) (P : Program) : Prop where
  foff : ∀ t i o, find2 T.foff t i = some o → foffB P t i o = true
  esz : ∀ t e s, find1 T.esz t = some (e, s) → eszB P t e s = true
  one : ∀ t, has T.one t = true → oneB P t = true
  agg : ∀ t n, find1 T.agg t = some n → aggB P t n = true
  len : ∀ t, has T.len t = true → lenB P t = true
  iks : ∀ t k, find1 T.iks t = some k → ikB P t k = true
  fn : ∀ f, has T.fn f = true → fnB P f = true

theorem Tab.ok_spec {T : Tab} {P : Program} (h : T.ok P = true) : T.Ok P := by
  simp only [Tab.ok, Bool.and_eq_true, List.all_eq_true] at h
  obtain ⟨⟨⟨⟨⟨⟨h1, h2⟩, h3⟩, h4⟩, h5⟩, h7⟩, h6⟩ := h
  exact ⟨fun t i o hh => h1 _ (find2_mem hh), fun t e s hh => h2 _ (find1_mem hh), fun t hh => h3 _ (has_mem hh), fun t n hh => h4 _ (find1_mem hh), fun t hh => h5 _ (has_mem hh), fun t k hh => h7 _ (find1_mem hh), fun f hh => h6 _ (has_mem hh)⟩

/-! ### Pure operations -/

def binV (op : BinOp) (k : IntKind) (a b : Int) : Option Value :=
  match op with
  | .add => some (.int k (k.wrap (a + b)))
  | .sub => some (.int k (k.wrap (a - b)))
  | .mul => some (.int k (k.wrap (a * b)))
  | .lss => some (.bool (decide (a < b)))
  | .leq => some (.bool (decide (a ≤ b)))
  | .gtr => some (.bool (decide (b < a)))
  | .geq => some (.bool (decide (b ≤ a)))
  | .eql => some (.bool (decide (a = b)))
  | .neq => some (.bool (!decide (a = b)))
  | _ => none

def kindEq : IntKind → IntKind → Bool
  | .i64, .i64 => true | .u8, .u8 => true | .u32, .u32 => true | .i32, .i32 => true | .u64, .u64 => true | _, _ => false

def opvs (e : Env) : List Operand → Option (List Value)
  | [] => some []
  | x :: l => match opv e x, opvs e l with
    | some v, some vs => some (v :: vs)
    | _, _ => none

def lenV (T : Tab) (e : Env) (c : Call) : Option Value :=
  match c.callee, c.args.toList, c.argTypes.toList with
  | .builtin .len, [x], [t] => (match opv e x, has T.len t with
    | some (.slice _ n _), true => some (.int .i64 n)
    | _, _ => none)
  | .builtin .max, [x, y], _ => (match opv e x, opv e y with
    | some (.int k a), some (.int _ b) => some (.int k (max a b))
    | _, _ => none)
  | .builtin .min, [x, y], _ => (match opv e x, opv e y with
    | some (.int k a), some (.int _ b) => some (.int k (min a b))
    | _, _ => none)
  | .builtin .max, [x, y, z], _ => (match opv e x, opv e y, opv e z with
    | some (.int k a), some (.int _ b), some (.int _ c) => some (.int k (max (max a b) c))
    | _, _, _ => none)
  | _, _, _ => none

/-- What a pure operation yields. -/
def evp (T : Tab) (e : Env) : Op → Option Value
  | .move x => opv e x
  | .assign x => opv e x
  | .pick c a b => match opv e c with
    | some (.bool true) => opv e a
    | some (.bool false) => opv e b
    | _ => none
  | .binOp op _ x y _ => match opv e x, opv e y with
    | some (.int k a), some (.int k' b) => bif kindEq k k' then binV op k a b else none
    | _, _ => none
  | .unOp .neg _ x => match opv e x with
    | some (.int k a) => some (.int k (k.wrap (0 - a)))
    | _ => none
  | .unOp .not _ x => match opv e x with
    | some (.bool b) => some (.bool (!b))
    | _ => none
  | .nilCheck x => match opv e x with
    | some (.pointer (some a)) => some (.pointer (some a))
    | _ => none
  | .fieldAddr t x i => match find2 T.foff t i, opv e x with
    | some o, some (.pointer (some ⟨b, off, none⟩)) => some (.pointer (some ⟨b, off + o, none⟩))
    | _, _ => none
  | .extract x i => match opv e x with
    | some (.tuple vs) => vs[i]?
    | _ => none
  | .makeFunc fn first caps => match opvs e first.toList, opvs e caps.toList with
    | some f, some c => some (.func fn f.toArray c.toArray)
    | _, _ => none
  | .convert s d x => match find1 T.iks s, find1 T.iks d, opv e x with
    | some _, some k, some (.int _ m) => some (.int k (k.wrap m))
    | _, _, _ => none
  | .call c => lenV T e c
  | _ => none

theorem Fits.ops {n : Nat} {e : Env} {a : Act} (h : Fits n e a) : ∀ {l : List Operand} {vs : List Value}, opvs e l = some vs → l.map a.eval = vs
  | [], vs, hx => by simp [opvs] at hx; simp [hx]
  | x :: l, vs, hx => by
    simp only [opvs] at hx
    cases h1 : opv e x with
    | none => simp [h1] at hx
    | some v =>
      cases h2 : opvs e l with
      | none => simp [h1, h2] at hx
      | some us =>
        simp [h1, h2] at hx
        subst hx
        simp [h.op h1, h.ops h2]

theorem kindEq_eq {a b : IntKind} (h : kindEq a b = true) : a = b := by
  cases a <;> cases b <;> first | rfl | simp [kindEq] at h

theorem run_binV {P : Program} {w : World} {op : BinOp} {k : IntKind} {a b : Int} {v : Value} (t : TypeId) (h : binV op k a b = some v) : (binOp op t (.int k a) (.int k b)).run P w = .ok v w := by
  cases op <;> simp [binV] at h <;> subst h <;> simp [binOp, Op.intArith, Op.intCmp, pure]
  · rfl
  · rfl

variable {P : Program} {T : Tab}

theorem evp_run (hT : T.Ok P) {n : Nat} {e : Env} {a : Act} (hf : Fits n e a) {o : Oper} {v : Value} (h : evp T e o.op = some v) (w : World) :
    (execOp a.eval o).run P w = .ok (.value v) w := by
  unfold execOp
  cases hop : o.op <;> rw [hop] at h <;> simp only [evp] at h <;> dsimp only
  case move x => rw [hf.op h]; rfl
  case assign x => rw [hf.op h]; rfl
  case pick c x y =>
    cases hc : opv e c with
    | none => simp [hc] at h
    | some u =>
      cases u <;> simp [hc] at h
      case bool b =>
        cases b <;> simp at h <;> simp [hf.op hc, hf.op h, asBool]
  case binOp op xt x y yt =>
    split at h
    · rename_i k m k' m' h1 h2
      cases hk : kindEq k k' <;> rw [hk] at h <;> simp at h
      have := kindEq_eq hk
      subst this
      have hr := run_binV (P := P) (w := w) xt h
      simp [hf.op h1, hf.op h2, eqGuard, hr]
    · cases h
  case unOp op xt x =>
    cases op <;> simp at h
    case neg =>
      split at h
      · rename_i k m h1
        cases h
        simp [hf.op h1, Op.unary, Op.intArith]
      · cases h
    case not =>
      split at h
      · rename_i b h1
        cases h
        simp [hf.op h1, Op.unary]
      · cases h
  case nilCheck x =>
    split at h
    · rename_i ad h1
      cases h
      simp [hf.op h1]
    · cases h
  case fieldAddr t x i =>
    split at h
    · rename_i off b o' hfo h1
      cases h
      have := hT.foff _ _ _ hfo
      simp only [foffB] at this
      split at this
      · rename_i fs hu
        split at this
        · rename_i f hff
          simp only [Bool.and_eq_true] at this
          obtain ⟨ho, hz⟩ := this
          have ho := Nat.eq_of_beq_eq_true ho
          subst ho
          split at hz
          · rename_i i hi
            have hi0 : i.size ≠ 0 := by intro e0; rw [e0] at hz; simp at hz
            rw [hf.op h1]
            simp [go_sem, run_underlying hu, hff, typeInfo, hi, hi0, sizeOf]
          · cases hz
        · cases this
      · cases this
    · cases h
  case extract x i =>
    split at h
    · rename_i vs h1
      simp [hf.op h1, Instr.extract, h]
    · cases h
  case makeFunc fn first caps =>
    split at h
    · rename_i f c h1 h2
      cases h
      have e1 := hf.ops h1
      have e2 := hf.ops h2
      have e1' : first.map a.eval = f.toArray := by
        apply Array.ext'
        simpa using e1
      have e2' : caps.map a.eval = c.toArray := by
        apply Array.ext'
        simpa using e2
      simp [Instr.makeFunc, e1', e2']
    · cases h
  case convert s d x =>
    split at h
    · rename_i ks k kx m h1 h2 h3
      cases h
      have a1 := hT.iks _ _ h1
      have a2 := hT.iks _ _ h2
      simp only [ikB] at a1 a2
      split at a1
      · rename_i k1 hu1
        split at a2
        · rename_i k2 hu2
          have := ikEq_eq a2
          subst this
          rw [hf.op h3]
          simp [convert, run_underlying hu1, run_underlying hu2, Conv.intToInt]
        · cases a2
      · cases a1
    · cases h
  case call c =>
    obtain ⟨cal, ars, tys⟩ := c
    simp only [lenV] at h
    split at h
    · rename_i _ _ _ x t ha ht
      split at h
      · rename_i aa m cc h1 h2
        cases h
        have := hT.len _ h2
        simp only [lenB] at this
        split at this
        · rename_i el hu
          obtain rfl : ars = #[x] := Array.ext' ha
          obtain rfl : tys = #[t] := Array.ext' ht
          have e0 := hf.op h1
          simp only [resolve, List.map_toArray, List.map_cons, List.map_nil, e0]
          simp [invoke, builtin, Builtin.len_, run_underlying hu, goInt]
        · cases this
      · cases h
    · rename_i _ _ _ x y ha
      split at h
      · rename_i kx ax ky ay h1 h2
        cases h
        obtain rfl : ars = #[x, y] := Array.ext' ha
        have e0 := hf.op h1
        have e1 := hf.op h2
        simp only [resolve, List.map_toArray, List.map_cons, List.map_nil, e0, e1]
        have : (if ax < ay then ay else ax) = max ax ay := by simp only [Int.max_def]; split <;> split <;> omega
        simp [invoke, builtin, Builtin.max_, Builtin.max2, this]
      · cases h
    · rename_i _ _ _ x y ha
      split at h
      · rename_i kx ax ky ay h1 h2
        cases h
        obtain rfl : ars = #[x, y] := Array.ext' ha
        have e0 := hf.op h1
        have e1 := hf.op h2
        simp only [resolve, List.map_toArray, List.map_cons, List.map_nil, e0, e1]
        have : (if ay < ax then ay else ax) = min ax ay := by simp only [Int.min_def]; split <;> split <;> omega
        simp [invoke, builtin, Builtin.min_, Builtin.min2, this]
      · cases h
    · rename_i _ _ _ x y z ha
      split at h
      · rename_i kx ax ky ay kz az h1 h2 h3
        cases h
        obtain rfl : ars = #[x, y, z] := Array.ext' ha
        have e0 := hf.op h1
        have e1 := hf.op h2
        have e2 := hf.op h3
        simp only [resolve, List.map_toArray, List.map_cons, List.map_nil, e0, e1, e2]
        have q : ∀ p q : Int, (if p < q then q else p) = max p q := fun p q => by simp only [Int.max_def]; split <;> split <;> omega
        simp [invoke, builtin, Builtin.max_, Builtin.max2, q]
      · cases h
    · cases h
  all_goals cases h


/-! ### A region, operation by operation -/

/-- What is left of a region. -/
def YL (P : Program) (ro : Cx) (n : Nat) (F : Fin) (k : List It) (ops : Array Oper) (l : List Oper) (e : Env) (w : World) : Prop :=
  ∀ a, Fits n e a → a.defers = ro.ds → wpListIn (FR ro.ro) 0 P ops (S P ro.ro F k) l a w

section
variable {ro : Cx} {n : Nat} {F : Fin} {k : List It} {ops : Array Oper} {l rest : List Oper} {e : Env} {w : World} {o : Oper}

theorem y_region {id : Nat} {l : List Oper} (h : YL P ro n F k l.toArray l e w) : Y P ro n F (.code (.region id l.toArray false) :: k) e w :=
  fun a hf hd => wpIn_region_lit (h a hf hd)

theorem yl_nil (h : Y P ro n F k e w) : YL P ro n F k ops [] e w := fun a hf hd => wpListIn_nil (h a hf hd)

theorem fr_fn {r : Option Nat} (f : FuncId) : (FR r).fn f := trivial

theorem upon_FR {nx : Act → World → Prop} {a : Act} {Q : Fin} {v : Value} {w' : World} (hop : ∀ c, o.op ≠ .defer c) (hr : (execOp a.eval o).run P w = .ok (.value v) w') (h : nx (a.put o.dst v) w') : o.wpIn (FR ro.ro) 0 P a w nx Q := by
  refine ⟨fun f _ => fr_fn f, ?_⟩
  rw [Oper.semAt_eq _ _ _ hop, hr]
  exact h

theorem upon_FR_skip {nx : Act → World → Prop} {a : Act} {Q : Fin} {w' : World} (hop : ∀ c, o.op ≠ .defer c) (hr : (execOp a.eval o).run P w = .ok .skip w') (h : nx (a.put o.dst undef) w') : o.wpIn (FR ro.ro) 0 P a w nx Q := by
  refine ⟨fun f _ => fr_fn f, ?_⟩
  rw [Oper.semAt_eq _ _ _ hop, hr]
  exact h

/-- An operation that yields a value. -/
theorem yl_val {t : Nat} {v : Value} {w' : World} {op : Op} {ty : TypeId} {pos : String} {af : Array Edge} (hop : ∀ c, op ≠ .defer c) (ht : Nat.blt t n = true)
    (hr : ∀ a, Fits n e a → (execOp a.eval ⟨some t, op, ty, pos, af, none⟩).run P w = .ok (.value v) w') (h : YL P ro n F k ops rest ((t, v) :: e) w') :
    YL P ro n F k ops (⟨some t, op, ty, pos, af, none⟩ :: rest) e w := fun a hf hd =>
  wpListIn_plain rfl fun _ hK => upon_FR hop (hr a hf) (hK _ _ (h _ (hf.put v ht) (by simpa [Act.put] using hd)))

/-- An operation without a value. -/
theorem yl_do {w' : World} {op : Op} {ty : TypeId} {pos : String} {af : Array Edge} (hop : ∀ c, op ≠ .defer c)
    (hr : ∀ a, Fits n e a → (execOp a.eval ⟨none, op, ty, pos, af, none⟩).run P w = .ok .skip w') (h : YL P ro n F k ops rest e w') :
    YL P ro n F k ops (⟨none, op, ty, pos, af, none⟩ :: rest) e w := fun a hf hd =>
  wpListIn_plain rfl fun _ hK => upon_FR_skip hop (hr a hf) (hK _ _ (h _ hf hd))

theorem evp_defer {op : Op} {v : Value} (h : evp T e op = some v) (c : Call) : op ≠ .defer c := by
  rintro rfl
  simp [evp] at h

/-- A pure operation. -/
theorem yl_pure (hT : T.Ok P) {t : Nat} {v : Value} {op : Op} {ty : TypeId} {pos : String} {af : Array Edge} (hv : evp T e op = some v) (ht : Nat.blt t n = true)
    (h : YL P ro n F k ops rest ((t, v) :: e) w) : YL P ro n F k ops (⟨some t, op, ty, pos, af, none⟩ :: rest) e w :=
  yl_val (evp_defer hv) ht (fun _ hf => evp_run hT hf hv w) h

/-- The same, another value being as good. -/
theorem yl_pure_eq (hT : T.Ok P) {t : Nat} {v : Value} (u : Value) {op : Op} {ty : TypeId} {pos : String} {af : Array Edge} (hv : evp T e op = some v) (hu : v = u) (ht : Nat.blt t n = true)
    (h : YL P ro n F k ops rest ((t, u) :: e) w) : YL P ro n F k ops (⟨some t, op, ty, pos, af, none⟩ :: rest) e w :=
  yl_pure hT (hu ▸ hv) ht h

/-! #### Guards -/

/-- The Bool of the operation that guards. -/
def guardV (ops : Array Oper) (e : Env) (j : Nat) : Option Bool :=
  match (ops[j]?).bind (·.dst) with
  | some t => (match look e t with | some (.bool b) => some b | _ => none)
  | none => none

theorem guardV_yielded {a : Act} (hf : Fits n e a) {j : Nat} {b : Bool} (h : guardV ops e j = some b) : yielded ops a.tmps j = some b := by
  simp only [guardV] at h
  cases hd : (ops[j]?).bind (·.dst) with
  | none => simp [hd] at h
  | some t =>
    simp only [hd] at h
    cases hl : look e t with
    | none => simp [hl] at h
    | some v =>
      cases v <;> simp [hl] at h
      case bool c =>
        subst h
        have := hf.at_ t _ hl
        simp only [yielded, hd, Option.bind_some]
        cases hc : a.tmps[t]? with
        | none => simp [Array.getD_eq_getD_getElem?, hc, undef] at this
        | some u =>
          simp [Array.getD_eq_getD_getElem?, hc] at this
          simp [this]

theorem yl_guard_yes {dst : Option Nat} {op : Op} {ty : TypeId} {pos : String} {af : Array Edge} {j : Nat} {b : Bool} (hg : guardV ops e j = some b)
    (h : YL P ro n F k ops (⟨dst, op, ty, pos, af, none⟩ :: rest) e w) : YL P ro n F k ops (⟨dst, op, ty, pos, af, some (j, b)⟩ :: rest) e w := fun a hf hd => by
  have h1 := h a hf hd
  have hy := guardV_yielded hf hg
  simp only [wpListIn, Region.wanted, if_true] at h1
  simp only [wpListIn, Region.wanted, hy, beq_self_eq_true, if_true]
  exact h1

theorem yl_guard_no {t : Nat} {op : Op} {ty : TypeId} {pos : String} {af : Array Edge} {j : Nat} {b c : Bool} (hg : guardV ops e j = some c) (hne : (c == b) = false) (ht : Nat.blt t n = true)
    (h : YL P ro n F k ops rest ((t, undef) :: e) w) : YL P ro n F k ops (⟨some t, op, ty, pos, af, some (j, b)⟩ :: rest) e w := fun a hf hd => by
  have hy := guardV_yielded hf hg
  have hw : (some c == some b) = false := by simpa using hne
  simp only [wpListIn, Region.wanted, hy, hw]
  exact ⟨fun f _ => fr_fn f, h _ (hf.put undef ht) (by simpa [Act.put] using hd)⟩

/-! #### Calls -/

/-- A call of function g returns what R says. -/
def Ca (P : Program) (g : FuncId) (args : List Value) (w : World) (R : Value → World → Prop) : Prop :=
  Calls P g args.toArray w fun e w' => ∃ v, e = .returned v ∧ R v w'

theorem Ca.mono {g : FuncId} {args : List Value} {R R' : Value → World → Prop} (h : Ca P g args w R) (hr : ∀ v w', R v w' → R' v w') : Ca P g args w R' :=
  Calls.mono h fun _ _ ⟨v, he, hR⟩ => ⟨v, he, hr _ _ hR⟩

theorem run_callFunc (hT : T.Ok P) {g : Nat} (hg : has T.fn g = true) (args : Array Value) : (callFunc g args).run P w = .ok (.enter g args) w := by
  have h1 := hT.fn _ hg
  simp only [fnB] at h1
  split at h1
  · rename_i fn hfn
    simp only [Bool.and_eq_true, Bool.not_eq_true'] at h1
    obtain ⟨hb, hn⟩ := h1
    have hn' : ¬ fn.name = "runtime.NumGoroutine" := by simpa using hn
    have hb2 : ¬ fn.body = none := by intro h0; rw [h0] at hb; cases hb
    simp [callFunc, hfn, hn', hb2]
  · cases h1

theorem yl_call (hT : T.Ok P) {t : Nat} {f : Operand} {as : List Operand} {tys : Array TypeId} {ty : TypeId} {pos : String} {af : Array Edge} {g : Nat} {first caps : Array Value} {vs : List Value} {R : Value → World → Prop}
    (hf : opv e f = some (.func (.func g) first caps)) (hg : has T.fn g = true) (has_ : opvs e as = some vs) (ht : Nat.blt t n = true)
    (hc : Ca P g (first.toList ++ vs ++ caps.toList) w R) (h : ∀ v w', R v w' → YL P ro n F k ops rest ((t, v) :: e) w') :
    YL P ro n F k ops (⟨some t, .call { callee := .value f, args := as.toArray, argTypes := tys }, ty, pos, af, none⟩ :: rest) e w := fun a hfit hd =>
  wpListIn_plain rfl fun K hK => by
    refine ⟨fun f _ => fr_fn f, ?_⟩
    rw [Oper.semAt_eq _ _ _ (by simp)]
    have e1 := hfit.op hf
    have e2 := hfit.ops has_
    have hrun : (execOp a.eval ⟨some t, .call { callee := .value f, args := as.toArray, argTypes := tys }, ty, pos, af, none⟩).run P w = .ok (.enter g (first.toList ++ vs ++ caps.toList).toArray) w := by
      simp only [execOp, resolve, List.map_toArray, e1, e2, Deferred.ofValue]
      simp [invoke, run_callFunc hT hg]
    rw [hrun]
    refine ⟨fun hx => by simp [Fence.wide] at hx, callsIn_FR (Calls.mono hc ?_)⟩
    rintro x w' ⟨v, rfl, hR⟩
    exact hK _ _ (h v w' hR _ (hfit.put v ht) (by simpa [Act.put] using hd))

/-- A call without a result. -/
theorem yl_call0 (hT : T.Ok P) {f : Operand} {as : List Operand} {tys : Array TypeId} {ty : TypeId} {pos : String} {af : Array Edge} {g : Nat} {first caps : Array Value} {vs : List Value} {R : Value → World → Prop}
    (hf : opv e f = some (.func (.func g) first caps)) (hg : has T.fn g = true) (has_ : opvs e as = some vs)
    (hc : Ca P g (first.toList ++ vs ++ caps.toList) w R) (h : ∀ v w', R v w' → YL P ro n F k ops rest e w') :
    YL P ro n F k ops (⟨none, .call { callee := .value f, args := as.toArray, argTypes := tys }, ty, pos, af, none⟩ :: rest) e w := fun a hfit hd =>
  wpListIn_plain rfl fun K hK => by
    refine ⟨fun f _ => fr_fn f, ?_⟩
    rw [Oper.semAt_eq _ _ _ (by simp)]
    have e1 := hfit.op hf
    have e2 := hfit.ops has_
    have hrun : (execOp a.eval ⟨none, .call { callee := .value f, args := as.toArray, argTypes := tys }, ty, pos, af, none⟩).run P w = .ok (.enter g (first.toList ++ vs ++ caps.toList).toArray) w := by
      simp only [execOp, resolve, List.map_toArray, e1, e2, Deferred.ofValue]
      simp [invoke, run_callFunc hT hg]
    rw [hrun]
    refine ⟨fun hx => by simp [Fence.wide] at hx, callsIn_FR (Calls.mono hc ?_)⟩
    rintro x w' ⟨v, rfl, hR⟩
    exact hK _ _ (h v w' hR _ hfit hd)

/-! #### The function's beginning and end -/

/-- The end of a function: what its results are. -/
def fin (P : Program) (fn : Func) (R : Value → World → Prop) : Fin := bodyPost P fn fun e w' => ∃ v, e = .returned v ∧ R v w'

/-- The beginning environment. -/
def env0 : Nat → List Value → Env
  | _, [] => []
  | i, v :: vs => (i, v) :: env0 (i + 1) vs

theorem look_env0 (vs : List Value) : ∀ i t v, look (env0 i vs) t = some v → i ≤ t ∧ vs[t - i]? = some v := by
  induction vs with
  | nil => intro i t v h; simp [env0, look] at h
  | cons u vs ih =>
    intro i t v h
    simp only [env0, look] at h
    cases hb : Nat.beq i t with
    | true =>
      rw [hb] at h
      have := Nat.eq_of_beq_eq_true hb
      subst this
      simp at h
      subst h
      simp
    | false =>
      rw [hb] at h
      obtain ⟨h1, h2⟩ := ih _ _ _ h
      refine ⟨by omega, ?_⟩
      rw [show t - i = (t - (i + 1)) + 1 from by omega, List.getElem?_cons_succ]
      exact h2

theorem ca_of {g : FuncId} {fn : Func} {c : Code} {args : List Value} {R : Value → World → Prop} (hfn : P.funcs[g]? = some fn) (hb : fn.body = some c) (hn : args.length ≤ fn.ntmps)
    (h : Y P ⟨none, []⟩ fn.ntmps (fin P fn R) [.code c] (env0 0 args) w) : Ca P g args w R := by
  refine (callsIn_wide (n := 0)).1 (callsIn_of_wp hfn hb trivial ?_ rfl)
  have h1 := h { tmps := args.toArray ++ Array.replicate (fn.ntmps - args.toArray.size) undef, defers := [] } ⟨by simp; omega, fun t v ht => ?_⟩ rfl
  · exact h1
  · obtain ⟨_, h2⟩ := look_env0 args 0 t v ht
    simp at h2
    have hlt : t < args.length := (List.getElem?_eq_some_iff.1 h2).1
    have h3 : args[t] = v := by rw [List.getElem?_eq_getElem hlt] at h2; exact Option.some.inj h2
    simp [Array.getD_eq_getD_getElem?, Array.getElem?_append, hlt, h3]

theorem y_fin {r : Option Nat} {fn : Func} {R : Value → World → Prop} {v : Value} (hr : ∀ a, Fits n e a → (results fn a.tmps).run P w = .ok v w) (hR : R v w) : Y P ⟨r, []⟩ n (fun _ => fin P fn R .ret) [] e w :=
  fun a hf hd => ⟨hd, v, hr a hf, v, rfl, hR⟩

theorem y_fin1 {r : Option Nat} {fn : Func} {R : Value → World → Prop} {t : Nat} {v : Value} (hres : fn.results = #[.tmp t]) (hv : look e t = some v) (hR : R v w) : Y P ⟨r, []⟩ n (fun _ => fin P fn R .ret) [] e w :=
  y_fin (fun a hf => by rw [results_tmp hres]; rw [hf.at_ t v hv]) hR

theorem y_fin2 {r : Option Nat} {fn : Func} {R : Value → World → Prop} {t s : Nat} {v u : Value} (hres : fn.results = #[.tmp t, .tmp s]) (hv : look e t = some v) (hu : look e s = some u) (hR : R (.tuple #[v, u]) w) : Y P ⟨r, []⟩ n (fun _ => fin P fn R .ret) [] e w :=
  y_fin (fun a hf => by rw [results_tmp2 hres]; rw [hf.at_ t v hv, hf.at_ s u hu]) hR

theorem y_fin0 {r : Option Nat} {fn : Func} {R : Value → World → Prop} (hres : fn.results = #[]) (hR : R (.tuple #[]) w) : Y P ⟨r, []⟩ n (fun _ => fin P fn R .ret) [] e w :=
  y_fin (fun a hf => by rw [results_none hres]) hR

theorem y_end0 {r : Option Nat} {fn : Func} {R : Value → World → Prop} (hres : fn.results = #[]) (hR : R (.tuple #[]) w) : Y P ⟨r, []⟩ n (fin P fn R) [] e w :=
  fun _ _ hd => ⟨hd, .tuple #[], results_none hres _ _ _, _, rfl, hR⟩
end

end Go.Eng
