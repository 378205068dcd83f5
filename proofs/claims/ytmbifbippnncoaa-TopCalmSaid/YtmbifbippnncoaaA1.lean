/- The engine, part 1 (with deferred marks): an environment of known slots, a stack of code that is left, and the rules that step through it. -/
import Derived.CallsIn
import Derived.OrdersIn
import Derived.Tactics
import Derived.RangeFuncIn
import Derived.LoopNIn
import Derived.RowKit3
import Derived.Below
namespace Go.Eng
open Go

/-- Known slots. The first entry of a slot counts. -/
abbrev Env := List (Nat × Value)

def look : Env → Nat → Option Value
  | [], _ => none
  | (t, v) :: e, s => bif Nat.beq t s then some v else look e s

def opv (e : Env) : Operand → Option Value
  | .tmp t => look e t
  | .const v => some v
  | .global g => some (.pointer (some ⟨g, 0, none⟩))
  | .func f => some (.func (.func f) #[] #[])

/-- The frame agrees with the environment. -/
structure Fits (n : Nat) (e : Env) (a : Act) : Prop where
  size : a.tmps.size = n
  at_ : ∀ t v, look e t = some v → a.tmps.getD t undef = v

theorem Fits.op {n : Nat} {e : Env} {a : Act} (h : Fits n e a) {x : Operand} {v : Value} (hx : opv e x = some v) : a.eval x = v := by
  cases x with
  | tmp t => exact h.at_ t v hx
  | const u => simpa [opv, Act.eval] using hx
  | global g => simpa [opv, Act.eval] using hx
  | func f => simpa [opv, Act.eval] using hx

theorem Fits.put {n : Nat} {e : Env} {a : Act} (h : Fits n e a) {t : Nat} (v : Value) (ht : Nat.blt t n = true) : Fits n ((t, v) :: e) (a.put (some t) v) := by
  have ht' : t < n := by simpa [Nat.blt_eq] using ht
  refine ⟨by simp [Act.put, h.size], fun s u hs => ?_⟩
  simp only [look] at hs
  by_cases hst : t = s
  · subst hst
    simp at hs
    subst hs
    simp [Act.put, Array.getD, h.size, ht']
  · have : Nat.beq t s = false := by
      cases hb : Nat.beq t s
      · rfl
      · exact absurd (Nat.eq_of_beq_eq_true hb) hst
    rw [this] at hs
    have := h.at_ s u hs
    simpa [Act.put, Array.getElem?_setIfInBounds_ne hst] using this

/-- What a smaller environment knows. -/
def Sub : Env → Env → Prop
  | [], _ => True
  | (t, v) :: l, e => look e t = some v ∧ Sub l e

theorem Sub.look {l e : Env} (h : Sub l e) {t : Nat} {v : Value} (ht : Eng.look l t = some v) : Eng.look e t = some v := by
  induction l with
  | nil => simp [Eng.look] at ht
  | cons p l ih =>
    obtain ⟨s, u⟩ := p
    simp only [Eng.look] at ht
    cases hb : Nat.beq s t with
    | true =>
      rw [hb] at ht
      simp at ht
      have := Nat.eq_of_beq_eq_true hb
      subst this; subst ht
      exact h.1
    | false =>
      rw [hb] at ht
      exact ih h.2 ht

theorem Fits.sub {n : Nat} {e l : Env} {a : Act} (h : Fits n e a) (hs : Sub l e) : Fits n l a := ⟨h.size, fun t v ht => h.at_ t v (hs.look ht)⟩

/-- The fence of a plain activation, or of a round. -/
abbrev FR (r : Option Nat) : Fence := { Fence.wide with round := r }

/-- A round of which loop, or none; the deferred calls that the activation has. -/
structure Cx where
  ro : Option Nat
  ds : List Deferred

theorem callsIn_FR {r : Option Nat} {n : Nat} {P : Program} {f : FuncId} {args : Array Value} {w : World} {R : Ending → World → Prop} (h : Calls P f args w R) : CallsIn (FR r) n P f args w R :=
  (callsIn_wide (n := n)).2 h

/-- What is left to be done. -/
inductive It where
  | code (c : Code)
  | blk (id : Nat)
  | k (K : Act → World → Prop)

abbrev Fin := Exit → Act → World → Prop

def S (P : Program) (r : Option Nat) (F : Fin) : List It → Fin
  | [] => F
  | .code c :: k => Exit.then (fun a w => c.wpIn (FR r) 0 P (S P r F k) a w) (S P r F k)
  | .blk id :: k => Exit.inBlock id (S P r F k)
  | .k K :: k => Exit.then K (S P r F k)

/-- From the environment 'e' and the world 'w' what is left leads to 'F'. -/
def Y (P : Program) (ro : Cx) (n : Nat) (F : Fin) (k : List It) (e : Env) (w : World) : Prop :=
  ∀ a, Fits n e a → a.defers = ro.ds → S P ro.ro F k .normal a w

section rules
variable {P : Program} {ro : Cx} {n : Nat} {F : Fin} {k : List It} {e : Env} {w : World}

theorem Y.sub {l : Env} (h : Y P ro n F k l w) (hs : Sub l e) : Y P ro n F k e w := fun a hf hd => h a (hf.sub hs) hd

theorem y_seq {c d : Code} (h : Y P ro n F (.code c :: .code d :: k) e w) : Y P ro n F (.code (.seq c d) :: k) e w :=
  fun a hf hd => wpIn_seq (h a hf hd)

theorem y_skip (h : Y P ro n F k e w) : Y P ro n F (.code .skip :: k) e w := fun a hf hd => wpIn_skip (h a hf hd)

theorem y_label {l : Nat} (h : Y P ro n F k e w) : Y P ro n F (.code (.label l) :: k) e w := fun a hf hd => wpIn_label (h a hf hd)

theorem y_block {id : Nat} {c : Code} (h : Y P ro n F (.code c :: .blk id :: k) e w) : Y P ro n F (.code (.block id c) :: k) e w :=
  fun a hf hd => wpIn_block (h a hf hd)

theorem y_blk {id : Nat} (h : Y P ro n F k e w) : Y P ro n F (.blk id :: k) e w := h

/-- What is left behind the block that an exit leaves. -/
def dropTo (id : Nat) : List It → Option (List It)
  | [] => none
  | .blk i :: k => bif Nat.beq id i then some k else dropTo id k
  | _ :: k => dropTo id k

theorem S_exit {r : Option Nat} {id : Nat} {k k' : List It} (h : dropTo id k = some k') (a : Act) (w : World) (hs : S P r F k' .normal a w) : S P r F k (.exit id) a w := by
  induction k with
  | nil => simp [dropTo] at h
  | cons i k ih =>
    cases i with
    | code c => exact ih (by simpa [dropTo] using h)
    | k K => exact ih (by simpa [dropTo] using h)
    | blk j =>
      simp only [dropTo] at h
      cases hb : Nat.beq id j with
      | true =>
        rw [hb] at h
        simp at h
        have := Nat.eq_of_beq_eq_true hb
        subst this; subst h
        simpa [S, Exit.inBlock] using hs
      | false =>
        rw [hb] at h
        have hne : id ≠ j := fun e => by subst e; simp at hb
        simp only [S, Exit.inBlock, if_neg hne]
        exact ih h

theorem y_exit {id : Nat} (k' : List It) (hk : dropTo id k = some k') (h : Y P ro n F k' e w) : Y P ro n F (.code (.exit id) :: k) e w :=
  fun a hf hd => wpIn_exit (S_exit hk a w (h a hf hd))

theorem S_pass {r : Option Nat} {k : List It} {x : Exit} (hx : x = .ret ∨ x = .outgrown ∨ (∃ c, x = .panic c) ∨ ∃ l, x = .goto l) (a : Act) (w : World) (hs : F x a w) : S P r F k x a w := by
  induction k with
  | nil => exact hs
  | cons i k ih =>
    rcases hx with rfl | rfl | ⟨c, rfl⟩ | ⟨l, rfl⟩ <;> cases i <;> exact ih

theorem y_ret (h : Y P ro n (fun _ => F .ret) [] e w) : Y P ro n F (.code .ret :: k) e w :=
  fun a hf hd => wpIn_ret (S_pass (.inl rfl) a w (h a hf hd))

theorem y_cond {c : Operand} {x y : Code} {t : Bool} (hc : opv e c = some (.bool t)) (ht : t = true → Y P ro n F (.code x :: k) e w) (hf : t = false → Y P ro n F (.code y :: k) e w) :
    Y P ro n F (.code (.cond c x y) :: k) e w :=
  fun a hfit hd => wpIn_cond_split (hfit.op hc) (fun h => ht h a hfit hd) (fun h => hf h a hfit hd)

theorem y_cond_true {c : Operand} {x y : Code} (hc : opv e c = some (.bool true)) (h : Y P ro n F (.code x :: k) e w) :
    Y P ro n F (.code (.cond c x y) :: k) e w := y_cond hc (fun _ => h) (fun h => by cases h)

theorem y_cond_false {c : Operand} {x y : Code} (hc : opv e c = some (.bool false)) (h : Y P ro n F (.code y :: k) e w) :
    Y P ro n F (.code (.cond c x y) :: k) e w := y_cond hc (fun h => by cases h) (fun _ => h)

theorem roundsIn_mono {r : Option Nat} {body : Code} {Q : Fin} {i j : Nat} (hij : i ≤ j) {a : Act} {w : World} (h : Code.roundsIn (FR r) 0 P body Q i a w) : Code.roundsIn (FR r) 0 P body Q j a w := by
  induction i generalizing j a w with
  | zero => exact h.elim
  | succ i ih =>
    cases j with
    | zero => omega
    | succ j =>
      refine wpIn_mono h fun x a w hq => ?_
      cases x <;> first | exact ih (by omega) hq | exact hq

/-- A loop: 'I m l w' holds at each round's head, l being what is known there; each round lowers m. -/
theorem y_loop {body : Code} (I : Nat → Env → World → Prop) {m : Nat} {l : Env} (h0 : I m l w) (hs : Sub l e)
    (round : ∀ m l w, I m l w → ∀ K : Act → World → Prop, (∀ m' l' e' w', I m' l' w' → m' < m → Sub l' e' → ∀ a, Fits n e' a → a.defers = ro.ds → K a w') → Y P ro n F (.code body :: .k K :: k) l w) :
    Y P ro n F (.code (.loop body) :: k) e w := by
  intro a hf hd
  have key : ∀ m l w, I m l w → ∀ a, Fits n l a → a.defers = ro.ds → Code.roundsIn (FR ro.ro) 0 P body (S P ro.ro F k) (m + 1) a w := by
    intro m
    induction m using Nat.strongRecOn with
    | _ m ih =>
      intro l w hI a hf hd
      exact round m l w hI (Code.roundsIn (FR ro.ro) 0 P body (S P ro.ro F k) m) (fun m' l' e' w' hI' hlt hs' a' hf' hd' => roundsIn_mono (by omega) (ih m' hlt l' w' hI' a' (hf'.sub hs') hd')) a hf hd
  exact wpIn_loop_rounds (m + 1) (key m l w h0 a (hf.sub hs) hd)

theorem y_k {K : Act → World → Prop} (h : ∀ a, Fits n e a → a.defers = ro.ds → K a w) : Y P ro n F (.k K :: k) e w := h

/-- An exit that nothing here catches. -/
theorem S_exit_out {r : Option Nat} {id : Nat} {k : List It} (h : dropTo id k = none) (a : Act) (w : World) (hs : F (.exit id) a w) : S P r F k (.exit id) a w := by
  induction k with
  | nil => exact hs
  | cons i k ih =>
    cases i with
    | code c => exact ih (by simpa [dropTo] using h)
    | k K => exact ih (by simpa [dropTo] using h)
    | blk j =>
      simp only [dropTo] at h
      cases hb : Nat.beq id j with
      | true => rw [hb] at h; simp at h
      | false =>
        rw [hb] at h
        have hne : id ≠ j := fun e => by subst e; simp at hb
        simp only [S, Exit.inBlock, if_neg hne]
        exact ih h

theorem y_exit_out {id : Nat} (hk : dropTo id k = none) (h : Y P ro n (fun _ => F (.exit id)) [] e w) : Y P ro n F (.code (.exit id) :: k) e w :=
  fun a hf hd => wpIn_exit (S_exit_out hk a w (h a hf hd))

/-- Forget what is not needed. -/
theorem y_keep (l : Env) (hs : Sub l e) (h : Y P ro n F k l w) : Y P ro n F k e w := h.sub hs

end rules
end Go.Eng
