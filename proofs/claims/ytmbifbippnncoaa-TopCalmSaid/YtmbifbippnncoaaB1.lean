/- The engine, part B1: memory as a list of pieces. A judgement that holds for every world that fits the list. -/
import Derived.Test.YtmbifbippnncoaaA9
import Derived.Test.YtmbifbippnncoaaLib2
namespace Go.Eng
open Go Go.RowKit

/-- What changed lies in N. -/
structure ChgP (N : Nat → Prop) (w w' : World) : Prop where
  os : w'.os = w.os
  tape : w'.tape = w.tape
  output : w'.output = w.output
  size : w.heap.size ≤ w'.heap.size
  block : ∀ k, k < w.heap.size → ¬ N k → w'.heap[k]? = w.heap[k]?

theorem Chg.P {N : List Nat} {w w' : World} (h : Chg N w w') : ChgP (· ∈ N) w w' := ⟨h.os, h.tape, h.output, h.size, h.block⟩
theorem ChgP.list {N : List Nat} {w w' : World} (h : ChgP (· ∈ N) w w') : Chg N w w' := ⟨h.os, h.tape, h.output, h.size, h.block⟩
theorem ChgP.refl (N : Nat → Prop) (w : World) : ChgP N w w := ⟨rfl, rfl, rfl, Nat.le_refl _, fun _ _ _ => rfl⟩
theorem ChgP.upP {N M : Nat → Prop} {a b c : World} (h : ChgP N a b) (g : ChgP M b c) (hM : ∀ k, M k → N k ∨ a.heap.size ≤ k) : ChgP N a c :=
  ⟨g.os.trans h.os, g.tape.trans h.tape, g.output.trans h.output, Nat.le_trans h.size g.size, fun k hk hn =>
    (g.block k (Nat.lt_of_lt_of_le hk h.size) (fun hm => by rcases hM k hm with h1 | h1 <;> first | exact hn h1 | omega)).trans (h.block k hk hn)⟩
theorem ChgP.up {N : Nat → Prop} {M : List Nat} {a b c : World} (h : ChgP N a b) (g : Chg M b c) (hM : ∀ k ∈ M, N k ∨ a.heap.size ≤ k) : ChgP N a c := h.upP g.P hM

/-- No block. -/
abbrev M0 : Nat → Prop := fun _ => False
theorem ChgP.none {w w' : World} (h : ChgP M0 w w') : Chg [] w w' := ⟨h.os, h.tape, h.output, h.size, fun k hk _ => h.block k hk (fun h => h)⟩
theorem Chg.P0 {w w' : World} (h : Chg [] w w') : ChgP M0 w w' := ⟨h.os, h.tape, h.output, h.size, fun k hk _ => h.block k hk (by simp)⟩

/-- A piece of memory: a block known whole; a slice of our own that can grow; anything that hangs on some blocks alone. -/
inductive Ck where
  | pt (b : Nat) (cs : List Value) (t : TypeId)
  | ow (v : Value) (e sz n : Nat) (xs : List Value)
  | gn (D : Nat → Prop) (p : World → Prop) (st : ∀ w w' N, p w → ChgP N w w' → (∀ b, D b → ¬ N b) → p w')

/-- The blocks that a piece takes. -/
def Ck.D : Ck → Nat → Prop
  | .pt b _ _, x => x = b
  | .ow v _ _ _ _, x => v.ownBlock = some x
  | .gn D _ _, x => D x

/-- What a piece says. -/
def Ck.p : Ck → World → Prop
  | .pt b cs t, w => Blk w b cs t
  | .ow v e sz n xs, w => w.ownsRow 0 e sz v n xs
  | .gn _ p _, w => p w

theorem Ck.st {c : Ck} {w w' : World} {N : Nat → Prop} (h : c.p w) (hc : ChgP N w w') (hb : ∀ b, c.D b → ¬ N b) : c.p w' := by
  cases c with
  | pt b cs t => exact (hc.block b (Blk.lt h) (hb b rfl)).trans h
  | ow v e sz n xs =>
    obtain ⟨h1, h2⟩ := h
    refine ⟨h1, ?_⟩
    rcases h2 with h2 | ⟨g, cap, cur, rfl, hg, hh, r⟩
    · exact .inl h2
    · exact .inr ⟨g, cap, cur, rfl, hg, (hc.block g (Array.getElem?_eq_some_iff.1 hh).1 (hb g rfl)).trans hh, r⟩
  | gn D p st => exact st w w' N h hc hb

/-- The world fits the list; since w0 only blocks of M, and new ones, have changed. -/
structure Sat (w0 : World) (M : Nat → Prop) (H : List Ck) (w : World) : Prop where
  chg : ChgP M w0 w
  all : ∀ c ∈ H, c.p w
  sep : H.Pairwise (fun c d => ∀ b, c.D b → ¬ d.D b)
  bd : ∀ c ∈ H, ∀ b, c.D b → b < w.heap.size ∧ (M b ∨ w0.heap.size ≤ b)

theorem Sat.nil (w0 : World) (M : Nat → Prop) : Sat w0 M [] w0 := ⟨ChgP.refl _ _, by simp, .nil, by simp⟩

theorem Sat.keep {w0 : World} {M : Nat → Prop} {H : List Ck} {w w' : World} (h : Sat w0 M H w) (c : Chg [] w w') : Sat w0 M H w' :=
  ⟨h.chg.up c (by simp), fun x hx => Ck.st (h.all x hx) c.P0 (fun _ _ h => h), h.sep, fun x hx b hb => ⟨Nat.lt_of_lt_of_le (h.bd x hx b hb).1 c.size, (h.bd x hx b hb).2⟩⟩

theorem Sat.add {w0 : World} {M : Nat → Prop} {H : List Ck} {w w' : World} (h : Sat w0 M H w) (c : Chg [] w w') {x : Ck} (hp : x.p w') (hD : ∀ b, x.D b → w.heap.size ≤ b ∧ b < w'.heap.size) : Sat w0 M (x :: H) w' := by
  have h' := h.keep c
  refine ⟨h'.chg, ?_, ?_, ?_⟩
  · intro y hy
    rcases List.mem_cons.1 hy with rfl | hy
    · exact hp
    · exact h'.all y hy
  · refine List.pairwise_cons.2 ⟨fun y hy b hb hb' => ?_, h.sep⟩
    have := (h.bd y hy b hb').1
    have := (hD b hb).1
    omega
  · intro y hy b hb
    rcases List.mem_cons.1 hy with rfl | hy
    · exact ⟨(hD b hb).2, .inr (Nat.le_trans h.chg.size (hD b hb).1)⟩
    · exact h'.bd y hy b hb

theorem Sat.chg0 {w0 : World} {H : List Ck} {w : World} (h : Sat w0 M0 H w) : Chg [] w0 w := h.chg.none

/-- One piece put in another's place. -/
inductive Rp : List Ck → Ck → Ck → List Ck → Prop
  | z {H : List Ck} {c c' : Ck} : Rp (c :: H) c c' (c' :: H)
  | s {H H' : List Ck} {c c' d : Ck} : Rp H c c' H' → Rp (d :: H) c c' (d :: H')

theorem Rp.mem {H H' : List Ck} {c c' : Ck} (h : Rp H c c' H') : c ∈ H := by
  induction h with
  | z => exact List.mem_cons_self
  | s _ ih => exact List.mem_cons_of_mem _ ih

theorem Sat.mem {w0 : World} {M : Nat → Prop} {H : List Ck} {w : World} (h : Sat w0 M H w) {c : Ck} (hc : c ∈ H) : c.p w := h.all c hc

theorem Sat.blk {w0 : World} {M : Nat → Prop} {H : List Ck} {w : World} (h : Sat w0 M H w) {b : Nat} {cs : List Value} {t : TypeId} (hc : Ck.pt b cs t ∈ H) : Blk w b cs t := h.all _ hc

theorem Sat.tail {w0 : World} {M : Nat → Prop} {H : List Ck} {c : Ck} {w : World} (h : Sat w0 M (c :: H) w) : Sat w0 M H w :=
  ⟨h.chg, fun x hx => h.all x (List.mem_cons_of_mem _ hx), (List.pairwise_cons.1 h.sep).2, fun x hx => h.bd x (List.mem_cons_of_mem _ hx)⟩

theorem Sat.perm {w0 : World} {M : Nat → Prop} {H H' : List Ck} {w : World} (h : Sat w0 M H w) (hp : H.Perm H') : Sat w0 M H' w :=
  ⟨h.chg, fun x hx => h.all x (hp.mem_iff.2 hx), (hp.pairwise_iff (fun {_ _} hs b h1 h2 => hs b h2 h1)).1 h.sep, fun x hx => h.bd x (hp.mem_iff.2 hx)⟩

theorem Rp.perm {H H' : List Ck} {c c' : Ck} (h : Rp H c c' H') : ∃ R, H.Perm (c :: R) ∧ H'.Perm (c' :: R) := by
  induction h with
  | z => exact ⟨_, .refl _, .refl _⟩
  | @s H H' c c' d _ ih =>
    obtain ⟨R, h1, h2⟩ := ih
    exact ⟨d :: R, (h1.cons d).trans (.swap _ _ _), (h2.cons d).trans (.swap _ _ _)⟩

theorem Sat.rep {w0 : World} {M : Nat → Prop} {N : List Nat} {H H' : List Ck} {c c' : Ck} {w w' : World} (h : Sat w0 M H w) (hr : Rp H c c' H') (g : Chg N w w') (hN : ∀ k ∈ N, c.D k) (hp : c'.p w')
    (hD : ∀ b, c'.D b → (c.D b ∨ w.heap.size ≤ b) ∧ b < w'.heap.size) : Sat w0 M H' w' := by
  obtain ⟨R, h1, h2⟩ := hr.perm
  have h3 := h.perm h1
  refine Sat.perm ?_ h2.symm
  have hsep := List.pairwise_cons.1 h3.sep
  have hbd := h3.bd c List.mem_cons_self
  refine ⟨h.chg.up g (fun k hk => (hbd k (hN k hk)).2), ?_, List.pairwise_cons.2 ⟨?_, hsep.2⟩, ?_⟩
  · intro y hy
    rcases List.mem_cons.1 hy with rfl | hy
    · exact hp
    · exact Ck.st (h3.all y (List.mem_cons_of_mem _ hy)) g.P (fun b hb hm => hsep.1 y hy b (hN b hm) hb)
  · intro y hy b hb hb'
    rcases (hD b hb).1 with h4 | h4
    · exact hsep.1 y hy b h4 hb'
    · have := (h3.bd y (List.mem_cons_of_mem _ hy) b hb').1
      omega
  · intro y hy b hb
    rcases List.mem_cons.1 hy with rfl | hy
    · refine ⟨(hD b hb).2, ?_⟩
      rcases (hD b hb).1 with h4 | h4
      · exact (hbd b h4).2
      · exact .inr (Nat.le_trans h.chg.size h4)
    · exact ⟨Nat.lt_of_lt_of_le (h3.bd y (List.mem_cons_of_mem _ hy) b hb).1 g.size, (h3.bd y (List.mem_cons_of_mem _ hy) b hb).2⟩

/-- Some of the pieces, in some order. -/
inductive Rm : List Ck → Ck → List Ck → Prop
  | z {H : List Ck} {c : Ck} : Rm (c :: H) c H
  | s {H H' : List Ck} {c d : Ck} : Rm H c H' → Rm (d :: H) c (d :: H')
inductive Sp : List Ck → List Ck → Prop
  | nil {H : List Ck} : Sp H []
  | cons {H H1 H' : List Ck} {c : Ck} : Rm H c H1 → Sp H1 H' → Sp H (c :: H')

theorem Rm.perm {H H' : List Ck} {c : Ck} (h : Rm H c H') : H.Perm (c :: H') := by
  induction h with
  | z => exact .refl _
  | @s H H' c d _ ih => exact (ih.cons d).trans (.swap _ _ _)

theorem Sat.sp {w0 : World} {M : Nat → Prop} {H H' : List Ck} {w : World} (h : Sat w0 M H w) (hs : Sp H H') : Sat w0 M H' w := by
  induction hs with
  | nil => exact ⟨h.chg, by simp, .nil, by simp⟩
  | @cons H H1 H' c hr _ ih =>
    have h1 := h.perm hr.perm
    have h2 := ih h1.tail
    have key : ∀ {A B : List Ck}, Sp A B → ∀ c ∈ B, c ∈ A := by
      intro A B hs
      induction hs with
      | nil => intro c hc; simp at hc
      | @cons A A1 B c hr _ ih =>
        intro d hd
        rcases List.mem_cons.1 hd with rfl | hd
        · exact hr.perm.mem_iff.2 List.mem_cons_self
        · exact hr.perm.mem_iff.2 (List.mem_cons_of_mem _ (ih d hd))
    rename_i hsp
    refine ⟨h.chg, ?_, List.pairwise_cons.2 ⟨fun y hy => (List.pairwise_cons.1 h1.sep).1 y (key hsp y hy), h2.sep⟩, ?_⟩
    · intro y hy
      rcases List.mem_cons.1 hy with rfl | hy
      · exact h1.all _ List.mem_cons_self
      · exact h2.all y hy
    · intro y hy
      rcases List.mem_cons.1 hy with rfl | hy
      · exact h1.bd _ List.mem_cons_self
      · exact h2.bd y hy

section
variable {P : Program} {T : Tab}

/-- The judgement of parts A, at every world that fits the pieces. -/
structure Q (P : Program) (ro : Cx) (n : Nat) (F : Fin) (w0 : World) (M : Nat → Prop) (k : List It) (e : Env) (H : List Ck) : Prop where
  h : ∀ w, Sat w0 M H w → Y P ro n F k e w
structure QL (P : Program) (ro : Cx) (n : Nat) (F : Fin) (w0 : World) (M : Nat → Prop) (k : List It) (ops : Array Oper) (l : List Oper) (e : Env) (H : List Ck) : Prop where
  h : ∀ w, Sat w0 M H w → YL P ro n F k ops l e w
/-- In a region that draws its order: Hq are the pieces that stay as they are till its end. -/
structure QF (P : Program) (ro : Cx) (n : Nat) (F : Fin) (w0 : World) (M : Nat → Prop) (k : List It) (ops : Array Oper) (Hq : List Ck) (l : List Oper) (e : Env) (H : List Ck) : Prop where
  h : ∀ w, Sat w0 M (H ++ Hq) w → YF P ro n F k ops (Sat w0 M Hq) l e w

variable {ro : Cx} {n : Nat} {F : Fin} {w0 : World} {M : Nat → Prop} {k : List It} {ops : Array Oper} {l rest : List Oper} {e : Env} {H Hq : List Ck}

instance : CoeFun (Q P ro n F w0 M k e H) (fun _ => ∀ w, Sat w0 M H w → Y P ro n F k e w) := ⟨Q.h⟩
instance : CoeFun (QL P ro n F w0 M k ops l e H) (fun _ => ∀ w, Sat w0 M H w → YL P ro n F k ops l e w) := ⟨QL.h⟩
instance : CoeFun (QF P ro n F w0 M k ops Hq l e H) (fun _ => ∀ w, Sat w0 M (H ++ Hq) w → YF P ro n F k ops (Sat w0 M Hq) l e w) := ⟨QF.h⟩

theorem Sat.right {w : World} : ∀ {H : List Ck}, Sat w0 M (H ++ Hq) w → Sat w0 M Hq w
  | [], h => h
  | _ :: _, h => Sat.right (Sat.tail h)

/-! Code -/
theorem q_seq {c d : Code} (h : Q P ro n F w0 M (.code c :: .code d :: k) e H) : Q P ro n F w0 M (.code (.seq c d) :: k) e H := .mk fun w hs => y_seq (h w hs)
theorem q_skip (h : Q P ro n F w0 M k e H) : Q P ro n F w0 M (.code .skip :: k) e H := .mk fun w hs => y_skip (h w hs)
theorem q_label {l : Nat} (h : Q P ro n F w0 M k e H) : Q P ro n F w0 M (.code (.label l) :: k) e H := .mk fun w hs => y_label (h w hs)
theorem q_block {id : Nat} {c : Code} (h : Q P ro n F w0 M (.code c :: .blk id :: k) e H) : Q P ro n F w0 M (.code (.block id c) :: k) e H := .mk fun w hs => y_block (h w hs)
theorem q_blk {id : Nat} (h : Q P ro n F w0 M k e H) : Q P ro n F w0 M (.blk id :: k) e H := .mk fun w hs => y_blk (h w hs)
theorem q_exit {id : Nat} (k' : List It) (hk : dropTo id k = some k') (h : Q P ro n F w0 M k' e H) : Q P ro n F w0 M (.code (.exit id) :: k) e H := .mk fun w hs => y_exit k' hk (h w hs)
theorem q_exit_out {id : Nat} (hk : dropTo id k = none) (h : Q P ro n (fun _ => F (.exit id)) w0 M [] e H) : Q P ro n F w0 M (.code (.exit id) :: k) e H := .mk fun w hs => y_exit_out hk (h w hs)
theorem q_ret (h : Q P ro n (fun _ => F .ret) w0 M [] e H) : Q P ro n F w0 M (.code .ret :: k) e H := .mk fun w hs => y_ret (h w hs)
theorem q_cond_true {c : Operand} {x y : Code} (hc : opv e c = some (.bool true)) (h : Q P ro n F w0 M (.code x :: k) e H) : Q P ro n F w0 M (.code (.cond c x y) :: k) e H := .mk fun w hs => y_cond_true hc (h w hs)
theorem q_cond_false {c : Operand} {x y : Code} (hc : opv e c = some (.bool false)) (h : Q P ro n F w0 M (.code y :: k) e H) : Q P ro n F w0 M (.code (.cond c x y) :: k) e H := .mk fun w hs => y_cond_false hc (h w hs)
theorem q_cond {c : Operand} {x y : Code} {t : Bool} (hc : opv e c = some (.bool t)) (ht : t = true → Q P ro n F w0 M (.code x :: k) e H) (hf : t = false → Q P ro n F w0 M (.code y :: k) e H) :
    Q P ro n F w0 M (.code (.cond c x y) :: k) e H := .mk fun w hs => y_cond hc (fun h => ht h w hs) (fun h => hf h w hs)
theorem q_if {c : Operand} {x y : Code} {p : Prop} [Decidable p] (hc : opv e c = some (.bool (decide p))) (ht : p → Q P ro n F w0 M (.code x :: k) e H) (hf : ¬p → Q P ro n F w0 M (.code y :: k) e H) :
    Q P ro n F w0 M (.code (.cond c x y) :: k) e H := .mk fun w hs => y_if hc (fun h => ht h w hs) (fun h => hf h w hs)
theorem q_ifn {c : Operand} {x y : Code} {p : Prop} [Decidable p] (hc : opv e c = some (.bool (!decide p))) (ht : ¬p → Q P ro n F w0 M (.code x :: k) e H) (hf : p → Q P ro n F w0 M (.code y :: k) e H) :
    Q P ro n F w0 M (.code (.cond c x y) :: k) e H := .mk fun w hs => y_ifn hc (fun h => ht h w hs) (fun h => hf h w hs)
theorem q_region {id : Nat} {l : List Oper} (h : QL P ro n F w0 M k l.toArray l e H) : Q P ro n F w0 M (.code (.region id l.toArray false) :: k) e H := .mk fun w hs => y_region (h w hs)
theorem q_scope {r : List Deferred} {c : Code} (hF : ∀ l a w, ¬ F (.goto l) a w) (h : Q P ⟨none, r⟩ n F w0 M (.code c :: k) e H) : Q P ⟨none, r⟩ n F w0 M (.code (.scope c) :: k) e H := .mk fun w hs => y_scope hF (h w hs)
theorem q_nil (h : Q P ro n F w0 M k e H) : QL P ro n F w0 M k ops [] e H := .mk fun w hs => yl_nil (h w hs)

theorem q_draw {id : Nat} {l : List Oper} (Hq Hm : List Ck) (hH : Sp H (Hm ++ Hq)) (hm : P.follows .mixedOrders = true) (hB : flB l.toArray = true) (h : QF P ro n F w0 M k l.toArray Hq l e Hm) :
    Q P ro n F w0 M (.code (.region id l.toArray true) :: k) e H := .mk fun w hs a hf hd => by
  have hs1 := (hs.sp hH).keep (Chg.drew (N := []) w)
  have h1 := h _ hs1 a hf hd
  refine wpIn_region_fl hm (flB_spec hB) (C := Sat w0 M Hq) hs1.right (fun _ _ _ h => h) ?_
  have h2 := wpFl_eq (P := P) (ops := l.toArray) (C := Sat w0 M Hq) (K := fun a w => S P ro.ro F k .normal a w) l 0 (by simp)
  rw [show List.range l.toArray.size = List.range' 0 l.length from by simp [List.range_eq_range'], h2]
  exact h1
theorem qf_nil (h : Q P ro n F w0 M k e (H ++ Hq)) : QF P ro n F w0 M k ops Hq [] e H := .mk fun w hs => yf_nil (h w hs)

/-- Forget. -/
theorem q_keep (l : Env) (H' : List Ck) (hs : Sub l e) (hH : Sp H H') (h : Q P ro n F w0 M k l H') : Q P ro n F w0 M k e H := .mk fun w hw => y_keep l hs (h w (hw.sp hH))

/-- A loop, whose state is s. -/
theorem q_loop {σ : Type} {body : Code} (inv : σ → Prop) (m : σ → Nat) (env : σ → Env) (hp : σ → List Ck) (s0 : σ) (h0 : inv s0) (hs : Sub (env s0) e) (hH : Sp H (hp s0))
    (round : ∀ s, inv s → ∀ K : Act → World → Prop, (∀ s' e' H', inv s' → m s' < m s → Sub (env s') e' → Sp H' (hp s') → Q P ro n F w0 M (.k K :: k) e' H') → Q P ro n F w0 M (.code body :: .k K :: k) (env s) (hp s)) :
    Q P ro n F w0 M (.code (.loop body) :: k) e H := .mk fun w hw =>
  y_loop (fun m' l w' => ∃ s, inv s ∧ m' = m s ∧ l = env s ∧ Sat w0 M (hp s) w') (m := m s0) (l := env s0) ⟨s0, h0, rfl, rfl, hw.sp hH⟩ hs (by
    rintro m' l w' ⟨s, hi, rfl, rfl, hsat⟩ K hK
    exact round s hi K (fun s' e' H' hi' hlt hsub hsp => .mk fun w'' hw'' a hf hd => hK (m s') (env s') e' w'' ⟨s', hi', rfl, rfl, hw''.sp hsp⟩ hlt hsub a hf hd) w' hsat)

end
end Go.Eng
