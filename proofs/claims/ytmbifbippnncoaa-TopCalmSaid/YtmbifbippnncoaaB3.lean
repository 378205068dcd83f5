/- The engine, part B3: function values; ranges over functions. -/
import Derived.Test.YtmbifbippnncoaaB2
import Derived.RangeFuncRecord
namespace Go.Eng
open Go Go.RowKit

section
variable {P : Program} {T : Tab}

/-- A call of a function value: of a function, or of the yield of a loop. -/
def CaF (P : Program) (fv : Value) (args : List Value) (w : World) (R : Value → World → Prop) : Prop :=
  (∃ g first caps, fv = .func (.func g) first caps ∧ fnB P g = true ∧ Ca P g (first.toList ++ args ++ caps.toList) w R) ∨
  (∃ l f tmps assign body, fv = .func (.yield l) #[] #[] ∧ (Instr.yield l args.toArray).run P w = .ok (.round l f tmps assign body) w ∧ RdOk P l f tmps assign body w R)

theorem CaF.mono {fv : Value} {args : List Value} {w : World} {R R' : Value → World → Prop} (h : CaF P fv args w R) (hr : ∀ v w', R v w' → R' v w') : CaF P fv args w R' := by
  rcases h with ⟨g, fi, ca, h1, h2, h3⟩ | ⟨l, f, t, a, b, h1, h2, h3⟩
  · exact .inl ⟨g, fi, ca, h1, h2, h3.mono hr⟩
  · exact .inr ⟨l, f, t, a, b, h1, h2, fun r => (h3 r).mono fun e w' ⟨v, he, hR⟩ => ⟨v, he, hr _ _ hR⟩⟩

theorem CaF.of {g : Nat} {first caps : Array Value} {args : List Value} {w : World} {R : Value → World → Prop} (hT : T.Ok P) (hg : has T.fn g = true) (h : Ca P g (first.toList ++ args ++ caps.toList) w R) : CaF P (.func (.func g) first caps) args w R :=
  .inl ⟨g, first, caps, rfl, hT.fn _ hg, h⟩

theorem run_callFuncB {g : Nat} (hg : fnB P g = true) (args : Array Value) (w : World) : (callFunc g args).run P w = .ok (.enter g args) w := by
  simp only [fnB] at hg
  split at hg
  · rename_i fn hfn
    simp only [Bool.and_eq_true, Bool.not_eq_true'] at hg
    obtain ⟨hb, hn⟩ := hg
    have hn' : ¬ fn.name = "runtime.NumGoroutine" := by simpa using hn
    have hb2 : ¬ fn.body = none := by intro h0; rw [h0] at hb; cases hb
    simp [callFunc, hfn, hn', hb2]
  · cases hg

variable {ro : Cx} {n : Nat} {F : Fin} {k : List It} {ops : Array Oper} {rest : List Oper} {e : Env} {w : World}

theorem yl_callF {dst : Option Nat} {f : Operand} {as : List Operand} {tys : Array TypeId} {ty : TypeId} {pos : String} {af : Array Edge} {fv : Value} {vs : List Value} {R : Value → World → Prop}
    (hf : opv e f = some fv) (has_ : opvs e as = some vs) (hc : CaF P fv vs w R)
    (h : ∀ v w', R v w' → ∀ a, Fits n e a → a.defers = ro.ds → wpListIn (FR ro.ro) 0 P ops (S P ro.ro F k) rest (a.put dst v) w') :
    YL P ro n F k ops (⟨dst, .call { callee := .value f, args := as.toArray, argTypes := tys }, ty, pos, af, none⟩ :: rest) e w := fun a hfit hd =>
  wpListIn_plain rfl fun K hK => by
    refine ⟨fun f _ => fr_fn f, ?_⟩
    rw [Oper.semAt_eq _ _ _ (by simp)]
    have e1 := hfit.op hf
    have e2 := hfit.ops has_
    rcases hc with ⟨g, first, caps, rfl, hg, hc⟩ | ⟨l, f, tmps, assign, body, rfl, hrun, hc⟩
    · have hrun : (execOp a.eval ⟨dst, .call { callee := .value f, args := as.toArray, argTypes := tys }, ty, pos, af, none⟩).run P w = .ok (.enter g (first.toList ++ vs ++ caps.toList).toArray) w := by
        simp only [execOp, resolve, List.map_toArray, e1, e2, Deferred.ofValue]
        simp [invoke, run_callFuncB hg]
      rw [hrun]
      refine ⟨fun hx => by simp [Fence.wide] at hx, callsIn_FR (Calls.mono hc ?_)⟩
      rintro x w' ⟨v, rfl, hR⟩
      exact hK _ _ (h v w' hR a hfit hd)
    · rename_i fop
      have hrun2 : (execOp a.eval ⟨dst, .call { callee := .value fop, args := as.toArray, argTypes := tys }, ty, pos, af, none⟩).run P w = .ok (.round l f tmps assign body) w := by
        simp only [execOp, resolve, List.map_toArray, e1, e2, Deferred.ofValue]
        simp [invoke, hrun]
      rw [hrun2]
      refine ⟨fun hx => by simp [Fence.wide] at hx, RoundIn.mono (hc ro.ro) ?_⟩
      rintro x w' ⟨v, rfl, hR⟩
      exact hK _ _ (h v w' hR a hfit hd)

variable {w0 : World} {M : Nat → Prop} {H Hq : List Ck}

/-- A call of a function value. -/
theorem ql_callF {t : Nat} {f : Operand} {as : List Operand} {tys : Array TypeId} {ty : TypeId} {pos : String} {af : Array Edge} {fv : Value} {vs : List Value} {β : Type} {ψ : β → Value → Prop} {L' : β → List Ck}
    (L0 R : List Ck) (M' : Nat → Prop) (hf : opv e f = some fv) (has_ : opvs e as = some vs) (ht : Nat.blt t n = true) (hH : Sp H (L0 ++ R)) (hM : ∀ b, M' b → ∃ c ∈ L0, c.D b)
    (hc : ∀ w, Sat w0 M (L0 ++ R) w → CaF P fv vs w fun v w' => ∃ x, ψ x v ∧ Sat w M' (L' x) w')
    (h : ∀ x v, ψ x v → QL P ro n F w0 M k ops rest ((t, v) :: e) (L' x ++ R)) :
    QL P ro n F w0 M k ops (⟨some t, .call { callee := .value f, args := as.toArray, argTypes := tys }, ty, pos, af, none⟩ :: rest) e H := .mk fun w hs =>
  have hs1 := hs.sp hH
  yl_callF hf has_ (hc w hs1) (fun v w' ⟨x, hx, hs'⟩ a hfit hd => h x v hx w' (hs1.call hs' hM) _ (hfit.put v ht) (by simpa [Act.put] using hd))

theorem yf_callF {C : World → Prop} {t : Nat} {f : Operand} {as : List Operand} {tys : Array TypeId} {ty : TypeId} {pos : String} {af : Array Edge} {fv : Value} {vs : List Value} {R : Value → World → Prop}
    (hf : opv e f = some fv) (has_ : opvs e as = some vs) (ht : Nat.blt t n = true) (hc : CaF P fv vs w R) (h : ∀ v w', R v w' → C w' ∧ YF P ro n F k ops C rest ((t, v) :: e) w') :
    YF P ro n F k ops C (⟨some t, .call { callee := .value f, args := as.toArray, argTypes := tys }, ty, pos, af, none⟩ :: rest) e w := fun a hfit hd => by
  have e1 := hfit.op hf
  have e2 := hfit.ops has_
  have he : eff (.call { callee := .value f, args := as.toArray, argTypes := tys }) = true := rfl
  rcases hc with ⟨g, first, caps, rfl, hg, hc⟩ | ⟨l, f, tmps, assign, body, rfl, hrun, hc⟩
  · have hrun : (execOp a.eval ⟨some t, .call { callee := .value f, args := as.toArray, argTypes := tys }, ty, pos, af, none⟩).run P w = .ok (.enter g (first.toList ++ vs ++ caps.toList).toArray) w := by
      simp only [execOp, resolve, List.map_toArray, e1, e2, Deferred.ofValue]
      simp [invoke, run_callFuncB hg]
    simp only [wpFlL, Region.wanted, if_true, he, effStep, hrun]
    refine Calls.mono hc ?_
    rintro x w' ⟨v, rfl, hR⟩
    obtain ⟨h1, h2⟩ := h v w' hR
    exact ⟨v, rfl, h1, h2 _ (hfit.put v ht) (by simpa [Act.put] using hd)⟩
  · rename_i fop
    have hrun2 : (execOp a.eval ⟨some t, .call { callee := .value fop, args := as.toArray, argTypes := tys }, ty, pos, af, none⟩).run P w = .ok (.round l f tmps assign body) w := by
      simp only [execOp, resolve, List.map_toArray, e1, e2, Deferred.ofValue]
      simp [invoke, hrun]
    have he2 : eff (.call { callee := .value fop, args := as.toArray, argTypes := tys }) = true := rfl
    simp only [wpFlL, Region.wanted, if_true, he2, effStep, hrun2]
    refine RdOk.mono hc ?_
    intro v w' hR
    obtain ⟨h1, h2⟩ := h v w' hR
    exact ⟨h1, h2 _ (hfit.put v ht) (by simpa [Act.put] using hd)⟩

theorem qf_callF {t : Nat} {f : Operand} {as : List Operand} {tys : Array TypeId} {ty : TypeId} {pos : String} {af : Array Edge} {fv : Value} {vs : List Value} {β : Type} {ψ : β → Value → Prop} {L' : β → List Ck}
    (L0 R : List Ck) (M' : Nat → Prop) (hf : opv e f = some fv) (has_ : opvs e as = some vs) (ht : Nat.blt t n = true) (hH : Sp H (L0 ++ R)) (hM : ∀ b, M' b → ∃ c ∈ L0, c.D b)
    (hc : ∀ w, Sat w0 M (L0 ++ (R ++ Hq)) w → CaF P fv vs w fun v w' => ∃ x, ψ x v ∧ Sat w M' (L' x) w')
    (h : ∀ x v, ψ x v → QF P ro n F w0 M k ops Hq rest ((t, v) :: e) (L' x ++ R)) :
    QF P ro n F w0 M k ops Hq (⟨some t, .call { callee := .value f, args := as.toArray, argTypes := tys }, ty, pos, af, none⟩ :: rest) e H := .mk fun w hs => by
  have hs1 : Sat w0 M (L0 ++ (R ++ Hq)) w := by
    rw [← List.append_assoc]
    exact hs.sp (Sp.app hH Hq)
  refine yf_callF hf has_ ht (hc w hs1) (fun v w' ⟨x, hx, hs'⟩ => ?_)
  have hs2 := hs1.call hs' hM
  exact ⟨hs2.right.right, (h x v hx).h w' (by rw [List.append_assoc]; exact hs2)⟩

theorem qf_callFv {t : Nat} {f : Operand} {as : List Operand} {tys : Array TypeId} {ty : TypeId} {pos : String} {af : Array Edge} {fv : Value} {vs : List Value} {val : Value}
    (hf : opv e f = some fv) (has_ : opvs e as = some vs) (ht : Nat.blt t n = true)
    (hc : ∀ w, Sat w0 M (H ++ Hq) w → CaF P fv vs w fun v w' => v = val ∧ Chg [] w w')
    (h : QF P ro n F w0 M k ops Hq rest ((t, val) :: e) H) :
    QF P ro n F w0 M k ops Hq (⟨some t, .call { callee := .value f, args := as.toArray, argTypes := tys }, ty, pos, af, none⟩ :: rest) e H := .mk fun w hs =>
  yf_callF hf has_ ht (hc w hs) (fun v w' ⟨hv, hc'⟩ => by rw [hv]; exact ⟨(hs.keep hc').right, h.h w' (hs.keep hc')⟩)

/-- .. that changes nothing and makes nothing that is kept. -/
theorem ql_callFv {t : Nat} {f : Operand} {as : List Operand} {tys : Array TypeId} {ty : TypeId} {pos : String} {af : Array Edge} {fv : Value} {vs : List Value} {val : Value}
    (hf : opv e f = some fv) (has_ : opvs e as = some vs) (ht : Nat.blt t n = true)
    (hc : ∀ w, Sat w0 M H w → CaF P fv vs w fun v w' => v = val ∧ Chg [] w w')
    (h : QL P ro n F w0 M k ops rest ((t, val) :: e) H) :
    QL P ro n F w0 M k ops (⟨some t, .call { callee := .value f, args := as.toArray, argTypes := tys }, ty, pos, af, none⟩ :: rest) e H := .mk fun w hs =>
  yl_callF hf has_ (hc w hs) (fun v w' ⟨hv, hc'⟩ a hfit hd => by rw [hv]; exact h w' (hs.keep hc') _ (hfit.put val ht) (by simpa [Act.put] using hd))

/-- .. without a result. -/
theorem ql_callF0 {f : Operand} {as : List Operand} {tys : Array TypeId} {ty : TypeId} {pos : String} {af : Array Edge} {fv : Value} {vs : List Value} {β : Type} {ψ : β → Value → Prop} {L' : β → List Ck}
    (L0 R : List Ck) (M' : Nat → Prop) (hf : opv e f = some fv) (has_ : opvs e as = some vs) (hH : Sp H (L0 ++ R)) (hM : ∀ b, M' b → ∃ c ∈ L0, c.D b)
    (hc : ∀ w, Sat w0 M (L0 ++ R) w → CaF P fv vs w fun v w' => ∃ x, ψ x v ∧ Sat w M' (L' x) w')
    (h : ∀ x v, ψ x v → QL P ro n F w0 M k ops rest e (L' x ++ R)) :
    QL P ro n F w0 M k ops (⟨none, .call { callee := .value f, args := as.toArray, argTypes := tys }, ty, pos, af, none⟩ :: rest) e H := .mk fun w hs =>
  have hs1 := hs.sp hH
  yl_callF hf has_ (hc w hs1) (fun v w' ⟨x, hx, hs'⟩ a hfit hd => by simpa [Act.put] using h x v hx w' (hs1.call hs' hM) _ hfit hd)

/-! Pieces as one -/
def DL (L : List Ck) (b : Nat) : Prop := ∃ c ∈ L, c.D b

theorem Sat.bd' {w : World} {L : List Ck} (h : Sat w0 M L w) : ∀ b, DL L b → b < w.heap.size := fun b ⟨c, hc, hb⟩ => (h.bd c hc b hb).1

theorem Sat.self {w : World} {A B : List Ck} (h : Sat w0 M (A ++ B) w) : Sat w (DL A) A w :=
  ⟨ChgP.refl _ _, fun c hc => h.all c (List.mem_append_left _ hc), (List.pairwise_append.1 h.sep).1, fun c hc b hb => ⟨(h.bd c (List.mem_append_left _ hc) b hb).1, .inl ⟨c, hc, hb⟩⟩⟩

/-- Some pieces taken for one. -/
def un (L : List Ck) : Ck := .gn (DL L) (fun w => (∀ c ∈ L, c.p w) ∧ L.Pairwise (fun (c d : Ck) => ∀ b : Nat, c.D b → ¬ d.D b) ∧ ∀ b, DL L b → b < w.heap.size)
  (fun _ _ _ ⟨h1, h2, h3⟩ hc hn => ⟨fun c hcL => Ck.st (h1 c hcL) hc (fun b hb => hn b ⟨c, hcL, hb⟩), h2, fun b hb => Nat.lt_of_lt_of_le (h3 b hb) hc.size⟩)

theorem Sat.un_iff {w : World} {L R : List Ck} : Sat w0 M (un L :: R) w ↔ Sat w0 M (L ++ R) w := by
  constructor
  · intro h
    obtain ⟨h1, h2, h3⟩ := (h.all (un L) List.mem_cons_self : (un L).p w)
    have hp := List.pairwise_cons.1 h.sep
    refine ⟨h.chg, ?_, List.pairwise_append.2 ⟨h2, hp.2, fun c hc d hd b hb => hp.1 d hd b ⟨c, hc, hb⟩⟩, ?_⟩
    · intro c hc
      rcases List.mem_append.1 hc with hc | hc
      · exact h1 c hc
      · exact h.all c (List.mem_cons_of_mem _ hc)
    · intro c hc b hb
      rcases List.mem_append.1 hc with hc | hc
      · exact h.bd (un L) List.mem_cons_self b ⟨c, hc, hb⟩
      · exact h.bd c (List.mem_cons_of_mem _ hc) b hb
  · intro h
    have hp := List.pairwise_append.1 h.sep
    refine ⟨h.chg, ?_, List.pairwise_cons.2 ⟨fun d hd b hb => ?_, hp.2.1⟩, ?_⟩
    · intro c hc
      rcases List.mem_cons.1 hc with rfl | hc
      · exact ⟨fun c hc => h.all c (List.mem_append_left _ hc), hp.1, fun b ⟨c, hc, hb⟩ => (h.bd c (List.mem_append_left _ hc) b hb).1⟩
      · exact h.all c (List.mem_append_right _ hc)
    · obtain ⟨c, hc, hb⟩ := hb
      exact hp.2.2 c hc d hd b hb
    · intro c hc b hb
      rcases List.mem_cons.1 hc with rfl | hc
      · obtain ⟨c, hc, hb⟩ := hb
        exact h.bd c (List.mem_append_left _ hc) b hb
      · exact h.bd c (List.mem_append_right _ hc) b hb

/-! Iterators -/
/-- At the world w the function gf, with what it has captured, is an iterator over xs; the body changes nothing but what lies in D. -/
def ItOk {α : Type} (P : Program) (gf : Nat) (lb : List Value) (enc : α → List Value) (xs : List α) (w : World) (D : Nat → Prop) : Prop :=
  ∀ (fv : Value) (σ : Type) (L : σ → List Ck) (I : List α → σ → Prop) (E : σ → Prop) (s0 : σ), I [] s0 → (∀ b, DL (L s0) b → D b) → Sat w (DL (L s0)) (L s0) w →
    (∀ pre x post s w', xs = pre ++ x :: post → I pre s → Sat w (DL (L s0)) (L s) w' → CaF P fv (enc x) w' (fun v w'' => ∃ s', ((v = .bool true ∧ I (pre ++ [x]) s') ∨ (v = .bool false ∧ E s')) ∧ Sat w' (DL (L s)) (L s') w'')) →
    Ca P gf (fv :: lb) w (fun _ w' => ∃ s', (I xs s' ∨ E s') ∧ Sat w (DL (L s0)) (L s') w')

def mark (D : Nat) : Deferred := { target := .collected D, args := #[] }

/-- A block that is o, and another one. -/
def obj2 (l : Nat) (o : Obj) (D : Nat) (o' : Obj) : Ck := .gn (fun b => b = l ∨ b = D) (fun w => w.heap[l]? = some o ∧ w.heap[D]? = some o')
  (fun _ _ _ ⟨h1, h2⟩ hc hn => ⟨(hc.block l (Array.getElem?_eq_some_iff.1 h1).1 (hn l (.inl rfl))).trans h1, (hc.block D (Array.getElem?_eq_some_iff.1 h2).1 (hn D (.inr rfl))).trans h2⟩)
def dfr (D : Nat) : Ck := .gn (· = D) (fun w => w.heap[D]? = some (.deferred (some [])))
  (fun _ _ _ h hc hn => (hc.block D (Array.getElem?_eq_some_iff.1 h).1 (hn D rfl)).trans h)

theorem putObj_chg (w : World) (l : Nat) (o : Obj) : Chg [l] w (w.putObj l o) :=
  ⟨rfl, rfl, rfl, by simp, fun k _ hn => World.putObj_heap_other (by simpa using hn)⟩

theorem Sat.obj2 {w : World} {l D : Nat} {o o' o2 : Obj} {R : List Ck} (h : Sat w0 M (obj2 l o D o' :: R) w) (hne : D ≠ l) : Sat w0 M (Eng.obj2 l o2 D o' :: R) (w.putObj l o2) := by
  have hp : w.heap[l]? = some o ∧ w.heap[D]? = some o' := h.all _ List.mem_cons_self
  refine h.rep .z (putObj_chg w l o2) (fun k hk => .inl (by simpa using hk)) ⟨World.putObj_heap_same (Array.getElem?_eq_some_iff.1 hp.1).1, (World.putObj_heap_other hne).trans hp.2⟩ (fun b hb => ⟨.inl hb, ?_⟩)
  rw [World.putObj_size]
  exact (h.bd _ List.mem_cons_self b hb).1

theorem Fits.fold {n : Nat} {ds : List Deferred} : ∀ (l : List (Nat × Value)) (e : Env) (tmps : Array Value) (ds' : List Deferred), Fits n e { tmps := tmps, defers := ds' } → (l.all fun p => Nat.blt p.1 n) = true →
    Fits n (l.foldl (fun e p => p :: e) e) { tmps := l.foldl (fun t p => t.setIfInBounds p.1 p.2) tmps, defers := ds }
  | [], e, tmps, ds', h, _ => ⟨h.size, h.at_⟩
  | p :: l, e, tmps, ds', h, hl => by
    simp only [List.all_cons, Bool.and_eq_true] at hl
    exact Fits.fold l (p :: e) (tmps.setIfInBounds p.1 p.2) ds' (h.put (t := p.1) p.2 hl.1) hl.2

/-- **for .. := range g { .. }**, at an outermost loop. -/
theorem q_range {ds : List Deferred} {g : Operand} {ps : List Nat} {assign body : Code} {gf : Nat} {lb : Array Value} {α : Type} (enc : α → List Value) (σ : Type) (xs : List α) (I : List α → σ → Prop) (E : Code → σ → Prop) (Hb : σ → List Ck) (R : List Ck) (s0 : σ)
    (hg : opv e g = some (.func (.func gf) #[] lb)) (hfn : fnB P gf = true) (hps : (ps.all fun p => Nat.blt p n) = true) (hlen : ∀ x ∈ xs, (enc x).length = ps.length) (hI0 : I [] s0) (hH : Sp H (Hb s0 ++ R))
    (it : ∀ w D, Sat w0 M (Hb s0 ++ R) w → (∀ b, D b → ¬ DL R b ∧ (M b ∨ w0.heap.size ≤ b)) → ItOk P gf lb.toList enc xs w D)
    (round : ∀ pre x post s w l (rdy bsy : Ck) (K : Act → World → Prop) (F' : Fin), xs = pre ++ x :: post → I pre s → Sat w0 M (Hb s ++ R) w → (∀ w', ChgP (DL (rdy :: Hb s)) w w' → Sat w0 M R w') →
      (∀ e' H', Q P ⟨some l, []⟩ n F' w (DL (rdy :: Hb s)) [.code body] e' (bsy :: H') → Q P ⟨some l, []⟩ n (fun _ _ _ => False) w (DL (rdy :: Hb s)) [.k K] e' (rdy :: H')) →
      (∀ e' H' s', I (pre ++ [x]) s' → Sp H' (bsy :: Hb s') → Q P ⟨some l, []⟩ n F' w (DL (rdy :: Hb s)) [] e' H') →
      (∀ e' H' s', E .ret s' → Sp H' (bsy :: Hb s') → Q P ⟨some l, []⟩ n (fun _ => F' .ret) w (DL (rdy :: Hb s)) [] e' H') →
      (∀ id e' H' s', E (.exit id) s' → Sp H' (bsy :: Hb s') → Q P ⟨some l, []⟩ n (fun _ => F' (.exit id)) w (DL (rdy :: Hb s)) [] e' H') →
      Q P ⟨some l, []⟩ n (fun _ _ _ => False) w (DL (rdy :: Hb s)) [.code assign, .k K] ((ps.zip (enc x)).foldl (fun e p => p :: e) e) (rdy :: Hb s))
    (done : ∀ D s, I xs s → Q P ⟨none, mark D :: ds⟩ n F w0 M k e (dfr D :: (Hb s ++ R)))
    (stops : ∀ D s c, E c s → Q P ⟨none, mark D :: ds⟩ n F w0 M (.code c :: k) e (dfr D :: (Hb s ++ R))) :
    Q P ⟨none, ds⟩ n F w0 M (.code (.rangeFunc g ps.toArray assign body) :: k) e H := .mk fun w hsH a hfit hd => by
  have hs := hsH.sp hH
  have eg := hfit.op hg
  show (Code.rangeFunc g ps.toArray assign body).wpIn (FR none) 0 P (S P none F k) a w
  refine wpIn_rangeFunc ?_
  intro fn hfnF
  obtain ⟨rec, hrec⟩ : ∃ rec : LoopState → Option Code → Loop, rec = fun st pe => { state := st, pending := pe, fn, tmps := a.tmps, params := ps.toArray, assign, body, defers := w.heap.size } := ⟨_, rfl⟩
  have hW1 : (Instr.enterLoop fn a.tmps ps.toArray assign body none).run P w = .ok (w.heap.size + 1, [mark w.heap.size]) ((w.alloc (.deferred (some []))).alloc (.loop (rec .ready none))) := by
    rw [hrec]
    exact run_enterLoop_outer _ _ _ _ _
  generalize hl : w.heap.size + 1 = l at hW1
  generalize hD : w.heap.size = D at hW1
  have hne : D ≠ l := by omega
  have hs1 : Sat w0 M (obj2 l (.loop (rec .ready none)) D (.deferred (some [])) :: (Hb s0 ++ R)) ((w.alloc (.deferred (some []))).alloc (.loop (rec .ready none))) := by
    refine hs.add ((alloc_chg _ _).trans (alloc_chg _ _)) ⟨?_, ?_⟩ (fun b hb => ?_)
    · have := World.alloc_heap_new (w.alloc (.deferred (some []))) (.loop (rec .ready none))
      rw [World.size_alloc, hl] at this
      exact this
    · have h1 := (alloc_chg (w.alloc (.deferred (some []))) (.loop (rec .ready none))).block w.heap.size (by simp) (by simp)
      rw [← hD, h1]
      exact World.alloc_heap_new w _
    · simp only [World.size_alloc]
      rcases hb with rfl | rfl <;> omega
  generalize hWW : (w.alloc (.deferred (some []))).alloc (.loop (rec .ready none)) = W1 at hW1 hs1
  refine ⟨l, [mark D], W1, { target := .fn (.func gf) lb, args := #[.func (.yield l) #[] #[]] }, W1, gf, #[.func (.yield l) #[] #[]] ++ lb, W1, hW1, ?_, fun f _ => fr_fn f, ?_, fun hx => by simp [Fence.wide] at hx, ?_⟩
  · simp only [resolve, eg]
    simp [go_sem]
  · simp [invoke, run_callFuncB hfn]
  -- the iterator, over the states 'running' and 'stopped'
  let L : σ ⊕ (σ × Code) → List Ck := fun
    | .inl s => obj2 l (.loop (rec .ready none)) D (.deferred (some [])) :: Hb s
    | .inr (s, c) => obj2 l (.loop (rec .done (some c))) D (.deferred (some [])) :: Hb s
  have hit := it W1 (DL (L (.inl s0))) hs1.tail (fun b ⟨c, hc, hb⟩ => by
    have hp := List.pairwise_append.1 (show ((obj2 l (.loop (rec .ready none)) D (.deferred (some [])) :: Hb s0) ++ R).Pairwise _ from hs1.sep)
    exact ⟨fun ⟨c', hc', hb'⟩ => hp.2.2 c hc c' hc' b hb hb', (hs1.bd c (List.mem_append_left R hc) b hb).2⟩)
  have hself : Sat W1 (DL (L (.inl s0))) (L (.inl s0)) W1 := Sat.self (A := L (.inl s0)) (B := R) hs1
  have hcall := hit (.func (.yield l) #[] #[]) (σ ⊕ (σ × Code)) L (fun pre st => ∃ s, st = .inl s ∧ I pre s) (fun st => ∃ s c, st = .inr (s, c) ∧ E c s) (.inl s0) ⟨s0, rfl, hI0⟩ (fun _ h => h) hself ?_
  · have hargs : #[Value.func (.yield l) #[] #[]] ++ lb = (Value.func (.yield l) #[] #[] :: lb.toList).toArray := by
      apply Array.ext'
      simp
    rw [hargs]
    refine callsIn_FR (Calls.mono hcall ?_)
    rintro x w' ⟨v, rfl, st, hst, hs'⟩
    have hs2 : Sat w0 M (L st ++ R) w' := Sat.call (L0 := L (.inl s0)) hs1 hs' (fun b hb => hb)
    have hdfr : ∀ {o : Obj} {s : σ} {w2 : World}, Sat w0 M (obj2 l o D (.deferred (some [])) :: (Hb s ++ R)) w2 → Sat w0 M (dfr D :: (Hb s ++ R)) w2 := fun {o s w2} h =>
      h.rep .z (Chg.refl [] _) (by simp) (h.all _ List.mem_cons_self : (obj2 l o D (.deferred (some []))).p w2).2 (fun b hb => ⟨.inl (.inr hb), (h.bd _ List.mem_cons_self b (.inr hb)).1⟩)
    rcases hst with ⟨s, rfl, hI⟩ | ⟨s, c, rfl, hE⟩
    · have hp : w'.heap[l]? = some (.loop (rec .ready none)) ∧ _ := hs2.all _ List.mem_cons_self
      have hr := run_endLoop (P := P) hp.1 (by rw [hrec]; simp)
      rw [show (rec .ready none).pending = none by rw [hrec]] at hr
      refine ⟨none, _, hr, ?_⟩
      exact done D s hI _ (hdfr (Sat.obj2 hs2 hne)) _ ⟨hfit.size, hfit.at_⟩ (by rw [hd]; rfl)
    · have hp : w'.heap[l]? = some (.loop (rec .done (some c))) ∧ _ := hs2.all _ List.mem_cons_self
      have hr := run_endLoop (P := P) hp.1 (by rw [hrec]; simp)
      rw [show (rec .done (some c)).pending = some c by rw [hrec]] at hr
      refine ⟨some c, _, hr, ?_⟩
      exact stops D s c hE _ (hdfr (Sat.obj2 hs2 hne)) _ ⟨hfit.size, hfit.at_⟩ (by rw [hd]; rfl)
  · rintro pre x post st w2 hx ⟨s, rfl, hI⟩ hs2
    have hp : w2.heap[l]? = some (.loop (rec .ready none)) ∧ _ := hs2.all _ List.mem_cons_self
    have hy := run_yield (P := P) (args := (enc x).toArray) hp.1 (by rw [hrec]; simpa using hlen x (by rw [hx]; simp))
    refine .inr ⟨l, _, _, _, _, rfl, hy, fun r => ?_⟩
    rw [hrec]
    have hfull : Sat w0 M (L (.inl s) ++ R) w2 := Sat.call (L0 := L (.inl s0)) hs1 hs2 (fun b hb => hb)
    let F' : Fin := fun ex a w' => roundPost P l (fun e w'' => ∃ v, e = .returned v ∧ ∃ st', ((v = .bool true ∧ ∃ s, st' = .inl s ∧ I (pre ++ [x]) s) ∨ (v = .bool false ∧ ∃ s c, st' = .inr (s, c) ∧ E c s)) ∧ Sat w2 (DL (L (.inl s))) (L st') w'') ex a w'
    let K : Act → World → Prop := fun a1 w1 => ∃ w3, (Instr.beginRound l).run P w1 = .ok () w3 ∧ body.wpIn ((FR r).inRound l) 0 P F' a1 w3
    have hend : ∀ (j : Option Code) (s' : σ) (w4 : World), Sat w2 (DL (L (.inl s))) (obj2 l (.loop (rec .busy none)) D (.deferred (some [])) :: Hb s') w4 →
        ∃ v w5, (Instr.endRound l j).run P w4 = .ok v w5 ∧ v = .bool j.isNone ∧ Sat w2 (DL (L (.inl s))) (obj2 l (.loop (rec (if j.isNone then .ready else .done) j)) D (.deferred (some [])) :: Hb s') w5 := by
      intro j s' w4 h4
      have hp4 : w4.heap[l]? = some (.loop (rec .busy none)) ∧ _ := h4.all _ List.mem_cons_self
      have hr := run_endRound (P := P) j hp4.1
      refine ⟨_, _, hr, rfl, ?_⟩
      have h5 := Sat.obj2 (o2 := .loop (rec (if j.isNone then .ready else .done) j)) h4 hne
      rw [hrec] at h5 ⊢
      exact h5
    have key := round pre x post s w2 l (obj2 l (.loop (rec .ready none)) D (.deferred (some []))) (obj2 l (.loop (rec .busy none)) D (.deferred (some []))) K F' hx hI hfull.tail
      (fun w' hc => ?_) (fun e' H' hb => .mk fun w1 hw1 a1 hf1 hd1 => ?_) (fun e' H' s' hI' hsp => .mk fun w4 hw4 a4 hf4 hd4 => ?_) (fun e' H' s' hE' hsp => .mk fun w4 hw4 a4 hf4 hd4 => ?_) (fun id e' H' s' hE' hsp => .mk fun w4 hw4 a4 hf4 hd4 => ?_)
    · have h1 := key w2 (Sat.self (A := L (.inl s)) (B := R) hfull) _ (Fits.fold (ds := []) (ps.zip (enc x)) e a.tmps a.defers hfit (List.all_eq_true.2 fun p hp => List.all_eq_true.1 hps p.1 (List.of_mem_zip hp).1)) rfl
      refine roundIn_of_wpIn (fr_fn _) ?_
      have h2 : assign.wpIn ((FR r).inRound l) 0 P (Exit.then K (fun _ _ _ => False)) { tmps := (ps.zip (enc x)).foldl (fun t p => t.setIfInBounds p.1 p.2) a.tmps, defers := [] } w2 := h1
      simpa [K, F'] using h2
    · have hp3 := List.pairwise_append.1 hfull.sep
      refine ⟨hfull.chg.upP hc (fun b ⟨c, hc, hb⟩ => (hfull.bd c (List.mem_append_left _ hc) b hb).2), fun c hcR => Ck.st (hfull.all c (List.mem_append_right _ hcR)) hc (fun b hb ⟨c', hc', hb'⟩ => hp3.2.2 c' hc' c hcR b hb' hb), hp3.2.1, fun c hcR b hb => ?_⟩
      have := hfull.bd c (List.mem_append_right _ hcR) b hb
      exact ⟨Nat.lt_of_lt_of_le this.1 hc.size, this.2⟩
    · have hp1 : w1.heap[l]? = some (.loop (rec .ready none)) ∧ _ := hw1.all _ List.mem_cons_self
      have hr := run_beginRound (P := P) hp1.1 (by rw [hrec])
      refine ⟨_, hr, ?_⟩
      have h3 := Sat.obj2 (o2 := .loop (rec .busy none)) hw1 hne
      have h4 := hb _ h3 a1 hf1 hd1
      rw [hrec]
      rw [hrec] at h4
      exact h4
    · obtain ⟨v, w5, hr, hv, h5⟩ := hend none s' w4 (hw4.sp hsp)
      exact ⟨v, w5, hr, v, rfl, .inl s', .inl ⟨hv, s', rfl, hI'⟩, h5⟩
    · obtain ⟨v, w5, hr, hv, h5⟩ := hend (some .ret) s' w4 (hw4.sp hsp)
      exact ⟨v, w5, hr, v, rfl, .inr (s', .ret), .inr ⟨hv, s', .ret, rfl, hE'⟩, h5⟩
    · obtain ⟨v, w5, hr, hv, h5⟩ := hend (some (.exit id)) s' w4 (hw4.sp hsp)
      exact ⟨v, w5, hr, v, rfl, .inr (s', .exit id), .inr ⟨hv, s', .exit id, rfl, hE'⟩, h5⟩

/-! A function whose activation bears marks -/
def finM (P : Program) (fn : Func) (R : Value → World → Prop) : Fin := bodyPostM (FR none) 0 P fn fun e w' => ∃ v, e = .returned v ∧ R v w'

theorem q_ofM {g : FuncId} {fn : Func} {c : Code} {args : List Value} {w : World} {R : Value → World → Prop} (hs : Sat w M H w) (hfn : P.funcs[g]? = some fn) (hb : fn.body = some c) (hn : args.length ≤ fn.ntmps)
    (h : Q P ⟨none, []⟩ fn.ntmps (finM P fn R) w M [.code c] (env0 0 args) H) : Ca P g args w R := by
  refine (callsIn_wide (n := 0)).1 (callsIn_of_wp_marks hfn hb trivial ?_ rfl)
  have h1 := h w hs { tmps := args.toArray ++ Array.replicate (fn.ntmps - args.toArray.size) undef, defers := [] } ⟨by simp; omega, fun t v ht => ?_⟩ rfl
  · exact h1
  · obtain ⟨_, h2⟩ := look_env0 args 0 t v ht
    simp at h2
    have hlt : t < args.length := (List.getElem?_eq_some_iff.1 h2).1
    have h3 : args[t] = v := by rw [List.getElem?_eq_getElem hlt] at h2; exact Option.some.inj h2
    simp [Array.getD_eq_getD_getElem?, Array.getElem?_append, hlt, h3]

theorem leaves_nil {fn : Func} {tmps : Array Value} {R : Ending → World → Prop} {w : World} {v : Value} (hr : (results fn tmps).run P w = .ok v w) (hR : R (.returned v) w) : LeavesInM (FR none) 0 P fn tmps R [] .returning w := by
  show LeavesIn (FR none) 0 P fn tmps R [] .returning w
  exact ⟨v, hr, hR⟩

/-- The end of a function with no mark on the way that it took. -/
theorem q_finM0 {fn : Func} {R : Value → World → Prop} {v : Value} (hr : ∀ a w, Fits n e a → Sat w0 M H w → (results fn a.tmps).run P w = .ok v w) (hR : ∀ w, Sat w0 M H w → R v w) : Q P ⟨none, []⟩ n (fun _ => finM P fn R .ret) w0 M [] e H := .mk fun w hs a hf hd => by
  show LeavesInM (FR none) 0 P fn a.tmps _ a.defers .returning w
  rw [show a.defers = [] from hd]
  exact leaves_nil (hr a w hf hs) ⟨v, rfl, hR w hs⟩
/-- .. with one mark. -/
theorem q_finM1 {D : Nat} {fn : Func} {R : Value → World → Prop} {v : Value} {H' : List Ck} (hH : Rm H (dfr D) H') (hr : ∀ a w, Fits n e a → Sat w0 M H' w → (results fn a.tmps).run P w = .ok v w) (hR : ∀ w, Sat w0 M H' w → R v w) : Q P ⟨none, [mark D]⟩ n (fun _ => finM P fn R .ret) w0 M [] e H := .mk fun w hs a hf hd => by
  show LeavesInM (FR none) 0 P fn a.tmps _ a.defers .returning w
  rw [show a.defers = [mark D] from hd]
  have h1 : Sat w0 M (dfr D :: H') w := hs.perm hH.perm
  have hp : w.heap[D]? = some (.deferred (some [])) := h1.all _ List.mem_cons_self
  have h2 : Sat w0 M H' (w.putObj D (.deferred none)) := by
    have hsep := List.pairwise_cons.1 h1.sep
    refine ⟨h1.chg.up (putObj_chg w D _) (fun b hb => ?_), fun c hc => Ck.st (h1.all c (List.mem_cons_of_mem _ hc)) (putObj_chg w D _).P (fun b hb hm => ?_), hsep.2, fun c hc b hb => ?_⟩
    · simp at hb
      subst hb
      exact (h1.bd _ List.mem_cons_self b rfl).2
    · simp at hm
      subst hm
      exact hsep.1 c hc b rfl hb
    · rw [World.putObj_size]
      exact h1.bd c (List.mem_cons_of_mem _ hc) b hb
  refine ⟨by simp, .inl ⟨D, _, rfl, run_takeDeferred hp, ?_⟩⟩
  exact leaves_nil (hr a _ hf h2) ⟨v, rfl, hR _ h2⟩
end
end Go.Eng
