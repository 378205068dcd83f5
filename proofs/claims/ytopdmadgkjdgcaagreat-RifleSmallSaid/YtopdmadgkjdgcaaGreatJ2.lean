/- My texts, joined: lemmas for RifleSmall. -/
import Derived.Test.YtopdmadgkjdgcaaGreatJ1
import Derived.RangeFuncRecord
import Derived.Test.YtopdmadgkjdgcaaGreatProg
import Derived.KernelRfl
import Derived.Laws.CopyRow
import Derived.Laws.MakeOwn
import Derived.Laws.OwnMore
import Derived.Laws.Slices
import Derived.Laws.StructEq
import Derived.ChangeKeysEq
set_option linter.unusedVariables false
set_option maxHeartbeats 16000000
namespace Go.Eng
set_option maxRecDepth 4000
open Go Go.RowKit
section
variable {P : Program} {T : Tab}
def CaF (P : Program) (fv : Value) (args : List Value) (w : World) (R : Value → World → Prop) : Prop :=
 (∃ g first caps, fv = .func (.func g) first caps ∧ fnB P g = true ∧ Ca P g (first.toList ++ args ++ caps.toList) w R) ∨
 (∃ l f tmps assign body, fv = .func (.yield l) #[] #[] ∧ (Instr.yield l args.toArray).run P w = .ok (.round l f tmps assign body) w ∧ RdOk P l f tmps assign body w R)
theorem CaF.mono {fv : Value} {args : List Value} {w : World} {R R' : Value → World → Prop} (h : CaF P fv args w R) (hr : ∀ v w', R v w' → R' v w') : CaF P fv args w R' := by
 rcases h with ⟨g, fi, ca, h1, h2, h3⟩ | ⟨l, f, t, a, b, h1, h2, h3⟩
 ·exact .inl ⟨g, fi, ca, h1, h2, h3.mono hr⟩
 ·exact .inr ⟨l, f, t, a, b, h1, h2, fun r => (h3 r).mono fun e w' ⟨v, he, hR⟩ => ⟨v, he, hr _ _ hR⟩⟩
theorem CaF.of {g : Nat} {first caps : Array Value} {args : List Value} {w : World} {R : Value → World → Prop} (hT : T.Ok P) (hg : has T.fn g = true) (h : Ca P g (first.toList ++ args ++ caps.toList) w R) : CaF P (.func (.func g) first caps) args w R :=
 .inl ⟨g, first, caps, rfl, hT.fn _ hg, h⟩
theorem kN {g : Nat} (hg : fnB P g = true) (args : Array Value) (w : World) : (callFunc g args).run P w = .ok (.enter g args) w := by
 simp only [fnB] at hg;split at hg
 ·rename_i fn hfn
  simp only [Bool.and_eq_true, Bool.not_eq_true'] at hg;obtain ⟨hb, hn⟩ := hg;have hn' : ¬ fn.name = "runtime.NumGoroutine" := by simpa using hn
  have hb2 : ¬ fn.body = none := by intro h0; rw [h0] at hb; cases hb
  simp [callFunc, hfn, hn', hb2]
 ·cases hg
variable {ro : Cx} {n : Nat} {F : Fin} {k : List It} {ops : Array Oper} {rest : List Oper} {e : Env} {w : World}
theorem yl_callF {dst : Option Nat} {f : Operand} {ars : List Operand} {tys : Array TypeId} {ty : TypeId} {pos : String} {af : Array Edge} {fv : Value} {vs : List Value} {R : Value → World → Prop}
  (hf : opv e f = some fv) (has_ : oI e ars = some vs) (hc : CaF P fv vs w R)
  (h : ∀ v w', R v w' → ∀ a, Fits n e a → a.defers = ro.ds → wpListIn (FR ro.ro) 0 P ops (S P ro.ro F k) rest (a.put dst v) w') :
  YL P ro n F k ops (⟨dst, .call { callee := .value f, args := ars.toArray, argTypes := tys }, ty, pos, af, none⟩ :: rest) e w := fun a hfit hd =>
 wpListIn_plain rfl fun K hK => by
  refine ⟨fun f _ => nZ f, ?_⟩;rw [Oper.semAt_eq _ _ _ (by simp)];have e1 := hfit.op hf;have e2 := hfit.ops has_;rcases hc with ⟨g, first, caps, rfl, hg, hc⟩ | ⟨l, f, tmps, assign, body, rfl, hrun, hc⟩
  ·have hrun : (execOp a.eval ⟨dst, .call { callee := .value f, args := ars.toArray, argTypes := tys }, ty, pos, af, none⟩).run P w = .ok (.enter g (first.toList ++ vs ++ caps.toList).toArray) w := by
    simp only [execOp, resolve, List.map_toArray, e1, e2, Deferred.ofValue];simp [invoke, kN hg]
   rw [hrun];refine ⟨fun hx => by simp [Fence.wide] at hx, nH (Calls.mono hc ?_)⟩;rintro x w' ⟨v, rfl, hR⟩;exact hK _ _ (h v w' hR a hfit hd)
  ·rename_i fop
   have hrun2 : (execOp a.eval ⟨dst, .call { callee := .value fop, args := ars.toArray, argTypes := tys }, ty, pos, af, none⟩).run P w = .ok (.round l f tmps assign body) w := by
    simp only [execOp, resolve, List.map_toArray, e1, e2, Deferred.ofValue];simp [invoke, hrun]
   rw [hrun2];refine ⟨fun hx => by simp [Fence.wide] at hx, RoundIn.mono (hc ro.ro) ?_⟩;rintro x w' ⟨v, rfl, hR⟩;exact hK _ _ (h v w' hR a hfit hd)
variable {w0 : World} {M : Nat → Prop} {H Hq : List Ck}
theorem ql_callF {t : Nat} {f : Operand} {ars : List Operand} {tys : Array TypeId} {ty : TypeId} {pos : String} {af : Array Edge} {fv : Value} {vs : List Value} {β : Type} {ψ : β → Value → Prop} {L' : β → List Ck}
  (L0 R : List Ck) (M' : Nat → Prop) (hf : opv e f = some fv) (has_ : oI e ars = some vs) (ht : Nat.blt t n = true) (hH : Sp H (L0 ++ R)) (hM : ∀ b, M' b → ∃ c ∈ L0, c.D b)
  (hc : ∀ w, Sat w0 M (L0 ++ R) w → CaF P fv vs w fun v w' => ∃ x, ψ x v ∧ Sat w M' (L' x) w')
  (h : ∀ x v, ψ x v → QL P ro n F w0 M k ops rest ((t, v) :: e) (L' x ++ R)) :
  QL P ro n F w0 M k ops (⟨some t, .call { callee := .value f, args := ars.toArray, argTypes := tys }, ty, pos, af, none⟩ :: rest) e H := .mk fun w hs =>
 have hs1 := hs.sp hH
 yl_callF hf has_ (hc w hs1) (fun v w' ⟨x, hx, hs'⟩ a hfit hd => h x v hx w' (hs1.call hs' hM) _ (hfit.put v ht) (by simpa [Act.put] using hd))
theorem yf_callF {C : World → Prop} {t : Nat} {f : Operand} {ars : List Operand} {tys : Array TypeId} {ty : TypeId} {pos : String} {af : Array Edge} {fv : Value} {vs : List Value} {R : Value → World → Prop}
  (hf : opv e f = some fv) (has_ : oI e ars = some vs) (ht : Nat.blt t n = true) (hc : CaF P fv vs w R) (h : ∀ v w', R v w' → C w' ∧ YF P ro n F k ops C rest ((t, v) :: e) w') :
  YF P ro n F k ops C (⟨some t, .call { callee := .value f, args := ars.toArray, argTypes := tys }, ty, pos, af, none⟩ :: rest) e w := fun a hfit hd => by
 have e1 := hfit.op hf;have e2 := hfit.ops has_;have he : eff (.call { callee := .value f, args := ars.toArray, argTypes := tys }) = true := rfl;rcases hc with ⟨g, first, caps, rfl, hg, hc⟩ | ⟨l, f, tmps, assign, body, rfl, hrun, hc⟩
 ·have hrun : (execOp a.eval ⟨some t, .call { callee := .value f, args := ars.toArray, argTypes := tys }, ty, pos, af, none⟩).run P w = .ok (.enter g (first.toList ++ vs ++ caps.toList).toArray) w := by
   simp only [execOp, resolve, List.map_toArray, e1, e2, Deferred.ofValue];simp [invoke, kN hg]
  simp only [gK, Region.wanted, if_true, he, bS, hrun];refine Calls.mono hc ?_;rintro x w' ⟨v, rfl, hR⟩;obtain ⟨h1, h2⟩ := h v w' hR;exact ⟨v, Z, h1, h2 _ (hfit.put v ht) (by simpa [Act.put] using hd)⟩
 ·rename_i fop
  have hrun2 : (execOp a.eval ⟨some t, .call { callee := .value fop, args := ars.toArray, argTypes := tys }, ty, pos, af, none⟩).run P w = .ok (.round l f tmps assign body) w := by
   simp only [execOp, resolve, List.map_toArray, e1, e2, Deferred.ofValue];simp [invoke, hrun]
  have he2 : eff (.call { callee := .value fop, args := ars.toArray, argTypes := tys }) = true := rfl;simp only [gK, Region.wanted, if_true, he2, bS, hrun2];refine RdOk.mono hc ?_;intro v w' hR;obtain ⟨h1, h2⟩ := h v w' hR;exact ⟨h1, h2 _ (hfit.put v ht) (by simpa [Act.put] using hd)⟩
theorem iX {t : Nat} {f : Operand} {ars : List Operand} {tys : Array TypeId} {ty : TypeId} {pos : String} {af : Array Edge} {fv : Value} {vs : List Value} {β : Type} {ψ : β → Value → Prop} {L' : β → List Ck}
  (L0 R : List Ck) (M' : Nat → Prop) (hf : opv e f = some fv) (has_ : oI e ars = some vs) (ht : Nat.blt t n = true) (hH : Sp H (L0 ++ R)) (hM : ∀ b, M' b → ∃ c ∈ L0, c.D b)
  (hc : ∀ w, Sat w0 M (L0 ++ (R ++ Hq)) w → CaF P fv vs w fun v w' => ∃ x, ψ x v ∧ Sat w M' (L' x) w')
  (h : ∀ x v, ψ x v → QF P ro n F w0 M k ops Hq rest ((t, v) :: e) (L' x ++ R)) :
  QF P ro n F w0 M k ops Hq (⟨some t, .call { callee := .value f, args := ars.toArray, argTypes := tys }, ty, pos, af, none⟩ :: rest) e H := .mk fun w hs => by
 have hs1 : Sat w0 M (L0 ++ (R ++ Hq)) w := by
  rw [← List.append_assoc];exact hs.sp (Sp.app hH Hq)
 refine yf_callF hf has_ ht (hc w hs1) (fun v w' ⟨x, hx, hs'⟩ => ?_);have hs2 := hs1.call hs' hM;exact ⟨hs2.right.right, (h x v hx).h w' (by rw [List.append_assoc]; exact hs2)⟩
theorem kD {t : Nat} {f : Operand} {ars : List Operand} {tys : Array TypeId} {ty : TypeId} {pos : String} {af : Array Edge} {fv : Value} {vs : List Value} {val : Value}
  (hf : opv e f = some fv) (has_ : oI e ars = some vs) (ht : Nat.blt t n = true)
  (hc : ∀ w, Sat w0 M (H ++ Hq) w → CaF P fv vs w fun v w' => v = val ∧ Chg [] w w')
  (h : QF P ro n F w0 M k ops Hq rest ((t, val) :: e) H) :
  QF P ro n F w0 M k ops Hq (⟨some t, .call { callee := .value f, args := ars.toArray, argTypes := tys }, ty, pos, af, none⟩ :: rest) e H := .mk fun w hs =>
 yf_callF hf has_ ht (hc w hs) (fun v w' ⟨hv, hc'⟩ => by rw [hv]; exact ⟨(hs.keep hc').right, h.h w' (hs.keep hc')⟩)
theorem pJ {t : Nat} {f : Operand} {ars : List Operand} {tys : Array TypeId} {ty : TypeId} {pos : String} {af : Array Edge} {fv : Value} {vs : List Value} {val : Value}
  (hf : opv e f = some fv) (has_ : oI e ars = some vs) (ht : Nat.blt t n = true)
  (hc : ∀ w, Sat w0 M H w → CaF P fv vs w fun v w' => v = val ∧ Chg [] w w')
  (h : QL P ro n F w0 M k ops rest ((t, val) :: e) H) :
  QL P ro n F w0 M k ops (⟨some t, .call { callee := .value f, args := ars.toArray, argTypes := tys }, ty, pos, af, none⟩ :: rest) e H := .mk fun w hs =>
 yl_callF hf has_ (hc w hs) (fun v w' ⟨hv, hc'⟩ a hfit hd => by rw [hv]; exact h w' (hs.keep hc') _ (hfit.put val ht) (by simpa [Act.put] using hd))
def DL (L : List Ck) (b : Nat) : Prop := ∃ c ∈ L, c.D b
theorem Sat.self {w : World} {A B : List Ck} (h : Sat w0 M (A ++ B) w) : Sat w (DL A) A w :=
 ⟨ChgP.refl _ _, fun c hc => h.all c (List.mem_append_left _ hc), (List.pairwise_append.1 h.sep).1, fun c hc b hb => ⟨(h.bd c (List.mem_append_left _ hc) b hb).1, .inl ⟨c, hc, hb⟩⟩⟩
def un (L : List Ck) : Ck := .gn (DL L) (fun w => (∀ c ∈ L, c.p w) ∧ L.Pairwise (fun (c d : Ck) => ∀ b : Nat, c.D b → ¬ d.D b) ∧ ∀ b, DL L b → b < w.heap.size)
 (fun _ _ _ ⟨h1, h2, h3⟩ hc hn => ⟨fun c hcL => Ck.st (h1 c hcL) hc (fun b hb => hn b ⟨c, hcL, hb⟩), h2, fun b hb => Nat.lt_of_lt_of_le (h3 b hb) hc.size⟩)
theorem Sat.un_iff {w : World} {L R : List Ck} : Sat w0 M (un L :: R) w ↔ Sat w0 M (L ++ R) w := by
 constructor
 ·intro h;obtain ⟨h1, h2, h3⟩ := (h.all (un L) List.mem_cons_self : (un L).p w);have hp := List.pairwise_cons.1 h.sep;refine ⟨h.chg, ?_, List.pairwise_append.2 ⟨h2, hp.2, fun c hc d hd b hb => hp.1 d hd b ⟨c, hc, hb⟩⟩, ?_⟩
  ·intro c hc;rcases List.mem_append.1 hc with hc | hc
   ·exact h1 c hc
   ·exact h.all c (List.mem_cons_of_mem _ hc)
  ·intro c hc b hb;rcases List.mem_append.1 hc with hc | hc
   ·exact h.bd (un L) List.mem_cons_self b ⟨c, hc, hb⟩
   ·exact h.bd c (List.mem_cons_of_mem _ hc) b hb
 ·intro h;have hp := List.pairwise_append.1 h.sep;refine ⟨h.chg, ?_, List.pairwise_cons.2 ⟨fun d hd b hb => ?_, hp.2.1⟩, ?_⟩
  ·intro c hc;rcases List.mem_cons.1 hc with rfl | hc
   ·exact ⟨fun c hc => h.all c (List.mem_append_left _ hc), hp.1, fun b ⟨c, hc, hb⟩ => (h.bd c (List.mem_append_left _ hc) b hb).1⟩
   ·exact h.all c (List.mem_append_right _ hc)
  ·obtain ⟨c, hc, hb⟩ := hb;exact hp.2.2 c hc d hd b hb
  ·intro c hc b hb;rcases List.mem_cons.1 hc with rfl | hc
   ·obtain ⟨c, hc, hb⟩ := hb;exact h.bd c (List.mem_append_left _ hc) b hb
   ·exact h.bd c (List.mem_append_right _ hc) b hb
def ItOk {α : Type} (P : Program) (gf : Nat) (lb : List Value) (enc : α → List Value) (xs : List α) (w : World) (D : Nat → Prop) : Prop :=
 ∀ (fv : Value) (σ : Type) (L : σ → List Ck) (I : List α → σ → Prop) (E : σ → Prop) (s0 : σ), I [] s0 → (∀ b, DL (L s0) b → D b) → Sat w (DL (L s0)) (L s0) w →
  (∀ pre x post s w', xs = pre ++ x :: post → I pre s → Sat w (DL (L s0)) (L s) w' → CaF P fv (enc x) w' (fun v w'' => ∃ s', ((v = .bool true ∧ I (pre ++ [x]) s') ∨ (v = .bool false ∧ E s')) ∧ Sat w' (DL (L s)) (L s') w'')) →
  Ca P gf (fv :: lb) w (fun _ w' => ∃ s', (I xs s' ∨ E s') ∧ Sat w (DL (L s0)) (L s') w')
def mark (D : Nat) : Deferred := { target := .collected D, args := #[] }
def obj2 (l : Nat) (o : Obj) (D : Nat) (o' : Obj) : Ck := .gn (fun b => b = l ∨ b = D) (fun w => w.heap[l]? = some o ∧ w.heap[D]? = some o')
 (fun _ _ _ ⟨h1, h2⟩ hc hn => ⟨(hc.block l (Array.getElem?_eq_some_iff.1 h1).1 (hn l (.inl rfl))).trans h1, (hc.block D (Array.getElem?_eq_some_iff.1 h2).1 (hn D (.inr rfl))).trans h2⟩)
def dfr (D : Nat) : Ck := .gn (· = D) (fun w => w.heap[D]? = some (.deferred (some [])))
 (fun _ _ _ h hc hn => (hc.block D (Array.getElem?_eq_some_iff.1 h).1 (hn D rfl)).trans h)
theorem jY (w : World) (l : Nat) (o : Obj) : Chg [l] w (w.putObj l o) :=
 ⟨rfl, rfl, rfl, by simp, fun k _ hn => World.putObj_heap_other (by simpa using hn)⟩
theorem Sat.obj2 {w : World} {l D : Nat} {o o' o2 : Obj} {R : List Ck} (h : Sat w0 M (obj2 l o D o' :: R) w) (hne : D ≠ l) : Sat w0 M (Eng.obj2 l o2 D o' :: R) (w.putObj l o2) := by
 have hp : w.heap[l]? = some o ∧ w.heap[D]? = some o' := h.all _ List.mem_cons_self;refine h.rep .z (jY w l o2) (fun k hk => .inl (by simpa using hk)) ⟨World.putObj_heap_same (Array.getElem?_eq_some_iff.1 hp.1).1, (World.putObj_heap_other hne).trans hp.2⟩ (fun b hb => ⟨.inl hb, ?_⟩);rw [World.putObj_size];exact (h.bd _ List.mem_cons_self b hb).1
theorem Fits.fold {n : Nat} {ds : List Deferred} : ∀ (l : List (Nat × Value)) (e : Env) (tmps : Array Value) (ds' : List Deferred), Fits n e { tmps := tmps, defers := ds' } → (l.all fun p => Nat.blt p.1 n) = true →
  Fits n (l.foldl (fun e p => p :: e) e) { tmps := l.foldl (fun t p => t.setIfInBounds p.1 p.2) tmps, defers := ds }
 | [], e, tmps, ds', h, _ => ⟨h.size, h.at_⟩
 | p :: l, e, tmps, ds', h, hl => by
  simp only [List.all_cons, Bool.and_eq_true] at hl;exact Fits.fold l (p :: e) (tmps.setIfInBounds p.1 p.2) ds' (h.put (t := p.1) p.2 hl.1) hl.2
theorem q_range {ds : List Deferred} {g : Operand} {ps : List Nat} {assign body : Code} {gf : Nat} {lb : Array Value} {α : Type} (enc : α → List Value) (σ : Type) (xs : List α) (I : List α → σ → Prop) (E : Code → σ → Prop) (Hb : σ → List Ck) (R : List Ck) (s0 : σ)
  (hg : opv e g = some (.func (.func gf) #[] lb)) (hfn : fnB P gf = true) (hps : (ps.all fun p => Nat.blt p n) = true) (hlen : ∀ x ∈ xs, (enc x).length = ps.length) (hI0 : I [] s0) (hH : Sp H (Hb s0 ++ R))
  (it : ∀ w D, Sat w0 M (Hb s0 ++ R) w → (∀ b, D b → ¬ DL R b ∧ (M b ∨ w0.heap.size ≤ b)) → ItOk P gf lb.toList enc xs w D)
  (round : ∀ pre x post s w l (rdy bsy : Ck) (K : Act → World → Prop) (F' : Fin), xs = pre ++ x :: post → I pre s → Sat w0 M (Hb s ++ R) w → (∀ w', ChgP (DL (rdy :: Hb s)) w w' → Sat w0 M R w') →
   (∀ e' H', Q P ⟨some l, []⟩ n F' w (DL (rdy :: Hb s)) [.code body] e' (bsy :: H') → Q P ⟨some l, []⟩ n (fun _ _ _ => False) w (DL (rdy :: Hb s)) [.k K] e' (rdy :: H')) →
   (∀ e' H' s', I (pre ++ [x]) s' → Sp H' (bsy :: Hb s') → Q P ⟨some l, []⟩ n F' w (DL (rdy :: Hb s)) [] e' H') →
   (∀ e' H' s', E .ret s' → Sp H' (bsy :: Hb s') → Q P ⟨some l, []⟩ n (fun _ => F' .ret) w (DL (rdy :: Hb s)) [] e' H') →
   (∀ id e' H' s', E (.exit id) s' → Sp H' (bsy :: Hb s') → Q P ⟨some l, []⟩ n (fun _ => F' (.exit id)) w (DL (rdy :: Hb s)) [] e' H') →
   Q P ⟨some l, []⟩ n (fun _ _ _ => False) w (DL (rdy :: Hb s)) [.code assign, .k K] ((ps.zip (enc x)).foldl (fun e p => p :: e) e) (rdy :: Hb s))
  (done : ∀ D s, I xs s → Q P ⟨none, mark D :: ds⟩ n F w0 M k e (dfr D :: (Hb s ++ R)))
  (stops : ∀ D s c, E c s → Q P ⟨none, mark D :: ds⟩ n F w0 M (.code c :: k) e (dfr D :: (Hb s ++ R))) :
  Q P ⟨none, ds⟩ n F w0 M (.code (.rangeFunc g ps.toArray assign body) :: k) e H := .mk fun w hsH a hfit hd => by
 have hs := hsH.sp hH;have eg := hfit.op hg
 show (Code.rangeFunc g ps.toArray assign body).wpIn (FR none) 0 P (S P none F k) a w
 refine wpIn_rangeFunc ?_;intro fn hfnF;obtain ⟨rec, hrec⟩ : ∃ rec : LoopState → Option Code → Loop, rec = fun st pe => { state := st, pending := pe, fn, tmps := a.tmps, params := ps.toArray, assign, body, defers := w.heap.size } := ⟨_, rfl⟩
 have hW1 : (Instr.enterLoop fn a.tmps ps.toArray assign body none).run P w = .ok (w.heap.size + 1, [mark w.heap.size]) ((w.alloc (.deferred (some []))).alloc (.loop (rec .ready none))) := by
  rw [hrec];exact run_enterLoop_outer _ _ _ _ _
 generalize hl : w.heap.size + 1 = l at hW1;generalize hD : w.heap.size = D at hW1;have hne : D ≠ l := by omega
 have hs1 : Sat w0 M (obj2 l (.loop (rec .ready none)) D (.deferred (some [])) :: (Hb s0 ++ R)) ((w.alloc (.deferred (some []))).alloc (.loop (rec .ready none))) := by
  refine hs.add ((eA _ _).trans (eA _ _)) ⟨?_, ?_⟩ (fun b hb => ?_)
  ·have := World.alloc_heap_new (w.alloc (.deferred (some []))) (.loop (rec .ready none));rw [World.size_alloc, hl] at this;exact this
  ·have h1 := (eA (w.alloc (.deferred (some []))) (.loop (rec .ready none))).block w.heap.size (by simp) (by simp);rw [← hD, h1];exact World.alloc_heap_new w _
  ·simp only [World.size_alloc];rcases hb with rfl | rfl <;> omega
 generalize hWW : (w.alloc (.deferred (some []))).alloc (.loop (rec .ready none)) = W1 at hW1 hs1;refine ⟨l, [mark D], W1, { target := .fn (.func gf) lb, args := #[.func (.yield l) #[] #[]] }, W1, gf, #[.func (.yield l) #[] #[]] ++ lb, W1, hW1, ?_, fun f _ => nZ f, ?_, fun hx => by simp [Fence.wide] at hx, ?_⟩
 ·simp only [resolve, eg];simp [go_sem]
 ·simp [invoke, kN hfn]
 let L : σ ⊕ (σ × Code) → List Ck := fun
  | .inl s => obj2 l (.loop (rec .ready none)) D (.deferred (some [])) :: Hb s
  | .inr (s, c) => obj2 l (.loop (rec .done (some c))) D (.deferred (some [])) :: Hb s
 have hit := it W1 (DL (L (.inl s0))) hs1.tail (fun b ⟨c, hc, hb⟩ => by
  have hp := List.pairwise_append.1 (show ((obj2 l (.loop (rec .ready none)) D (.deferred (some [])) :: Hb s0) ++ R).Pairwise _ from hs1.sep);exact ⟨fun ⟨c', hc', hb'⟩ => hp.2.2 c hc c' hc' b hb hb', (hs1.bd c (List.mem_append_left R hc) b hb).2⟩)
 have hself : Sat W1 (DL (L (.inl s0))) (L (.inl s0)) W1 := Sat.self (A := L (.inl s0)) (B := R) hs1;have hcall := hit (.func (.yield l) #[] #[]) (σ ⊕ (σ × Code)) L (fun pre st => ∃ s, st = .inl s ∧ I pre s) (fun st => ∃ s c, st = .inr (s, c) ∧ E c s) (.inl s0) ⟨s0, rfl, hI0⟩ (fun _ h => h) hself ?_
 ·have hargs : #[Value.func (.yield l) #[] #[]] ++ lb = (Value.func (.yield l) #[] #[] :: lb.toList).toArray := by
   apply Array.ext';simp
  rw [hargs];refine nH (Calls.mono hcall ?_);rintro x w' ⟨v, rfl, st, hst, hs'⟩;have hs2 : Sat w0 M (L st ++ R) w' := Sat.call (L0 := L (.inl s0)) hs1 hs' (fun b hb => hb)
  have hdfr : ∀ {o : Obj} {s : σ} {w2 : World}, Sat w0 M (obj2 l o D (.deferred (some [])) :: (Hb s ++ R)) w2 → Sat w0 M (dfr D :: (Hb s ++ R)) w2 := fun {o s w2} h =>
   h.rep .z (Chg.refl [] _) (by simp) (h.all _ List.mem_cons_self : (obj2 l o D (.deferred (some []))).p w2).2 (fun b hb => ⟨.inl (.inr hb), (h.bd _ List.mem_cons_self b (.inr hb)).1⟩)
  rcases hst with ⟨s, rfl, hI⟩ | ⟨s, c, rfl, hE⟩
  ·have hp : w'.heap[l]? = some (.loop (rec .ready none)) ∧ _ := hs2.all _ List.mem_cons_self;have hr := run_endLoop (P := P) hp.1 (by rw [hrec]; simp);rw [show (rec .ready none).pending = none by rw [hrec]] at hr;refine ⟨none, _, hr, ?_⟩;exact done D s hI _ (hdfr (Sat.obj2 hs2 hne)) _ ⟨hfit.size, hfit.at_⟩ (by rw [hd]; rfl)
  ·have hp : w'.heap[l]? = some (.loop (rec .done (some c))) ∧ _ := hs2.all _ List.mem_cons_self;have hr := run_endLoop (P := P) hp.1 (by rw [hrec]; simp);rw [show (rec .done (some c)).pending = some c by rw [hrec]] at hr;refine ⟨some c, _, hr, ?_⟩;exact stops D s c hE _ (hdfr (Sat.obj2 hs2 hne)) _ ⟨hfit.size, hfit.at_⟩ (by rw [hd]; rfl)
 ·rintro pre x post st w2 hx ⟨s, rfl, hI⟩ hs2;have hp : w2.heap[l]? = some (.loop (rec .ready none)) ∧ _ := hs2.all _ List.mem_cons_self;have hy := run_yield (P := P) (args := (enc x).toArray) hp.1 (by rw [hrec]; simpa using hlen x (by rw [hx]; simp));refine .inr ⟨l, _, _, _, _, Z, hy, fun r => ?_⟩;rw [hrec];have hfull : Sat w0 M (L (.inl s) ++ R) w2 := Sat.call (L0 := L (.inl s0)) hs1 hs2 (fun b hb => hb)
  let F' : Fin := fun ex a w' => roundPost P l (fun e w'' => ∃ v, e = .returned v ∧ ∃ st', ((v = .bool true ∧ ∃ s, st' = .inl s ∧ I (pre ++ [x]) s) ∨ (v = .bool false ∧ ∃ s c, st' = .inr (s, c) ∧ E c s)) ∧ Sat w2 (DL (L (.inl s))) (L st') w'') ex a w'
  let K : Act → World → Prop := fun a1 w1 => ∃ w3, (Instr.beginRound l).run P w1 = .ok () w3 ∧ body.wpIn ((FR r).inRound l) 0 P F' a1 w3
  have hend : ∀ (j : Option Code) (s' : σ) (w4 : World), Sat w2 (DL (L (.inl s))) (obj2 l (.loop (rec .busy none)) D (.deferred (some [])) :: Hb s') w4 →
    ∃ v w5, (Instr.endRound l j).run P w4 = .ok v w5 ∧ v = .bool j.isNone ∧ Sat w2 (DL (L (.inl s))) (obj2 l (.loop (rec (if j.isNone then .ready else .done) j)) D (.deferred (some [])) :: Hb s') w5 := by
   intro j s' w4 h4;have hp4 : w4.heap[l]? = some (.loop (rec .busy none)) ∧ _ := h4.all _ List.mem_cons_self;have hr := run_endRound (P := P) j hp4.1;refine ⟨_, _, hr, Z, ?_⟩;have h5 := Sat.obj2 (o2 := .loop (rec (if j.isNone then .ready else .done) j)) h4 hne;rw [hrec] at h5 ⊢;exact h5
  have key := round pre x post s w2 l (obj2 l (.loop (rec .ready none)) D (.deferred (some []))) (obj2 l (.loop (rec .busy none)) D (.deferred (some []))) K F' hx hI hfull.tail
   (fun w' hc => ?_) (fun e' H' hb => .mk fun w1 hw1 a1 hf1 hd1 => ?_) (fun e' H' s' hI' hsp => .mk fun w4 hw4 a4 hf4 hd4 => ?_) (fun e' H' s' hE' hsp => .mk fun w4 hw4 a4 hf4 hd4 => ?_) (fun id e' H' s' hE' hsp => .mk fun w4 hw4 a4 hf4 hd4 => ?_)
  ·have h1 := key w2 (Sat.self (A := L (.inl s)) (B := R) hfull) _ (Fits.fold (ds := []) (ps.zip (enc x)) e a.tmps a.defers hfit (List.all_eq_true.2 fun p hp => List.all_eq_true.1 hps p.1 (List.of_mem_zip hp).1)) rfl;refine roundIn_of_wpIn (nZ _) ?_;have h2 : assign.wpIn ((FR r).inRound l) 0 P (Exit.then K (fun _ _ _ => False)) { tmps := (ps.zip (enc x)).foldl (fun t p => t.setIfInBounds p.1 p.2) a.tmps, defers := [] } w2 := h1;simpa [K, F'] using h2
  ·have hp3 := List.pairwise_append.1 hfull.sep;refine ⟨hfull.chg.upP hc (fun b ⟨c, hc, hb⟩ => (hfull.bd c (List.mem_append_left _ hc) b hb).2), fun c hcR => Ck.st (hfull.all c (List.mem_append_right _ hcR)) hc (fun b hb ⟨c', hc', hb'⟩ => hp3.2.2 c' hc' c hcR b hb' hb), hp3.2.1, fun c hcR b hb => ?_⟩;have := hfull.bd c (List.mem_append_right _ hcR) b hb;exact ⟨Nat.lt_of_lt_of_le this.1 hc.size, this.2⟩
  ·have hp1 : w1.heap[l]? = some (.loop (rec .ready none)) ∧ _ := hw1.all _ List.mem_cons_self;have hr := run_beginRound (P := P) hp1.1 (by rw [hrec]);refine ⟨_, hr, ?_⟩;have h3 := Sat.obj2 (o2 := .loop (rec .busy none)) hw1 hne;have h4 := hb _ h3 a1 hf1 hd1;rw [hrec];rw [hrec] at h4;exact h4
  ·obtain ⟨v, w5, hr, hv, h5⟩ := hend none s' w4 (hw4.sp hsp);exact ⟨v, w5, hr, v, Z, .inl s', .inl ⟨hv, s', Z, hI'⟩, h5⟩
  ·obtain ⟨v, w5, hr, hv, h5⟩ := hend (some .ret) s' w4 (hw4.sp hsp);exact ⟨v, w5, hr, v, Z, .inr (s', .ret), .inr ⟨hv, s', .ret, Z, hE'⟩, h5⟩
  ·obtain ⟨v, w5, hr, hv, h5⟩ := hend (some (.exit id)) s' w4 (hw4.sp hsp);exact ⟨v, w5, hr, v, Z, .inr (s', .exit id), .inr ⟨hv, s', .exit id, Z, hE'⟩, h5⟩
def finM (P : Program) (fn : Func) (R : Value → World → Prop) : Fin := bodyPostM (FR none) 0 P fn fun e w' => ∃ v, e = .returned v ∧ R v w'
theorem q_ofM {g : FuncId} {fn : Func} {c : Code} {args : List Value} {w : World} {R : Value → World → Prop} (hs : Sat w M H w) (hfn : P.funcs[g]? = some fn) (hb : fn.body = some c) (hn : args.length ≤ fn.ntmps)
  (h : Q P ⟨none, []⟩ fn.ntmps (finM P fn R) w M [.code c] (env0 0 args) H) : Ca P g args w R := by
 refine (callsIn_wide (n := 0)).1 (callsIn_of_wp_marks hfn hb trivial ?_ Z);have h1 := h w hs { tmps := args.toArray ++ Array.replicate (fn.ntmps - args.toArray.size) undef, defers := [] } ⟨by simp; omega, fun t v ht => ?_⟩ rfl
 ·exact h1
 ·obtain ⟨_, h2⟩ := look_env0 args 0 t v ht;simp at h2;have hlt : t < args.length := (List.getElem?_eq_some_iff.1 h2).1;have h3 : args[t] = v := by rw [List.getElem?_eq_getElem hlt] at h2; exact Option.some.inj h2
  simp [Array.getD_eq_getD_getElem?, Array.getElem?_append, hlt, h3]
theorem leaves_nil {fn : Func} {tmps : Array Value} {R : Ending → World → Prop} {w : World} {v : Value} (hr : (results fn tmps).run P w = .ok v w) (hR : R (.returned v) w) : LeavesInM (FR none) 0 P fn tmps R [] .returning w := by
 show LeavesIn (FR none) 0 P fn tmps R [] .returning w
 exact ⟨v, hr, hR⟩
theorem q_finM0 {fn : Func} {R : Value → World → Prop} {v : Value} (hr : ∀ a w, Fits n e a → Sat w0 M H w → (results fn a.tmps).run P w = .ok v w) (hR : ∀ w, Sat w0 M H w → R v w) : Q P ⟨none, []⟩ n (fun _ => finM P fn R .ret) w0 M [] e H := .mk fun w hs a hf hd => by
 show LeavesInM (FR none) 0 P fn a.tmps _ a.defers .returning w
 rw [show a.defers = [] from hd];exact leaves_nil (hr a w hf hs) ⟨v, Z, hR w hs⟩
theorem q_finM1 {D : Nat} {fn : Func} {R : Value → World → Prop} {v : Value} {H' : List Ck} (hH : Rm H (dfr D) H') (hr : ∀ a w, Fits n e a → Sat w0 M H' w → (results fn a.tmps).run P w = .ok v w) (hR : ∀ w, Sat w0 M H' w → R v w) : Q P ⟨none, [mark D]⟩ n (fun _ => finM P fn R .ret) w0 M [] e H := .mk fun w hs a hf hd => by
 show LeavesInM (FR none) 0 P fn a.tmps _ a.defers .returning w
 rw [show a.defers = [mark D] from hd];have h1 : Sat w0 M (dfr D :: H') w := hs.perm hH.perm;have hp : w.heap[D]? = some (.deferred (some [])) := h1.all _ List.mem_cons_self
 have h2 : Sat w0 M H' (w.putObj D (.deferred none)) := by
  have hsep := List.pairwise_cons.1 h1.sep;refine ⟨h1.chg.up (jY w D _) (fun b hb => ?_), fun c hc => Ck.st (h1.all c (List.mem_cons_of_mem _ hc)) (jY w D _).P (fun b hb hm => ?_), hsep.2, fun c hc b hb => ?_⟩
  ·simp at hb;subst hb;exact (h1.bd _ List.mem_cons_self b Z).2
  ·simp at hm;subst hm;exact hsep.1 c hc b Z hb
  ·rw [World.putObj_size];exact h1.bd c (List.mem_cons_of_mem _ hc) b hb
 refine ⟨by simp, .inl ⟨D, _, Z, run_takeDeferred hp, ?_⟩⟩;exact leaves_nil (hr a _ hf h2) ⟨v, Z, hR _ h2⟩
end
section
variable {P : Program} {T : Tab}
variable {ro : Cx} {n : Nat} {F : Fin} {w0 : World} {M : Nat → Prop} {k : List It} {ops : Array Oper} {rest : List Oper} {e : Env} {H Hq : List Ck}
inductive RVs (T : Tab) (e : Env) (H : List Ck) : List ResultVar → List Value → Prop where
 | nil : RVs T e H [] []
 | tmp {t : Nat} {v : Value} {rs : List ResultVar} {vs : List Value} : look e t = some v → RVs T e H rs vs → RVs T e H (.tmp t :: rs) (v :: vs)
 | cellA {t ty m b : Nat} {us : List Value} {bt : TypeId} {rs : List ResultVar} {vs : List Value} : look e t = some (aC0 b) → fS T.agg ty = some m → Ck.pt b us bt ∈ H → us.length = m → RVs T e H rs vs → RVs T e H (.cell t ty :: rs) (.agg us.toArray :: vs)
 | cell1 {t ty b : Nat} {v : Value} {bt : TypeId} {rs : List ResultVar} {vs : List Value} : look e t = some (aC0 b) → has T.one ty = true → Ck.pt b [v] bt ∈ H → RVs T e H rs vs → RVs T e H (.cell t ty :: rs) (v :: vs)
def retV : List Value → Value
 | [v] => v
 | vs => .tuple vs.toArray
theorem mapM_run {α : Type} {f : α → Sem Value} {x : α} {xs : List α} {v : Value} {vs : List Value} {w : World} (h1 : (f x).run P w = .ok v w) (h2 : (xs.mapM f).run P w = .ok vs w) : ((x :: xs).mapM f).run P w = .ok (v :: vs) w := by
 rw [List.mapM_cons];simp only [Sem.run_bind, h1, Result.andThen_ok, h2]
 rfl
def resOne (tmps : Array Value) : ResultVar → Sem Value
 | .tmp t => pure (tmps.getD t undef)
 | .cell a t => do loadVar t (← asAddr (tmps.getD a undef))
theorem rvs_run (hT : T.Ok P) {rs : List ResultVar} {vs : List Value} (h : RVs T e H rs vs) {a : Act} (hf : Fits n e a) {w : World} (hs : Sat w0 M H w) :
  (rs.mapM (resOne a.tmps)).run P w = .ok vs w := by
 induction h with
 | nil => rfl
 | tmp hl _ ih =>
  have h1 := hf.at_ _ _ hl;exact mapM_run (by simp only [resOne, h1]; rfl) ih
 | @cellA t ty m b us bt rs vs hl ht hm hlen _ ih =>
  have h1 := hf.at_ _ _ hl;have h2 := run_loadAB (P := P) (w := w) hT ht (hs.mem hm) hlen;exact mapM_run (by simp only [resOne, h1]; simp [asAddr, h2]) ih
 | @cell1 t ty b v bt rs vs hl ht hm _ ih =>
  have h1 := hf.at_ _ _ hl
  have h2 : (loadVar ty ⟨b, 0, none⟩).run P w = .ok v w := by
   obtain ⟨r1, _⟩ := one_run hT ht w;have hc := Blk.cell (hs.mem hm) 0;simp [loadVar, r1, load, Sem.run, hc]
  exact mapM_run (by simp only [resOne, h1]; simp [asAddr, h2]) ih
theorem kQ (hT : T.Ok P) {fn : Func} {rs : List ResultVar} {vs : List Value} (hres : fn.results = rs.toArray) (h : RVs T e H rs vs) {a : Act} (hf : Fits n e a) {w : World} (hs : Sat w0 M H w) :
  (results fn a.tmps).run P w = .ok (retV vs) w := by
 have h1 := rvs_run hT h hf hs
 have e1 : results fn a.tmps = (do
   let vs ← fn.results.mapM (resOne a.tmps)
   pure (if h : vs.size = 1 then vs[0] else .tuple vs)) := by
  unfold results
  congr 1
 rw [e1, hres, List.mapM_toArray]
 have h2 : (Functor.map List.toArray (rs.mapM (resOne a.tmps))).run P w = .ok vs.toArray w := by
  rw [map_eq_pure_bind];simp only [Sem.run_bind, h1, Result.andThen_ok]
  rfl
 simp only [Sem.run_bind, h2];rcases vs with _ | ⟨v, _ | ⟨u, vs⟩⟩ <;> simp [retV, Result.andThen]
theorem aT (hT : T.Ok P) {r : Option Nat} {fn : Func} {R : Value → World → Prop} {rs : List ResultVar} {vs : List Value} (hres : fn.results = rs.toArray) (h : RVs T e H rs vs) (hR : ∀ w, Sat w0 M H w → R (retV vs) w) : Q P ⟨r, []⟩ n (fun _ => fin P fn R .ret) w0 M [] e H :=
 .mk fun w hs => y_fin (fun a hf => kQ hT hres h hf hs) (hR w hs)
theorem aA5 {r : Option Nat} {fn : Func} {R : Value → World → Prop} {rs : List ResultVar} {vs : List Value} (p_ : (T.Ok P) ∧ (fn.results = rs.toArray)) (h : RVs T e H rs vs) (hR : ∀ w, Sat w0 M H w → R (retV vs) w) : Q P ⟨r, []⟩ n (fun _ => fin P fn R .ret) w0 M [] e H := aT p_.1 p_.2 h hR
theorem q_end (hT : T.Ok P) {r : Option Nat} {fn : Func} {R : Value → World → Prop} {rs : List ResultVar} {vs : List Value} (hres : fn.results = rs.toArray) (h : RVs T e H rs vs) (hR : ∀ w, Sat w0 M H w → R (retV vs) w) : Q P ⟨r, []⟩ n (fin P fn R) w0 M [] e H :=
 .mk fun w hs _ hf hd => ⟨hd, retV vs, kQ hT hres h hf hs, _, rfl, hR w hs⟩
theorem q_finM (hT : T.Ok P) {fn : Func} {R : Value → World → Prop} {rs : List ResultVar} {vs : List Value} (hres : fn.results = rs.toArray) (h : RVs T e H rs vs) (hR : ∀ w, Sat w0 M H w → R (retV vs) w) : Q P ⟨none, []⟩ n (fun _ => finM P fn R .ret) w0 M [] e H :=
 q_finM0 (fun _ _ hf hs => kQ hT hres h hf hs) hR
theorem q_finMD (hT : T.Ok P) {D : Nat} {fn : Func} {R : Value → World → Prop} {rs : List ResultVar} {vs : List Value} {H' : List Ck} (hH : Rm H (dfr D) H') (hres : fn.results = rs.toArray) (h : RVs T e H' rs vs) (hR : ∀ w, Sat w0 M H' w → R (retV vs) w) : Q P ⟨none, [mark D]⟩ n (fun _ => finM P fn R .ret) w0 M [] e H :=
 q_finM1 hH (fun _ _ hf hs => kQ hT hres h hf hs) hR
theorem kL {C1 C2 : World → Prop} {K : Act → World → Prop} : ∀ (l : List Oper) (bs : List Bool), (∀ x ∈ bs, x = false) → ∀ (a : Act) (w : World), gK P ops C2 K l a w → mO P ops C1 C2 K bs l a w
 | [], _, _, _, _, h => by simpa [gK, mO] using h
 | o :: l, bs, hb, a, w, h => by
  have h0 : bs.headD false = false := by
   cases bs with
   | nil => rfl
   | cons x bs => exact hb x List.mem_cons_self
  have h1 : ∀ x ∈ bs.tail, x = false := fun x hx => hb x (List.mem_of_mem_tail hx)
  simp only [gK] at h;simp only [mO, h0, cond_false];by_cases hw : Region.wanted o (yielded ops a.tmps) = true
  ·simp only [hw, if_true] at h ⊢;by_cases he : eff o.op = true
   ·simp only [he, if_true] at h ⊢;exact h.mono fun v w' ⟨g1, g2⟩ => ⟨g1, kL l _ h1 _ _ g2⟩
   ·simp only [he] at h ⊢;obtain ⟨v, hv, g2⟩ := h;exact ⟨v, hv, kL l _ h1 _ _ g2⟩
  ·simp only [hw] at h ⊢;exact kL l _ h1 _ _ h
theorem Chg.old {w w1 w' : World} {D : Nat → Prop} (h : Chg [] w w1) (g : ChgP D w1 w') (hD : ∀ b, D b → w.heap.size ≤ b) : Chg [] w w' := (h.P0.upP g (fun k hk => .inr (hD k hk))).none
theorem Sat.un1 {w : World} {L : List Ck} : Sat w0 M [un L] w ↔ Sat w0 M L w := by
 have h := Sat.un_iff (w0 := w0) (M := M) (w := w) (L := L) (R := [])
 rwa [List.append_nil] at h
theorem yieldF {α σ : Type} {enc : α → List Value} {xs : List α} {w : World} {fv : Value} {L : σ → List Ck} {I : List α → σ → Prop} {E : σ → Prop} {s0 : σ}
  (hcb : ∀ pre x post s w', xs = pre ++ x :: post → I pre s → Sat w (DL (L s0)) (L s) w' → CaF P fv (enc x) w' (fun v w'' => ∃ s', ((v = .bool true ∧ I (pre ++ [x]) s') ∨ (v = .bool false ∧ E s')) ∧ Sat w' (DL (L s)) (L s') w''))
  {pre : List α} {x : α} {post : List α} {s : σ} (hx : xs = pre ++ x :: post) (hI : I pre s) {R : List Ck} : ∀ w', Sat w (DL (L s0)) ([un (L s)] ++ R) w' →
   CaF P fv (enc x) w' (fun v w'' => ∃ s', ((v = .bool true ∧ I (pre ++ [x]) s') ∨ (v = .bool false ∧ E s')) ∧ Sat w' (DL (L s)) [un (L s')] w'') := fun w' hs => by
 have h1 : Sat w (DL (L s0)) (L s) w' := (Sat.un_iff.1 hs).sp (by
  have := Sp.refl (L s)
  have key : ∀ (A B : List Ck), Sp (A ++ B) A := by
   intro A B
   induction A with
   | nil => exact .nil
   | cons a A ih => exact .cons .z ih
  exact key _ _)
 exact (hcb pre x post s w' hx hI h1).mono fun v w'' ⟨s', h2, h3⟩ => ⟨s', h2, Sat.un1.2 h3⟩
theorem q_drawS {id : Nat} {l : List Oper} (c : Nat) (Hq2 Hm : List Ck) (hH : Sp H (Hm ++ Hq2)) (hm : P.follows .mixedOrders = true) (hB : flB l.toArray = true)
  (hbs : flagB l.toArray (List.replicate c true ++ List.replicate (l.length - c) false) = true)
  (h : ∀ K1 : Act → World → Prop, (∀ e' H' Hm', Sp H' (Hm' ++ Hq2) → QF P ro n F w0 M k l.toArray Hq2 (l.drop c) e' Hm' → Q P ro n F w0 M (.k K1 :: k) e' H') → QF P ro n F w0 M (.k K1 :: k) l.toArray H (l.take c) e []) :
  Q P ro n F w0 M (.code (.region id l.toArray true) :: k) e H := .mk fun w hs a hf hd => by
 have hs1 : Sat w0 M H { w with drawn := w.drawn + 1 } := hs.keep (Chg.drew (N := []) w);have h12 : ∀ w, Sat w0 M H w → Sat w0 M Hq2 w := fun w hw => (hw.sp hH).right
 let bs := List.replicate c true ++ List.replicate (l.length - c) false
 refine iL hm (flB_spec hB) (K := fun a w => S P ro.ro F k .normal a w) (Cq := fP (Sat w0 M H) (Sat w0 M Hq2) bs) (Ce := fP (Sat w0 M H) (Sat w0 M Hq2) bs)
  (fun i j oi oj => nA hbs h12 i j oi oj) (fun i => ?_) (fun _ _ h => h) ?_
 ·unfold fP;cases bs.getD i false
  ·exact h12 _ hs1
  ·exact hs1
 ·have h2 := wpFlB_eq (P := P) (ops := l.toArray) (C1 := Sat w0 M H) (C2 := Sat w0 M Hq2) (bs := bs) (K := fun a w => S P ro.ro F k .normal a w) l 0 (by simp);rw [show List.range l.toArray.size = List.range' 0 l.length from by simp [List.range_eq_range'], h2];refine yb_seg (P := P) (ro := ro) (n := n) (F := F) (k := k) (C1 := Sat w0 M H) (C2 := Sat w0 M Hq2) (bs := bs) (l := l) true c (by simp [bs]) (by simp [bs]) (fun K1 hK1 => ?_) a hf hd;have h3 := h K1 (fun e' H' Hm' hsp hq => .mk fun w' hw' a' hf' hd' => ?_)
  ·exact h3 _ (by simpa using hs1)
  ·refine hK1 e' w' (fun a2 hf2 hd2 => ?_) a' hf' hd';have h4 : bs.drop c = List.replicate (l.length - c) false := by simp [bs]
   rw [h4];exact kL _ _ (by simp) a2 w' (hq w' (hw'.sp hsp) a2 hf2 hd2)
end
end Go.Eng
namespace Go.Proofs.YtopdmadgkjdgcaaGreat
open Go Go.Eng
set_option maxRecDepth 4000
open Go Go.Eng
def tab : Tab where
 foff := [((28, 0), 0), ((28, 1), 1), ((28, 2), 2), ((46, 0), 0), ((46, 1), 1), ((46, 2), 2), ((46, 3), 3), ((51, 0), 0), ((51, 1), 1), ((51, 2), 2), ((51, 3), 3), ((56, 0), 0), ((56, 1), 1), ((78, 0), 0), ((78, 1), 1), ((91, 0), 0), ((91, 1), 1), ((91, 2), 2), ((131, 0), 0), ((131, 1), 1), ((131, 2), 2), ((136, 1), 1), ((140, 0), 0), ((140, 1), 1), ((140, 2), 2), ((140, 3), 3), ((140, 4), 4), ((140, 5), 5), ((140, 6), 6), ((140, 7), 7), ((142, 0), 0), ((142, 1), 1), ((148, 0), 0), ((148, 1), 1), ((148, 2), 2), ((150, 0), 0), ((150, 1), 1), ((150, 2), 2), ((155, 0), 0), ((155, 1), 1), ((163, 0), 0), ((163, 1), 1), ((163, 2), 2), ((172, 0), 0), ((172, 1), 1), ((182, 0), 0), ((182, 1), 2), ((182, 2), 10), ((184, 0), 0), ((184, 1), 4), ((195, 0), 0), ((204, 0), 0), ((204, 1), 1), ((209, 0), 0), ((209, 1), 1), ((213, 0), 0), ((213, 1), 1), ((213, 2), 2), ((218, 0), 0), ((218, 1), 1), ((218, 2), 2), ((238, 0), 0), ((238, 1), 3), ((252, 0), 0), ((271, 0), 0), ((271, 1), 1), ((271, 2), 2)]
 esz := [(22, (5, 1)), (23, (28, 3)), (29, (3, 1)), (37, (29, 1)), (44, (78, 2)), (49, (172, 2)), (63, (56, 2)), (76, (4, 1)), (88, (91, 3)), (96, (213, 3)), (112, (218, 3)), (129, (131, 3)), (132, (136, 3)), (146, (150, 3)), (151, (155, 2)), (158, (157, 1)), (180, (4, 1)), (236, (180, 8)), (275, (271, 3))]
 one := [3, 4, 5, 22, 23, 25, 29, 37, 44, 49, 76, 88, 102, 127, 129, 146, 157, 161, 175, 177, 193, 205, 210, 215, 225, 232, 243, 269, 281, 289]
 agg := [(28, 3), (46, 4), (51, 4), (56, 2), (78, 2), (91, 3), (131, 3), (136, 3), (140, 8), (142, 2), (148, 3), (150, 3), (155, 2), (163, 3), (172, 2), (182, 18), (184, 22), (195, 1), (204, 2), (209, 2), (213, 3), (218, 3), (236, 64), (238, 67), (252, 8), (271, 3), (272, 9)]
 len := [22, 23, 29, 37, 44, 49, 63, 76, 88, 96, 112, 129, 132, 146, 151, 158, 275]
 iks := [(3, .i64), (5, .u8), (36, .u16), (138, .i8), (161, .u32), (241, .u64), (265, .u64), (281, .u64)]
 fn := [2, 3, 4, 5, 6, 7, 8, 9, 10, 11, 12, 13, 14, 15, 16, 17, 18, 19, 20, 21, 22, 23, 24, 25, 26, 27, 28, 29, 30, 31, 32, 33, 34, 35, 36, 37, 38, 39, 40, 41, 42, 43, 44, 45, 46, 47, 48, 49, 50, 51, 52, 53, 54, 55, 56, 57, 58, 59, 60, 61, 62, 63, 64, 65, 66, 67, 68, 69, 70, 71, 72, 73, 74, 75, 76, 77, 78, 79, 80, 81, 82, 83, 84, 85, 86, 87, 88, 89, 90, 91, 92, 93, 94, 95, 96, 97, 98, 99, 100, 101, 102, 103, 104, 105, 106, 107, 108, 109, 110, 111, 112, 113, 114, 115, 116, 117, 118, 119, 120, 121, 122, 123, 124, 125, 126, 127, 128, 129, 130, 131, 132, 133, 134, 135, 136, 137, 138, 139, 140, 141, 142, 143, 144, 145, 146, 147, 148, 149, 150, 151, 152, 153, 154, 155, 156, 157, 158, 159, 160, 161, 162, 163, 164, 165, 166, 167, 168, 169, 170, 171, 172, 173, 174, 175, 176, 177, 178, 179, 180, 181, 182, 183, 184, 185, 186, 187, 188, 189, 190, 191, 192, 193, 194, 195, 196, 197, 198, 199, 200, 201, 202, 203, 204, 205, 206, 207, 208, 209, 210, 211, 212, 213, 214, 215, 216, 217, 218, 219, 220, 221, 222, 223, 224, 225, 226, 227, 228, 229, 230, 231, 232, 233, 234, 235, 236, 237, 238, 239]
theorem tab_check : tab.ok Tryz.prog = true := by kernel_rfl
theorem U : tab.Ok Tryz.prog := Tab.ok_spec tab_check
theorem zq {A0 : Sort _} {a0 : A0} {A1 : Sort _} {a1 : A1} : tab.Ok Tryz.prog ∧ a0 = a0 ∧ a1 = a1 := ⟨U, rfl, rfl⟩
theorem xq {A0 : Sort _} {a0 : A0} {A1 : Sort _} {a1 : A1} {A2 : Sort _} {a2 : A2} : tab.Ok Tryz.prog ∧ a0 = a0 ∧ a1 = a1 ∧ a2 = a2 := ⟨U, rfl, rfl, rfl⟩
theorem Wa {A0 : Sort _} {a0 : A0} {A1 : Sort _} {a1 : A1} {A2 : Sort _} {a2 : A2} {A3 : Sort _} {a3 : A3} {A4 : Sort _} {a4 : A4} : tab.Ok Tryz.prog ∧ a0 = a0 ∧ a1 = a1 ∧ a2 = a2 ∧ a3 = a3 ∧ a4 = a4 := ⟨U, rfl, rfl, rfl, rfl, rfl⟩
theorem uq {A0 : Sort _} {a0 : A0} {A1 : Sort _} {a1 : A1} {A2 : Sort _} {a2 : A2} {A3 : Sort _} {a3 : A3} : tab.Ok Tryz.prog ∧ a0 = a0 ∧ a1 = a1 ∧ a2 = a2 ∧ a3 = a3 := ⟨U, rfl, rfl, rfl, rfl⟩
theorem wq {A0 : Sort _} {a0 : A0} : tab.Ok Tryz.prog ∧ a0 = a0 := ⟨U, rfl⟩
theorem zero3 : ZeroOf Tryz.prog 3 (.int .i64 0) := ⟨by kernel_rfl⟩
theorem zero28 : ZeroOf Tryz.prog 28 (.agg #[.int .i64 0, .int .i64 0, .int .i64 0]) := ⟨by kernel_rfl⟩
theorem dY : ZeroOf Tryz.prog 46 (.agg #[.int .i64 0, .int .i64 0, .slice none 0 0, .slice none 0 0]) := ⟨by kernel_rfl⟩
theorem fE : ZeroOf Tryz.prog 51 (.agg #[.int .i64 0, .int .i64 0, .slice none 0 0, .slice none 0 0]) := ⟨by kernel_rfl⟩
theorem dR : ZeroOf Tryz.prog 56 (.agg #[.int .i64 0, .int .i64 0]) := ⟨by kernel_rfl⟩
theorem zero78 : ZeroOf Tryz.prog 78 (.agg #[.int .i64 0, .int .i64 0]) := ⟨by kernel_rfl⟩
theorem zero88 : ZeroOf Tryz.prog 88 (.slice none 0 0) := ⟨by kernel_rfl⟩
theorem zero91 : ZeroOf Tryz.prog 91 (.agg #[.int .i64 0, .int .i64 0, .int .i64 0]) := ⟨by kernel_rfl⟩
theorem zero177 : ZeroOf Tryz.prog 177 (.pointer none) := ⟨by kernel_rfl⟩
theorem lA : ZeroOf Tryz.prog 182 (.agg #[.int .i64 0, .int .i64 0, .bool false, .bool false, .bool false, .bool false, .bool false, .bool false, .bool false, .bool false, .bool false, .bool false, .bool false, .bool false, .bool false, .bool false, .bool false, .bool false]) := ⟨by kernel_rfl⟩
theorem zero195 : ZeroOf Tryz.prog 195 (.agg #[.nilFunc]) := ⟨by kernel_rfl⟩
theorem jV : ZeroOf Tryz.prog 204 (.agg #[.int .i64 0, .int .i64 0]) := ⟨by kernel_rfl⟩
theorem zero205 : ZeroOf Tryz.prog 205 (.nilFunc) := ⟨by kernel_rfl⟩
theorem eR : ZeroOf Tryz.prog 209 (.agg #[.slice none 0 0, .slice none 0 0]) := ⟨by kernel_rfl⟩
theorem zero210 : ZeroOf Tryz.prog 210 (.nilFunc) := ⟨by kernel_rfl⟩
theorem zero213 : ZeroOf Tryz.prog 213 (.agg #[.int .i64 0, .int .i64 0, .int .i64 0]) := ⟨by kernel_rfl⟩
theorem zero215 : ZeroOf Tryz.prog 215 (.nilFunc) := ⟨by kernel_rfl⟩
theorem zero243 : ZeroOf Tryz.prog 243 (.map none) := ⟨by kernel_rfl⟩
def mkB (g : Nat → Bool) : Nat → Nat
 | 0 => 0
 | n + 1 => mkB g n ||| (cond (g n) (2 ^ n) 0)
theorem mkB_bit (g : Nat → Bool) (i : Nat) : ∀ n, (mkB g n).testBit i = (decide (i < n) && g i)
 | 0 => by simp [mkB]
 | n + 1 => by
  rw [mkB, Nat.testBit_or, mkB_bit g i n];by_cases h : i = n
  ·subst h;cases hg : g i <;> simp [Nat.testBit_two_pow_self]
  ·have h1 : (cond (g n) (2 ^ n) 0).testBit i = false := by
    cases g n
    ·simp
    ·simp [Nat.testBit_two_pow_of_ne (Ne.symm h)]
   rw [h1, Bool.or_false]
   congr 1
   exact decide_eq_decide.2 J
theorem mkB_lt (g : Nat → Bool) : ∀ n, mkB g n < 2 ^ n := fun n => Nat.lt_pow_two_of_testBit _ fun i hi => by
 rw [mkB_bit];simp; omega
def fa (o a b : Nat) : Bool := o.testBit (8 * a + b)
def lC (o f s : Nat) : Nat := mkB (fun c => o.testBit c || ((c / 8 == f || fa o (c / 8) f) && (c % 8 == s || fa o s (c % 8)))) 64
theorem fa_with (o f s : Nat) {a b : Nat} (ha : a < 8) (hb : b < 8) : fa (lC o f s) a b = (fa o a b || ((a == f || fa o a f) && (b == s || fa o s b))) := by
 unfold lC;rw [fa, mkB_bit];have h1 : (8 * a + b) / 8 = a := by omega
 have h2 : (8 * a + b) % 8 = b := by omega
 have h3 : decide (8 * a + b < 64) = true := decide_eq_true J;rw [h3, h1, h2, Bool.true_and]
 rfl
theorem kY {o f s a b : Nat} (ha : a < 8) (hb : b < 8) : fa (lC o f s) a b = true ↔ fa o a b = true ∨ ((a = f ∨ fa o a f = true) ∧ (b = s ∨ fa o s b = true)) := by
 rw [fa_with o f s ha hb];simp
theorem with_lt (o f s : Nat) : lC o f s < 2 ^ 64 := mkB_lt _ _
structure Ord (o : Nat) : Prop where
 lt : o < 2 ^ 64
 tr : ∀ a b c, a < 8 → b < 8 → c < 8 → fa o a b = true → fa o b c = true → fa o a c = true
theorem Ord.zero : Ord 0 := ⟨by decide, fun a b c _ _ _ h => by simp [fa] at h⟩
theorem Ord.with {o f s : Nat} (h : Ord o) (hf : f < 8) (hs : s < 8) : Ord (lC o f s) := ⟨with_lt _ _ _, fun a b c ha hb hc h1 h2 => by
 rw [kY ha hb] at h1;rw [kY hb hc] at h2;rw [kY ha hc];rcases h1 with h1 | ⟨h1, h1'⟩ <;> rcases h2 with h2 | ⟨h2, h2'⟩
 ·exact .inl (h.tr a b c ha hb hc h1 h2)
 ·refine .inr ⟨?_, h2'⟩;rcases h2 with rfl | h2
  ·exact .inr h1
  ·exact .inr (h.tr a b f ha hb hf h1 h2)
 ·refine .inr ⟨h1, ?_⟩;rcases h1' with rfl | h1'
  ·exact .inr h2
  ·exact .inr (h.tr s b c hs hb hc h1' h2)
 ·exact .inr ⟨h1, h2'⟩⟩
def LeO (o p : Nat) : Prop := ∀ a b, a < 8 → b < 8 → fa o a b = true → fa p a b = true
theorem LeO.refl (o : Nat) : LeO o o := fun _ _ _ _ h => h
theorem LeO.trans {o p q : Nat} (h : LeO o p) (g : LeO p q) : LeO o q := fun a b ha hb x => g a b ha hb (h a b ha hb x)
theorem le_with (o f s : Nat) : LeO o (lC o f s) := fun a b ha hb h => (kY ha hb).2 (.inl h)
theorem with_self {o f s : Nat} (hf : f < 8) (hs : s < 8) : fa (lC o f s) f s = true := (kY hf hs).2 (.inr ⟨.inl rfl, .inl rfl⟩)
theorem with_sub {o f s : Nat} {R : Nat → Nat → Prop} (hf : f < 8) (hs : s < 8) (hR : ∀ a b c, a < 8 → b < 8 → c < 8 → R a b → R b c → R a c) (h : ∀ a b, a < 8 → b < 8 → fa o a b = true → R a b) (hp : R f s) : ∀ a b, a < 8 → b < 8 → fa (lC o f s) a b = true → R a b := fun a b ha hb hab => by
 rcases (kY ha hb).1 hab with h1 | ⟨h1, h2⟩
 ·exact h a b ha hb h1
 ·have h3 : R a s := by
   rcases h1 with rfl | h1
   ·exact hp
   ·exact hR a f s ha hf hs (h a f ha hf h1) hp
  rcases h2 with rfl | h2
  ·exact h3
  ·exact hR a s b ha hs hb h3 (h s b hs hb h2)
def iZ (l : List (Nat × Nat)) : Nat := l.foldl (fun o p => lC o p.1 p.2) 0
theorem order_snoc (l : List (Nat × Nat)) (p : Nat × Nat) : iZ (l ++ [p]) = lC (iZ l) p.1 p.2 := by simp [iZ]
theorem snocI {α : Type} {p : List α → Prop} (h0 : p []) (hs : ∀ l a, p l → p (l ++ [a])) : ∀ l, p l := fun l => by
 have : ∀ n (l : List α), l.length = n → p l := by
  intro n
  induction n with
  | zero => intro l hl; rw [List.length_eq_zero_iff.1 hl]; exact h0
  | succ n ih =>
   intro l hl;have hne : l ≠ [] := by intro h; rw [h] at hl; cases hl
   rw [← List.dropLast_concat_getLast hne];exact hs _ _ (ih _ (by simp [hl]))
 exact this _ l Z
def In8 (l : List (Nat × Nat)) : Prop := ∀ p ∈ l, p.1 < 8 ∧ p.2 < 8
theorem order_ord : ∀ l, In8 l → Ord (iZ l) := fun l => snocI (p := fun l => In8 l → Ord (iZ l)) (fun _ => Ord.zero) (fun l a ih h => by
 rw [order_snoc];have := h a (by simp);exact (ih (fun p hp => h p (by simp [hp]))).with this.1 this.2) l
theorem order_has {l : List (Nat × Nat)} (h : In8 l) {p : Nat × Nat} (hp : p ∈ l) : fa (iZ l) p.1 p.2 = true := by
 revert h hp;refine snocI (p := fun l => In8 l → p ∈ l → fa (iZ l) p.1 p.2 = true) (fun _ h => by cases h) (fun l a ih h hp => ?_) l;rw [order_snoc];have h8 := h p hp;rcases List.mem_append.1 hp with hp | hp
 ·exact le_with _ _ _ _ _ h8.1 h8.2 (ih (fun q hq => h q (by simp [hq])) hp)
 ·obtain rfl := List.mem_singleton.1 hp;exact with_self h8.1 h8.2
theorem order_sub {l : List (Nat × Nat)} (h8 : In8 l) {R : Nat → Nat → Prop} (hR : ∀ a b c, a < 8 → b < 8 → c < 8 → R a b → R b c → R a c) (h : ∀ p ∈ l, R p.1 p.2) : ∀ a b, a < 8 → b < 8 → fa (iZ l) a b = true → R a b := by
 revert h8 h;refine snocI (p := fun l => In8 l → (∀ p ∈ l, R p.1 p.2) → ∀ a b, a < 8 → b < 8 → fa (iZ l) a b = true → R a b) (fun _ _ a b _ _ h => by simp [iZ, fa] at h) (fun l p ih h8 h => ?_) l;rw [order_snoc];have := h8 p (by simp);exact with_sub this.1 this.2 hR (ih (fun q hq => h8 q (by simp [hq])) (fun q hq => h q (by simp [hq]))) (h p (by simp))
theorem order_le {l m : List (Nat × Nat)} (h8 : In8 l) (h8m : In8 m) (h : ∀ p ∈ l, p ∈ m) : LeO (iZ l) (iZ m) := order_sub h8 (order_ord m h8m).tr (fun p hp => order_has h8m (h p hp))
def upN (o s n : Nat) : Nat := ((List.range n).filter (fun t => fa o t s)).length
def dnN (o s n : Nat) : Nat := ((List.range n).filter (fun t => fa o s t)).length
def freeO (o n s S : Nat) : Bool := !S.testBit s && (List.range n).all (fun t => !fa o t s || S.testBit t)
def sumN (f : Nat → Nat) : Nat → Nat
 | 0 => 0
 | n + 1 => sumN f n + f n
def cntF (o n : Nat) : Nat → Nat → Nat
 | 0, S => if S = 0 then 1 else 0
 | k + 1, S => if S = 0 then 1 else sumN (fun s => cond (S.testBit s && freeO o n s (S ^^^ 2 ^ s)) (cntF o n k (S ^^^ 2 ^ s)) 0) n
def cnt (o n S : Nat) : Nat := cntF o n S S
structure Und (o n x y : Nat) : Prop where
 ord : Ord o
 n8 : n ≤ 8
 hx : x < n
 hy : y < n
 ne : x ≠ y
 xy : fa o x y = false
 yx : fa o y x = false
theorem Und.swap {o n x y : Nat} (h : Und o n x y) : Und o n y x := ⟨h.ord, h.n8, h.hy, h.hx, h.ne.symm, h.yx, h.xy⟩
def NoC (o n : Nat) : Prop := ∀ s, s < n → fa o s s = false
theorem NoC.with {o n x y : Nat} (hc : NoC o n) (h : Und o n x y) : NoC (lC o x y) n := fun s hs => by
 have h8 := h.n8;cases hx : fa (lC o x y) s s with
 | false => rfl
 | true =>
  exfalso;have hx1 := h.hx;have hy1 := h.hy;rcases (kY J J).1 hx with hx | ⟨h1, h2⟩
  ·rw [hc s hs] at hx; cases hx
  ·have : fa o y x = true := by
    rcases h1 with rfl | h1 <;> rcases h2 with h2 | h2
    ·exact absurd h2 h.ne
    ·exact h2
    ·subst h2; exact h1
    ·exact h.ord.tr y s x J J J h2 h1
   rw [h.yx] at this; cases this
def knownO (o n k : Nat) : Bool := (List.range k).all fun place => (List.range n).any fun s => upN o s n == place && dnN o s n + 1 + place == n
def pairsN (n : Nat) : List (Nat × Nat) := (List.range n).flatMap fun a => (List.range a).map fun b => (a, b)
theorem pairs_iff {n a b : Nat} : (a, b) ∈ pairsN n ↔ a < n ∧ b < a := by
 unfold pairsN;simp [List.mem_flatMap]
def undO (o : Nat) (p : Nat × Nat) : Bool := !(fa o p.1 p.2 || fa o p.2 p.1)
theorem und_iff {o : Nat} {p : Nat × Nat} : undO o p = true ↔ fa o p.1 p.2 = false ∧ fa o p.2 p.1 = false := by
 unfold undO;simp
def undN (o n : Nat) : Nat := ((pairsN n).filter (undO o)).length
theorem Und.of {o n : Nat} (ho : Ord o) (hn : n ≤ 8) {p : Nat × Nat} (hp : p ∈ pairsN n) (hu : undO o p = true) : Und o n p.1 p.2 := by
 obtain ⟨a, b⟩ := p;have h1 := pairs_iff.1 hp;have h2 := und_iff.1 hu;exact ⟨ho, hn, h1.1, by simp only; omega, by simp only; omega, h2.1, h2.2⟩
def planF (n k : Nat) : Nat → Nat → Nat
 | 0, _ => 0
 | m + 1, o => if knownO o n k then 0 else (pairsN n).foldl (fun best p => cond (undO o p) (min best (1 + max (planF n k m (lC o p.1 p.2)) (planF n k m (lC o p.2 p.1)))) best) (n * n)
def planO (n k o : Nat) : Nat := planF n k (undN o n + 1) o
def worthO (n k o a b : Nat) : Nat := 1 + max (planO n k (lC o a b)) (planO n k (lC o b a))
structure Rn where
 a : Int
 b : Int
 lead : Int
structure Lb where
 skis : Int
 err : Int
 runs : List Rn
def runV (e : Int) (r : Rn) : Option (Nat × Nat) := if e < r.lead then some (r.a.toNat, r.b.toNat) else if r.lead < -e then some (r.b.toNat, r.a.toNat) else none
def Lb.pairs (l : Lb) : List (Nat × Nat) := l.runs.filterMap (runV l.err)
def Lb.ord (l : Lb) : Nat := iZ l.pairs
def Lb.n (l : Lb) : Nat := l.skis.toNat
def inB (n lo hi : Int) : Bool := decide (lo ≤ n) && decide (n ≤ hi)
theorem bV {n lo hi : Int} : inB n lo hi = true ↔ lo ≤ n ∧ n ≤ hi := by simp [inB]
def knownB (l : Lb) : Bool := l.runs.all fun r => inB r.a 0 (l.skis - 1) && (inB r.b 0 (l.skis - 1) && (!decide (r.a = r.b)))
def leadB (l : Lb) : Bool := l.runs.all fun r => inB r.lead (-10000) 10000
def checkV (l : Lb) : Int := if (inB l.skis 1 8 && inB l.err 0 1000) = false then 3 else if 40 < l.runs.length then 2 else if knownB l = false then 1 else if leadB l = false then 3 else 0
structure Rn.Ok (s : Int) (r : Rn) : Prop where
 a0 : 0 ≤ r.a
 a1 : r.a < s
 b0 : 0 ≤ r.b
 b1 : r.b < s
 ne : r.a ≠ r.b
 l0 : -10000 ≤ r.lead
 l1 : r.lead ≤ 10000
structure Lb.Ok (l : Lb) : Prop where
 s0 : 1 ≤ l.skis
 s1 : l.skis ≤ 8
 e0 : 0 ≤ l.err
 e1 : l.err ≤ 1000
 len : l.runs.length ≤ 40
 run : ∀ r ∈ l.runs, r.Ok l.skis
theorem runV_in {e s : Int} {r : Rn} (h : r.Ok s) (hs : s ≤ 8) {p : Nat × Nat} (hp : runV e r = some p) : p.1 < s.toNat ∧ p.2 < s.toNat ∧ p.1 ≠ p.2 := by
 have h1 := h.a0;have h2 := h.a1;have h3 := h.b0;have h4 := h.b1;have h5 := h.ne;unfold runV at hp;split at hp
 ·cases hp; simp only; omega
 ·split at hp
  ·cases hp; simp only; omega
  ·cases hp
theorem Lb.Ok.n8 {l : Lb} (h : l.Ok) : l.n ≤ 8 := by have := h.s0; have := h.s1; unfold Lb.n; omega
theorem Lb.Ok.in {l : Lb} (h : l.Ok) : ∀ p ∈ l.pairs, p.1 < l.n ∧ p.2 < l.n ∧ p.1 ≠ p.2 := fun p hp => by
 obtain ⟨r, hr, h1⟩ := List.mem_filterMap.1 hp;exact runV_in (h.run r hr) h.s1 h1
theorem Lb.Ok.in8 {l : Lb} (h : l.Ok) : In8 l.pairs := fun p hp => by
 have h1 := h.in p hp;have h2 := h.n8;exact ⟨by omega, by omega⟩
theorem Lb.Ok.o {l : Lb} (h : l.Ok) : Ord l.ord := order_ord _ h.in8
def conflB (o n : Nat) : Bool := (List.range n).any (fun s => fa o s s) && true
def agreedV (l : Lb) : Int := if checkV l ≠ 0 then checkV l else if conflB l.ord l.n = true then 7 else 0
structure Rn.True (e : Int) (real : List Int) (r : Rn) : Prop where
 lo : real.getD r.a.toNat 0 - real.getD r.b.toNat 0 - e ≤ r.lead
 hi : r.lead ≤ real.getD r.a.toNat 0 - real.getD r.b.toNat 0 + e
def Lb.True (l : Lb) (real : List Int) : Prop := ∀ r ∈ l.runs, r.True l.err real
def Lb.add (l : Lb) (r : Rn) : Lb := ⟨l.skis, l.err, l.runs ++ [r]⟩
theorem add_pairs (l : Lb) (r : Rn) : (l.add r).pairs = l.pairs ++ (runV l.err r).toList := by
 unfold Lb.pairs Lb.add;simp only [List.filterMap_append];cases h : runV l.err r <;> simp [h]
theorem Lb.Ok.add {l : Lb} (h : l.Ok) (hn : l.runs.length < 40) {r : Rn} (hr : r.Ok l.skis) : (l.add r).Ok :=
 ⟨h.s0, h.s1, h.e0, h.e1, by simp [Lb.add]; omega, fun q hq => by
  rcases List.mem_append.1 hq with hq | hq
  ·exact h.run q hq
  ·obtain rfl := List.mem_singleton.1 hq; exact hr⟩
def Lb.loose (l : Lb) (d : Int) : Lb := ⟨l.skis, l.err + d, l.runs⟩
def revO (o : Nat) : Nat := mkB (fun c => o.testBit (8 * (c % 8) + c / 8)) 64
def lenB (n : Int) (row : List Int) (k : Int) : Bool := inB row.length 1 20 && decide ((row.length : Int) = k) && true
def tableV (l : List (List Int)) : Int := if (inB l.length 1 12 && l.all (fun row => inB row.length 1 20 && (decide (row.length = (l.headD []).length) && true))) = false then 2 else if l.all (fun row => row.all fun n => inB n 0 10000) = false then 3 else 0
structure TabOk (l : List (List Int)) (n : Nat) : Prop where
 l1 : 1 ≤ l.length
 l2 : l.length ≤ 12
 n1 : 1 ≤ n
 n2 : n ≤ 20
 len : ∀ row ∈ l, row.length = n
 num : ∀ row ∈ l, ∀ x ∈ row, 0 ≤ x ∧ x ≤ 10000
theorem table_iff {l : List (List Int)} : tableV l = 0 ↔ TabOk l (l.headD []).length := by
 unfold tableV;constructor
 ·intro h;split at h
  ·cases h
  split at h
  ·cases h
  rename_i h1 h2
  simp only [Bool.not_eq_false, Bool.and_eq_true, bV, List.all_eq_true, Bool.and_true, decide_eq_true_eq] at h1 h2;obtain ⟨⟨a, b⟩, c⟩ := h1;cases l with
  | nil => simp at a
  | cons r l =>
   have hr := c r List.mem_cons_self;exact ⟨by omega, by omega, by simp only [List.headD_cons]; omega, by simp only [List.headD_cons]; omega, fun row hrow => (c row hrow).2, fun row hrow x hx => h2 row hrow x hx⟩
 ·intro h;rw [if_neg, if_neg]
  ·simp only [Bool.not_eq_false, List.all_eq_true];exact fun row hr x hx => bV.2 (h.num row hr x hx)
  ·simp only [Bool.not_eq_false, Bool.and_eq_true, bV, List.all_eq_true, Bool.and_true, decide_eq_true_eq];refine ⟨⟨by have := h.l1; omega, by have := h.l2; omega⟩, fun row hr => ?_⟩;have h1 := h.len row hr;have h2 := h.n1;have h3 := h.n2;exact ⟨⟨by omega, by omega⟩, h1⟩
def gt (l : List (List Int)) (i s : Nat) : Int := (l.getD i []).getD s 0
def minF (a : Int) (l : List Int) : Int := l.foldl min a
def maxF (a : Int) (l : List Int) : Int := l.foldl max a
theorem min_mem (a : Int) : ∀ l : List Int, minF a l = a ∨ minF a l ∈ l := by
 intro l
 induction l generalizing a with
 | nil => exact .inl rfl
 | cons b l ih =>
  have := ih (min a b);unfold minF at this ⊢;rw [List.foldl_cons];rcases this with h | h
  ·rw [h];by_cases hab : a ≤ b
   ·exact .inl J
   ·exact .inr (by rw [show min a b = b from by omega]; exact List.mem_cons_self)
  ·exact .inr (List.mem_cons_of_mem _ h)
def lowV (l : List (List Int)) (s : Nat) : Int := minF (gt l 0 s) (l.map fun row => row.getD s 0)
def regRow (l : List (List Int)) (n : Nat) (row : List Int) : List Int := (List.range n).map fun s => row.getD s 0 - lowV l s
def regV (l : List (List Int)) (n : Nat) : List (List Int) := l.map (regRow l n)
theorem low_mem {l : List (List Int)} (h : l ≠ []) (s : Nat) : ∃ row ∈ l, lowV l s = row.getD s 0 := by
 rcases min_mem (gt l 0 s) (l.map fun row => row.getD s 0) with h1 | h1
 ·cases l with
  | nil => exact absurd rfl h
  | cons r l => exact ⟨r, List.mem_cons_self, h1⟩
 ·obtain ⟨row, hr, h2⟩ := List.mem_map.1 h1;exact ⟨row, hr, h2.symm⟩
def spanL (row : List Int) (a b : Nat) : List Int := (row.drop a).take (b + 1 - a)
def topR (row : List Int) (a b : Nat) : Int := match spanL row a b with
 | [] => 0
 | x :: l => maxF x l
def waxF (rs : List (List Int)) (a b : Nat) : Nat → Int × Int
 | 0 => (0, 10001)
 | i + 1 => let p := waxF rs a b i; let x := topR (rs.getD i []) a b; if x < p.2 then ((i : Int), x) else p
structure BestW (rs : List (List Int)) (a b m : Nat) (p : Int × Int) : Prop where
 w0 : 0 ≤ p.1
 le : ∀ i, i < m → p.2 ≤ topR (rs.getD i []) a b
 lt : ∀ i, i < m → (i : Int) < p.1 → p.2 < topR (rs.getD i []) a b
 at_ : 0 < m → p.1 < m ∧ topR (rs.getD p.1.toNat []) a b = p.2
theorem getD_mem {l : List Int} {i : Nat} (h : i < l.length) : l.getD i 0 ∈ l := by
 rw [List.getD_eq_getElem?_getD, List.getElem?_eq_getElem h];exact List.getElem_mem h
def worseV (l : List (List Int)) (s : Nat) (d : Int) : List (List Int) := l.map fun row => row.set s (row.getD s 0 + d)
def twoV (l : Lb) (a b : Int) : Int := if checkV l ≠ 0 then checkV l else if (inB a 0 (l.skis - 1) && inB b 0 (l.skis - 1)) = false then 1 else 0
def leadV (l : Lb) : Int → List Int → Option Int
 | a, [] => some a
 | a, i :: c => match runV l.err (l.runs.getD i.toNat ⟨0, 0, 0⟩) with
  | none => none
  | some p => if (p.1 : Int) = a then leadV l p.2 c else none
def chainV (l : Lb) (a b : Int) (c : List Int) : Bool × Int :=
 if twoV l a b ≠ 0 then (false, twoV l a b) else if c.all (fun i => inB i 0 (l.runs.length - 1)) = false then (false, 1) else (match leadV l a c with | none => false | some x => decide (x = b) && (!c.isEmpty && true), 0)
def goodN (row : List Int) (most : Int) (a : Nat) : Nat := ((row.drop a).takeWhile fun x => decide (x ≤ most)).length
def zoneF (rs : List (List Int)) (most : Int) (a : Nat) : Nat → Int × Int
 | 0 => (-1, 0)
 | i + 1 => let p := zoneF rs most a i; let x : Int := a - 1 + goodN (rs.getD i []) most a; if p.1 < x then (x, (i : Int)) else p
def zonesF (rs : List (List Int)) (most : Int) (n : Nat) : Nat → Nat → List (Int × Int × Int)
 | 0, _ => []
 | f + 1, a => if a < n then let p := zoneF rs most a rs.length; ((a : Int), p.1, p.2) :: zonesF rs most n f (p.1 + 1).toNat else []
def limitV (l : List (List Int)) (most : Int) : Int := if tableV l ≠ 0 then tableV l else if inB most 0 10000 = false then 3 else 0
def nV (l : List (List Int)) : Nat := (l.headD []).length
def zonesV (l : List (List Int)) (most : Int) : List (Int × Int × Int) × Int := if limitV l most ≠ 0 then ([], limitV l most) else (zonesF (regV l (nV l)) most (nV l) (nV l + 1) 0, 0)
def allG (row : List Int) (most : Int) (a b : Nat) : Bool := (spanL row a b).all fun x => decide (x ≤ most)
def brkF (rs : List (List Int)) (most : Int) : List Int → Bool
 | a :: b :: l => if b ≤ a then false else if rs.any (fun row => allG row most a.toNat b.toNat) then false else brkF rs most (b :: l)
 | _ => true
def breaksV (l : List (List Int)) (most : Int) (br : List Int) : Bool × Int :=
 if limitV l most ≠ 0 then (false, limitV l most) else if br.all (fun s => inB s 0 ((nV l : Int) - 1)) = false then (false, 1) else (if brkF (regV l (nV l)) most br = true then !br.isEmpty && true else false, 0)
def placedV (l : Lb) (k : Int) : Int := if checkV l ≠ 0 then checkV l else if inB k 1 l.skis = false then 3 else 0
def plannedV (l : Lb) (k : Int) : Int := if placedV l k ≠ 0 then placedV l k else if 5 < l.skis then 10 else agreedV l
def fewestV (l : Lb) (k : Int) : Int × Int := if plannedV l k ≠ 0 then (0, plannedV l k) else ((planO l.n k.toNat l.ord : Nat), 0)
def placesV (l : Lb) : List (Int × Int) := (List.range l.n).map fun s => ((1 + upN l.ord s l.n : Nat), l.skis - dnN l.ord s l.n)
def fourL : Lb := ⟨4, 5, [⟨0, 1, 8⟩, ⟨1, 2, 3⟩, ⟨2, 1, -9⟩, ⟨3, 0, -6⟩]⟩
def threeT : List (List Int) := [[5, 4, 9, 9], [6, 2, 3, 8], [9, 9, 2, 1]]
end Go.Proofs.YtopdmadgkjdgcaaGreat
namespace Go.Eng
set_option maxRecDepth 4000
open Go Go.RowKit
section
variable {P : Program} {T : Tab}
variable {ro : Cx} {n n' : Nat} {F : Fin} {w0 : World} {M : Nat → Prop} {k : List It} {ops : Array Oper} {rest : List Oper} {e : Env} {H Hq : List Ck}
theorem kR {d t et m : Nat} {x y : Operand} {ty : TypeId} {pos : String} {af : Array Edge} (hS : SlT P t et 1 8 (.int .i64 0)) (hx : opv e x = some (.int .i64 m)) (hy : opv e y = some (.int .i64 m)) (hd : Nat.blt d n = true) (hm : m ≤ 1000000)
  (h : ∀ b, QL P ro n F w0 M k ops rest ((d, aB9 b m m) :: e) (.pt b (aX (List.replicate m 0)) et :: H)) :
  QL P ro n F w0 M k ops (⟨some d, .makeSlice t x y, ty, pos, af, none⟩ :: rest) e H := .mk fun w hs => by
 obtain ⟨ht, hi', hzs, hsz⟩ := hS;cases hinf : P.info? et with
 | none => simp [hinf] at hi'
 | some i =>
  simp [hinf] at hi';obtain ⟨hz, hsize, hby⟩ := hi';have hr := run_makeSlice (P := P) w t et i _ ht hinf hz .i64 .i64 m m J (Int.le_refl _) (by rw [hsize]; simp; omega) (by rw [hby]; omega) J
  have hcells : (madeCells (Value.int .i64 0).cells ((m : Int).toNat * i.size)) = (aX (List.replicate m 0)).toArray := by
   apply Array.ext';rw [hsize, show (Value.int .i64 0).cells = #[Value.int .i64 0] from rfl, toList_madeCells_one];simp
  rw [hcells] at hr;refine eV (w' := w.alloc (.cells (aX (List.replicate m 0)).toArray et)) (by simp) hd (fun ac hf => ?_) ((h w.heap.size).h _ (hs.addPt (eA _ _) (by simp) (fX w _ _)));simp only [execOp, hf.op hx, hf.op hy];simp [hr]
end
section
variable {P : Program} {T : Tab}
variable {ro : Cx} {n n' : Nat} {F : Fin} {w0 : World} {M : Nat → Prop} {k : List It} {ops : Array Oper} {rest : List Oper} {e : Env} {H H' Hq L R : List Ck}
theorem dG (hc : ∀ w, Sat w0 M H w → Sat w0 M H' w) (h : Q P ro n F w0 M k e H') : Q P ro n F w0 M k e H := .mk fun w hs => h.h w (hc w hs)
theorem ql_conv (hc : ∀ w, Sat w0 M H w → Sat w0 M H' w) (h : QL P ro n F w0 M k ops rest e H') : QL P ro n F w0 M k ops rest e H := .mk fun w hs => h.h w (hc w hs)
theorem q_fact {p : Prop} (hp : ∀ w, Sat w0 M H w → p) (h : p → Q P ro n F w0 M k e H) : Q P ro n F w0 M k e H := .mk fun w hs => (h (hp w hs)).h w hs
theorem cU {p : Prop} (hp : ∀ w, Sat w0 M H w → p) (h : p → QL P ro n F w0 M k ops rest e H) : QL P ro n F w0 M k ops rest e H := .mk fun w hs => (h (hp w hs)).h w hs
theorem Sat.own_one {w : World} {v : Value} {t sz m : Nat} {xs : List Value} (h : Sat w0 M H w) (hm : Ck.ow v t sz m xs ∈ H) : dJ v = true := by
 have hp : w.ownsRow 0 t sz v m xs := h.all _ hm;rcases hp.2 with ⟨rfl, _⟩ | ⟨g, cap, cur, rfl, _⟩ <;> rfl
theorem Blk.rd {w : World} {b m : Nat} {cs : List Value} {t : TypeId} (h : Blk w b cs t) (hl : cs.length = m) (c : Nat) : Rd w b (b + 1) (aB9 b m c) 1 m cs :=
 ⟨by omega, .inr ⟨b, 0, c, rfl, fun _ => ⟨Nat.le_refl _, Nat.lt_succ_self _, h.lt⟩, fun j _ => by rw [Blk.cell h]; simp⟩⟩
theorem kZ : ∀ (es : List Value), (∀ e ∈ es, dJ e = true) → cellsOf es = es
 | [], _ => rfl
 | e :: es, h => by
  have h1 := kZ es (fun x hx => h x (List.mem_cons_of_mem _ hx));have h2 := h e List.mem_cons_self;have h3 : e.cells.toList = [e] := by cases e <;> first | rfl | simp [dJ] at h2
  simp only [cellsOf, List.flatMap_cons] at h1 ⊢;rw [h1, h3]
  rfl
theorem RdE.one {w : World} {lo hi : Nat} {v : Value} {es : List Value} (h : Rd w lo hi v 1 es.length es) (h1 : ∀ e ∈ es, dJ e = true) : RdE w lo hi v 1 es :=
 ⟨by rw [kZ es h1]; exact h, fun e he => by have := h1 e he; cases e <;> first | rfl | simp [dJ] at this⟩
theorem Sat.ownil {w : World} (h : Sat w0 M H w) (t sz : Nat) : Sat w0 M (.ow (.slice none 0 0) t sz 0 [] :: H) w :=
 h.add (Chg.refl _ _) (own_nil _ _ _ _) (fun b hb => by simp [Ck.D, Value.ownBlock] at hb)
theorem Sat.pt_ow {w : World} {b : Nat} {cs : List Value} {t sz m : Nat} (hl : cs.length = m * sz) (hm : m ≤ 1000000) (h : Sat w0 M (.pt b cs t :: R) w) : Sat w0 M (.ow (aB9 b m m) t sz m cs :: R) w := by
 have hb : Blk w b cs t := h.blk List.mem_cons_self;refine h.rep .z (Chg.refl [] w) (by simp) ⟨hl, .inr ⟨b, m, cs.toArray, Z, Nat.zero_le _, hb, Nat.le_refl _, by simp only [maxLen]; omega, by simpa using hl, ?_⟩⟩ (fun x hx => ?_)
 ·rw [← hl]; simp
 ·have hx' : x = b := by simpa [Ck.D, Value.ownBlock, eq_comm] using hx
  subst hx';exact ⟨.inl rfl, hb.lt⟩
theorem Sat.un_perm {w : World} {L L' : List Ck} (hp : L.Perm L') (h : Sat w0 M (un L :: R) w) : Sat w0 M (un L' :: R) w :=
 Sat.un_iff.2 ((Sat.un_iff.1 h).perm (hp.append_right R))
theorem Sat.un_in {w : World} {c : Ck} (h : Sat w0 M (c :: un L :: R) w) : Sat w0 M (un (c :: L) :: R) w := by
 have h1 : Sat w0 M (un L :: c :: R) w := h.perm (.swap _ _ _);refine Sat.un_iff.2 ((Sat.un_iff.1 h1).perm ?_);exact List.perm_middle
theorem Sat.un_nil {w : World} (h : Sat w0 M R w) : Sat w0 M (un [] :: R) w := Sat.un_iff.2 h
end
section
variable {P : Program} {T : Tab}
def flatF (P : Program) : Nat → List Field → List (Option IntKind) → Bool
 | _, [], [] => true
 | o, f :: fs, k :: ks => !(f.name == "_") && Nat.beq f.offset o && oneB P f.type && (match P.underlying f.type, k with | some (.int q), some q' => kindEq q q' | some .bool, none => true | _, _ => false) && flatF P (o + 1) fs ks
 | _, _, _ => false
def nQ (P : Program) (t : Nat) (ks : List (Option IntKind)) : Bool :=
 !(P.stoodInHeld t) && !(P.eqGuardType P.depth t) && (match P.underlying t with | some (.struct fs) => flatF P 0 fs.toList ks | _ => false)
def gE : List (Option IntKind) → List Value → Bool
 | [], [] => true
 | some k :: ks, .int k' _ :: vs => kindEq k k' && gE ks vs
 | none :: ks, .bool _ :: vs => gE ks vs
 | _, _ => false
def eqL : List Value → List Value → Bool
 | .int _ a :: l, .int _ b :: m => decide (a = b) && eqL l m
 | .bool a :: l, .bool b :: m => (a == b) && eqL l m
 | _, _ => true
theorem kK : ∀ l : List Value, eqL l l = true
 | [] => rfl
 | v :: l => by
  cases v <;> simp [eqL, kK l]
theorem eqL_eq : ∀ (ks : List (Option IntKind)) (l m : List Value), gE ks l = true → gE ks m = true → eqL l m = true → l = m
 | [], [], [], _, _, _ => rfl
 | [], [], _ :: _, _, h, _ => by simp [gE] at h
 | [], _ :: _, _, h, _, _ => by simp [gE] at h
 | k :: ks, [], _, h, _, _ => by cases k <;> simp [gE] at h
 | k :: ks, _ :: _, [], _, h, _ => by cases k <;> simp [gE] at h
 | some k :: ks, v :: l, u :: m, h1, h2, h3 => by
  cases v <;> simp [gE] at h1
  cases u <;> simp [gE] at h2
  simp [eqL] at h3;have e1 := oZ h1.1;have e2 := oZ h2.1;rw [h3.1, ← e1, ← e2, eqL_eq ks l m h1.2 h2.2 h3.2]
 | none :: ks, v :: l, u :: m, h1, h2, h3 => by
  cases v <;> simp [gE] at h1
  cases u <;> simp [gE] at h2
  simp [eqL] at h3;rw [h3.1, eqL_eq ks l m h1 h2 h3.2]
theorem oneB_agg {t : Nat} (h : oneB P t = true) (w : World) : (isAgg t).run P w = .ok false w := by
 simp only [oneB, Bool.and_eq_true] at h;obtain ⟨ha, _⟩ := h;split at ha <;> first | (cases ha; done) | (rename_i d hd1 hd2 hu; cases d <;> first | exact absurd rfl (hd1 _) | exact absurd rfl (hd2 _ _) | simp [isAgg, run_underlying hu])
theorem kE {t : Nat} (h : oneB P t = true) {xs : Array Value} {o : Nat} {v : Value} (hv : xs[o]? = some v) (w : World) : (part t xs o).run P w = .ok v w := by
 simp [part, oneB_agg h w, hv]
theorem gQ {k : Option IntKind} {ks : List (Option IntKind)} {l : List Value} (h : gE (k :: ks) l = true) : ∃ v m, l = v :: m ∧ gE ks m = true ∧ ((∃ q a, k = some q ∧ v = .int q a) ∨ (∃ b, k = none ∧ v = .bool b)) := by
 cases l with
 | nil => cases k <;> simp [gE] at h
 | cons v m =>
  cases k with
  | none =>
   cases v <;> simp [gE] at h
   exact ⟨_, _, Z, h, .inr ⟨_, Z, Z⟩⟩
  | some q =>
   cases v <;> simp [gE] at h
   have := oZ h.1;subst this;exact ⟨_, _, Z, h.2, .inl ⟨_, _, Z, Z⟩⟩
theorem pS (d : Nat) (w : World) : ∀ (fs : List Field) (ks : List (Option IntKind)) (o : Nat) (xs ys : List Value) (l m : List Value), flatF P o fs ks = true → gE ks l = true → gE ks m = true → xs.drop o = l → ys.drop o = m →
  (Op.eqFields (d + 1) xs.toArray ys.toArray fs).run P w = .ok (eqL l m) w
 | [], [], o, xs, ys, l, m, _, hl, hm, _, _ => by
  cases l <;> simp [gE] at hl
  cases m <;> simp [gE] at hm
  rfl
 | [], _ :: _, _, _, _, _, _, h, _, _, _, _ => by simp [flatF] at h
 | _ :: _, [], _, _, _, _, _, h, _, _, _, _ => by simp [flatF] at h
 | f :: fs, k :: ks, o, xs, ys, l, m, h, hl, hm, ex, ey => by
  simp only [flatF, Bool.and_eq_true] at h;obtain ⟨⟨⟨⟨hn, ho⟩, h1⟩, hk⟩, hr⟩ := h;have ho := Nat.eq_of_beq_eq_true ho;have hn : f.name ≠ "_" := by simpa using hn
  obtain ⟨v, l', rfl, hl', hv⟩ := gQ hl;obtain ⟨u, m', rfl, hm', hu⟩ := gQ hm
  have gx : xs.toArray[f.offset]? = some v := by
   rw [ho];have := congrArg (fun z => z[0]?) ex;simpa using this
  have gy : ys.toArray[f.offset]? = some u := by
   rw [ho];have := congrArg (fun z => z[0]?) ey;simpa using this
  have dx : xs.drop (o + 1) = l' := by rw [← List.drop_drop, ex]; rfl
  have dy : ys.drop (o + 1) = m' := by rw [← List.drop_drop, ey]; rfl
  have ih := pS d w fs ks (o + 1) xs ys l' m' hr hl' hm' dx dy
  have key : ∀ c : Bool, (Op.equalIn (d + 1) f.type v u).run P w = .ok c w → (Op.eqFields (d + 1) xs.toArray ys.toArray (f :: fs)).run P w = .ok (c && eqL l' m') w := by
   intro c hc;simp only [Op.eqFields, if_pos hn, Sem.run_bind, kE h1 gx, kE h1 gy, Result.andThen_ok, hc];cases c
   ·simp
   ·simpa using ih
  rcases hv with ⟨q, a, rfl, rfl⟩ | ⟨a, rfl, rfl⟩
  ·rcases hu with ⟨q', b, hq, rfl⟩ | ⟨b, hq, _⟩
   ·cases hq
    split at hk
    ·rename_i q1 q2 hun hq2
     exact (key (a == b) (run_equalIn_int w d f.type q q1 a b hun)).trans (by congr 1)
    ·rename_i hq2; cases hq2
    ·cases hk
   ·cases hq
  ·rcases hu with ⟨q', b, hq, _⟩ | ⟨b, _, rfl⟩
   ·cases hq
   ·split at hk
    ·rename_i hq2; cases hq2
    ·rename_i hun _
     exact key (a == b) (run_equalIn_bool' w d f.type a b hun)
    ·cases hk
theorem nL {t : Nat} {ks : List (Option IntKind)} (h : nQ P t ks = true) : P.stoodInHeld t = false ∧ P.eqGuardType P.depth t = false ∧ P.underlying t = some (.struct (P.fieldsOf t)) ∧ flatF P 0 (P.fieldsOf t).toList ks = true := by
 simp only [nQ, Bool.and_eq_true, Bool.not_eq_true'] at h;obtain ⟨⟨h1, h2⟩, h3⟩ := h;split at h3
 ·rename_i fs hu
  refine ⟨h1, h2, ?_, ?_⟩
  ·simp [Program.fieldsOf, hu]
  ·simpa [Program.fieldsOf, hu] using h3
 ·cases h3
theorem run_eqFlat {t : Nat} {ks : List (Option IntKind)} (h : nQ P t ks = true) {xs ys : List Value} (hx : gE ks xs = true) (hy : gE ks ys = true) (d : Nat) (w : World) : (Op.equalIn (d + 2) t (.agg xs.toArray) (.agg ys.toArray)).run P w = .ok (eqL xs ys) w := by
 obtain ⟨h1, h2, h3, h4⟩ := nL h;rw [run_equalIn_agg w (d + 1) t _ _ h3 h1];exact pS d w _ ks 0 xs ys xs ys h4 hx hy Z Z
variable {ro : Cx} {n : Nat} {F : Fin} {w0 : World} {M : Nat → Prop} {k : List It} {ops : Array Oper} {rest : List Oper} {e : Env} {H Hq : List Ck}
theorem oD {a : Act} {d t t' : Nat} {x y : Operand} {xs ys : List Value} {ks : List (Option IntKind)} {ty : TypeId} {pos : String} {af : Array Edge} (hf : Fits n e a) (hx : opv e x = some (.agg xs.toArray)) (hy : opv e y = some (.agg ys.toArray)) (hF : nQ P t ks = true) (h1 : gE ks xs = true) (h2 : gE ks ys = true) (w : World) :
  (execOp a.eval ⟨some d, .binOp .eql t x y t', ty, pos, af, none⟩).run P w = .ok (.value (.bool (eqL xs ys))) w ∧ (execOp a.eval ⟨some d, .binOp .neq t x y t', ty, pos, af, none⟩).run P w = .ok (.value (.bool (!(eqL xs ys)))) w := by
 have e1 := hf.op hx;have e2 := hf.op hy;have h3 := run_eqFlat hF h1 h2 9998 w;have hg := (nL hF).2.1;constructor <;> simp [execOp, e1, e2, run_eqGuard_agg, hg, run_eql_struct, run_neq_struct, h3]
theorem ql_eqF (ks : List (Option IntKind)) {d t t' : Nat} {x y : Operand} {xs ys : List Value} {ty : TypeId} {pos : String} {af : Array Edge} (hF : nQ P t ks = true) (hx : opv e x = some (.agg xs.toArray)) (hy : opv e y = some (.agg ys.toArray)) (h1 : gE ks xs = true) (h2 : gE ks ys = true) (hd : Nat.blt d n = true)
  (h : QL P ro n F w0 M k ops rest ((d, .bool (eqL xs ys)) :: e) H) : QL P ro n F w0 M k ops (⟨some d, .binOp .eql t x y t', ty, pos, af, none⟩ :: rest) e H := .mk fun w hw =>
 eV (by simp) hd (fun _ hf => (oD hf hx hy hF h1 h2 w).1) (h.h w hw)
theorem ql_neF (ks : List (Option IntKind)) {d t t' : Nat} {x y : Operand} {xs ys : List Value} {ty : TypeId} {pos : String} {af : Array Edge} (hF : nQ P t ks = true) (hx : opv e x = some (.agg xs.toArray)) (hy : opv e y = some (.agg ys.toArray)) (h1 : gE ks xs = true) (h2 : gE ks ys = true) (hd : Nat.blt d n = true)
  (h : QL P ro n F w0 M k ops rest ((d, .bool (!(eqL xs ys))) :: e) H) : QL P ro n F w0 M k ops (⟨some d, .binOp .neq t x y t', ty, pos, af, none⟩ :: rest) e H := .mk fun w hw =>
 eV (by simp) hd (fun _ hf => (oD hf hx hy hF h1 h2 w).2) (h.h w hw)
theorem qf_neF (ks : List (Option IntKind)) {d t t' : Nat} {x y : Operand} {xs ys : List Value} {ty : TypeId} {pos : String} {af : Array Edge} (hF : nQ P t ks = true) (hx : opv e x = some (.agg xs.toArray)) (hy : opv e y = some (.agg ys.toArray)) (h1 : gE ks xs = true) (h2 : gE ks ys = true) (hd : Nat.blt d n = true)
  (h : QF P ro n F w0 M k ops Hq rest ((d, .bool (!(eqL xs ys))) :: e) H) : QF P ro n F w0 M k ops Hq (⟨some d, .binOp .neq t x y t', ty, pos, af, none⟩ :: rest) e H := .mk fun w hw =>
 gM rfl hd (fun _ hf w' _ => (oD hf hx hy hF h1 h2 w').2) (h.h w hw)
structure KeyT (P : Program) (kt : TypeId) (K : Value → Prop) (q : Value → Value → Bool) : Prop where
 chk : ∀ empty k w, K k → (Instr.checkKey empty 10000 kt k).run P w = .ok () w
 find : ∀ k es w, K k → (∀ x ∈ es, K x.key) → (Instr.findKey kt k es).run P w = .ok ((es.zipIdx.find? (fun p => q k p.1.key)).map (fun p => (p.2, p.1.val))) w
 eq : ∀ a b, K a → K b → q a b = true → a = b
 refl : ∀ a, K a → q a a = true
 bits : ∀ a, K a → Instr.sameBits 10000 a a = true
def MapAt (w : World) (b : Nat) (K : Value → Prop) (q : Value → Value → Bool) (f : Value → Option Value) : Prop :=
 ∃ es clock, w.heap[b]? = some (.map es clock) ∧ (∀ x ∈ es.toList, K x.key) ∧ ∀ k, K k → (es.toList.find? (fun x => q k x.key)).map (·.val) = f k
def mpP (K : Value → Prop) (q : Value → Value → Bool) (b : Nat) (f : Value → Option Value) : Ck := .gn (· = b) (fun w => MapAt w b K q f)
 (fun _ _ _ ⟨es, clock, h1, h2⟩ hc hn => ⟨es, clock, (hc.block b (Array.getElem?_eq_some_iff.1 h1).1 (hn b rfl)).trans h1, h2⟩)
theorem oA {α : Type} (p : α → Bool) : ∀ (l : List α) (i : Nat), (l.zipIdx i).find? (fun x => p x.1) = ((l.findIdx? p).bind fun j => (l[j]?).map fun a => (a, i + j))
 | [], i => by simp
 | a :: l, i => by
  rw [List.zipIdx_cons, List.find?_cons, List.findIdx?_cons];cases h : p a
  ·rw [oA p l (i + 1)];simp only [Option.bind_map];cases List.findIdx? p l with
   | none => simp
   | some j =>
    simp;cases l[j]? with
    | none => simp
    | some b => simp; omega
  ·simp
variable {K : Value → Prop} {q : Value → Value → Bool} {kt et mt : TypeId}
theorem run_mapLook {w : World} {b : Nat} {f : Value → Option Value} (hK : KeyT P kt K q) (ht : P.underlying mt = some (.map kt et)) {z : Value} (hz : (zeroValue et).run P w = .ok z w) (hm : MapAt w b K q f) {key : Value} (hk : K key) (ok : Bool) :
  (Instr.lookup mt (.map (some b)) key ok).run P w = .ok (if ok then .tuple #[(f key).getD z, .bool (f key).isSome] else (f key).getD z) w := by
 obtain ⟨es, clock, hb, hes, hf⟩ := hm;have h1 := hK.find key es.toList w hk hes;have h2 := hf key hk
 have h3 : ((es.toList.zipIdx.find? (fun p => q key p.1.key)).map (fun p => (p.2, p.1.val))).map (·.2) = f key := by
  rw [← h2, oA (fun x : MapEntry => q key x.key), Option.map_map];rw [List.find?_eq_bind_findIdx?_getElem?];cases List.findIdx? (fun x : MapEntry => q key x.key) es.toList with
  | none => rfl
  | some j => simp only [Option.bind_some]; cases es.toList[j]? <;> rfl
 generalize (es.toList.zipIdx.find? (fun p => q key p.1.key)).map (fun p => (p.2, p.1.val)) = r at h1 h3;have hg : (getObj b).run P w = .ok (.map es clock) w := by simp [getObj, Sem.run, hb]
 simp only [Instr.lookup, Sem.run_bind, run_underlying ht, Result.andThen_ok, hg, Sem.run_pure, hK.chk _ key w hk, h1];cases r with
 | none =>
  simp at h3;rw [← h3];cases ok <;> simp [hz]
 | some p =>
  obtain ⟨i, v⟩ := p;simp at h3;rw [← h3];cases ok <;> simp
theorem find_mod0 (p : MapEntry → Bool) (g : MapEntry → MapEntry) : ∀ (l : List MapEntry) (i : Nat), (∀ e, l[i]? = some e → p e = false ∧ p (g e) = false) → (l.modify i g).find? p = l.find? p
 | [], i, _ => by simp
 | a :: l, 0, h => by
  have := h a rfl;simp [List.modify_cons, List.find?_cons, this.1, this.2]
 | a :: l, i + 1, h => by
  have ih := find_mod0 p g l i (fun e he => h e (by simpa using he));simp [List.modify_cons, List.find?_cons, ih]
theorem find_mod1 (p : MapEntry → Bool) (g : MapEntry → MapEntry) : ∀ (l : List MapEntry) (i : Nat), l.findIdx? p = some i → (∀ e, l[i]? = some e → p (g e) = true) → (l.modify i g).find? p = (l[i]?).map g
 | [], i, h, _ => by simp at h
 | a :: l, i, h, hg => by
  rw [List.findIdx?_cons] at h;cases ha : p a with
  | true =>
   rw [ha] at h;simp at h;subst h;have := hg a rfl;simp [List.modify_cons, List.find?_cons, this]
  | false =>
   rw [ha] at h;simp at h;obtain ⟨j, hj, rfl⟩ := h;have ih := find_mod1 p g l j hj (fun e he => hg e (by simpa using he));simp [List.modify_cons, List.find?_cons, ha, ih]
theorem putObj_heap (w : World) (r : Nat) (o : Obj) (h : r < w.heap.size) : (w.putObj r o).heap[r]? = some o := World.putObj_heap_same h
theorem run_mapUpd {w : World} {b : Nat} {f : Value → Option Value} (hK : KeyT P kt K q) (ht : P.underlying mt = some (.map kt et)) (hm : MapAt w b K q f) {key v : Value} (hk : K key) :
  ∃ w', (Instr.mapUpdate mt (.map (some b)) key v).run P w = .ok () w' ∧ MapAt w' b K q (fun x => if q x key then some v else f x) ∧ Chg [b] w w' := by
 obtain ⟨es, clock, hb, hes, hf⟩ := hm;have hlt : b < w.heap.size := (Array.getElem?_eq_some_iff.1 hb).1;have h1 := hK.find key es.toList w hk hes;have hg : (getObj b).run P w = .ok (.map es clock) w := by simp [getObj, Sem.run, hb]
 have hs : ∀ o, (setObj b o).run P w = .ok () (w.putObj b o) := fun o => by simp [setObj, Sem.run, World.putObj, hb]
 rw [oA (fun x : MapEntry => q key x.key)] at h1;have hfi : ∀ k, (es.toList.find? (fun x => q k x.key)) = (es.toList.findIdx? (fun x => q k x.key)).bind fun i => es.toList[i]? := fun k => List.find?_eq_bind_findIdx?_getElem?
 cases hi : es.toList.findIdx? (fun x => q key x.key) with
 | none =>
  rw [hi] at h1;simp at h1;refine ⟨w.putObj b (.map (es.push { key := key, val := v, born := clock }) (clock + 1)), ?_, ⟨es.push { key := key, val := v, born := clock }, clock + 1, putObj_heap w b _ hlt, ?_, fun k hk' => ?_⟩, jY w b _⟩
  ·simp only [Instr.mapUpdate, Sem.run_bind, run_underlying ht, Result.andThen_ok, hg, hK.chk _ key w hk, h1, hs]
  ·intro x hx;rw [Array.toList_push, List.mem_append] at hx;rcases hx with hx | hx
   ·exact hes x hx
   ·rw [List.mem_singleton.1 hx]; exact hk
  ·rw [Array.toList_push, List.find?_append];by_cases hq : q k key = true
   ·have := hK.eq k key hk' hk hq;subst this;rw [hfi, hi];simp [hq]
   ·have hq' : q k key = false := by simpa using hq
    simp only [hq', if_false, Bool.false_eq_true];rw [← hf k hk'];cases List.find? (fun x => q k x.key) es.toList <;> simp [hq']
 | some i =>
  have hi0 := hi;rw [List.findIdx?_eq_some_iff_getElem] at hi;obtain ⟨hlt2, hqi, _⟩ := hi;have hki : es.toList[i].key = key := (hK.eq key _ hk (hes _ (List.getElem_mem hlt2)) hqi).symm;rw [hi0] at h1;simp only [Option.bind_some, List.getElem?_eq_getElem hlt2, Option.map_some] at h1
  have hki2 : ((es[i]?).map (·.key)).getD key = key := by
   rw [← Array.getElem?_toList, List.getElem?_eq_getElem hlt2];simpa using hki
  have hkeep : (Instr.keyThatStays (((es[i]?).map (·.key)).getD key) key).run P w = .ok key w := by
   rw [hki2];simp [Instr.keyThatStays, hK.bits key hk]
  refine ⟨w.putObj b (.map (es.modify i fun e => { e with key := key, val := v }) clock), ?_, ⟨es.modify i fun e => { e with key := key, val := v }, clock, putObj_heap w b _ hlt, ?_, fun k hk' => ?_⟩, jY w b _⟩
  ·simp only [Instr.mapUpdate, Sem.run_bind, run_underlying ht, Result.andThen_ok, hg, hK.chk _ key w hk, h1, Nat.zero_add, hkeep, hs]
  ·intro x hx;rw [Array.toList_modify] at hx;obtain ⟨j, hj, rfl⟩ := List.getElem_of_mem hx;rw [List.getElem_modify];split
   ·exact hk
   ·exact hes _ (List.getElem_mem _)
  ·rw [Array.toList_modify];by_cases hq : q k key = true
   ·have := hK.eq k key hk' hk hq;subst this;rw [find_mod1 _ _ _ i hi0 (fun e _ => hq), List.getElem?_eq_getElem hlt2];simp [hq]
   ·have hq' : q k key = false := by simpa using hq
    simp only [hq', if_false, Bool.false_eq_true];rw [find_mod0 _ _ _ i (fun e he => ?_), hf k hk'];rw [List.getElem?_eq_getElem hlt2] at he;cases he
    rw [hki];exact ⟨hq', hq'⟩
end
section
variable {P : Program} {T : Tab}
theorem fM {e : Env} {t : Nat} {a b : Int} (hl : look e t = some (.int .i64 a)) (h : a = b) : look e t = some (.int .i64 b) := by rw [hl, h]
def eqV : Value → Value → Bool
 | .agg a, .agg b => eqL a.toList b.toList
 | .int _ a, .int _ b => decide (a = b)
 | _, _ => true
def keyF (ks : List (Option IntKind)) (v : Value) : Prop := ∃ xs : List Value, v = .agg xs.toArray ∧ gE ks xs = true
def keyI (kd : IntKind) (v : Value) : Prop := ∃ a, v = .int kd a
theorem chk_fields (empty : Bool) (d : Nat) (w : World) : ∀ (fs : List Field) (ks : List (Option IntKind)) (o : Nat) (xs : List Value) (l : List Value), flatF P o fs ks = true → gE ks l = true → xs.drop o = l →
  (forIn (m := Sem) fs PUnit.unit fun f _ => if f.name ≠ "_" then (do
    let v ← part f.type xs.toArray f.offset
    Instr.checkKey empty (d + 1) f.type v
    pure (ForInStep.yield PUnit.unit)) else pure (ForInStep.yield PUnit.unit)).run P w = .ok PUnit.unit w
 | [], [], o, xs, l, _, _, _ => by simp
 | [], _ :: _, _, _, _, h, _, _ => by simp [flatF] at h
 | _ :: _, [], _, _, _, h, _, _ => by simp [flatF] at h
 | f :: fs, k :: ks, o, xs, l, h, hl, ex => by
  simp only [flatF, Bool.and_eq_true] at h;obtain ⟨⟨⟨⟨hn, ho⟩, h1⟩, hk⟩, hr⟩ := h;have ho := Nat.eq_of_beq_eq_true ho;have hn : f.name ≠ "_" := by simpa using hn
  obtain ⟨v, l', rfl, hl', hv⟩ := gQ hl
  have gx : xs.toArray[f.offset]? = some v := by
   rw [ho];have := congrArg (fun z => z[0]?) ex;simpa using this
  have dx : xs.drop (o + 1) = l' := by rw [← List.drop_drop, ex]; rfl
  have ih := chk_fields empty d w fs ks (o + 1) xs l' hr hl' dx
  have hc : (Instr.checkKey empty (d + 1) f.type v).run P w = .ok () w := by
   rcases hv with ⟨q, a, rfl, rfl⟩ | ⟨a, rfl, rfl⟩
   ·split at hk
    ·rename_i q1 q2 hun hq2
     simp [Instr.checkKey, run_underlying hun]
    ·rename_i hq2; cases hq2
    ·cases hk
   ·split at hk
    ·rename_i hq2; cases hq2
    ·rename_i hun _
     simp [Instr.checkKey, run_underlying hun]
    ·cases hk
  simp only [List.forIn_cons, Sem.run_bind, if_pos hn, kE h1 gx, Result.andThen_ok, hc, Sem.run_pure];exact ih
theorem chk_agg {kt : TypeId} {ks : List (Option IntKind)} (hF : nQ P kt ks = true) {xs : List Value} (h : gE ks xs = true) (empty : Bool) (d : Nat) (w : World) : (Instr.checkKey empty (d + 2) kt (.agg xs.toArray)).run P w = .ok () w := by
 obtain ⟨h1, h2, h3, h4⟩ := nL hF;rw [Instr.checkKey];simp only [Sem.run_bind, run_underlying h3, Result.andThen_ok];rw [← Array.forIn_toList];rw [chk_fields empty d w _ ks 0 xs xs h4 h rfl]
 rfl
theorem bits_flat (d : Nat) : ∀ (ks : List (Option IntKind)) (l : List Value), gE ks l = true → (l.zip l).all (fun p => Instr.sameBits d p.1 p.2) = true
 | [], [], _ => rfl
 | [], _ :: _, h => by simp [gE] at h
 | k :: ks, l, h => by
  obtain ⟨v, m, rfl, hm, hv⟩ := gQ h;have ih := bits_flat d ks m hm;simp only [List.zip_cons_cons, List.all_cons, ih, Bool.and_true];rcases hv with ⟨q, a, rfl, rfl⟩ | ⟨a, rfl, rfl⟩ <;> simp [Instr.sameBits]
theorem bits_agg (n : Nat) (a b : Array Value) : Instr.sameBits (n + 1) (.agg a) (.agg b) = (a.size == b.size && (a.toList.zip b.toList).all fun p => Instr.sameBits n p.1 p.2) := by
 rw [Instr.sameBits]
theorem ask_find {kt : TypeId} {K : Value → Prop} {q : Value → Value → Bool} (w : World) (he : ∀ a b, K a → K b → (Op.equal kt a b).run P w = .ok (q a b) w) {k : Value} (hk : K k) : ∀ (es : List MapEntry) (i : Nat), (∀ x ∈ es, K x.key) →
  (Instr.findAsking kt k es i).run P w = .ok (((es.zipIdx i).find? (fun p => q k p.1.key)).map (fun p => (p.2, p.1.val))) w
 | [], i, _ => by simp [Instr.findAsking]
 | x :: es, i, h => by
  have ih := ask_find w he hk es (i + 1) (fun y hy => h y (List.mem_cons_of_mem _ hy));have h1 := he k x.key hk (h x List.mem_cons_self);rw [List.zipIdx_cons, List.find?_cons];simp only [Instr.findAsking, Sem.run_bind, h1, Result.andThen_ok];cases q k x.key
  ·simpa using ih
  ·simp
variable {ro : Cx} {n : Nat} {F : Fin} {w0 : World} {M : Nat → Prop} {k : List It} {ops : Array Oper} {rest : List Oper} {e : Env} {H Hq : List Ck}
variable {K : Value → Prop} {q : Value → Value → Bool} {kt et mt : TypeId}
theorem zero_run {t : TypeId} {z : Value} (h : ZeroOf P t z) (w : World) : (zeroValue t).run P w = .ok z w := by
 have h1 := h.h;cases hi : P.info? t with
 | none => rw [hi] at h1; cases h1
 | some i =>
  rw [hi] at h1;have hz : i.zero = some z := h1;simp [zeroValue, typeInfo, hi, hz]
theorem ql_look2 {d b : Nat} {x ix : Operand} {f : Value → Option Value} {key z : Value} {ty : TypeId} {pos : String} {af : Array Edge} (hK : KeyT P kt K q) (ht : P.underlying mt = some (.map kt et)) (hz : ZeroOf P et z)
  (hx : opv e x = some (.map (some b))) (hi : opv e ix = some key) (hd : Nat.blt d n = true) (hm : mpP K q b f ∈ H) (hk : K key)
  (h : QL P ro n F w0 M k ops rest ((d, .tuple #[(f key).getD z, .bool (f key).isSome]) :: e) H) : QL P ro n F w0 M k ops (⟨some d, .lookup mt x ix true, ty, pos, af, none⟩ :: rest) e H := .mk fun w hw =>
 eV (by simp) hd (fun a hf => by
  simp only [execOp, hf.op hx, hf.op hi];simp [run_mapLook hK ht (zero_run hz w) (hw.mem hm) hk]) (h.h w hw)
theorem Sat.mapUpd {w w' : World} {b : Nat} {f f' : Value → Option Value} {H' : List Ck} (hs : Sat w0 M H w) (hr : Rp H (mpP K q b f) (mpP K q b f') H') (hc : Chg [b] w w') (hm : MapAt w' b K q f') : Sat w0 M H' w' := by
 refine hs.rep hr hc (fun x hx => (by simpa using hx : x = b)) hm (fun x hx => ?_);have hx' : x = b := hx;subst hx';obtain ⟨es, clock, h1, _⟩ := hm;exact ⟨.inl rfl, (Array.getElem?_eq_some_iff.1 h1).1⟩
theorem ql_mapUpd {b : Nat} {x ix y : Operand} {f : Value → Option Value} {key v : Value} {H' : List Ck} {ty : TypeId} {pos : String} {af : Array Edge} (hK : KeyT P kt K q) (ht : P.underlying mt = some (.map kt et))
  (hx : opv e x = some (.map (some b))) (hi : opv e ix = some key) (hy : opv e y = some v) (hk : K key) (hr : Rp H (mpP K q b f) (mpP K q b (fun x => if q x key then some v else f x)) H')
  (h : QL P ro n F w0 M k ops rest e H') : QL P ro n F w0 M k ops (⟨none, .mapUpdate mt x ix y, ty, pos, af, none⟩ :: rest) e H := .mk fun w hw => by
 obtain ⟨w', hrun, hm, hc⟩ := run_mapUpd hK ht (hw.mem hr.mem) hk (v := v);refine yl_do (w' := w') (by simp) (fun a hf => ?_) (h.h w' (hw.mapUpd hr hc hm));simp only [execOp, hf.op hx, hf.op hi, hf.op hy];simp [hrun]
theorem run_mkMap (t : TypeId) (w : World) : (Instr.makeMap t none).run P w = .ok (.map (some w.heap.size)) (w.alloc (.map #[] 0)) := rfl
theorem mk_mapAt (w : World) : MapAt (w.alloc (.map #[] 0)) w.heap.size K q (fun _ => none) := ⟨#[], 0, by show (w.heap.push _)[w.heap.size]? = _; simp, by simp, fun _ _ => rfl⟩
theorem mk_mapD (w : World) : ∀ b, (mpP K q w.heap.size (fun _ => none)).D b → w.heap.size ≤ b ∧ b < (w.alloc (.map #[] 0)).heap.size := fun x hx => by
 have hx' : x = w.heap.size := hx;subst hx';simp
theorem ql_makeMap (K : Value → Prop) (q : Value → Value → Bool) {d : Nat} {t : TypeId} {ty : TypeId} {pos : String} {af : Array Edge} (hd : Nat.blt d n = true)
  (h : ∀ b, QL P ro n F w0 M k ops rest ((d, .map (some b)) :: e) (mpP K q b (fun _ => none) :: H)) : QL P ro n F w0 M k ops (⟨some d, .makeMap t none, ty, pos, af, none⟩ :: rest) e H := .mk fun w hs => by
 refine eV (w' := w.alloc (.map #[] 0)) (by simp) hd (fun a hf => ?_) ((h w.heap.size).h _ (hs.add (eA _ _) (mk_mapAt w) (mk_mapD w)));simp only [execOp];simp [run_mkMap]
theorem run_mkS0 {t et : Nat} (hu : P.underlying t = some (.slice et)) (hi : (P.info? et).isSome = true) (w : World) : (Instr.buildSlice t 0 #[]).run P w = .ok (aB9 w.heap.size 0 0) (w.alloc (.cells #[] et)) := by
 cases h : P.info? et with
 | none => rw [h] at hi; cases hi
 | some i =>
  have e0 : (Array.range 0) = #[] := rfl;simp [Instr.buildSlice, run_underlying hu, sizeOf, typeInfo, h, Instr.fill, newRow, e0]
theorem RdI.row {w : World} {lo hi : Nat} {v : Value} {l : List Int} (h : RdI w lo hi v l) : Rd w lo hi v 1 l.length (aX l) := by
 have := h.rd;rw [kZ _ (by simp [dJ])] at this;simpa using this
end
section
variable {P : Program} {T : Tab}
variable {ro : Cx} {n : Nat} {F : Fin} {w0 : World} {M : Nat → Prop} {k : List It} {ops : Array Oper} {rest : List Oper} {e : Env} {H Hq : List Ck}
variable {K : Value → Prop} {q : Value → Value → Bool} {kt et mt : TypeId}
theorem MapAt.keep {w w' : World} {b : Nat} {f : Value → Option Value} (h : MapAt w b K q f) (c : Chg [] w w') : MapAt w' b K q f := by
 obtain ⟨es, clock, h1, h2⟩ := h;exact ⟨es, clock, (c.block b (Array.getElem?_eq_some_iff.1 h1).1 (by simp)).trans h1, h2⟩
theorem MapAt.congr {w : World} {b : Nat} {f g : Value → Option Value} (h : MapAt w b K q f) (he : ∀ k, K k → f k = g k) : MapAt w b K q g := by
 obtain ⟨es, clock, h1, h2, h3⟩ := h;exact ⟨es, clock, h1, h2, fun k hk => (h3 k hk).trans (he k hk)⟩
theorem Sat.turn {w : World} {c c' : Ck} {R : List Ck} (h : Sat w0 M (c :: R) w) (hD : ∀ b, c'.D b → c.D b) (hp : c.p w → c'.p w) : Sat w0 M (c' :: R) w :=
 h.rep .z (Chg.refl [] w) (by simp) (hp (h.all _ List.mem_cons_self)) (fun b hb => ⟨.inl (hD b hb), (h.bd _ List.mem_cons_self b (hD b hb)).1⟩)
theorem Sat.mapC {w : World} {b : Nat} {f g : Value → Option Value} {R : List Ck} (h : Sat w0 M (mpP K q b f :: R) w) (he : ∀ k, K k → f k = g k) : Sat w0 M (mpP K q b g :: R) w :=
 h.turn (fun _ h => h) (fun hm => MapAt.congr hm he)
theorem map_sat {w : World} {b : Nat} {f : Value → Option Value} (h : MapAt w b K q f) : Sat w (fun x => x = b) [mpP K q b f] w := by
 have hb : b < w.heap.size := by
  obtain ⟨es, clock, h1, _⟩ := h;exact (Array.getElem?_eq_some_iff.1 h1).1
 refine ⟨ChgP.refl _ _, fun c hc => ?_, List.pairwise_singleton _ _, fun c hc x hx => ?_⟩
 ·rw [List.mem_singleton.1 hc];exact h
 ·rw [List.mem_singleton.1 hc] at hx;have hx' : x = b := hx;subst hx';exact ⟨hb, .inl Z⟩
end
section
variable {P : Program} {ops : Array Oper} {C : World → Prop} {K : Act → World → Prop}
theorem apart_symm {x y : Oper} (h : x.apart ops y = true) : y.apart ops x = true := by
 obtain ⟨h1, h2, h3⟩ := Oper.apart_spec h;simp only [Oper.apart, Bool.and_eq_true];constructor
 ·cases hy : y.dst with
  | none => rfl
  | some d =>
   simp only [Bool.and_eq_true, Bool.not_eq_true', bne_iff_ne, ne_eq];refine ⟨?_, fun hx => h2 d hx hy⟩;have := h3 d hy;simpa using this
 ·cases hx : x.dst with
  | none => rfl
  | some d =>
   have := h1 d hx;simpa using this
def pairsB (ops : Array Oper) (ms : List Nat) : Bool := (List.range ops.size).all fun j => match ops[j]? with
 | none => true
 | some oj => (kindOk oj.op && oj.after.all (fun e => Nat.blt e.on ops.size)) && (List.range j).all fun i => match ops[i]? with
  | none => true
  | some oi => (ms.getD j 0).testBit i || oi.apart ops oj
structure FlM (ops : Array Oper) : Prop where
 kind : ∀ (j : Nat) o, ops[j]? = some o → kindOk o.op = true
 edge : ∀ (j : Nat) o, ops[j]? = some o → ∀ e ∈ o.after, Region.binds .any e = true → ¬ e.on < ops.size → False
 pair : ∀ (i j : Nat) oi oj, i ≠ j → ops[i]? = some oi → ops[j]? = some oj → ((dW ops.toList).getD j 0).testBit i = true ∨ ((dW ops.toList).getD i 0).testBit j = true ∨ oi.apart ops oj = true
theorem pairsB_spec (h : pairsB ops (dW ops.toList) = true) : FlM ops := by
 have hj : ∀ (j : Nat) oj, ops[j]? = some oj → (kindOk oj.op = true ∧ (oj.after.all (fun e => Nat.blt e.on ops.size)) = true) ∧ ∀ i oi, i < j → ops[i]? = some oi → ((dW ops.toList).getD j 0).testBit i = true ∨ oi.apart ops oj = true := by
  intro j oj hoj;have h1 := List.all_eq_true.1 h j (List.mem_range.2 (Array.getElem?_eq_some_iff.1 hoj).1);simp only [hoj, Bool.and_eq_true] at h1;refine ⟨⟨h1.1.1, h1.1.2⟩, fun i oi hi hoi => ?_⟩;have h2 := List.all_eq_true.1 h1.2 i (List.mem_range.2 hi);simpa only [hoi, Bool.or_eq_true] using h2
 refine ⟨fun j o ho => (hj j o ho).1.1, fun j o ho e he _ hn => hn (by have := Array.all_eq_true'.1 (hj j o ho).1.2 e he; simpa [Nat.blt_eq] using this), fun i j oi oj hij hoi hoj => ?_⟩;rcases Nat.lt_or_gt_of_ne hij with h1 | h1
 ·rcases (hj j oj hoj).2 i oi h1 hoi with h2 | h2
  ·exact .inl h2
  ·exact .inr (.inr h2)
 ·rcases (hj i oi hoi).2 j oj h1 hoj with h2 | h2
  ·exact .inr (.inl h2)
  ·exact .inr (.inr (apart_symm h2))
inductive OT where
 | nil
 | op (i : Nat) (t : OT)
 | alt (t u : OT)
def wpT (P : Program) (ops : Array Oper) (C : World → Prop) (K : Act → World → Prop) : OT → Act → World → Prop
 | .nil, a, w => K a w
 | .op i t, a, w => match ops[i]? with
  | none => False
  | some o => if Region.wanted o (yielded ops a.tmps) = true then
    (if eff o.op = true then bS P o a w (fun v w' => C w' ∧ wpT P ops C K t (a.put o.dst v) w')
     else ∃ v, (∀ w', C w' → (execOp a.eval o).run P w' = .ok (.value v) w') ∧ wpT P ops C K t (a.put o.dst v) w)
   else wpT P ops C K t (a.put o.dst undef) w
 | .alt t u, a, w => wpT P ops C K t a w ∧ wpT P ops C K u a w
def OT.del (j : Nat) : OT → OT
 | .nil => .nil
 | .op i t => if i = j then t else .op i (t.del j)
 | .alt t u => .alt (t.del j) (u.del j)
def gT (ops : Array Oper) (i : Nat) : Bool := match ops[i]? with | some o => eff o.op | none => false
def OT.take (ops : Array Oper) (j : Nat) : OT → Option OT
 | .nil => none
 | .op i t => if i = j then some t else if gT ops i = true then none else (t.take ops j).map (.op i)
 | .alt t u => match t.take ops j with | some x => some x | none => u.take ops j
def lI (ops : Array Oper) : OT → List Nat
 | .nil => []
 | .op i t => if gT ops i = true then i :: lI ops t else lI ops t
 | .alt t _ => lI ops t
def covT (ops : Array Oper) (ms : List Nat) : Nat → OT → Bool
 | 0, t => (lI ops t).isEmpty
 | n + 1, t => (lI ops t).all fun j => (lI ops t).any (fun i => (ms.getD j 0).testBit i) || (match t.take ops j with | some t' => covT ops ms n t' | none => false)
def OkT (ops : Array Oper) : OT → List Nat → Prop
 | .nil, rem => rem = []
 | .op i t, rem => (∃ o, ops[i]? = some o ∧ ∀ e ∈ o.after, Region.binds .any e = true → e.on ∉ rem) ∧ i ∈ rem ∧ (∀ b ∈ rem, ((dW ops.toList).getD i 0).testBit b = false) ∧ OkT ops t (rem.erase i)
 | .alt t u, rem => OkT ops t rem ∧ OkT ops u rem
def okT (ops : Array Oper) (ms : List Nat) : OT → List Nat → Bool
 | .nil, rem => rem.isEmpty
 | .op i t, rem => (match ops[i]? with | none => false | some o => o.after.all fun e => !(Region.binds .any e) || !(rem.contains e.on)) && rem.contains i && rem.all (fun b => !((ms.getD i 0).testBit b)) && okT ops ms t (rem.erase i)
 | .alt t u, rem => okT ops ms t rem && okT ops ms u rem
theorem oS : ∀ (t : OT) (rem : List Nat), okT ops (dW ops.toList) t rem = true → OkT ops t rem
 | .nil, rem, h => by simpa [okT, OkT] using h
 | .op i t, rem, h => by
  simp only [okT, Bool.and_eq_true] at h;obtain ⟨⟨⟨h1, h2⟩, h3⟩, h4⟩ := h;refine ⟨?_, by simpa using h2, fun b hb => by simpa using List.all_eq_true.1 h3 b hb, oS t _ h4⟩;cases ho : ops[i]? with
  | none => rw [ho] at h1; cases h1
  | some o =>
   rw [ho] at h1;refine ⟨o, Z, fun e he hb => ?_⟩;have := Array.all_eq_true'.1 h1 e he;simp only [hb, Bool.not_true, Bool.false_or, Bool.not_eq_true'] at this;simpa using this
 | .alt t u, rem, h => by
  simp only [okT, Bool.and_eq_true] at h;exact ⟨oS t rem h.1, oS u rem h.2⟩
theorem del_ok {j : Nat} : ∀ (t : OT) (rem : List Nat), rem.Nodup → OkT ops t rem → j ∈ rem → OkT ops (t.del j) (rem.erase j)
 | .nil, rem, _, h, hj => by
  have : rem = [] := h;subst this;cases hj
 | .op i t, rem, hn, ⟨⟨o, h1, h1'⟩, h2, h3, h4⟩, hj => by
  unfold OT.del;split
  ·rename_i hij
   subst hij;exact h4
  ·rename_i hij
   refine ⟨⟨o, h1, fun e he hb hm => h1' e he hb (List.mem_of_mem_erase hm)⟩, (List.mem_erase_of_ne hij).2 h2, fun b hb => h3 b (List.mem_of_mem_erase hb), ?_⟩;rw [List.erase_comm];exact del_ok t _ (hn.erase i) h4 ((List.mem_erase_of_ne (fun h => hij h.symm)).2 hj)
 | .alt t u, rem, hn, ⟨h1, h2⟩, hj => ⟨del_ok t rem hn h1 hj, del_ok u rem hn h2 hj⟩
theorem nX {j : Nat} : ∀ (t t' : OT) (rem : List Nat), rem.Nodup → OkT ops t rem → j ∈ rem → t.take ops j = some t' → OkT ops t' (rem.erase j)
 | .nil, _, _, _, _, _, h => by simp [OT.take] at h
 | .op i t, t', rem, hn, ⟨⟨o, h1, h1'⟩, h2, h3, h4⟩, hj, h => by
  unfold OT.take at h;split at h
  ·rename_i hij
   subst hij;cases h
   exact h4
  ·rename_i hij
   split at h
   ·cases h
   ·cases hx : t.take ops j with
    | none => rw [hx] at h; cases h
    | some x =>
     rw [hx] at h;cases h
     refine ⟨⟨o, h1, fun e he hb hm => h1' e he hb (List.mem_of_mem_erase hm)⟩, (List.mem_erase_of_ne hij).2 h2, fun b hb => h3 b (List.mem_of_mem_erase hb), ?_⟩;rw [List.erase_comm];exact nX t x _ (hn.erase i) h4 ((List.mem_erase_of_ne (fun h => hij h.symm)).2 hj) hx
 | .alt t u, t', rem, hn, ⟨h1, h2⟩, hj, h => by
  unfold OT.take at h;split at h
  ·rename_i x hx
   cases h
   exact nX t _ rem hn h1 hj hx
  ·exact nX u t' rem hn h2 hj h
theorem take_del {j q : Nat} (hq : gT ops q = false) (hj : gT ops j = true) : ∀ t : OT, (t.del q).take ops j = (t.take ops j).map (OT.del q)
 | .nil => rfl
 | .op i t => by
  have hjq : j ≠ q := fun h => by rw [h, hq] at hj; cases hj
  by_cases hiq : i = q
  ·subst hiq;have e1 : (OT.op i t).del i = t := by simp [OT.del]
   rw [e1];simp only [OT.take, if_neg (fun h : i = j => hjq h.symm), hq, Bool.false_eq_true, if_false];cases t.take ops j with
   | none => rfl
   | some x => simp [OT.del]
  ·have e1 : (OT.op i t).del q = .op i (t.del q) := by simp [OT.del, hiq]
   rw [e1];simp only [OT.take];split
   ·rfl
   ·split
    ·rfl
    ·rw [take_del hq hj t];cases t.take ops j with
     | none => rfl
     | some x => simp [OT.del, hiq]
 | .alt t u => by
  simp only [OT.del, OT.take, take_del hq hj t, take_del hq hj u];cases t.take ops j with
  | none => rfl
  | some x => rfl
theorem effs_del {q : Nat} (hq : gT ops q = false) : ∀ t : OT, lI ops (t.del q) = lI ops t
 | .nil => rfl
 | .op i t => by
  unfold OT.del;split
  ·rename_i h
   subst h;simp [lI, hq]
  ·simp only [lI, effs_del hq t]
 | .alt t _ => by simp only [OT.del, lI, effs_del hq t]
theorem effs_eff : ∀ (t : OT) (j : Nat), j ∈ lI ops t → gT ops j = true
 | .nil, j, h => by simp [lI] at h
 | .op i t, j, h => by
  unfold lI at h;split at h
  ·rename_i hi
   rcases List.mem_cons.1 h with rfl | h
   ·exact hi
   ·exact effs_eff t j h
  ·exact effs_eff t j h
 | .alt t _, j, h => effs_eff t j h
theorem gZ : ∀ (t : OT) (rem : List Nat), OkT ops t rem → (∀ j, j ∈ lI ops t → j ∈ rem) ∧ ∀ j, j ∈ rem → gT ops j = true → j ∈ lI ops t
 | .nil, rem, h => by
  have : rem = [] := h;subst this;exact ⟨fun j h => by simp [lI] at h, fun j h => by cases h⟩
 | .op i t, rem, ⟨_, h2, _, h4⟩ => by
  obtain ⟨ih1, ih2⟩ := gZ t _ h4;unfold lI;constructor
  ·intro j hj;split at hj
   ·rcases List.mem_cons.1 hj with rfl | hj
    ·exact h2
    ·exact List.mem_of_mem_erase (ih1 j hj)
   ·exact List.mem_of_mem_erase (ih1 j hj)
  ·intro j hj he;by_cases hij : j = i
   ·subst hij;rw [if_pos he];exact List.mem_cons_self
   ·have := ih2 j ((List.mem_erase_of_ne hij).2 hj) he;split
    ·exact List.mem_cons_of_mem _ this
    ·exact this
 | .alt t _, rem, ⟨h, _⟩ => gZ t rem h
theorem cov_del {q : Nat} (hq : gT ops q = false) (ms : List Nat) : ∀ (n : Nat) (t : OT), covT ops ms n t = true → covT ops ms n (t.del q) = true
 | 0, t, h => by simpa [covT, effs_del hq] using h
 | n + 1, t, h => by
  simp only [covT, effs_del hq, List.all_eq_true] at h ⊢;intro j hj;have h1 := h j hj;rw [Bool.or_eq_true] at h1 ⊢;rcases h1 with h1 | h1
  ·exact .inl h1
  ·refine .inr ?_;rw [take_del hq (effs_eff t j hj)];cases hx : t.take ops j with
   | none => rw [hx] at h1; cases h1
   | some x =>
    rw [hx] at h1;exact cov_del hq ms n x h1
theorem gI (hF : FlM ops) {i j : Nat} {oi oj : Oper} (hij : i ≠ j) (hi : ops[i]? = some oi) (hj : ops[j]? = some oj) (h1 : ((dW ops.toList).getD j 0).testBit i = false) (h2 : ((dW ops.toList).getD i 0).testBit j = false) : oi.apart ops oj = true := by
 rcases hF.pair i j oi oj hij hi hj with h | h | h
 ·rw [h1] at h; cases h
 ·rw [h2] at h; cases h
 ·exact h
theorem lB (hF : FlM ops) {j : Nat} {oj : Oper} (hj : ops[j]? = some oj) (hne : eff oj.op = false) : ∀ (t : OT) (rem : List Nat) (a : Act) (w : World), rem.Nodup → OkT ops t rem → j ∈ rem → (∀ i ∈ rem, ((dW ops.toList).getD j 0).testBit i = false) →
  Region.wanted oj (yielded ops a.tmps) = true → C w → wpT P ops C K t a w → ∃ v, (∀ w', C w' → (execOp a.eval oj).run P w' = .ok (.value v) w') ∧ wpT P ops C K (t.del j) (a.put oj.dst v) w
 | .nil, rem, a, w, hn, hok, hjr, hm, hw, hC, h => by
  have : rem = [] := hok;subst this;cases hjr
 | .alt t u, rem, a, w, hn, ⟨o1, o2⟩, hjr, hm, hw, hC, ⟨h1, h2⟩ => by
  obtain ⟨v, hv, h3⟩ := lB hF hj hne t rem a w hn o1 hjr hm hw hC h1;obtain ⟨v', hv', h4⟩ := lB hF hj hne u rem a w hn o2 hjr hm hw hC h2;have e1 := hv w hC;have e2 := hv' w hC;rw [e1] at e2;have : v = v' := by simpa using e2
  subst this;exact ⟨v, hv, h3, h4⟩
 | .op i t, rem, a, w, hn, ⟨⟨oi, hi, _⟩, hir, him, hok⟩, hjr, hm, hw, hC, h => by
  by_cases hij : i = j
  ·subst hij;rw [hj] at hi;obtain rfl := Option.some.inj hi;simp only [wpT, hj, hw, if_true, hne, Bool.false_eq_true, if_false] at h;simpa [OT.del] using h
  ·have hji : j ∈ rem.erase i := (List.mem_erase_of_ne (fun h => hij h.symm)).2 hjr;have ih' := fun a w => lB hF hj hne t (rem.erase i) a w (hn.erase i) hok hji (fun b hb => hm b (List.mem_of_mem_erase hb))
   have hap := gI hF hij hi hj (hm i hir) (him j hjr);obtain ⟨p1, p2, p3⟩ := Oper.apart_spec hap;have kj := hF.kind j oj hj;have ki := hF.kind i oi hi;have ej : ∀ (a : Act) v, execOp (a.put oi.dst v).eval oj = execOp a.eval oj := fun a v => dF kj a oi.dst v p1
   have ei : ∀ (a : Act) v, execOp (a.put oj.dst v).eval oi = execOp a.eval oi := fun a v => dF ki a oj.dst v p3
   have wj : ∀ (a : Act) v, Region.wanted oj (yielded ops (a.put oi.dst v).tmps) = Region.wanted oj (yielded ops a.tmps) := fun a v => wanted_put oj a oi.dst v p1
   have wi : ∀ (a : Act) v, Region.wanted oi (yielded ops (a.put oj.dst v).tmps) = Region.wanted oi (yielded ops a.tmps) := fun a v => wanted_put oi a oj.dst v p3
   have cm : ∀ (a : Act) u v, (a.put oi.dst u).put oj.dst v = (a.put oj.dst v).put oi.dst u := fun a u v => Act.put_comm a u v p2
   have ed : (OT.op i t).del j = .op i (t.del j) := by simp [OT.del, hij]
   rw [ed];simp only [wpT, hi] at h ⊢;by_cases hwi : Region.wanted oi (yielded ops a.tmps) = true
   ·simp only [hwi, if_true] at h;by_cases he : eff oi.op = true
    ·simp only [he, if_true] at h;obtain ⟨v0, w0, hC0, h0⟩ := h.some;obtain ⟨v, hv, _⟩ := ih' _ w0 (by rw [wj]; exact hw) hC0 h0;simp only [ej] at hv;refine ⟨v, hv, ?_⟩;rw [wi];simp only [hwi, if_true, he]
     have h1 : bS P oi (a.put oj.dst v) w (fun u w' => C w' ∧ wpT P ops C K t (a.put oi.dst u) w') := by
      unfold bS at h ⊢;rw [ei];exact h
     refine h1.mono fun u w' ⟨hC', h2⟩ => ⟨hC', ?_⟩;obtain ⟨v', hv', h3⟩ := ih' _ w' (by rw [wj]; exact hw) hC' h2
     simp only [ej] at hv';have e1 := hv w hC;have e2 := hv' w hC;rw [e1] at e2;have : v = v' := by simpa using e2
     subst this;rw [cm] at h3;exact h3
    ·simp only [he] at h;obtain ⟨u, hu, h⟩ := h;obtain ⟨v, hv, h3⟩ := ih' _ w (by rw [wj]; exact hw) hC h;simp only [ej] at hv;refine ⟨v, hv, ?_⟩;rw [wi];simp only [hwi, if_true, he];refine ⟨u, fun w' hC' => by rw [ei]; exact hu w' hC', ?_⟩;rw [cm] at h3;exact h3
   ·simp only [hwi] at h;obtain ⟨v, hv, h3⟩ := ih' _ w (by rw [wj]; exact hw) hC h;simp only [ej] at hv;refine ⟨v, hv, ?_⟩;rw [wi];simp only [hwi];rw [cm] at h3;exact h3
theorem nJ (hF : FlM ops) {j : Nat} {oj : Oper} (hj : ops[j]? = some oj) : ∀ (t : OT) (rem : List Nat) (a : Act) (w : World), rem.Nodup → OkT ops t rem → j ∈ rem → (∀ i ∈ rem, ((dW ops.toList).getD j 0).testBit i = false) →
  Region.wanted oj (yielded ops a.tmps) = false → wpT P ops C K t a w → wpT P ops C K (t.del j) (a.put oj.dst undef) w
 | .nil, rem, a, w, hn, hok, hjr, hm, hw, h => by
  have : rem = [] := hok;subst this;cases hjr
 | .alt t u, rem, a, w, hn, ⟨o1, o2⟩, hjr, hm, hw, ⟨h1, h2⟩ => ⟨nJ hF hj t rem a w hn o1 hjr hm hw h1, nJ hF hj u rem a w hn o2 hjr hm hw h2⟩
 | .op i t, rem, a, w, hn, ⟨⟨oi, hi, _⟩, hir, him, hok⟩, hjr, hm, hw, h => by
  by_cases hij : i = j
  ·subst hij;rw [hj] at hi;obtain rfl := Option.some.inj hi;simp only [wpT, hj, hw, Bool.false_eq_true, if_false] at h;simpa [OT.del] using h
  ·have hji : j ∈ rem.erase i := (List.mem_erase_of_ne (fun h => hij h.symm)).2 hjr;have ih' := fun a w => nJ hF hj t (rem.erase i) a w (hn.erase i) hok hji (fun b hb => hm b (List.mem_of_mem_erase hb))
   have hap := gI hF hij hi hj (hm i hir) (him j hjr);obtain ⟨p1, p2, p3⟩ := Oper.apart_spec hap;have ki := hF.kind i oi hi;have ei : ∀ (a : Act) v, execOp (a.put oj.dst v).eval oi = execOp a.eval oi := fun a v => dF ki a oj.dst v p3
   have wj : ∀ (a : Act) v, Region.wanted oj (yielded ops (a.put oi.dst v).tmps) = Region.wanted oj (yielded ops a.tmps) := fun a v => wanted_put oj a oi.dst v p1
   have wi : ∀ (a : Act) v, Region.wanted oi (yielded ops (a.put oj.dst v).tmps) = Region.wanted oi (yielded ops a.tmps) := fun a v => wanted_put oi a oj.dst v p3
   have cm : ∀ (a : Act) u v, (a.put oi.dst u).put oj.dst v = (a.put oj.dst v).put oi.dst u := fun a u v => Act.put_comm a u v p2
   have ed : (OT.op i t).del j = .op i (t.del j) := by simp [OT.del, hij]
   rw [ed];simp only [wpT, hi] at h ⊢;rw [wi];by_cases hwi : Region.wanted oi (yielded ops a.tmps) = true
   ·simp only [hwi, if_true] at h ⊢;by_cases he : eff oi.op = true
    ·simp only [he, if_true] at h ⊢
     have h1 : bS P oi (a.put oj.dst undef) w (fun u w' => C w' ∧ wpT P ops C K t (a.put oi.dst u) w') := by
      unfold bS at h ⊢;rw [ei];exact h
     refine h1.mono fun u w' ⟨hC', h2⟩ => ⟨hC', ?_⟩;have h3 := ih' _ w' (by rw [wj]; exact hw) h2
     rw [cm] at h3;exact h3
    ·simp only [he] at h ⊢;obtain ⟨u, hu, h⟩ := h;have h3 := ih' _ w (by rw [wj]; exact hw) h;refine ⟨u, fun w' hC' => by rw [ei]; exact hu w' hC', ?_⟩;rw [cm] at h3;exact h3
   ·simp only [hwi] at h ⊢;have h3 := ih' _ w (by rw [wj]; exact hw) h;rw [cm] at h3;exact h3
theorem pC (hF : FlM ops) {j : Nat} {oj : Oper} (hj : ops[j]? = some oj) (he : eff oj.op = true) : ∀ (t t' : OT) (rem : List Nat) (a : Act) (w : World), rem.Nodup → OkT ops t rem → j ∈ rem → (∀ i ∈ rem, ((dW ops.toList).getD j 0).testBit i = false) →
  Region.wanted oj (yielded ops a.tmps) = true → t.take ops j = some t' → wpT P ops C K t a w → bS P oj a w (fun v w' => C w' ∧ wpT P ops C K t' (a.put oj.dst v) w')
 | .nil, _, _, _, _, _, _, _, _, _, ht, _ => by simp [OT.take] at ht
 | .alt t u, t', rem, a, w, hn, ⟨o1, o2⟩, hjr, hm, hw, ht, ⟨h1, h2⟩ => by
  unfold OT.take at ht;split at ht
  ·rename_i x hx
   cases ht
   exact pC hF hj he t _ rem a w hn o1 hjr hm hw hx h1
  ·exact pC hF hj he u t' rem a w hn o2 hjr hm hw ht h2
 | .op i t, t', rem, a, w, hn, ⟨⟨oi, hi, _⟩, hir, him, hok⟩, hjr, hm, hw, ht, h => by
  unfold OT.take at ht;split at ht
  ·rename_i hij
   subst hij;cases ht
   rw [hj] at hi;obtain rfl := Option.some.inj hi;simp only [wpT, hj, hw, if_true, he] at h;exact h
  ·rename_i hij
   split at ht
   ·cases ht
   ·rename_i hei0
    have hei : eff oi.op = false := by simpa [gT, hi] using hei0
    cases hx : t.take ops j with
    | none => rw [hx] at ht; cases ht
    | some x =>
     rw [hx] at ht;cases ht
     have hji : j ∈ rem.erase i := (List.mem_erase_of_ne (fun h => hij h.symm)).2 hjr;have ih' := fun a w => pC hF hj he t x (rem.erase i) a w (hn.erase i) hok hji (fun b hb => hm b (List.mem_of_mem_erase hb))
     have hap := gI hF hij hi hj (hm i hir) (him j hjr);obtain ⟨p1, p2, p3⟩ := Oper.apart_spec hap;have kj := hF.kind j oj hj;have ki := hF.kind i oi hi;have ej : ∀ (a : Act) v, execOp (a.put oi.dst v).eval oj = execOp a.eval oj := fun a v => dF kj a oi.dst v p1
     have ei : ∀ (a : Act) v, execOp (a.put oj.dst v).eval oi = execOp a.eval oi := fun a v => dF ki a oj.dst v p3
     have wj : ∀ (a : Act) v, Region.wanted oj (yielded ops (a.put oi.dst v).tmps) = Region.wanted oj (yielded ops a.tmps) := fun a v => wanted_put oj a oi.dst v p1
     have wi : ∀ (a : Act) v, Region.wanted oi (yielded ops (a.put oj.dst v).tmps) = Region.wanted oi (yielded ops a.tmps) := fun a v => wanted_put oi a oj.dst v p3
     have cm : ∀ (a : Act) u v, (a.put oi.dst u).put oj.dst v = (a.put oj.dst v).put oi.dst u := fun a u v => Act.put_comm a u v p2
     simp only [wpT, hi] at h;by_cases hwi : Region.wanted oi (yielded ops a.tmps) = true
     ·simp only [hwi, if_true, hei, Bool.false_eq_true, if_false] at h;obtain ⟨u, hu, h⟩ := h;have h3 := ih' _ w (by rw [wj]; exact hw) hx h
      have h4 : bS P oj a w (fun v w' => C w' ∧ wpT P ops C K x ((a.put oi.dst u).put oj.dst v) w') := by
       unfold bS at h3 ⊢;rw [ej] at h3;exact h3
      refine h4.mono fun v w' ⟨hC', h5⟩ => ⟨hC', ?_⟩;simp only [wpT, hi]
      rw [wi];simp only [hwi, if_true, hei, Bool.false_eq_true, if_false];refine ⟨u, fun w' hC' => by rw [ei]; exact hu w' hC', ?_⟩;rw [cm] at h5;exact h5
     ·simp only [hwi, Bool.false_eq_true, if_false] at h;have h3 := ih' _ w (by rw [wj]; exact hw) hx h
      have h4 : bS P oj a w (fun v w' => C w' ∧ wpT P ops C K x ((a.put oi.dst undef).put oj.dst v) w') := by
       unfold bS at h3 ⊢;rw [ej] at h3;exact h3
      refine h4.mono fun v w' ⟨hC', h5⟩ => ⟨hC', ?_⟩;simp only [wpT, hi]
      rw [wi];simp only [hwi, Bool.false_eq_true, if_false];rw [cm] at h5;exact h5
theorem kU (hF : FlM ops) {j : Nat} {oj : Oper} (hj : ops[j]? = some oj) : ∀ (t t' : OT) (rem : List Nat) (a : Act) (w : World), rem.Nodup → OkT ops t rem → j ∈ rem → (∀ i ∈ rem, ((dW ops.toList).getD j 0).testBit i = false) →
  Region.wanted oj (yielded ops a.tmps) = false → t.take ops j = some t' → wpT P ops C K t a w → wpT P ops C K t' (a.put oj.dst undef) w
 | .nil, _, _, _, _, _, _, _, _, _, ht, _ => by simp [OT.take] at ht
 | .alt t u, t', rem, a, w, hn, ⟨o1, o2⟩, hjr, hm, hw, ht, ⟨h1, h2⟩ => by
  unfold OT.take at ht;split at ht
  ·rename_i x hx
   cases ht
   exact kU hF hj t _ rem a w hn o1 hjr hm hw hx h1
  ·exact kU hF hj u t' rem a w hn o2 hjr hm hw ht h2
 | .op i t, t', rem, a, w, hn, ⟨⟨oi, hi, _⟩, hir, him, hok⟩, hjr, hm, hw, ht, h => by
  unfold OT.take at ht;split at ht
  ·rename_i hij
   subst hij;cases ht
   rw [hj] at hi;obtain rfl := Option.some.inj hi;simp only [wpT, hj, hw, Bool.false_eq_true, if_false] at h;exact h
  ·rename_i hij
   split at ht
   ·cases ht
   ·rename_i hei0
    have hei : eff oi.op = false := by simpa [gT, hi] using hei0
    cases hx : t.take ops j with
    | none => rw [hx] at ht; cases ht
    | some x =>
     rw [hx] at ht;cases ht
     have hji : j ∈ rem.erase i := (List.mem_erase_of_ne (fun h => hij h.symm)).2 hjr;have ih' := fun a w => kU hF hj t x (rem.erase i) a w (hn.erase i) hok hji (fun b hb => hm b (List.mem_of_mem_erase hb))
     have hap := gI hF hij hi hj (hm i hir) (him j hjr);obtain ⟨p1, p2, p3⟩ := Oper.apart_spec hap;have ki := hF.kind i oi hi;have ei : ∀ (a : Act) v, execOp (a.put oj.dst v).eval oi = execOp a.eval oi := fun a v => dF ki a oj.dst v p3
     have wj : ∀ (a : Act) v, Region.wanted oj (yielded ops (a.put oi.dst v).tmps) = Region.wanted oj (yielded ops a.tmps) := fun a v => wanted_put oj a oi.dst v p1
     have wi : ∀ (a : Act) v, Region.wanted oi (yielded ops (a.put oj.dst v).tmps) = Region.wanted oi (yielded ops a.tmps) := fun a v => wanted_put oi a oj.dst v p3
     have cm : ∀ (a : Act) u v, (a.put oi.dst u).put oj.dst v = (a.put oj.dst v).put oi.dst u := fun a u v => Act.put_comm a u v p2
     simp only [wpT, hi] at h ⊢;rw [wi];by_cases hwi : Region.wanted oi (yielded ops a.tmps) = true
     ·simp only [hwi, if_true, hei, Bool.false_eq_true, if_false] at h ⊢;obtain ⟨u, hu, h⟩ := h;have h3 := ih' _ w (by rw [wj]; exact hw) hx h;refine ⟨u, fun w' hC' => by rw [ei]; exact hu w' hC', ?_⟩;rw [cm] at h3;exact h3
     ·simp only [hwi, Bool.false_eq_true, if_false] at h ⊢;have h3 := ih' _ w (by rw [wj]; exact hw) hx h;rw [cm] at h3;exact h3
theorem okT_end : ∀ (t : OT) (a : Act) (w : World), OkT ops t [] → wpT P ops C K t a w → K a w
 | .nil, _, _, _, h => h
 | .op i t, _, _, ⟨_, h2, _⟩, _ => by cases h2
 | .alt t _, a, w, ⟨h1, _⟩, ⟨h2, _⟩ => okT_end t a w h1 h2
theorem okT_first : ∀ (t : OT) (rem : List Nat), OkT ops t rem → rem ≠ [] → ∃ i ∈ rem, ∃ o, ops[i]? = some o ∧ ∀ e ∈ o.after, Region.binds .any e = true → e.on ∉ rem
 | .nil, rem, h, hne => absurd h hne
 | .op i t, rem, ⟨h1, h2, _⟩, _ => ⟨i, h2, h1⟩
 | .alt t _, rem, ⟨h1, _⟩, hne => okT_first t rem h1 hne
variable {ro : Cx} {Q : Fin}
theorem any_of_T (hF : FlM ops) (hK : ∀ a w, C w → K a w → Q .normal a w) : ∀ (fuel m : Nat) (t : OT) (rem : List Nat) (listed : Array Bool) (a : Act) (w : World),
  rem.length = fuel → rem.Nodup → listed.size = ops.size → (∀ i, i ∈ rem ↔ i < ops.size ∧ listed.getD i true = false) →
  (∀ (m : Nat) o, ops[m]? = some o → listed.getD m false = true → ∀ e ∈ o.after, Region.binds .any e = true → listed.getD e.on false = true) →
  OkT ops t rem → covT ops (dW ops.toList) m t = true → C w → wpT P ops C K t a w → wpAnyIn (FR ro.ro) 0 P .any ops Q fuel listed a w := by
 intro fuel
 induction fuel with
 | zero =>
  intro m t rem listed a w hl hn hsz hmem hcl hok hcov hC h;have : rem = [] := by simpa using hl
  subst this;refine ⟨?_, hK _ _ hC (okT_end t a w hok h)⟩;refine List.eq_nil_iff_forall_not_mem.2 fun i hi => ?_
  obtain ⟨h0, o, ho, _⟩ := mem_ready.1 hi;exact absurd ((hmem i).2 ⟨(Array.getElem?_eq_some_iff.1 ho).1, h0⟩) (by simp)
 | succ fuel ih =>
  intro m t rem listed a w hl hn hsz hmem hcl hok hcov hC h
  have hlist : ∀ x, x < ops.size → x ∉ rem → listed.getD x false = true := by
   intro x hx hr;have h3 : ¬ (x < ops.size ∧ listed.getD x true = false) := fun hx => hr ((hmem x).2 hx)
   have h4 : x < listed.size := by omega
   simp only [Array.getD_eq_getD_getElem?, Array.getElem?_eq_getElem h4, Option.getD_some] at h3 ⊢;cases hc : listed[x] with
   | true => rfl
   | false => exact absurd ⟨hx, hc⟩ h3
  have hunl : ∀ x, listed.getD x false = true → x ∉ rem := by
   intro x hx hr;have h0 := ((hmem x).1 hr).2;simp only [Array.getD_eq_getD_getElem?] at hx h0;cases hc : listed[x]? <;> simp [hc] at hx h0
   simp [hx] at h0
  refine ⟨fun h0 => ?_, fun j hj => ?_⟩
  ·exfalso;obtain ⟨i, hir, o, ho, hd⟩ := okT_first t rem hok (by rintro rfl; simp at hl)
   have hrd : i ∈ Region.ready .any ops listed := by
    refine mem_ready.2 ⟨((hmem i).1 hir).2, o, ho, fun e he hb => ?_⟩;by_cases hes : e.on < ops.size
    ·exact hlist _ hes (hd e he hb)
    ·exact (hF.edge i o ho e he hb hes).elim
   rw [h0] at hrd;cases hrd
  ·obtain ⟨h0, oj, hoj, hre⟩ := mem_ready.1 hj;have hjr : j ∈ rem := (hmem j).2 ⟨(Array.getElem?_eq_some_iff.1 hoj).1, h0⟩
   have hun : ∀ i ∈ rem, ((dW ops.toList).getD j 0).testBit i = false := fun i hi => by
    cases hb : ((dW ops.toList).getD j 0).testBit i with
    | false => rfl
    | true => exact absurd hi (hunl i (nD (D := fun m => listed.getD m false = true) (fun m o hm hD e he hb => hcl m o hm hD e he hb) j oj hoj (fun e he hb => hre e he hb) i hb))
   have next : ∀ m (t' : OT) a w, OkT ops t' (rem.erase j) → covT ops (dW ops.toList) m t' = true → C w → wpT P ops C K t' a w → wpAnyIn (FR ro.ro) 0 P .any ops Q fuel (listed.setIfInBounds j true) a w := by
    intro m t' a w hok hcov hC h;refine ih m t' (rem.erase j) _ a w ?_ (hn.erase j) (by simp [hsz]) ?_ ?_ hok hcov hC h
    ·rw [List.length_erase_of_mem hjr]; omega
    ·intro i;constructor
     ·intro hi;have hne : j ≠ i := fun e => by subst e; exact absurd hi (hn.not_mem_erase)
      have h1 := (hmem i).1 (List.mem_of_mem_erase hi);exact ⟨h1.1, by rw [getD_set_ne true hne]; exact h1.2⟩
     ·rintro ⟨h1, h2⟩
      have hne : j ≠ i := fun e => by
       subst e;simp [hsz, h1] at h2
      rw [getD_set_ne true hne] at h2;exact (List.mem_erase_of_ne (fun h => hne h.symm)).2 ((hmem i).2 ⟨h1, h2⟩)
    ·intro m o hm hD e he hb;by_cases hmj : j = m
     ·subst hmj;rw [hoj] at hm;obtain rfl := Option.some.inj hm;exact getD_set_true (hre e he hb)
     ·rw [getD_set_ne false hmj] at hD;exact getD_set_true (hcl m o hm hD e he hb)
   unfold wpOpIn;simp only [hoj];by_cases hw : Region.wanted oj (yielded ops a.tmps) = true
   ·simp only [hw, if_true];cases he : eff oj.op with
    | true =>
     have hej : gT ops j = true := by simp [gT, hoj, he]
     have hje := (gZ t rem hok).2 j hjr hej;cases m with
     | zero =>
      simp only [covT, List.isEmpty_iff] at hcov;rw [hcov] at hje;cases hje
     | succ m =>
      simp only [covT, List.all_eq_true] at hcov;have h1 := hcov j hje;rw [Bool.or_eq_true] at h1;rcases h1 with h1 | h1
      ·obtain ⟨i, hi, hb⟩ := List.any_eq_true.1 h1;rw [hun i ((gZ t rem hok).1 i hi)] at hb;cases hb
      ·cases hx : t.take ops j with
       | none => rw [hx] at h1; cases h1
       | some x =>
        rw [hx] at h1;have h2 := pC hF hoj he t x rem a w hn hok hjr hun hw hx h;exact bS.wpIn (hF.kind j oj hoj) (h2.mono fun v w' ⟨hC', h3⟩ => next m x _ _ (nX t x rem hn hok hjr hx) h1 hC' h3)
    | false =>
     have hej : gT ops j = false := by simp [gT, hoj, he]
     obtain ⟨v, hv, h2⟩ := lB hF hoj he t rem a w hn hok hjr hun hw hC h;exact upon_FR (fun c hc => by have := hF.kind j oj hoj; rw [hc] at this; cases this) (hv w hC) (next m _ _ _ (del_ok t rem hn hok hjr) (cov_del hej _ m t hcov) hC h2)
   ·have hw' : Region.wanted oj (yielded ops a.tmps) = false := by simpa using hw
    simp only [hw', Bool.false_eq_true, if_false];cases he : eff oj.op with
    | false =>
     have hej : gT ops j = false := by simp [gT, hoj, he]
     exact ⟨fun f _ => nZ f, next m _ _ _ (del_ok t rem hn hok hjr) (cov_del hej _ m t hcov) hC (nJ hF hoj t rem a w hn hok hjr hun hw' h)⟩
    | true =>
     have hej : gT ops j = true := by simp [gT, hoj, he]
     have hje := (gZ t rem hok).2 j hjr hej;cases m with
     | zero =>
      simp only [covT, List.isEmpty_iff] at hcov;rw [hcov] at hje;cases hje
     | succ m =>
      simp only [covT, List.all_eq_true] at hcov;have h1 := hcov j hje;rw [Bool.or_eq_true] at h1;rcases h1 with h1 | h1
      ·obtain ⟨i, hi, hb⟩ := List.any_eq_true.1 h1;rw [hun i ((gZ t rem hok).1 i hi)] at hb;cases hb
      ·cases hx : t.take ops j with
       | none => rw [hx] at h1; cases h1
       | some x =>
        rw [hx] at h1;exact ⟨fun f _ => nZ f, next m _ _ _ (nX t x rem hn hok hjr hx) h1 hC (kU hF hoj t x rem a w hn hok hjr hun hw' hx h)⟩
def treeB (ops : Array Oper) (t : OT) : Bool := pairsB ops (dW ops.toList) && okT ops (dW ops.toList) t (List.range ops.size) && covT ops (dW ops.toList) ops.size t
theorem wpIn_region_T {id : Nat} {a : Act} {w : World} (t : OT) (hm : P.follows .mixedOrders = true) (hB : treeB ops t = true) (hC : C { w with drawn := w.drawn + 1 })
  (hK : ∀ a w, C w → K a w → Q .normal a w) (h : wpT P ops C K t a { w with drawn := w.drawn + 1 }) : (Code.region id ops true).wpIn (FR ro.ro) 0 P Q a w := by
 simp only [treeB, Bool.and_eq_true] at hB;obtain ⟨⟨h1, h2⟩, h3⟩ := hB;refine wpIn_region_any hm (any_of_T (pairsB_spec h1) hK ops.size ops.size t (List.range ops.size) _ a _ (by simp) List.nodup_range (by simp) ?_ ?_ (oS t _ h2) h3 hC h)
 ·intro i;simp only [List.mem_range];constructor
  ·intro hi;exact ⟨hi, by simp [hi]⟩
  ·exact fun hi => hi.1
 ·intro m o _ hD;simp only [Array.getD_eq_getD_getElem?, Array.getElem?_replicate] at hD;split at hD <;> simp at hD
end
section
variable {P : Program} {ro : Cx} {n : Nat} {F : Fin} {w0 : World} {M : Nat → Prop} {k : List It} {ops : Array Oper} {e : Env} {H Hq : List Ck}
structure QT (P : Program) (ro : Cx) (n : Nat) (F : Fin) (w0 : World) (M : Nat → Prop) (k : List It) (ops : Array Oper) (Hq : List Ck) (t : OT) (e : Env) (H : List Ck) : Prop where
 h : ∀ w, Sat w0 M (H ++ Hq) w → ∀ a, Fits n e a → a.defers = ro.ds → wpT P ops (Sat w0 M Hq) (fun a w => S P ro.ro F k .normal a w) t a w
def bE : List Nat → OT → OT
 | [], t => t
 | i :: l, t => .op i (bE l t)
theorem eQ {id : Nat} {l : List Oper} (t : OT) (Hq Hm : List Ck) (hH : Sp H (Hm ++ Hq)) (hm : P.follows .mixedOrders = true) (hB : treeB l.toArray t = true) (h : QT P ro n F w0 M k l.toArray Hq t e Hm) :
  Q P ro n F w0 M (.code (.region id l.toArray true) :: k) e H := .mk fun w hs a hf hd => by
 have hs1 := (hs.sp hH).keep (Chg.drew (N := []) w);exact wpIn_region_T t hm hB (C := Sat w0 M Hq) hs1.right (fun _ _ _ h => h) (h.h _ hs1 a hf hd)
theorem dD (h : Q P ro n F w0 M k e (H ++ Hq)) : QT P ro n F w0 M k ops Hq .nil e H := ⟨fun w hs a hf hd => h.h w hs a hf hd⟩
theorem cA {t u : OT} (h1 : QT P ro n F w0 M k ops Hq t e H) (h2 : QT P ro n F w0 M k ops Hq u e H) : QT P ro n F w0 M k ops Hq (.alt t u) e H :=
 ⟨fun w hs a hf hd => ⟨h1.h w hs a hf hd, h2.h w hs a hf hd⟩⟩
theorem wpT_chain {C : World → Prop} {K : Act → World → Prop} {t : OT} : ∀ (l : List Nat) (lo : List Oper) (a : Act) (w : World), l.map (fun i => ops[i]?) = lo.map some → gK P ops C (wpT P ops C K t) lo a w → wpT P ops C K (bE l t) a w
 | [], [], a, w, _, h => h
 | [], _ :: _, _, _, hl, _ => by cases hl
 | _ :: _, [], _, _, hl, _ => by cases hl
 | i :: l, o :: lo, a, w, hl, h => by
  simp only [List.map_cons, List.cons.injEq] at hl;have ih : ∀ a w, gK P ops C (wpT P ops C K t) lo a w → wpT P ops C K (bE l t) a w := fun a w => wpT_chain l lo a w hl.2
  simp only [bE, wpT, hl.1];simp only [gK] at h;split
  ·rename_i hw
   rw [if_pos hw] at h;split
   ·rename_i he
    rw [if_pos he] at h;exact h.mono fun v w' ⟨hC, h2⟩ => ⟨hC, ih _ _ h2⟩
   ·rename_i he
    rw [if_neg he] at h;obtain ⟨v, hv, h2⟩ := h;exact ⟨v, hv, ih _ _ h2⟩
  ·rename_i hw
   rw [if_neg hw] at h;exact ih _ _ h
inductive PickL (ops : Array Oper) : List Nat → List Oper → Prop
 | nil : PickL ops [] []
 | cons {i : Nat} {o : Oper} {l : List Nat} {lo : List Oper} : ops[i]? = some o → PickL ops l lo → PickL ops (i :: l) (o :: lo)
theorem PickL.map {l : List Nat} {lo : List Oper} (h : PickL ops l lo) : l.map (fun i => ops[i]?) = lo.map some := by
 induction h with
 | nil => rfl
 | cons h1 _ ih => simp [h1, ih]
theorem qA {p : Prop} (h : p := by repeat (first | exact PickL.nil | (apply PickL.cons; rfl))) : p := h
theorem bA {l : List Nat} {lo : List Oper} {t : OT} (hl : PickL ops l lo)
  (h : ∀ K1 : Act → World → Prop, (∀ e' H', QT P ro n F w0 M k ops Hq t e' H' → Q P ro n F w0 M (.k K1 :: k) e' (H' ++ Hq)) → QF P ro n F w0 M (.k K1 :: k) ops Hq lo e H) : QT P ro n F w0 M k ops Hq (bE l t) e H :=
 ⟨fun w hs a hf hd => by
  have h1 := h (wpT P ops (Sat w0 M Hq) (fun a w => S P ro.ro F k .normal a w) t) (fun e' H' hq => .mk fun w' hs' a' hf' hd' => hq.h w' hs' a' hf' hd');exact wpT_chain l lo a w hl.map (h1.h w hs a hf hd)⟩
theorem fT {σ : Type} {c : Code} (env : σ → Env) (hp : σ → List Ck) (main : ∀ s, Q P ro n F w0 M k (env s) (hp s))
  (first : ∀ K2 : Act → World → Prop, (∀ s e' H', Sub (env s) e' → Sp H' (hp s) → Q P ro n F w0 M (.k K2 :: k) e' H') → Q P ro n F w0 M (.code c :: .k K2 :: k) e H) : Q P ro n F w0 M (.code c :: k) e H := by
 have h1 := first (fun a w => S P ro.ro F k .normal a w) (fun s e' H' hs hH => .mk fun w hw a hf hd => (main s).h w (hw.sp hH) a (hf.sub hs) hd)
 have e1 : S P ro.ro F (.k (fun a w => S P ro.ro F k .normal a w) :: k) = S P ro.ro F k := by
  funext x a w
  cases x <;> rfl
 refine .mk fun w hs a hf hd => ?_;have h2 := h1.h w hs a hf hd
 simp only [S] at h2 ⊢;simp only [S] at e1;rw [e1] at h2;exact h2
end
section
variable {P : Program} {T : Tab}
variable {ro : Cx} {n : Nat} {F : Fin} {w0 : World} {M : Nat → Prop} {k : List It} {ops : Array Oper} {rest : List Oper} {e : Env} {H Hq : List Ck}
variable {K : Value → Prop} {q : Value → Value → Bool} {kt et mt : TypeId}
theorem Sat.aside {w w' : World} {A R : List Ck} (h : Sat w0 M (A ++ R) w) (c : ChgP (DL A) w w') {x : Ck} (hx : x ∈ R) : x.p w' :=
 Ck.st (h.all x (List.mem_append_right _ hx)) c (fun b hb ⟨a, ha, hab⟩ => (List.pairwise_append.1 h.sep).2.2 a ha x hx b hab hb)
theorem Sat.asideOld {w w' : World} {A R : List Ck} (h : Sat w0 M0 (A ++ R) w) (c : ChgP (DL A) w w') : Chg [] w0 w' :=
 h.chg0.old c (fun b ⟨a, ha, hab⟩ => (h.bd a (List.mem_append_left _ ha) b hab).2.resolve_left (fun h => h))
theorem Sat.later {w w' : World} {A B : List Ck} (h : Sat w0 (DL A) B w) (c : ChgP (DL B) w w') : ChgP (DL A) w0 w' := h.chg.upP c (fun k ⟨x, hx, hk⟩ => (h.bd x hx k hk).2)
theorem bO {φ : Prop} (hf : ∀ w, Sat w0 M (H ++ Hq) w → φ) (h : φ → QF P ro n F w0 M k ops Hq rest e H) : QF P ro n F w0 M k ops Hq rest e H := .mk fun w hs => (h (hf w hs)).h w hs
theorem own_slice {w : World} {base e sz n : Nat} {v : Value} {xs : List Value} (h : w.ownsRow base e sz v n xs) : ∃ a m c, v = .slice a m c := by
 rcases h.2 with ⟨rfl, _⟩ | ⟨g, cap, cur, rfl, _⟩
 ·exact ⟨_, _, _, Z⟩
 ·exact ⟨_, _, _, Z⟩
theorem Sat.slice {w : World} {e sz n : Nat} {v : Value} {xs : List Value} (h : Sat w0 M H w) (hc : Ck.ow v e sz n xs ∈ H) : ∃ a m c, v = .slice a m c := own_slice (h.mem hc)
theorem Sat.slice2 {w : World} {e sz n : Nat} {v : Value} {xs : List Value} (h : Sat w0 M H w) (hc : Ck.ow v e sz n xs ∈ H) : ∃ a c, v = .slice a n c := by
 have h1 : w.ownsRow 0 e sz v n xs := h.all _ hc;rcases h1.2 with ⟨rfl, rfl, _⟩ | ⟨g, cap, cur, rfl, _⟩
 ·exact ⟨_, _, Z⟩
 ·exact ⟨_, _, Z⟩
theorem Sat.rdI {w : World} {t n : Nat} {v : Value} {l : List Int} (h : Sat w0 M H w) (hc : Ck.ow v t 1 n (aX l) ∈ H) (hn : n = l.length) : RdI w 0 w.heap.size v l := by
 subst hn;exact RdI.of (own_rd (h.all _ hc))
end
section
variable {P : Program} {T : Tab}
variable {ro : Cx} {n : Nat} {F : Fin} {w0 : World} {M : Nat → Prop} {k : List It} {ops : Array Oper} {rest : List Oper} {e : Env} {H Hq : List Ck}
theorem own_some {w : World} {et sz m : Nat} {v : Value} {xs : List Value} (h : w.ownsRow 0 et sz v m xs) (hm : 0 < m) : ∃ g c, v = aB9 g m c := by
 rcases h.2 with ⟨rfl, rfl⟩ | ⟨g, cap, cur, rfl, _⟩
 ·omega
 ·exact ⟨_, _, Z⟩
theorem Sat.ownSome {w : World} {et sz m : Nat} {v : Value} {xs : List Value} (h : Sat w0 M H w) (hc : Ck.ow v et sz m xs ∈ H) (hm : 0 < m) : ∃ g c, v = aB9 g m c := own_some (h.all _ hc) hm
theorem ql_storeW (hT : T.Ok P) {t : Nat} {x y : Operand} {g off m c et : Nat} {xs : List Value} {u : Value} {H' : List Ck} {ty : TypeId} {pos : String} {af : Array Edge} (i : Nat)
  (hx : opv e x = some (.pointer (some ⟨g, off, none⟩))) (hy : opv e y = some u) (h1 : has T.one t = true) (hv : dJ u = true)
  (hr : Rp H (.ow (aB9 g m c) et 1 m xs) (.ow (aB9 g m c) et 1 m (xs.set i u)) H') (ho : off = i) (hi : i < xs.length)
  (h : QL P ro n F w0 M k ops rest e H') : QL P ro n F w0 M k ops (⟨none, .store t x y, ty, pos, af, none⟩ :: rest) e H := .mk fun w hs => by
 subst ho;obtain ⟨hl, h2⟩ : w.ownsRow 0 et 1 (aB9 g m c) m xs := hs.mem hr.mem;rcases h2 with ⟨hv', _⟩ | ⟨g', cap, cur, hv', hg, hh, hnc, hcm, hcs, ht⟩
 ·cases hv'
 cases hv'
 have hb : Blk w g cur.toList et := by simpa [Blk] using hh
 have hcl : off < cur.toList.length := by
  have := congrArg List.length ht;simp at this;simp;omega
 refine yl_store1 hT hx hy h1 hv hb hcl (fun w' hc _ hb' => h.h w' (hs.rep hr hc (fun k hk => ?_) ?_ (fun b hb2 => ?_)))
 ·obtain rfl : k = g := by simpa using hk
  rfl
 ·refine ⟨by simpa using hl, .inr ⟨g, c, (cur.toList.set off u).toArray, Z, hg, by simpa [Blk] using hb', hnc, hcm, by simpa using hcs, ?_⟩⟩;simp only [List.toList_toArray];rw [List.take_set, ht]
 ·have : b = g := by simpa [Ck.D, Value.ownBlock] using hb2.symm
  subst this;exact ⟨.inl rfl, hb'.lt⟩
end
section
variable {P : Program} {ro : Cx} {n : Nat} {F : Fin} {w0 : World} {M : Nat → Prop} {k : List It} {ops : Array Oper} {e : Env} {H Hq : List Ck}
theorem cH {σ : Type} (t : OT) {t0 : OT} (env : σ → Env) (pc : σ → List Ck) (main : ∀ s, QT P ro n F w0 M k ops Hq t (env s) (pc s))
  (use : (∀ s e' H', Sub (env s) e' → Sp H' (pc s) → QT P ro n F w0 M k ops Hq t e' H') → QT P ro n F w0 M k ops Hq t0 e H) : QT P ro n F w0 M k ops Hq t0 e H :=
 use (fun s _ _ he hH => ⟨fun w hs a hf hd => (main s).h w (hs.sp (Sp.app hH Hq)) a (hf.sub he) hd⟩)
end
section
variable {P : Program} {T : Tab} {ro : Cx} {n : Nat} {F : Fin} {w0 : World} {M : Nat → Prop} {k : List It} {ops : Array Oper} {rest : List Oper} {e : Env} {H Hq : List Ck}
theorem bin_lssT {a b : Int} (h : a < b) : oH .lss .i64 a b = some (.bool true) := by simp [oH]; omega
theorem cE (hT : T.Ok P) {d : Nat} {t t' : Nat} {x y : Operand} {a b : Int} {ty : TypeId} {pos : String} {af : Array Edge} (hx : opv e x = some (.int .i64 a)) (hy : opv e y = some (.int .i64 b)) (hd : Nat.blt d n = true) (hp : a < b)
  (h : QL P ro n F w0 M k ops rest ((d, .bool true) :: e) H) : QL P ro n F w0 M k ops (⟨some d, .binOp .lss t x y t', ty, pos, af, none⟩ :: rest) e H := aA hT ((cP hx hy).trans (bin_lssT hp)) hd h
theorem aB3 {d : Nat} {t t' : Nat} {x y : Operand} {a b : Int} {ty : TypeId} {pos : String} {af : Array Edge} (p_ : (T.Ok P) ∧ (opv e x = some (.int .i64 a)) ∧ (opv e y = some (.int .i64 b)) ∧ (Nat.blt d n = true)) (hp : a < b) (h : QL P ro n F w0 M k ops rest ((d, .bool true) :: e) H) : QL P ro n F w0 M k ops (⟨some d, .binOp .lss t x y t', ty, pos, af, none⟩ :: rest) e H := cE p_.1 p_.2.1 p_.2.2.1 p_.2.2.2 hp h
theorem kX (hT : T.Ok P) {d : Nat} {t t' : Nat} {x y : Operand} {a b : Int} {ty : TypeId} {pos : String} {af : Array Edge} (hx : opv e x = some (.int .i64 a)) (hy : opv e y = some (.int .i64 b)) (hd : Nat.blt d n = true) (hp : a < b)
  (h : QF P ro n F w0 M k ops Hq rest ((d, .bool true) :: e) H) : QF P ro n F w0 M k ops Hq (⟨some d, .binOp .lss t x y t', ty, pos, af, none⟩ :: rest) e H := aF hT ((cP hx hy).trans (bin_lssT hp)) rfl hd h
theorem bin_lssF {a b : Int} (h : ¬ a < b) : oH .lss .i64 a b = some (.bool false) := by simp [oH]; omega
theorem cG (hT : T.Ok P) {d : Nat} {t t' : Nat} {x y : Operand} {a b : Int} {ty : TypeId} {pos : String} {af : Array Edge} (hx : opv e x = some (.int .i64 a)) (hy : opv e y = some (.int .i64 b)) (hd : Nat.blt d n = true) (hp : ¬ a < b)
  (h : QL P ro n F w0 M k ops rest ((d, .bool false) :: e) H) : QL P ro n F w0 M k ops (⟨some d, .binOp .lss t x y t', ty, pos, af, none⟩ :: rest) e H := aA hT ((cP hx hy).trans (bin_lssF hp)) hd h
theorem aB4 {d : Nat} {t t' : Nat} {x y : Operand} {a b : Int} {ty : TypeId} {pos : String} {af : Array Edge} (p_ : (T.Ok P) ∧ (opv e x = some (.int .i64 a)) ∧ (opv e y = some (.int .i64 b)) ∧ (Nat.blt d n = true)) (hp : ¬ a < b) (h : QL P ro n F w0 M k ops rest ((d, .bool false) :: e) H) : QL P ro n F w0 M k ops (⟨some d, .binOp .lss t x y t', ty, pos, af, none⟩ :: rest) e H := cG p_.1 p_.2.1 p_.2.2.1 p_.2.2.2 hp h
theorem kO (hT : T.Ok P) {d : Nat} {t t' : Nat} {x y : Operand} {a b : Int} {ty : TypeId} {pos : String} {af : Array Edge} (hx : opv e x = some (.int .i64 a)) (hy : opv e y = some (.int .i64 b)) (hd : Nat.blt d n = true) (hp : ¬ a < b)
  (h : QF P ro n F w0 M k ops Hq rest ((d, .bool false) :: e) H) : QF P ro n F w0 M k ops Hq (⟨some d, .binOp .lss t x y t', ty, pos, af, none⟩ :: rest) e H := aF hT ((cP hx hy).trans (bin_lssF hp)) rfl hd h
theorem bin_leqT {a b : Int} (h : a ≤ b) : oH .leq .i64 a b = some (.bool true) := by simp [oH]; omega
theorem jU (hT : T.Ok P) {d : Nat} {t t' : Nat} {x y : Operand} {a b : Int} {ty : TypeId} {pos : String} {af : Array Edge} (hx : opv e x = some (.int .i64 a)) (hy : opv e y = some (.int .i64 b)) (hd : Nat.blt d n = true) (hp : a ≤ b)
  (h : QL P ro n F w0 M k ops rest ((d, .bool true) :: e) H) : QL P ro n F w0 M k ops (⟨some d, .binOp .leq t x y t', ty, pos, af, none⟩ :: rest) e H := aA hT ((cP hx hy).trans (bin_leqT hp)) hd h
theorem qf_leqT (hT : T.Ok P) {d : Nat} {t t' : Nat} {x y : Operand} {a b : Int} {ty : TypeId} {pos : String} {af : Array Edge} (hx : opv e x = some (.int .i64 a)) (hy : opv e y = some (.int .i64 b)) (hd : Nat.blt d n = true) (hp : a ≤ b)
  (h : QF P ro n F w0 M k ops Hq rest ((d, .bool true) :: e) H) : QF P ro n F w0 M k ops Hq (⟨some d, .binOp .leq t x y t', ty, pos, af, none⟩ :: rest) e H := aF hT ((cP hx hy).trans (bin_leqT hp)) rfl hd h
theorem bin_leqF {a b : Int} (h : ¬ a ≤ b) : oH .leq .i64 a b = some (.bool false) := by simp [oH]; omega
theorem gO (hT : T.Ok P) {d : Nat} {t t' : Nat} {x y : Operand} {a b : Int} {ty : TypeId} {pos : String} {af : Array Edge} (hx : opv e x = some (.int .i64 a)) (hy : opv e y = some (.int .i64 b)) (hd : Nat.blt d n = true) (hp : ¬ a ≤ b)
  (h : QL P ro n F w0 M k ops rest ((d, .bool false) :: e) H) : QL P ro n F w0 M k ops (⟨some d, .binOp .leq t x y t', ty, pos, af, none⟩ :: rest) e H := aA hT ((cP hx hy).trans (bin_leqF hp)) hd h
theorem qf_leqF (hT : T.Ok P) {d : Nat} {t t' : Nat} {x y : Operand} {a b : Int} {ty : TypeId} {pos : String} {af : Array Edge} (hx : opv e x = some (.int .i64 a)) (hy : opv e y = some (.int .i64 b)) (hd : Nat.blt d n = true) (hp : ¬ a ≤ b)
  (h : QF P ro n F w0 M k ops Hq rest ((d, .bool false) :: e) H) : QF P ro n F w0 M k ops Hq (⟨some d, .binOp .leq t x y t', ty, pos, af, none⟩ :: rest) e H := aF hT ((cP hx hy).trans (bin_leqF hp)) rfl hd h
theorem bin_gtrT {a b : Int} (h : b < a) : oH .gtr .i64 a b = some (.bool true) := by simp [oH]; omega
theorem cR (hT : T.Ok P) {d : Nat} {t t' : Nat} {x y : Operand} {a b : Int} {ty : TypeId} {pos : String} {af : Array Edge} (hx : opv e x = some (.int .i64 a)) (hy : opv e y = some (.int .i64 b)) (hd : Nat.blt d n = true) (hp : b < a)
  (h : QL P ro n F w0 M k ops rest ((d, .bool true) :: e) H) : QL P ro n F w0 M k ops (⟨some d, .binOp .gtr t x y t', ty, pos, af, none⟩ :: rest) e H := aA hT ((cP hx hy).trans (bin_gtrT hp)) hd h
theorem gX (hT : T.Ok P) {d : Nat} {t t' : Nat} {x y : Operand} {a b : Int} {ty : TypeId} {pos : String} {af : Array Edge} (hx : opv e x = some (.int .i64 a)) (hy : opv e y = some (.int .i64 b)) (hd : Nat.blt d n = true) (hp : b < a)
  (h : QF P ro n F w0 M k ops Hq rest ((d, .bool true) :: e) H) : QF P ro n F w0 M k ops Hq (⟨some d, .binOp .gtr t x y t', ty, pos, af, none⟩ :: rest) e H := aF hT ((cP hx hy).trans (bin_gtrT hp)) rfl hd h
theorem bin_gtrF {a b : Int} (h : ¬ b < a) : oH .gtr .i64 a b = some (.bool false) := by simp [oH]; omega
theorem cB (hT : T.Ok P) {d : Nat} {t t' : Nat} {x y : Operand} {a b : Int} {ty : TypeId} {pos : String} {af : Array Edge} (hx : opv e x = some (.int .i64 a)) (hy : opv e y = some (.int .i64 b)) (hd : Nat.blt d n = true) (hp : ¬ b < a)
  (h : QL P ro n F w0 M k ops rest ((d, .bool false) :: e) H) : QL P ro n F w0 M k ops (⟨some d, .binOp .gtr t x y t', ty, pos, af, none⟩ :: rest) e H := aA hT ((cP hx hy).trans (bin_gtrF hp)) hd h
theorem aB1 {d : Nat} {t t' : Nat} {x y : Operand} {a b : Int} {ty : TypeId} {pos : String} {af : Array Edge} (p_ : (T.Ok P) ∧ (opv e x = some (.int .i64 a)) ∧ (opv e y = some (.int .i64 b)) ∧ (Nat.blt d n = true)) (hp : ¬ b < a) (h : QL P ro n F w0 M k ops rest ((d, .bool false) :: e) H) : QL P ro n F w0 M k ops (⟨some d, .binOp .gtr t x y t', ty, pos, af, none⟩ :: rest) e H := cB p_.1 p_.2.1 p_.2.2.1 p_.2.2.2 hp h
theorem gF (hT : T.Ok P) {d : Nat} {t t' : Nat} {x y : Operand} {a b : Int} {ty : TypeId} {pos : String} {af : Array Edge} (hx : opv e x = some (.int .i64 a)) (hy : opv e y = some (.int .i64 b)) (hd : Nat.blt d n = true) (hp : ¬ b < a)
  (h : QF P ro n F w0 M k ops Hq rest ((d, .bool false) :: e) H) : QF P ro n F w0 M k ops Hq (⟨some d, .binOp .gtr t x y t', ty, pos, af, none⟩ :: rest) e H := aF hT ((cP hx hy).trans (bin_gtrF hp)) rfl hd h
theorem bin_geqT {a b : Int} (h : b ≤ a) : oH .geq .i64 a b = some (.bool true) := by simp [oH]; omega
theorem jP (hT : T.Ok P) {d : Nat} {t t' : Nat} {x y : Operand} {a b : Int} {ty : TypeId} {pos : String} {af : Array Edge} (hx : opv e x = some (.int .i64 a)) (hy : opv e y = some (.int .i64 b)) (hd : Nat.blt d n = true) (hp : b ≤ a)
  (h : QL P ro n F w0 M k ops rest ((d, .bool true) :: e) H) : QL P ro n F w0 M k ops (⟨some d, .binOp .geq t x y t', ty, pos, af, none⟩ :: rest) e H := aA hT ((cP hx hy).trans (bin_geqT hp)) hd h
theorem qf_geqT (hT : T.Ok P) {d : Nat} {t t' : Nat} {x y : Operand} {a b : Int} {ty : TypeId} {pos : String} {af : Array Edge} (hx : opv e x = some (.int .i64 a)) (hy : opv e y = some (.int .i64 b)) (hd : Nat.blt d n = true) (hp : b ≤ a)
  (h : QF P ro n F w0 M k ops Hq rest ((d, .bool true) :: e) H) : QF P ro n F w0 M k ops Hq (⟨some d, .binOp .geq t x y t', ty, pos, af, none⟩ :: rest) e H := aF hT ((cP hx hy).trans (bin_geqT hp)) rfl hd h
theorem bin_geqF {a b : Int} (h : ¬ b ≤ a) : oH .geq .i64 a b = some (.bool false) := by simp [oH]; omega
theorem jT (hT : T.Ok P) {d : Nat} {t t' : Nat} {x y : Operand} {a b : Int} {ty : TypeId} {pos : String} {af : Array Edge} (hx : opv e x = some (.int .i64 a)) (hy : opv e y = some (.int .i64 b)) (hd : Nat.blt d n = true) (hp : ¬ b ≤ a)
  (h : QL P ro n F w0 M k ops rest ((d, .bool false) :: e) H) : QL P ro n F w0 M k ops (⟨some d, .binOp .geq t x y t', ty, pos, af, none⟩ :: rest) e H := aA hT ((cP hx hy).trans (bin_geqF hp)) hd h
theorem qf_geqF (hT : T.Ok P) {d : Nat} {t t' : Nat} {x y : Operand} {a b : Int} {ty : TypeId} {pos : String} {af : Array Edge} (hx : opv e x = some (.int .i64 a)) (hy : opv e y = some (.int .i64 b)) (hd : Nat.blt d n = true) (hp : ¬ b ≤ a)
  (h : QF P ro n F w0 M k ops Hq rest ((d, .bool false) :: e) H) : QF P ro n F w0 M k ops Hq (⟨some d, .binOp .geq t x y t', ty, pos, af, none⟩ :: rest) e H := aF hT ((cP hx hy).trans (bin_geqF hp)) rfl hd h
theorem bin_eqlT {a b : Int} (h : a = b) : oH .eql .i64 a b = some (.bool true) := by simp [oH]; omega
theorem bT (hT : T.Ok P) {d : Nat} {t t' : Nat} {x y : Operand} {a b : Int} {ty : TypeId} {pos : String} {af : Array Edge} (hx : opv e x = some (.int .i64 a)) (hy : opv e y = some (.int .i64 b)) (hd : Nat.blt d n = true) (hp : a = b)
  (h : QL P ro n F w0 M k ops rest ((d, .bool true) :: e) H) : QL P ro n F w0 M k ops (⟨some d, .binOp .eql t x y t', ty, pos, af, none⟩ :: rest) e H := aA hT ((cP hx hy).trans (bin_eqlT hp)) hd h
theorem aB2 {d : Nat} {t t' : Nat} {x y : Operand} {a b : Int} {ty : TypeId} {pos : String} {af : Array Edge} (p_ : (T.Ok P) ∧ (opv e x = some (.int .i64 a)) ∧ (opv e y = some (.int .i64 b)) ∧ (Nat.blt d n = true)) (hp : a = b) (h : QL P ro n F w0 M k ops rest ((d, .bool true) :: e) H) : QL P ro n F w0 M k ops (⟨some d, .binOp .eql t x y t', ty, pos, af, none⟩ :: rest) e H := bT p_.1 p_.2.1 p_.2.2.1 p_.2.2.2 hp h
theorem qf_eqlT (hT : T.Ok P) {d : Nat} {t t' : Nat} {x y : Operand} {a b : Int} {ty : TypeId} {pos : String} {af : Array Edge} (hx : opv e x = some (.int .i64 a)) (hy : opv e y = some (.int .i64 b)) (hd : Nat.blt d n = true) (hp : a = b)
  (h : QF P ro n F w0 M k ops Hq rest ((d, .bool true) :: e) H) : QF P ro n F w0 M k ops Hq (⟨some d, .binOp .eql t x y t', ty, pos, af, none⟩ :: rest) e H := aF hT ((cP hx hy).trans (bin_eqlT hp)) rfl hd h
theorem bin_eqlF {a b : Int} (h : a ≠ b) : oH .eql .i64 a b = some (.bool false) := by simp [oH]; omega
theorem cZ (hT : T.Ok P) {d : Nat} {t t' : Nat} {x y : Operand} {a b : Int} {ty : TypeId} {pos : String} {af : Array Edge} (hx : opv e x = some (.int .i64 a)) (hy : opv e y = some (.int .i64 b)) (hd : Nat.blt d n = true) (hp : a ≠ b)
  (h : QL P ro n F w0 M k ops rest ((d, .bool false) :: e) H) : QL P ro n F w0 M k ops (⟨some d, .binOp .eql t x y t', ty, pos, af, none⟩ :: rest) e H := aA hT ((cP hx hy).trans (bin_eqlF hp)) hd h
theorem qf_eqlF (hT : T.Ok P) {d : Nat} {t t' : Nat} {x y : Operand} {a b : Int} {ty : TypeId} {pos : String} {af : Array Edge} (hx : opv e x = some (.int .i64 a)) (hy : opv e y = some (.int .i64 b)) (hd : Nat.blt d n = true) (hp : a ≠ b)
  (h : QF P ro n F w0 M k ops Hq rest ((d, .bool false) :: e) H) : QF P ro n F w0 M k ops Hq (⟨some d, .binOp .eql t x y t', ty, pos, af, none⟩ :: rest) e H := aF hT ((cP hx hy).trans (bin_eqlF hp)) rfl hd h
theorem bin_neqT {a b : Int} (h : a ≠ b) : oH .neq .i64 a b = some (.bool true) := by simp [oH]; omega
theorem cC (hT : T.Ok P) {d : Nat} {t t' : Nat} {x y : Operand} {a b : Int} {ty : TypeId} {pos : String} {af : Array Edge} (hx : opv e x = some (.int .i64 a)) (hy : opv e y = some (.int .i64 b)) (hd : Nat.blt d n = true) (hp : a ≠ b)
  (h : QL P ro n F w0 M k ops rest ((d, .bool true) :: e) H) : QL P ro n F w0 M k ops (⟨some d, .binOp .neq t x y t', ty, pos, af, none⟩ :: rest) e H := aA hT ((cP hx hy).trans (bin_neqT hp)) hd h
theorem aB0 {d : Nat} {t t' : Nat} {x y : Operand} {a b : Int} {ty : TypeId} {pos : String} {af : Array Edge} (p_ : (T.Ok P) ∧ (opv e x = some (.int .i64 a)) ∧ (opv e y = some (.int .i64 b)) ∧ (Nat.blt d n = true)) (hp : a ≠ b) (h : QL P ro n F w0 M k ops rest ((d, .bool true) :: e) H) : QL P ro n F w0 M k ops (⟨some d, .binOp .neq t x y t', ty, pos, af, none⟩ :: rest) e H := cC p_.1 p_.2.1 p_.2.2.1 p_.2.2.2 hp h
theorem bin_neqF {a b : Int} (h : a = b) : oH .neq .i64 a b = some (.bool false) := by simp [oH]; omega
theorem aW (hT : T.Ok P) {d : Nat} {t t' : Nat} {x y : Operand} {a b : Int} {ty : TypeId} {pos : String} {af : Array Edge} (hx : opv e x = some (.int .i64 a)) (hy : opv e y = some (.int .i64 b)) (hd : Nat.blt d n = true) (hp : a = b)
  (h : QL P ro n F w0 M k ops rest ((d, .bool false) :: e) H) : QL P ro n F w0 M k ops (⟨some d, .binOp .neq t x y t', ty, pos, af, none⟩ :: rest) e H := aA hT ((cP hx hy).trans (bin_neqF hp)) hd h
theorem aA6 {d : Nat} {t t' : Nat} {x y : Operand} {a b : Int} {ty : TypeId} {pos : String} {af : Array Edge} (p_ : (T.Ok P) ∧ (opv e x = some (.int .i64 a)) ∧ (opv e y = some (.int .i64 b)) ∧ (Nat.blt d n = true)) (hp : a = b) (h : QL P ro n F w0 M k ops rest ((d, .bool false) :: e) H) : QL P ro n F w0 M k ops (⟨some d, .binOp .neq t x y t', ty, pos, af, none⟩ :: rest) e H := aW p_.1 p_.2.1 p_.2.2.1 p_.2.2.2 hp h
theorem qf_neqF (hT : T.Ok P) {d : Nat} {t t' : Nat} {x y : Operand} {a b : Int} {ty : TypeId} {pos : String} {af : Array Edge} (hx : opv e x = some (.int .i64 a)) (hy : opv e y = some (.int .i64 b)) (hd : Nat.blt d n = true) (hp : a = b)
  (h : QF P ro n F w0 M k ops Hq rest ((d, .bool false) :: e) H) : QF P ro n F w0 M k ops Hq (⟨some d, .binOp .neq t x y t', ty, pos, af, none⟩ :: rest) e H := aF hT ((cP hx hy).trans (bin_neqF hp)) rfl hd h
end
section
variable {P : Program} {ro : Cx} {n : Nat} {F : Fin} {w0 : World} {M : Nat → Prop} {k : List It} {ops : Array Oper} {rest : List Oper} {e : Env} {H Hq : List Ck}
end
section
variable {P : Program} {T : Tab} {ro : Cx} {n : Nat} {F : Fin} {w0 : World} {M : Nat → Prop} {k : List It} {ops : Array Oper} {rest : List Oper} {e : Env} {H Hq : List Ck}
end
section
variable {P : Program} {ro : Cx} {n : Nat} {F : Fin} {w0 : World} {M : Nat → Prop} {k : List It} {ops : Array Oper} {l : List Oper} {e : Env} {H H1 H2 : List Ck} {bs : List Bool}
structure QB (P : Program) (ro : Cx) (n : Nat) (F : Fin) (w0 : World) (M : Nat → Prop) (k : List It) (ops : Array Oper) (H1 H2 : List Ck) (bs : List Bool) (l : List Oper) (e : Env) (H : List Ck) : Prop where
 h : ∀ w, Sat w0 M H w → YB P ro n F k ops (Sat w0 M H1) (Sat w0 M H2) bs l e w
theorem q_drawB {id : Nat} (bs : List Bool) (Hq2 Hm : List Ck) (hH : Sp H (Hm ++ Hq2)) (hm : P.follows .mixedOrders = true) (hB : flB l.toArray = true) (hbs : flagB l.toArray bs = true)
  (h : QB P ro n F w0 M k l.toArray H Hq2 bs l e H) : Q P ro n F w0 M (.code (.region id l.toArray true) :: k) e H := .mk fun w hs a hf hd => by
 have hs1 : Sat w0 M H { w with drawn := w.drawn + 1 } := hs.keep (Chg.drew (N := []) w);have h12 : ∀ w, Sat w0 M H w → Sat w0 M Hq2 w := fun w hw => (hw.sp hH).right
 refine iL hm (flB_spec hB) (K := fun a w => S P ro.ro F k .normal a w) (Cq := fP (Sat w0 M H) (Sat w0 M Hq2) bs) (Ce := fP (Sat w0 M H) (Sat w0 M Hq2) bs)
  (fun i j oi oj => nA hbs h12 i j oi oj) (fun i => ?_) (fun _ _ h => h) ?_
 ·unfold fP;cases bs.getD i false
  ·exact h12 _ hs1
  ·exact hs1
 ·have h2 := wpFlB_eq (P := P) (ops := l.toArray) (C1 := Sat w0 M H) (C2 := Sat w0 M Hq2) (bs := bs) (K := fun a w => S P ro.ro F k .normal a w) l 0 (by simp);rw [show List.range l.toArray.size = List.range' 0 l.length from by simp [List.range_eq_range'], h2];exact h.h _ hs1 a hf hd
theorem qb_T (c : Nat) (hb : (bs.take c).all (fun x => x == true) = true) (hc : Nat.ble c bs.length = true) (hH : Sp H H1)
  (h : ∀ K1 : Act → World → Prop, (∀ e' H', QB P ro n F w0 M k ops H1 H2 (bs.drop c) (l.drop c) e' H' → Q P ro n F w0 M (.k K1 :: k) e' H') → QF P ro n F w0 M (.k K1 :: k) ops H1 (l.take c) e []) :
  QB P ro n F w0 M k ops H1 H2 bs l e H := .mk fun w hs => by
 refine yb_seg true c hb (Nat.le_of_ble_eq_true hc) (fun K1 hK1 => ?_);have h3 := h K1 (fun e' H' hq => .mk fun w' hw' a' hf' hd' => hK1 e' w' (hq.h w' hw') a' hf' hd');exact h3.h w (hs.sp hH)
theorem qb_F (c : Nat) (Hm : List Ck) (hb : (bs.take c).all (fun x => x == false) = true) (hc : Nat.ble c bs.length = true) (hH : Sp H (Hm ++ H2))
  (h : ∀ K1 : Act → World → Prop, (∀ e' H', QB P ro n F w0 M k ops H1 H2 (bs.drop c) (l.drop c) e' H' → Q P ro n F w0 M (.k K1 :: k) e' H') → QF P ro n F w0 M (.k K1 :: k) ops H2 (l.take c) e Hm) :
  QB P ro n F w0 M k ops H1 H2 bs l e H := .mk fun w hs => by
 refine yb_seg false c hb (Nat.le_of_ble_eq_true hc) (fun K1 hK1 => ?_);have h3 := h K1 (fun e' H' hq => .mk fun w' hw' a' hf' hd' => hK1 e' w' (hq.h w' hw') a' hf' hd');exact h3.h w (hs.sp hH)
theorem qb_nil {bs : List Bool} (h : Q P ro n F w0 M k e H) : QB P ro n F w0 M k ops H1 H2 bs [] e H := .mk fun w hs => yb_nil (h.h w hs)
end
section
variable {P : Program} {T : Tab}
variable {ro : Cx} {n : Nat} {F : Fin} {w0 : World} {M : Nat → Prop} {k : List It} {ops : Array Oper} {rest : List Oper} {e : Env} {H Hq : List Ck}
theorem iB (hT : T.Ok P) {t : Nat} {x y : Operand} {g off m c et : Nat} {xs : List Value} {u : Value} {H' : List Ck} {ty : TypeId} {pos : String} {af : Array Edge} (i : Nat)
  (hx : opv e x = some (.pointer (some ⟨g, off, none⟩))) (hy : opv e y = some u) (h1 : has T.one t = true) (hv : dJ u = true)
  (hr : Rp H (.ow (aB9 g m c) et 1 m xs) (.ow (aB9 g m c) et 1 m (xs.set i u)) H') (ho : off = i) (hi : i < xs.length)
  (h : QF P ro n F w0 M k ops Hq rest e H') : QF P ro n F w0 M k ops Hq (⟨none, .store t x y, ty, pos, af, none⟩ :: rest) e H := .mk fun w hs => by
 subst ho;obtain ⟨hl, h2⟩ : w.ownsRow 0 et 1 (aB9 g m c) m xs := hs.mem (hr.app Hq).mem;rcases h2 with ⟨hv', _⟩ | ⟨g', cap, cur, hv', hg, hh, hnc, hcm, hcs, ht⟩
 ·cases hv'
 cases hv'
 have hb : Blk w g cur.toList et := by simpa [Blk] using hh
 have hcl : off < cur.toList.length := by
  have := congrArg List.length ht;simp at this;simp;omega
 refine yf_store1 hT hx hy h1 hv hb hcl (fun w' hc _ hb' => ?_)
 have hs' := hs.rep (hr.app Hq) hc (fun k hk => by
  obtain rfl : k = g := by simpa using hk
  rfl) (by
  refine ⟨by simpa using hl, .inr ⟨g, c, (cur.toList.set off u).toArray, Z, hg, by simpa [Blk] using hb', hnc, hcm, by simpa using hcs, ?_⟩⟩;simp only [List.toList_toArray];rw [List.take_set, ht]) (fun b hb2 => by
  have : b = g := by simpa [Ck.D, Value.ownBlock] using hb2.symm
  subst this;exact ⟨.inl rfl, hb'.lt⟩)
 exact ⟨hs'.right, h.h w' hs'⟩
theorem own_lt {w : World} {et g m c : Nat} {xs : List Value} (h : w.ownsRow 0 et 1 (aB9 g m c) m xs) : g < w.heap.size := by
 obtain ⟨hl, h2⟩ := h;rcases h2 with ⟨hv', _⟩ | ⟨g', cap, cur, hv', hg, hh, hnc, hcm, hcs, ht⟩
 ·cases hv'
 cases hv'
 have hb : Blk w g cur.toList et := by simpa [Blk] using hh
 exact hb.lt
theorem Sat.own0 {w : World} {et g m c : Nat} {xs : List Value} (h : w.ownsRow 0 et 1 (aB9 g m c) m xs) : Sat w (fun x => x = g) [.ow (aB9 g m c) et 1 m xs] w :=
 ⟨ChgP.refl _ _, by simpa [Ck.p] using h, .cons (by simp) .nil, fun ck hc x hx => by
  obtain rfl : ck = .ow (aB9 g m c) et 1 m xs := by simpa using hc
  obtain rfl : x = g := by simpa [Ck.D, Value.ownBlock] using hx.symm
  exact ⟨own_lt h, .inl Z⟩⟩
end
section
variable {P : Program} {T : Tab} {ro : Cx} {n : Nat} {F : Fin} {w0 : World} {M : Nat → Prop} {k : List It} {ops : Array Oper} {rest : List Oper} {e : Env} {H Hq : List Ck}
def boolB (P : Program) (t : Nat) : Bool := match P.underlying t with | some .bool => true | _ => false
theorem boolB_eq {t : Nat} (h : boolB P t = true) : P.underlying t = some .bool := by
 unfold boolB at h;split at h
 ·assumption
 ·cases h
theorem exec_eqb {a : Act} {d t t' : Nat} {x y : Operand} {p q : Bool} {ty : TypeId} {pos : String} {af : Array Edge} (hf : Fits n e a) (hx : opv e x = some (.bool p)) (hy : opv e y = some (.bool q)) (hB : boolB P t = true) (w : World) :
  (execOp a.eval ⟨some d, .binOp .eql t x y t', ty, pos, af, none⟩).run P w = .ok (.value (.bool (p == q))) w ∧ (execOp a.eval ⟨some d, .binOp .neq t x y t', ty, pos, af, none⟩).run P w = .ok (.value (.bool (!(p == q)))) w := by
 have e1 := hf.op hx;have e2 := hf.op hy;have hu := boolB_eq hB;have h3 := run_equalIn_bool w 9999 t p q hu;constructor <;> simp [execOp, e1, e2, eqGuard, binOp, Op.equal, Op.maxDepth, h3]
theorem ql_eqb {d t t' : Nat} {x y : Operand} {p q : Bool} {ty : TypeId} {pos : String} {af : Array Edge} (hB : boolB P t = true) (hx : opv e x = some (.bool p)) (hy : opv e y = some (.bool q)) (hd : Nat.blt d n = true)
  (h : QL P ro n F w0 M k ops rest ((d, .bool (p == q)) :: e) H) : QL P ro n F w0 M k ops (⟨some d, .binOp .eql t x y t', ty, pos, af, none⟩ :: rest) e H := .mk fun w hw =>
 eV (by simp) hd (fun _ hf => (exec_eqb hf hx hy hB w).1) (h.h w hw)
theorem ql_neb {d t t' : Nat} {x y : Operand} {p q : Bool} {ty : TypeId} {pos : String} {af : Array Edge} (hB : boolB P t = true) (hx : opv e x = some (.bool p)) (hy : opv e y = some (.bool q)) (hd : Nat.blt d n = true)
  (h : QL P ro n F w0 M k ops rest ((d, .bool (!(p == q))) :: e) H) : QL P ro n F w0 M k ops (⟨some d, .binOp .neq t x y t', ty, pos, af, none⟩ :: rest) e H := .mk fun w hw =>
 eV (by simp) hd (fun _ hf => (exec_eqb hf hx hy hB w).2) (h.h w hw)
end
section
variable {P : Program} {T : Tab}
variable {ro : Cx} {n : Nat} {F : Fin} {k : List It} {ops : Array Oper} {rest : List Oper} {e : Env} {w0 : World} {M : Nat → Prop} {H Hq : List Ck}
def ItOkP {α β : Type} (P : Program) (gf : Nat) (lb : List Value) (enc : α → List Value) (val : α → β) (pc : α → List Ck) (xs : List β) (w : World) (D : Nat → Prop) : Prop :=
 ∀ (fv : Value) (σ : Type) (L : σ → List Ck) (I : List β → σ → Prop) (E : σ → Prop) (s0 : σ), dJ fv = true → I [] s0 → (∀ b, DL (L s0) b → D b) → Sat w (DL (L s0)) (L s0) w →
  (∀ pre x post s w', xs = pre ++ val x :: post → I pre s → Sat w (DL (L s0)) (L s ++ pc x) w' → CaF P fv (enc x) w' (fun v w'' => ∃ s', ((v = .bool true ∧ I (pre ++ [val x]) s') ∨ (v = .bool false ∧ E s')) ∧ Sat w' (DL (L s ++ pc x)) (L s') w'')) →
  Ca P gf (fv :: lb) w (fun _ w' => ∃ s', (I xs s' ∨ E s') ∧ Sat w (DL (L s0)) (L s') w')
end
section
variable {P : Program} {T : Tab} {ro : Cx} {n : Nat} {F : Fin} {w0 : World} {M : Nat → Prop} {k : List It} {ops : Array Oper} {rest : List Oper} {e : Env} {H Hq : List Ck}
theorem oneV_cell {v : Value} (h : dJ v = true) : v.oneCell' = true := by
 cases v <;> first | rfl | simp [dJ] at h
theorem run_copyR {w : World} {dT sT et sz m o c lo hi g : Nat} {v : Value} {cur news : List Value} {bt : TypeId} (ty : TypeId) (hu : P.underlying dT = some (.slice et)) (hsz : (P.info? et).map (·.size) = some sz)
  (hb : Blk w g cur bt) (hrd : Rd w lo hi v sz m news) (hfit : o + news.length ≤ cur.length) (h1 : ∀ x ∈ news, dJ x = true) :
  ∃ w', (Builtin.copy_ #[dT, sT] ty #[.slice (some ⟨g, o, none⟩) m c, v]).run P w = .ok (goInt m) w' ∧ Chg [g] w w' ∧ Blk w' g (cur.take o ++ news ++ cur.drop (o + news.length)) bt := by
 obtain ⟨hl, hr⟩ := hrd;cases hq : P.info? et with
 | none => simp [hq] at hsz
 | some i =>
  have hi : i.size = sz := by simpa [hq] using hsz
  subst hi
  have key : ∀ (a : Addr) (cap : Nat), (∀ j x, news[j]? = some x → w.cell? (a.add j) = some x) → ∃ w', (Builtin.copy_ #[dT, sT] ty #[.slice (some ⟨g, o, none⟩) m c, .slice (some a) m cap]).run P w = .ok (goInt m) w' ∧ Chg [g] w w' ∧ Blk w' g (cur.take o ++ news ++ cur.drop (o + news.length)) bt := by
   intro a cap hc;have hfc := run_firstCells_some (P := P) w i.size m a m cap news hl hc
   have hst : (storeCells ⟨g, o, none⟩ news).run P w = .ok () (w.setRow g (cur.take o ++ news ++ cur.drop (o + news.length)).toArray) := by
    have := run_storeCells_at P g o bt news 0 cur.toArray w hb (by simpa using hfit) (fun x hx => oneV_cell (h1 x hx));simpa using this
   refine ⟨w.setRow g (cur.take o ++ news ++ cur.drop (o + news.length)).toArray, ?_, ⟨Z, Z, Z, by simp [World.setRow], fun k _ hk => setRow_other w g k _ (by simpa using hk)⟩, setRow_heap w g _ _ bt (0, 0) hb⟩;simp [Builtin.copy_, run_underlying hu, Builtin.lenOf, sizeOf, typeInfo, hq, hfc, hst]
  rcases hr with ⟨rfl | ⟨a, cap, rfl⟩, rfl⟩ | ⟨b, off, cap, rfl, _, hc⟩
  ·have hn : news = [] := List.eq_nil_of_length_eq_zero (by simpa using hl);subst hn;exact ⟨w, run_copy_nil P w dT sT ty et _ _ _ hu (by simp [hq]), Chg.refl _ _, by simpa using hb⟩
  ·have hn : news = [] := List.eq_nil_of_length_eq_zero (by simpa using hl);subst hn;exact key a cap (by simp)
  ·refine key _ _ (fun j x hj => ?_);have hjl := (List.getElem?_eq_some_iff.1 hj).1;rw [Addr.add_lit, hc j hjl, hj]
theorem ql_copyR {d dT sT et sz m c o g : Nat} {x y : Operand} {v : Value} {bt : TypeId} {cur news : List Value} {H' : List Ck} {ty : TypeId} {pos : String} {af : Array Edge} (hu : P.underlying dT = some (.slice et)) (hsz : (P.info? et).map (·.size) = some sz)
  (hx : opv e x = some (.slice (some ⟨g, o, none⟩) m c)) (hy : opv e y = some v) (hd : Nat.blt d n = true) (hr : Rp H (.pt g cur bt) (.pt g (cur.take o ++ news ++ cur.drop (o + news.length)) bt) H') (hfit : o + news.length ≤ cur.length) (h1 : ∀ x ∈ news, dJ x = true)
  (hrd : ∀ w, Sat w0 M H w → ∃ lo hi, Rd w lo hi v sz m news) (h : QL P ro n F w0 M k ops rest ((d, goInt m) :: e) H') :
  QL P ro n F w0 M k ops (⟨some d, .call { callee := .builtin .copy, args := [x, y].toArray, argTypes := [dT, sT].toArray }, ty, pos, af, none⟩ :: rest) e H := .mk fun w hs => by
 obtain ⟨lo, hi, hrd⟩ := hrd w hs;obtain ⟨w', hrun, hc, hb⟩ := run_copyR (P := P) (sT := sT) ty hu hsz (hs.blk hr.mem) hrd hfit h1 (c := c);refine eV (w' := w') (by simp) hd (fun ac hf => ?_) (h.h w' (hs.pt hr hc hb));simp [execOp, resolve, invoke, builtin, hf.op hx, hf.op hy, hrun]
theorem elem_slice {t et : Nat} (hu : P.underlying t = some (.slice et)) : P.elem t = et := by simp [Program.elem, hu]
theorem run_sliceFrom {t et sz : Nat} (hu : P.underlying t = some (.slice et)) (hsz : (P.info? et).map (·.size) = some sz) {a : Option Addr} {len cap : Nat} {kl : IntKind} {l : Int} (h0 : 0 ≤ l) (h1 : l ≤ len) (w : World) :
  (Instr.sliceAt t (.slice a len cap) (some (.int kl l)) none none).run P w = .ok (.slice (if cap = l.toNat then a else a.map (·.add (l.toNat * sz))) (len - l.toNat) (cap - l.toNat)) w := by
 have he := elem_slice hu;cases hq : P.info? et with
 | none => simp [hq] at hsz
 | some i =>
  have hi : i.size = sz := by simpa [hq] using hsz
  subst hi;rw [run_sliceAt_slice w t _ _ _ _ (by rw [he]; exact hu), run_slice_l w t a len cap (by rw [he]; exact hu) kl l h0 h1, he];simp [sizeOf, typeInfo, hq, sliced]
theorem run_sliceTo {t et sz : Nat} (hu : P.underlying t = some (.slice et)) (hsz : (P.info? et).map (·.size) = some sz) {a : Option Addr} {len cap : Nat} {kl : IntKind} {l : Int} (h0 : 0 ≤ l) (h1 : l ≤ cap) (w : World) :
  (Instr.sliceAt t (.slice a len cap) none (some (.int kl l)) none).run P w = .ok (.slice (if cap = 0 then a else a.map (·.add 0)) l.toNat cap) w := by
 have he := elem_slice hu;cases hq : P.info? et with
 | none => simp [hq] at hsz
 | some i =>
  have hi : i.size = sz := by simpa [hq] using hsz
  subst hi;rw [run_sliceAt_slice w t _ _ _ _ (by rw [he]; exact hu), run_slice_h w t a len cap (by rw [he]; exact hu) kl l h0 h1, he];simp [sizeOf, typeInfo, hq, sliced]
theorem ql_sliceFrom {d t et sz : Nat} {x lo : Operand} {a : Option Addr} {len cap : Nat} {kl : IntKind} {l : Int} {ty : TypeId} {pos : String} {af : Array Edge} (hu : P.underlying t = some (.slice et)) (hsz : (P.info? et).map (·.size) = some sz)
  (hx : opv e x = some (.slice a len cap)) (hl : opv e lo = some (.int kl l)) (hd : Nat.blt d n = true) (h0 : 0 ≤ l) (h1 : l ≤ len)
  (h : QL P ro n F w0 M k ops rest ((d, .slice (if cap = l.toNat then a else a.map (·.add (l.toNat * sz))) (len - l.toNat) (cap - l.toNat)) :: e) H) : QL P ro n F w0 M k ops (⟨some d, .slice t x (some lo) none none, ty, pos, af, none⟩ :: rest) e H := .mk fun w hw =>
 eV (by simp) hd (fun ac hf => by
  simp only [execOp, hf.op hx];simp [hf.op hl, run_sliceFrom hu hsz h0 h1 w]) (h.h w hw)
theorem jW {d t et sz : Nat} {x lo : Operand} {a : Option Addr} {len cap : Nat} {kl : IntKind} {l : Int} {ty : TypeId} {pos : String} {af : Array Edge} (hu : P.underlying t = some (.slice et)) (hsz : (P.info? et).map (·.size) = some sz)
  (hx : opv e x = some (.slice a len cap)) (hl : opv e lo = some (.int kl l)) (hd : Nat.blt d n = true) (h0 : 0 ≤ l) (h1 : l ≤ cap)
  (h : QL P ro n F w0 M k ops rest ((d, .slice (if cap = 0 then a else a.map (·.add 0)) l.toNat cap) :: e) H) : QL P ro n F w0 M k ops (⟨some d, .slice t x none (some lo) none, ty, pos, af, none⟩ :: rest) e H := .mk fun w hw =>
 eV (by simp) hd (fun ac hf => by
  simp only [execOp, hf.op hx];simp [hf.op hl, run_sliceTo hu hsz h0 h1 w]) (h.h w hw)
end
section
variable {P : Program} {ro : Cx} {n : Nat} {F : Fin} {w0 : World} {M : Nat → Prop} {k : List It} {ops : Array Oper} {l : List Oper} {e : Env} {H H1 H2 : List Ck} {bs : List Bool}
theorem q_drawB2 {id : Nat} (bs : List Bool) (Hq1 Hm1 Hq2 Hm2 : List Ck) (hH1 : Sp H (Hm1 ++ Hq1)) (hH2 : Sp Hq1 (Hm2 ++ Hq2)) (hm : P.follows .mixedOrders = true) (hB : flB l.toArray = true) (hbs : flagB l.toArray bs = true)
  (h : QB P ro n F w0 M k l.toArray Hq1 Hq2 bs l e H) : Q P ro n F w0 M (.code (.region id l.toArray true) :: k) e H := .mk fun w hs a hf hd => by
 have hs0 : Sat w0 M H { w with drawn := w.drawn + 1 } := hs.keep (Chg.drew (N := []) w);have hs1 : Sat w0 M Hq1 { w with drawn := w.drawn + 1 } := (hs0.sp hH1).right;have h12 : ∀ w, Sat w0 M Hq1 w → Sat w0 M Hq2 w := fun w hw => (hw.sp hH2).right
 refine iL hm (flB_spec hB) (K := fun a w => S P ro.ro F k .normal a w) (Cq := fP (Sat w0 M Hq1) (Sat w0 M Hq2) bs) (Ce := fP (Sat w0 M Hq1) (Sat w0 M Hq2) bs)
  (fun i j oi oj => nA hbs h12 i j oi oj) (fun i => ?_) (fun _ _ h => h) ?_
 ·unfold fP;cases bs.getD i false
  ·exact h12 _ hs1
  ·exact hs1
 ·have h2 := wpFlB_eq (P := P) (ops := l.toArray) (C1 := Sat w0 M Hq1) (C2 := Sat w0 M Hq2) (bs := bs) (K := fun a w => S P ro.ro F k .normal a w) l 0 (by simp);rw [show List.range l.toArray.size = List.range' 0 l.length from by simp [List.range_eq_range'], h2];exact h.h _ hs0 a hf hd
theorem qb_T2 (c : Nat) (Hm : List Ck) (hb : (bs.take c).all (fun x => x == true) = true) (hc : Nat.ble c bs.length = true) (hH : Sp H (Hm ++ H1))
  (h : ∀ K1 : Act → World → Prop, (∀ e' H', QB P ro n F w0 M k ops H1 H2 (bs.drop c) (l.drop c) e' H' → Q P ro n F w0 M (.k K1 :: k) e' H') → QF P ro n F w0 M (.k K1 :: k) ops H1 (l.take c) e Hm) :
  QB P ro n F w0 M k ops H1 H2 bs l e H := .mk fun w hs => by
 refine yb_seg true c hb (Nat.le_of_ble_eq_true hc) (fun K1 hK1 => ?_);have h3 := h K1 (fun e' H' hq => .mk fun w' hw' a' hf' hd' => hK1 e' w' (hq.h w' hw') a' hf' hd');exact h3.h w (hs.sp hH)
end
section
variable {P : Program} {ops : Array Oper} {Cq Ce : Nat → World → Prop} {K : Act → World → Prop}
def lE (P : Program) (ops : Array Oper) (Cq Ce : Nat → World → Prop) (K : Act → World → Prop) : OT → Act → World → Prop
 | .nil, a, w => K a w
 | .op i t, a, w => match ops[i]? with
  | none => False
  | some o => if Region.wanted o (yielded ops a.tmps) = true then
    (if eff o.op = true then bS P o a w (fun v w' => Ce i w' ∧ lE P ops Cq Ce K t (a.put o.dst v) w')
     else ∃ v, (∀ w', Cq i w' → (execOp a.eval o).run P w' = .ok (.value v) w') ∧ lE P ops Cq Ce K t (a.put o.dst v) w)
   else lE P ops Cq Ce K t (a.put o.dst undef) w
 | .alt t u, a, w => lE P ops Cq Ce K t a w ∧ lE P ops Cq Ce K u a w
theorem jN (hF : FlM ops) (hH : ∀ (i j : Nat) oi oj, ops[i]? = some oi → ops[j]? = some oj → eff oi.op = false → eff oj.op = true → ((dW ops.toList).getD j 0).testBit i = false → ∀ w, Ce j w → Cq i w) {j : Nat} {oj : Oper} (hj : ops[j]? = some oj) (hne : eff oj.op = false) : ∀ (t : OT) (rem : List Nat) (a : Act) (w : World), rem.Nodup → OkT ops t rem → j ∈ rem → (∀ i ∈ rem, ((dW ops.toList).getD j 0).testBit i = false) →
  Region.wanted oj (yielded ops a.tmps) = true → Cq j w → lE P ops Cq Ce K t a w → ∃ v, (∀ w', Cq j w' → (execOp a.eval oj).run P w' = .ok (.value v) w') ∧ lE P ops Cq Ce K (t.del j) (a.put oj.dst v) w
 | .nil, rem, a, w, hn, hok, hjr, hm, hw, hC, h => by
  have : rem = [] := hok;subst this;cases hjr
 | .alt t u, rem, a, w, hn, ⟨o1, o2⟩, hjr, hm, hw, hC, ⟨h1, h2⟩ => by
  obtain ⟨v, hv, h3⟩ := jN hF hH hj hne t rem a w hn o1 hjr hm hw hC h1;obtain ⟨v', hv', h4⟩ := jN hF hH hj hne u rem a w hn o2 hjr hm hw hC h2;have e1 := hv w hC;have e2 := hv' w hC;rw [e1] at e2;have : v = v' := by simpa using e2
  subst this;exact ⟨v, hv, h3, h4⟩
 | .op i t, rem, a, w, hn, ⟨⟨oi, hi, _⟩, hir, him, hok⟩, hjr, hm, hw, hC, h => by
  by_cases hij : i = j
  ·subst hij;rw [hj] at hi;obtain rfl := Option.some.inj hi;simp only [lE, hj, hw, if_true, hne, Bool.false_eq_true, if_false] at h;simpa [OT.del] using h
  ·have hji : j ∈ rem.erase i := (List.mem_erase_of_ne (fun h => hij h.symm)).2 hjr;have ih' := fun a w => jN hF hH hj hne t (rem.erase i) a w (hn.erase i) hok hji (fun b hb => hm b (List.mem_of_mem_erase hb))
   have hap := gI hF hij hi hj (hm i hir) (him j hjr);obtain ⟨p1, p2, p3⟩ := Oper.apart_spec hap;have kj := hF.kind j oj hj;have ki := hF.kind i oi hi;have ej : ∀ (a : Act) v, execOp (a.put oi.dst v).eval oj = execOp a.eval oj := fun a v => dF kj a oi.dst v p1
   have ei : ∀ (a : Act) v, execOp (a.put oj.dst v).eval oi = execOp a.eval oi := fun a v => dF ki a oj.dst v p3
   have wj : ∀ (a : Act) v, Region.wanted oj (yielded ops (a.put oi.dst v).tmps) = Region.wanted oj (yielded ops a.tmps) := fun a v => wanted_put oj a oi.dst v p1
   have wi : ∀ (a : Act) v, Region.wanted oi (yielded ops (a.put oj.dst v).tmps) = Region.wanted oi (yielded ops a.tmps) := fun a v => wanted_put oi a oj.dst v p3
   have cm : ∀ (a : Act) u v, (a.put oi.dst u).put oj.dst v = (a.put oj.dst v).put oi.dst u := fun a u v => Act.put_comm a u v p2
   have ed : (OT.op i t).del j = .op i (t.del j) := by simp [OT.del, hij]
   rw [ed];simp only [lE, hi] at h ⊢;by_cases hwi : Region.wanted oi (yielded ops a.tmps) = true
   ·simp only [hwi, if_true] at h;by_cases he : eff oi.op = true
    ·simp only [he, if_true] at h;obtain ⟨v0, w0, hC0, h0⟩ := h.some;obtain ⟨v, hv, _⟩ := ih' _ w0 (by rw [wj]; exact hw) (hH j i oj oi hj hi hne he (him j hjr) w0 hC0) h0;simp only [ej] at hv;refine ⟨v, hv, ?_⟩;rw [wi];simp only [hwi, if_true, he]
     have h1 : bS P oi (a.put oj.dst v) w (fun u w' => Ce i w' ∧ lE P ops Cq Ce K t (a.put oi.dst u) w') := by
      unfold bS at h ⊢;rw [ei];exact h
     refine h1.mono fun u w' ⟨hC', h2⟩ => ⟨hC', ?_⟩;obtain ⟨v', hv', h3⟩ := ih' _ w' (by rw [wj]; exact hw) (hH j i oj oi hj hi hne he (him j hjr) w' hC') h2
     simp only [ej] at hv';have e1 := hv w hC;have e2 := hv' w hC;rw [e1] at e2;have : v = v' := by simpa using e2
     subst this;rw [cm] at h3;exact h3
    ·simp only [he] at h;obtain ⟨u, hu, h⟩ := h;obtain ⟨v, hv, h3⟩ := ih' _ w (by rw [wj]; exact hw) hC h;simp only [ej] at hv;refine ⟨v, hv, ?_⟩;rw [wi];simp only [hwi, if_true, he];refine ⟨u, fun w' hC' => by rw [ei]; exact hu w' hC', ?_⟩;rw [cm] at h3;exact h3
   ·simp only [hwi] at h;obtain ⟨v, hv, h3⟩ := ih' _ w (by rw [wj]; exact hw) hC h;simp only [ej] at hv;refine ⟨v, hv, ?_⟩;rw [wi];simp only [hwi];rw [cm] at h3;exact h3
theorem kW (hF : FlM ops) {j : Nat} {oj : Oper} (hj : ops[j]? = some oj) : ∀ (t : OT) (rem : List Nat) (a : Act) (w : World), rem.Nodup → OkT ops t rem → j ∈ rem → (∀ i ∈ rem, ((dW ops.toList).getD j 0).testBit i = false) →
  Region.wanted oj (yielded ops a.tmps) = false → lE P ops Cq Ce K t a w → lE P ops Cq Ce K (t.del j) (a.put oj.dst undef) w
 | .nil, rem, a, w, hn, hok, hjr, hm, hw, h => by
  have : rem = [] := hok;subst this;cases hjr
 | .alt t u, rem, a, w, hn, ⟨o1, o2⟩, hjr, hm, hw, ⟨h1, h2⟩ => ⟨kW hF hj t rem a w hn o1 hjr hm hw h1, kW hF hj u rem a w hn o2 hjr hm hw h2⟩
 | .op i t, rem, a, w, hn, ⟨⟨oi, hi, _⟩, hir, him, hok⟩, hjr, hm, hw, h => by
  by_cases hij : i = j
  ·subst hij;rw [hj] at hi;obtain rfl := Option.some.inj hi;simp only [lE, hj, hw, Bool.false_eq_true, if_false] at h;simpa [OT.del] using h
  ·have hji : j ∈ rem.erase i := (List.mem_erase_of_ne (fun h => hij h.symm)).2 hjr;have ih' := fun a w => kW hF hj t (rem.erase i) a w (hn.erase i) hok hji (fun b hb => hm b (List.mem_of_mem_erase hb))
   have hap := gI hF hij hi hj (hm i hir) (him j hjr);obtain ⟨p1, p2, p3⟩ := Oper.apart_spec hap;have ki := hF.kind i oi hi;have ei : ∀ (a : Act) v, execOp (a.put oj.dst v).eval oi = execOp a.eval oi := fun a v => dF ki a oj.dst v p3
   have wj : ∀ (a : Act) v, Region.wanted oj (yielded ops (a.put oi.dst v).tmps) = Region.wanted oj (yielded ops a.tmps) := fun a v => wanted_put oj a oi.dst v p1
   have wi : ∀ (a : Act) v, Region.wanted oi (yielded ops (a.put oj.dst v).tmps) = Region.wanted oi (yielded ops a.tmps) := fun a v => wanted_put oi a oj.dst v p3
   have cm : ∀ (a : Act) u v, (a.put oi.dst u).put oj.dst v = (a.put oj.dst v).put oi.dst u := fun a u v => Act.put_comm a u v p2
   have ed : (OT.op i t).del j = .op i (t.del j) := by simp [OT.del, hij]
   rw [ed];simp only [lE, hi] at h ⊢;rw [wi];by_cases hwi : Region.wanted oi (yielded ops a.tmps) = true
   ·simp only [hwi, if_true] at h ⊢;by_cases he : eff oi.op = true
    ·simp only [he, if_true] at h ⊢
     have h1 : bS P oi (a.put oj.dst undef) w (fun u w' => Ce i w' ∧ lE P ops Cq Ce K t (a.put oi.dst u) w') := by
      unfold bS at h ⊢;rw [ei];exact h
     refine h1.mono fun u w' ⟨hC', h2⟩ => ⟨hC', ?_⟩;have h3 := ih' _ w' (by rw [wj]; exact hw) h2
     rw [cm] at h3;exact h3
    ·simp only [he] at h ⊢;obtain ⟨u, hu, h⟩ := h;have h3 := ih' _ w (by rw [wj]; exact hw) h;refine ⟨u, fun w' hC' => by rw [ei]; exact hu w' hC', ?_⟩;rw [cm] at h3;exact h3
   ·simp only [hwi] at h ⊢;have h3 := ih' _ w (by rw [wj]; exact hw) h;rw [cm] at h3;exact h3
theorem mZ (hF : FlM ops) {j : Nat} {oj : Oper} (hj : ops[j]? = some oj) (he : eff oj.op = true) : ∀ (t t' : OT) (rem : List Nat) (a : Act) (w : World), rem.Nodup → OkT ops t rem → j ∈ rem → (∀ i ∈ rem, ((dW ops.toList).getD j 0).testBit i = false) →
  Region.wanted oj (yielded ops a.tmps) = true → t.take ops j = some t' → lE P ops Cq Ce K t a w → bS P oj a w (fun v w' => Ce j w' ∧ lE P ops Cq Ce K t' (a.put oj.dst v) w')
 | .nil, _, _, _, _, _, _, _, _, _, ht, _ => by simp [OT.take] at ht
 | .alt t u, t', rem, a, w, hn, ⟨o1, o2⟩, hjr, hm, hw, ht, ⟨h1, h2⟩ => by
  unfold OT.take at ht;split at ht
  ·rename_i x hx
   cases ht
   exact mZ hF hj he t _ rem a w hn o1 hjr hm hw hx h1
  ·exact mZ hF hj he u t' rem a w hn o2 hjr hm hw ht h2
 | .op i t, t', rem, a, w, hn, ⟨⟨oi, hi, _⟩, hir, him, hok⟩, hjr, hm, hw, ht, h => by
  unfold OT.take at ht;split at ht
  ·rename_i hij
   subst hij;cases ht
   rw [hj] at hi;obtain rfl := Option.some.inj hi;simp only [lE, hj, hw, if_true, he] at h;exact h
  ·rename_i hij
   split at ht
   ·cases ht
   ·rename_i hei0
    have hei : eff oi.op = false := by simpa [gT, hi] using hei0
    cases hx : t.take ops j with
    | none => rw [hx] at ht; cases ht
    | some x =>
     rw [hx] at ht;cases ht
     have hji : j ∈ rem.erase i := (List.mem_erase_of_ne (fun h => hij h.symm)).2 hjr;have ih' := fun a w => mZ hF hj he t x (rem.erase i) a w (hn.erase i) hok hji (fun b hb => hm b (List.mem_of_mem_erase hb))
     have hap := gI hF hij hi hj (hm i hir) (him j hjr);obtain ⟨p1, p2, p3⟩ := Oper.apart_spec hap;have kj := hF.kind j oj hj;have ki := hF.kind i oi hi;have ej : ∀ (a : Act) v, execOp (a.put oi.dst v).eval oj = execOp a.eval oj := fun a v => dF kj a oi.dst v p1
     have ei : ∀ (a : Act) v, execOp (a.put oj.dst v).eval oi = execOp a.eval oi := fun a v => dF ki a oj.dst v p3
     have wj : ∀ (a : Act) v, Region.wanted oj (yielded ops (a.put oi.dst v).tmps) = Region.wanted oj (yielded ops a.tmps) := fun a v => wanted_put oj a oi.dst v p1
     have wi : ∀ (a : Act) v, Region.wanted oi (yielded ops (a.put oj.dst v).tmps) = Region.wanted oi (yielded ops a.tmps) := fun a v => wanted_put oi a oj.dst v p3
     have cm : ∀ (a : Act) u v, (a.put oi.dst u).put oj.dst v = (a.put oj.dst v).put oi.dst u := fun a u v => Act.put_comm a u v p2
     simp only [lE, hi] at h;by_cases hwi : Region.wanted oi (yielded ops a.tmps) = true
     ·simp only [hwi, if_true, hei, Bool.false_eq_true, if_false] at h;obtain ⟨u, hu, h⟩ := h;have h3 := ih' _ w (by rw [wj]; exact hw) hx h
      have h4 : bS P oj a w (fun v w' => Ce j w' ∧ lE P ops Cq Ce K x ((a.put oi.dst u).put oj.dst v) w') := by
       unfold bS at h3 ⊢;rw [ej] at h3;exact h3
      refine h4.mono fun v w' ⟨hC', h5⟩ => ⟨hC', ?_⟩;simp only [lE, hi]
      rw [wi];simp only [hwi, if_true, hei, Bool.false_eq_true, if_false];refine ⟨u, fun w' hC' => by rw [ei]; exact hu w' hC', ?_⟩;rw [cm] at h5;exact h5
     ·simp only [hwi, Bool.false_eq_true, if_false] at h;have h3 := ih' _ w (by rw [wj]; exact hw) hx h
      have h4 : bS P oj a w (fun v w' => Ce j w' ∧ lE P ops Cq Ce K x ((a.put oi.dst undef).put oj.dst v) w') := by
       unfold bS at h3 ⊢;rw [ej] at h3;exact h3
      refine h4.mono fun v w' ⟨hC', h5⟩ => ⟨hC', ?_⟩;simp only [lE, hi]
      rw [wi];simp only [hwi, Bool.false_eq_true, if_false];rw [cm] at h5;exact h5
theorem jO (hF : FlM ops) {j : Nat} {oj : Oper} (hj : ops[j]? = some oj) : ∀ (t t' : OT) (rem : List Nat) (a : Act) (w : World), rem.Nodup → OkT ops t rem → j ∈ rem → (∀ i ∈ rem, ((dW ops.toList).getD j 0).testBit i = false) →
  Region.wanted oj (yielded ops a.tmps) = false → t.take ops j = some t' → lE P ops Cq Ce K t a w → lE P ops Cq Ce K t' (a.put oj.dst undef) w
 | .nil, _, _, _, _, _, _, _, _, _, ht, _ => by simp [OT.take] at ht
 | .alt t u, t', rem, a, w, hn, ⟨o1, o2⟩, hjr, hm, hw, ht, ⟨h1, h2⟩ => by
  unfold OT.take at ht;split at ht
  ·rename_i x hx
   cases ht
   exact jO hF hj t _ rem a w hn o1 hjr hm hw hx h1
  ·exact jO hF hj u t' rem a w hn o2 hjr hm hw ht h2
 | .op i t, t', rem, a, w, hn, ⟨⟨oi, hi, _⟩, hir, him, hok⟩, hjr, hm, hw, ht, h => by
  unfold OT.take at ht;split at ht
  ·rename_i hij
   subst hij;cases ht
   rw [hj] at hi;obtain rfl := Option.some.inj hi;simp only [lE, hj, hw, Bool.false_eq_true, if_false] at h;exact h
  ·rename_i hij
   split at ht
   ·cases ht
   ·rename_i hei0
    have hei : eff oi.op = false := by simpa [gT, hi] using hei0
    cases hx : t.take ops j with
    | none => rw [hx] at ht; cases ht
    | some x =>
     rw [hx] at ht;cases ht
     have hji : j ∈ rem.erase i := (List.mem_erase_of_ne (fun h => hij h.symm)).2 hjr;have ih' := fun a w => jO hF hj t x (rem.erase i) a w (hn.erase i) hok hji (fun b hb => hm b (List.mem_of_mem_erase hb))
     have hap := gI hF hij hi hj (hm i hir) (him j hjr);obtain ⟨p1, p2, p3⟩ := Oper.apart_spec hap;have ki := hF.kind i oi hi;have ei : ∀ (a : Act) v, execOp (a.put oj.dst v).eval oi = execOp a.eval oi := fun a v => dF ki a oj.dst v p3
     have wj : ∀ (a : Act) v, Region.wanted oj (yielded ops (a.put oi.dst v).tmps) = Region.wanted oj (yielded ops a.tmps) := fun a v => wanted_put oj a oi.dst v p1
     have wi : ∀ (a : Act) v, Region.wanted oi (yielded ops (a.put oj.dst v).tmps) = Region.wanted oi (yielded ops a.tmps) := fun a v => wanted_put oi a oj.dst v p3
     have cm : ∀ (a : Act) u v, (a.put oi.dst u).put oj.dst v = (a.put oj.dst v).put oi.dst u := fun a u v => Act.put_comm a u v p2
     simp only [lE, hi] at h ⊢;rw [wi];by_cases hwi : Region.wanted oi (yielded ops a.tmps) = true
     ·simp only [hwi, if_true, hei, Bool.false_eq_true, if_false] at h ⊢;obtain ⟨u, hu, h⟩ := h;have h3 := ih' _ w (by rw [wj]; exact hw) hx h;refine ⟨u, fun w' hC' => by rw [ei]; exact hu w' hC', ?_⟩;rw [cm] at h3;exact h3
     ·simp only [hwi, Bool.false_eq_true, if_false] at h ⊢;have h3 := ih' _ w (by rw [wj]; exact hw) hx h;rw [cm] at h3;exact h3
theorem okT_end2 : ∀ (t : OT) (a : Act) (w : World), OkT ops t [] → lE P ops Cq Ce K t a w → K a w
 | .nil, _, _, _, h => h
 | .op i t, _, _, ⟨_, h2, _⟩, _ => by cases h2
 | .alt t _, a, w, ⟨h1, _⟩, ⟨h2, _⟩ => okT_end2 t a w h1 h2
variable {ro : Cx} {Q : Fin}
theorem any_of_T2 (hF : FlM ops) (hH : ∀ (i j : Nat) oi oj, ops[i]? = some oi → ops[j]? = some oj → eff oi.op = false → eff oj.op = true → ((dW ops.toList).getD j 0).testBit i = false → ∀ w, Ce j w → Cq i w) (hK : ∀ a w, K a w → Q .normal a w) : ∀ (fuel m : Nat) (t : OT) (rem : List Nat) (listed : Array Bool) (a : Act) (w : World),
  rem.length = fuel → rem.Nodup → listed.size = ops.size → (∀ i, i ∈ rem ↔ i < ops.size ∧ listed.getD i true = false) →
  (∀ (m : Nat) o, ops[m]? = some o → listed.getD m false = true → ∀ e ∈ o.after, Region.binds .any e = true → listed.getD e.on false = true) →
  OkT ops t rem → covT ops (dW ops.toList) m t = true → (∀ i ∈ rem, ∀ o, ops[i]? = some o → eff o.op = false → Cq i w) → lE P ops Cq Ce K t a w → wpAnyIn (FR ro.ro) 0 P .any ops Q fuel listed a w := by
 intro fuel
 induction fuel with
 | zero =>
  intro m t rem listed a w hl hn hsz hmem hcl hok hcov hC h;have : rem = [] := by simpa using hl
  subst this;refine ⟨?_, hK _ _ (okT_end2 t a w hok h)⟩;refine List.eq_nil_iff_forall_not_mem.2 fun i hi => ?_
  obtain ⟨h0, o, ho, _⟩ := mem_ready.1 hi;exact absurd ((hmem i).2 ⟨(Array.getElem?_eq_some_iff.1 ho).1, h0⟩) (by simp)
 | succ fuel ih =>
  intro m t rem listed a w hl hn hsz hmem hcl hok hcov hC h
  have hlist : ∀ x, x < ops.size → x ∉ rem → listed.getD x false = true := by
   intro x hx hr;have h3 : ¬ (x < ops.size ∧ listed.getD x true = false) := fun hx => hr ((hmem x).2 hx)
   have h4 : x < listed.size := by omega
   simp only [Array.getD_eq_getD_getElem?, Array.getElem?_eq_getElem h4, Option.getD_some] at h3 ⊢;cases hc : listed[x] with
   | true => rfl
   | false => exact absurd ⟨hx, hc⟩ h3
  have hunl : ∀ x, listed.getD x false = true → x ∉ rem := by
   intro x hx hr;have h0 := ((hmem x).1 hr).2;simp only [Array.getD_eq_getD_getElem?] at hx h0;cases hc : listed[x]? <;> simp [hc] at hx h0
   simp [hx] at h0
  refine ⟨fun h0 => ?_, fun j hj => ?_⟩
  ·exfalso;obtain ⟨i, hir, o, ho, hd⟩ := okT_first t rem hok (by rintro rfl; simp at hl)
   have hrd : i ∈ Region.ready .any ops listed := by
    refine mem_ready.2 ⟨((hmem i).1 hir).2, o, ho, fun e he hb => ?_⟩;by_cases hes : e.on < ops.size
    ·exact hlist _ hes (hd e he hb)
    ·exact (hF.edge i o ho e he hb hes).elim
   rw [h0] at hrd;cases hrd
  ·obtain ⟨h0, oj, hoj, hre⟩ := mem_ready.1 hj;have hjr : j ∈ rem := (hmem j).2 ⟨(Array.getElem?_eq_some_iff.1 hoj).1, h0⟩
   have hun : ∀ i ∈ rem, ((dW ops.toList).getD j 0).testBit i = false := fun i hi => by
    cases hb : ((dW ops.toList).getD j 0).testBit i with
    | false => rfl
    | true => exact absurd hi (hunl i (nD (D := fun m => listed.getD m false = true) (fun m o hm hD e he hb => hcl m o hm hD e he hb) j oj hoj (fun e he hb => hre e he hb) i hb))
   have next : ∀ m (t' : OT) a w, OkT ops t' (rem.erase j) → covT ops (dW ops.toList) m t' = true → (∀ i ∈ rem.erase j, ∀ o, ops[i]? = some o → eff o.op = false → Cq i w) → lE P ops Cq Ce K t' a w → wpAnyIn (FR ro.ro) 0 P .any ops Q fuel (listed.setIfInBounds j true) a w := by
    intro m t' a w hok hcov hC h;refine ih m t' (rem.erase j) _ a w ?_ (hn.erase j) (by simp [hsz]) ?_ ?_ hok hcov hC h
    ·rw [List.length_erase_of_mem hjr]; omega
    ·intro i;constructor
     ·intro hi;have hne : j ≠ i := fun e => by subst e; exact absurd hi (hn.not_mem_erase)
      have h1 := (hmem i).1 (List.mem_of_mem_erase hi);exact ⟨h1.1, by rw [getD_set_ne true hne]; exact h1.2⟩
     ·rintro ⟨h1, h2⟩
      have hne : j ≠ i := fun e => by
       subst e;simp [hsz, h1] at h2
      rw [getD_set_ne true hne] at h2;exact (List.mem_erase_of_ne (fun h => hne h.symm)).2 ((hmem i).2 ⟨h1, h2⟩)
    ·intro m o hm hD e he hb;by_cases hmj : j = m
     ·subst hmj;rw [hoj] at hm;obtain rfl := Option.some.inj hm;exact getD_set_true (hre e he hb)
     ·rw [getD_set_ne false hmj] at hD;exact getD_set_true (hcl m o hm hD e he hb)
   unfold wpOpIn;simp only [hoj];by_cases hw : Region.wanted oj (yielded ops a.tmps) = true
   ·simp only [hw, if_true];cases he : eff oj.op with
    | true =>
     have hej : gT ops j = true := by simp [gT, hoj, he]
     have hje := (gZ t rem hok).2 j hjr hej;cases m with
     | zero =>
      simp only [covT, List.isEmpty_iff] at hcov;rw [hcov] at hje;cases hje
     | succ m =>
      simp only [covT, List.all_eq_true] at hcov;have h1 := hcov j hje;rw [Bool.or_eq_true] at h1;rcases h1 with h1 | h1
      ·obtain ⟨i, hi, hb⟩ := List.any_eq_true.1 h1;rw [hun i ((gZ t rem hok).1 i hi)] at hb;cases hb
      ·cases hx : t.take ops j with
       | none => rw [hx] at h1; cases h1
       | some x =>
        rw [hx] at h1;have h2 := mZ hF hoj he t x rem a w hn hok hjr hun hw hx h;exact bS.wpIn (hF.kind j oj hoj) (h2.mono fun v w' ⟨hC', h3⟩ => next m x _ _ (nX t x rem hn hok hjr hx) h1 (fun i hi o ho hq => hH i j o oj ho hoj hq he (hun i (List.mem_of_mem_erase hi)) w' hC') h3)
    | false =>
     have hej : gT ops j = false := by simp [gT, hoj, he]
     obtain ⟨v, hv, h2⟩ := jN hF hH hoj he t rem a w hn hok hjr hun hw (hC j hjr oj hoj he) h;exact upon_FR (fun c hc => by have := hF.kind j oj hoj; rw [hc] at this; cases this) (hv w (hC j hjr oj hoj he)) (next m _ _ _ (del_ok t rem hn hok hjr) (cov_del hej _ m t hcov) (fun i hi => hC i (List.mem_of_mem_erase hi)) h2)
   ·have hw' : Region.wanted oj (yielded ops a.tmps) = false := by simpa using hw
    simp only [hw', Bool.false_eq_true, if_false];cases he : eff oj.op with
    | false =>
     have hej : gT ops j = false := by simp [gT, hoj, he]
     exact ⟨fun f _ => nZ f, next m _ _ _ (del_ok t rem hn hok hjr) (cov_del hej _ m t hcov) (fun i hi => hC i (List.mem_of_mem_erase hi)) (kW hF hoj t rem a w hn hok hjr hun hw' h)⟩
    | true =>
     have hej : gT ops j = true := by simp [gT, hoj, he]
     have hje := (gZ t rem hok).2 j hjr hej;cases m with
     | zero =>
      simp only [covT, List.isEmpty_iff] at hcov;rw [hcov] at hje;cases hje
     | succ m =>
      simp only [covT, List.all_eq_true] at hcov;have h1 := hcov j hje;rw [Bool.or_eq_true] at h1;rcases h1 with h1 | h1
      ·obtain ⟨i, hi, hb⟩ := List.any_eq_true.1 h1;rw [hun i ((gZ t rem hok).1 i hi)] at hb;cases hb
      ·cases hx : t.take ops j with
       | none => rw [hx] at h1; cases h1
       | some x =>
        rw [hx] at h1;exact ⟨fun f _ => nZ f, next m _ _ _ (nX t x rem hn hok hjr hx) h1 (fun i hi => hC i (List.mem_of_mem_erase hi)) (jO hF hoj t x rem a w hn hok hjr hun hw' hx h)⟩
theorem wpIn_region_T2 {id : Nat} {a : Act} {w : World} (t : OT) (hm : P.follows .mixedOrders = true) (hB : treeB ops t = true) (hH : ∀ (i j : Nat) oi oj, ops[i]? = some oi → ops[j]? = some oj → eff oi.op = false → eff oj.op = true → ((dW ops.toList).getD j 0).testBit i = false → ∀ w, Ce j w → Cq i w) (hC : ∀ i, Cq i { w with drawn := w.drawn + 1 })
  (hK : ∀ a w, K a w → Q .normal a w) (h : lE P ops Cq Ce K t a { w with drawn := w.drawn + 1 }) : (Code.region id ops true).wpIn (FR ro.ro) 0 P Q a w := by
 simp only [treeB, Bool.and_eq_true] at hB;obtain ⟨⟨h1, h2⟩, h3⟩ := hB;refine wpIn_region_any hm (any_of_T2 (pairsB_spec h1) hH hK ops.size ops.size t (List.range ops.size) _ a _ (by simp) List.nodup_range (by simp) ?_ ?_ (oS t _ h2) h3 (fun i _ _ _ _ => hC i) h)
 ·intro i;simp only [List.mem_range];constructor
  ·intro hi;exact ⟨hi, by simp [hi]⟩
  ·exact fun hi => hi.1
 ·intro m o _ hD;simp only [Array.getD_eq_getD_getElem?, Array.getElem?_replicate] at hD;split at hD <;> simp at hD
end
section
variable {P : Program} {ro : Cx} {n : Nat} {F : Fin} {w0 : World} {M : Nat → Prop} {k : List It} {ops : Array Oper} {e : Env} {H H1 H2 : List Ck} {bs : List Bool}
structure QX (P : Program) (ro : Cx) (n : Nat) (F : Fin) (w0 : World) (M : Nat → Prop) (k : List It) (ops : Array Oper) (H1 H2 : List Ck) (bs : List Bool) (t : OT) (e : Env) (H : List Ck) : Prop where
 h : ∀ w, Sat w0 M H w → ∀ a, Fits n e a → a.defers = ro.ds → lE P ops (fP (Sat w0 M H1) (Sat w0 M H2) bs) (fP (Sat w0 M H1) (Sat w0 M H2) bs) (fun a w => S P ro.ro F k .normal a w) t a w
theorem q_drawX {id : Nat} {l : List Oper} (t : OT) (bs : List Bool) (Hq1 Hm1 Hq2 Hm2 : List Ck) (hH1 : Sp H (Hm1 ++ Hq1)) (hH2 : Sp Hq1 (Hm2 ++ Hq2)) (hm : P.follows .mixedOrders = true) (hB : treeB l.toArray t = true) (hbs : flagB l.toArray bs = true)
  (h : QX P ro n F w0 M k l.toArray Hq1 Hq2 bs t e H) : Q P ro n F w0 M (.code (.region id l.toArray true) :: k) e H := .mk fun w hs a hf hd => by
 have hs0 : Sat w0 M H { w with drawn := w.drawn + 1 } := hs.keep (Chg.drew (N := []) w);have hs1 : Sat w0 M Hq1 { w with drawn := w.drawn + 1 } := (hs0.sp hH1).right;have h12 : ∀ w, Sat w0 M Hq1 w → Sat w0 M Hq2 w := fun w hw => (hw.sp hH2).right
 refine wpIn_region_T2 t hm hB (Cq := fP (Sat w0 M Hq1) (Sat w0 M Hq2) bs) (Ce := fP (Sat w0 M Hq1) (Sat w0 M Hq2) bs) (fun i j oi oj hi hj hei hej hmk w hC => nA hbs h12 i j oi oj hi hj hei hej (.inr hmk) w hC) (fun i => ?_) (fun _ _ h => h) (h.h _ hs0 a hf hd);unfold fP;cases bs.getD i false
 ·exact h12 _ hs1
 ·exact hs1
theorem qx_nil (h : Q P ro n F w0 M k e H) : QX P ro n F w0 M k ops H1 H2 bs .nil e H := ⟨fun w hs a hf hd => h.h w hs a hf hd⟩
theorem qx_alt {t u : OT} (h1 : QX P ro n F w0 M k ops H1 H2 bs t e H) (h2 : QX P ro n F w0 M k ops H1 H2 bs u e H) : QX P ro n F w0 M k ops H1 H2 bs (.alt t u) e H :=
 ⟨fun w hs a hf hd => ⟨h1.h w hs a hf hd, h2.h w hs a hf hd⟩⟩
theorem wpT2_chain {C1 C2 : World → Prop} {b : Bool} {K : Act → World → Prop} {t : OT} : ∀ (l : List Nat) (lo : List Oper) (a : Act) (w : World), l.map (fun i => ops[i]?) = lo.map some → l.all (fun i => bs.getD i false == b) = true →
  gK P ops (bif b then C1 else C2) (lE P ops (fP C1 C2 bs) (fP C1 C2 bs) K t) lo a w → lE P ops (fP C1 C2 bs) (fP C1 C2 bs) K (bE l t) a w
 | [], [], a, w, _, _, h => h
 | [], _ :: _, _, _, hl, _, _ => by cases hl
 | _ :: _, [], _, _, hl, _, _ => by cases hl
 | i :: l, o :: lo, a, w, hl, hb, h => by
  simp only [List.map_cons, List.cons.injEq] at hl;simp only [List.all_cons, Bool.and_eq_true, beq_iff_eq] at hb;have ih : ∀ a w, gK P ops (bif b then C1 else C2) (lE P ops (fP C1 C2 bs) (fP C1 C2 bs) K t) lo a w → lE P ops (fP C1 C2 bs) (fP C1 C2 bs) K (bE l t) a w := fun a w => wpT2_chain l lo a w hl.2 hb.2
  have hC : fP C1 C2 bs i = (bif b then C1 else C2) := by
   funext w
   unfold fP;rw [hb.1];cases b <;> rfl
  simp only [bE, lE, hl.1, hC];simp only [gK] at h;split
  ·rename_i hw
   rw [if_pos hw] at h;split
   ·rename_i he
    rw [if_pos he] at h;exact h.mono fun v w' ⟨hC, h2⟩ => ⟨hC, ih _ _ h2⟩
   ·rename_i he
    rw [if_neg he] at h;obtain ⟨v, hv, h2⟩ := h;exact ⟨v, hv, ih _ _ h2⟩
  ·rename_i hw
   rw [if_neg hw] at h;exact ih _ _ h
theorem qx_T {l : List Nat} {lo : List Oper} {t : OT} (Hm : List Ck) (hl : PickL ops l lo) (hb : l.all (fun i => bs.getD i false == true) = true) (hH : Sp H (Hm ++ H1))
  (h : ∀ K1 : Act → World → Prop, (∀ e' H', QX P ro n F w0 M k ops H1 H2 bs t e' H' → Q P ro n F w0 M (.k K1 :: k) e' H') → QF P ro n F w0 M (.k K1 :: k) ops H1 lo e Hm) : QX P ro n F w0 M k ops H1 H2 bs (bE l t) e H :=
 ⟨fun w hs a hf hd => by
  have h1 := h (lE P ops (fP (Sat w0 M H1) (Sat w0 M H2) bs) (fP (Sat w0 M H1) (Sat w0 M H2) bs) (fun a w => S P ro.ro F k .normal a w) t) (fun e' H' hq => .mk fun w' hs' a' hf' hd' => hq.h w' hs' a' hf' hd');exact wpT2_chain (b := true) l lo a w hl.map hb (h1.h w (hs.sp hH) a hf hd)⟩
theorem qx_F {l : List Nat} {lo : List Oper} {t : OT} (Hm : List Ck) (hl : PickL ops l lo) (hb : l.all (fun i => bs.getD i false == false) = true) (hH : Sp H (Hm ++ H2))
  (h : ∀ K1 : Act → World → Prop, (∀ e' H', QX P ro n F w0 M k ops H1 H2 bs t e' H' → Q P ro n F w0 M (.k K1 :: k) e' H') → QF P ro n F w0 M (.k K1 :: k) ops H2 lo e Hm) : QX P ro n F w0 M k ops H1 H2 bs (bE l t) e H :=
 ⟨fun w hs a hf hd => by
  have h1 := h (lE P ops (fP (Sat w0 M H1) (Sat w0 M H2) bs) (fP (Sat w0 M H1) (Sat w0 M H2) bs) (fun a w => S P ro.ro F k .normal a w) t) (fun e' H' hq => .mk fun w' hs' a' hf' hd' => hq.h w' hs' a' hf' hd');exact wpT2_chain (b := false) l lo a w hl.map hb (h1.h w (hs.sp hH) a hf hd)⟩
theorem pT {σ : Type} (t : OT) {t0 : OT} (env : σ → Env) (pc : σ → List Ck) (main : ∀ s, QX P ro n F w0 M k ops H1 H2 bs t (env s) (pc s))
  (use : (∀ s e' H', Sub (env s) e' → Sp H' (pc s) → QX P ro n F w0 M k ops H1 H2 bs t e' H') → QX P ro n F w0 M k ops H1 H2 bs t0 e H) : QX P ro n F w0 M k ops H1 H2 bs t0 e H :=
 use (fun s _ _ he hH => ⟨fun w hs a hf hd => (main s).h w (hs.sp hH) a (hf.sub he) hd⟩)
end
section
variable {P : Program}
def eqBL : List Bool → List Bool → Bool
 | a :: l, b :: m => (a == b) && eqBL l m
 | _, _ => true
def arrQB (P : Program) (t n e : Nat) : Bool :=
 !(P.eqGuardType P.depth t) && oneB P e && Nat.beq (P.cellsOf e) 1 && (P.info? e).isSome && (match P.underlying t with | some (.array n' e') => Nat.beq n' n && Nat.beq e' e | _ => false) && (match P.underlying e with | some .bool => true | _ => false)
theorem eqItems_bool {e : Nat} (he : P.underlying e = some .bool) (h1 : oneB P e = true) (d : Nat) (w : World) (xs ys : Array Value) : ∀ (l m : List Bool) (k : Nat), l.length = m.length → (∀ i (h : i < l.length), xs[k + i]? = some (.bool l[i])) → (∀ i (h : i < m.length), ys[k + i]? = some (.bool m[i])) →
  (Go.Op.eqItems (d + 1) e 1 xs ys (List.range' k l.length)).run P w = .ok (eqBL l m) w
 | [], [], _, _, _, _ => by simp [Go.Op.eqItems, eqBL]
 | a :: l, b :: m, k, h, hx, hy => by
  have ih := eqItems_bool he h1 d w xs ys l m (k + 1) (by simpa using h) (fun i hi => by have := hx (i + 1) (by simpa using hi); rw [show k + 1 + i = k + (i + 1) by omega]; simpa using this) (fun i hi => by have := hy (i + 1) (by simpa using hi); rw [show k + 1 + i = k + (i + 1) by omega]; simpa using this);have h0 := hx 0 (by simp);have g0 := hy 0 (by simp);simp only [Nat.add_zero, List.getElem_cons_zero] at h0 g0;rw [List.length_cons, List.range'_succ];have p1 := kE (P := P) (o := k * 1) h1 (by rw [Nat.mul_one]; exact h0) w;have p2 := kE (P := P) (o := k * 1) h1 (by rw [Nat.mul_one]; exact g0) w;simp only [Go.Op.eqItems, Sem.run_bind, p1, p2, Result.andThen_ok, run_equalIn_bool' w d e a b he, eqBL];cases hab : (a == b)
  ·simp
  ·simpa using ih
theorem run_eqArr {t n e : Nat} (h : arrQB P t n e = true) {l m : List Bool} (hl : l.length = n) (hm : m.length = n) (d : Nat) (w : World) : (Go.Op.equalIn (d + 2) t (.agg (l.map Value.bool).toArray) (.agg (m.map Value.bool).toArray)).run P w = .ok (eqBL l m) w := by
 simp only [arrQB, Bool.and_eq_true, Bool.not_eq_true'] at h;obtain ⟨⟨⟨⟨⟨h1, h2⟩, h3⟩, h4⟩, h5⟩, h6⟩ := h;split at h5
 ·rename_i n' e' hu
  simp only [Bool.and_eq_true] at h5;have hn := Nat.eq_of_beq_eq_true h5.1;have he := Nat.eq_of_beq_eq_true h5.2;subst hn;subst he;split at h6
  ·rename_i hb
   obtain ⟨i, hi⟩ := Option.isSome_iff_exists.1 h4;rw [run_equalIn_array w (d + 1) _ _ hu hi, Nat.eq_of_beq_eq_true h3, List.range_eq_range', ← hl];exact eqItems_bool hb h2 d w _ _ l m 0 J (fun i hi => by simp [hi]) (fun i hi => by simp [hi])
  ·cases h6
 ·cases h5
variable {ro : Cx} {n : Nat} {F : Fin} {w0 : World} {M : Nat → Prop} {k : List It} {ops : Array Oper} {rest : List Oper} {e : Env} {H Hq : List Ck}
theorem ql_stA {T : Tab} (cs' : List Value) (hT : T.Ok P) {t m : Nat} {x y : Operand} {b off : Nat} {cs us : List Value} {bt : TypeId} {H' : List Ck} {ty : TypeId} {pos : String} {af : Array Edge}
  (hx : opv e x = some (.pointer (some ⟨b, off, none⟩))) (hy : opv e y = some (.agg us.toArray)) (h1 : fS T.agg t = some m) (hm : us.length = m) (h1v : (us.all dJ) = true) (hr : Rp H (.pt b cs bt) (.pt b cs' bt) H') (he : setL cs off us = cs') (hl : Nat.ble (off + m) cs.length = true)
  (h : QL P ro n F w0 M k ops rest e H') : QL P ro n F w0 M k ops (⟨none, .store t x y, ty, pos, af, none⟩ :: rest) e H := by
 subst he;exact ql_storeA hT hx hy h1 hm (List.all_eq_true.1 h1v) hr (Nat.le_of_ble_eq_true hl) h
theorem qf_stA {T : Tab} (cs' : List Value) (hT : T.Ok P) {t m : Nat} {x y : Operand} {b off : Nat} {cs us : List Value} {bt : TypeId} {H' : List Ck} {ty : TypeId} {pos : String} {af : Array Edge}
  (hx : opv e x = some (.pointer (some ⟨b, off, none⟩))) (hy : opv e y = some (.agg us.toArray)) (h1 : fS T.agg t = some m) (hm : us.length = m) (h1v : (us.all dJ) = true) (hr : Rp H (.pt b cs bt) (.pt b cs' bt) H') (he : setL cs off us = cs') (hl : Nat.ble (off + m) cs.length = true)
  (h : QF P ro n F w0 M k ops Hq rest e H') : QF P ro n F w0 M k ops Hq (⟨none, .store t x y, ty, pos, af, none⟩ :: rest) e H := by
 subst he;exact qf_storeA hT hx hy h1 hm (List.all_eq_true.1 h1v) hr (Nat.le_of_ble_eq_true hl) h
end
section
variable {P : Program}
def nestF (P : Program) : Nat → List Field → List (List (Option IntKind)) → Bool
 | _, [], [] => true
 | o, f :: fs, k :: ks => !(f.name == "_") && Nat.beq f.offset o && nQ P f.type k && Nat.beq (P.cellsOf f.type) k.length && (P.info? f.type).isSome && nestF P (o + k.length) fs ks
 | _, _, _ => false
def nestB (P : Program) (t : Nat) (ks : List (List (Option IntKind))) : Bool :=
 !(P.stoodInHeld t) && !(P.eqGuardType P.depth t) && (match P.underlying t with | some (.struct fs) => nestF P 0 fs.toList ks | _ => false)
theorem fitV_len : ∀ (ks : List (Option IntKind)) (l : List Value), gE ks l = true → l.length = ks.length
 | [], [], _ => rfl
 | [], _ :: _, h => by simp [gE] at h
 | k :: ks, l, h => by
  obtain ⟨v, m, rfl, h1, _⟩ := gQ h;simp [fitV_len ks m h1]
theorem fitV_app : ∀ (ks js : List (Option IntKind)) (l : List Value), gE (ks ++ js) l = true → ∃ l1 l2, l = l1 ++ l2 ∧ gE ks l1 = true ∧ gE js l2 = true
 | [], js, l, h => ⟨[], l, rfl, rfl, h⟩
 | k :: ks, js, l, h => by
  obtain ⟨v, m, rfl, h1, h2⟩ := gQ (show gE (k :: (ks ++ js)) l = true from h);obtain ⟨l1, l2, rfl, h3, h4⟩ := fitV_app ks js m h1;refine ⟨v :: l1, l2, Z, ?_, h4⟩;rcases h2 with ⟨q, a, rfl, rfl⟩ | ⟨b, rfl, rfl⟩
  ·simp only [List.cons_append, gE, Bool.and_eq_true] at h;simp [gE, h3, h.1]
  ·simp [gE, h3]
theorem eqL_app : ∀ (ks : List (Option IntKind)) (l1 m1 l2 m2 : List Value), gE ks l1 = true → gE ks m1 = true → eqL (l1 ++ l2) (m1 ++ m2) = (eqL l1 m1 && eqL l2 m2)
 | [], l1, m1, l2, m2, h1, h2 => by
  cases l1 <;> simp [gE] at h1
  cases m1 <;> simp [gE] at h2
  simp [eqL]
 | k :: ks, l1, m1, l2, m2, h1, h2 => by
  obtain ⟨v, l, rfl, g1, e1⟩ := gQ h1;obtain ⟨u, m, rfl, g2, e2⟩ := gQ h2;have ih := eqL_app ks l m l2 m2 g1 g2;rcases e1 with ⟨q, a, rfl, rfl⟩ | ⟨a, rfl, rfl⟩
  ·rcases e2 with ⟨q', b, hq, rfl⟩ | ⟨b, hq, _⟩
   ·simp only [List.cons_append, eqL, ih, Bool.and_assoc]
   ·cases hq
  ·rcases e2 with ⟨q', b, hq, _⟩ | ⟨b, _, rfl⟩
   ·cases hq
   ·simp only [List.cons_append, eqL, ih, Bool.and_assoc]
theorem run_partA {t n : Nat} {ks : List (Option IntKind)} (h : nQ P t ks = true) (hc : P.cellsOf t = n) (hi : (P.info? t).isSome = true) (xs : List Value) (o : Nat) (w : World) : (part t xs.toArray o).run P w = .ok (.agg ((xs.drop o).take n).toArray) w := by
 obtain ⟨h1, h2, h3, h4⟩ := nL h;obtain ⟨i, hi⟩ := Option.isSome_iff_exists.1 hi
 have e : xs.toArray.extract o (o + n) = ((xs.drop o).take n).toArray := by
  apply Array.ext';simp [List.extract_eq_take_drop]
 simp [part, isAgg, run_underlying h3, run_sizeOf w hi, hc, e]
variable {ro : Cx} {n : Nat} {F : Fin} {w0 : World} {M : Nat → Prop} {k : List It} {ops : Array Oper} {rest : List Oper} {e : Env} {H Hq : List Ck}
end
section
variable {P : Program} {T : Tab}
variable {ro : Cx} {n : Nat} {F : Fin} {w0 : World} {M : Nat → Prop} {k : List It} {ops : Array Oper} {rest : List Oper} {e : Env} {H Hq : List Ck}
end
end Go.Eng
namespace Go.Proofs.YtopdmadgkjdgcaaGreat
open Go Go.Eng
set_option maxRecDepth 4000
open Go Go.Eng
abbrev rtV (q : Int × Int) : Value := .agg #[.int .i64 q.1, .int .i64 q.2]
abbrev rnV (l : Rn) : Value := .agg #[.int .i64 l.a, .int .i64 l.b, .int .i64 l.lead]
abbrev RdS (w : World) (lo hi : Nat) (v : Value) (l : List (Int × Int)) : Prop := RdE w lo hi v 2 (l.map rtV)
abbrev RdR (w : World) (lo hi : Nat) (v : Value) (l : List Rn) : Prop := RdE w lo hi v 3 (l.map rnV)
def spC (l : List (Int × Int)) : List Value := l.flatMap fun x => [.int .i64 x.1, .int .i64 x.2]
def rnC (l : List Rn) : List Value := l.flatMap fun x => [.int .i64 x.a, .int .i64 x.b, .int .i64 x.lead]
section
variable {w w' : World} {lo hi b off len cap : Nat} {v : Value}
theorem RdS.outI {l : List (Int × Int)} (h : RdS w lo hi v l) : ∃ a cap, v = .slice a l.length cap ∧ (0 < l.length → ∃ b off, a = some ⟨b, off, none⟩) := by
 have := RdE.out h;simpa using this
theorem RdR.outI {l : List Rn} (h : RdR w lo hi v l) : ∃ a cap, v = .slice a l.length cap ∧ (0 < l.length → ∃ b off, a = some ⟨b, off, none⟩) := by
 have := RdE.out h;simpa using this
theorem RdS.at {l : List (Int × Int)} (h : RdS w lo hi (.slice (some ⟨b, off, none⟩) len cap) l) (i : Nat) (hi : i < l.length) (j : Nat) (hj : j < 2) : w.cell? ⟨b, off + i * 2 + j, none⟩ = [Value.int .i64 l[i].1, Value.int .i64 l[i].2][j]? := by
 have := RdE.cell h i j (by simpa using hi) hj;rw [this];simp [rtV, Value.cells]
theorem RdR.at {l : List Rn} (h : RdR w lo hi (.slice (some ⟨b, off, none⟩) len cap) l) (i : Nat) (hi : i < l.length) (j : Nat) (hj : j < 3) : w.cell? ⟨b, off + i * 3 + j, none⟩ = [Value.int .i64 l[i].a, Value.int .i64 l[i].b, Value.int .i64 l[i].lead][j]? := by
 have := RdE.cell h i j (by simpa using hi) hj;rw [this];simp [rnV, Value.cells]
theorem RdS.at0 {l : List (Int × Int)} (h : RdS w lo hi (.slice (some ⟨b, off, none⟩) len cap) l) (i : Nat) (hi : i < l.length) : w.cell? ⟨b, off + i * 2 + 0, none⟩ = some (.int .i64 l[i].1) := RdS.at h i hi 0 J
theorem RdS.at1 {l : List (Int × Int)} (h : RdS w lo hi (.slice (some ⟨b, off, none⟩) len cap) l) (i : Nat) (hi : i < l.length) : w.cell? ⟨b, off + i * 2 + 1, none⟩ = some (.int .i64 l[i].2) := RdS.at h i hi 1 J
theorem RdR.at0 {l : List Rn} (h : RdR w lo hi (.slice (some ⟨b, off, none⟩) len cap) l) (i : Nat) (hi : i < l.length) : w.cell? ⟨b, off + i * 3 + 0, none⟩ = some (.int .i64 l[i].a) := RdR.at h i hi 0 J
theorem RdR.at1 {l : List Rn} (h : RdR w lo hi (.slice (some ⟨b, off, none⟩) len cap) l) (i : Nat) (hi : i < l.length) : w.cell? ⟨b, off + i * 3 + 1, none⟩ = some (.int .i64 l[i].b) := RdR.at h i hi 1 J
theorem RdR.at2 {l : List Rn} (h : RdR w lo hi (.slice (some ⟨b, off, none⟩) len cap) l) (i : Nat) (hi : i < l.length) : w.cell? ⟨b, off + i * 3 + 2, none⟩ = some (.int .i64 l[i].lead) := RdR.at h i hi 2 J
theorem cells_sp (l : List (Int × Int)) : cellsOf (l.map rtV) = spC l := by simp [cellsOf, spC, List.flatMap_map, Value.cells]
theorem cells_rn (l : List Rn) : cellsOf (l.map rnV) = rnC l := by simp [cellsOf, rnC, List.flatMap_map, Value.cells]
theorem spC_length (l : List (Int × Int)) : (spC l).length = l.length * 2 := by
 rw [← cells_sp, fY (sz := 2)]
 ·simp
 ·intro e he; obtain ⟨x, _, rfl⟩ := List.mem_map.1 he; rfl
theorem RdS.row {l : List (Int × Int)} (h : RdS w lo hi v l) : Rd w lo hi v 2 l.length (spC l) := by
 have := h.rd;rw [cells_sp, List.length_map] at this;exact this
theorem RdR.row {l : List Rn} (h : RdR w lo hi v l) : Rd w lo hi v 3 l.length (rnC l) := by
 have := h.rd;rw [cells_rn, List.length_map] at this;exact this
theorem RdS.of {l : List (Int × Int)} (h : Rd w lo hi v 2 l.length (spC l)) : RdS w lo hi v l := ⟨by rw [cells_sp, List.length_map]; exact h, fun e he => by obtain ⟨x, _, rfl⟩ := List.mem_map.1 he; rfl⟩
theorem RdR.of {l : List Rn} (h : Rd w lo hi v 3 l.length (rnC l)) : RdR w lo hi v l := ⟨by rw [cells_rn, List.length_map]; exact h, fun e he => by obtain ⟨x, _, rfl⟩ := List.mem_map.1 he; rfl⟩
theorem bU {t n : Nat} {l : List Int} (h : w.ownsRow 0 t 1 v n (aX l)) (hn : n = l.length) : RdI w 0 w.heap.size v l := by
 subst hn;exact RdI.of (own_rd h)
theorem bY {t n : Nat} {l : List (Int × Int)} (h : w.ownsRow 0 t 2 v n (spC l)) (hn : n = l.length) : RdS w 0 w.heap.size v l := by
 subst hn;exact RdS.of (own_rd h)
theorem own_one' {t sz m : Nat} {xs : List Value} (h : w.ownsRow 0 t sz v m xs) : dJ v = true := by
 obtain ⟨a, n, c, rfl⟩ := own_slice h
 rfl
end
def RdII (w : World) (lo hi : Nat) (v : Value) (ll : List (List Int)) : Prop :=
 ∃ vs, RdE w lo hi v 1 vs ∧ vs.length = ll.length ∧ ∀ i (h : i < vs.length) (h' : i < ll.length), RdI w lo hi vs[i] ll[i]
theorem RdII.keep {w w' : World} {lo hi : Nat} {v : Value} {ll : List (List Int)} (h : RdII w lo hi v ll) (c : Chg [] w w') : RdII w' lo hi v ll := by
 obtain ⟨vs, h1, h2, h3⟩ := h;exact ⟨vs, h1.keep c, h2, fun i hi hi' => (h3 i hi hi').keep c⟩
theorem RdII.outI {w : World} {lo hi : Nat} {v : Value} {ll : List (List Int)} (h : RdII w lo hi v ll) : ∃ a cap, v = .slice a ll.length cap ∧ (0 < ll.length → ∃ b off, a = some ⟨b, off, none⟩) := by
 obtain ⟨vs, h1, h2, h3⟩ := h;have := RdE.out h1
 rwa [h2] at this
theorem RdII.row {w : World} {lo hi : Nat} {b off len cap : Nat} {ll : List (List Int)} (h : RdII w lo hi (.slice (some ⟨b, off, none⟩) len cap) ll) (i : Nat) (hi' : i < ll.length) :
  ∃ a c, RdI w lo hi (.slice a ll[i].length c) ll[i] ∧ ∀ w', Chg [] w w' → w'.cell? ⟨b, off + i * 1, none⟩ = some (.slice a ll[i].length c) := by
 obtain ⟨vs, h1, h2, h3⟩ := h;have h4 := h3 i J hi';obtain ⟨a, c, hv, _⟩ := RdI.outI h4;refine ⟨a, c, hv ▸ h4, fun w' hw' => ?_⟩;rw [RdE.cell1 (h1.keep hw') i J (by rw [hv]; rfl), hv]
def dM (t : Nat) (xs : List (Value × List Int)) : List Ck := xs.map fun p => .ow p.1 t 1 p.2.length (aX p.2)
theorem rowsO_rd {w : World} {v : Value} {xs : List (Value × List Int)} {n t t2 : Nat} (hu : (un (dM t xs)).p w) (h1 : w.ownsRow 0 t2 1 v n (xs.map (·.1))) : RdII w 0 w.heap.size v (xs.map (·.2)) := by
 have hn : n = (xs.map (·.1)).length := by have := h1.1; omega
 have hp : ∀ p ∈ xs, w.ownsRow 0 t 1 p.1 p.2.length (aX p.2) := fun p hp => hu.1 (.ow p.1 t 1 p.2.length (aX p.2)) (List.mem_map.2 ⟨p, hp, rfl⟩)
 refine ⟨xs.map (·.1), RdE.one (by rw [← hn]; exact own_rd h1) (fun e he => by obtain ⟨p, hm, rfl⟩ := List.mem_map.1 he; exact own_one' (hp p hm)), by simp, fun i hi hi' => ?_⟩;have hi2 : i < xs.length := by simpa using hi
 simp only [List.getElem_map];exact bU (hp _ (List.getElem_mem hi2)) Z
theorem idxF_rint (w : World) (lo hi : Nat) (v cv : Value) (es : List Value) (p : Value → Bool) (hrd : RdE w lo hi v 1 es) (hone : ∀ i (hi : i < es.length), dJ es[i] = true) (hlen : es.length < 4611686018427387904) (hp : PredAt Tryz.prog tab w cv es p) :
  Ca Tryz.prog 106 [v, cv] w fun r w' => ((∃ i : Nat, r = .int .i64 i ∧ ∃ hi : i < es.length, p es[i] = true) ∨ (r = .int .i64 (-1) ∧ ∀ x ∈ es, p x = false)) ∧ Chg [] w w' := by
 obtain ⟨a, cap, rfl, hsl⟩ := hrd.out;obtain ⟨g, first, caps, rfl, hg, hcl⟩ := hp;refine lH Tryz.func106 Z (by simp [Tryz.ntmps106]) ?_;(refine cS (bJ (aA0 zq (cS (cS (bJ ?_))))); (iterate 3 refine aA0 zq ?_); refine iK ?_)
 refine y_loop (fun m l wr => ∃ k : Nat, k ≤ es.length ∧ m = es.length - k ∧ l = [(0, .slice a es.length cap), (1, .func (.func g) first caps), (7, .int .i64 es.length), (8, .int .i64 k)] ∧ (∀ i (hi : i < es.length), i < k → p es[i] = false) ∧ Chg [] w wr) (m := es.length)
  ⟨0, by omega, rfl, rfl, fun i _ hi => by omega, Chg.refl _ _⟩ ⟨rfl, rfl, rfl, rfl, trivial⟩ ?_
 rintro m l wr ⟨k, hkl, rfl, rfl, hpk, hcw⟩ K hK;(refine cS (bJ (aA0 zq (cS ?_))));refine y_if Z (fun hc => ?_) (fun hc => ?_)
 ·have hk : k < es.length := by omega
  obtain ⟨b, off, rfl⟩ := hsl J;(refine lR (cS (iK (cS (bJ (aA0 zq (aA0 zq (cS (bJ ?_)))))))); (iterate 3 refine aA0 zq ?_));refine nN U Z Z Z Z Z J J ?_;refine pD U Z Z Z (v := es[k]) (by rw [show (Int.toNat (k : Int)) = k from rfl]; exact (hrd.keep hcw).cell1 k hk (hone k hk)) ?_;refine eO U Z hg Z Z (hcl wr hcw es[k] (List.getElem_mem hk)) ?_;rintro _ w2 ⟨rfl, hc2⟩;(refine mW ?_);refine pE Z (fun hc => ?_) (fun hc => ?_)
  ·(refine cS (bJ (aA0 zq (aA0 zq (gU ?_)))))
   exact eN Z Z ⟨.inl ⟨k, Z, hk, hc⟩, hcw.trans hc2⟩
  ·(refine lR (bJ (aA0 zq (aA0 zq (mW ?_)))))
   refine y_k (hK _ _ _ _ ⟨k + 1, by omega, Z, Z, fun i hi hik => ?_, hcw.trans hc2⟩ J ⟨Z, Z, Z, ?_, trivial⟩)
   ·by_cases h : i < k
    ·exact hpk i hi h
    ·obtain rfl : i = k := by omega
     exact hc
   ·show some (Value.int _ (IntKind.i64.wrap (↑k + 1))) = _
    rw [w64 J J]
    rfl
 ·(refine y_exit _ Z (cS (bJ (aA0 zq (gU ?_)))))
  refine eN Z Z ⟨.inr ⟨Z, fun x hx => ?_⟩, hcw⟩;obtain ⟨i, hi, rfl⟩ := List.getElem_of_mem hx;exact hpk i hi J
theorem conF_rint (w : World) (lo hi : Nat) (v cv : Value) (es : List Value) (p : Value → Bool) (hrd : RdE w lo hi v 1 es) (hone : ∀ i (hi : i < es.length), dJ es[i] = true) (hlen : es.length < 4611686018427387904) (hp : PredAt Tryz.prog tab w cv es p) :
  Ca Tryz.prog 163 [v, cv] w fun r w' => r = .bool (es.any p) ∧ Chg [] w w' := by
 refine lH Tryz.func163 Z (by simp [Tryz.ntmps163]) ?_;(refine cS (bJ (aA0 zq (cS (bJ (aA0 zq (aA0 zq ?_)))))));refine eO U Z Z Z Z (idxF_rint w lo hi v cv es p hrd hone hlen hp) ?_;rintro r w2 ⟨⟨i, rfl, hi, hpi⟩ | ⟨rfl, hall⟩, hc2⟩
 ·(refine aA0 zq (aA0 zq (gU ?_)))
  refine eN Z Z ⟨?_, hc2⟩;have h1 : es.any p = true := List.any_eq_true.2 ⟨_, List.getElem_mem hi, hpi⟩;rw [h1];exact congrArg Value.bool (decide_eq_true J)
 ·(refine aA0 zq (aA0 zq (gU ?_)))
  refine eN Z Z ⟨?_, hc2⟩;have h1 : es.any p = false := List.any_eq_false.2 (fun x hx => by simp [hall x hx]);rw [h1]
  rfl
theorem all1_rint (w : World) (b t : Nat) (cv x : Value) (es : List Value) (p : Value → Bool) (_hx : dJ x = true) (hm : x ∈ es) (hb : Blk w b [cv] t) (hp : PredAt Tryz.prog tab w cv es p) :
  Ca Tryz.prog 164 [x, aC0 b] w fun r w' => r = .bool (!(p x)) ∧ Chg [] w w' := by
 obtain ⟨g, first, caps, rfl, hg, hcl⟩ := hp;refine lH Tryz.func164 Z (by simp [Tryz.ntmps164]) ?_;(refine cS (bJ (aA0 zq (cS (bJ ?_)))); refine yl_loadB U Z Z Z (by assumption) (by rfl) ?_; refine aA0 zq ?_);refine eO U Z hg Z Z (hcl w (Chg.refl _ _) _ hm) ?_;rintro _ w2 ⟨rfl, hc2⟩;(refine aA0 zq (aA0 zq (gU ?_)));exact eN Z Z ⟨Z, hc2⟩
theorem all_rint (w : World) (lo hi : Nat) (v cv : Value) (es : List Value) (p : Value → Bool) (hrd : RdE w lo hi v 1 es) (hone : ∀ i (hi : i < es.length), dJ es[i] = true) (hlen : es.length < 4611686018427387904) (hp : PredAt Tryz.prog tab w cv es p) :
  Ca Tryz.prog 112 [v, cv] w fun r w' => r = .bool (es.all p) ∧ Chg [] w w' := by
 refine lH Tryz.func112 Z (by simp [Tryz.ntmps112]) ?_;(refine cS (bJ ?_));refine yl_box Z Z (fun w1 hc1 hs1 hb1 => ?_);have hcv : cv.cells.toList = [cv] := by obtain ⟨g, first, caps, rfl, _, _⟩ := hp; rfl
 rw [hcv] at hb1
 have hp1 : PredAt Tryz.prog tab w1 (.func (.func 164) #[] #[aC0 w.heap.size]) es (fun x => !(p x)) := by
  refine ⟨164, #[], #[_], Z, Z, fun w' hw' x hx => ?_⟩;refine all1_rint w' w.heap.size _ cv x es p ?_ hx (hb1.keep hw') (hp.keep (hc1.trans hw'));obtain ⟨i, hi, rfl⟩ := List.getElem_of_mem hx;exact hone i hi
 (refine aA0 zq (cS (bJ (aA0 zq (aA0 zq ?_)))))
 refine eO U Z Z Z Z (conF_rint w1 lo hi v _ es _ (hrd.keep hc1) hone hlen hp1) ?_;rintro _ w2 ⟨rfl, hc2⟩;(refine aA0 zq (aA0 zq (gU ?_)));refine eN Z Z ⟨?_, hc1.trans hc2⟩;rw [List.all_eq_not_any_not]
theorem idxF_hold (w : World) (lo hi : Nat) (v cv : Value) (es : List Value) (p : Value → Bool) (hrd : RdE w lo hi v 3 es) (hagg : ∀ i (hi : i < es.length), ∃ c, es[i] = .agg c) (hlen : es.length < 4611686018427387904) (hp : PredAt Tryz.prog tab w cv es p) :
  Ca Tryz.prog 150 [v, cv] w fun r w' => ((∃ i : Nat, r = .int .i64 i ∧ ∃ hi : i < es.length, p es[i] = true) ∨ (r = .int .i64 (-1) ∧ ∀ x ∈ es, p x = false)) ∧ Chg [] w w' := by
 obtain ⟨a, cap, rfl, hsl⟩ := hrd.out;obtain ⟨g, first, caps, rfl, hg, hcl⟩ := hp;refine lH Tryz.func150 Z (by simp [Tryz.ntmps150]) ?_;(refine cS (bJ (aA0 zq (cS (cS (bJ ?_))))); (iterate 3 refine aA0 zq ?_); refine iK ?_)
 refine y_loop (fun m l wr => ∃ k : Nat, k ≤ es.length ∧ m = es.length - k ∧ l = [(0, .slice a es.length cap), (1, .func (.func g) first caps), (7, .int .i64 es.length), (8, .int .i64 k)] ∧ (∀ i (hi : i < es.length), i < k → p es[i] = false) ∧ Chg [] w wr) (m := es.length)
  ⟨0, by omega, rfl, rfl, fun i _ hi => by omega, Chg.refl _ _⟩ ⟨rfl, rfl, rfl, rfl, trivial⟩ ?_
 rintro m l wr ⟨k, hkl, rfl, rfl, hpk, hcw⟩ K hK;(refine cS (bJ (aA0 zq (cS ?_))));refine y_if Z (fun hc => ?_) (fun hc => ?_)
 ·have hk : k < es.length := by omega
  obtain ⟨b, off, rfl⟩ := hsl J;(refine lR (cS (iK (cS (bJ (aA0 zq (aA0 zq (cS (bJ ?_)))))))); (iterate 3 refine aA0 zq ?_));refine nN U Z Z Z Z Z J J ?_;refine yl_loadA U Z Z Z (cs := es[k].cells.toList) (by simpa using hrd.sz es[k] (List.getElem_mem hk)) (fun j hj => (hrd.keep hcw).cell k j hk hj) ?_
  have hval : Value.agg es[k].cells.toList.toArray = es[k] := by
   obtain ⟨c, hc⟩ := hagg k hk;rw [hc]; simp [Value.cells]
  rw [hval];refine eO U Z hg Z Z (hcl wr hcw es[k] (List.getElem_mem hk)) ?_;rintro _ w2 ⟨rfl, hc2⟩;(refine mW ?_);refine pE Z (fun hc => ?_) (fun hc => ?_)
  ·(refine cS (bJ (aA0 zq (aA0 zq (gU ?_)))))
   exact eN Z Z ⟨.inl ⟨k, Z, hk, hc⟩, hcw.trans hc2⟩
  ·(refine lR (bJ (aA0 zq (aA0 zq (mW ?_)))))
   refine y_k (hK _ _ _ _ ⟨k + 1, by omega, Z, Z, fun i hi hik => ?_, hcw.trans hc2⟩ J ⟨Z, Z, Z, ?_, trivial⟩)
   ·by_cases h : i < k
    ·exact hpk i hi h
    ·obtain rfl : i = k := by omega
     exact hc
   ·show some (Value.int _ (IntKind.i64.wrap (↑k + 1))) = _
    rw [w64 J J]
    rfl
 ·(refine y_exit _ Z (cS (bJ (aA0 zq (gU ?_)))))
  refine eN Z Z ⟨.inr ⟨Z, fun x hx => ?_⟩, hcw⟩;obtain ⟨i, hi, rfl⟩ := List.getElem_of_mem hx;exact hpk i hi J
theorem conF_hold (w : World) (lo hi : Nat) (v cv : Value) (es : List Value) (p : Value → Bool) (hrd : RdE w lo hi v 3 es) (hagg : ∀ i (hi : i < es.length), ∃ c, es[i] = .agg c) (hlen : es.length < 4611686018427387904) (hp : PredAt Tryz.prog tab w cv es p) :
  Ca Tryz.prog 91 [v, cv] w fun r w' => r = .bool (es.any p) ∧ Chg [] w w' := by
 refine lH Tryz.func91 Z (by simp [Tryz.ntmps91]) ?_;(refine cS (bJ (aA0 zq (cS (bJ (aA0 zq (aA0 zq ?_)))))));refine eO U Z Z Z Z (idxF_hold w lo hi v cv es p hrd hagg hlen hp) ?_;rintro r w2 ⟨⟨i, rfl, hi, hpi⟩ | ⟨rfl, hall⟩, hc2⟩
 ·(refine aA0 zq (aA0 zq (gU ?_)))
  refine eN Z Z ⟨?_, hc2⟩;have h1 : es.any p = true := List.any_eq_true.2 ⟨_, List.getElem_mem hi, hpi⟩;rw [h1];exact congrArg Value.bool (decide_eq_true J)
 ·(refine aA0 zq (aA0 zq (gU ?_)))
  refine eN Z Z ⟨?_, hc2⟩;have h1 : es.any p = false := List.any_eq_false.2 (fun x hx => by simp [hall x hx]);rw [h1]
  rfl
theorem all1_hold (w : World) (b t : Nat) (cv x : Value) (es : List Value) (p : Value → Bool) (hx : ∃ c, x = .agg c ∧ c.size = 3) (hm : x ∈ es) (hb : Blk w b [cv] t) (hp : PredAt Tryz.prog tab w cv es p) :
  Ca Tryz.prog 172 [x, aC0 b] w fun r w' => r = .bool (!(p x)) ∧ Chg [] w w' := by
 obtain ⟨g, first, caps, rfl, hg, hcl⟩ := hp;obtain ⟨c, rfl, hcs⟩ := hx;refine lH Tryz.func172 Z (by simp [Tryz.ntmps172]) ?_;(refine cS (bJ ?_));refine yl_box Z Z (fun w1 hc1 hs1 hb1 => ?_);have hb' := hb.keep hc1;(refine aA0 zq (cS (bJ ?_)); refine yl_loadB U Z Z Z (by assumption) (by rfl) ?_);refine yl_loadAB U Z Z Z hb1 (us := c.toList) (List.take_of_length_le (by simp [Value.cells, hcs])) (by simpa using hcs) ?_;refine eO U Z hg Z Z (hcl w1 hc1 _ hm) ?_;rintro _ w2 ⟨rfl, hc2⟩;(refine aA0 zq (aA0 zq (gU ?_)));exact eN Z Z ⟨Z, hc1.trans hc2⟩
theorem all_hold (w : World) (lo hi : Nat) (v cv : Value) (es : List Value) (p : Value → Bool) (hrd : RdE w lo hi v 3 es) (hagg : ∀ i (hi : i < es.length), ∃ c, es[i] = .agg c) (hlen : es.length < 4611686018427387904) (hp : PredAt Tryz.prog tab w cv es p) :
  Ca Tryz.prog 137 [v, cv] w fun r w' => r = .bool (es.all p) ∧ Chg [] w w' := by
 refine lH Tryz.func137 Z (by simp [Tryz.ntmps137]) ?_;(refine cS (bJ ?_));refine yl_box Z Z (fun w1 hc1 hs1 hb1 => ?_);have hcv : cv.cells.toList = [cv] := by obtain ⟨g, first, caps, rfl, _, _⟩ := hp; rfl
 rw [hcv] at hb1
 have hp1 : PredAt Tryz.prog tab w1 (.func (.func 172) #[] #[aC0 w.heap.size]) es (fun x => !(p x)) := by
  refine ⟨172, #[], #[_], Z, Z, fun w' hw' x hx => ?_⟩;refine all1_hold w' w.heap.size _ cv x es p ?_ hx (hb1.keep hw') (hp.keep (hc1.trans hw'));obtain ⟨i, hi, rfl⟩ := List.getElem_of_mem hx;obtain ⟨c, hc⟩ := hagg i hi; exact ⟨c, hc, by have := hrd.sz _ hx; rw [hc] at this; exact this⟩
 (refine aA0 zq (cS (bJ (aA0 zq (aA0 zq ?_)))))
 refine eO U Z Z Z Z (conF_hold w1 lo hi v _ es _ (hrd.keep hc1) hagg hlen hp1) ?_;rintro _ w2 ⟨rfl, hc2⟩;(refine aA0 zq (aA0 zq (gU ?_)));refine eN Z Z ⟨?_, hc1.trans hc2⟩;rw [List.all_eq_not_any_not]
theorem idxF_test (w : World) (lo hi : Nat) (v cv : Value) (es : List Value) (p : Value → Bool) (hrd : RdE w lo hi v 2 es) (hagg : ∀ i (hi : i < es.length), ∃ c, es[i] = .agg c) (hlen : es.length < 4611686018427387904) (hp : PredAt Tryz.prog tab w cv es p) :
  Ca Tryz.prog 197 [v, cv] w fun r w' => ((∃ i : Nat, r = .int .i64 i ∧ ∃ hi : i < es.length, p es[i] = true) ∨ (r = .int .i64 (-1) ∧ ∀ x ∈ es, p x = false)) ∧ Chg [] w w' := by
 obtain ⟨a, cap, rfl, hsl⟩ := hrd.out;obtain ⟨g, first, caps, rfl, hg, hcl⟩ := hp;refine lH Tryz.func197 Z (by simp [Tryz.ntmps197]) ?_;(refine cS (bJ (aA0 zq (cS (cS (bJ ?_))))); (iterate 3 refine aA0 zq ?_); refine iK ?_)
 refine y_loop (fun m l wr => ∃ k : Nat, k ≤ es.length ∧ m = es.length - k ∧ l = [(0, .slice a es.length cap), (1, .func (.func g) first caps), (7, .int .i64 es.length), (8, .int .i64 k)] ∧ (∀ i (hi : i < es.length), i < k → p es[i] = false) ∧ Chg [] w wr) (m := es.length)
  ⟨0, by omega, rfl, rfl, fun i _ hi => by omega, Chg.refl _ _⟩ ⟨rfl, rfl, rfl, rfl, trivial⟩ ?_
 rintro m l wr ⟨k, hkl, rfl, rfl, hpk, hcw⟩ K hK;(refine cS (bJ (aA0 zq (cS ?_))));refine y_if Z (fun hc => ?_) (fun hc => ?_)
 ·have hk : k < es.length := by omega
  obtain ⟨b, off, rfl⟩ := hsl J;(refine lR (cS (iK (cS (bJ (aA0 zq (aA0 zq (cS (bJ ?_)))))))); (iterate 3 refine aA0 zq ?_));refine nN U Z Z Z Z Z J J ?_;refine yl_loadA U Z Z Z (cs := es[k].cells.toList) (by simpa using hrd.sz es[k] (List.getElem_mem hk)) (fun j hj => (hrd.keep hcw).cell k j hk hj) ?_
  have hval : Value.agg es[k].cells.toList.toArray = es[k] := by
   obtain ⟨c, hc⟩ := hagg k hk;rw [hc]; simp [Value.cells]
  rw [hval];refine eO U Z hg Z Z (hcl wr hcw es[k] (List.getElem_mem hk)) ?_;rintro _ w2 ⟨rfl, hc2⟩;(refine mW ?_);refine pE Z (fun hc => ?_) (fun hc => ?_)
  ·(refine cS (bJ (aA0 zq (aA0 zq (gU ?_)))))
   exact eN Z Z ⟨.inl ⟨k, Z, hk, hc⟩, hcw.trans hc2⟩
  ·(refine lR (bJ (aA0 zq (aA0 zq (mW ?_)))))
   refine y_k (hK _ _ _ _ ⟨k + 1, by omega, Z, Z, fun i hi hik => ?_, hcw.trans hc2⟩ J ⟨Z, Z, Z, ?_, trivial⟩)
   ·by_cases h : i < k
    ·exact hpk i hi h
    ·obtain rfl : i = k := by omega
     exact hc
   ·show some (Value.int _ (IntKind.i64.wrap (↑k + 1))) = _
    rw [w64 J J]
    rfl
 ·(refine y_exit _ Z (cS (bJ (aA0 zq (gU ?_)))))
  refine eN Z Z ⟨.inr ⟨Z, fun x hx => ?_⟩, hcw⟩;obtain ⟨i, hi, rfl⟩ := List.getElem_of_mem hx;exact hpk i hi J
theorem conF_test (w : World) (lo hi : Nat) (v cv : Value) (es : List Value) (p : Value → Bool) (hrd : RdE w lo hi v 2 es) (hagg : ∀ i (hi : i < es.length), ∃ c, es[i] = .agg c) (hlen : es.length < 4611686018427387904) (hp : PredAt Tryz.prog tab w cv es p) :
  Ca Tryz.prog 161 [v, cv] w fun r w' => r = .bool (es.any p) ∧ Chg [] w w' := by
 refine lH Tryz.func161 Z (by simp [Tryz.ntmps161]) ?_;(refine cS (bJ (aA0 zq (cS (bJ (aA0 zq (aA0 zq ?_)))))));refine eO U Z Z Z Z (idxF_test w lo hi v cv es p hrd hagg hlen hp) ?_;rintro r w2 ⟨⟨i, rfl, hi, hpi⟩ | ⟨rfl, hall⟩, hc2⟩
 ·(refine aA0 zq (aA0 zq (gU ?_)))
  refine eN Z Z ⟨?_, hc2⟩;have h1 : es.any p = true := List.any_eq_true.2 ⟨_, List.getElem_mem hi, hpi⟩;rw [h1];exact congrArg Value.bool (decide_eq_true J)
 ·(refine aA0 zq (aA0 zq (gU ?_)))
  refine eN Z Z ⟨?_, hc2⟩;have h1 : es.any p = false := List.any_eq_false.2 (fun x hx => by simp [hall x hx]);rw [h1]
  rfl
theorem all1_test (w : World) (b t : Nat) (cv x : Value) (es : List Value) (p : Value → Bool) (hx : ∃ c, x = .agg c ∧ c.size = 2) (hm : x ∈ es) (hb : Blk w b [cv] t) (hp : PredAt Tryz.prog tab w cv es p) :
  Ca Tryz.prog 162 [x, aC0 b] w fun r w' => r = .bool (!(p x)) ∧ Chg [] w w' := by
 obtain ⟨g, first, caps, rfl, hg, hcl⟩ := hp;obtain ⟨c, rfl, hcs⟩ := hx;refine lH Tryz.func162 Z (by simp [Tryz.ntmps162]) ?_;(refine cS (bJ ?_));refine yl_box Z Z (fun w1 hc1 hs1 hb1 => ?_);have hb' := hb.keep hc1;(refine aA0 zq (cS (bJ ?_)); refine yl_loadB U Z Z Z (by assumption) (by rfl) ?_);refine yl_loadAB U Z Z Z hb1 (us := c.toList) (List.take_of_length_le (by simp [Value.cells, hcs])) (by simpa using hcs) ?_;refine eO U Z hg Z Z (hcl w1 hc1 _ hm) ?_;rintro _ w2 ⟨rfl, hc2⟩;(refine aA0 zq (aA0 zq (gU ?_)));exact eN Z Z ⟨Z, hc1.trans hc2⟩
theorem all_test (w : World) (lo hi : Nat) (v cv : Value) (es : List Value) (p : Value → Bool) (hrd : RdE w lo hi v 2 es) (hagg : ∀ i (hi : i < es.length), ∃ c, es[i] = .agg c) (hlen : es.length < 4611686018427387904) (hp : PredAt Tryz.prog tab w cv es p) :
  Ca Tryz.prog 110 [v, cv] w fun r w' => r = .bool (es.all p) ∧ Chg [] w w' := by
 refine lH Tryz.func110 Z (by simp [Tryz.ntmps110]) ?_;(refine cS (bJ ?_));refine yl_box Z Z (fun w1 hc1 hs1 hb1 => ?_);have hcv : cv.cells.toList = [cv] := by obtain ⟨g, first, caps, rfl, _, _⟩ := hp; rfl
 rw [hcv] at hb1
 have hp1 : PredAt Tryz.prog tab w1 (.func (.func 162) #[] #[aC0 w.heap.size]) es (fun x => !(p x)) := by
  refine ⟨162, #[], #[_], Z, Z, fun w' hw' x hx => ?_⟩;refine all1_test w' w.heap.size _ cv x es p ?_ hx (hb1.keep hw') (hp.keep (hc1.trans hw'));obtain ⟨i, hi, rfl⟩ := List.getElem_of_mem hx;obtain ⟨c, hc⟩ := hagg i hi; exact ⟨c, hc, by have := hrd.sz _ hx; rw [hc] at this; exact this⟩
 (refine aA0 zq (cS (bJ (aA0 zq (aA0 zq ?_)))))
 refine eO U Z Z Z Z (conF_test w1 lo hi v _ es _ (hrd.keep hc1) hagg hlen hp1) ?_;rintro _ w2 ⟨rfl, hc2⟩;(refine aA0 zq (aA0 zq (gU ?_)));refine eN Z Z ⟨?_, hc1.trans hc2⟩;rw [List.all_eq_not_any_not]
theorem idxF_rints (w : World) (lo hi : Nat) (v cv : Value) (es : List Value) (p : Value → Bool) (hrd : RdE w lo hi v 1 es) (hone : ∀ i (hi : i < es.length), dJ es[i] = true) (hlen : es.length < 4611686018427387904) (hp : PredAt Tryz.prog tab w cv es p) :
  Ca Tryz.prog 200 [v, cv] w fun r w' => ((∃ i : Nat, r = .int .i64 i ∧ ∃ hi : i < es.length, p es[i] = true) ∨ (r = .int .i64 (-1) ∧ ∀ x ∈ es, p x = false)) ∧ Chg [] w w' := by
 obtain ⟨a, cap, rfl, hsl⟩ := hrd.out;obtain ⟨g, first, caps, rfl, hg, hcl⟩ := hp;refine lH Tryz.func200 Z (by simp [Tryz.ntmps200]) ?_;(refine cS (bJ (aA0 zq (cS (cS (bJ ?_))))); (iterate 3 refine aA0 zq ?_); refine iK ?_)
 refine y_loop (fun m l wr => ∃ k : Nat, k ≤ es.length ∧ m = es.length - k ∧ l = [(0, .slice a es.length cap), (1, .func (.func g) first caps), (7, .int .i64 es.length), (8, .int .i64 k)] ∧ (∀ i (hi : i < es.length), i < k → p es[i] = false) ∧ Chg [] w wr) (m := es.length)
  ⟨0, by omega, rfl, rfl, fun i _ hi => by omega, Chg.refl _ _⟩ ⟨rfl, rfl, rfl, rfl, trivial⟩ ?_
 rintro m l wr ⟨k, hkl, rfl, rfl, hpk, hcw⟩ K hK;(refine cS (bJ (aA0 zq (cS ?_))));refine y_if Z (fun hc => ?_) (fun hc => ?_)
 ·have hk : k < es.length := by omega
  obtain ⟨b, off, rfl⟩ := hsl J;(refine lR (cS (iK (cS (bJ (aA0 zq (aA0 zq (cS (bJ ?_)))))))); (iterate 3 refine aA0 zq ?_));refine nN U Z Z Z Z Z J J ?_;refine pD U Z Z Z (v := es[k]) (by rw [show (Int.toNat (k : Int)) = k from rfl]; exact (hrd.keep hcw).cell1 k hk (hone k hk)) ?_;refine eO U Z hg Z Z (hcl wr hcw es[k] (List.getElem_mem hk)) ?_;rintro _ w2 ⟨rfl, hc2⟩;(refine mW ?_);refine pE Z (fun hc => ?_) (fun hc => ?_)
  ·(refine cS (bJ (aA0 zq (aA0 zq (gU ?_)))))
   exact eN Z Z ⟨.inl ⟨k, Z, hk, hc⟩, hcw.trans hc2⟩
  ·(refine lR (bJ (aA0 zq (aA0 zq (mW ?_)))))
   refine y_k (hK _ _ _ _ ⟨k + 1, by omega, Z, Z, fun i hi hik => ?_, hcw.trans hc2⟩ J ⟨Z, Z, Z, ?_, trivial⟩)
   ·by_cases h : i < k
    ·exact hpk i hi h
    ·obtain rfl : i = k := by omega
     exact hc
   ·show some (Value.int _ (IntKind.i64.wrap (↑k + 1))) = _
    rw [w64 J J]
    rfl
 ·(refine y_exit _ Z (cS (bJ (aA0 zq (gU ?_)))))
  refine eN Z Z ⟨.inr ⟨Z, fun x hx => ?_⟩, hcw⟩;obtain ⟨i, hi, rfl⟩ := List.getElem_of_mem hx;exact hpk i hi J
theorem conF_rints (w : World) (lo hi : Nat) (v cv : Value) (es : List Value) (p : Value → Bool) (hrd : RdE w lo hi v 1 es) (hone : ∀ i (hi : i < es.length), dJ es[i] = true) (hlen : es.length < 4611686018427387904) (hp : PredAt Tryz.prog tab w cv es p) :
  Ca Tryz.prog 175 [v, cv] w fun r w' => r = .bool (es.any p) ∧ Chg [] w w' := by
 refine lH Tryz.func175 Z (by simp [Tryz.ntmps175]) ?_;(refine cS (bJ (aA0 zq (cS (bJ (aA0 zq (aA0 zq ?_)))))));refine eO U Z Z Z Z (idxF_rints w lo hi v cv es p hrd hone hlen hp) ?_;rintro r w2 ⟨⟨i, rfl, hi, hpi⟩ | ⟨rfl, hall⟩, hc2⟩
 ·(refine aA0 zq (aA0 zq (gU ?_)))
  refine eN Z Z ⟨?_, hc2⟩;have h1 : es.any p = true := List.any_eq_true.2 ⟨_, List.getElem_mem hi, hpi⟩;rw [h1];exact congrArg Value.bool (decide_eq_true J)
 ·(refine aA0 zq (aA0 zq (gU ?_)))
  refine eN Z Z ⟨?_, hc2⟩;have h1 : es.any p = false := List.any_eq_false.2 (fun x hx => by simp [hall x hx]);rw [h1]
  rfl
theorem all1_rints (w : World) (b t : Nat) (cv x : Value) (es : List Value) (p : Value → Bool) (_hx : dJ x = true) (hm : x ∈ es) (hb : Blk w b [cv] t) (hp : PredAt Tryz.prog tab w cv es p) :
  Ca Tryz.prog 176 [x, aC0 b] w fun r w' => r = .bool (!(p x)) ∧ Chg [] w w' := by
 obtain ⟨g, first, caps, rfl, hg, hcl⟩ := hp;refine lH Tryz.func176 Z (by simp [Tryz.ntmps176]) ?_;(refine cS (bJ (aA0 zq (cS (bJ ?_)))); refine yl_loadB U Z Z Z (by assumption) (by rfl) ?_; refine aA0 zq ?_);refine eO U Z hg Z Z (hcl w (Chg.refl _ _) _ hm) ?_;rintro _ w2 ⟨rfl, hc2⟩;(refine aA0 zq (aA0 zq (gU ?_)));exact eN Z Z ⟨Z, hc2⟩
theorem all_rints (w : World) (lo hi : Nat) (v cv : Value) (es : List Value) (p : Value → Bool) (hrd : RdE w lo hi v 1 es) (hone : ∀ i (hi : i < es.length), dJ es[i] = true) (hlen : es.length < 4611686018427387904) (hp : PredAt Tryz.prog tab w cv es p) :
  Ca Tryz.prog 146 [v, cv] w fun r w' => r = .bool (es.all p) ∧ Chg [] w w' := by
 refine lH Tryz.func146 Z (by simp [Tryz.ntmps146]) ?_;(refine cS (bJ ?_));refine yl_box Z Z (fun w1 hc1 hs1 hb1 => ?_);have hcv : cv.cells.toList = [cv] := by obtain ⟨g, first, caps, rfl, _, _⟩ := hp; rfl
 rw [hcv] at hb1
 have hp1 : PredAt Tryz.prog tab w1 (.func (.func 176) #[] #[aC0 w.heap.size]) es (fun x => !(p x)) := by
  refine ⟨176, #[], #[_], Z, Z, fun w' hw' x hx => ?_⟩;refine all1_rints w' w.heap.size _ cv x es p ?_ hx (hb1.keep hw') (hp.keep (hc1.trans hw'));obtain ⟨i, hi, rfl⟩ := List.getElem_of_mem hx;exact hone i hi
 (refine aA0 zq (cS (bJ (aA0 zq (aA0 zq ?_)))))
 refine eO U Z Z Z Z (conF_rints w1 lo hi v _ es _ (hrd.keep hc1) hone hlen hp1) ?_;rintro _ w2 ⟨rfl, hc2⟩;(refine aA0 zq (aA0 zq (gU ?_)));refine eN Z Z ⟨?_, hc1.trans hc2⟩;rw [List.all_eq_not_any_not]
abbrev hdV (l : Hd) : Value := .agg #[.int .i64 l.who, .int .i64 l.f, .int .i64 l.t]
abbrev RdH (w : World) (lo hi : Nat) (v : Value) (l : List Hd) : Prop := RdE w lo hi v 3 (l.map hdV)
def hdC (l : List Hd) : List Value := l.flatMap fun x => [.int .i64 x.who, .int .i64 x.f, .int .i64 x.t]
section
variable {w w' : World} {lo hi b off len cap : Nat} {v : Value}
theorem RdH.outI {l : List Hd} (h : RdH w lo hi v l) : ∃ a cap, v = .slice a l.length cap ∧ (0 < l.length → ∃ b off, a = some ⟨b, off, none⟩) := by
 have := RdE.out h;simpa using this
theorem RdH.at {l : List Hd} (h : RdH w lo hi (.slice (some ⟨b, off, none⟩) len cap) l) (i : Nat) (hi : i < l.length) (j : Nat) (hj : j < 3) : w.cell? ⟨b, off + i * 3 + j, none⟩ = [Value.int .i64 l[i].who, Value.int .i64 l[i].f, Value.int .i64 l[i].t][j]? := by
 have := RdE.cell h i j (by simpa using hi) hj;rw [this];simp [hdV, Value.cells]
theorem RdH.at0 {l : List Hd} (h : RdH w lo hi (.slice (some ⟨b, off, none⟩) len cap) l) (i : Nat) (hi : i < l.length) : w.cell? ⟨b, off + i * 3 + 0, none⟩ = some (.int .i64 l[i].who) := RdH.at h i hi 0 J
theorem RdH.at1 {l : List Hd} (h : RdH w lo hi (.slice (some ⟨b, off, none⟩) len cap) l) (i : Nat) (hi : i < l.length) : w.cell? ⟨b, off + i * 3 + 1, none⟩ = some (.int .i64 l[i].f) := RdH.at h i hi 1 J
theorem RdH.at2 {l : List Hd} (h : RdH w lo hi (.slice (some ⟨b, off, none⟩) len cap) l) (i : Nat) (hi : i < l.length) : w.cell? ⟨b, off + i * 3 + 2, none⟩ = some (.int .i64 l[i].t) := RdH.at h i hi 2 J
theorem cells_hdC (l : List Hd) : cellsOf (l.map hdV) = hdC l := by simp [cellsOf, hdC, List.flatMap_map, Value.cells]
theorem hdC_length (l : List Hd) : (hdC l).length = l.length * 3 := by
 rw [← cells_hdC, fY (sz := 3)]
 ·simp
 ·intro e he; obtain ⟨x, _, rfl⟩ := List.mem_map.1 he; rfl
theorem RdH.row {l : List Hd} (h : RdH w lo hi v l) : Rd w lo hi v 3 l.length (hdC l) := by
 have := h.rd;rw [cells_hdC, List.length_map] at this;exact this
theorem RdH.of {l : List Hd} (h : Rd w lo hi v 3 l.length (hdC l)) : RdH w lo hi v l := ⟨by rw [cells_hdC, List.length_map]; exact h, fun e he => by obtain ⟨x, _, rfl⟩ := List.mem_map.1 he; rfl⟩
theorem dA {t n : Nat} {l : List Hd} (h : w.ownsRow 0 t 3 v n (hdC l)) (hn : n = l.length) : RdH w 0 w.heap.size v l := by
 subst hn;exact RdH.of (own_rd h)
end
abbrev nodV (l : Nd) : Value := .agg #[.int .i64 l.r, .int .i64 l.p, .int .i64 l.f]
abbrev RdN (w : World) (lo hi : Nat) (v : Value) (l : List Nd) : Prop := RdE w lo hi v 3 (l.map nodV)
def dK (l : List Nd) : List Value := l.flatMap fun x => [.int .i64 x.r, .int .i64 x.p, .int .i64 x.f]
section
variable {w w' : World} {lo hi b off len cap : Nat} {v : Value}
theorem RdN.outI {l : List Nd} (h : RdN w lo hi v l) : ∃ a cap, v = .slice a l.length cap ∧ (0 < l.length → ∃ b off, a = some ⟨b, off, none⟩) := by
 have := RdE.out h;simpa using this
theorem RdN.at {l : List Nd} (h : RdN w lo hi (.slice (some ⟨b, off, none⟩) len cap) l) (i : Nat) (hi : i < l.length) (j : Nat) (hj : j < 3) : w.cell? ⟨b, off + i * 3 + j, none⟩ = [Value.int .i64 l[i].r, Value.int .i64 l[i].p, Value.int .i64 l[i].f][j]? := by
 have := RdE.cell h i j (by simpa using hi) hj;rw [this];simp [nodV, Value.cells]
theorem RdN.at0 {l : List Nd} (h : RdN w lo hi (.slice (some ⟨b, off, none⟩) len cap) l) (i : Nat) (hi : i < l.length) : w.cell? ⟨b, off + i * 3 + 0, none⟩ = some (.int .i64 l[i].r) := RdN.at h i hi 0 J
theorem RdN.at1 {l : List Nd} (h : RdN w lo hi (.slice (some ⟨b, off, none⟩) len cap) l) (i : Nat) (hi : i < l.length) : w.cell? ⟨b, off + i * 3 + 1, none⟩ = some (.int .i64 l[i].p) := RdN.at h i hi 1 J
theorem RdN.at2 {l : List Nd} (h : RdN w lo hi (.slice (some ⟨b, off, none⟩) len cap) l) (i : Nat) (hi : i < l.length) : w.cell? ⟨b, off + i * 3 + 2, none⟩ = some (.int .i64 l[i].f) := RdN.at h i hi 2 J
theorem cells_nodC (l : List Nd) : cellsOf (l.map nodV) = dK l := by simp [cellsOf, dK, List.flatMap_map, Value.cells]
theorem fK (l : List Nd) : (dK l).length = l.length * 3 := by
 rw [← cells_nodC, fY (sz := 3)]
 ·simp
 ·intro e he; obtain ⟨x, _, rfl⟩ := List.mem_map.1 he; rfl
theorem RdN.row {l : List Nd} (h : RdN w lo hi v l) : Rd w lo hi v 3 l.length (dK l) := by
 have := h.rd;rw [cells_nodC, List.length_map] at this;exact this
theorem RdN.of {l : List Nd} (h : Rd w lo hi v 3 l.length (dK l)) : RdN w lo hi v l := ⟨by rw [cells_nodC, List.length_map]; exact h, fun e he => by obtain ⟨x, _, rfl⟩ := List.mem_map.1 he; rfl⟩
theorem fC {t n : Nat} {l : List Nd} (h : w.ownsRow 0 t 3 v n (dK l)) (hn : n = l.length) : RdN w 0 w.heap.size v l := by
 subst hn;exact RdN.of (own_rd h)
end
abbrev tsV (q : Int × Int) : Value := .agg #[.int .i64 q.1, .int .i64 q.2]
theorem hdV_agg (l : List Hd) : ∀ i (hi : i < (l.map hdV).length), ∃ c, (l.map hdV)[i] = .agg c := fun i hi => ⟨_, by rw [List.getElem_map]⟩
theorem rtV_agg (l : List (Int × Int)) : ∀ i (hi : i < (l.map rtV).length), ∃ c, (l.map rtV)[i] = .agg c := fun i hi => ⟨_, by rw [List.getElem_map]⟩
theorem oX (l : List Hd) (h : Hd) : hdC (l ++ [h]) = hdC l ++ [.int .i64 h.who, .int .i64 h.f, .int .i64 h.t] := by simp [hdC]
theorem nodC_snoc (l : List Nd) (h : Nd) : dK (l ++ [h]) = dK l ++ [.int .i64 h.r, .int .i64 h.p, .int .i64 h.f] := by simp [dK]
abbrev lbC (l : Lb) (v : Value) : List Value := [.int .i64 l.skis, .int .i64 l.err, v]
def knP (s : Int) (r : Rn) : Bool := inB r.a 0 (s - 1) && (inB r.b 0 (s - 1) && (!decide (r.a = r.b)))
def pKn (s : Int) : Value → Bool
 | .agg cs => match cs.toList with
  | [.int _ a, .int _ b, .int _ c] => knP s ⟨a, b, c⟩
  | _ => false
 | _ => false
def pLd : Value → Bool
 | .agg cs => match cs.toList with
  | [.int _ _, .int _ _, .int _ c] => inB c (-10000) 10000
  | _ => false
 | _ => false
def runI (e : Int) (r : Rn) : Option (Int × Int) := if e < r.lead then some (r.a, r.b) else if r.lead < -e then some (r.b, r.a) else none
def shO : Option (Int × Int) → Value
 | some p => .tuple #[.agg #[.int .i64 p.1, .int .i64 p.2], .bool true]
 | none => .tuple #[.agg #[.int .i64 0, .int .i64 0], .bool false]
def shP (l : Lb) (n : Nat) : List (Nat × Int × Int) := (List.range n).filterMap fun i => (runI l.err (l.runs.getD i ⟨0, 0, 0⟩)).map fun p => (i, p)
def shL (l : Lb) : List (Nat × Int × Int) := shP l l.runs.length
def shE (x : Nat × Int × Int) : List Value := [.int .i64 x.1, .agg #[.int .i64 x.2.1, .int .i64 x.2.2]]
def oL (o : Nat) : List Bool := (List.range 64).map o.testBit
def oC (o : Nat) : List Value := (oL o).map Value.bool
def pO (o p n : Nat) : Nat := mkB (fun c => if c < n then p.testBit c else o.testBit c) 64
theorem bL (l : List Value) : (Value.agg l.toArray).cells.toList = l := rfl
def sureB (o n place s : Nat) : Bool := upN o s n == place && (dnN o s n + 1 + place == n && true)
def sureP (o n place j : Nat) : Bool := (List.range j).any (sureB o n place) && true
def knP' (o n p : Nat) : Bool := (List.range p).all fun place => sureP o n place n
abbrev dkC (l : Lb) (v : Value) (o : Nat) : List Value := .int .i64 l.skis :: .int .i64 l.err :: v :: oC o
def confV (o n : Nat) : Int := match (List.range n).find? (fun s => fa o s s) with
 | some s => s
 | none => -1
def ordS (xs : List (Nat × Int × Int)) : Nat := iZ (xs.map fun x => (x.2.1.toNat, x.2.2.toNat))
end Go.Proofs.YtopdmadgkjdgcaaGreat
namespace Go.Eng
set_option maxRecDepth 4000
open Go Go.RowKit
section
variable {P : Program} {ro : Cx} {n : Nat} {F : Fin} {w0 : World} {M : Nat → Prop} {k : List It} {ops : Array Oper} {rest : List Oper} {e : Env} {H Hq : List Ck}
end
end Go.Eng
namespace Go.Proofs.YtopdmadgkjdgcaaGreat
open Go Go.Eng
set_option maxRecDepth 4000
open Go Go.Eng
def plC (l : Lb) (o k : Nat) : List (Int × Int) := (List.range k).map fun s => ((1 + upN o s l.n : Nat), l.skis - dnN o s l.n)
theorem Blk.rdN {w : World} {b : Nat} {cs : List Value} {t : TypeId} {c sz q : Nat} (h : Blk w b cs t) (hl : cs.length = q * sz) : Rd w 0 w.heap.size (aB9 b q c) sz q cs :=
 ⟨hl, .inr ⟨b, 0, c, rfl, fun _ => ⟨Nat.zero_le _, h.lt, h.lt⟩, fun j _ => by rw [Blk.cell h]; simp⟩⟩
theorem slS : SlT Tryz.prog 63 56 2 16 (.agg #[.int .i64 0, .int .i64 0]) := ⟨by kernel_rfl, by kernel_rfl, by kernel_rfl, by decide⟩
def pc (S : Nat) : Nat := ((List.range 8).filter S.testBit).length
def mmT (o n S k T s : Nat) : Nat := cond (T.testBit s && ((decide (T ^^^ 2 ^ s < S) || (decide (T ^^^ 2 ^ s = S) && decide (s < k))) && freeO o n s (T ^^^ 2 ^ s))) (cnt o n (T ^^^ 2 ^ s)) 0
def mm (o n S k T : Nat) : Nat := if T = 0 then 1 else sumN (mmT o n S k T) n
def mmL (o n S k : Nat) : List Int := (List.range (2 ^ n)).map fun T => ((mm o n S k T : Nat) : Int)
theorem slI : SlT Tryz.prog 29 3 1 8 (.int .i64 0) := ⟨by kernel_rfl, by kernel_rfl, by kernel_rfl, by decide⟩
end Go.Proofs.YtopdmadgkjdgcaaGreat
namespace Go.Eng
set_option maxRecDepth 4000
open Go Go.RowKit
section
variable {P : Program}
def arr2B (P : Program) (t e b n1 n2 : Nat) : Bool :=
 !(P.eqGuardType P.depth t) && (match P.underlying t with | some (.array n' e') => Nat.beq n' n1 && Nat.beq e' e | _ => false) && (Nat.beq (P.cellsOf e) n2 && (P.info? e).isSome) && arrQB P e n2 b && (match P.underlying e with | some (.array _ _) => true | _ => false) && (P.info? b).isSome && Nat.beq (P.cellsOf b) 1
structure Arr2 (P : Program) (t e b n1 n2 : Nat) : Prop where
 g : P.eqGuardType P.depth t = false
 u : P.underlying t = some (.array n1 e)
 c : P.cellsOf e = n2
 i : (P.info? e).isSome = true
 q : arrQB P e n2 b = true
 v : ∃ n' e', P.underlying e = some (.array n' e')
theorem run_partArr {t n n' e' : Nat} (hu : P.underlying t = some (.array n' e')) (hc : P.cellsOf t = n) (hi : (P.info? t).isSome = true) (xs : List Value) (o : Nat) (w : World) : (part t xs.toArray o).run P w = .ok (.agg ((xs.drop o).take n).toArray) w := by
 obtain ⟨i, hi⟩ := Option.isSome_iff_exists.1 hi
 have e : xs.toArray.extract o (o + n) = ((xs.drop o).take n).toArray := by
  apply Array.ext';simp [List.extract_eq_take_drop]
 simp [part, isAgg, run_underlying hu, run_sizeOf w hi, hc, e]
theorem forIn_ok {w : World} {f : Nat → PUnit → Sem (ForInStep PUnit)} : ∀ l : List Nat, (∀ i ∈ l, (f i PUnit.unit).run P w = .ok (ForInStep.yield PUnit.unit) w) → (forIn (m := Sem) l PUnit.unit f).run P w = .ok PUnit.unit w
 | [], _ => by simp
 | i :: l, h => by
  have ih := forIn_ok l (fun j hj => h j (List.mem_cons_of_mem _ hj));simp only [List.forIn_cons, Sem.run_bind, h i List.mem_cons_self, Result.andThen_ok];exact ih
theorem chk_row {e b n2 : Nat} (h : arrQB P e n2 b = true) (empty : Bool) (d : Nat) (w : World) (l : List Bool) (hl : l.length = n2) : (Instr.checkKey empty (d + 2) e (.agg (l.map Value.bool).toArray)).run P w = .ok () w := by
 simp only [arrQB, Bool.and_eq_true, Bool.not_eq_true'] at h;obtain ⟨⟨⟨⟨⟨h1, h2⟩, h3⟩, h4⟩, h5⟩, h6⟩ := h;split at h5
 ·rename_i n' e' hu
  simp only [Bool.and_eq_true] at h5;have hn := Nat.eq_of_beq_eq_true h5.1;have he := Nat.eq_of_beq_eq_true h5.2;subst hn;subst he;split at h6
  ·rename_i hb
   obtain ⟨i, hi⟩ := Option.isSome_iff_exists.1 h4;rw [Instr.checkKey];simp only [Sem.run_bind, run_underlying hu, Result.andThen_ok, Std.Legacy.Range.forIn_eq_forIn_range', Std.Legacy.Range.size, Nat.sub_zero, Nat.add_one_sub_one, Nat.div_one];rw [forIn_ok]
   ·rfl
   ·intro j hj;have hj2 : j < l.length := by simp at hj; omega
    have p1 := kE (P := P) (xs := (l.map Value.bool).toArray) (o := j * 1) (v := .bool l[j]) h2 (by simp [hj2]) w;have c1 : (Instr.checkKey empty (d + 1) e' (.bool l[j])).run P w = .ok () w := by rw [Instr.checkKey]; simp [run_underlying hb]
    have s1 := run_sizeOf w hi;rw [Nat.eq_of_beq_eq_true h3] at s1;simp only [Sem.run_bind, s1, Result.andThen_ok, p1, c1]
    rfl
  ·cases h6
 ·cases h5
theorem pQ : ∀ (n : Nat) (xs : List Value), gE (List.replicate n none) xs = true → ∃ l : List Bool, xs = l.map Value.bool ∧ l.length = n
 | 0, [], _ => ⟨[], rfl, rfl⟩
 | 0, _ :: _, h => by simp [gE] at h
 | n + 1, [], h => by simp [List.replicate_succ, gE] at h
 | n + 1, v :: xs, h => by
  rw [List.replicate_succ] at h;obtain ⟨v', m, he, hm, hv⟩ := gQ h;cases he
  obtain ⟨l, rfl, hl⟩ := pQ n xs hm;rcases hv with ⟨q, a, hq, _⟩ | ⟨b, _, rfl⟩
  ·cases hq
  ·exact ⟨b :: l, Z, by simp [hl]⟩
theorem eqL_bools : ∀ (l m : List Bool), eqL (l.map Value.bool) (m.map Value.bool) = eqBL l m
 | [], [] => rfl
 | [], _ :: _ => rfl
 | _ :: _, [] => rfl
 | a :: l, b :: m => by simp [eqL, eqBL, eqL_bools l m]
variable {ro : Cx} {n : Nat} {F : Fin} {w0 : World} {M : Nat → Prop} {k : List It} {ops : Array Oper} {rest : List Oper} {e : Env} {H Hq : List Ck}
end
end Go.Eng
namespace Go.Proofs.YtopdmadgkjdgcaaGreat
open Go Go.Eng
set_option maxRecDepth 4000
open Go Go.Eng
abbrev oV (o : Nat) : Value := .agg (oC o).toArray
abbrev withF : Value := .func (.func 214) #[] #[]
end Go.Proofs.YtopdmadgkjdgcaaGreat
namespace Go.Eng
set_option maxRecDepth 4000
open Go Go.RowKit
section
variable {P : Program} {T : Tab} {ro : Cx} {n : Nat} {F : Fin} {w0 : World} {M : Nat → Prop} {k : List It} {ops : Array Oper} {rest : List Oper} {e : Env} {H Hq : List Ck}
end
end Go.Eng
namespace Go.Proofs.YtopdmadgkjdgcaaGreat
open Go Go.Eng
set_option maxRecDepth 4000
open Go Go.Eng
theorem Blk.rdI {w : World} {b c : Nat} {l : List Int} {t : TypeId} (h : Blk w b (aX l) t) : RdI w 0 w.heap.size (aB9 b l.length c) l := RdI.of (by have := Blk.rdN (c := c) (sz := 1) (q := l.length) h (by simp [aX]); exact this)
abbrev oK : Value → Prop := keyF (List.replicate (8 * 8) none)
def GoodP (n k : Nat) (f : Value → Option Value) : Prop := ∀ o, o < 2 ^ 64 → ∀ v, f (oV o) = some v → v = .int .i64 (planO n k o)
section
variable {w w' : World} {b : Nat} {K : Value → Prop} {q : Value → Value → Bool} {f : Value → Option Value}
theorem Blk.mapC {x : Nat} {cs : List Value} {t : TypeId} (h : Blk w x cs t) (hm : MapAt w b K q f) (c : ChgP (· = b) w w') : Blk w' x cs t := by
 obtain ⟨es, clock, h1, _⟩ := hm;refine (c.block x h.lt ?_).trans h;rintro rfl;unfold Blk at h;rw [h] at h1;cases h1
end
abbrev mpO (bm : Nat) (f : Value → Option Value) : Ck := mpP oK eqV bm f
def mst (n k o a b j : Nat) : Nat := if j = 0 then 0 else if j = 1 then planO n k (lC o a b) else max (planO n k (lC o a b)) (planO n k (lC o b a))
def stepP (n k o : Nat) (best : Nat) (p : Nat × Nat) : Nat := cond (undO o p) (min best (worthO n k o p.1 p.2)) best
def foldP (n k o a b : Nat) : Nat := ((List.range b).map fun c => (a, c)).foldl (stepP n k o) ((pairsN a).foldl (stepP n k o) (n * n))
structure PlanOk (l : Lb) (k : Int) : Prop where
 ok : l.Ok
 noC : NoC l.ord l.n
 k1 : 1 ≤ k
 k2 : k ≤ l.skis
 s5 : l.skis ≤ 5
def pIx (n : Int) : Value → Bool
 | .int _ i => inB i 0 (n - 1)
 | _ => false
end Go.Proofs.YtopdmadgkjdgcaaGreat
namespace Go.Eng
set_option maxRecDepth 4000
open Go Go.RowKit
section
variable {P : Program} {T : Tab}
variable {ro : Cx} {n : Nat} {F : Fin} {w0 : World} {M : Nat → Prop} {k : List It} {ops : Array Oper} {rest : List Oper} {e : Env} {H Hq : List Ck}
theorem own_set {w' : World} {et sz g m c i : Nat} {xs : List Value} {u : Value} {cur : Array Value} (hl : xs.length = m * sz) (hg : 0 ≤ g) (hnc : m ≤ c) (hcm : c ≤ maxLen) (hcs : cur.size = c * sz) (ht : cur.toList.take (m * sz) = xs)
  (hb' : Blk w' g (cur.toList.set i u) et) : w'.ownsRow 0 et sz (aB9 g m c) m (xs.set i u) := by
 refine ⟨by simpa using hl, .inr ⟨g, c, (cur.toList.set i u).toArray, Z, hg, by simpa [Blk] using hb', hnc, hcm, by simpa using hcs, ?_⟩⟩;simp only [List.toList_toArray];rw [List.take_set, ht]
theorem qf_storeWs (hT : T.Ok P) {t : Nat} {x y : Operand} {g off m c et sz : Nat} {xs : List Value} {u : Value} {H' : List Ck} {ty : TypeId} {pos : String} {af : Array Edge} (i : Nat)
  (hx : opv e x = some (.pointer (some ⟨g, off, none⟩))) (hy : opv e y = some u) (h1 : has T.one t = true) (hv : dJ u = true)
  (hr : Rp H (.ow (aB9 g m c) et sz m xs) (.ow (aB9 g m c) et sz m (xs.set i u)) H') (ho : off = i) (hi : i < xs.length)
  (h : QF P ro n F w0 M k ops Hq rest e H') : QF P ro n F w0 M k ops Hq (⟨none, .store t x y, ty, pos, af, none⟩ :: rest) e H := .mk fun w hs => by
 subst ho;obtain ⟨hl, h2⟩ : w.ownsRow 0 et sz (aB9 g m c) m xs := hs.mem (hr.app Hq).mem;rcases h2 with ⟨hv', _⟩ | ⟨g', cap, cur, hv', hg, hh, hnc, hcm, hcs, ht⟩
 ·cases hv'
 cases hv'
 have hb : Blk w g cur.toList et := by simpa [Blk] using hh
 have hcl : off < cur.toList.length := by
  have := congrArg List.length ht;rw [List.length_take] at this;omega
 refine yf_store1 hT hx hy h1 hv hb hcl (fun w' hc _ hb' => ?_)
 have hs' := hs.rep (hr.app Hq) hc (fun k hk => by
  obtain rfl : k = g := by simpa using hk
  rfl) (own_set hl hg hnc hcm hcs ht hb') (fun b hb2 => by
  have : b = g := by simpa [Ck.D, Value.ownBlock] using hb2.symm
  subst this;exact ⟨.inl rfl, hb'.lt⟩)
 exact ⟨hs'.right, h.h w' hs'⟩
theorem RdI.part {w : World} {lo hi b off n c c2 k h m : Nat} {l : List Int} (hr : RdI w lo hi (.slice (some ⟨b, off, none⟩) n c) l) (hk : k < h) (hh : h ≤ l.length) (hm : m = h - k) : RdI w lo hi (.slice (some ⟨b, off + k * 1, none⟩) m c2) ((l.drop k).take m) := by
 have hl : ((l.drop k).take m).length = m := by rw [List.length_take, List.length_drop]; omega
 have h1 := hr.rd;rw [kZ _ (by simp [dJ])] at h1
 refine RdI.of (by
  rw [hl];refine ⟨by simp [aX, hl]; omega, ?_⟩;obtain ⟨e1, e2⟩ := h1;rcases e2 with ⟨h3, h4⟩ | ⟨b', off', cap, h3, h4, h5⟩
  ·simp at h4;subst h4;simp at hh;omega
  ·injection h3 with e1 e2 e3
   injection e1 with e1
   injection e1 with e1 e2
   subst e1 e2;refine .inr ⟨b, off + k * 1, c2, Z, fun _ => h4 (by simp; omega), fun j hj => ?_⟩;have hj2 : j < m := by simp [aX] at hj; omega
   rw [show off + k * 1 + j = off + (k + j) from by omega, h5 (k + j) (by simp; omega)];simp [aX, List.getElem?_map, List.getElem?_take, List.getElem?_drop, hj2])
end
end Go.Eng
namespace Go.Proofs.YtopdmadgkjdgcaaGreat
open Go Go.Eng
set_option maxRecDepth 4000
open Go Go.Eng
def rowAt (w : World) : Value → List Int
 | .slice (some ⟨b, off, _⟩) n _ => (List.range n).map fun i => match w.cell? ⟨b, off + i, none⟩ with
  | some (.int _ z) => z
  | _ => 0
 | _ => []
theorem rowAt_eq {w : World} {lo hi : Nat} {v : Value} {l : List Int} (h : RdI w lo hi v l) : rowAt w v = l := by
 obtain ⟨a, c, rfl, ha⟩ := RdI.outI h;cases l with
 | nil =>
  cases a <;> rfl
 | cons x l =>
  obtain ⟨b, off, rfl⟩ := ha (by simp);refine List.ext_getElem (by simp [rowAt]) (fun i h1 h2 => ?_);have := RdI.at h i h2;simp only [rowAt, List.getElem_map, List.getElem_range];rw [Nat.mul_one] at this;rw [this]
theorem rdII_all {w : World} {lo hi : Nat} {ll : List (List Int)} {vs : List Value} (h2 : vs.length = ll.length) (h3 : ∀ i (h : i < vs.length) (h' : i < ll.length), RdI w lo hi vs[i] ll[i]) (p : List Int → Bool) : vs.all (fun x => p (rowAt w x)) = ll.all p := by
 have e : vs.map (rowAt w) = ll := List.ext_getElem (by simp [h2]) (fun i h4 h5 => by
  rw [List.getElem_map];exact rowAt_eq (h3 i (by simpa using h4) h5))
 rw [← e, List.all_map]
 rfl
theorem rdII_mem {w : World} {lo hi : Nat} {ll : List (List Int)} {vs : List Value} (h2 : vs.length = ll.length) (h3 : ∀ i (h : i < vs.length) (h' : i < ll.length), RdI w lo hi vs[i] ll[i]) {x : Value} (hx : x ∈ vs) : RdI w lo hi x (rowAt w x) ∧ rowAt w x ∈ ll := by
 obtain ⟨i, hi, rfl⟩ := List.mem_iff_getElem.1 hx;have h := h3 i hi J;rw [rowAt_eq h];exact ⟨h, List.getElem_mem _⟩
def lenP (n : Nat) (row : List Int) : Bool := inB row.length 1 20 && (decide (row.length = n) && true)
def valP (row : List Int) : Bool := row.all fun n => inB n 0 10000
def wxV (most : Int) (v : Value) : Value := .agg #[v, .int .i64 most]
def wxC (most : Int) (xs : List (Value × List Int)) : List Value := xs.flatMap fun p => [p.1, .int .i64 most]
section
variable {t : Nat}
end
def regP (l : List (List Int)) (k : Nat) (row : List Int) : List Int := (List.range k).map fun s => row.getD s 0 - lowV l s
structure RegI (l : List (List Int)) (s m : Nat) (xs : List (Value × List Int)) : Prop where
 len : xs.length = l.length
 lt : ∀ i (hi : i < xs.length), i < m → xs[i].2 = regP l (s + 1) (l.getD i [])
 ge : ∀ i (hi : i < xs.length), m ≤ i → xs[i].2 = regP l s (l.getD i [])
theorem RegI.next {l : List (List Int)} {s : Nat} {xs : List (Value × List Int)} (h : RegI l s l.length xs) : RegI l (s + 1) 0 xs :=
 ⟨h.len, fun _ _ h2 => by omega, fun i hi _ => h.lt i hi (by rw [← h.len]; exact hi)⟩
theorem RegI.step {l : List (List Int)} {s m : Nat} {xs : List (Value × List Int)} (h : RegI l s m xs) (u : Value) {r : List Int} (hr : r = regP l (s + 1) (l.getD m [])) : RegI l s (m + 1) (xs.modify m fun _ => (u, r)) := by
 refine ⟨by rw [List.length_modify]; exact h.len, fun i hi h2 => ?_, fun i hi h2 => ?_⟩
 ·rw [List.getElem_modify];split
  ·rename_i e; subst e; exact hr
  ·exact h.lt i (by simpa using hi) J
 ·rw [List.getElem_modify, if_neg J];exact h.ge i (by simpa using hi) J
theorem RegI.all {l : List (List Int)} {s : Nat} {xs : List (Value × List Int)} (h : RegI l s 0 xs) : xs.map (·.2) = l.map (regP l s) := by
 refine List.ext_getElem (by simp [h.len]) (fun i h1 h2 => ?_);have hi : i < xs.length := by simpa using h1
 have hi2 : i < l.length := by simpa using h2
 rw [List.getElem_map, List.getElem_map, h.ge i hi J, List.getD_eq_getElem?_getD, List.getElem?_eq_getElem hi2]
 rfl
theorem dQ {r : List Int} {s : Nat} (hs : s < r.length) : r.getD s 0 = r[s] := by
 simp only [List.getD_eq_getElem?_getD, Option.getD_some, List.getElem?_eq_getElem hs]
def RdW (w : World) (lo hi : Nat) (v : Value) (most : Int) (rows : List (List Int)) : Prop :=
 ∃ vs : List Value, RdE w lo hi v 2 (vs.map (wxV most)) ∧ vs.length = rows.length ∧ ∀ i (h : i < vs.length) (h' : i < rows.length), RdI w lo hi vs[i] rows[i] ∧ ∀ a n c, vs[i] = .slice a n c → n ≤ c
theorem RdW.keep {w w' : World} {lo hi : Nat} {v : Value} {most : Int} {rows : List (List Int)} (h : RdW w lo hi v most rows) (c : Chg [] w w') : RdW w' lo hi v most rows := by
 obtain ⟨vs, h1, h2, h3⟩ := h;exact ⟨vs, h1.keep c, h2, fun i hi hi' => ⟨(h3 i hi hi').1.keep c, (h3 i hi hi').2⟩⟩
theorem RdW.outI {w : World} {lo hi : Nat} {v : Value} {most : Int} {rows : List (List Int)} (h : RdW w lo hi v most rows) : ∃ a cap, v = .slice a rows.length cap ∧ (0 < rows.length → ∃ b off, a = some ⟨b, off, none⟩) := by
 obtain ⟨vs, h1, h2, h3⟩ := h;have := RdE.out h1
 rwa [List.length_map, h2] at this
theorem RdW.row {w : World} {lo hi : Nat} {b off len cap : Nat} {most : Int} {rows : List (List Int)} (h : RdW w lo hi (.slice (some ⟨b, off, none⟩) len cap) most rows) (i : Nat) (hi' : i < rows.length) :
  ∃ a c, RdI w lo hi (.slice a rows[i].length c) rows[i] ∧ rows[i].length ≤ c ∧ ∀ w', Chg [] w w' → ∀ j, j < 2 → w'.cell? ⟨b, off + i * 2 + j, none⟩ = [Value.slice a rows[i].length c, .int .i64 most][j]? := by
 obtain ⟨vs, h1, h2, h3⟩ := h;obtain ⟨h4, h5⟩ := h3 i J hi';obtain ⟨a, c, hv, _⟩ := RdI.outI h4;refine ⟨a, c, hv ▸ h4, h5 _ _ _ hv, fun w' hw' j hj => ?_⟩;rw [RdE.cell (h1.keep hw') i j (by simp; omega) hj, List.getElem_map, hv]
 rfl
def bestV (l : List (List Int)) (a b : Int) : Int × Int × Int := if tableV l ≠ 0 then (0, 0, tableV l) else if (inB a 0 b && (decide (b < (nV l : Int)) && true)) = false then (0, 0, 1) else let p := waxF (regV l (nV l)) a.toNat b.toNat l.length; (p.1, p.2, 0)
theorem getD_row {r : List Int} {s : Nat} (hs : s < r.length) : r.getD s 0 = r[s] := by
 simp only [List.getD_eq_getElem?_getD, Option.getD_some, List.getElem?_eq_getElem hs]
def znC (zs : List (Int × Int × Int)) : List Value := zs.flatMap fun z => [.int .i64 z.1, .int .i64 z.2.1, .int .i64 z.2.2]
def pAll (w : World) (a b : Nat) : Value → Bool
 | .agg cs => match cs.toList with
  | [v, .int _ most] => allG (rowAt w v) most a b
  | _ => false
 | _ => false
def tK20_bab9619 : OT := .alt (bE [9, 10, 0, 1, 2, 3, 4, 11, 5, 6, 7, 8, 12] (.nil)) (bE [10, 9, 0, 1, 2, 3, 4, 11, 5, 6, 7, 8, 12] (.nil))
end Go.Proofs.YtopdmadgkjdgcaaGreat
