/- The engine, part 5: a region that draws its order. One walk of the text's order serves every order, where all that may stand out of turn only reads what nothing in the region turns. -/
import Derived.Test.YtmbifbippnncoaaA4
namespace Go.Eng
open Go Go.RowKit

/-- Does the operation act on memory? -/
def eff : Op → Bool
  | .call { callee := .builtin .len, .. } | .call { callee := .builtin .max, .. } | .call { callee := .builtin .min, .. } => false
  | .move _ | .assign _ | .pick _ _ _ | .load _ _ | .nilCheck _ | .binOp _ _ _ _ _ | .unOp _ _ _ | .convert _ _ _ | .makeFunc _ _ _ | .fieldAddr _ _ _ | .field _ _ _ | .indexAddr _ _ _ | .index _ _ _ | .lookup _ _ _ _ | .extract _ _ | .build _ _ | .slice _ _ _ _ _ => false
  | _ => true

/-- The forms that are served. -/
def kindOk : Op → Bool
  | .select _ _ | .defer _ | .go _ => false
  | _ => true

def edgeMask (ms : List Nat) (o : Oper) : Nat := o.after.toList.foldl (fun m e => bif Region.binds .any e then (m ||| (1 <<< e.on)) ||| ms.getD e.on 0 else m) 0
def masksFrom : List Nat → List Oper → List Nat
  | ms, [] => ms
  | ms, o :: l => masksFrom (ms ++ [edgeMask ms o]) l
def masks (l : List Oper) : List Nat := masksFrom [] l

def okPair (ops : Array Oper) (m i : Nat) (oi oj : Oper) : Bool := m.testBit i || (oi.apart ops oj && !(eff oi.op && eff oj.op))
def okBefore (ops : Array Oper) (m : Nat) (oj : Oper) : Nat → List Oper → Bool
  | _, [] => true
  | i, oi :: l => okPair ops m i oi oj && okBefore ops m oj (i + 1) l
/-- Each operation against all before it. -/
def okAll (ops : Array Oper) (ms : List Nat) : Nat → List Oper → List Oper → Bool
  | _, _, [] => true
  | j, done, oj :: l => (kindOk oj.op && oj.after.all (fun e => !(Region.binds .any e) || Nat.blt e.on j)) && okBefore ops (ms.getD j 0) oj 0 done && okAll ops ms (j + 1) (done ++ [oj]) l
def flB (ops : Array Oper) : Bool := okAll ops (masks ops.toList) 0 [] ops.toList

/-- What the check says. -/
structure FlOk (ops : Array Oper) : Prop where
  kind : ∀ (j : Nat) o, ops[j]? = some o → kindOk o.op = true
  back : ∀ (j : Nat) o, ops[j]? = some o → ∀ e ∈ o.after, Region.binds .any e = true → e.on < j
  pair : ∀ (i j : Nat) oi oj, i < j → ops[i]? = some oi → ops[j]? = some oj → ((masks ops.toList).getD j 0).testBit i = true ∨ (oi.apart ops oj = true ∧ (eff oi.op = true → eff oj.op = true → False))

theorem okBefore_spec {ops : Array Oper} {m : Nat} {oj : Oper} : ∀ (l : List Oper) (i : Nat), okBefore ops m oj i l = true → ∀ (k : Nat) oi, l[k]? = some oi → okPair ops m (i + k) oi oj = true
  | [], _, _, k, oi, h => by simp at h
  | o :: l, i, hB, k, oi, h => by
    simp only [okBefore, Bool.and_eq_true] at hB
    cases k with
    | zero => simp at h; subst h; exact hB.1
    | succ k =>
      have := okBefore_spec l (i + 1) hB.2 k oi (by simpa using h)
      rwa [show i + 1 + k = i + (k + 1) from by omega] at this

theorem okAll_spec {ops : Array Oper} {ms : List Nat} : ∀ (l : List Oper) (j : Nat) (done : List Oper), done.length = j → okAll ops ms j done l = true →
    ∀ (k : Nat) oj, l[k]? = some oj → (kindOk oj.op && oj.after.all (fun e => !(Region.binds .any e) || Nat.blt e.on (j + k))) = true ∧ ∀ (i : Nat) oi, (done ++ l)[i]? = some oi → i < j + k → okPair ops (ms.getD (j + k) 0) i oi oj = true
  | [], _, _, _, _, k, oj, h => by simp at h
  | o :: l, j, done, hl, hB, k, oj, h => by
    simp only [okAll, Bool.and_eq_true] at hB
    obtain ⟨⟨h1, h2⟩, h3⟩ := hB
    cases k with
    | zero =>
      simp at h; subst h
      refine ⟨by rw [Nat.add_zero, Bool.and_eq_true]; exact h1, fun i oi hi hlt => ?_⟩
      have hi' : done[i]? = some oi := by rw [List.getElem?_append_left (by omega)] at hi; exact hi
      have := okBefore_spec done 0 h2 i oi hi'
      simpa using this
    | succ k =>
      obtain ⟨e1, e2⟩ := okAll_spec l (j + 1) (done ++ [o]) (by simp [hl]) h3 k oj (by simpa using h)
      rw [show j + 1 + k = j + (k + 1) from by omega] at e1
      refine ⟨e1, fun i oi hi hlt => ?_⟩
      have := e2 i oi (by simpa using hi) (by omega)
      rwa [show j + 1 + k = j + (k + 1) from by omega] at this

theorem flB_spec {ops : Array Oper} (h : flB ops = true) : FlOk ops := by
  have h1 := okAll_spec ops.toList 0 [] rfl h
  refine ⟨fun j o hj => ?_, fun j o hj e he hb => ?_, fun i j oi oj hlt hi hj => ?_⟩
  · have := (h1 j o (by simpa using hj)).1
    simp only [Bool.and_eq_true] at this
    exact this.1
  · have := (h1 j o (by simpa using hj)).1
    simp only [Bool.and_eq_true] at this
    have h2 := Array.all_eq_true_iff_forall_mem.1 this.2 e he
    simpa [hb, Nat.blt_eq] using h2
  have h2 := (h1 j oj (by simpa using hj)).2 i oi (by simpa using hi) (by omega)
  simp only [okPair, Bool.or_eq_true, Bool.and_eq_true, Bool.not_eq_true', Bool.and_eq_false_iff, Nat.zero_add] at h2
  rcases h2 with h2 | ⟨h2, h3⟩
  · exact .inl h2
  · exact .inr ⟨h2, fun a b => by rcases h3 with h3 | h3 <;> simp_all⟩

/-- The masks tell what is done. -/
theorem edgeMask_spec {ms : List Nat} {o : Oper} {D : Nat → Prop} (hD : ∀ e ∈ o.after, Region.binds .any e = true → D e.on ∧ ∀ i, (ms.getD e.on 0).testBit i = true → D i) :
    ∀ i, (edgeMask ms o).testBit i = true → D i := by
  have key : ∀ (l : List Edge) (m : Nat), (∀ e ∈ l, Region.binds .any e = true → D e.on ∧ ∀ i, (ms.getD e.on 0).testBit i = true → D i) → (∀ i, m.testBit i = true → D i) →
      ∀ i, (l.foldl (fun m e => bif Region.binds .any e then (m ||| (1 <<< e.on)) ||| ms.getD e.on 0 else m) m).testBit i = true → D i := by
    intro l
    induction l with
    | nil => intro m _ hm i hi; exact hm i hi
    | cons e l ih =>
      intro m hl hm i hi
      simp only [List.foldl_cons] at hi
      refine ih _ (fun e' he' => hl e' (List.mem_cons_of_mem _ he')) ?_ i hi
      intro i hi
      cases hb : Region.binds .any e with
      | false => rw [hb] at hi; exact hm i hi
      | true =>
        rw [hb] at hi
        obtain ⟨h1, h2⟩ := hl e List.mem_cons_self hb
        simp only [cond_true, Nat.testBit_or, Bool.or_eq_true] at hi
        rcases hi with (hi | hi) | hi
        · exact hm i hi
        · have : i = e.on := by
            rw [Nat.one_shiftLeft, Nat.testBit_two_pow] at hi
            exact (by simpa using hi : e.on = i).symm
          subst this; exact h1
        · exact h2 i hi
  intro i hi
  exact key o.after.toList 0 (fun e he => hD e (by simpa using he)) (fun i hi => by simp at hi) i hi

theorem masksFrom_get (l : List Oper) : ∀ (ms : List Nat) (j : Nat), j < ms.length → (masksFrom ms l).getD j 0 = ms.getD j 0 := by
  induction l with
  | nil => intro ms j _; rfl
  | cons o l ih =>
    intro ms j hj
    simp only [masksFrom]
    rw [ih _ _ (by simp; omega)]
    simp [List.getD_eq_getElem?_getD, List.getElem?_append_left hj]

/-- If what is done is closed, and all that j waits for is done, then all in j's mask is done. -/
theorem masks_spec {ops : Array Oper} {D : Nat → Prop} (hcl : ∀ (m : Nat) o, ops[m]? = some o → D m → ∀ e ∈ o.after, Region.binds .any e = true → D e.on) :
    ∀ (j : Nat) o, ops[j]? = some o → (∀ e ∈ o.after, Region.binds .any e = true → D e.on) → ∀ i, ((masks ops.toList).getD j 0).testBit i = true → D i := by
  -- by the depth of the masks: each mask is an edgeMask over earlier masks or zeros
  have key : ∀ (l : List Oper) (ms : List Nat), (∀ i, i < ms.length → D i → ∀ b, (ms.getD i 0).testBit b = true → D b) → (∀ (k : Nat) o, l[k]? = some o → ops[ms.length + k]? = some o) →
      ∀ (k : Nat) o, l[k]? = some o → (∀ e ∈ o.after, Region.binds .any e = true → D e.on) → ∀ i, ((masksFrom ms l).getD (ms.length + k) 0).testBit i = true → D i := by
    intro l
    induction l with
    | nil => intro ms _ _ k o h; simp at h
    | cons o' l ih =>
      intro ms hms hl k o hk hre i hi
      have h0 : ∀ o, (∀ e ∈ o.after, Region.binds .any e = true → D e.on) → ∀ i, (edgeMask ms o).testBit i = true → D i := by
        intro o hre
        refine edgeMask_spec fun e he hb => ⟨hre e he hb, fun b hb' => ?_⟩
        by_cases hlt' : e.on < ms.length
        · exact hms e.on hlt' (hre e he hb) b hb'
        · rw [List.getD_eq_getElem?_getD, List.getElem?_eq_none (by omega)] at hb'
          simp at hb'
      cases k with
      | zero =>
        simp at hk; subst hk
        simp only [masksFrom, Nat.add_zero] at hi
        rw [masksFrom_get l _ ms.length (by simp)] at hi
        simp [List.getD_eq_getElem?_getD] at hi
        exact h0 _ hre i hi
      | succ k =>
        simp only [masksFrom] at hi
        refine ih (ms ++ [edgeMask ms o']) ?_ ?_ k o (by simpa using hk) hre i (by simpa [Nat.add_assoc, Nat.add_comm 1 k] using hi)
        · intro i hi hDi b hb
          by_cases hlt' : i < ms.length
          · rw [List.getD_eq_getElem?_getD, List.getElem?_append_left hlt', ← List.getD_eq_getElem?_getD] at hb
            exact hms i hlt' hDi b hb
          · have : i = ms.length := by simp at hi; omega
            subst this
            simp [List.getD_eq_getElem?_getD] at hb
            have ho' := hl 0 o' (by simp)
            exact h0 o' (hcl _ _ (by simpa using ho') hDi) b hb
        · intro k o hk
          have := hl (k + 1) o (by simpa using hk)
          simpa [Nat.add_assoc, Nat.add_comm 1 k] using this
  intro j o hj hre i hi
  have := key ops.toList [] (fun i hi => by simp at hi) (fun k o hk => by simpa using hk) j o (by simpa using hj) hre i (by simpa [masks] using hi)
  exact this


section
variable {P : Program} {ops : Array Oper} {C : World → Prop}

/-- One round of the loop l, in whatever function's activation. -/
def RdOk (P : Program) (l : Nat) (f : FuncId) (tmps : Array Value) (assign body : Code) (w : World) (R : Value → World → Prop) : Prop :=
  ∀ r, RoundIn (FR r) 0 P l f tmps assign body w (fun e w' => ∃ v, e = .returned v ∧ R v w')

theorem RdOk.mono {l : Nat} {f : FuncId} {tmps : Array Value} {assign body : Code} {w : World} {R R' : Value → World → Prop} (h : RdOk P l f tmps assign body w R) (hr : ∀ v w', R v w' → R' v w') : RdOk P l f tmps assign body w R' :=
  fun r => (h r).mono fun _ _ ⟨v, he, hR⟩ => ⟨v, he, hr _ _ hR⟩

/-- One operation that acts: what follows is told its value. -/
def effStep (P : Program) (o : Oper) (a : Act) (w : World) (K : Value → World → Prop) : Prop :=
  match (execOp a.eval o).run P w with
  | .ok (.value v) w' => K v w'
  | .ok .skip w' => K undef w'
  | .ok (.enter f args) w' => Calls P f args w' fun e w'' => ∃ v, e = .returned v ∧ K v w''
  | .ok (.round l f tmps assign body) w' => RdOk P l f tmps assign body w' K
  | _ => False

theorem effStep.mono {o : Oper} {a : Act} {w : World} {K K' : Value → World → Prop} (h : effStep P o a w K) (hk : ∀ v w', K v w' → K' v w') : effStep P o a w K' := by
  unfold effStep at *
  split <;> rename_i hr <;> simp only [hr] at h
  · exact hk _ _ h
  · exact hk _ _ h
  · exact Calls.mono h fun _ _ ⟨v, he, hK⟩ => ⟨v, he, hk _ _ hK⟩
  · exact RdOk.mono h hk

theorem effStep.some {o : Oper} {a : Act} {w : World} {K : Value → World → Prop} (h : effStep P o a w K) : ∃ v w', K v w' := by
  unfold effStep at h
  split at h
  · exact ⟨_, _, h⟩
  · exact ⟨_, _, h⟩
  · obtain ⟨_, w', _, ⟨v, _, hK⟩, _⟩ := h []
    exact ⟨v, w', hK⟩
  · obtain ⟨_, w', ⟨v, _, hK⟩, _⟩ := (h none).2 default [] (by simp [Fence.room, Fence.wide])
    exact ⟨v, w', hK⟩
  · exact h.elim

theorem effStep.wpIn {ro : Cx} {o : Oper} {a : Act} {w : World} {K : Act → World → Prop} {Q : Fin} (hk : kindOk o.op = true) (h : effStep P o a w fun v w' => K (a.put o.dst v) w') : o.wpIn (FR ro.ro) 0 P a w K Q := by
  refine ⟨fun f _ => fr_fn f, ?_⟩
  rw [Oper.semAt_eq _ _ _ (fun c hc => by rw [hc] at hk; cases hk)]
  unfold effStep at h
  generalize (execOp a.eval o).run P w = r at h
  cases r with
  | halt x w' => exact h.elim
  | ok x w' =>
    cases x <;> first | exact h | (exact h.elim) | skip
    case enter f args =>
      refine ⟨fun hx => by simp [Fence.wide] at hx, callsIn_FR (Calls.mono h ?_)⟩
      rintro x w' ⟨v, rfl, hK⟩
      exact hK
    case round l f tmps assign body =>
      refine ⟨fun hx => by simp [Fence.wide] at hx, RoundIn.mono (h ro.ro) ?_⟩
      rintro x w' ⟨v, rfl, hK⟩
      exact hK

/-- The text's order. -/
def wpFl (P : Program) (ops : Array Oper) (C : World → Prop) (K : Act → World → Prop) : List Nat → Act → World → Prop
  | [], a, w => K a w
  | i :: rest, a, w => match ops[i]? with
    | none => wpFl P ops C K rest a w
    | some o => if Region.wanted o (yielded ops a.tmps) = true then
        (if eff o.op = true then effStep P o a w (fun v w' => C w' ∧ wpFl P ops C K rest (a.put o.dst v) w')
         else ∃ v, (∀ w', C w' → (execOp a.eval o).run P w' = .ok (.value v) w') ∧ wpFl P ops C K rest (a.put o.dst v) w)
      else wpFl P ops C K rest (a.put o.dst undef) w

theorem exec_put {o : Oper} (hk : kindOk o.op = true) (a : Act) (dst : Option Tmp) (v : Value) (h : ∀ d, dst = some d → d ∉ o.looksAt ops) : execOp (a.put dst v).eval o = execOp a.eval o :=
  execOp_put o (fun cs b hc => by rw [hc] at hk; cases hk) a dst v h

variable {K : Act → World → Prop}

/-- Operation j, not acting, may be taken first. -/
theorem fl_swap_quiet (hF : FlOk ops) {j : Nat} {oj : Oper} (hj : ops[j]? = some oj) (hne : eff oj.op = false) : ∀ (l1 l2 : List Nat) (a : Act) (w : World),
    (∀ i ∈ l1, ∀ oi, ops[i]? = some oi → oi.apart ops oj = true) → Region.wanted oj (yielded ops a.tmps) = true → C w → wpFl P ops C K (l1 ++ j :: l2) a w →
    ∃ v, (∀ w', C w' → (execOp a.eval oj).run P w' = .ok (.value v) w') ∧ wpFl P ops C K (l1 ++ l2) (a.put oj.dst v) w := by
  intro l1
  induction l1 with
  | nil =>
    intro l2 a w _ hw hC h
    simp only [List.nil_append, wpFl, hj, hw, if_true, hne] at h
    simpa using h
  | cons i l1 ih =>
    intro l2 a w hap hw hC h
    have ih' := fun a w => ih l2 a w (fun i' hi' => hap i' (List.mem_cons_of_mem _ hi'))
    simp only [List.cons_append, wpFl] at h ⊢
    cases hi : ops[i]? with
    | none => simp only [hi] at h ⊢; exact ih' a w hw hC h
    | some oi =>
      simp only [hi] at h ⊢
      obtain ⟨p1, p2, p3⟩ := Oper.apart_spec (hap i List.mem_cons_self oi hi)
      have kj := hF.kind j oj hj
      have ki := hF.kind i oi hi
      have ej : ∀ (a : Act) v, execOp (a.put oi.dst v).eval oj = execOp a.eval oj := fun a v => exec_put kj a oi.dst v p1
      have ei : ∀ (a : Act) v, execOp (a.put oj.dst v).eval oi = execOp a.eval oi := fun a v => exec_put ki a oj.dst v p3
      have wj : ∀ (a : Act) v, Region.wanted oj (yielded ops (a.put oi.dst v).tmps) = Region.wanted oj (yielded ops a.tmps) := fun a v => wanted_put oj a oi.dst v p1
      have wi : ∀ (a : Act) v, Region.wanted oi (yielded ops (a.put oj.dst v).tmps) = Region.wanted oi (yielded ops a.tmps) := fun a v => wanted_put oi a oj.dst v p3
      have cm : ∀ (a : Act) u v, (a.put oi.dst u).put oj.dst v = (a.put oj.dst v).put oi.dst u := fun a u v => Act.put_comm a u v p2
      by_cases hwi : Region.wanted oi (yielded ops a.tmps) = true
      · simp only [hwi, if_true] at h
        by_cases he : eff oi.op = true
        · simp only [he, if_true] at h
          obtain ⟨v0, w0, hC0, h0⟩ := h.some
          obtain ⟨v, hv, _⟩ := ih' _ w0 (by rw [wj]; exact hw) hC0 h0
          simp only [ej] at hv
          refine ⟨v, hv, ?_⟩
          rw [wi]
          simp only [hwi, if_true, he]
          have h1 : effStep P oi (a.put oj.dst v) w (fun u w' => C w' ∧ wpFl P ops C K (l1 ++ j :: l2) (a.put oi.dst u) w') := by
            unfold effStep at h ⊢
            rw [ei]
            exact h
          refine h1.mono fun u w' ⟨hC', h2⟩ => ⟨hC', ?_⟩
          obtain ⟨v', hv', h3⟩ := ih' _ w' (by rw [wj]; exact hw) hC' h2
          simp only [ej] at hv'
          have e1 := hv w hC
          have e2 := hv' w hC
          rw [e1] at e2
          have : v = v' := by simpa using e2
          subst this
          rw [cm] at h3
          exact h3
        · simp only [he] at h
          obtain ⟨u, hu, h⟩ := h
          obtain ⟨v, hv, h3⟩ := ih' _ w (by rw [wj]; exact hw) hC h
          simp only [ej] at hv
          refine ⟨v, hv, ?_⟩
          rw [wi]
          simp only [hwi, if_true, he]
          refine ⟨u, fun w' hC' => by rw [ei]; exact hu w' hC', ?_⟩
          rw [cm] at h3
          exact h3
      · simp only [hwi] at h
        obtain ⟨v, hv, h3⟩ := ih' _ w (by rw [wj]; exact hw) hC h
        simp only [ej] at hv
        refine ⟨v, hv, ?_⟩
        rw [wi]
        simp only [hwi]
        rw [cm] at h3
        exact h3

/-- .. and so one that is not wanted. -/
theorem fl_swap_skip (hF : FlOk ops) {j : Nat} {oj : Oper} (hj : ops[j]? = some oj) : ∀ (l1 l2 : List Nat) (a : Act) (w : World),
    (∀ i ∈ l1, ∀ oi, ops[i]? = some oi → oi.apart ops oj = true) → Region.wanted oj (yielded ops a.tmps) = false → wpFl P ops C K (l1 ++ j :: l2) a w → wpFl P ops C K (l1 ++ l2) (a.put oj.dst undef) w := by
  intro l1
  induction l1 with
  | nil =>
    intro l2 a w _ hw h
    simp only [List.nil_append, wpFl, hj, hw] at h
    simpa using h
  | cons i l1 ih =>
    intro l2 a w hap hw h
    have ih' := fun a w => ih l2 a w (fun i' hi' => hap i' (List.mem_cons_of_mem _ hi'))
    simp only [List.cons_append, wpFl] at h ⊢
    cases hi : ops[i]? with
    | none => simp only [hi] at h ⊢; exact ih' a w hw h
    | some oi =>
      simp only [hi] at h ⊢
      obtain ⟨p1, p2, p3⟩ := Oper.apart_spec (hap i List.mem_cons_self oi hi)
      have ki := hF.kind i oi hi
      have ei : ∀ (a : Act) v, execOp (a.put oj.dst v).eval oi = execOp a.eval oi := fun a v => exec_put ki a oj.dst v p3
      have wj : ∀ (a : Act) v, Region.wanted oj (yielded ops (a.put oi.dst v).tmps) = Region.wanted oj (yielded ops a.tmps) := fun a v => wanted_put oj a oi.dst v p1
      have wi : ∀ (a : Act) v, Region.wanted oi (yielded ops (a.put oj.dst v).tmps) = Region.wanted oi (yielded ops a.tmps) := fun a v => wanted_put oi a oj.dst v p3
      have cm : ∀ (a : Act) u v, (a.put oi.dst u).put oj.dst v = (a.put oj.dst v).put oi.dst u := fun a u v => Act.put_comm a u v p2
      rw [wi]
      by_cases hwi : Region.wanted oi (yielded ops a.tmps) = true
      · simp only [hwi, if_true] at h ⊢
        by_cases he : eff oi.op = true
        · simp only [he, if_true] at h ⊢
          have h1 : effStep P oi (a.put oj.dst undef) w (fun u w' => C w' ∧ wpFl P ops C K (l1 ++ j :: l2) (a.put oi.dst u) w') := by
            unfold effStep at h ⊢
            rw [ei]
            exact h
          refine h1.mono fun u w' ⟨hC', h2⟩ => ⟨hC', ?_⟩
          have h3 := ih' _ w' (by rw [wj]; exact hw) h2
          rw [cm] at h3
          exact h3
        · simp only [he] at h ⊢
          obtain ⟨u, hu, h⟩ := h
          have h3 := ih' _ w (by rw [wj]; exact hw) h
          refine ⟨u, fun w' hC' => by rw [ei]; exact hu w' hC', ?_⟩
          rw [cm] at h3
          exact h3
      · simp only [hwi] at h ⊢
        have h3 := ih' _ w (by rw [wj]; exact hw) h
        rw [cm] at h3
        exact h3

/-- .. and one that acts, where nothing ahead of it acts. -/
theorem fl_swap_eff (hF : FlOk ops) {j : Nat} {oj : Oper} (hj : ops[j]? = some oj) (he : eff oj.op = true) : ∀ (l1 l2 : List Nat) (a : Act) (w : World),
    (∀ i ∈ l1, ∀ oi, ops[i]? = some oi → oi.apart ops oj = true ∧ eff oi.op = false) → Region.wanted oj (yielded ops a.tmps) = true → wpFl P ops C K (l1 ++ j :: l2) a w →
    effStep P oj a w (fun v w' => C w' ∧ wpFl P ops C K (l1 ++ l2) (a.put oj.dst v) w') := by
  intro l1
  induction l1 with
  | nil =>
    intro l2 a w _ hw h
    simp only [List.nil_append, wpFl, hj, hw, if_true, he] at h
    simpa using h
  | cons i l1 ih =>
    intro l2 a w hap hw h
    have ih' := fun a w => ih l2 a w (fun i' hi' => hap i' (List.mem_cons_of_mem _ hi'))
    simp only [List.cons_append, wpFl] at h ⊢
    cases hi : ops[i]? with
    | none => simp only [hi] at h ⊢; exact ih' a w hw h
    | some oi =>
      simp only [hi] at h ⊢
      obtain ⟨hap', hei⟩ := hap i List.mem_cons_self oi hi
      obtain ⟨p1, p2, p3⟩ := Oper.apart_spec hap'
      have kj := hF.kind j oj hj
      have ki := hF.kind i oi hi
      have ej : ∀ (a : Act) v, execOp (a.put oi.dst v).eval oj = execOp a.eval oj := fun a v => exec_put kj a oi.dst v p1
      have ei : ∀ (a : Act) v, execOp (a.put oj.dst v).eval oi = execOp a.eval oi := fun a v => exec_put ki a oj.dst v p3
      have wj : ∀ (a : Act) v, Region.wanted oj (yielded ops (a.put oi.dst v).tmps) = Region.wanted oj (yielded ops a.tmps) := fun a v => wanted_put oj a oi.dst v p1
      have wi : ∀ (a : Act) v, Region.wanted oi (yielded ops (a.put oj.dst v).tmps) = Region.wanted oi (yielded ops a.tmps) := fun a v => wanted_put oi a oj.dst v p3
      have cm : ∀ (a : Act) u v, (a.put oi.dst u).put oj.dst v = (a.put oj.dst v).put oi.dst u := fun a u v => Act.put_comm a u v p2
      by_cases hwi : Region.wanted oi (yielded ops a.tmps) = true
      · simp only [hwi, if_true, hei] at h
        simp only [Bool.false_eq_true, if_false] at h
        obtain ⟨u, hu, h⟩ := h
        have h3 := ih' _ w (by rw [wj]; exact hw) h
        have h4 : effStep P oj a w (fun v w' => C w' ∧ wpFl P ops C K (l1 ++ l2) ((a.put oi.dst u).put oj.dst v) w') := by
          unfold effStep at h3 ⊢
          rw [ej] at h3
          exact h3
        refine h4.mono fun v w' ⟨hC', h5⟩ => ⟨hC', ?_⟩
        rw [wi]
        simp only [hwi, if_true, hei, Bool.false_eq_true, if_false]
        refine ⟨u, fun w' hC' => by rw [ei]; exact hu w' hC', ?_⟩
        rw [cm] at h5
        exact h5
      · simp only [hwi] at h
        simp only [Bool.false_eq_true, if_false] at h
        have h3 := ih' _ w (by rw [wj]; exact hw) h
        have h4 : effStep P oj a w (fun v w' => C w' ∧ wpFl P ops C K (l1 ++ l2) ((a.put oi.dst undef).put oj.dst v) w') := by
          unfold effStep at h3 ⊢
          rw [ej] at h3
          exact h3
        refine h4.mono fun v w' ⟨hC', h5⟩ => ⟨hC', ?_⟩
        rw [wi]
        simp only [hwi, Bool.false_eq_true, if_false]
        rw [cm] at h5
        exact h5


variable {ro : Cx} {Q : Fin}

/-- From the text's order to every order: R is what is left, in the text's order. -/
theorem any_of_fl (hF : FlOk ops) (hK : ∀ a w, C w → K a w → Q .normal a w) : ∀ (fuel : Nat) (R : List Nat) (listed : Array Bool) (a : Act) (w : World),
    R.length = fuel → listed.size = ops.size → R.Pairwise (· < ·) → (∀ i, i ∈ R ↔ i < ops.size ∧ listed.getD i true = false) →
    (∀ (m : Nat) o, ops[m]? = some o → listed.getD m false = true → ∀ e ∈ o.after, Region.binds .any e = true → listed.getD e.on false = true) →
    C w → wpFl P ops C K R a w → wpAnyIn (FR ro.ro) 0 P .any ops Q fuel listed a w := by
  intro fuel
  induction fuel with
  | zero =>
    intro R listed a w hl hsz hR hmem hcl hC h
    have : R = [] := by simpa using hl
    subst this
    refine ⟨?_, hK _ _ hC h⟩
    refine List.eq_nil_iff_forall_not_mem.2 fun i hi => ?_
    obtain ⟨h0, o, ho, _⟩ := mem_ready.1 hi
    exact absurd ((hmem i).2 ⟨(Array.getElem?_eq_some_iff.1 ho).1, h0⟩) (by simp)
  | succ fuel ih =>
    intro R listed a w hl hsz hR hmem hcl hC h
    refine ⟨fun h0 => ?_, fun j hj => ?_⟩
    · -- nothing is ready: but the first of R waits for earlier ones alone, all of which are listed
      exfalso
      cases R with
      | nil => simp at hl
      | cons i R =>
        obtain ⟨hi1, hi2⟩ := (hmem i).1 List.mem_cons_self
        have hrd : i ∈ Region.ready .any ops listed := by
          refine mem_ready.2 ⟨hi2, ops[i], Array.getElem?_eq_getElem hi1, fun e he hb => ?_⟩
          have hlt := hF.back i _ (Array.getElem?_eq_getElem hi1) e he hb
          have hnot : e.on ∉ i :: R := by
            intro hx
            rcases List.mem_cons.1 hx with hx | hx
            · omega
            · have := List.rel_of_pairwise_cons hR hx
              omega
          have h3 : ¬ (e.on < ops.size ∧ listed.getD e.on true = false) := fun hx => hnot ((hmem _).2 hx)
          have h4 : e.on < listed.size := by omega
          simp only [Array.getD_eq_getD_getElem?, Array.getElem?_eq_getElem h4, Option.getD_some] at h3 ⊢
          cases hc : listed[e.on] with
          | true => rfl
          | false => exact absurd ⟨by omega, hc⟩ h3
        rw [h0] at hrd
        cases hrd
    · obtain ⟨h0, oj, hoj, hre⟩ := mem_ready.1 hj
      have hjR : j ∈ R := (hmem j).2 ⟨(Array.getElem?_eq_some_iff.1 hoj).1, h0⟩
      obtain ⟨l1, l2, rfl⟩ := List.append_of_mem hjR
      have hlt1 : ∀ i ∈ l1, i < j := fun i hi => (List.pairwise_append.1 hR).2.2 i hi j (by simp)
      have hjl : listed.getD j false = true → False := fun hx => by
        simp only [Array.getD_eq_getD_getElem?] at hx h0
        cases hc : listed[j]? <;> simp [hc] at hx h0
        simp [hx] at h0
      have hun : ∀ i ∈ l1, ((masks ops.toList).getD j 0).testBit i = false := fun i hi => by
        cases hb : ((masks ops.toList).getD j 0).testBit i with
        | false => rfl
        | true =>
          have h1 := masks_spec (D := fun m => listed.getD m false = true) (fun m o hm hD e he hb => hcl m o hm hD e he hb) j oj hoj (fun e he hb => hre e he hb) i hb
          have h2 := ((hmem i).1 (by simp [hi])).2
          simp only [Array.getD_eq_getD_getElem?] at h1 h2
          cases hc : listed[i]? <;> simp [hc] at h1 h2
          simp [h1] at h2
      have hpair : ∀ i ∈ l1, ∀ oi, ops[i]? = some oi → oi.apart ops oj = true ∧ (eff oi.op = true → eff oj.op = true → False) := fun i hi oi hoi => by
        rcases hF.pair i j oi oj (hlt1 i hi) hoi hoj with h1 | h1
        · rw [hun i hi] at h1; cases h1
        · exact h1
      have next : ∀ a w, C w → wpFl P ops C K (l1 ++ l2) a w → wpAnyIn (FR ro.ro) 0 P .any ops Q fuel (listed.setIfInBounds j true) a w := by
        intro a w hC h
        refine ih (l1 ++ l2) _ a w ?_ (by simp [hsz]) ?_ ?_ ?_ hC h
        · simp at hl ⊢; omega
        · exact hR.sublist (List.Sublist.append_left (List.sublist_cons_self _ _) _)
        · intro i
          have hnd : j ∉ l1 ++ l2 := by
            intro hx
            rcases List.mem_append.1 hx with hx | hx
            · exact absurd (hlt1 j hx) (by omega)
            · have := (List.pairwise_append.1 hR).2.1
              have := List.rel_of_pairwise_cons this hx
              omega
          constructor
          · intro hi
            have hne : j ≠ i := fun e => hnd (e ▸ hi)
            have h1 := (hmem i).1 (by rcases List.mem_append.1 hi with hi | hi <;> simp [hi])
            exact ⟨h1.1, by rw [getD_set_ne true hne]; exact h1.2⟩
          · rintro ⟨h1, h2⟩
            have hne : j ≠ i := fun e => by
              subst e
              simp [hsz, h1] at h2
            rw [getD_set_ne true hne] at h2
            have := (hmem i).2 ⟨h1, h2⟩
            rcases List.mem_append.1 this with hx | hx
            · exact List.mem_append.2 (.inl hx)
            · rcases List.mem_cons.1 hx with hx | hx
              · exact absurd hx.symm hne
              · exact List.mem_append.2 (.inr hx)
        · intro m o hm hD e he hb
          by_cases hmj : j = m
          · subst hmj
            rw [hoj] at hm
            obtain rfl := Option.some.inj hm
            exact getD_set_true (hre e he hb)
          · rw [getD_set_ne false hmj] at hD
            exact getD_set_true (hcl m o hm hD e he hb)
      unfold wpOpIn
      simp only [hoj]
      by_cases hw : Region.wanted oj (yielded ops a.tmps) = true
      · simp only [hw, if_true]
        cases he : eff oj.op with
        | true =>
          have h1 := fl_swap_eff hF hoj he l1 l2 a w (fun i hi oi hoi => ⟨(hpair i hi oi hoi).1, by
            cases hx : eff oi.op with
            | false => rfl
            | true => exact ((hpair i hi oi hoi).2 hx he).elim⟩) hw h
          exact effStep.wpIn (hF.kind j oj hoj) (h1.mono fun v w' ⟨hC', h2⟩ => next _ _ hC' h2)
        | false =>
          obtain ⟨v, hv, h2⟩ := fl_swap_quiet hF hoj he l1 l2 a w (fun i hi oi hoi => (hpair i hi oi hoi).1) hw hC h
          exact upon_FR (fun c hc => by have := hF.kind j oj hoj; rw [hc] at this; cases this) (hv w hC) (next _ _ hC h2)
      · have hw' : Region.wanted oj (yielded ops a.tmps) = false := by simpa using hw
        simp only [hw', Bool.false_eq_true, if_false]
        exact ⟨fun f _ => fr_fn f, next _ _ hC (fl_swap_skip hF hoj l1 l2 a w (fun i hi oi hoi => (hpair i hi oi hoi).1) hw' h)⟩


/-- **A region that draws its order, by the text's order.** -/
theorem wpIn_region_fl {id : Nat} {a : Act} {w : World} (hm : P.follows .mixedOrders = true) (hF : FlOk ops) (hC : C { w with drawn := w.drawn + 1 })
    (hK : ∀ a w, C w → K a w → Q .normal a w) (h : wpFl P ops C K (List.range ops.size) a { w with drawn := w.drawn + 1 }) : (Code.region id ops true).wpIn (FR ro.ro) 0 P Q a w := by
  refine wpIn_region_any hm (any_of_fl hF hK ops.size (List.range ops.size) _ a _ (by simp) (by simp) List.pairwise_lt_range ?_ ?_ hC h)
  · intro i
    simp only [List.mem_range]
    constructor
    · intro hi
      exact ⟨hi, by simp [hi]⟩
    · exact fun hi => hi.1
  · intro m o _ hD
    simp only [Array.getD_eq_getD_getElem?, Array.getElem?_replicate] at hD
    split at hD <;> simp at hD

end
end Go.Eng
