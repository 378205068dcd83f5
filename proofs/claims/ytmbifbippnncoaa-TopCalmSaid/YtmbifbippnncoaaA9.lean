/- The engine, part 9: a region that draws its order, in which some operations only stand ahead of what acts. -/
import Derived.Test.YtmbifbippnncoaaA8
namespace Go.Eng
open Go Go.RowKit
section
variable {P : Program} {ops : Array Oper} {Cq Ce : Nat → World → Prop}

/-- The text's order. -/
def wpFl2 (P : Program) (ops : Array Oper) (Cq Ce : Nat → World → Prop) (K : Act → World → Prop) : List Nat → Act → World → Prop
  | [], a, w => K a w
  | i :: rest, a, w => match ops[i]? with
    | none => wpFl2 P ops Cq Ce K rest a w
    | some o => if Region.wanted o (yielded ops a.tmps) = true then
        (if eff o.op = true then effStep P o a w (fun v w' => Ce i w' ∧ wpFl2 P ops Cq Ce K rest (a.put o.dst v) w')
         else ∃ v, (∀ w', Cq i w' → (execOp a.eval o).run P w' = .ok (.value v) w') ∧ wpFl2 P ops Cq Ce K rest (a.put o.dst v) w)
      else wpFl2 P ops Cq Ce K rest (a.put o.dst undef) w

variable {K : Act → World → Prop}

/-- Operation j, not acting, may be taken first. -/
theorem fl_swap_quiet2 (hF : FlOk ops) {j : Nat} {oj : Oper} (hj : ops[j]? = some oj) (hne : eff oj.op = false) : ∀ (l1 l2 : List Nat) (a : Act) (w : World),
    (∀ i ∈ l1, ∀ oi, ops[i]? = some oi → oi.apart ops oj = true ∧ (eff oi.op = true → ∀ w', Ce i w' → Cq j w')) → Region.wanted oj (yielded ops a.tmps) = true → Cq j w → wpFl2 P ops Cq Ce K (l1 ++ j :: l2) a w →
    ∃ v, (∀ w', Cq j w' → (execOp a.eval oj).run P w' = .ok (.value v) w') ∧ wpFl2 P ops Cq Ce K (l1 ++ l2) (a.put oj.dst v) w := by
  intro l1
  induction l1 with
  | nil =>
    intro l2 a w _ hw hC h
    simp only [List.nil_append, wpFl2, hj, hw, if_true, hne] at h
    simpa using h
  | cons i l1 ih =>
    intro l2 a w hap hw hC h
    have ih' := fun a w => ih l2 a w (fun i' hi' => hap i' (List.mem_cons_of_mem _ hi'))
    simp only [List.cons_append, wpFl2] at h ⊢
    cases hi : ops[i]? with
    | none => simp only [hi] at h ⊢; exact ih' a w hw hC h
    | some oi =>
      simp only [hi] at h ⊢
      obtain ⟨p1, p2, p3⟩ := Oper.apart_spec (hap i List.mem_cons_self oi hi).1
      have kj := hF.kind j oj hj
      have ki := hF.kind i oi hi
      have ej : ∀ (a : Act) v, execOp (a.put oi.dst v).eval oj = execOp a.eval oj := fun a v => exec_put kj a oi.dst v p1
      have ei : ∀ (a : Act) v, execOp (a.put oj.dst v).eval oi = execOp a.eval oi := fun a v => exec_put ki a oj.dst v p3
      have wj : ∀ (a : Act) v, Region.wanted oj (yielded ops (a.put oi.dst v).tmps) = Region.wanted oj (yielded ops a.tmps) := fun a v => wanted_put oj a oi.dst v p1
      have wi : ∀ (a : Act) v, Region.wanted oi (yielded ops (a.put oj.dst v).tmps) = Region.wanted oi (yielded ops a.tmps) := fun a v => wanted_put oi a oj.dst v p3
      have cm : ∀ (a : Act) u v, (a.put oi.dst u).put oj.dst v = (a.put oj.dst v).put oi.dst u := fun a u v => Act.put_comm a u v p2
      by_cases hwi : Region.wanted oi (yielded ops a.tmps) = true
      · simp only [hwi, if_true] at h
        by_cases he : eff oi.op = true
        · simp only [he, if_true] at h
          obtain ⟨v0, w0, hC0, h0⟩ := h.some
          obtain ⟨v, hv, _⟩ := ih' _ w0 (by rw [wj]; exact hw) ((hap i List.mem_cons_self oi hi).2 he w0 hC0) h0
          simp only [ej] at hv
          refine ⟨v, hv, ?_⟩
          rw [wi]
          simp only [hwi, if_true, he]
          have h1 : effStep P oi (a.put oj.dst v) w (fun u w' => Ce i w' ∧ wpFl2 P ops Cq Ce K (l1 ++ j :: l2) (a.put oi.dst u) w') := by
            unfold effStep at h ⊢
            rw [ei]
            exact h
          refine h1.mono fun u w' ⟨hC', h2⟩ => ⟨hC', ?_⟩
          obtain ⟨v', hv', h3⟩ := ih' _ w' (by rw [wj]; exact hw) ((hap i List.mem_cons_self oi hi).2 he w' hC') h2
          simp only [ej] at hv'
          have e1 := hv w hC
          have e2 := hv' w hC
          rw [e1] at e2
          have : v = v' := by simpa using e2
          subst this
          rw [cm] at h3
          exact h3
        · simp only [he] at h
          obtain ⟨u, hu, h⟩ := h
          obtain ⟨v, hv, h3⟩ := ih' _ w (by rw [wj]; exact hw) hC h
          simp only [ej] at hv
          refine ⟨v, hv, ?_⟩
          rw [wi]
          simp only [hwi, if_true, he]
          refine ⟨u, fun w' hC' => by rw [ei]; exact hu w' hC', ?_⟩
          rw [cm] at h3
          exact h3
      · simp only [hwi] at h
        obtain ⟨v, hv, h3⟩ := ih' _ w (by rw [wj]; exact hw) hC h
        simp only [ej] at hv
        refine ⟨v, hv, ?_⟩
        rw [wi]
        simp only [hwi]
        rw [cm] at h3
        exact h3

/-- .. and so one that is not wanted. -/
theorem fl_swap_skip2 (hF : FlOk ops) {j : Nat} {oj : Oper} (hj : ops[j]? = some oj) : ∀ (l1 l2 : List Nat) (a : Act) (w : World),
    (∀ i ∈ l1, ∀ oi, ops[i]? = some oi → oi.apart ops oj = true) → Region.wanted oj (yielded ops a.tmps) = false → wpFl2 P ops Cq Ce K (l1 ++ j :: l2) a w → wpFl2 P ops Cq Ce K (l1 ++ l2) (a.put oj.dst undef) w := by
  intro l1
  induction l1 with
  | nil =>
    intro l2 a w _ hw h
    simp only [List.nil_append, wpFl2, hj, hw] at h
    simpa using h
  | cons i l1 ih =>
    intro l2 a w hap hw h
    have ih' := fun a w => ih l2 a w (fun i' hi' => hap i' (List.mem_cons_of_mem _ hi'))
    simp only [List.cons_append, wpFl2] at h ⊢
    cases hi : ops[i]? with
    | none => simp only [hi] at h ⊢; exact ih' a w hw h
    | some oi =>
      simp only [hi] at h ⊢
      obtain ⟨p1, p2, p3⟩ := Oper.apart_spec (hap i List.mem_cons_self oi hi)
      have ki := hF.kind i oi hi
      have ei : ∀ (a : Act) v, execOp (a.put oj.dst v).eval oi = execOp a.eval oi := fun a v => exec_put ki a oj.dst v p3
      have wj : ∀ (a : Act) v, Region.wanted oj (yielded ops (a.put oi.dst v).tmps) = Region.wanted oj (yielded ops a.tmps) := fun a v => wanted_put oj a oi.dst v p1
      have wi : ∀ (a : Act) v, Region.wanted oi (yielded ops (a.put oj.dst v).tmps) = Region.wanted oi (yielded ops a.tmps) := fun a v => wanted_put oi a oj.dst v p3
      have cm : ∀ (a : Act) u v, (a.put oi.dst u).put oj.dst v = (a.put oj.dst v).put oi.dst u := fun a u v => Act.put_comm a u v p2
      rw [wi]
      by_cases hwi : Region.wanted oi (yielded ops a.tmps) = true
      · simp only [hwi, if_true] at h ⊢
        by_cases he : eff oi.op = true
        · simp only [he, if_true] at h ⊢
          have h1 : effStep P oi (a.put oj.dst undef) w (fun u w' => Ce i w' ∧ wpFl2 P ops Cq Ce K (l1 ++ j :: l2) (a.put oi.dst u) w') := by
            unfold effStep at h ⊢
            rw [ei]
            exact h
          refine h1.mono fun u w' ⟨hC', h2⟩ => ⟨hC', ?_⟩
          have h3 := ih' _ w' (by rw [wj]; exact hw) h2
          rw [cm] at h3
          exact h3
        · simp only [he] at h ⊢
          obtain ⟨u, hu, h⟩ := h
          have h3 := ih' _ w (by rw [wj]; exact hw) h
          refine ⟨u, fun w' hC' => by rw [ei]; exact hu w' hC', ?_⟩
          rw [cm] at h3
          exact h3
      · simp only [hwi] at h ⊢
        have h3 := ih' _ w (by rw [wj]; exact hw) h
        rw [cm] at h3
        exact h3

/-- .. and one that acts, where nothing ahead of it acts. -/
theorem fl_swap_eff2 (hF : FlOk ops) {j : Nat} {oj : Oper} (hj : ops[j]? = some oj) (he : eff oj.op = true) : ∀ (l1 l2 : List Nat) (a : Act) (w : World),
    (∀ i ∈ l1, ∀ oi, ops[i]? = some oi → oi.apart ops oj = true ∧ eff oi.op = false) → Region.wanted oj (yielded ops a.tmps) = true → wpFl2 P ops Cq Ce K (l1 ++ j :: l2) a w →
    effStep P oj a w (fun v w' => Ce j w' ∧ wpFl2 P ops Cq Ce K (l1 ++ l2) (a.put oj.dst v) w') := by
  intro l1
  induction l1 with
  | nil =>
    intro l2 a w _ hw h
    simp only [List.nil_append, wpFl2, hj, hw, if_true, he] at h
    simpa using h
  | cons i l1 ih =>
    intro l2 a w hap hw h
    have ih' := fun a w => ih l2 a w (fun i' hi' => hap i' (List.mem_cons_of_mem _ hi'))
    simp only [List.cons_append, wpFl2] at h ⊢
    cases hi : ops[i]? with
    | none => simp only [hi] at h ⊢; exact ih' a w hw h
    | some oi =>
      simp only [hi] at h ⊢
      obtain ⟨hap', hei⟩ := hap i List.mem_cons_self oi hi
      obtain ⟨p1, p2, p3⟩ := Oper.apart_spec hap'
      have kj := hF.kind j oj hj
      have ki := hF.kind i oi hi
      have ej : ∀ (a : Act) v, execOp (a.put oi.dst v).eval oj = execOp a.eval oj := fun a v => exec_put kj a oi.dst v p1
      have ei : ∀ (a : Act) v, execOp (a.put oj.dst v).eval oi = execOp a.eval oi := fun a v => exec_put ki a oj.dst v p3
      have wj : ∀ (a : Act) v, Region.wanted oj (yielded ops (a.put oi.dst v).tmps) = Region.wanted oj (yielded ops a.tmps) := fun a v => wanted_put oj a oi.dst v p1
      have wi : ∀ (a : Act) v, Region.wanted oi (yielded ops (a.put oj.dst v).tmps) = Region.wanted oi (yielded ops a.tmps) := fun a v => wanted_put oi a oj.dst v p3
      have cm : ∀ (a : Act) u v, (a.put oi.dst u).put oj.dst v = (a.put oj.dst v).put oi.dst u := fun a u v => Act.put_comm a u v p2
      by_cases hwi : Region.wanted oi (yielded ops a.tmps) = true
      · simp only [hwi, if_true, hei] at h
        simp only [Bool.false_eq_true, if_false] at h
        obtain ⟨u, hu, h⟩ := h
        have h3 := ih' _ w (by rw [wj]; exact hw) h
        have h4 : effStep P oj a w (fun v w' => Ce j w' ∧ wpFl2 P ops Cq Ce K (l1 ++ l2) ((a.put oi.dst u).put oj.dst v) w') := by
          unfold effStep at h3 ⊢
          rw [ej] at h3
          exact h3
        refine h4.mono fun v w' ⟨hC', h5⟩ => ⟨hC', ?_⟩
        rw [wi]
        simp only [hwi, if_true, hei, Bool.false_eq_true, if_false]
        refine ⟨u, fun w' hC' => by rw [ei]; exact hu w' hC', ?_⟩
        rw [cm] at h5
        exact h5
      · simp only [hwi] at h
        simp only [Bool.false_eq_true, if_false] at h
        have h3 := ih' _ w (by rw [wj]; exact hw) h
        have h4 : effStep P oj a w (fun v w' => Ce j w' ∧ wpFl2 P ops Cq Ce K (l1 ++ l2) ((a.put oi.dst undef).put oj.dst v) w') := by
          unfold effStep at h3 ⊢
          rw [ej] at h3
          exact h3
        refine h4.mono fun v w' ⟨hC', h5⟩ => ⟨hC', ?_⟩
        rw [wi]
        simp only [hwi, Bool.false_eq_true, if_false]
        rw [cm] at h5
        exact h5


variable {ro : Cx} {Q : Fin}

/-- From the text's order to every order: R is what is left, in the text's order. -/
theorem any_of_fl2 (hF : FlOk ops) (hH : ∀ (i j : Nat) oi oj, ops[i]? = some oi → ops[j]? = some oj → eff oi.op = false → eff oj.op = true → (j < i ∨ ((masks ops.toList).getD j 0).testBit i = false) → ∀ w, Ce j w → Cq i w) (hK : ∀ a w, K a w → Q .normal a w) : ∀ (fuel : Nat) (R : List Nat) (listed : Array Bool) (a : Act) (w : World),
    R.length = fuel → listed.size = ops.size → R.Pairwise (· < ·) → (∀ i, i ∈ R ↔ i < ops.size ∧ listed.getD i true = false) →
    (∀ (m : Nat) o, ops[m]? = some o → listed.getD m false = true → ∀ e ∈ o.after, Region.binds .any e = true → listed.getD e.on false = true) →
    (∀ i ∈ R, ∀ o, ops[i]? = some o → eff o.op = false → Cq i w) → wpFl2 P ops Cq Ce K R a w → wpAnyIn (FR ro.ro) 0 P .any ops Q fuel listed a w := by
  intro fuel
  induction fuel with
  | zero =>
    intro R listed a w hl hsz hR hmem hcl hC h
    have : R = [] := by simpa using hl
    subst this
    refine ⟨?_, hK _ _ h⟩
    refine List.eq_nil_iff_forall_not_mem.2 fun i hi => ?_
    obtain ⟨h0, o, ho, _⟩ := mem_ready.1 hi
    exact absurd ((hmem i).2 ⟨(Array.getElem?_eq_some_iff.1 ho).1, h0⟩) (by simp)
  | succ fuel ih =>
    intro R listed a w hl hsz hR hmem hcl hC h
    refine ⟨fun h0 => ?_, fun j hj => ?_⟩
    · -- nothing is ready: but the first of R waits for earlier ones alone, all of which are listed
      exfalso
      cases R with
      | nil => simp at hl
      | cons i R =>
        obtain ⟨hi1, hi2⟩ := (hmem i).1 List.mem_cons_self
        have hrd : i ∈ Region.ready .any ops listed := by
          refine mem_ready.2 ⟨hi2, ops[i], Array.getElem?_eq_getElem hi1, fun e he hb => ?_⟩
          have hlt := hF.back i _ (Array.getElem?_eq_getElem hi1) e he hb
          have hnot : e.on ∉ i :: R := by
            intro hx
            rcases List.mem_cons.1 hx with hx | hx
            · omega
            · have := List.rel_of_pairwise_cons hR hx
              omega
          have h3 : ¬ (e.on < ops.size ∧ listed.getD e.on true = false) := fun hx => hnot ((hmem _).2 hx)
          have h4 : e.on < listed.size := by omega
          simp only [Array.getD_eq_getD_getElem?, Array.getElem?_eq_getElem h4, Option.getD_some] at h3 ⊢
          cases hc : listed[e.on] with
          | true => rfl
          | false => exact absurd ⟨by omega, hc⟩ h3
        rw [h0] at hrd
        cases hrd
    · obtain ⟨h0, oj, hoj, hre⟩ := mem_ready.1 hj
      have hjR : j ∈ R := (hmem j).2 ⟨(Array.getElem?_eq_some_iff.1 hoj).1, h0⟩
      obtain ⟨l1, l2, rfl⟩ := List.append_of_mem hjR
      have hlt1 : ∀ i ∈ l1, i < j := fun i hi => (List.pairwise_append.1 hR).2.2 i hi j (by simp)
      have hjl : listed.getD j false = true → False := fun hx => by
        simp only [Array.getD_eq_getD_getElem?] at hx h0
        cases hc : listed[j]? <;> simp [hc] at hx h0
        simp [hx] at h0
      have hun : ∀ i ∈ l1, ((masks ops.toList).getD j 0).testBit i = false := fun i hi => by
        cases hb : ((masks ops.toList).getD j 0).testBit i with
        | false => rfl
        | true =>
          have h1 := masks_spec (D := fun m => listed.getD m false = true) (fun m o hm hD e he hb => hcl m o hm hD e he hb) j oj hoj (fun e he hb => hre e he hb) i hb
          have h2 := ((hmem i).1 (by simp [hi])).2
          simp only [Array.getD_eq_getD_getElem?] at h1 h2
          cases hc : listed[i]? <;> simp [hc] at h1 h2
          simp [h1] at h2
      have hpair : ∀ i ∈ l1, ∀ oi, ops[i]? = some oi → oi.apart ops oj = true ∧ (eff oi.op = true → eff oj.op = true → False) := fun i hi oi hoi => by
        rcases hF.pair i j oi oj (hlt1 i hi) hoi hoj with h1 | h1
        · rw [hun i hi] at h1; cases h1
        · exact h1
      have next : ∀ a w, (∀ i ∈ l1 ++ l2, ∀ o, ops[i]? = some o → eff o.op = false → Cq i w) → wpFl2 P ops Cq Ce K (l1 ++ l2) a w → wpAnyIn (FR ro.ro) 0 P .any ops Q fuel (listed.setIfInBounds j true) a w := by
        intro a w hC h
        refine ih (l1 ++ l2) _ a w ?_ (by simp [hsz]) ?_ ?_ ?_ hC h
        · simp at hl ⊢; omega
        · exact hR.sublist (List.Sublist.append_left (List.sublist_cons_self _ _) _)
        · intro i
          have hnd : j ∉ l1 ++ l2 := by
            intro hx
            rcases List.mem_append.1 hx with hx | hx
            · exact absurd (hlt1 j hx) (by omega)
            · have := (List.pairwise_append.1 hR).2.1
              have := List.rel_of_pairwise_cons this hx
              omega
          constructor
          · intro hi
            have hne : j ≠ i := fun e => hnd (e ▸ hi)
            have h1 := (hmem i).1 (by rcases List.mem_append.1 hi with hi | hi <;> simp [hi])
            exact ⟨h1.1, by rw [getD_set_ne true hne]; exact h1.2⟩
          · rintro ⟨h1, h2⟩
            have hne : j ≠ i := fun e => by
              subst e
              simp [hsz, h1] at h2
            rw [getD_set_ne true hne] at h2
            have := (hmem i).2 ⟨h1, h2⟩
            rcases List.mem_append.1 this with hx | hx
            · exact List.mem_append.2 (.inl hx)
            · rcases List.mem_cons.1 hx with hx | hx
              · exact absurd hx.symm hne
              · exact List.mem_append.2 (.inr hx)
        · intro m o hm hD e he hb
          by_cases hmj : j = m
          · subst hmj
            rw [hoj] at hm
            obtain rfl := Option.some.inj hm
            exact getD_set_true (hre e he hb)
          · rw [getD_set_ne false hmj] at hD
            exact getD_set_true (hcl m o hm hD e he hb)
      unfold wpOpIn
      simp only [hoj]
      by_cases hw : Region.wanted oj (yielded ops a.tmps) = true
      · simp only [hw, if_true]
        cases he : eff oj.op with
        | true =>
          have h1 := fl_swap_eff2 hF hoj he l1 l2 a w (fun i hi oi hoi => ⟨(hpair i hi oi hoi).1, by
            cases hx : eff oi.op with
            | false => rfl
            | true => exact ((hpair i hi oi hoi).2 hx he).elim⟩) hw h
          exact effStep.wpIn (hF.kind j oj hoj) (h1.mono fun v w' ⟨hC', h2⟩ => next _ _ (fun i hi o ho hq => hH i j o oj ho hoj hq he (by
            rcases List.mem_append.1 hi with hx | hx
            · exact .inr (hun i hx)
            · exact .inl (List.rel_of_pairwise_cons (List.pairwise_append.1 hR).2.1 hx)) w' hC') h2)
        | false =>
          obtain ⟨v, hv, h2⟩ := fl_swap_quiet2 hF hoj he l1 l2 a w (fun i hi oi hoi => ⟨(hpair i hi oi hoi).1, fun hei w' hC' => hH j i oj oi hoj hoi he hei (.inl (hlt1 i hi)) w' hC'⟩) hw (hC j (by simp) oj hoj he) h
          exact upon_FR (fun c hc => by have := hF.kind j oj hoj; rw [hc] at this; cases this) (hv w (hC j (by simp) oj hoj he)) (next _ _ (fun i hi => hC i (by rcases List.mem_append.1 hi with hx | hx <;> simp [hx])) h2)
      · have hw' : Region.wanted oj (yielded ops a.tmps) = false := by simpa using hw
        simp only [hw', Bool.false_eq_true, if_false]
        exact ⟨fun f _ => fr_fn f, next _ _ (fun i hi => hC i (by rcases List.mem_append.1 hi with hx | hx <;> simp [hx])) (fl_swap_skip2 hF hoj l1 l2 a w (fun i hi oi hoi => (hpair i hi oi hoi).1) hw' h)⟩


/-- **A region that draws its order, by the text's order.** -/
theorem wpIn_region_fl2 {id : Nat} {a : Act} {w : World} (hm : P.follows .mixedOrders = true) (hF : FlOk ops) (hH : ∀ (i j : Nat) oi oj, ops[i]? = some oi → ops[j]? = some oj → eff oi.op = false → eff oj.op = true → (j < i ∨ ((masks ops.toList).getD j 0).testBit i = false) → ∀ w, Ce j w → Cq i w) (hC : ∀ i, Cq i { w with drawn := w.drawn + 1 })
    (hK : ∀ a w, K a w → Q .normal a w) (h : wpFl2 P ops Cq Ce K (List.range ops.size) a { w with drawn := w.drawn + 1 }) : (Code.region id ops true).wpIn (FR ro.ro) 0 P Q a w := by
  refine wpIn_region_any hm (any_of_fl2 hF hH hK ops.size (List.range ops.size) _ a _ (by simp) (by simp) List.pairwise_lt_range ?_ ?_ (fun i _ _ _ _ => hC i) h)
  · intro i
    simp only [List.mem_range]
    constructor
    · intro hi
      exact ⟨hi, by simp [hi]⟩
    · exact fun hi => hi.1
  · intro m o _ hD
    simp only [Array.getD_eq_getD_getElem?, Array.getElem?_replicate] at hD
    split at hD <;> simp at hD

end

section
variable {P : Program} {T : Tab} {ops : Array Oper}

/-- One flag for each operation: those that are marked see the first kind of worlds alone, the others the second kind as well. -/
def wpFlB (P : Program) (ops : Array Oper) (C1 C2 : World → Prop) (K : Act → World → Prop) : List Bool → List Oper → Act → World → Prop
  | _, [], a, w => K a w
  | bs, o :: rest, a, w => if Region.wanted o (yielded ops a.tmps) = true then
        (if eff o.op = true then effStep P o a w (fun v w' => (bif bs.headD false then C1 w' else C2 w') ∧ wpFlB P ops C1 C2 K bs.tail rest (a.put o.dst v) w')
         else ∃ v, (∀ w', (bif bs.headD false then C1 w' else C2 w') → (execOp a.eval o).run P w' = .ok (.value v) w') ∧ wpFlB P ops C1 C2 K bs.tail rest (a.put o.dst v) w)
      else wpFlB P ops C1 C2 K bs.tail rest (a.put o.dst undef) w

def flagC (C1 C2 : World → Prop) (bs : List Bool) (i : Nat) : World → Prop := fun w => bif bs.getD i false then C1 w else C2 w

theorem wpFlB_eq {C1 C2 : World → Prop} {K : Act → World → Prop} {bs : List Bool} (l : List Oper) : ∀ k, (∀ j, l[j]? = ops[k + j]?) → wpFl2 P ops (flagC C1 C2 bs) (flagC C1 C2 bs) K (List.range' k l.length) = wpFlB P ops C1 C2 K (bs.drop k) l := by
  induction l with
  | nil => intro k _; funext a w; simp [wpFl2, wpFlB]
  | cons o l ih =>
    intro k h
    have h0 : ops[k]? = some o := by simpa using (h 0).symm
    have ih' := ih (k + 1) (fun j => by have := h (j + 1); simpa [Nat.add_assoc, Nat.add_comm 1 j] using this)
    have e1 : (bs.drop k).headD false = bs.getD k false := by simp [List.headD_eq_head?_getD, List.head?_drop]
    have e2 : (bs.drop k).tail = bs.drop (k + 1) := by simp
    funext a w
    simp only [List.length_cons, List.range'_succ, wpFl2, h0, wpFlB, ih', e1, e2, flagC]

/-- An operation that acts and is not marked comes after all that are marked. -/
def flagB (ops : Array Oper) (bs : List Bool) : Bool :=
  (List.range ops.size).all fun j => match ops[j]? with
    | none => true
    | some oj => !(eff oj.op) || bs.getD j false || (List.range ops.size).all fun i => match ops[i]? with
      | none => true
      | some oi => eff oi.op || !(bs.getD i false) || (Nat.blt i j && ((masks ops.toList).getD j 0).testBit i)

theorem flagB_spec {bs : List Bool} (h : flagB ops bs = true) {C1 C2 : World → Prop} (h12 : ∀ w, C1 w → C2 w) (i j : Nat) (oi oj : Oper) (hi : ops[i]? = some oi) (hj : ops[j]? = some oj) (hei : eff oi.op = false) (hej : eff oj.op = true)
    (hm : j < i ∨ ((masks ops.toList).getD j 0).testBit i = false) (w : World) (hC : flagC C1 C2 bs j w) : flagC C1 C2 bs i w := by
  have h1 := List.all_eq_true.1 h j (List.mem_range.2 (Array.getElem?_eq_some_iff.1 hj).1)
  simp only [hj, hej, Bool.not_true, Bool.false_or, Bool.or_eq_true] at h1
  unfold flagC at hC ⊢
  rcases h1 with h1 | h1
  · rw [h1] at hC
    cases bs.getD i false with
    | true => exact hC
    | false => exact h12 _ hC
  · have h2 := List.all_eq_true.1 h1 i (List.mem_range.2 (Array.getElem?_eq_some_iff.1 hi).1)
    simp only [hi, hei, Bool.false_or, Bool.or_eq_true, Bool.not_eq_true', Bool.and_eq_true, Nat.blt_eq] at h2
    rcases h2 with h2 | h2
    · rw [h2]
      cases hb : bs.getD j false with
      | true => rw [hb] at hC; exact h12 _ hC
      | false => rw [hb] at hC; exact hC
    · exfalso
      rcases hm with hm | hm
      · omega
      · rw [h2.2] at hm; cases hm

variable {ro : Cx} {n : Nat} {F : Fin} {k : List It} {l rest : List Oper} {e : Env} {w : World} {o : Oper}

def YB (P : Program) (ro : Cx) (n : Nat) (F : Fin) (k : List It) (ops : Array Oper) (C1 C2 : World → Prop) (bs : List Bool) (l : List Oper) (e : Env) (w : World) : Prop :=
  ∀ a, Fits n e a → a.defers = ro.ds → wpFlB P ops C1 C2 (fun a w => S P ro.ro F k .normal a w) bs l a w

/-- A region that draws, with marks: N1, N2: what may change before what is marked, and at all. -/
theorem y_drawB (N1 N2 : List Nat) (bs : List Bool) {id : Nat} {l : List Oper} (hm : P.follows .mixedOrders = true) (hB : flB l.toArray = true) (hbs : flagB l.toArray bs = true) (hN : ∀ k ∈ N1, k ∈ N2)
    (h : ∀ w1, Chg [] w w1 → w1.heap.size = w.heap.size → YB P ro n F k l.toArray (Chg N1 w1) (Chg N2 w1) bs l e w1) : Y P ro n F (.code (.region id l.toArray true) :: k) e w := fun a hf hd => by
  have h1 := h { w with drawn := w.drawn + 1 } (Chg.drew w) rfl a hf hd
  refine wpIn_region_fl2 hm (flB_spec hB) (K := fun a w => S P ro.ro F k .normal a w) (Cq := flagC (Chg N1 { w with drawn := w.drawn + 1 }) (Chg N2 { w with drawn := w.drawn + 1 }) bs) (Ce := flagC (Chg N1 { w with drawn := w.drawn + 1 }) (Chg N2 { w with drawn := w.drawn + 1 }) bs)
    (fun i j oi oj => flagB_spec hbs (fun _ hc => hc.mono hN) i j oi oj) (fun i => ?_) (fun _ _ h => h) ?_
  · unfold flagC
    cases bs.getD i false <;> exact Chg.refl _ _
  · have h2 := wpFlB_eq (P := P) (ops := l.toArray) (C1 := Chg N1 { w with drawn := w.drawn + 1 }) (C2 := Chg N2 { w with drawn := w.drawn + 1 }) (bs := bs) (K := fun a w => S P ro.ro F k .normal a w) l 0 (by simp)
    rw [show List.range l.toArray.size = List.range' 0 l.length from by simp [List.range_eq_range'], h2]
    exact h1

variable {C1 C2 : World → Prop}

theorem yb_nil {bs : List Bool} (h : Y P ro n F k e w) : YB P ro n F k ops C1 C2 bs [] e w := h

/-- Operations with the same mark are walked as ever. -/
theorem yb_seg (b : Bool) (c : Nat) {bs : List Bool} (hb : (bs.take c).all (fun x => x == b) = true) (hc : c ≤ bs.length)
    (h : ∀ K1 : Act → World → Prop, (∀ e' w', YB P ro n F k ops C1 C2 (bs.drop c) (l.drop c) e' w' → ∀ a, Fits n e' a → a.defers = ro.ds → K1 a w') → YF P ro n F (.k K1 :: k) ops (bif b then C1 else C2) (l.take c) e w) :
    YB P ro n F k ops C1 C2 bs l e w := fun a hf hd => by
  have h1 := h (fun a w => wpFlB P ops C1 C2 (fun a w => S P ro.ro F k .normal a w) (bs.drop c) (l.drop c) a w) (fun e' w' hY a hf hd => hY a hf hd) a hf hd
  clear h hf
  generalize hk : (fun a w => S P ro.ro F k .normal a w) = K at h1 ⊢
  have key : ∀ (c : Nat) (bs : List Bool) (l : List Oper) (a : Act) (w : World), (bs.take c).all (fun x => x == b) = true → c ≤ bs.length →
      wpFlL P ops (bif b then C1 else C2) (fun a w => wpFlB P ops C1 C2 K (bs.drop c) (l.drop c) a w) (l.take c) a w → wpFlB P ops C1 C2 K bs l a w := by
    intro c
    induction c with
    | zero => intro bs l a w _ _ h; simpa [wpFlL] using h
    | succ c ih =>
      intro bs l a w hb hc h
      cases bs with
      | nil => simp at hc
      | cons b0 bs =>
        simp only [List.take_succ_cons, List.all_cons, Bool.and_eq_true, beq_iff_eq] at hb
        obtain ⟨rfl, hb⟩ := hb
        cases l with
        | nil => simpa [wpFlL, wpFlB] using h
        | cons o l =>
          have hce : ∀ w', (bif b0 then C1 else C2) w' = (bif b0 then C1 w' else C2 w') := fun w' => by cases b0 <;> rfl
          simp only [List.take_succ_cons, List.drop_succ_cons, wpFlL] at h
          simp only [wpFlB, List.headD_cons, List.tail_cons]
          by_cases hw : Region.wanted o (yielded ops a.tmps) = true
          · simp only [hw, if_true] at h ⊢
            by_cases he : eff o.op = true
            · simp only [he, if_true] at h ⊢
              refine h.mono fun v w' ⟨h1, h2⟩ => ⟨by rw [← hce]; exact h1, ih bs l _ _ hb (by simpa using hc) h2⟩
            · simp only [he] at h ⊢
              obtain ⟨v, hv, h2⟩ := h
              exact ⟨v, fun w' hw' => hv w' (by rw [hce]; exact hw'), ih bs l _ _ hb (by simpa using hc) h2⟩
          · simp only [hw] at h ⊢
            exact ih bs l _ _ hb (by simpa using hc) h
  have h2 : ∀ a w, S P ro.ro F (.k (fun a w => wpFlB P ops C1 C2 K (bs.drop c) (l.drop c) a w) :: k) .normal a w = wpFlB P ops C1 C2 K (bs.drop c) (l.drop c) a w := fun a w => rfl
  refine key c bs l a w hb hc ?_
  simp only [h2] at h1
  exact h1

end
end Go.Eng
