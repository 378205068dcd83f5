/- The engine, part 6: the rules for a region that draws its order. -/
import Derived.Test.YtmbifbippnncoaaA5
namespace Go.Eng
open Go Go.RowKit

section
variable {P : Program} {T : Tab} {ops : Array Oper} {C : World → Prop}

def wpFlL (P : Program) (ops : Array Oper) (C : World → Prop) (K : Act → World → Prop) : List Oper → Act → World → Prop
  | [], a, w => K a w
  | o :: rest, a, w => if Region.wanted o (yielded ops a.tmps) = true then
        (if eff o.op = true then effStep P o a w (fun v w' => C w' ∧ wpFlL P ops C K rest (a.put o.dst v) w')
         else ∃ v, (∀ w', C w' → (execOp a.eval o).run P w' = .ok (.value v) w') ∧ wpFlL P ops C K rest (a.put o.dst v) w)
      else wpFlL P ops C K rest (a.put o.dst undef) w

theorem wpFl_eq {K : Act → World → Prop} (l : List Oper) : ∀ k, (∀ j, l[j]? = ops[k + j]?) → wpFl P ops C K (List.range' k l.length) = wpFlL P ops C K l := by
  induction l with
  | nil => intro k _; funext a w; simp [wpFl, wpFlL]
  | cons o l ih =>
    intro k h
    have h0 : ops[k]? = some o := by simpa using (h 0).symm
    have ih' := ih (k + 1) (fun j => by have := h (j + 1); simpa [Nat.add_assoc, Nat.add_comm 1 j] using this)
    funext a w
    simp only [List.length_cons, List.range'_succ, wpFl, h0, wpFlL, ih']

variable {ro : Cx} {n : Nat} {F : Fin} {k : List It} {l rest : List Oper} {e : Env} {w : World} {o : Oper}

/-- What is left of a region that draws its order. -/
def YF (P : Program) (ro : Cx) (n : Nat) (F : Fin) (k : List It) (ops : Array Oper) (C : World → Prop) (l : List Oper) (e : Env) (w : World) : Prop :=
  ∀ a, Fits n e a → a.defers = ro.ds → wpFlL P ops C (fun a w => S P ro.ro F k .normal a w) l a w

theorem y_draw (N : List Nat) {id : Nat} {l : List Oper} (hm : P.follows .mixedOrders = true) (hB : flB l.toArray = true)
    (h : ∀ w1, Chg [] w w1 → w1.heap.size = w.heap.size → YF P ro n F k l.toArray (Chg N w1) l e w1) : Y P ro n F (.code (.region id l.toArray true) :: k) e w := fun a hf hd => by
  have h1 := h { w with drawn := w.drawn + 1 } (Chg.drew w) rfl a hf hd
  refine wpIn_region_fl hm (flB_spec hB) (C := Chg N { w with drawn := w.drawn + 1 }) (Chg.refl _ _) (fun _ _ _ h => h) ?_
  have h2 := wpFl_eq (P := P) (ops := l.toArray) (C := Chg N { w with drawn := w.drawn + 1 }) (K := fun a w => S P ro.ro F k .normal a w) l 0 (by simp)
  rw [show List.range l.toArray.size = List.range' 0 l.length from by simp [List.range_eq_range'], h2]
  exact h1

theorem yf_nil (h : Y P ro n F k e w) : YF P ro n F k ops C [] e w := h

/-- An operation that only looks. -/
theorem yf_quiet {t : Nat} {v : Value} {op : Op} {ty : TypeId} {pos : String} {af : Array Edge} (he : eff op = false) (ht : Nat.blt t n = true)
    (hr : ∀ a, Fits n e a → ∀ w', C w' → (execOp a.eval ⟨some t, op, ty, pos, af, none⟩).run P w' = .ok (.value v) w') (h : YF P ro n F k ops C rest ((t, v) :: e) w) :
    YF P ro n F k ops C (⟨some t, op, ty, pos, af, none⟩ :: rest) e w := fun a hf hd => by
  simp only [wpFlL, Region.wanted, if_true, he, Bool.false_eq_true, if_false]
  exact ⟨v, hr a hf, h _ (hf.put v ht) (by simpa [Act.put] using hd)⟩

theorem yf_pure (hT : T.Ok P) {t : Nat} {v : Value} {op : Op} {ty : TypeId} {pos : String} {af : Array Edge} (hv : evp T e op = some v) (he : eff op = false) (ht : Nat.blt t n = true)
    (h : YF P ro n F k ops C rest ((t, v) :: e) w) : YF P ro n F k ops C (⟨some t, op, ty, pos, af, none⟩ :: rest) e w :=
  yf_quiet he ht (fun _ hf w' _ => evp_run hT hf hv w') h

theorem yf_load1 (hT : T.Ok P) {d t : Nat} {x : Operand} {ad : Addr} {v : Value} {ty : TypeId} {pos : String} {af : Array Edge}
    (hx : opv e x = some (.pointer (some ad))) (h1 : has T.one t = true) (hd : Nat.blt d n = true) (hc : ∀ w', C w' → w'.cell? ad = some v)
    (h : YF P ro n F k ops C rest ((d, v) :: e) w) : YF P ro n F k ops C (⟨some d, .load t x, ty, pos, af, none⟩ :: rest) e w :=
  yf_quiet rfl hd (fun a hf w' hw' => by
    have e1 := hf.op hx
    obtain ⟨r1, _⟩ := one_run hT h1 w'
    simp only [execOp, e1]
    simp [Instr.loadAt, Instr.sureAddr, loadVar, r1, load, Sem.run, hc w' hw']) h

theorem yf_loadA (hT : T.Ok P) {d t m : Nat} {x : Operand} {b off : Nat} {cs : List Value} {ty : TypeId} {pos : String} {af : Array Edge}
    (hx : opv e x = some (.pointer (some ⟨b, off, none⟩))) (h1 : find1 T.agg t = some m) (hd : Nat.blt d n = true) (hl : cs.length = m) (hc : ∀ w', C w' → ∀ j, j < m → w'.cell? ⟨b, off + j, none⟩ = cs[j]?)
    (h : YF P ro n F k ops C rest ((d, .agg cs.toArray) :: e) w) : YF P ro n F k ops C (⟨some d, .load t x, ty, pos, af, none⟩ :: rest) e w :=
  yf_quiet rfl hd (fun a hf w' hw' => by
    have e1 := hf.op hx
    obtain ⟨r1, r2⟩ := agg_run hT h1 w'
    have r3 := loadCellsFrom_run (P := P) w' ⟨b, off, none⟩ m 0 #[] cs hl (fun j hj => by rw [Nat.zero_add, Addr.add_lit]; exact hc w' hw' j hj)
    simp only [execOp, e1]
    simp [Instr.loadAt, Instr.sureAddr, loadVar, loadCells, r1, r2, r3]) h

theorem yf_index (hT : T.Ok P) {d t et sz : Nat} {x ix : Operand} {b off len cap : Nat} {ik : IntKind} {i : Int} {ty : TypeId} {pos : String} {af : Array Edge}
    (hx : opv e x = some (.slice (some ⟨b, off, none⟩) len cap)) (hi : opv e ix = some (.int ik i)) (hs : find1 T.esz t = some (et, sz)) (hsl : has T.len t = true) (hd : Nat.blt d n = true) (h0 : 0 ≤ i) (h1 : i < len)
    (h : YF P ro n F k ops C rest ((d, .pointer (some ⟨b, off + i.toNat * sz, none⟩)) :: e) w) : YF P ro n F k ops C (⟨some d, .indexAddr t x ix, ty, pos, af, none⟩ :: rest) e w :=
  yf_quiet rfl hd (fun a hf w' _ => by
    have e1 := hf.op hx
    have e2 := hf.op hi
    have hsz := hT.esz _ _ _ hs
    have hl := hT.len _ hsl
    simp only [eszB, Bool.and_eq_true] at hsz
    simp only [lenB] at hl
    obtain ⟨ha, hb⟩ := hsz
    split at hl
    · rename_i el hu
      rw [hu] at ha
      have he := Nat.eq_of_beq_eq_true ha
      subst he
      split at hb
      · rename_i inf hinf
        have hsz := Nat.eq_of_beq_eq_true hb
        simp only [execOp, e1, e2]
        simp [Instr.indexAt, asIntOf, run_underlying hu, h0, h1, sizeOf, typeInfo, hinf, hsz, Addr.add_lit]
      · cases hb
    · cases hl) h

theorem yf_quo {d t t' : Nat} {x y : Operand} {kd : IntKind} {p q : Int} {ty : TypeId} {pos : String} {af : Array Edge}
    (hx : opv e x = some (.int kd p)) (hy : opv e y = some (.int kd q)) (hq : q ≠ 0) (hd : Nat.blt d n = true)
    (h : YF P ro n F k ops C rest ((d, .int kd (kd.wrap (p.tdiv q))) :: e) w) : YF P ro n F k ops C (⟨some d, .binOp .quo t x y t', ty, pos, af, none⟩ :: rest) e w :=
  yf_quiet rfl hd (fun a hf w' _ => by
    have e1 := hf.op hx
    have e2 := hf.op hy
    simp only [execOp, e1, e2]
    simp [eqGuard, binOp, Op.intDiv, hq]) h

theorem yf_rem {d t t' : Nat} {x y : Operand} {kd : IntKind} {p q : Int} {ty : TypeId} {pos : String} {af : Array Edge}
    (hx : opv e x = some (.int kd p)) (hy : opv e y = some (.int kd q)) (hq : q ≠ 0) (hd : Nat.blt d n = true)
    (h : YF P ro n F k ops C rest ((d, .int kd (p.tmod q)) :: e) w) : YF P ro n F k ops C (⟨some d, .binOp .rem t x y t', ty, pos, af, none⟩ :: rest) e w :=
  yf_quiet rfl hd (fun a hf w' _ => by
    have e1 := hf.op hx
    have e2 := hf.op hy
    simp only [execOp, e1, e2]
    simp [eqGuard, binOp, Op.intDiv, hq]) h

theorem yf_build {d t : Nat} {parts : List (Nat × Operand)} {v : Value} {us : List Value} {ty : TypeId} {pos : String} {af : Array Edge}
    (hp : opvs e (parts.map (·.2)) = some us) (hb : ∀ w, (Instr.build t ((parts.map (·.1)).zip us).toArray).run P w = .ok v w) (hd : Nat.blt d n = true)
    (h : YF P ro n F k ops C rest ((d, v) :: e) w) : YF P ro n F k ops C (⟨some d, .build t parts.toArray, ty, pos, af, none⟩ :: rest) e w :=
  yf_quiet rfl hd (fun a hf w' _ => by
    have e1 := hf.ops hp
    have e2 : (parts.toArray.map fun (x : Nat × Operand) => (x.1, a.eval x.2)) = ((parts.map (·.1)).zip us).toArray := by
      rw [← e1]
      simp only [List.map_toArray]
      congr 1
      clear hp hb h e1
      induction parts with
      | nil => rfl
      | cons p ps ih => simp [ih]
    simp only [execOp]
    rw [e2]
    simp [hb w']) h

theorem yf_guard_yes {dst : Option Nat} {op : Op} {ty : TypeId} {pos : String} {af : Array Edge} {j : Nat} {b : Bool} (hg : guardV ops e j = some b)
    (h : YF P ro n F k ops C (⟨dst, op, ty, pos, af, none⟩ :: rest) e w) : YF P ro n F k ops C (⟨dst, op, ty, pos, af, some (j, b)⟩ :: rest) e w := fun a hf hd => by
  have h1 := h a hf hd
  have hy := guardV_yielded hf hg
  simp only [wpFlL, Region.wanted, if_true] at h1
  simp only [wpFlL, Region.wanted, hy, beq_self_eq_true, if_true]
  exact h1

theorem yf_guard_no {t : Nat} {op : Op} {ty : TypeId} {pos : String} {af : Array Edge} {j : Nat} {b c : Bool} (hg : guardV ops e j = some c) (hne : (c == b) = false) (ht : Nat.blt t n = true)
    (h : YF P ro n F k ops C rest ((t, undef) :: e) w) : YF P ro n F k ops C (⟨some t, op, ty, pos, af, some (j, b)⟩ :: rest) e w := fun a hf hd => by
  have hy := guardV_yielded hf hg
  have hw : (some c == some b) = false := by simpa using hne
  simp only [wpFlL, Region.wanted, hy, hw]
  exact h _ (hf.put undef ht) (by simpa [Act.put] using hd)

/-- A guard whose Bool is not known yet: two ways. -/
theorem yf_dec {t : Nat} {b : Bool} (hl : look e t = some (.bool b)) (hy : b = true → YF P ro n F k ops C l ((t, .bool true) :: e) w) (hn : b = false → YF P ro n F k ops C l ((t, .bool false) :: e) w) :
    YF P ro n F k ops C l e w := fun a hf hd => by
  have key : ∀ c, b = c → Fits n ((t, .bool c) :: e) a := fun c hc => ⟨hf.size, fun s v hs => by
    subst hc
    simp only [look] at hs
    cases hb : Nat.beq t s with
    | true =>
      rw [hb] at hs
      have := Nat.eq_of_beq_eq_true hb
      subst this
      simp at hs
      subst hs
      exact hf.at_ t _ hl
    | false => rw [hb] at hs; exact hf.at_ s v hs⟩
  cases hb : b with
  | true => exact hy hb a (key _ hb) hd
  | false => exact hn hb a (key _ hb) hd

theorem yl_dec {t : Nat} {b : Bool} (hl : look e t = some (.bool b)) (hy : b = true → YL P ro n F k ops l ((t, .bool true) :: e) w) (hn : b = false → YL P ro n F k ops l ((t, .bool false) :: e) w) :
    YL P ro n F k ops l e w := fun a hf hd => by
  have key : ∀ c, b = c → Fits n ((t, .bool c) :: e) a := fun c hc => ⟨hf.size, fun s v hs => by
    subst hc
    simp only [look] at hs
    cases hb : Nat.beq t s with
    | true =>
      rw [hb] at hs
      have := Nat.eq_of_beq_eq_true hb
      subst this
      simp at hs
      subst hs
      exact hf.at_ t _ hl
    | false => rw [hb] at hs; exact hf.at_ s v hs⟩
  cases hb : b with
  | true => exact hy hb a (key _ hb) hd
  | false => exact hn hb a (key _ hb) hd

def guardT (ops : Array Oper) (j : Nat) : Option Nat := (ops[j]?).bind (·.dst)

theorem yl_split {dst : Option Nat} {op : Op} {ty : TypeId} {pos : String} {af : Array Edge} {j t : Nat} {b c : Bool} (_hg : guardT ops j = some t) (hl : look e t = some (.bool b))
    (hy : b = true → YL P ro n F k ops (⟨dst, op, ty, pos, af, some (j, c)⟩ :: rest) ((t, .bool true) :: e) w) (hn : b = false → YL P ro n F k ops (⟨dst, op, ty, pos, af, some (j, c)⟩ :: rest) ((t, .bool false) :: e) w) :
    YL P ro n F k ops (⟨dst, op, ty, pos, af, some (j, c)⟩ :: rest) e w := yl_dec hl hy hn

theorem yf_split {dst : Option Nat} {op : Op} {ty : TypeId} {pos : String} {af : Array Edge} {j t : Nat} {b c : Bool} (_hg : guardT ops j = some t) (hl : look e t = some (.bool b))
    (hy : b = true → YF P ro n F k ops C (⟨dst, op, ty, pos, af, some (j, c)⟩ :: rest) ((t, .bool true) :: e) w) (hn : b = false → YF P ro n F k ops C (⟨dst, op, ty, pos, af, some (j, c)⟩ :: rest) ((t, .bool false) :: e) w) :
    YF P ro n F k ops C (⟨dst, op, ty, pos, af, some (j, c)⟩ :: rest) e w := yf_dec hl hy hn

/-- An operation that acts. -/
theorem yf_eff {t : Nat} {v : Value} {w' : World} {op : Op} {ty : TypeId} {pos : String} {af : Array Edge} (he : eff op = true) (ht : Nat.blt t n = true)
    (hr : ∀ a, Fits n e a → (execOp a.eval ⟨some t, op, ty, pos, af, none⟩).run P w = .ok (.value v) w') (hC : C w') (h : YF P ro n F k ops C rest ((t, v) :: e) w') :
    YF P ro n F k ops C (⟨some t, op, ty, pos, af, none⟩ :: rest) e w := fun a hf hd => by
  simp only [wpFlL, Region.wanted, if_true, he, effStep, hr a hf]
  exact ⟨hC, h _ (hf.put v ht) (by simpa [Act.put] using hd)⟩

theorem yf_do {w' : World} {op : Op} {ty : TypeId} {pos : String} {af : Array Edge} (he : eff op = true)
    (hr : ∀ a, Fits n e a → (execOp a.eval ⟨none, op, ty, pos, af, none⟩).run P w = .ok .skip w') (hC : C w') (h : YF P ro n F k ops C rest e w') :
    YF P ro n F k ops C (⟨none, op, ty, pos, af, none⟩ :: rest) e w := fun a hf hd => by
  simp only [wpFlL, Region.wanted, if_true, he, effStep, hr a hf]
  exact ⟨hC, h _ hf hd⟩

theorem yf_call (hT : T.Ok P) {t : Nat} {f : Operand} {as : List Operand} {tys : Array TypeId} {ty : TypeId} {pos : String} {af : Array Edge} {g : Nat} {first caps : Array Value} {vs : List Value} {R : Value → World → Prop}
    (hf : opv e f = some (.func (.func g) first caps)) (hg : has T.fn g = true) (has_ : opvs e as = some vs) (ht : Nat.blt t n = true)
    (hc : Ca P g (first.toList ++ vs ++ caps.toList) w R) (h : ∀ v w', R v w' → C w' ∧ YF P ro n F k ops C rest ((t, v) :: e) w') :
    YF P ro n F k ops C (⟨some t, .call { callee := .value f, args := as.toArray, argTypes := tys }, ty, pos, af, none⟩ :: rest) e w := fun a hfit hd => by
  have e1 := hfit.op hf
  have e2 := hfit.ops has_
  have hrun : (execOp a.eval ⟨some t, .call { callee := .value f, args := as.toArray, argTypes := tys }, ty, pos, af, none⟩).run P w = .ok (.enter g (first.toList ++ vs ++ caps.toList).toArray) w := by
    simp only [execOp, resolve, List.map_toArray, e1, e2, Deferred.ofValue]
    simp [invoke, run_callFunc hT hg]
  have he : eff (.call { callee := .value f, args := as.toArray, argTypes := tys }) = true := rfl
  simp only [wpFlL, Region.wanted, if_true, he, effStep, hrun]
  refine Calls.mono hc ?_
  rintro x w' ⟨v, rfl, hR⟩
  obtain ⟨h1, h2⟩ := h v w' hR
  exact ⟨v, rfl, h1, h2 _ (hfit.put v ht) (by simpa [Act.put] using hd)⟩

theorem yf_box {d t : Nat} {x : Operand} {v : Value} {ty : TypeId} {pos : String} {af : Array Edge}
    (hx : opv e x = some v) (hd : Nat.blt d n = true)
    (h : ∀ w', Chg [] w w' → w'.heap.size = w.heap.size + 1 → Blk w' w.heap.size v.cells.toList t → C w' ∧ YF P ro n F k ops C rest ((d, .pointer (some ⟨w.heap.size, 0, none⟩)) :: e) w') :
    YF P ro n F k ops C (⟨some d, .box t x, ty, pos, af, none⟩ :: rest) e w := by
  obtain ⟨h1, h2⟩ := h _ (alloc_chg _ _) (by simp) (alloc_blk w v.cells t)
  exact yf_eff (w' := w.alloc (.cells v.cells t)) rfl hd (fun a hf => by
    have e1 := hf.op hx
    simp only [execOp, e1]
    simp [Instr.box, newVar, newRow, go_sem]) h1 h2

theorem yf_alloc {d t : Nat} {z : Value} {ty : TypeId} {pos : String} {af : Array Edge}
    (hz : (P.info? t).bind (·.zero) = some z) (hd : Nat.blt d n = true)
    (h : ∀ w', Chg [] w w' → w'.heap.size = w.heap.size + 1 → Blk w' w.heap.size z.cells.toList t → C w' ∧ YF P ro n F k ops C rest ((d, .pointer (some ⟨w.heap.size, 0, none⟩)) :: e) w') :
    YF P ro n F k ops C (⟨some d, .alloc t, ty, pos, af, none⟩ :: rest) e w := by
  obtain ⟨h1, h2⟩ := h _ (alloc_chg _ _) (by simp) (alloc_blk w z.cells t)
  exact yf_eff (w' := w.alloc (.cells z.cells t)) rfl hd (fun a hf => by
    cases hi : P.info? t with
    | none => simp [hi] at hz
    | some i =>
      simp [hi] at hz
      simp only [execOp]
      simp [Instr.alloc, zeroValue, typeInfo, hi, hz, newVar, newRow, go_sem]) h1 h2

theorem yf_store1 (hT : T.Ok P) {t : Nat} {x y : Operand} {b i : Nat} {cs : List Value} {bt : TypeId} {v : Value} {ty : TypeId} {pos : String} {af : Array Edge}
    (hx : opv e x = some (.pointer (some ⟨b, i, none⟩))) (hy : opv e y = some v) (h1 : has T.one t = true) (hv : oneV v = true) (hb : Blk w b cs bt) (hi : i < cs.length)
    (h : ∀ w', Chg [b] w w' → w'.heap.size = w.heap.size → Blk w' b (cs.set i v) bt → C w' ∧ YF P ro n F k ops C rest e w') :
    YF P ro n F k ops C (⟨none, .store t x y, ty, pos, af, none⟩ :: rest) e w := by
  obtain ⟨h3, h4⟩ := h (upd w b (.cells (cs.set i v).toArray bt (0, 0))) (upd_chg _ _ _) (upd_size _ _ _) (upd_blk hb.lt)
  exact yf_do rfl (fun a hf => by
    have e1 := hf.op hx
    have e2 := hf.op hy
    obtain ⟨_, r2⟩ := one_run hT h1 w
    have hc := hb.cell i
    rw [List.getElem?_eq_getElem hi] at hc
    have hfr := hb.frozen i
    have hcells : v.cells = #[v] := by cases v <;> first | (simp [oneV] at hv; done) | rfl
    rw [← setCell_blk hb]
    simp only [execOp, e1, e2]
    cases v <;> first | (simp [oneV] at hv; done) | simp [Instr.storeAt, Instr.sureAddr, storeVar, r2, hcells, storeCells, store, Sem.run, hc, hfr, Addr.add_zero']) h3 h4

/-! Conditions -/

theorem y_if {c : Operand} {x y : Code} {p : Prop} [Decidable p] (hc : opv e c = some (.bool (decide p))) (ht : p → Y P ro n F (.code x :: k) e w) (hf : ¬p → Y P ro n F (.code y :: k) e w) :
    Y P ro n F (.code (.cond c x y) :: k) e w := y_cond hc (fun h => ht (of_decide_eq_true h)) (fun h => hf (of_decide_eq_false h))

theorem y_ifn {c : Operand} {x y : Code} {p : Prop} [Decidable p] (hc : opv e c = some (.bool (!decide p))) (ht : ¬p → Y P ro n F (.code x :: k) e w) (hf : p → Y P ro n F (.code y :: k) e w) :
    Y P ro n F (.code (.cond c x y) :: k) e w := y_cond hc (fun h => ht (by simpa using h)) (fun h => hf (by simpa using h))


/-! What stands next: each fails at once where it does not fit. -/

theorem is_lv {d : Nat} {op : Op} {ty : TypeId} {pos : String} {af : Array Edge} (h : YL P ro n F k ops (⟨some d, op, ty, pos, af, none⟩ :: rest) e w) : YL P ro n F k ops (⟨some d, op, ty, pos, af, none⟩ :: rest) e w := h
theorem is_lg {d : Option Nat} {op : Op} {ty : TypeId} {pos : String} {af : Array Edge} {g : Nat × Bool} (h : YL P ro n F k ops (⟨d, op, ty, pos, af, some g⟩ :: rest) e w) : YL P ro n F k ops (⟨d, op, ty, pos, af, some g⟩ :: rest) e w := h
theorem is_fv {d : Nat} {op : Op} {ty : TypeId} {pos : String} {af : Array Edge} (h : YF P ro n F k ops C (⟨some d, op, ty, pos, af, none⟩ :: rest) e w) : YF P ro n F k ops C (⟨some d, op, ty, pos, af, none⟩ :: rest) e w := h
theorem is_fg {d : Option Nat} {op : Op} {ty : TypeId} {pos : String} {af : Array Edge} {g : Nat × Bool} (h : YF P ro n F k ops C (⟨d, op, ty, pos, af, some g⟩ :: rest) e w) : YF P ro n F k ops C (⟨d, op, ty, pos, af, some g⟩ :: rest) e w := h
theorem is_c {c : Code} (h : Y P ro n F (.code c :: k) e w) : Y P ro n F (.code c :: k) e w := h
theorem is_cond {c : Operand} {x y : Code} (h : Y P ro n F (.code (.cond c x y) :: k) e w) : Y P ro n F (.code (.cond c x y) :: k) e w := h
theorem is_exit {id : Nat} (h : Y P ro n F (.code (.exit id) :: k) e w) : Y P ro n F (.code (.exit id) :: k) e w := h

/-! Loads out of blocks of our own -/


theorem yl_isload {d t : Nat} {x : Operand} {ty : TypeId} {pos : String} {af : Array Edge} (h : YL P ro n F k ops (⟨some d, .load t x, ty, pos, af, none⟩ :: rest) e w) : YL P ro n F k ops (⟨some d, .load t x, ty, pos, af, none⟩ :: rest) e w := h
theorem yf_isload {d t : Nat} {x : Operand} {ty : TypeId} {pos : String} {af : Array Edge} (h : YF P ro n F k ops C (⟨some d, .load t x, ty, pos, af, none⟩ :: rest) e w) : YF P ro n F k ops C (⟨some d, .load t x, ty, pos, af, none⟩ :: rest) e w := h


theorem yl_loadB (hT : T.Ok P) {d t : Nat} {x : Operand} {b i : Nat} {cs : List Value} {bt : TypeId} {v : Value} {ty : TypeId} {pos : String} {af : Array Edge}
    (hx : opv e x = some (.pointer (some ⟨b, i, none⟩))) (h1 : has T.one t = true) (hd : Nat.blt d n = true) (hb : Blk w b cs bt) (hv : cs[i]? = some v)
    (h : YL P ro n F k ops rest ((d, v) :: e) w) : YL P ro n F k ops (⟨some d, .load t x, ty, pos, af, none⟩ :: rest) e w :=
  yl_load1 hT hx h1 hd ((hb.cell i).trans hv) h

theorem yl_loadAB (hT : T.Ok P) {d t m : Nat} {x : Operand} {b i : Nat} {cs us : List Value} {bt : TypeId} {ty : TypeId} {pos : String} {af : Array Edge}
    (hx : opv e x = some (.pointer (some ⟨b, i, none⟩))) (h1 : find1 T.agg t = some m) (hd : Nat.blt d n = true) (hb : Blk w b cs bt) (hu : (cs.drop i).take m = us) (hl : us.length = m)
    (h : YL P ro n F k ops rest ((d, .agg us.toArray) :: e) w) : YL P ro n F k ops (⟨some d, .load t x, ty, pos, af, none⟩ :: rest) e w :=
  yl_loadA hT hx h1 hd hl (fun j hj => by
    rw [hb.cell, ← hu, List.getElem?_take, if_pos hj, List.getElem?_drop]) h

theorem yf_loadB {N : List Nat} {w1 : World} (hT : T.Ok P) {d t : Nat} {x : Operand} {b i : Nat} {cs : List Value} {bt : TypeId} {v : Value} {ty : TypeId} {pos : String} {af : Array Edge}
    (hx : opv e x = some (.pointer (some ⟨b, i, none⟩))) (h1 : has T.one t = true) (hd : Nat.blt d n = true) (hb : Blk w1 b cs bt) (hN : b ∉ N) (hv : cs[i]? = some v)
    (h : YF P ro n F k ops (Chg N w1) rest ((d, v) :: e) w) : YF P ro n F k ops (Chg N w1) (⟨some d, .load t x, ty, pos, af, none⟩ :: rest) e w :=
  yf_load1 hT hx h1 hd (fun _ hw' => ((hb.chg hw' hN).cell i).trans hv) h

theorem yf_loadAB {N : List Nat} {w1 : World} (hT : T.Ok P) {d t m : Nat} {x : Operand} {b i : Nat} {cs us : List Value} {bt : TypeId} {ty : TypeId} {pos : String} {af : Array Edge}
    (hx : opv e x = some (.pointer (some ⟨b, i, none⟩))) (h1 : find1 T.agg t = some m) (hd : Nat.blt d n = true) (hb : Blk w1 b cs bt) (hN : b ∉ N) (hu : (cs.drop i).take m = us) (hl : us.length = m)
    (h : YF P ro n F k ops (Chg N w1) rest ((d, .agg us.toArray) :: e) w) : YF P ro n F k ops (Chg N w1) (⟨some d, .load t x, ty, pos, af, none⟩ :: rest) e w :=
  yf_loadA hT hx h1 hd hl (fun _ hw' j hj => by
    rw [(hb.chg hw' hN).cell, ← hu, List.getElem?_take, if_pos hj, List.getElem?_drop]) h

theorem Rd.cell {w : World} {lo hi : Nat} {b off cap m : Nat} {size : Nat} {cs : List Value} {v : Value} (h : Rd w lo hi v size m cs) (hv : v = .slice (some ⟨b, off, none⟩) m cap) (j : Nat) (hj : j < cs.length) : w.cell? ⟨b, off + j, none⟩ = cs[j]? := by
  obtain ⟨_, ⟨rfl, _⟩ | ⟨b', off', cap', rfl, _, hc⟩⟩ := h
  · cases hv
  · cases hv
    exact hc j hj

end
end Go.Eng
