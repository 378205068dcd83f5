/- The engine, part 7: scopes, arrays, storing a struct, comparing with nil. -/
import Derived.Test.YtmbifbippnncoaaA6
import Derived.Scope
import Derived.WalkSpells
namespace Go.Eng
open Go Go.RowKit

section
variable {P : Program} {T : Tab} {ops : Array Oper} {C : World → Prop}
variable {ro : Cx} {n : Nat} {F : Fin} {k : List It} {l rest : List Oper} {e : Env} {w : World} {o : Oper}

theorem S_goto_inv {r : Option Nat} {k : List It} {l : Nat} {a : Act} {w : World} (h : S P r F k (.goto l) a w) : F (.goto l) a w := by
  induction k with
  | nil => exact h
  | cons i k ih => cases i <;> exact ih h

theorem y_scope {c : Code} (hF : ∀ l a w, ¬ F (.goto l) a w) {ds : List Deferred} (h : Y P ⟨none, ds⟩ n F (.code c :: k) e w) : Y P ⟨none, ds⟩ n F (.code (.scope c) :: k) e w := fun a hf hd => by
  have h1 : c.wpIn (FR none) 0 P (S P none F k) a w := h a hf hd
  refine (wpIn_wide (n := 0)).2 (wp_scope_straight (Code.wp_mono ?_ ((wpIn_wide (n := 0)).1 h1)))
  intro x a w hx
  cases x <;> first | exact hx | exact hF _ _ _ (S_goto_inv hx)

theorem fin_goto {fn : Func} {R : Value → World → Prop} (l : Nat) (a : Act) (w : World) : ¬ fin P fn R (.goto l) a w := fun h => h

/-- An array's element. -/
def arrB (P : Program) (t len et sz : Nat) : Bool :=
  (match P.underlying t with | some (.array n e') => Nat.beq n len && Nat.beq e' et | _ => false) && (match P.info? et with | some i => Nat.beq i.size sz | none => false)

theorem run_indexA {t len et sz : Nat} (h : arrB P t len et sz = true) {b off : Nat} {ik : IntKind} {i : Int} (h0 : 0 ≤ i) (h1 : i < len) (w : World) :
    (Instr.indexAt t (.pointer (some ⟨b, off, none⟩)) (.int ik i)).run P w = .ok (.pointer (some ⟨b, off + i.toNat * sz, none⟩)) w := by
  simp only [arrB, Bool.and_eq_true] at h
  obtain ⟨ha, hb⟩ := h
  split at ha
  · rename_i m e' hu
    simp only [Bool.and_eq_true] at ha
    have e1 := Nat.eq_of_beq_eq_true ha.1
    have e2 := Nat.eq_of_beq_eq_true ha.2
    subst e1; subst e2
    split at hb
    · rename_i inf hinf
      have hsz := Nat.eq_of_beq_eq_true hb
      simp [Instr.indexAt, asIntOf, Instr.sureAddr, run_underlying hu, h0, h1, sizeOf, typeInfo, hinf, hsz, Addr.add_lit]
    · cases hb
  · cases ha

theorem yl_indexA {d t et sz len : Nat} {x ix : Operand} {b off : Nat} {ik : IntKind} {i : Int} {ty : TypeId} {pos : String} {af : Array Edge} (hA : arrB P t len et sz = true)
    (hx : opv e x = some (.pointer (some ⟨b, off, none⟩))) (hi : opv e ix = some (.int ik i)) (hd : Nat.blt d n = true) (h0 : 0 ≤ i) (h1 : i < len)
    (h : YL P ro n F k ops rest ((d, .pointer (some ⟨b, off + i.toNat * sz, none⟩)) :: e) w) : YL P ro n F k ops (⟨some d, .indexAddr t x ix, ty, pos, af, none⟩ :: rest) e w :=
  yl_val (by simp) hd (fun a hf => by
    simp only [execOp, hf.op hx, hf.op hi]
    simp [run_indexA hA h0 h1 w]) h

theorem yf_indexA {d t et sz len : Nat} {x ix : Operand} {b off : Nat} {ik : IntKind} {i : Int} {ty : TypeId} {pos : String} {af : Array Edge} (hA : arrB P t len et sz = true)
    (hx : opv e x = some (.pointer (some ⟨b, off, none⟩))) (hi : opv e ix = some (.int ik i)) (hd : Nat.blt d n = true) (h0 : 0 ≤ i) (h1 : i < len)
    (h : YF P ro n F k ops C rest ((d, .pointer (some ⟨b, off + i.toNat * sz, none⟩)) :: e) w) : YF P ro n F k ops C (⟨some d, .indexAddr t x ix, ty, pos, af, none⟩ :: rest) e w :=
  yf_quiet rfl hd (fun a hf w' _ => by
    simp only [execOp, hf.op hx, hf.op hi]
    simp [run_indexA hA h0 h1 w']) h

/-! Storing several cells -/

def setL (cs : List Value) (i : Nat) : List Value → List Value
  | [] => cs
  | u :: us => setL (cs.set i u) (i + 1) us

theorem setL_length (us : List Value) : ∀ (cs : List Value) (i : Nat), (setL cs i us).length = cs.length := by
  induction us with
  | nil => intro cs i; rfl
  | cons u us ih => intro cs i; simp [setL, ih]

theorem upd_upd (w : World) (b : Nat) (o o' : Obj) : upd (upd w b o) b o' = upd w b o' := by
  simp only [upd]
  congr 1
  apply Array.ext_getElem?
  intro j
  by_cases h : b = j
  · subst h
    by_cases hlt : b < w.heap.size <;> simp [hlt]
  · simp [Array.getElem?_setIfInBounds_ne h]

theorem upd_same {w : World} {b : Nat} {cs : List Value} {t : TypeId} (h : Blk w b cs t) : upd w b (.cells cs.toArray t (0, 0)) = w := by
  have hlt := h.lt
  unfold Blk at h
  have : w.heap.setIfInBounds b (.cells cs.toArray t (0, 0)) = w.heap := by
    apply Array.ext_getElem?
    intro j
    by_cases hj : b = j
    · subst hj
      have h2 := (Array.getElem?_eq_some_iff.1 h).2
      simp [hlt, h2]
    · simp [Array.getElem?_setIfInBounds_ne hj]
  simp only [upd, this]

theorem storeCells_run (b off : Nat) (bt : TypeId) : ∀ (us : List Value) (i : Nat) (cs : List Value) (w : World), Blk w b cs bt → off + i + us.length ≤ cs.length → (∀ u ∈ us, oneV u = true) →
    (storeCells ⟨b, off, none⟩ us i).run P w = .ok () (upd w b (.cells (setL cs (off + i) us).toArray bt (0, 0)))
  | [], i, cs, w, hb, hl, h1 => by
    simp only [storeCells, setL]
    rw [upd_same hb]
    rfl
  | u :: us, i, cs, w, hb, hl, h1 => by
    have hu := h1 u List.mem_cons_self
    simp only [List.length_cons] at hl
    have hi : off + i < cs.length := by omega
    have hc := hb.cell (off + i)
    rw [List.getElem?_eq_getElem hi] at hc
    have hfr := hb.frozen (off + i)
    have ih := storeCells_run b off bt us (i + 1) (cs.set (off + i) u) (upd w b (.cells (cs.set (off + i) u).toArray bt (0, 0))) (upd_blk hb.lt) (by simp; omega) (fun u' hu' => h1 u' (List.mem_cons_of_mem _ hu'))
    rw [upd_upd] at ih
    simp only [storeCells, setL]
    have hst : (store ((⟨b, off, none⟩ : Addr).add i) u).run P w = .ok () (upd w b (.cells (cs.set (off + i) u).toArray bt (0, 0))) := by
      rw [Addr.add_lit, ← setCell_blk hb]
      cases u <;> first | (simp [oneV] at hu; done) | simp [store, Sem.run, hc, hfr]
    simp [hst, ih, Nat.add_assoc]

theorem run_storeA (hT : T.Ok P) {t m : Nat} (h1 : find1 T.agg t = some m) {b off : Nat} {cs us : List Value} {bt : TypeId} (hb : Blk w b cs bt) (hl : off + m ≤ cs.length) (hm : us.length = m) (h1v : ∀ u ∈ us, oneV u = true) :
    (Instr.storeAt t (.pointer (some ⟨b, off, none⟩)) (.agg us.toArray)).run P w = .ok () (upd w b (.cells (setL cs off us).toArray bt (0, 0))) := by
  obtain ⟨_, r2⟩ := agg_run hT h1 w
  have h2 := storeCells_run (P := P) b off bt us 0 cs w hb (by omega) h1v
  simp [Instr.storeAt, Instr.sureAddr, storeVar, r2, Value.cells, hm, h2]

theorem yl_storeA (hT : T.Ok P) {t m : Nat} {x y : Operand} {b off : Nat} {cs us : List Value} {bt : TypeId} {ty : TypeId} {pos : String} {af : Array Edge}
    (hx : opv e x = some (.pointer (some ⟨b, off, none⟩))) (hy : opv e y = some (.agg us.toArray)) (h1 : find1 T.agg t = some m) (hm : us.length = m) (h1v : ∀ u ∈ us, oneV u = true) (hb : Blk w b cs bt) (hl : off + m ≤ cs.length)
    (h : ∀ w', Chg [b] w w' → w'.heap.size = w.heap.size → Blk w' b (setL cs off us) bt → YL P ro n F k ops rest e w') :
    YL P ro n F k ops (⟨none, .store t x y, ty, pos, af, none⟩ :: rest) e w :=
  yl_do (by simp) (fun a hf => by
    simp only [execOp, hf.op hx, hf.op hy]
    simp [run_storeA hT h1 hb hl hm h1v]) (h _ (upd_chg _ _ _) (upd_size _ _ _) (upd_blk hb.lt))

theorem yf_storeA (hT : T.Ok P) {t m : Nat} {x y : Operand} {b off : Nat} {cs us : List Value} {bt : TypeId} {ty : TypeId} {pos : String} {af : Array Edge}
    (hx : opv e x = some (.pointer (some ⟨b, off, none⟩))) (hy : opv e y = some (.agg us.toArray)) (h1 : find1 T.agg t = some m) (hm : us.length = m) (h1v : ∀ u ∈ us, oneV u = true) (hb : Blk w b cs bt) (hl : off + m ≤ cs.length)
    (h : ∀ w', Chg [b] w w' → w'.heap.size = w.heap.size → Blk w' b (setL cs off us) bt → C w' ∧ YF P ro n F k ops C rest e w') :
    YF P ro n F k ops C (⟨none, .store t x y, ty, pos, af, none⟩ :: rest) e w := by
  obtain ⟨h3, h4⟩ := h _ (upd_chg _ _ _) (upd_size _ _ _) (upd_blk hb.lt)
  exact yf_do rfl (fun a hf => by
    simp only [execOp, hf.op hx, hf.op hy]
    simp [run_storeA hT h1 hb hl hm h1v]) h3 h4

/-- A slice against nil. -/
theorem len_slice {t : Nat} (hT : T.Ok P) (h : has T.len t = true) : ∃ el, P.underlying t = some (.slice el) := by
  have hl := hT.len _ h
  simp only [lenB] at hl
  split at hl
  · rename_i el hu; exact ⟨el, hu⟩
  · cases hl

theorem yl_eqnil (hT : T.Ok P) {d t t' : Nat} {x y : Operand} {a : Option Addr} {m c m' c' : Nat} {ty : TypeId} {pos : String} {af : Array Edge} (h : has T.len t = true)
    (hx : opv e x = some (.slice a m c)) (hy : opv e y = some (.slice none m' c')) (hd : Nat.blt d n = true)
    (hk : YL P ro n F k ops rest ((d, .bool a.isNone) :: e) w) : YL P ro n F k ops (⟨some d, .binOp .eql t x y t', ty, pos, af, none⟩ :: rest) e w :=
  yl_val (by simp) hd (fun ac hf => by
    obtain ⟨el, hu⟩ := len_slice hT h
    simp only [execOp, hf.op hx, hf.op hy]
    simp [eqGuard_at_slice, Lib.run_eql_slice_nil w t el a m c m' c' hu]) hk

theorem yl_neqnil (hT : T.Ok P) {d t t' : Nat} {x y : Operand} {a : Option Addr} {m c m' c' : Nat} {ty : TypeId} {pos : String} {af : Array Edge} (h : has T.len t = true)
    (hx : opv e x = some (.slice a m c)) (hy : opv e y = some (.slice none m' c')) (hd : Nat.blt d n = true)
    (hk : YL P ro n F k ops rest ((d, .bool (!a.isNone)) :: e) w) : YL P ro n F k ops (⟨some d, .binOp .neq t x y t', ty, pos, af, none⟩ :: rest) e w :=
  yl_val (by simp) hd (fun ac hf => by
    obtain ⟨el, hu⟩ := len_slice hT h
    simp only [execOp, hf.op hx, hf.op hy]
    simp [eqGuard_at_slice, Go.run_neq_slice_nil_any w t el a m c m' c' hu]) hk

end
end Go.Eng
