/- The engine, part 8: structs and slices that are built, by the program's own table; append in regions that draw. -/
import Derived.Test.YtmbifbippnncoaaA7
import Derived.Great.BuildSlice
import Derived.KernelRfl
namespace Go.Eng
open Go Go.RowKit
variable {P : Program} {T : Tab}

/-- What a slice literal holds. -/
def builtS (P : Program) (t len : Nat) (parts : List (Nat × Value)) : Option (Nat × Array Value) :=
  match P.underlying t with
  | some (.slice e) => match P.info? e with
    | some ie => match ie.zero with
      | some z => bif Nat.ble (len * ie.size) 16777216 && !(Nat.beq (len * ie.size) 0) then
          (Instr.fill (fun i => some (i * ie.size, ie.size)) ((Array.range (len * ie.size)).map (z.cells[· % z.cells.size]!)) parts).map (fun c => (e, c)) else none
      | none => none
    | none => none
  | _ => none

theorem builtS_run {t len e : Nat} {parts : List (Nat × Value)} {cells : Array Value} (h : builtS P t len parts = some (e, cells)) (w : World) :
    (Instr.buildSlice t len parts.toArray).run P w = .ok (.slice (some ⟨w.heap.size, 0, none⟩) len len) (w.alloc (.cells cells e)) := by
  unfold builtS at h
  split at h
  · rename_i e' hu
    split at h
    · rename_i ie hie
      split at h
      · rename_i z hz
        cases hc : (Nat.ble (len * ie.size) 16777216 && !(Nat.beq (len * ie.size) 0)) with
        | false => simp [hc] at h
        | true =>
          simp only [hc, cond_true] at h
          simp only [Bool.and_eq_true, Bool.not_eq_true', Nat.ble_eq] at hc
          cases hf : Instr.fill (fun i => some (i * ie.size, ie.size)) ((Array.range (len * ie.size)).map (z.cells[· % z.cells.size]!)) parts with
          | none => simp [hf] at h
          | some c =>
            simp [hf] at h
            obtain ⟨rfl, rfl⟩ := h
            refine run_buildSlice w t e' len parts.toArray c ie z hu hie hz (by omega) (fun h0 => ?_) hf
            rw [h0] at hc
            simp at hc
      · cases h
    · cases h
  · cases h

section
variable {ro : Cx} {n : Nat} {F : Fin} {k : List It} {ops : Array Oper} {l rest : List Oper} {e : Env} {w : World}

theorem yl_mk {d t : Nat} {parts : List (Nat × Operand)} {us : List Value} (cells : Array Value) {ty : TypeId} {pos : String} {af : Array Edge}
    (hp : opvs e (parts.map (·.2)) = some us) (hb : P.built t ((parts.map (·.1)).zip us) = some cells) (hd : Nat.blt d n = true)
    (h : YL P ro n F k ops rest ((d, .agg cells) :: e) w) : YL P ro n F k ops (⟨some d, .build t parts.toArray, ty, pos, af, none⟩ :: rest) e w :=
  yl_build hp (fun w => run_build w t _ cells hb) hd h

theorem yl_mkS {d t len : Nat} {parts : List (Nat × Operand)} {us : List Value} (et : Nat) (cs : List Value) {ty : TypeId} {pos : String} {af : Array Edge}
    (hp : opvs e (parts.map (·.2)) = some us) (hb : builtS P t len ((parts.map (·.1)).zip us) = some (et, cs.toArray)) (hd : Nat.blt d n = true)
    (h : ∀ w', Chg [] w w' → w'.heap.size = w.heap.size + 1 → Blk w' w.heap.size cs et → YL P ro n F k ops rest ((d, .slice (some ⟨w.heap.size, 0, none⟩) len len) :: e) w') :
    YL P ro n F k ops (⟨some d, .buildSlice t len parts.toArray, ty, pos, af, none⟩ :: rest) e w :=
  yl_buildSlice hp (fun w => builtS_run hb w) hd h

variable {C : World → Prop}

theorem yf_mk {d t : Nat} {parts : List (Nat × Operand)} {us : List Value} (cells : Array Value) {ty : TypeId} {pos : String} {af : Array Edge}
    (hp : opvs e (parts.map (·.2)) = some us) (hb : P.built t ((parts.map (·.1)).zip us) = some cells) (hd : Nat.blt d n = true)
    (h : YF P ro n F k ops C rest ((d, .agg cells) :: e) w) : YF P ro n F k ops C (⟨some d, .build t parts.toArray, ty, pos, af, none⟩ :: rest) e w :=
  yf_build hp (fun w => run_build w t _ cells hb) hd h

theorem yf_mkS {d t len : Nat} {parts : List (Nat × Operand)} {us : List Value} (et : Nat) (cs : List Value) {ty : TypeId} {pos : String} {af : Array Edge}
    (hp : opvs e (parts.map (·.2)) = some us) (hb : builtS P t len ((parts.map (·.1)).zip us) = some (et, cs.toArray)) (hd : Nat.blt d n = true)
    (h : ∀ w', Chg [] w w' → w'.heap.size = w.heap.size + 1 → Blk w' w.heap.size cs et → C w' ∧ YF P ro n F k ops C rest ((d, .slice (some ⟨w.heap.size, 0, none⟩) len len) :: e) w') :
    YF P ro n F k ops C (⟨some d, .buildSlice t len parts.toArray, ty, pos, af, none⟩ :: rest) e w := by
  obtain ⟨h1, h2⟩ := h _ (alloc_chg _ _) (by simp) (alloc_blk w cs.toArray et)
  refine yf_eff rfl hd (fun a hf => ?_) h1 h2
  have e1 := hf.ops hp
  have e2 : (parts.toArray.map fun (x : Nat × Operand) => (x.1, a.eval x.2)) = ((parts.map (·.1)).zip us).toArray := by
    rw [← e1]
    simp only [List.map_toArray]
    congr 1
    clear hp hb h h1 h2 e1
    induction parts with
    | nil => rfl
    | cons p ps ih => simp [ih]
  simp only [execOp]
  rw [e2]
  simp [builtS_run hb w]

/-- append to a slice of our own, in a region that draws. -/
theorem yf_append {d t et size bytes : Nat} {z : Value} (hS : SlT P t et size bytes z) {x y : Operand} {v u : Value} {base m : Nat} {xs news : List Value} {q lo hi : Nat} {ty : TypeId} {pos : String} {af : Array Edge}
    (hx : opv e x = some v) (hy : opv e y = some u) (hd : Nat.blt d n = true) (hown : w.ownsRow base et size v m xs) (hrd : Rd w lo hi u size q news) (h1 : ∀ c ∈ news, oneV c = true)
    (hm : (m + q) * bytes ≤ 140737488355328) (hm2 : m + q ≤ 140737488355328) (hbase : base ≤ w.heap.size)
    (h : ∀ v' w', w'.ownsRow base et size v' (m + q) (xs ++ news) → Chg v.ownBlock.toList w w' → (v' = .slice none 0 0 ↔ v = .slice none 0 0 ∧ q = 0) → C w' ∧ YF P ro n F k ops C rest ((d, v') :: e) w') :
    YF P ro n F k ops C (⟨some d, .call { callee := .builtin .append, args := [x, y].toArray, argTypes := [t, t].toArray }, ty, pos, af, none⟩ :: rest) e w := by
  obtain ⟨ht, hi', hzs, hsz⟩ := hS
  cases hinf : P.info? et with
  | none => simp [hinf] at hi'
  | some i =>
    simp [hinf] at hi'
    obtain ⟨hz, hsize, hby⟩ := hi'
    obtain ⟨hl, hr⟩ := hrd
    rcases hr with ⟨rfl, rfl⟩ | ⟨b, off, cap, rfl, _, hc⟩
    · have hrun := run_append_owned_none (P := P) (w := w) base t ty et i size ht hinf v m xs hown
      obtain ⟨hC, hY⟩ := h v w (by
        have : news = [] := by simpa using hl
        subst this
        simpa using hown) (Chg.refl _ _) (by simp)
      refine yf_eff (w' := w) rfl hd (fun a hf => ?_) hC hY
      have e1 := hf.op hx
      have e2 := hf.op hy
      simp [execOp, resolve, invoke, builtin, e1, e2, hrun]
    · have hone : ∀ c ∈ news, c.oneCell' = true := fun c hc' => by
        have := h1 c hc'
        cases c <;> first | rfl | simp [oneV] at this
      obtain ⟨v', w', hrun, hown', hg, hnil⟩ := run_append_own (P := P) w base t ty et i z size bytes ht hinf hz hsize hby hzs hsz v m xs hown ⟨b, off, none⟩ q cap news hl
        (fun j c hj => by
          have hjl := (List.getElem?_eq_some_iff.1 hj).1
          rw [Addr.add_lit, hc j hjl, hj]) hone (by simp only [maxLen]; omega) hm hbase
      obtain ⟨hC, hY⟩ := h v' w' hown' (grown_chg hg) hnil
      refine yf_eff (w' := w') rfl hd (fun a hf => ?_) hC hY
      have e1 := hf.op hx
      have e2 := hf.op hy
      simp [execOp, resolve, invoke, builtin, e1, e2, hrun]

/-- A block of our own of another type is not the one that a slice of our own lies in. -/
theorem own_ne {w : World} {base et sz : Nat} {v : Value} {m : Nat} {xs cs : List Value} {b t : Nat} (h : w.ownsRow base et sz v m xs) (hb : Blk w b cs t) (ht : t ≠ et) : v.ownBlock ≠ some b := by
  rintro he
  rcases h.2 with ⟨rfl, _⟩ | ⟨g, cap, cur, rfl, _, hh, _⟩
  · cases he
  · cases he
    have h1 := hb
    simp only [Blk] at h1
    rw [h1] at hh
    cases hh
    exact ht rfl

theorem own_blk_ne {w : World} {base et sz : Nat} {v : Value} {m : Nat} {xs cs : List Value} {b t : Nat} (h : w.ownsRow base et sz v m xs) (hb : Blk w b cs t) (ht : t ≠ et) : b ∉ v.ownBlock.toList := by
  have := own_ne h hb ht
  cases hv : v.ownBlock with
  | none => simp
  | some g => rw [hv] at this; simp; exact fun e => this (by rw [e])

theorem own_nil (w : World) (base e size : Nat) : w.ownsRow base e size (.slice none 0 0) 0 [] := ⟨by simp, .inl ⟨rfl, rfl⟩⟩

theorem blk_rd {w : World} {b t : Nat} {cs : List Value} (h : Blk w b cs t) {sz m cap : Nat} (hl : cs.length = m * sz) : Rd w b (b + 1) (.slice (some ⟨b, 0, none⟩) m cap) sz m cs :=
  ⟨hl, .inr ⟨b, 0, cap, rfl, fun _ => ⟨Nat.le_refl _, by omega, h.lt⟩, fun j _ => by rw [Nat.zero_add]; exact h.cell j⟩⟩

theorem run_loadAB (hT : T.Ok P) {t m : Nat} {b : Nat} {us : List Value} {bt : TypeId} (h1 : find1 T.agg t = some m) (hb : Blk w b us bt) (hl : us.length = m) :
    (loadVar t ⟨b, 0, none⟩).run P w = .ok (.agg us.toArray) w := by
  obtain ⟨r1, r2⟩ := agg_run hT h1 w
  have r3 := loadCellsFrom_run (P := P) w ⟨b, 0, none⟩ m 0 #[] us hl (fun j hj => by rw [Nat.zero_add, Addr.add_lit, hb.cell, Nat.zero_add])
  simp [loadVar, loadCells, r1, r2, r3]

/-- Two results, the first one of which lies in a variable. -/
theorem y_finC (hT : T.Ok P) {r : Option Nat} {fn : Func} {R : Value → World → Prop} {t s ty m b : Nat} {us : List Value} {bt : TypeId} {u : Value} (hres : fn.results = #[.cell t ty, .tmp s]) (hv : look e t = some (.pointer (some ⟨b, 0, none⟩))) (hu : look e s = some u)
    (h1 : find1 T.agg ty = some m) (hb : Blk w b us bt) (hl : us.length = m) (hR : R (.tuple #[.agg us.toArray, u]) w) : Y P ⟨r, []⟩ n (fun _ => fin P fn R .ret) [] e w :=
  y_fin (fun a hf => by
    have e1 := hf.at_ _ _ hv
    have e2 := hf.at_ _ _ hu
    have e3 := run_loadAB (P := P) hT h1 hb hl
    simp only [Array.getD_eq_getD_getElem?] at e1 e2
    simp [results, hres, e1, e2, asAddr, e3]) hR

end
end Go.Eng
