/- The engine, part 4: slices, division, structs. -/
import Derived.Test.YtmbifbippnncoaaA3
import Derived.Laws.OwnMore
import Derived.OwnWalk
namespace Go.Eng
open Go Go.RowKit

/-- A slice of n elements that can be read: its cells; the block that they lie in is from lo on, and below hi. -/
def Rd (w : World) (lo hi : Nat) (v : Value) (size n : Nat) (cs : List Value) : Prop :=
  cs.length = n * size ∧ ((v = .slice none 0 0 ∧ n = 0) ∨
    ∃ b off cap, v = .slice (some ⟨b, off, none⟩) n cap ∧ (0 < cs.length → lo ≤ b ∧ b < hi ∧ b < w.heap.size) ∧ ∀ j, j < cs.length → w.cell? ⟨b, off + j, none⟩ = cs[j]?)

theorem Rd.chg {w w' : World} {lo hi : Nat} {v : Value} {size n : Nat} {cs : List Value} {N : List Nat} (h : Rd w lo hi v size n cs) (c : Chg N w w') (hN : ∀ k ∈ N, k < lo ∨ hi ≤ k) : Rd w' lo hi v size n cs := by
  obtain ⟨h1, h2⟩ := h
  refine ⟨h1, ?_⟩
  rcases h2 with h2 | ⟨b, off, cap, hv, hb, hc⟩
  · exact .inl h2
  · refine .inr ⟨b, off, cap, hv, fun hp => ⟨(hb hp).1, (hb hp).2.1, Nat.lt_of_lt_of_le (hb hp).2.2 c.size⟩, fun j hj => ?_⟩
    have hb' := hb (by omega)
    have hbN : b ∉ N := fun hm => by have := hN b hm; omega
    rw [← hc j hj]
    exact World.cell?_of_block (w := w) (c.block b hb'.2.2 hbN)

theorem Rd.keep {w w' : World} {lo hi : Nat} {v : Value} {size n : Nat} {cs : List Value} (h : Rd w lo hi v size n cs) (c : Chg [] w w') : Rd w' lo hi v size n cs := h.chg c (by simp)

theorem Rd.below {w w' : World} {hi B : Nat} {lo : Nat} {v : Value} {size n : Nat} {cs : List Value} (h : Rd w lo hi v size n cs) (c : Below B w w') (hB : hi ≤ B) : Rd w' lo hi v size n cs := by
  obtain ⟨h1, h2⟩ := h
  refine ⟨h1, ?_⟩
  rcases h2 with h2 | ⟨b, off, cap, hv, hb, hc⟩
  · exact .inl h2
  · refine .inr ⟨b, off, cap, hv, fun hp => ⟨(hb hp).1, (hb hp).2.1, Nat.lt_of_lt_of_le (hb hp).2.2 c.size⟩, fun j hj => ?_⟩
    have hb' := hb (by omega)
    rw [← hc j hj]
    exact World.cell?_of_block (w := w) (c.block b (by omega))

theorem Rd.wide {w : World} {lo hi lo' hi' : Nat} {v : Value} {size n : Nat} {cs : List Value} (h : Rd w lo hi v size n cs) (hl : lo' ≤ lo) (hh : hi ≤ hi') : Rd w lo' hi' v size n cs := by
  obtain ⟨h1, h2⟩ := h
  refine ⟨h1, ?_⟩
  rcases h2 with h2 | ⟨b, off, cap, hv, hb, hc⟩
  · exact .inl h2
  · exact .inr ⟨b, off, cap, hv, fun hp => ⟨by have := (hb hp).1; omega, by have := (hb hp).2.1; omega, (hb hp).2.2⟩, hc⟩

/-- The value of a readable slice, written out. -/
theorem Rd.out {w : World} {lo hi : Nat} {v : Value} {size n : Nat} {cs : List Value} (h : Rd w lo hi v size n cs) :
    ∃ a cap, v = .slice a n cap ∧ (0 < n → ∃ b off, a = some ⟨b, off, none⟩ ∧ ∀ j, j < cs.length → w.cell? ⟨b, off + j, none⟩ = cs[j]?) := by
  obtain ⟨_, ⟨rfl, rfl⟩ | ⟨b, off, cap, rfl, _, hc⟩⟩ := h
  · exact ⟨none, 0, rfl, fun h => absurd h (by omega)⟩
  · exact ⟨_, cap, rfl, fun _ => ⟨b, off, rfl, hc⟩⟩

/-- A slice of our own: kit's 'ownsRow', by 'Chg'. -/
theorem own_chg {w w' : World} {base : Nat} {e : TypeId} {size : Nat} {v : Value} {n : Nat} {xs : List Value} {N : List Nat} (h : w.ownsRow base e size v n xs) (c : Chg N w w') (hN : ∀ g, v.ownBlock = some g → g ∉ N) : w'.ownsRow base e size v n xs := by
  obtain ⟨h1, h2⟩ := h
  refine ⟨h1, ?_⟩
  rcases h2 with h2 | ⟨g, cap, cur, hv, hg, hh, r⟩
  · exact .inl h2
  · have hlt := (Array.getElem?_eq_some_iff.1 hh).1
    exact .inr ⟨g, cap, cur, hv, hg, by rw [c.block g hlt (hN g (by rw [hv]; rfl))]; exact hh, r⟩

theorem own_rd {w : World} {base : Nat} {e : TypeId} {size : Nat} {v : Value} {n : Nat} {xs : List Value} (h : w.ownsRow base e size v n xs) : Rd w base w.heap.size v size n xs := by
  have hlen := h.1
  refine ⟨hlen, ?_⟩
  rcases h.2 with h2 | ⟨g, cap, cur, hv, hg, hh, hnc, hcm, hcs, ht⟩
  · exact .inl h2
  · have hlt := (Array.getElem?_eq_some_iff.1 hh).1
    subst hv
    refine .inr ⟨g, 0, cap, rfl, fun _ => ⟨hg, hlt, hlt⟩, fun j hj => ?_⟩
    rw [Nat.zero_add]
    exact h.cellAt j (by omega)

theorem grown_chg {w w' : World} {v : Value} (h : w.grownBy w' v.ownBlock) : Chg v.ownBlock.toList w w' :=
  ⟨h.os, h.tape, h.output, h.size, fun k hk hn => h.block k hk (fun e => hn (by rw [← e]; simp))⟩

theorem own_base {w : World} {base base' : Nat} {e : TypeId} {size : Nat} {v : Value} {n : Nat} {xs : List Value} (h : w.ownsRow base e size v n xs) (hb : base' ≤ base) : w.ownsRow base' e size v n xs := by
  obtain ⟨h1, h2⟩ := h
  refine ⟨h1, ?_⟩
  rcases h2 with h2 | ⟨g, cap, cur, hv, hg, hh, r⟩
  · exact .inl h2
  · exact .inr ⟨g, cap, cur, hv, by omega, hh, r⟩

/-- What is known of a slice type. -/
structure SlT (P : Program) (t e size bytes : Nat) (z : Value) : Prop where
  ht : P.underlying t = some (.slice e)
  hi : (P.info? e).map (fun i => (i.zero, i.size, i.bytes)) = some (some z, size, bytes)
  hzs : z.cells.size = size
  hsz : 0 < size

variable {P : Program} {T : Tab}
section
variable {ro : Cx} {n : Nat} {F : Fin} {k : List It} {ops : Array Oper} {l rest : List Oper} {e : Env} {w : World}

/-- The address of an element of a slice. -/
theorem yl_index (hT : T.Ok P) {d t et sz : Nat} {x ix : Operand} {b off len cap : Nat} {ik : IntKind} {i : Int} {ty : TypeId} {pos : String} {af : Array Edge}
    (hx : opv e x = some (.slice (some ⟨b, off, none⟩) len cap)) (hi : opv e ix = some (.int ik i)) (hs : find1 T.esz t = some (et, sz)) (hsl : has T.len t = true) (hd : Nat.blt d n = true) (h0 : 0 ≤ i) (h1 : i < len)
    (h : YL P ro n F k ops rest ((d, .pointer (some ⟨b, off + i.toNat * sz, none⟩)) :: e) w) : YL P ro n F k ops (⟨some d, .indexAddr t x ix, ty, pos, af, none⟩ :: rest) e w :=
  yl_val (by simp) hd (fun a hf => by
    have e1 := hf.op hx
    have e2 := hf.op hi
    have hsz := hT.esz _ _ _ hs
    have hl := hT.len _ hsl
    simp only [eszB, Bool.and_eq_true] at hsz
    simp only [lenB] at hl
    obtain ⟨ha, hb⟩ := hsz
    split at hl
    · rename_i el hu
      rw [hu] at ha
      have he := Nat.eq_of_beq_eq_true ha
      subst he
      split at hb
      · rename_i inf hinf
        have hsz := Nat.eq_of_beq_eq_true hb
        simp only [execOp, e1, e2]
        simp [Instr.indexAt, asIntOf, run_underlying hu, h0, h1, sizeOf, typeInfo, hinf, hsz, Addr.add_lit]
      · cases hb
    · cases hl) h

/-- Quotient and remainder. -/
theorem yl_quo {d t t' : Nat} {x y : Operand} {kd : IntKind} {p q : Int} {ty : TypeId} {pos : String} {af : Array Edge}
    (hx : opv e x = some (.int kd p)) (hy : opv e y = some (.int kd q)) (hq : q ≠ 0) (hd : Nat.blt d n = true)
    (h : YL P ro n F k ops rest ((d, .int kd (kd.wrap (p.tdiv q))) :: e) w) : YL P ro n F k ops (⟨some d, .binOp .quo t x y t', ty, pos, af, none⟩ :: rest) e w :=
  yl_val (by simp) hd (fun a hf => by
    have e1 := hf.op hx
    have e2 := hf.op hy
    simp only [execOp, e1, e2]
    simp [eqGuard, binOp, Op.intDiv, hq]) h

theorem yl_rem {d t t' : Nat} {x y : Operand} {kd : IntKind} {p q : Int} {ty : TypeId} {pos : String} {af : Array Edge}
    (hx : opv e x = some (.int kd p)) (hy : opv e y = some (.int kd q)) (hq : q ≠ 0) (hd : Nat.blt d n = true)
    (h : YL P ro n F k ops rest ((d, .int kd (p.tmod q)) :: e) w) : YL P ro n F k ops (⟨some d, .binOp .rem t x y t', ty, pos, af, none⟩ :: rest) e w :=
  yl_val (by simp) hd (fun a hf => by
    have e1 := hf.op hx
    have e2 := hf.op hy
    simp only [execOp, e1, e2]
    simp [eqGuard, binOp, Op.intDiv, hq]) h

/-- A struct, built of parts. -/
theorem yl_build {d t : Nat} {parts : List (Nat × Operand)} {v : Value} {us : List Value} {ty : TypeId} {pos : String} {af : Array Edge}
    (hp : opvs e (parts.map (·.2)) = some us) (hb : ∀ w, (Instr.build t ((parts.map (·.1)).zip us).toArray).run P w = .ok v w) (hd : Nat.blt d n = true)
    (h : YL P ro n F k ops rest ((d, v) :: e) w) : YL P ro n F k ops (⟨some d, .build t parts.toArray, ty, pos, af, none⟩ :: rest) e w :=
  yl_val (by simp) hd (fun a hf => by
    have e1 := hf.ops hp
    have e2 : (parts.toArray.map fun (x : Nat × Operand) => (x.1, a.eval x.2)) = ((parts.map (·.1)).zip us).toArray := by
      rw [← e1]
      simp only [List.map_toArray]
      congr 1
      clear hp hb h e1
      induction parts with
      | nil => rfl
      | cons p ps ih => simp [ih]
    simp only [execOp]
    rw [e2]
    simp [hb w]) h

/-- A new slice of some elements. -/
theorem yl_buildSlice {d t len et : Nat} {parts : List (Nat × Operand)} {cs : List Value} {us : List Value} {ty : TypeId} {pos : String} {af : Array Edge}
    (hp : opvs e (parts.map (·.2)) = some us) (hb : ∀ w, (Instr.buildSlice t len ((parts.map (·.1)).zip us).toArray).run P w = .ok (.slice (some ⟨w.heap.size, 0, none⟩) len len) (w.alloc (.cells cs.toArray et))) (hd : Nat.blt d n = true)
    (h : ∀ w', Chg [] w w' → w'.heap.size = w.heap.size + 1 → Blk w' w.heap.size cs et → YL P ro n F k ops rest ((d, .slice (some ⟨w.heap.size, 0, none⟩) len len) :: e) w') : YL P ro n F k ops (⟨some d, .buildSlice t len parts.toArray, ty, pos, af, none⟩ :: rest) e w :=
  yl_val (by simp) hd (fun a hf => by
    have e1 := hf.ops hp
    have e2 : (parts.toArray.map fun (x : Nat × Operand) => (x.1, a.eval x.2)) = ((parts.map (·.1)).zip us).toArray := by
      rw [← e1]
      simp only [List.map_toArray]
      congr 1
      clear hp hb h e1
      induction parts with
      | nil => rfl
      | cons p ps ih => simp [ih]
    simp only [execOp]
    rw [e2]
    simp [hb w]) (h _ (alloc_chg _ _) (by simp) (alloc_blk _ _ _))

/-- append to a slice of our own. -/
theorem yl_append {d t et size bytes : Nat} {z : Value} (hS : SlT P t et size bytes z) {x y : Operand} {v u : Value} {base m : Nat} {xs news : List Value} {q lo hi : Nat} {ty : TypeId} {pos : String} {af : Array Edge}
    (hx : opv e x = some v) (hy : opv e y = some u) (hd : Nat.blt d n = true) (hown : w.ownsRow base et size v m xs) (hrd : Rd w lo hi u size q news) (h1 : ∀ c ∈ news, oneV c = true)
    (hm : (m + q) * bytes ≤ 140737488355328) (hm2 : m + q ≤ 140737488355328) (hbase : base ≤ w.heap.size)
    (h : ∀ v' w', w'.ownsRow base et size v' (m + q) (xs ++ news) → Chg v.ownBlock.toList w w' → (v' = .slice none 0 0 ↔ v = .slice none 0 0 ∧ q = 0) → YL P ro n F k ops rest ((d, v') :: e) w') :
    YL P ro n F k ops (⟨some d, .call { callee := .builtin .append, args := [x, y].toArray, argTypes := [t, t].toArray }, ty, pos, af, none⟩ :: rest) e w := by
  obtain ⟨ht, hi', hzs, hsz⟩ := hS
  cases hinf : P.info? et with
  | none => simp [hinf] at hi'
  | some i =>
    simp [hinf] at hi'
    obtain ⟨hz, hsize, hby⟩ := hi'
    obtain ⟨hl, hr⟩ := hrd
    rcases hr with ⟨rfl, rfl⟩ | ⟨b, off, cap, rfl, _, hc⟩
    · have hrun := run_append_owned_none (P := P) (w := w) base t ty et i size ht hinf v m xs hown
      refine yl_val (w' := w) (by simp) hd (fun a hf => ?_) (h v w ?_ (Chg.refl _ _) (by simp))
      · have e1 := hf.op hx
        have e2 := hf.op hy
        simp [execOp, resolve, invoke, builtin, e1, e2, hrun]
      · have : news = [] := by simpa using hl
        subst this
        simpa using hown
    · have hone : ∀ c ∈ news, c.oneCell' = true := fun c hc' => by
        have := h1 c hc'
        cases c <;> first | rfl | simp [oneV] at this
      obtain ⟨v', w', hrun, hown', hg, hnil⟩ := run_append_own (P := P) w base t ty et i z size bytes ht hinf hz hsize hby hzs hsz v m xs hown ⟨b, off, none⟩ q cap news hl
        (fun j c hj => by
          have hjl := (List.getElem?_eq_some_iff.1 hj).1
          rw [Addr.add_lit, hc j hjl, hj]) hone (by simp only [maxLen]; omega) hm hbase
      refine yl_val (w' := w') (by simp) hd (fun a hf => ?_) (h v' w' hown' (grown_chg hg) hnil)
      have e1 := hf.op hx
      have e2 := hf.op hy
      simp [execOp, resolve, invoke, builtin, e1, e2, hrun]

end
end Go.Eng
