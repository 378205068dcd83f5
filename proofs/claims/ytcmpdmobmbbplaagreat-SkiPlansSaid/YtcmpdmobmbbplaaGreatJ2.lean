/- My texts W5, B5, B6, B7, B8, B9, B10, B11, B12, B13, B14, B15, B16, B17, B18, B19, B20, B21, B22, B23, B24, B25, B26, B27, B28, G0, T0, Every, K0, T1, K1, K2, K3, K4, W7, W8, W9, W10, W11, W12, W18, W13, W6, W14, joined: a claim takes at most 60 files. -/
import Derived.Test.YtcmpdmobmbbplaaGreatJ1
import Derived.Laws.CopyRow
import Derived.Laws.MakeOwn
import Derived.Laws.OwnMore
import Derived.Laws.Slices
import Derived.Laws.StructEq
import Derived.ChangeKeysEq
import Derived.ChangeSlices
import Derived.ChangeArms
import Derived.ChangeShapes

/- The plain specifications of chains, zones and breaks. -/
namespace Go.Proofs.YtcmpdmobmbbplaaGreat
set_option maxRecDepth 4000

/-- The error of a lab and two skis. -/
def twoV (l : Lb) (a b : Int) : Int := if checkV l ≠ 0 then checkV l else if (inB a 0 (l.skis - 1) && inB b 0 (l.skis - 1)) = false then 1 else 0
/-- Where a chain leads. -/
def leadV (l : Lb) : Int → List Int → Option Int
  | a, [] => some a
  | a, i :: c => match runV l.err (l.runs.getD i.toNat ⟨0, 0, 0⟩) with
    | none => none
    | some p => if (p.1 : Int) = a then leadV l p.2 c else none
def chainV (l : Lb) (a b : Int) (c : List Int) : Bool × Int :=
  if twoV l a b ≠ 0 then (false, twoV l a b) else if c.all (fun i => inB i 0 (l.runs.length - 1)) = false then (false, 1) else (match leadV l a c with | none => false | some x => decide (x = b) && (!c.isEmpty && true), 0)
/-- How far a wax is good, from a snow on. -/
def goodN (row : List Int) (most : Int) (a : Nat) : Nat := ((row.drop a).takeWhile fun x => decide (x ≤ most)).length
/-- The best zone from a snow on: where it ends, and its wax. -/
def zoneF (rs : List (List Int)) (most : Int) (a : Nat) : Nat → Int × Int
  | 0 => (-1, 0)
  | i + 1 => let p := zoneF rs most a i; let x : Int := a - 1 + goodN (rs.getD i []) most a; if p.1 < x then (x, (i : Int)) else p
def zonesF (rs : List (List Int)) (most : Int) (n : Nat) : Nat → Nat → List (Int × Int × Int)
  | 0, _ => []
  | f + 1, a => if a < n then let p := zoneF rs most a rs.length; ((a : Int), p.1, p.2) :: zonesF rs most n f (p.1 + 1).toNat else []
def limitV (l : List (List Int)) (most : Int) : Int := if tableV l ≠ 0 then tableV l else if inB most 0 10000 = false then 3 else 0
def nV (l : List (List Int)) : Nat := (l.headD []).length
def zonesV (l : List (List Int)) (most : Int) : List (Int × Int × Int) × Int := if limitV l most ≠ 0 then ([], limitV l most) else (zonesF (regV l (nV l)) most (nV l) (nV l + 1) 0, 0)
def allG (row : List Int) (most : Int) (a b : Nat) : Bool := (spanL row a b).all fun x => decide (x ≤ most)
def brkF (rs : List (List Int)) (most : Int) : List Int → Bool
  | a :: b :: l => if b ≤ a then false else if rs.any (fun row => allG row most a.toNat b.toNat) then false else brkF rs most (b :: l)
  | _ => true
def breaksV (l : List (List Int)) (most : Int) (br : List Int) : Bool × Int :=
  if limitV l most ≠ 0 then (false, limitV l most) else if br.all (fun s => inB s 0 ((nV l : Int) - 1)) = false then (false, 1) else (if brkF (regV l (nV l)) most br = true then !br.isEmpty && true else false, 0)
/-- The error of skis, and a number of places. -/
def placedV (l : Lb) (k : Int) : Int := if checkV l ≠ 0 then checkV l else if inB k 1 l.skis = false then 3 else 0
def plannedV (l : Lb) (k : Int) : Int := if placedV l k ≠ 0 then placedV l k else if 5 < l.skis then 10 else agreedV l
def fewestV (l : Lb) (k : Int) : Int × Int := if plannedV l k ≠ 0 then (0, plannedV l k) else ((planO l.n k.toNat l.ord : Nat), 0)
def placesV (l : Lb) : List (Int × Int) := (List.range l.n).map fun s => ((1 + upN l.ord s l.n : Nat), l.skis - dnN l.ord s l.n)
def fourL : Lb := ⟨4, 5, [⟨0, 1, 8⟩, ⟨1, 2, 3⟩, ⟨2, 1, -9⟩, ⟨3, 0, -6⟩]⟩
def threeT : List (List Int) := [[5, 4, 9, 9], [6, 2, 3, 8], [9, 9, 2, 1]]
theorem aw_check : agreedV fourL = 0 := by decide +kernel
theorem aw_places : placesV fourL = [(1, 1), (2, 3), (3, 4), (2, 4)] := by decide +kernel
theorem aw_orders : cnt fourL.ord 4 15 = 3 := by decide +kernel
theorem aw_chain : chainV fourL 0 2 [0, 2] = (true, 0) := by decide +kernel
theorem aw_zones : zonesV threeT 1 = ([(0, 2, 1), (3, 3, 2)], 0) := by decide +kernel
theorem aw_breaks : breaksV threeT 1 [0, 3] = (true, 0) := by decide +kernel
end Go.Proofs.YtcmpdmobmbbplaaGreat

/- The engine, part B5: arrays as values; slices of arrays; copy; make. -/
namespace Go.Eng
set_option maxRecDepth 4000
open Go Go.RowKit

section
variable {P : Program} {T : Tab}
variable {ro : Cx} {n n' : Nat} {F : Fin} {w0 : World} {M : Nat → Prop} {k : List It} {ops : Array Oper} {rest : List Oper} {e : Env} {H Hq : List Ck}

/-- make([]int, n). -/
theorem ql_makeI {d t et m : Nat} {x y : Operand} {ty : TypeId} {pos : String} {af : Array Edge} (hS : SlT P t et 1 8 (.int .i64 0)) (hx : opv e x = some (.int .i64 m)) (hy : opv e y = some (.int .i64 m)) (hd : Nat.blt d n = true) (hm : m ≤ 1000000)
    (h : ∀ b, QL P ro n F w0 M k ops rest ((d, .slice (some ⟨b, 0, none⟩) m m) :: e) (.pt b (ints (List.replicate m 0)) et :: H)) :
    QL P ro n F w0 M k ops (⟨some d, .makeSlice t x y, ty, pos, af, none⟩ :: rest) e H := .mk fun w hs => by
  obtain ⟨ht, hi', hzs, hsz⟩ := hS
  cases hinf : P.info? et with
  | none => simp [hinf] at hi'
  | some i =>
    simp [hinf] at hi'
    obtain ⟨hz, hsize, hby⟩ := hi'
    have hr := run_makeSlice (P := P) w t et i _ ht hinf hz .i64 .i64 m m (by omega) (Int.le_refl _) (by rw [hsize]; simp; omega) (by rw [hby]; omega) (by omega)
    have hcells : (madeCells (Value.int .i64 0).cells ((m : Int).toNat * i.size)) = (ints (List.replicate m 0)).toArray := by
      apply Array.ext'
      rw [hsize, show (Value.int .i64 0).cells = #[Value.int .i64 0] from rfl, toList_madeCells_one]
      simp
    rw [hcells] at hr
    refine yl_val (w' := w.alloc (.cells (ints (List.replicate m 0)).toArray et)) (by simp) hd (fun ac hf => ?_) ((h w.heap.size).h _ (hs.addPt (alloc_chg _ _) (by simp) (alloc_blk w _ _)))
    simp only [execOp, hf.op hx, hf.op hy]
    simp [hr]
end
end Go.Eng

/- The engine, part B6: other pieces for the same memory. -/
namespace Go.Eng
set_option maxRecDepth 4000
open Go Go.RowKit

section
variable {P : Program} {T : Tab}
variable {ro : Cx} {n n' : Nat} {F : Fin} {w0 : World} {M : Nat → Prop} {k : List It} {ops : Array Oper} {rest : List Oper} {e : Env} {H H' Hq L R : List Ck}

theorem q_conv (hc : ∀ w, Sat w0 M H w → Sat w0 M H' w) (h : Q P ro n F w0 M k e H') : Q P ro n F w0 M k e H := .mk fun w hs => h.h w (hc w hs)
theorem ql_conv (hc : ∀ w, Sat w0 M H w → Sat w0 M H' w) (h : QL P ro n F w0 M k ops rest e H') : QL P ro n F w0 M k ops rest e H := .mk fun w hs => h.h w (hc w hs)

theorem q_fact {p : Prop} (hp : ∀ w, Sat w0 M H w → p) (h : p → Q P ro n F w0 M k e H) : Q P ro n F w0 M k e H := .mk fun w hs => (h (hp w hs)).h w hs
theorem ql_fact {p : Prop} (hp : ∀ w, Sat w0 M H w → p) (h : p → QL P ro n F w0 M k ops rest e H) : QL P ro n F w0 M k ops rest e H := .mk fun w hs => (h (hp w hs)).h w hs
theorem Sat.own_one {w : World} {v : Value} {t sz m : Nat} {xs : List Value} (h : Sat w0 M H w) (hm : Ck.ow v t sz m xs ∈ H) : oneV v = true := by
  have hp : w.ownsRow 0 t sz v m xs := h.all _ hm
  rcases hp.2 with ⟨rfl, _⟩ | ⟨g, cap, cur, rfl, _⟩ <;> rfl
theorem Blk.rd {w : World} {b m : Nat} {cs : List Value} {t : TypeId} (h : Blk w b cs t) (hl : cs.length = m) (c : Nat) : Rd w b (b + 1) (.slice (some ⟨b, 0, none⟩) m c) 1 m cs :=
  ⟨by omega, .inr ⟨b, 0, c, rfl, fun _ => ⟨Nat.le_refl _, Nat.lt_succ_self _, h.lt⟩, fun j _ => by rw [Blk.cell h]; simp⟩⟩
theorem cellsOf_one : ∀ (es : List Value), (∀ e ∈ es, oneV e = true) → cellsOf es = es
  | [], _ => rfl
  | e :: es, h => by
    have h1 := cellsOf_one es (fun x hx => h x (List.mem_cons_of_mem _ hx))
    have h2 := h e List.mem_cons_self
    have h3 : e.cells.toList = [e] := by cases e <;> first | rfl | simp [oneV] at h2
    simp only [cellsOf, List.flatMap_cons] at h1 ⊢
    rw [h1, h3]
    rfl
/-- Elements of one cell each. -/
theorem RdE.one {w : World} {lo hi : Nat} {v : Value} {es : List Value} (h : Rd w lo hi v 1 es.length es) (h1 : ∀ e ∈ es, oneV e = true) : RdE w lo hi v 1 es :=
  ⟨by rw [cellsOf_one es h1]; exact h, fun e he => by have := h1 e he; cases e <;> first | rfl | simp [oneV] at this⟩

theorem Sat.ownil {w : World} (h : Sat w0 M H w) (t sz : Nat) : Sat w0 M (.ow (.slice none 0 0) t sz 0 [] :: H) w :=
  h.add (Chg.refl _ _) (own_nil _ _ _ _) (fun b hb => by simp [Ck.D, Value.ownBlock] at hb)

theorem Sat.pt_ow {w : World} {b : Nat} {cs : List Value} {t sz m : Nat} (hl : cs.length = m * sz) (hm : m ≤ 1000000) (h : Sat w0 M (.pt b cs t :: R) w) : Sat w0 M (.ow (.slice (some ⟨b, 0, none⟩) m m) t sz m cs :: R) w := by
  have hb : Blk w b cs t := h.blk List.mem_cons_self
  refine h.rep .z (Chg.refl [] w) (by simp) ⟨hl, .inr ⟨b, m, cs.toArray, rfl, Nat.zero_le _, hb, Nat.le_refl _, by simp only [maxLen]; omega, by simpa using hl, ?_⟩⟩ (fun x hx => ?_)
  · rw [← hl]; simp
  · have hx' : x = b := by simpa [Ck.D, Value.ownBlock, eq_comm] using hx
    subst hx'
    exact ⟨.inl rfl, hb.lt⟩

theorem Sat.un_perm {w : World} {L L' : List Ck} (hp : L.Perm L') (h : Sat w0 M (un L :: R) w) : Sat w0 M (un L' :: R) w :=
  Sat.un_iff.2 ((Sat.un_iff.1 h).perm (hp.append_right R))
theorem Sat.un_in {w : World} {c : Ck} (h : Sat w0 M (c :: un L :: R) w) : Sat w0 M (un (c :: L) :: R) w := by
  have h1 : Sat w0 M (un L :: c :: R) w := h.perm (.swap _ _ _)
  refine Sat.un_iff.2 ((Sat.un_iff.1 h1).perm ?_)
  exact List.perm_middle
theorem Sat.un_nil {w : World} (h : Sat w0 M R w) : Sat w0 M (un [] :: R) w := Sat.un_iff.2 h
end
end Go.Eng

/- The engine, part B7: structs of numbers and Bools compared; maps. -/
namespace Go.Eng
set_option maxRecDepth 4000
open Go Go.RowKit

section
variable {P : Program} {T : Tab}

/-! Flat structs: each field is a number or a Bool. -/
def flatF (P : Program) : Nat → List Field → List (Option IntKind) → Bool
  | _, [], [] => true
  | o, f :: fs, k :: ks => !(f.name == "_") && Nat.beq f.offset o && oneB P f.type && (match P.underlying f.type, k with | some (.int q), some q' => kindEq q q' | some .bool, none => true | _, _ => false) && flatF P (o + 1) fs ks
  | _, _, _ => false
def flatB (P : Program) (t : Nat) (ks : List (Option IntKind)) : Bool :=
  !(P.stoodInHeld t) && !(P.eqGuardType P.depth t) && (match P.underlying t with | some (.struct fs) => flatF P 0 fs.toList ks | _ => false)
def fitV : List (Option IntKind) → List Value → Bool
  | [], [] => true
  | some k :: ks, .int k' _ :: vs => kindEq k k' && fitV ks vs
  | none :: ks, .bool _ :: vs => fitV ks vs
  | _, _ => false
def eqL : List Value → List Value → Bool
  | .int _ a :: l, .int _ b :: m => decide (a = b) && eqL l m
  | .bool a :: l, .bool b :: m => (a == b) && eqL l m
  | _, _ => true

theorem eqL_refl : ∀ l : List Value, eqL l l = true
  | [] => rfl
  | v :: l => by
    cases v <;> simp [eqL, eqL_refl l]
theorem eqL_eq : ∀ (ks : List (Option IntKind)) (l m : List Value), fitV ks l = true → fitV ks m = true → eqL l m = true → l = m
  | [], [], [], _, _, _ => rfl
  | [], [], _ :: _, _, h, _ => by simp [fitV] at h
  | [], _ :: _, _, h, _, _ => by simp [fitV] at h
  | k :: ks, [], _, h, _, _ => by cases k <;> simp [fitV] at h
  | k :: ks, _ :: _, [], _, h, _ => by cases k <;> simp [fitV] at h
  | some k :: ks, v :: l, u :: m, h1, h2, h3 => by
    cases v <;> simp [fitV] at h1
    cases u <;> simp [fitV] at h2
    simp [eqL] at h3
    have e1 := kindEq_eq h1.1
    have e2 := kindEq_eq h2.1
    rw [h3.1, ← e1, ← e2, eqL_eq ks l m h1.2 h2.2 h3.2]
  | none :: ks, v :: l, u :: m, h1, h2, h3 => by
    cases v <;> simp [fitV] at h1
    cases u <;> simp [fitV] at h2
    simp [eqL] at h3
    rw [h3.1, eqL_eq ks l m h1 h2 h3.2]

theorem oneB_agg {t : Nat} (h : oneB P t = true) (w : World) : (isAgg t).run P w = .ok false w := by
  simp only [oneB, Bool.and_eq_true] at h
  obtain ⟨ha, _⟩ := h
  split at ha <;> first | (cases ha; done) | (rename_i d hd1 hd2 hu; cases d <;> first | exact absurd rfl (hd1 _) | exact absurd rfl (hd2 _ _) | simp [isAgg, run_underlying hu])
theorem run_part1 {t : Nat} (h : oneB P t = true) {xs : Array Value} {o : Nat} {v : Value} (hv : xs[o]? = some v) (w : World) : (part t xs o).run P w = .ok v w := by
  simp [part, oneB_agg h w, hv]

theorem fitV_cons {k : Option IntKind} {ks : List (Option IntKind)} {l : List Value} (h : fitV (k :: ks) l = true) : ∃ v m, l = v :: m ∧ fitV ks m = true ∧ ((∃ q a, k = some q ∧ v = .int q a) ∨ (∃ b, k = none ∧ v = .bool b)) := by
  cases l with
  | nil => cases k <;> simp [fitV] at h
  | cons v m =>
    cases k with
    | none =>
      cases v <;> simp [fitV] at h
      exact ⟨_, _, rfl, h, .inr ⟨_, rfl, rfl⟩⟩
    | some q =>
      cases v <;> simp [fitV] at h
      have := kindEq_eq h.1
      subst this
      exact ⟨_, _, rfl, h.2, .inl ⟨_, _, rfl, rfl⟩⟩

theorem eqFields_flat (d : Nat) (w : World) : ∀ (fs : List Field) (ks : List (Option IntKind)) (o : Nat) (xs ys : List Value) (l m : List Value), flatF P o fs ks = true → fitV ks l = true → fitV ks m = true → xs.drop o = l → ys.drop o = m →
    (Op.eqFields (d + 1) xs.toArray ys.toArray fs).run P w = .ok (eqL l m) w
  | [], [], o, xs, ys, l, m, _, hl, hm, _, _ => by
    cases l <;> simp [fitV] at hl
    cases m <;> simp [fitV] at hm
    rfl
  | [], _ :: _, _, _, _, _, _, h, _, _, _, _ => by simp [flatF] at h
  | _ :: _, [], _, _, _, _, _, h, _, _, _, _ => by simp [flatF] at h
  | f :: fs, k :: ks, o, xs, ys, l, m, h, hl, hm, ex, ey => by
    simp only [flatF, Bool.and_eq_true] at h
    obtain ⟨⟨⟨⟨hn, ho⟩, h1⟩, hk⟩, hr⟩ := h
    have ho := Nat.eq_of_beq_eq_true ho
    have hn : f.name ≠ "_" := by simpa using hn
    obtain ⟨v, l', rfl, hl', hv⟩ := fitV_cons hl
    obtain ⟨u, m', rfl, hm', hu⟩ := fitV_cons hm
    have gx : xs.toArray[f.offset]? = some v := by
      rw [ho]
      have := congrArg (fun z => z[0]?) ex
      simpa using this
    have gy : ys.toArray[f.offset]? = some u := by
      rw [ho]
      have := congrArg (fun z => z[0]?) ey
      simpa using this
    have dx : xs.drop (o + 1) = l' := by rw [← List.drop_drop, ex]; rfl
    have dy : ys.drop (o + 1) = m' := by rw [← List.drop_drop, ey]; rfl
    have ih := eqFields_flat d w fs ks (o + 1) xs ys l' m' hr hl' hm' dx dy
    have key : ∀ c : Bool, (Op.equalIn (d + 1) f.type v u).run P w = .ok c w → (Op.eqFields (d + 1) xs.toArray ys.toArray (f :: fs)).run P w = .ok (c && eqL l' m') w := by
      intro c hc
      simp only [Op.eqFields, if_pos hn, Sem.run_bind, run_part1 h1 gx, run_part1 h1 gy, Result.andThen_ok, hc]
      cases c
      · simp
      · simpa using ih
    rcases hv with ⟨q, a, rfl, rfl⟩ | ⟨a, rfl, rfl⟩
    · rcases hu with ⟨q', b, hq, rfl⟩ | ⟨b, hq, _⟩
      · cases hq
        split at hk
        · rename_i q1 q2 hun hq2
          exact (key (a == b) (run_equalIn_int w d f.type q q1 a b hun)).trans (by congr 1)
        · rename_i hq2; cases hq2
        · cases hk
      · cases hq
    · rcases hu with ⟨q', b, hq, _⟩ | ⟨b, _, rfl⟩
      · cases hq
      · split at hk
        · rename_i hq2; cases hq2
        · rename_i hun _
          exact key (a == b) (run_equalIn_bool' w d f.type a b hun)
        · cases hk

theorem flat_under {t : Nat} {ks : List (Option IntKind)} (h : flatB P t ks = true) : P.stoodInHeld t = false ∧ P.eqGuardType P.depth t = false ∧ P.underlying t = some (.struct (P.fieldsOf t)) ∧ flatF P 0 (P.fieldsOf t).toList ks = true := by
  simp only [flatB, Bool.and_eq_true, Bool.not_eq_true'] at h
  obtain ⟨⟨h1, h2⟩, h3⟩ := h
  split at h3
  · rename_i fs hu
    refine ⟨h1, h2, ?_, ?_⟩
    · simp [Program.fieldsOf, hu]
    · simpa [Program.fieldsOf, hu] using h3
  · cases h3

theorem run_eqFlat {t : Nat} {ks : List (Option IntKind)} (h : flatB P t ks = true) {xs ys : List Value} (hx : fitV ks xs = true) (hy : fitV ks ys = true) (d : Nat) (w : World) : (Op.equalIn (d + 2) t (.agg xs.toArray) (.agg ys.toArray)).run P w = .ok (eqL xs ys) w := by
  obtain ⟨h1, h2, h3, h4⟩ := flat_under h
  rw [run_equalIn_agg w (d + 1) t _ _ h3 h1]
  exact eqFields_flat d w _ ks 0 xs ys xs ys h4 hx hy rfl rfl

variable {ro : Cx} {n : Nat} {F : Fin} {w0 : World} {M : Nat → Prop} {k : List It} {ops : Array Oper} {rest : List Oper} {e : Env} {H Hq : List Ck}

theorem exec_eqFlat {a : Act} {d t t' : Nat} {x y : Operand} {xs ys : List Value} {ks : List (Option IntKind)} {ty : TypeId} {pos : String} {af : Array Edge} (hf : Fits n e a) (hx : opv e x = some (.agg xs.toArray)) (hy : opv e y = some (.agg ys.toArray)) (hF : flatB P t ks = true) (h1 : fitV ks xs = true) (h2 : fitV ks ys = true) (w : World) :
    (execOp a.eval ⟨some d, .binOp .eql t x y t', ty, pos, af, none⟩).run P w = .ok (.value (.bool (eqL xs ys))) w ∧ (execOp a.eval ⟨some d, .binOp .neq t x y t', ty, pos, af, none⟩).run P w = .ok (.value (.bool (!(eqL xs ys)))) w := by
  have e1 := hf.op hx
  have e2 := hf.op hy
  have h3 := run_eqFlat hF h1 h2 9998 w
  have hg := (flat_under hF).2.1
  constructor <;> simp [execOp, e1, e2, run_eqGuard_agg, hg, run_eql_struct, run_neq_struct, h3]
theorem ql_eqF (ks : List (Option IntKind)) {d t t' : Nat} {x y : Operand} {xs ys : List Value} {ty : TypeId} {pos : String} {af : Array Edge} (hF : flatB P t ks = true) (hx : opv e x = some (.agg xs.toArray)) (hy : opv e y = some (.agg ys.toArray)) (h1 : fitV ks xs = true) (h2 : fitV ks ys = true) (hd : Nat.blt d n = true)
    (h : QL P ro n F w0 M k ops rest ((d, .bool (eqL xs ys)) :: e) H) : QL P ro n F w0 M k ops (⟨some d, .binOp .eql t x y t', ty, pos, af, none⟩ :: rest) e H := .mk fun w hw =>
  yl_val (by simp) hd (fun _ hf => (exec_eqFlat hf hx hy hF h1 h2 w).1) (h.h w hw)
theorem ql_neF (ks : List (Option IntKind)) {d t t' : Nat} {x y : Operand} {xs ys : List Value} {ty : TypeId} {pos : String} {af : Array Edge} (hF : flatB P t ks = true) (hx : opv e x = some (.agg xs.toArray)) (hy : opv e y = some (.agg ys.toArray)) (h1 : fitV ks xs = true) (h2 : fitV ks ys = true) (hd : Nat.blt d n = true)
    (h : QL P ro n F w0 M k ops rest ((d, .bool (!(eqL xs ys))) :: e) H) : QL P ro n F w0 M k ops (⟨some d, .binOp .neq t x y t', ty, pos, af, none⟩ :: rest) e H := .mk fun w hw =>
  yl_val (by simp) hd (fun _ hf => (exec_eqFlat hf hx hy hF h1 h2 w).2) (h.h w hw)
theorem qf_neF (ks : List (Option IntKind)) {d t t' : Nat} {x y : Operand} {xs ys : List Value} {ty : TypeId} {pos : String} {af : Array Edge} (hF : flatB P t ks = true) (hx : opv e x = some (.agg xs.toArray)) (hy : opv e y = some (.agg ys.toArray)) (h1 : fitV ks xs = true) (h2 : fitV ks ys = true) (hd : Nat.blt d n = true)
    (h : QF P ro n F w0 M k ops Hq rest ((d, .bool (!(eqL xs ys))) :: e) H) : QF P ro n F w0 M k ops Hq (⟨some d, .binOp .neq t x y t', ty, pos, af, none⟩ :: rest) e H := .mk fun w hw =>
  yf_quiet rfl hd (fun _ hf w' _ => (exec_eqFlat hf hx hy hF h1 h2 w').2) (h.h w hw)

/-! Maps -/
/-- How keys of a type are compared: q says what Go's == does. -/
structure KeyT (P : Program) (kt : TypeId) (K : Value → Prop) (q : Value → Value → Bool) : Prop where
  chk : ∀ empty k w, K k → (Instr.checkKey empty 10000 kt k).run P w = .ok () w
  find : ∀ k es w, K k → (∀ x ∈ es, K x.key) → (Instr.findKey kt k es).run P w = .ok ((es.zipIdx.find? (fun p => q k p.1.key)).map (fun p => (p.2, p.1.val))) w
  eq : ∀ a b, K a → K b → q a b = true → a = b
  refl : ∀ a, K a → q a a = true
  bits : ∀ a, K a → Instr.sameBits 10000 a a = true

/-- A block is a map that is f. -/
def MapAt (w : World) (b : Nat) (K : Value → Prop) (q : Value → Value → Bool) (f : Value → Option Value) : Prop :=
  ∃ es clock, w.heap[b]? = some (.map es clock) ∧ (∀ x ∈ es.toList, K x.key) ∧ ∀ k, K k → (es.toList.find? (fun x => q k x.key)).map (·.val) = f k
def mpP (K : Value → Prop) (q : Value → Value → Bool) (b : Nat) (f : Value → Option Value) : Ck := .gn (· = b) (fun w => MapAt w b K q f)
  (fun _ _ _ ⟨es, clock, h1, h2⟩ hc hn => ⟨es, clock, (hc.block b (Array.getElem?_eq_some_iff.1 h1).1 (hn b rfl)).trans h1, h2⟩)

theorem find_zipIdx {α : Type} (p : α → Bool) : ∀ (l : List α) (i : Nat), (l.zipIdx i).find? (fun x => p x.1) = ((l.findIdx? p).bind fun j => (l[j]?).map fun a => (a, i + j))
  | [], i => by simp
  | a :: l, i => by
    rw [List.zipIdx_cons, List.find?_cons, List.findIdx?_cons]
    cases h : p a
    · rw [find_zipIdx p l (i + 1)]
      simp only [Option.bind_map]
      cases List.findIdx? p l with
      | none => simp
      | some j =>
        simp
        cases l[j]? with
        | none => simp
        | some b => simp; omega
    · simp

variable {K : Value → Prop} {q : Value → Value → Bool} {kt et mt : TypeId}

theorem run_mapLook {w : World} {b : Nat} {f : Value → Option Value} (hK : KeyT P kt K q) (ht : P.underlying mt = some (.map kt et)) {z : Value} (hz : (zeroValue et).run P w = .ok z w) (hm : MapAt w b K q f) {key : Value} (hk : K key) (ok : Bool) :
    (Instr.lookup mt (.map (some b)) key ok).run P w = .ok (if ok then .tuple #[(f key).getD z, .bool (f key).isSome] else (f key).getD z) w := by
  obtain ⟨es, clock, hb, hes, hf⟩ := hm
  have h1 := hK.find key es.toList w hk hes
  have h2 := hf key hk
  have h3 : ((es.toList.zipIdx.find? (fun p => q key p.1.key)).map (fun p => (p.2, p.1.val))).map (·.2) = f key := by
    rw [← h2, find_zipIdx (fun x : MapEntry => q key x.key), Option.map_map]
    rw [List.find?_eq_bind_findIdx?_getElem?]
    cases List.findIdx? (fun x : MapEntry => q key x.key) es.toList with
    | none => rfl
    | some j => simp only [Option.bind_some]; cases es.toList[j]? <;> rfl
  generalize (es.toList.zipIdx.find? (fun p => q key p.1.key)).map (fun p => (p.2, p.1.val)) = r at h1 h3
  have hg : (getObj b).run P w = .ok (.map es clock) w := by simp [getObj, Sem.run, hb]
  simp only [Instr.lookup, Sem.run_bind, run_underlying ht, Result.andThen_ok, hg, Sem.run_pure, hK.chk _ key w hk, h1]
  cases r with
  | none =>
    simp at h3
    rw [← h3]
    cases ok <;> simp [hz]
  | some p =>
    obtain ⟨i, v⟩ := p
    simp at h3
    rw [← h3]
    cases ok <;> simp

theorem find_mod0 (p : MapEntry → Bool) (g : MapEntry → MapEntry) : ∀ (l : List MapEntry) (i : Nat), (∀ e, l[i]? = some e → p e = false ∧ p (g e) = false) → (l.modify i g).find? p = l.find? p
  | [], i, _ => by simp
  | a :: l, 0, h => by
    have := h a rfl
    simp [List.modify_cons, List.find?_cons, this.1, this.2]
  | a :: l, i + 1, h => by
    have ih := find_mod0 p g l i (fun e he => h e (by simpa using he))
    simp [List.modify_cons, List.find?_cons, ih]
theorem find_mod1 (p : MapEntry → Bool) (g : MapEntry → MapEntry) : ∀ (l : List MapEntry) (i : Nat), l.findIdx? p = some i → (∀ e, l[i]? = some e → p (g e) = true) → (l.modify i g).find? p = (l[i]?).map g
  | [], i, h, _ => by simp at h
  | a :: l, i, h, hg => by
    rw [List.findIdx?_cons] at h
    cases ha : p a with
    | true =>
      rw [ha] at h
      simp at h
      subst h
      have := hg a rfl
      simp [List.modify_cons, List.find?_cons, this]
    | false =>
      rw [ha] at h
      simp at h
      obtain ⟨j, hj, rfl⟩ := h
      have ih := find_mod1 p g l j hj (fun e he => hg e (by simpa using he))
      simp [List.modify_cons, List.find?_cons, ha, ih]

theorem putObj_heap (w : World) (r : Nat) (o : Obj) (h : r < w.heap.size) : (w.putObj r o).heap[r]? = some o := World.putObj_heap_same h

theorem run_mapUpd {w : World} {b : Nat} {f : Value → Option Value} (hK : KeyT P kt K q) (ht : P.underlying mt = some (.map kt et)) (hm : MapAt w b K q f) {key v : Value} (hk : K key) :
    ∃ w', (Instr.mapUpdate mt (.map (some b)) key v).run P w = .ok () w' ∧ MapAt w' b K q (fun x => if q x key then some v else f x) ∧ Chg [b] w w' := by
  obtain ⟨es, clock, hb, hes, hf⟩ := hm
  have hlt : b < w.heap.size := (Array.getElem?_eq_some_iff.1 hb).1
  have h1 := hK.find key es.toList w hk hes
  have hg : (getObj b).run P w = .ok (.map es clock) w := by simp [getObj, Sem.run, hb]
  have hs : ∀ o, (setObj b o).run P w = .ok () (w.putObj b o) := fun o => by simp [setObj, Sem.run, World.putObj, hb]
  rw [find_zipIdx (fun x : MapEntry => q key x.key)] at h1
  have hfi : ∀ k, (es.toList.find? (fun x => q k x.key)) = (es.toList.findIdx? (fun x => q k x.key)).bind fun i => es.toList[i]? := fun k => List.find?_eq_bind_findIdx?_getElem?
  cases hi : es.toList.findIdx? (fun x => q key x.key) with
  | none =>
    rw [hi] at h1
    simp at h1
    refine ⟨w.putObj b (.map (es.push { key := key, val := v, born := clock }) (clock + 1)), ?_, ⟨es.push { key := key, val := v, born := clock }, clock + 1, putObj_heap w b _ hlt, ?_, fun k hk' => ?_⟩, putObj_chg w b _⟩
    · simp only [Instr.mapUpdate, Sem.run_bind, run_underlying ht, Result.andThen_ok, hg, hK.chk _ key w hk, h1, hs]
    · intro x hx
      rw [Array.toList_push, List.mem_append] at hx
      rcases hx with hx | hx
      · exact hes x hx
      · rw [List.mem_singleton.1 hx]; exact hk
    · rw [Array.toList_push, List.find?_append]
      by_cases hq : q k key = true
      · have := hK.eq k key hk' hk hq
        subst this
        rw [hfi, hi]
        simp [hq]
      · have hq' : q k key = false := by simpa using hq
        simp only [hq', if_false, Bool.false_eq_true]
        rw [← hf k hk']
        cases List.find? (fun x => q k x.key) es.toList <;> simp [hq']
  | some i =>
    have hi0 := hi
    rw [List.findIdx?_eq_some_iff_getElem] at hi
    obtain ⟨hlt2, hqi, _⟩ := hi
    have hki : es.toList[i].key = key := (hK.eq key _ hk (hes _ (List.getElem_mem hlt2)) hqi).symm
    rw [hi0] at h1
    simp only [Option.bind_some, List.getElem?_eq_getElem hlt2, Option.map_some] at h1
    have hki2 : ((es[i]?).map (·.key)).getD key = key := by
      rw [← Array.getElem?_toList, List.getElem?_eq_getElem hlt2]
      simpa using hki
    have hkeep : (Instr.keyThatStays (((es[i]?).map (·.key)).getD key) key).run P w = .ok key w := by
      rw [hki2]
      simp [Instr.keyThatStays, hK.bits key hk]
    refine ⟨w.putObj b (.map (es.modify i fun e => { e with key := key, val := v }) clock), ?_, ⟨es.modify i fun e => { e with key := key, val := v }, clock, putObj_heap w b _ hlt, ?_, fun k hk' => ?_⟩, putObj_chg w b _⟩
    · simp only [Instr.mapUpdate, Sem.run_bind, run_underlying ht, Result.andThen_ok, hg, hK.chk _ key w hk, h1, Nat.zero_add, hkeep, hs]
    · intro x hx
      rw [Array.toList_modify] at hx
      obtain ⟨j, hj, rfl⟩ := List.getElem_of_mem hx
      rw [List.getElem_modify]
      split
      · exact hk
      · exact hes _ (List.getElem_mem _)
    · rw [Array.toList_modify]
      by_cases hq : q k key = true
      · have := hK.eq k key hk' hk hq
        subst this
        rw [find_mod1 _ _ _ i hi0 (fun e _ => hq), List.getElem?_eq_getElem hlt2]
        simp [hq]
      · have hq' : q k key = false := by simpa using hq
        simp only [hq', if_false, Bool.false_eq_true]
        rw [find_mod0 _ _ _ i (fun e he => ?_), hf k hk']
        rw [List.getElem?_eq_getElem hlt2] at he
        cases he
        rw [hki]
        exact ⟨hq', hq'⟩
end
end Go.Eng

/- The engine, part B8: kinds of keys; the operations on maps. -/
namespace Go.Eng
set_option maxRecDepth 4000
open Go Go.RowKit

section
variable {P : Program} {T : Tab}

theorem lookI {e : Env} {t : Nat} {a b : Int} (hl : look e t = some (.int .i64 a)) (h : a = b) : look e t = some (.int .i64 b) := by rw [hl, h]

def eqV : Value → Value → Bool
  | .agg a, .agg b => eqL a.toList b.toList
  | .int _ a, .int _ b => decide (a = b)
  | _, _ => true
def keyF (ks : List (Option IntKind)) (v : Value) : Prop := ∃ xs : List Value, v = .agg xs.toArray ∧ fitV ks xs = true
def keyI (kd : IntKind) (v : Value) : Prop := ∃ a, v = .int kd a

theorem bits_flat (d : Nat) : ∀ (ks : List (Option IntKind)) (l : List Value), fitV ks l = true → (l.zip l).all (fun p => Instr.sameBits d p.1 p.2) = true
  | [], [], _ => rfl
  | [], _ :: _, h => by simp [fitV] at h
  | k :: ks, l, h => by
    obtain ⟨v, m, rfl, hm, hv⟩ := fitV_cons h
    have ih := bits_flat d ks m hm
    simp only [List.zip_cons_cons, List.all_cons, ih, Bool.and_true]
    rcases hv with ⟨q, a, rfl, rfl⟩ | ⟨a, rfl, rfl⟩ <;> simp [Instr.sameBits]

theorem bits_agg (n : Nat) (a b : Array Value) : Instr.sameBits (n + 1) (.agg a) (.agg b) = (a.size == b.size && (a.toList.zip b.toList).all fun p => Instr.sameBits n p.1 p.2) := by
  rw [Instr.sameBits]
theorem ask_find {kt : TypeId} {K : Value → Prop} {q : Value → Value → Bool} (w : World) (he : ∀ a b, K a → K b → (Op.equal kt a b).run P w = .ok (q a b) w) {k : Value} (hk : K k) : ∀ (es : List MapEntry) (i : Nat), (∀ x ∈ es, K x.key) →
    (Instr.findAsking kt k es i).run P w = .ok (((es.zipIdx i).find? (fun p => q k p.1.key)).map (fun p => (p.2, p.1.val))) w
  | [], i, _ => by simp [Instr.findAsking]
  | x :: es, i, h => by
    have ih := ask_find w he hk es (i + 1) (fun y hy => h y (List.mem_cons_of_mem _ hy))
    have h1 := he k x.key hk (h x List.mem_cons_self)
    rw [List.zipIdx_cons, List.find?_cons]
    simp only [Instr.findAsking, Sem.run_bind, h1, Result.andThen_ok]
    cases q k x.key
    · simpa using ih
    · simp

variable {ro : Cx} {n : Nat} {F : Fin} {w0 : World} {M : Nat → Prop} {k : List It} {ops : Array Oper} {rest : List Oper} {e : Env} {H Hq : List Ck}
variable {K : Value → Prop} {q : Value → Value → Bool} {kt et mt : TypeId}

theorem zero_run {t : TypeId} {z : Value} (h : ZeroOf P t z) (w : World) : (zeroValue t).run P w = .ok z w := by
  have h1 := h.h
  cases hi : P.info? t with
  | none => rw [hi] at h1; cases h1
  | some i =>
    rw [hi] at h1
    have hz : i.zero = some z := h1
    simp [zeroValue, typeInfo, hi, hz]

theorem ql_look2 {d b : Nat} {x ix : Operand} {f : Value → Option Value} {key z : Value} {ty : TypeId} {pos : String} {af : Array Edge} (hK : KeyT P kt K q) (ht : P.underlying mt = some (.map kt et)) (hz : ZeroOf P et z)
    (hx : opv e x = some (.map (some b))) (hi : opv e ix = some key) (hd : Nat.blt d n = true) (hm : mpP K q b f ∈ H) (hk : K key)
    (h : QL P ro n F w0 M k ops rest ((d, .tuple #[(f key).getD z, .bool (f key).isSome]) :: e) H) : QL P ro n F w0 M k ops (⟨some d, .lookup mt x ix true, ty, pos, af, none⟩ :: rest) e H := .mk fun w hw =>
  yl_val (by simp) hd (fun a hf => by
    simp only [execOp, hf.op hx, hf.op hi]
    simp [run_mapLook hK ht (zero_run hz w) (hw.mem hm) hk]) (h.h w hw)
theorem Sat.mapUpd {w w' : World} {b : Nat} {f f' : Value → Option Value} {H' : List Ck} (hs : Sat w0 M H w) (hr : Rp H (mpP K q b f) (mpP K q b f') H') (hc : Chg [b] w w') (hm : MapAt w' b K q f') : Sat w0 M H' w' := by
  refine hs.rep hr hc (fun x hx => (by simpa using hx : x = b)) hm (fun x hx => ?_)
  have hx' : x = b := hx
  subst hx'
  obtain ⟨es, clock, h1, _⟩ := hm
  exact ⟨.inl rfl, (Array.getElem?_eq_some_iff.1 h1).1⟩
theorem ql_mapUpd {b : Nat} {x ix y : Operand} {f : Value → Option Value} {key v : Value} {H' : List Ck} {ty : TypeId} {pos : String} {af : Array Edge} (hK : KeyT P kt K q) (ht : P.underlying mt = some (.map kt et))
    (hx : opv e x = some (.map (some b))) (hi : opv e ix = some key) (hy : opv e y = some v) (hk : K key) (hr : Rp H (mpP K q b f) (mpP K q b (fun x => if q x key then some v else f x)) H')
    (h : QL P ro n F w0 M k ops rest e H') : QL P ro n F w0 M k ops (⟨none, .mapUpdate mt x ix y, ty, pos, af, none⟩ :: rest) e H := .mk fun w hw => by
  obtain ⟨w', hrun, hm, hc⟩ := run_mapUpd hK ht (hw.mem hr.mem) hk (v := v)
  refine yl_do (w' := w') (by simp) (fun a hf => ?_) (h.h w' (hw.mapUpd hr hc hm))
  simp only [execOp, hf.op hx, hf.op hi, hf.op hy]
  simp [hrun]
theorem run_mkMap (t : TypeId) (w : World) : (Instr.makeMap t none).run P w = .ok (.map (some w.heap.size)) (w.alloc (.map #[] 0)) := rfl
theorem mk_mapAt (w : World) : MapAt (w.alloc (.map #[] 0)) w.heap.size K q (fun _ => none) := ⟨#[], 0, by show (w.heap.push _)[w.heap.size]? = _; simp, by simp, fun _ _ => rfl⟩
theorem mk_mapD (w : World) : ∀ b, (mpP K q w.heap.size (fun _ => none)).D b → w.heap.size ≤ b ∧ b < (w.alloc (.map #[] 0)).heap.size := fun x hx => by
  have hx' : x = w.heap.size := hx
  subst hx'
  simp
theorem ql_makeMap (K : Value → Prop) (q : Value → Value → Bool) {d : Nat} {t : TypeId} {ty : TypeId} {pos : String} {af : Array Edge} (hd : Nat.blt d n = true)
    (h : ∀ b, QL P ro n F w0 M k ops rest ((d, .map (some b)) :: e) (mpP K q b (fun _ => none) :: H)) : QL P ro n F w0 M k ops (⟨some d, .makeMap t none, ty, pos, af, none⟩ :: rest) e H := .mk fun w hs => by
  refine yl_val (w' := w.alloc (.map #[] 0)) (by simp) hd (fun a hf => ?_) ((h w.heap.size).h _ (hs.add (alloc_chg _ _) (mk_mapAt w) (mk_mapD w)))
  simp only [execOp]
  simp [run_mkMap]
/-! An empty list that is not nil. -/
theorem run_mkS0 {t et : Nat} (hu : P.underlying t = some (.slice et)) (hi : (P.info? et).isSome = true) (w : World) : (Instr.buildSlice t 0 #[]).run P w = .ok (.slice (some ⟨w.heap.size, 0, none⟩) 0 0) (w.alloc (.cells #[] et)) := by
  cases h : P.info? et with
  | none => rw [h] at hi; cases hi
  | some i =>
    have e0 : (Array.range 0) = #[] := rfl
    simp [Instr.buildSlice, run_underlying hu, sizeOf, typeInfo, h, Instr.fill, newRow, e0]
theorem ql_mkS0 (et : Nat) {d t : Nat} {ty : TypeId} {pos : String} {af : Array Edge} (hu : P.underlying t = some (.slice et)) (hi : (P.info? et).isSome = true) (hd : Nat.blt d n = true)
    (h : ∀ b, QL P ro n F w0 M k ops rest ((d, .slice (some ⟨b, 0, none⟩) 0 0) :: e) (.ow (.slice (some ⟨b, 0, none⟩) 0 0) et 1 0 [] :: H)) : QL P ro n F w0 M k ops (⟨some d, .buildSlice t 0 #[], ty, pos, af, none⟩ :: rest) e H := .mk fun w hs => by
  refine yl_val (w' := w.alloc (.cells #[] et)) (by simp) hd (fun a hf => ?_) ((h w.heap.size).h _ (Sat.pt_ow (m := 0) rfl (by omega) (hs.addPt (alloc_chg _ _) (by simp) (alloc_blk w _ _))))
  simp only [execOp]
  simp [run_mkS0 hu hi]
theorem RdI.row {w : World} {lo hi : Nat} {v : Value} {l : List Int} (h : RdI w lo hi v l) : Rd w lo hi v 1 l.length (ints l) := by
  have := h.rd
  rw [cellsOf_one _ (by simp [oneV])] at this
  simpa using this
end
end Go.Eng

/- The engine, part B9: maps that were there before. -/
namespace Go.Eng
set_option maxRecDepth 4000
open Go Go.RowKit

section
variable {P : Program} {T : Tab}
variable {ro : Cx} {n : Nat} {F : Fin} {w0 : World} {M : Nat → Prop} {k : List It} {ops : Array Oper} {rest : List Oper} {e : Env} {H Hq : List Ck}
variable {K : Value → Prop} {q : Value → Value → Bool} {kt et mt : TypeId}

theorem MapAt.keep {w w' : World} {b : Nat} {f : Value → Option Value} (h : MapAt w b K q f) (c : Chg [] w w') : MapAt w' b K q f := by
  obtain ⟨es, clock, h1, h2⟩ := h
  exact ⟨es, clock, (c.block b (Array.getElem?_eq_some_iff.1 h1).1 (by simp)).trans h1, h2⟩
theorem MapAt.congr {w : World} {b : Nat} {f g : Value → Option Value} (h : MapAt w b K q f) (he : ∀ k, K k → f k = g k) : MapAt w b K q g := by
  obtain ⟨es, clock, h1, h2, h3⟩ := h
  exact ⟨es, clock, h1, h2, fun k hk => (h3 k hk).trans (he k hk)⟩
theorem Sat.turn {w : World} {c c' : Ck} {R : List Ck} (h : Sat w0 M (c :: R) w) (hD : ∀ b, c'.D b → c.D b) (hp : c.p w → c'.p w) : Sat w0 M (c' :: R) w :=
  h.rep .z (Chg.refl [] w) (by simp) (hp (h.all _ List.mem_cons_self)) (fun b hb => ⟨.inl (hD b hb), (h.bd _ List.mem_cons_self b (hD b hb)).1⟩)
theorem Sat.mapC {w : World} {b : Nat} {f g : Value → Option Value} {R : List Ck} (h : Sat w0 M (mpP K q b f :: R) w) (he : ∀ k, K k → f k = g k) : Sat w0 M (mpP K q b g :: R) w :=
  h.turn (fun _ h => h) (fun hm => MapAt.congr hm he)
theorem map_sat {w : World} {b : Nat} {f : Value → Option Value} (h : MapAt w b K q f) : Sat w (fun x => x = b) [mpP K q b f] w := by
  have hb : b < w.heap.size := by
    obtain ⟨es, clock, h1, _⟩ := h
    exact (Array.getElem?_eq_some_iff.1 h1).1
  refine ⟨ChgP.refl _ _, fun c hc => ?_, List.pairwise_singleton _ _, fun c hc x hx => ?_⟩
  · rw [List.mem_singleton.1 hc]
    exact h
  · rw [List.mem_singleton.1 hc] at hx
    have hx' : x = b := hx
    subst hx'
    exact ⟨hb, .inl rfl⟩
end
end Go.Eng

/- The engine, part B10: a region that draws its order, in which some operations that act may stand in any order: one walk for each such order. -/
namespace Go.Eng
set_option maxRecDepth 4000
open Go Go.RowKit

section
variable {P : Program} {ops : Array Oper} {C : World → Prop} {K : Act → World → Prop}

theorem apart_symm {x y : Oper} (h : x.apart ops y = true) : y.apart ops x = true := by
  obtain ⟨h1, h2, h3⟩ := Oper.apart_spec h
  simp only [Oper.apart, Bool.and_eq_true]
  constructor
  · cases hy : y.dst with
    | none => rfl
    | some d =>
      simp only [Bool.and_eq_true, Bool.not_eq_true', bne_iff_ne, ne_eq]
      refine ⟨?_, fun hx => h2 d hx hy⟩
      have := h3 d hy
      simpa using this
  · cases hx : x.dst with
    | none => rfl
    | some d =>
      have := h1 d hx
      simpa using this

/-- Each operation against all others. -/
def pairsB (ops : Array Oper) (ms : List Nat) : Bool := (List.range ops.size).all fun j => match ops[j]? with
  | none => true
  | some oj => (kindOk oj.op && oj.after.all (fun e => Nat.blt e.on ops.size)) && (List.range j).all fun i => match ops[i]? with
    | none => true
    | some oi => (ms.getD j 0).testBit i || oi.apart ops oj
structure FlM (ops : Array Oper) : Prop where
  kind : ∀ (j : Nat) o, ops[j]? = some o → kindOk o.op = true
  edge : ∀ (j : Nat) o, ops[j]? = some o → ∀ e ∈ o.after, Region.binds .any e = true → ¬ e.on < ops.size → False
  pair : ∀ (i j : Nat) oi oj, i ≠ j → ops[i]? = some oi → ops[j]? = some oj → ((masks ops.toList).getD j 0).testBit i = true ∨ ((masks ops.toList).getD i 0).testBit j = true ∨ oi.apart ops oj = true
theorem pairsB_spec (h : pairsB ops (masks ops.toList) = true) : FlM ops := by
  have hj : ∀ (j : Nat) oj, ops[j]? = some oj → (kindOk oj.op = true ∧ (oj.after.all (fun e => Nat.blt e.on ops.size)) = true) ∧ ∀ i oi, i < j → ops[i]? = some oi → ((masks ops.toList).getD j 0).testBit i = true ∨ oi.apart ops oj = true := by
    intro j oj hoj
    have h1 := List.all_eq_true.1 h j (List.mem_range.2 (Array.getElem?_eq_some_iff.1 hoj).1)
    simp only [hoj, Bool.and_eq_true] at h1
    refine ⟨⟨h1.1.1, h1.1.2⟩, fun i oi hi hoi => ?_⟩
    have h2 := List.all_eq_true.1 h1.2 i (List.mem_range.2 hi)
    simpa only [hoi, Bool.or_eq_true] using h2
  refine ⟨fun j o ho => (hj j o ho).1.1, fun j o ho e he _ hn => hn (by have := Array.all_eq_true'.1 (hj j o ho).1.2 e he; simpa [Nat.blt_eq] using this), fun i j oi oj hij hoi hoj => ?_⟩
  rcases Nat.lt_or_gt_of_ne hij with h1 | h1
  · rcases (hj j oj hoj).2 i oi h1 hoi with h2 | h2
    · exact .inl h2
    · exact .inr (.inr h2)
  · rcases (hj i oi hoi).2 j oj h1 hoj with h2 | h2
    · exact .inr (.inl h2)
    · exact .inr (.inr (apart_symm h2))

/-- Orders: alternatives share what stands ahead. -/
inductive OT where
  | nil
  | op (i : Nat) (t : OT)
  | alt (t u : OT)
def wpT (P : Program) (ops : Array Oper) (C : World → Prop) (K : Act → World → Prop) : OT → Act → World → Prop
  | .nil, a, w => K a w
  | .op i t, a, w => match ops[i]? with
    | none => False
    | some o => if Region.wanted o (yielded ops a.tmps) = true then
        (if eff o.op = true then effStep P o a w (fun v w' => C w' ∧ wpT P ops C K t (a.put o.dst v) w')
         else ∃ v, (∀ w', C w' → (execOp a.eval o).run P w' = .ok (.value v) w') ∧ wpT P ops C K t (a.put o.dst v) w)
      else wpT P ops C K t (a.put o.dst undef) w
  | .alt t u, a, w => wpT P ops C K t a w ∧ wpT P ops C K u a w
def OT.del (j : Nat) : OT → OT
  | .nil => .nil
  | .op i t => if i = j then t else .op i (t.del j)
  | .alt t u => .alt (t.del j) (u.del j)
def isEff (ops : Array Oper) (i : Nat) : Bool := match ops[i]? with | some o => eff o.op | none => false
def OT.take (ops : Array Oper) (j : Nat) : OT → Option OT
  | .nil => none
  | .op i t => if i = j then some t else if isEff ops i = true then none else (t.take ops j).map (.op i)
  | .alt t u => match t.take ops j with | some x => some x | none => u.take ops j
def effsT (ops : Array Oper) : OT → List Nat
  | .nil => []
  | .op i t => if isEff ops i = true then i :: effsT ops t else effsT ops t
  | .alt t _ => effsT ops t
def covT (ops : Array Oper) (ms : List Nat) : Nat → OT → Bool
  | 0, t => (effsT ops t).isEmpty
  | n + 1, t => (effsT ops t).all fun j => (effsT ops t).any (fun i => (ms.getD j 0).testBit i) || (match t.take ops j with | some t' => covT ops ms n t' | none => false)
def OkT (ops : Array Oper) : OT → List Nat → Prop
  | .nil, rem => rem = []
  | .op i t, rem => (∃ o, ops[i]? = some o ∧ ∀ e ∈ o.after, Region.binds .any e = true → e.on ∉ rem) ∧ i ∈ rem ∧ (∀ b ∈ rem, ((masks ops.toList).getD i 0).testBit b = false) ∧ OkT ops t (rem.erase i)
  | .alt t u, rem => OkT ops t rem ∧ OkT ops u rem
def okT (ops : Array Oper) (ms : List Nat) : OT → List Nat → Bool
  | .nil, rem => rem.isEmpty
  | .op i t, rem => (match ops[i]? with | none => false | some o => o.after.all fun e => !(Region.binds .any e) || !(rem.contains e.on)) && rem.contains i && rem.all (fun b => !((ms.getD i 0).testBit b)) && okT ops ms t (rem.erase i)
  | .alt t u, rem => okT ops ms t rem && okT ops ms u rem
theorem okT_spec : ∀ (t : OT) (rem : List Nat), okT ops (masks ops.toList) t rem = true → OkT ops t rem
  | .nil, rem, h => by simpa [okT, OkT] using h
  | .op i t, rem, h => by
    simp only [okT, Bool.and_eq_true] at h
    obtain ⟨⟨⟨h1, h2⟩, h3⟩, h4⟩ := h
    refine ⟨?_, by simpa using h2, fun b hb => by simpa using List.all_eq_true.1 h3 b hb, okT_spec t _ h4⟩
    cases ho : ops[i]? with
    | none => rw [ho] at h1; cases h1
    | some o =>
      rw [ho] at h1
      refine ⟨o, rfl, fun e he hb => ?_⟩
      have := Array.all_eq_true'.1 h1 e he
      simp only [hb, Bool.not_true, Bool.false_or, Bool.not_eq_true'] at this
      simpa using this
  | .alt t u, rem, h => by
    simp only [okT, Bool.and_eq_true] at h
    exact ⟨okT_spec t rem h.1, okT_spec u rem h.2⟩

theorem del_ok {j : Nat} : ∀ (t : OT) (rem : List Nat), rem.Nodup → OkT ops t rem → j ∈ rem → OkT ops (t.del j) (rem.erase j)
  | .nil, rem, _, h, hj => by
    have : rem = [] := h
    subst this
    cases hj
  | .op i t, rem, hn, ⟨⟨o, h1, h1'⟩, h2, h3, h4⟩, hj => by
    unfold OT.del
    split
    · rename_i hij
      subst hij
      exact h4
    · rename_i hij
      refine ⟨⟨o, h1, fun e he hb hm => h1' e he hb (List.mem_of_mem_erase hm)⟩, (List.mem_erase_of_ne hij).2 h2, fun b hb => h3 b (List.mem_of_mem_erase hb), ?_⟩
      rw [List.erase_comm]
      exact del_ok t _ (hn.erase i) h4 ((List.mem_erase_of_ne (fun h => hij h.symm)).2 hj)
  | .alt t u, rem, hn, ⟨h1, h2⟩, hj => ⟨del_ok t rem hn h1 hj, del_ok u rem hn h2 hj⟩
theorem take_ok {j : Nat} : ∀ (t t' : OT) (rem : List Nat), rem.Nodup → OkT ops t rem → j ∈ rem → t.take ops j = some t' → OkT ops t' (rem.erase j)
  | .nil, _, _, _, _, _, h => by simp [OT.take] at h
  | .op i t, t', rem, hn, ⟨⟨o, h1, h1'⟩, h2, h3, h4⟩, hj, h => by
    unfold OT.take at h
    split at h
    · rename_i hij
      subst hij
      cases h
      exact h4
    · rename_i hij
      split at h
      · cases h
      · cases hx : t.take ops j with
        | none => rw [hx] at h; cases h
        | some x =>
          rw [hx] at h
          cases h
          refine ⟨⟨o, h1, fun e he hb hm => h1' e he hb (List.mem_of_mem_erase hm)⟩, (List.mem_erase_of_ne hij).2 h2, fun b hb => h3 b (List.mem_of_mem_erase hb), ?_⟩
          rw [List.erase_comm]
          exact take_ok t x _ (hn.erase i) h4 ((List.mem_erase_of_ne (fun h => hij h.symm)).2 hj) hx
  | .alt t u, t', rem, hn, ⟨h1, h2⟩, hj, h => by
    unfold OT.take at h
    split at h
    · rename_i x hx
      cases h
      exact take_ok t _ rem hn h1 hj hx
    · exact take_ok u t' rem hn h2 hj h
theorem take_del {j q : Nat} (hq : isEff ops q = false) (hj : isEff ops j = true) : ∀ t : OT, (t.del q).take ops j = (t.take ops j).map (OT.del q)
  | .nil => rfl
  | .op i t => by
    have hjq : j ≠ q := fun h => by rw [h, hq] at hj; cases hj
    by_cases hiq : i = q
    · subst hiq
      have e1 : (OT.op i t).del i = t := by simp [OT.del]
      rw [e1]
      simp only [OT.take, if_neg (fun h : i = j => hjq h.symm), hq, Bool.false_eq_true, if_false]
      cases t.take ops j with
      | none => rfl
      | some x => simp [OT.del]
    · have e1 : (OT.op i t).del q = .op i (t.del q) := by simp [OT.del, hiq]
      rw [e1]
      simp only [OT.take]
      split
      · rfl
      · split
        · rfl
        · rw [take_del hq hj t]
          cases t.take ops j with
          | none => rfl
          | some x => simp [OT.del, hiq]
  | .alt t u => by
    simp only [OT.del, OT.take, take_del hq hj t, take_del hq hj u]
    cases t.take ops j with
    | none => rfl
    | some x => rfl
theorem effs_del {q : Nat} (hq : isEff ops q = false) : ∀ t : OT, effsT ops (t.del q) = effsT ops t
  | .nil => rfl
  | .op i t => by
    unfold OT.del
    split
    · rename_i h
      subst h
      simp [effsT, hq]
    · simp only [effsT, effs_del hq t]
  | .alt t _ => by simp only [OT.del, effsT, effs_del hq t]
theorem effs_eff : ∀ (t : OT) (j : Nat), j ∈ effsT ops t → isEff ops j = true
  | .nil, j, h => by simp [effsT] at h
  | .op i t, j, h => by
    unfold effsT at h
    split at h
    · rename_i hi
      rcases List.mem_cons.1 h with rfl | h
      · exact hi
      · exact effs_eff t j h
    · exact effs_eff t j h
  | .alt t _, j, h => effs_eff t j h
theorem effs_rem : ∀ (t : OT) (rem : List Nat), OkT ops t rem → (∀ j, j ∈ effsT ops t → j ∈ rem) ∧ ∀ j, j ∈ rem → isEff ops j = true → j ∈ effsT ops t
  | .nil, rem, h => by
    have : rem = [] := h
    subst this
    exact ⟨fun j h => by simp [effsT] at h, fun j h => by cases h⟩
  | .op i t, rem, ⟨_, h2, _, h4⟩ => by
    obtain ⟨ih1, ih2⟩ := effs_rem t _ h4
    unfold effsT
    constructor
    · intro j hj
      split at hj
      · rcases List.mem_cons.1 hj with rfl | hj
        · exact h2
        · exact List.mem_of_mem_erase (ih1 j hj)
      · exact List.mem_of_mem_erase (ih1 j hj)
    · intro j hj he
      by_cases hij : j = i
      · subst hij
        rw [if_pos he]
        exact List.mem_cons_self
      · have := ih2 j ((List.mem_erase_of_ne hij).2 hj) he
        split
        · exact List.mem_cons_of_mem _ this
        · exact this
  | .alt t _, rem, ⟨h, _⟩ => effs_rem t rem h
theorem cov_del {q : Nat} (hq : isEff ops q = false) (ms : List Nat) : ∀ (n : Nat) (t : OT), covT ops ms n t = true → covT ops ms n (t.del q) = true
  | 0, t, h => by simpa [covT, effs_del hq] using h
  | n + 1, t, h => by
    simp only [covT, effs_del hq, List.all_eq_true] at h ⊢
    intro j hj
    have h1 := h j hj
    rw [Bool.or_eq_true] at h1 ⊢
    rcases h1 with h1 | h1
    · exact .inl h1
    · refine .inr ?_
      rw [take_del hq (effs_eff t j hj)]
      cases hx : t.take ops j with
      | none => rw [hx] at h1; cases h1
      | some x =>
        rw [hx] at h1
        exact cov_del hq ms n x h1

theorem pair_apart (hF : FlM ops) {i j : Nat} {oi oj : Oper} (hij : i ≠ j) (hi : ops[i]? = some oi) (hj : ops[j]? = some oj) (h1 : ((masks ops.toList).getD j 0).testBit i = false) (h2 : ((masks ops.toList).getD i 0).testBit j = false) : oi.apart ops oj = true := by
  rcases hF.pair i j oi oj hij hi hj with h | h | h
  · rw [h1] at h; cases h
  · rw [h2] at h; cases h
  · exact h

theorem swapT_quiet (hF : FlM ops) {j : Nat} {oj : Oper} (hj : ops[j]? = some oj) (hne : eff oj.op = false) : ∀ (t : OT) (rem : List Nat) (a : Act) (w : World), rem.Nodup → OkT ops t rem → j ∈ rem → (∀ i ∈ rem, ((masks ops.toList).getD j 0).testBit i = false) →
    Region.wanted oj (yielded ops a.tmps) = true → C w → wpT P ops C K t a w → ∃ v, (∀ w', C w' → (execOp a.eval oj).run P w' = .ok (.value v) w') ∧ wpT P ops C K (t.del j) (a.put oj.dst v) w
  | .nil, rem, a, w, hn, hok, hjr, hm, hw, hC, h => by
    have : rem = [] := hok
    subst this
    cases hjr
  | .alt t u, rem, a, w, hn, ⟨o1, o2⟩, hjr, hm, hw, hC, ⟨h1, h2⟩ => by
    obtain ⟨v, hv, h3⟩ := swapT_quiet hF hj hne t rem a w hn o1 hjr hm hw hC h1
    obtain ⟨v', hv', h4⟩ := swapT_quiet hF hj hne u rem a w hn o2 hjr hm hw hC h2
    have e1 := hv w hC
    have e2 := hv' w hC
    rw [e1] at e2
    have : v = v' := by simpa using e2
    subst this
    exact ⟨v, hv, h3, h4⟩
  | .op i t, rem, a, w, hn, ⟨⟨oi, hi, _⟩, hir, him, hok⟩, hjr, hm, hw, hC, h => by
    by_cases hij : i = j
    · subst hij
      rw [hj] at hi
      obtain rfl := Option.some.inj hi
      simp only [wpT, hj, hw, if_true, hne, Bool.false_eq_true, if_false] at h
      simpa [OT.del] using h
    · have hji : j ∈ rem.erase i := (List.mem_erase_of_ne (fun h => hij h.symm)).2 hjr
      have ih' := fun a w => swapT_quiet hF hj hne t (rem.erase i) a w (hn.erase i) hok hji (fun b hb => hm b (List.mem_of_mem_erase hb))
      have hap := pair_apart hF hij hi hj (hm i hir) (him j hjr)
      obtain ⟨p1, p2, p3⟩ := Oper.apart_spec hap
      have kj := hF.kind j oj hj
      have ki := hF.kind i oi hi
      have ej : ∀ (a : Act) v, execOp (a.put oi.dst v).eval oj = execOp a.eval oj := fun a v => exec_put kj a oi.dst v p1
      have ei : ∀ (a : Act) v, execOp (a.put oj.dst v).eval oi = execOp a.eval oi := fun a v => exec_put ki a oj.dst v p3
      have wj : ∀ (a : Act) v, Region.wanted oj (yielded ops (a.put oi.dst v).tmps) = Region.wanted oj (yielded ops a.tmps) := fun a v => wanted_put oj a oi.dst v p1
      have wi : ∀ (a : Act) v, Region.wanted oi (yielded ops (a.put oj.dst v).tmps) = Region.wanted oi (yielded ops a.tmps) := fun a v => wanted_put oi a oj.dst v p3
      have cm : ∀ (a : Act) u v, (a.put oi.dst u).put oj.dst v = (a.put oj.dst v).put oi.dst u := fun a u v => Act.put_comm a u v p2
      have ed : (OT.op i t).del j = .op i (t.del j) := by simp [OT.del, hij]
      rw [ed]
      simp only [wpT, hi] at h ⊢
      by_cases hwi : Region.wanted oi (yielded ops a.tmps) = true
      · simp only [hwi, if_true] at h
        by_cases he : eff oi.op = true
        · simp only [he, if_true] at h
          obtain ⟨v0, w0, hC0, h0⟩ := h.some
          obtain ⟨v, hv, _⟩ := ih' _ w0 (by rw [wj]; exact hw) hC0 h0
          simp only [ej] at hv
          refine ⟨v, hv, ?_⟩
          rw [wi]
          simp only [hwi, if_true, he]
          have h1 : effStep P oi (a.put oj.dst v) w (fun u w' => C w' ∧ wpT P ops C K t (a.put oi.dst u) w') := by
            unfold effStep at h ⊢
            rw [ei]
            exact h
          refine h1.mono fun u w' ⟨hC', h2⟩ => ⟨hC', ?_⟩
          obtain ⟨v', hv', h3⟩ := ih' _ w' (by rw [wj]; exact hw) hC' h2
          simp only [ej] at hv'
          have e1 := hv w hC
          have e2 := hv' w hC
          rw [e1] at e2
          have : v = v' := by simpa using e2
          subst this
          rw [cm] at h3
          exact h3
        · simp only [he] at h
          obtain ⟨u, hu, h⟩ := h
          obtain ⟨v, hv, h3⟩ := ih' _ w (by rw [wj]; exact hw) hC h
          simp only [ej] at hv
          refine ⟨v, hv, ?_⟩
          rw [wi]
          simp only [hwi, if_true, he]
          refine ⟨u, fun w' hC' => by rw [ei]; exact hu w' hC', ?_⟩
          rw [cm] at h3
          exact h3
      · simp only [hwi] at h
        obtain ⟨v, hv, h3⟩ := ih' _ w (by rw [wj]; exact hw) hC h
        simp only [ej] at hv
        refine ⟨v, hv, ?_⟩
        rw [wi]
        simp only [hwi]
        rw [cm] at h3
        exact h3

theorem swapT_skip (hF : FlM ops) {j : Nat} {oj : Oper} (hj : ops[j]? = some oj) : ∀ (t : OT) (rem : List Nat) (a : Act) (w : World), rem.Nodup → OkT ops t rem → j ∈ rem → (∀ i ∈ rem, ((masks ops.toList).getD j 0).testBit i = false) →
    Region.wanted oj (yielded ops a.tmps) = false → wpT P ops C K t a w → wpT P ops C K (t.del j) (a.put oj.dst undef) w
  | .nil, rem, a, w, hn, hok, hjr, hm, hw, h => by
    have : rem = [] := hok
    subst this
    cases hjr
  | .alt t u, rem, a, w, hn, ⟨o1, o2⟩, hjr, hm, hw, ⟨h1, h2⟩ => ⟨swapT_skip hF hj t rem a w hn o1 hjr hm hw h1, swapT_skip hF hj u rem a w hn o2 hjr hm hw h2⟩
  | .op i t, rem, a, w, hn, ⟨⟨oi, hi, _⟩, hir, him, hok⟩, hjr, hm, hw, h => by
    by_cases hij : i = j
    · subst hij
      rw [hj] at hi
      obtain rfl := Option.some.inj hi
      simp only [wpT, hj, hw, Bool.false_eq_true, if_false] at h
      simpa [OT.del] using h
    · have hji : j ∈ rem.erase i := (List.mem_erase_of_ne (fun h => hij h.symm)).2 hjr
      have ih' := fun a w => swapT_skip hF hj t (rem.erase i) a w (hn.erase i) hok hji (fun b hb => hm b (List.mem_of_mem_erase hb))
      have hap := pair_apart hF hij hi hj (hm i hir) (him j hjr)
      obtain ⟨p1, p2, p3⟩ := Oper.apart_spec hap
      have ki := hF.kind i oi hi
      have ei : ∀ (a : Act) v, execOp (a.put oj.dst v).eval oi = execOp a.eval oi := fun a v => exec_put ki a oj.dst v p3
      have wj : ∀ (a : Act) v, Region.wanted oj (yielded ops (a.put oi.dst v).tmps) = Region.wanted oj (yielded ops a.tmps) := fun a v => wanted_put oj a oi.dst v p1
      have wi : ∀ (a : Act) v, Region.wanted oi (yielded ops (a.put oj.dst v).tmps) = Region.wanted oi (yielded ops a.tmps) := fun a v => wanted_put oi a oj.dst v p3
      have cm : ∀ (a : Act) u v, (a.put oi.dst u).put oj.dst v = (a.put oj.dst v).put oi.dst u := fun a u v => Act.put_comm a u v p2
      have ed : (OT.op i t).del j = .op i (t.del j) := by simp [OT.del, hij]
      rw [ed]
      simp only [wpT, hi] at h ⊢
      rw [wi]
      by_cases hwi : Region.wanted oi (yielded ops a.tmps) = true
      · simp only [hwi, if_true] at h ⊢
        by_cases he : eff oi.op = true
        · simp only [he, if_true] at h ⊢
          have h1 : effStep P oi (a.put oj.dst undef) w (fun u w' => C w' ∧ wpT P ops C K t (a.put oi.dst u) w') := by
            unfold effStep at h ⊢
            rw [ei]
            exact h
          refine h1.mono fun u w' ⟨hC', h2⟩ => ⟨hC', ?_⟩
          have h3 := ih' _ w' (by rw [wj]; exact hw) h2
          rw [cm] at h3
          exact h3
        · simp only [he] at h ⊢
          obtain ⟨u, hu, h⟩ := h
          have h3 := ih' _ w (by rw [wj]; exact hw) h
          refine ⟨u, fun w' hC' => by rw [ei]; exact hu w' hC', ?_⟩
          rw [cm] at h3
          exact h3
      · simp only [hwi] at h ⊢
        have h3 := ih' _ w (by rw [wj]; exact hw) h
        rw [cm] at h3
        exact h3

theorem swapT_eff (hF : FlM ops) {j : Nat} {oj : Oper} (hj : ops[j]? = some oj) (he : eff oj.op = true) : ∀ (t t' : OT) (rem : List Nat) (a : Act) (w : World), rem.Nodup → OkT ops t rem → j ∈ rem → (∀ i ∈ rem, ((masks ops.toList).getD j 0).testBit i = false) →
    Region.wanted oj (yielded ops a.tmps) = true → t.take ops j = some t' → wpT P ops C K t a w → effStep P oj a w (fun v w' => C w' ∧ wpT P ops C K t' (a.put oj.dst v) w')
  | .nil, _, _, _, _, _, _, _, _, _, ht, _ => by simp [OT.take] at ht
  | .alt t u, t', rem, a, w, hn, ⟨o1, o2⟩, hjr, hm, hw, ht, ⟨h1, h2⟩ => by
    unfold OT.take at ht
    split at ht
    · rename_i x hx
      cases ht
      exact swapT_eff hF hj he t _ rem a w hn o1 hjr hm hw hx h1
    · exact swapT_eff hF hj he u t' rem a w hn o2 hjr hm hw ht h2
  | .op i t, t', rem, a, w, hn, ⟨⟨oi, hi, _⟩, hir, him, hok⟩, hjr, hm, hw, ht, h => by
    unfold OT.take at ht
    split at ht
    · rename_i hij
      subst hij
      cases ht
      rw [hj] at hi
      obtain rfl := Option.some.inj hi
      simp only [wpT, hj, hw, if_true, he] at h
      exact h
    · rename_i hij
      split at ht
      · cases ht
      · rename_i hei0
        have hei : eff oi.op = false := by simpa [isEff, hi] using hei0
        cases hx : t.take ops j with
        | none => rw [hx] at ht; cases ht
        | some x =>
          rw [hx] at ht
          cases ht
          have hji : j ∈ rem.erase i := (List.mem_erase_of_ne (fun h => hij h.symm)).2 hjr
          have ih' := fun a w => swapT_eff hF hj he t x (rem.erase i) a w (hn.erase i) hok hji (fun b hb => hm b (List.mem_of_mem_erase hb))
          have hap := pair_apart hF hij hi hj (hm i hir) (him j hjr)
          obtain ⟨p1, p2, p3⟩ := Oper.apart_spec hap
          have kj := hF.kind j oj hj
          have ki := hF.kind i oi hi
          have ej : ∀ (a : Act) v, execOp (a.put oi.dst v).eval oj = execOp a.eval oj := fun a v => exec_put kj a oi.dst v p1
          have ei : ∀ (a : Act) v, execOp (a.put oj.dst v).eval oi = execOp a.eval oi := fun a v => exec_put ki a oj.dst v p3
          have wj : ∀ (a : Act) v, Region.wanted oj (yielded ops (a.put oi.dst v).tmps) = Region.wanted oj (yielded ops a.tmps) := fun a v => wanted_put oj a oi.dst v p1
          have wi : ∀ (a : Act) v, Region.wanted oi (yielded ops (a.put oj.dst v).tmps) = Region.wanted oi (yielded ops a.tmps) := fun a v => wanted_put oi a oj.dst v p3
          have cm : ∀ (a : Act) u v, (a.put oi.dst u).put oj.dst v = (a.put oj.dst v).put oi.dst u := fun a u v => Act.put_comm a u v p2
          simp only [wpT, hi] at h
          by_cases hwi : Region.wanted oi (yielded ops a.tmps) = true
          · simp only [hwi, if_true, hei, Bool.false_eq_true, if_false] at h
            obtain ⟨u, hu, h⟩ := h
            have h3 := ih' _ w (by rw [wj]; exact hw) hx h
            have h4 : effStep P oj a w (fun v w' => C w' ∧ wpT P ops C K x ((a.put oi.dst u).put oj.dst v) w') := by
              unfold effStep at h3 ⊢
              rw [ej] at h3
              exact h3
            refine h4.mono fun v w' ⟨hC', h5⟩ => ⟨hC', ?_⟩
            simp only [wpT, hi]
            rw [wi]
            simp only [hwi, if_true, hei, Bool.false_eq_true, if_false]
            refine ⟨u, fun w' hC' => by rw [ei]; exact hu w' hC', ?_⟩
            rw [cm] at h5
            exact h5
          · simp only [hwi, Bool.false_eq_true, if_false] at h
            have h3 := ih' _ w (by rw [wj]; exact hw) hx h
            have h4 : effStep P oj a w (fun v w' => C w' ∧ wpT P ops C K x ((a.put oi.dst undef).put oj.dst v) w') := by
              unfold effStep at h3 ⊢
              rw [ej] at h3
              exact h3
            refine h4.mono fun v w' ⟨hC', h5⟩ => ⟨hC', ?_⟩
            simp only [wpT, hi]
            rw [wi]
            simp only [hwi, Bool.false_eq_true, if_false]
            rw [cm] at h5
            exact h5

/-- An operation that is left out: the orders in which it stands first, without it. -/
theorem swapT_skipE (hF : FlM ops) {j : Nat} {oj : Oper} (hj : ops[j]? = some oj) : ∀ (t t' : OT) (rem : List Nat) (a : Act) (w : World), rem.Nodup → OkT ops t rem → j ∈ rem → (∀ i ∈ rem, ((masks ops.toList).getD j 0).testBit i = false) →
    Region.wanted oj (yielded ops a.tmps) = false → t.take ops j = some t' → wpT P ops C K t a w → wpT P ops C K t' (a.put oj.dst undef) w
  | .nil, _, _, _, _, _, _, _, _, _, ht, _ => by simp [OT.take] at ht
  | .alt t u, t', rem, a, w, hn, ⟨o1, o2⟩, hjr, hm, hw, ht, ⟨h1, h2⟩ => by
    unfold OT.take at ht
    split at ht
    · rename_i x hx
      cases ht
      exact swapT_skipE hF hj t _ rem a w hn o1 hjr hm hw hx h1
    · exact swapT_skipE hF hj u t' rem a w hn o2 hjr hm hw ht h2
  | .op i t, t', rem, a, w, hn, ⟨⟨oi, hi, _⟩, hir, him, hok⟩, hjr, hm, hw, ht, h => by
    unfold OT.take at ht
    split at ht
    · rename_i hij
      subst hij
      cases ht
      rw [hj] at hi
      obtain rfl := Option.some.inj hi
      simp only [wpT, hj, hw, Bool.false_eq_true, if_false] at h
      exact h
    · rename_i hij
      split at ht
      · cases ht
      · rename_i hei0
        have hei : eff oi.op = false := by simpa [isEff, hi] using hei0
        cases hx : t.take ops j with
        | none => rw [hx] at ht; cases ht
        | some x =>
          rw [hx] at ht
          cases ht
          have hji : j ∈ rem.erase i := (List.mem_erase_of_ne (fun h => hij h.symm)).2 hjr
          have ih' := fun a w => swapT_skipE hF hj t x (rem.erase i) a w (hn.erase i) hok hji (fun b hb => hm b (List.mem_of_mem_erase hb))
          have hap := pair_apart hF hij hi hj (hm i hir) (him j hjr)
          obtain ⟨p1, p2, p3⟩ := Oper.apart_spec hap
          have ki := hF.kind i oi hi
          have ei : ∀ (a : Act) v, execOp (a.put oj.dst v).eval oi = execOp a.eval oi := fun a v => exec_put ki a oj.dst v p3
          have wj : ∀ (a : Act) v, Region.wanted oj (yielded ops (a.put oi.dst v).tmps) = Region.wanted oj (yielded ops a.tmps) := fun a v => wanted_put oj a oi.dst v p1
          have wi : ∀ (a : Act) v, Region.wanted oi (yielded ops (a.put oj.dst v).tmps) = Region.wanted oi (yielded ops a.tmps) := fun a v => wanted_put oi a oj.dst v p3
          have cm : ∀ (a : Act) u v, (a.put oi.dst u).put oj.dst v = (a.put oj.dst v).put oi.dst u := fun a u v => Act.put_comm a u v p2
          simp only [wpT, hi] at h ⊢
          rw [wi]
          by_cases hwi : Region.wanted oi (yielded ops a.tmps) = true
          · simp only [hwi, if_true, hei, Bool.false_eq_true, if_false] at h ⊢
            obtain ⟨u, hu, h⟩ := h
            have h3 := ih' _ w (by rw [wj]; exact hw) hx h
            refine ⟨u, fun w' hC' => by rw [ei]; exact hu w' hC', ?_⟩
            rw [cm] at h3
            exact h3
          · simp only [hwi, Bool.false_eq_true, if_false] at h ⊢
            have h3 := ih' _ w (by rw [wj]; exact hw) hx h
            rw [cm] at h3
            exact h3

theorem okT_end : ∀ (t : OT) (a : Act) (w : World), OkT ops t [] → wpT P ops C K t a w → K a w
  | .nil, _, _, _, h => h
  | .op i t, _, _, ⟨_, h2, _⟩, _ => by cases h2
  | .alt t _, a, w, ⟨h1, _⟩, ⟨h2, _⟩ => okT_end t a w h1 h2
theorem okT_first : ∀ (t : OT) (rem : List Nat), OkT ops t rem → rem ≠ [] → ∃ i ∈ rem, ∃ o, ops[i]? = some o ∧ ∀ e ∈ o.after, Region.binds .any e = true → e.on ∉ rem
  | .nil, rem, h, hne => absurd h hne
  | .op i t, rem, ⟨h1, h2, _⟩, _ => ⟨i, h2, h1⟩
  | .alt t _, rem, ⟨h1, _⟩, hne => okT_first t rem h1 hne

variable {ro : Cx} {Q : Fin}
theorem any_of_T (hF : FlM ops) (hK : ∀ a w, C w → K a w → Q .normal a w) : ∀ (fuel m : Nat) (t : OT) (rem : List Nat) (listed : Array Bool) (a : Act) (w : World),
    rem.length = fuel → rem.Nodup → listed.size = ops.size → (∀ i, i ∈ rem ↔ i < ops.size ∧ listed.getD i true = false) →
    (∀ (m : Nat) o, ops[m]? = some o → listed.getD m false = true → ∀ e ∈ o.after, Region.binds .any e = true → listed.getD e.on false = true) →
    OkT ops t rem → covT ops (masks ops.toList) m t = true → C w → wpT P ops C K t a w → wpAnyIn (FR ro.ro) 0 P .any ops Q fuel listed a w := by
  intro fuel
  induction fuel with
  | zero =>
    intro m t rem listed a w hl hn hsz hmem hcl hok hcov hC h
    have : rem = [] := by simpa using hl
    subst this
    refine ⟨?_, hK _ _ hC (okT_end t a w hok h)⟩
    refine List.eq_nil_iff_forall_not_mem.2 fun i hi => ?_
    obtain ⟨h0, o, ho, _⟩ := mem_ready.1 hi
    exact absurd ((hmem i).2 ⟨(Array.getElem?_eq_some_iff.1 ho).1, h0⟩) (by simp)
  | succ fuel ih =>
    intro m t rem listed a w hl hn hsz hmem hcl hok hcov hC h
    have hlist : ∀ x, x < ops.size → x ∉ rem → listed.getD x false = true := by
      intro x hx hr
      have h3 : ¬ (x < ops.size ∧ listed.getD x true = false) := fun hx => hr ((hmem x).2 hx)
      have h4 : x < listed.size := by omega
      simp only [Array.getD_eq_getD_getElem?, Array.getElem?_eq_getElem h4, Option.getD_some] at h3 ⊢
      cases hc : listed[x] with
      | true => rfl
      | false => exact absurd ⟨hx, hc⟩ h3
    have hunl : ∀ x, listed.getD x false = true → x ∉ rem := by
      intro x hx hr
      have h0 := ((hmem x).1 hr).2
      simp only [Array.getD_eq_getD_getElem?] at hx h0
      cases hc : listed[x]? <;> simp [hc] at hx h0
      simp [hx] at h0
    refine ⟨fun h0 => ?_, fun j hj => ?_⟩
    · exfalso
      obtain ⟨i, hir, o, ho, hd⟩ := okT_first t rem hok (by rintro rfl; simp at hl)
      have hrd : i ∈ Region.ready .any ops listed := by
        refine mem_ready.2 ⟨((hmem i).1 hir).2, o, ho, fun e he hb => ?_⟩
        by_cases hes : e.on < ops.size
        · exact hlist _ hes (hd e he hb)
        · exact (hF.edge i o ho e he hb hes).elim
      rw [h0] at hrd
      cases hrd
    · obtain ⟨h0, oj, hoj, hre⟩ := mem_ready.1 hj
      have hjr : j ∈ rem := (hmem j).2 ⟨(Array.getElem?_eq_some_iff.1 hoj).1, h0⟩
      have hun : ∀ i ∈ rem, ((masks ops.toList).getD j 0).testBit i = false := fun i hi => by
        cases hb : ((masks ops.toList).getD j 0).testBit i with
        | false => rfl
        | true => exact absurd hi (hunl i (masks_spec (D := fun m => listed.getD m false = true) (fun m o hm hD e he hb => hcl m o hm hD e he hb) j oj hoj (fun e he hb => hre e he hb) i hb))
      have next : ∀ m (t' : OT) a w, OkT ops t' (rem.erase j) → covT ops (masks ops.toList) m t' = true → C w → wpT P ops C K t' a w → wpAnyIn (FR ro.ro) 0 P .any ops Q fuel (listed.setIfInBounds j true) a w := by
        intro m t' a w hok hcov hC h
        refine ih m t' (rem.erase j) _ a w ?_ (hn.erase j) (by simp [hsz]) ?_ ?_ hok hcov hC h
        · rw [List.length_erase_of_mem hjr]; omega
        · intro i
          constructor
          · intro hi
            have hne : j ≠ i := fun e => by subst e; exact absurd hi (hn.not_mem_erase)
            have h1 := (hmem i).1 (List.mem_of_mem_erase hi)
            exact ⟨h1.1, by rw [getD_set_ne true hne]; exact h1.2⟩
          · rintro ⟨h1, h2⟩
            have hne : j ≠ i := fun e => by
              subst e
              simp [hsz, h1] at h2
            rw [getD_set_ne true hne] at h2
            exact (List.mem_erase_of_ne (fun h => hne h.symm)).2 ((hmem i).2 ⟨h1, h2⟩)
        · intro m o hm hD e he hb
          by_cases hmj : j = m
          · subst hmj
            rw [hoj] at hm
            obtain rfl := Option.some.inj hm
            exact getD_set_true (hre e he hb)
          · rw [getD_set_ne false hmj] at hD
            exact getD_set_true (hcl m o hm hD e he hb)
      unfold wpOpIn
      simp only [hoj]
      by_cases hw : Region.wanted oj (yielded ops a.tmps) = true
      · simp only [hw, if_true]
        cases he : eff oj.op with
        | true =>
          have hej : isEff ops j = true := by simp [isEff, hoj, he]
          have hje := (effs_rem t rem hok).2 j hjr hej
          cases m with
          | zero =>
            simp only [covT, List.isEmpty_iff] at hcov
            rw [hcov] at hje
            cases hje
          | succ m =>
            simp only [covT, List.all_eq_true] at hcov
            have h1 := hcov j hje
            rw [Bool.or_eq_true] at h1
            rcases h1 with h1 | h1
            · obtain ⟨i, hi, hb⟩ := List.any_eq_true.1 h1
              rw [hun i ((effs_rem t rem hok).1 i hi)] at hb
              cases hb
            · cases hx : t.take ops j with
              | none => rw [hx] at h1; cases h1
              | some x =>
                rw [hx] at h1
                have h2 := swapT_eff hF hoj he t x rem a w hn hok hjr hun hw hx h
                exact effStep.wpIn (hF.kind j oj hoj) (h2.mono fun v w' ⟨hC', h3⟩ => next m x _ _ (take_ok t x rem hn hok hjr hx) h1 hC' h3)
        | false =>
          have hej : isEff ops j = false := by simp [isEff, hoj, he]
          obtain ⟨v, hv, h2⟩ := swapT_quiet hF hoj he t rem a w hn hok hjr hun hw hC h
          exact upon_FR (fun c hc => by have := hF.kind j oj hoj; rw [hc] at this; cases this) (hv w hC) (next m _ _ _ (del_ok t rem hn hok hjr) (cov_del hej _ m t hcov) hC h2)
      · have hw' : Region.wanted oj (yielded ops a.tmps) = false := by simpa using hw
        simp only [hw', Bool.false_eq_true, if_false]
        cases he : eff oj.op with
        | false =>
          have hej : isEff ops j = false := by simp [isEff, hoj, he]
          exact ⟨fun f _ => fr_fn f, next m _ _ _ (del_ok t rem hn hok hjr) (cov_del hej _ m t hcov) hC (swapT_skip hF hoj t rem a w hn hok hjr hun hw' h)⟩
        | true =>
          have hej : isEff ops j = true := by simp [isEff, hoj, he]
          have hje := (effs_rem t rem hok).2 j hjr hej
          cases m with
          | zero =>
            simp only [covT, List.isEmpty_iff] at hcov
            rw [hcov] at hje
            cases hje
          | succ m =>
            simp only [covT, List.all_eq_true] at hcov
            have h1 := hcov j hje
            rw [Bool.or_eq_true] at h1
            rcases h1 with h1 | h1
            · obtain ⟨i, hi, hb⟩ := List.any_eq_true.1 h1
              rw [hun i ((effs_rem t rem hok).1 i hi)] at hb
              cases hb
            · cases hx : t.take ops j with
              | none => rw [hx] at h1; cases h1
              | some x =>
                rw [hx] at h1
                exact ⟨fun f _ => fr_fn f, next m _ _ _ (take_ok t x rem hn hok hjr hx) h1 hC (swapT_skipE hF hoj t x rem a w hn hok hjr hun hw' hx h)⟩

/-- The whole check. -/
def treeB (ops : Array Oper) (t : OT) : Bool := pairsB ops (masks ops.toList) && okT ops (masks ops.toList) t (List.range ops.size) && covT ops (masks ops.toList) ops.size t
theorem wpIn_region_T {id : Nat} {a : Act} {w : World} (t : OT) (hm : P.follows .mixedOrders = true) (hB : treeB ops t = true) (hC : C { w with drawn := w.drawn + 1 })
    (hK : ∀ a w, C w → K a w → Q .normal a w) (h : wpT P ops C K t a { w with drawn := w.drawn + 1 }) : (Code.region id ops true).wpIn (FR ro.ro) 0 P Q a w := by
  simp only [treeB, Bool.and_eq_true] at hB
  obtain ⟨⟨h1, h2⟩, h3⟩ := hB
  refine wpIn_region_any hm (any_of_T (pairsB_spec h1) hK ops.size ops.size t (List.range ops.size) _ a _ (by simp) List.nodup_range (by simp) ?_ ?_ (okT_spec t _ h2) h3 hC h)
  · intro i
    simp only [List.mem_range]
    constructor
    · intro hi
      exact ⟨hi, by simp [hi]⟩
    · exact fun hi => hi.1
  · intro m o _ hD
    simp only [Array.getD_eq_getD_getElem?, Array.getElem?_replicate] at hD
    split at hD <;> simp at hD
end
end Go.Eng

/- The engine, part B11: walks of a region by a tree of orders. -/
namespace Go.Eng
set_option maxRecDepth 4000
open Go Go.RowKit

section
variable {P : Program} {ro : Cx} {n : Nat} {F : Fin} {w0 : World} {M : Nat → Prop} {k : List It} {ops : Array Oper} {e : Env} {H Hq : List Ck}

structure QT (P : Program) (ro : Cx) (n : Nat) (F : Fin) (w0 : World) (M : Nat → Prop) (k : List It) (ops : Array Oper) (Hq : List Ck) (t : OT) (e : Env) (H : List Ck) : Prop where
  h : ∀ w, Sat w0 M (H ++ Hq) w → ∀ a, Fits n e a → a.defers = ro.ds → wpT P ops (Sat w0 M Hq) (fun a w => S P ro.ro F k .normal a w) t a w
def chainT : List Nat → OT → OT
  | [], t => t
  | i :: l, t => .op i (chainT l t)

theorem q_drawT {id : Nat} {l : List Oper} (t : OT) (Hq Hm : List Ck) (hH : Sp H (Hm ++ Hq)) (hm : P.follows .mixedOrders = true) (hB : treeB l.toArray t = true) (h : QT P ro n F w0 M k l.toArray Hq t e Hm) :
    Q P ro n F w0 M (.code (.region id l.toArray true) :: k) e H := .mk fun w hs a hf hd => by
  have hs1 := (hs.sp hH).keep (Chg.drew (N := []) w)
  exact wpIn_region_T t hm hB (C := Sat w0 M Hq) hs1.right (fun _ _ _ h => h) (h.h _ hs1 a hf hd)
theorem qt_nil (h : Q P ro n F w0 M k e (H ++ Hq)) : QT P ro n F w0 M k ops Hq .nil e H := ⟨fun w hs a hf hd => h.h w hs a hf hd⟩
theorem qt_alt {t u : OT} (h1 : QT P ro n F w0 M k ops Hq t e H) (h2 : QT P ro n F w0 M k ops Hq u e H) : QT P ro n F w0 M k ops Hq (.alt t u) e H :=
  ⟨fun w hs a hf hd => ⟨h1.h w hs a hf hd, h2.h w hs a hf hd⟩⟩
theorem wpT_chain {C : World → Prop} {K : Act → World → Prop} {t : OT} : ∀ (l : List Nat) (lo : List Oper) (a : Act) (w : World), l.map (fun i => ops[i]?) = lo.map some → wpFlL P ops C (wpT P ops C K t) lo a w → wpT P ops C K (chainT l t) a w
  | [], [], a, w, _, h => h
  | [], _ :: _, _, _, hl, _ => by cases hl
  | _ :: _, [], _, _, hl, _ => by cases hl
  | i :: l, o :: lo, a, w, hl, h => by
    simp only [List.map_cons, List.cons.injEq] at hl
    have ih : ∀ a w, wpFlL P ops C (wpT P ops C K t) lo a w → wpT P ops C K (chainT l t) a w := fun a w => wpT_chain l lo a w hl.2
    simp only [chainT, wpT, hl.1]
    simp only [wpFlL] at h
    split
    · rename_i hw
      rw [if_pos hw] at h
      split
      · rename_i he
        rw [if_pos he] at h
        exact h.mono fun v w' ⟨hC, h2⟩ => ⟨hC, ih _ _ h2⟩
      · rename_i he
        rw [if_neg he] at h
        obtain ⟨v, hv, h2⟩ := h
        exact ⟨v, hv, ih _ _ h2⟩
    · rename_i hw
      rw [if_neg hw] at h
      exact ih _ _ h
/-- The operations of these numbers. -/
inductive PickL (ops : Array Oper) : List Nat → List Oper → Prop
  | nil : PickL ops [] []
  | cons {i : Nat} {o : Oper} {l : List Nat} {lo : List Oper} : ops[i]? = some o → PickL ops l lo → PickL ops (i :: l) (o :: lo)
theorem PickL.map {l : List Nat} {lo : List Oper} (h : PickL ops l lo) : l.map (fun i => ops[i]?) = lo.map some := by
  induction h with
  | nil => rfl
  | cons h1 _ ih => simp [h1, ih]
theorem qt_seg {l : List Nat} {lo : List Oper} {t : OT} (hl : PickL ops l lo)
    (h : ∀ K1 : Act → World → Prop, (∀ e' H', QT P ro n F w0 M k ops Hq t e' H' → Q P ro n F w0 M (.k K1 :: k) e' (H' ++ Hq)) → QF P ro n F w0 M (.k K1 :: k) ops Hq lo e H) : QT P ro n F w0 M k ops Hq (chainT l t) e H :=
  ⟨fun w hs a hf hd => by
    have h1 := h (wpT P ops (Sat w0 M Hq) (fun a w => S P ro.ro F k .normal a w) t) (fun e' H' hq => .mk fun w' hs' a' hf' hd' => hq.h w' hs' a' hf' hd')
    exact wpT_chain l lo a w hl.map (h1.h w hs a hf hd)⟩

/-- What follows, once for all the ways that lead there. -/
theorem q_cut {σ : Type} {c : Code} (env : σ → Env) (hp : σ → List Ck) (main : ∀ s, Q P ro n F w0 M k (env s) (hp s))
    (first : ∀ K2 : Act → World → Prop, (∀ s e' H', Sub (env s) e' → Sp H' (hp s) → Q P ro n F w0 M (.k K2 :: k) e' H') → Q P ro n F w0 M (.code c :: .k K2 :: k) e H) : Q P ro n F w0 M (.code c :: k) e H := by
  have h1 := first (fun a w => S P ro.ro F k .normal a w) (fun s e' H' hs hH => .mk fun w hw a hf hd => (main s).h w (hw.sp hH) a (hf.sub hs) hd)
  have e1 : S P ro.ro F (.k (fun a w => S P ro.ro F k .normal a w) :: k) = S P ro.ro F k := by
    funext x a w
    cases x <;> rfl
  refine .mk fun w hs a hf hd => ?_
  have h2 := h1.h w hs a hf hd
  simp only [S] at h2 ⊢
  simp only [S] at e1
  rw [e1] at h2
  exact h2
end
end Go.Eng

/- The engine, part B12: more about callbacks: pieces that others leave alone; maps in worlds that change. -/
namespace Go.Eng
set_option maxRecDepth 4000
open Go Go.RowKit

section
variable {P : Program} {T : Tab}
variable {ro : Cx} {n : Nat} {F : Fin} {w0 : World} {M : Nat → Prop} {k : List It} {ops : Array Oper} {rest : List Oper} {e : Env} {H Hq : List Ck}
variable {K : Value → Prop} {q : Value → Value → Bool} {kt et mt : TypeId}

/-- What stands beside is left alone. -/
theorem Sat.aside {w w' : World} {A R : List Ck} (h : Sat w0 M (A ++ R) w) (c : ChgP (DL A) w w') {x : Ck} (hx : x ∈ R) : x.p w' :=
  Ck.st (h.all x (List.mem_append_right _ hx)) c (fun b hb ⟨a, ha, hab⟩ => (List.pairwise_append.1 h.sep).2.2 a ha x hx b hab hb)
/-- What was there before is left alone. -/
theorem Sat.asideOld {w w' : World} {A R : List Ck} (h : Sat w0 M0 (A ++ R) w) (c : ChgP (DL A) w w') : Chg [] w0 w' :=
  h.chg0.old c (fun b ⟨a, ha, hab⟩ => (h.bd a (List.mem_append_left _ ha) b hab).2.resolve_left (fun h => h))

/-- Later changes of these pieces are changes of the first ones. -/
theorem Sat.later {w w' : World} {A B : List Ck} (h : Sat w0 (DL A) B w) (c : ChgP (DL B) w w') : ChgP (DL A) w0 w' := h.chg.upP c (fun k ⟨x, hx, hk⟩ => (h.bd x hx k hk).2)

theorem qf_fact {φ : Prop} (hf : ∀ w, Sat w0 M (H ++ Hq) w → φ) (h : φ → QF P ro n F w0 M k ops Hq rest e H) : QF P ro n F w0 M k ops Hq rest e H := .mk fun w hs => (h (hf w hs)).h w hs
theorem own_slice {w : World} {base e sz n : Nat} {v : Value} {xs : List Value} (h : w.ownsRow base e sz v n xs) : ∃ a m c, v = .slice a m c := by
  rcases h.2 with ⟨rfl, _⟩ | ⟨g, cap, cur, rfl, _⟩
  · exact ⟨_, _, _, rfl⟩
  · exact ⟨_, _, _, rfl⟩
theorem Sat.slice {w : World} {e sz n : Nat} {v : Value} {xs : List Value} (h : Sat w0 M H w) (hc : Ck.ow v e sz n xs ∈ H) : ∃ a m c, v = .slice a m c := own_slice (h.mem hc)

theorem Sat.slice2 {w : World} {e sz n : Nat} {v : Value} {xs : List Value} (h : Sat w0 M H w) (hc : Ck.ow v e sz n xs ∈ H) : ∃ a c, v = .slice a n c := by
  have h1 : w.ownsRow 0 e sz v n xs := h.all _ hc
  rcases h1.2 with ⟨rfl, rfl, _⟩ | ⟨g, cap, cur, rfl, _⟩
  · exact ⟨_, _, rfl⟩
  · exact ⟨_, _, rfl⟩

theorem Sat.rdI {w : World} {t n : Nat} {v : Value} {l : List Int} (h : Sat w0 M H w) (hc : Ck.ow v t 1 n (ints l) ∈ H) (hn : n = l.length) : RdI w 0 w.heap.size v l := by
  subst hn
  exact RdI.of (own_rd (h.all _ hc))

end
end Go.Eng

/- The engine, part B13: changing an element of a slice of our own. -/
namespace Go.Eng
set_option maxRecDepth 4000
open Go Go.RowKit

section
variable {P : Program} {T : Tab}
variable {ro : Cx} {n : Nat} {F : Fin} {w0 : World} {M : Nat → Prop} {k : List It} {ops : Array Oper} {rest : List Oper} {e : Env} {H Hq : List Ck}

theorem own_some {w : World} {et sz m : Nat} {v : Value} {xs : List Value} (h : w.ownsRow 0 et sz v m xs) (hm : 0 < m) : ∃ g c, v = .slice (some ⟨g, 0, none⟩) m c := by
  rcases h.2 with ⟨rfl, rfl⟩ | ⟨g, cap, cur, rfl, _⟩
  · omega
  · exact ⟨_, _, rfl⟩
theorem Sat.ownSome {w : World} {et sz m : Nat} {v : Value} {xs : List Value} (h : Sat w0 M H w) (hc : Ck.ow v et sz m xs ∈ H) (hm : 0 < m) : ∃ g c, v = .slice (some ⟨g, 0, none⟩) m c := own_some (h.all _ hc) hm

end
end Go.Eng

/- The engine, part B14: a subtree of orders walked once for all the ways that lead there. -/
namespace Go.Eng
set_option maxRecDepth 4000
open Go Go.RowKit

section
variable {P : Program} {ro : Cx} {n : Nat} {F : Fin} {w0 : World} {M : Nat → Prop} {k : List It} {ops : Array Oper} {e : Env} {H Hq : List Ck}
theorem qt_let {σ : Type} (t : OT) {t0 : OT} (env : σ → Env) (pc : σ → List Ck) (main : ∀ s, QT P ro n F w0 M k ops Hq t (env s) (pc s))
    (use : (∀ s e' H', Sub (env s) e' → Sp H' (pc s) → QT P ro n F w0 M k ops Hq t e' H') → QT P ro n F w0 M k ops Hq t0 e H) : QT P ro n F w0 M k ops Hq t0 e H :=
  use (fun s _ _ he hH => ⟨fun w hs a hf hd => (main s).h w (hs.sp (Sp.app hH Hq)) a (hf.sub he) hd⟩)
end
end Go.Eng

/- The engine, part B15: comparisons that are decided at once. -/
namespace Go.Eng
set_option maxRecDepth 4000
open Go Go.RowKit

section
variable {P : Program} {T : Tab} {ro : Cx} {n : Nat} {F : Fin} {w0 : World} {M : Nat → Prop} {k : List It} {ops : Array Oper} {rest : List Oper} {e : Env} {H Hq : List Ck}
theorem bin_lssT {a b : Int} (h : a < b) : binV .lss .i64 a b = some (.bool true) := by simp [binV]; omega
theorem ql_lssT (hT : T.Ok P) {d : Nat} {t t' : Nat} {x y : Operand} {a b : Int} {ty : TypeId} {pos : String} {af : Array Edge} (hx : opv e x = some (.int .i64 a)) (hy : opv e y = some (.int .i64 b)) (hd : Nat.blt d n = true) (hp : a < b)
    (h : QL P ro n F w0 M k ops rest ((d, .bool true) :: e) H) : QL P ro n F w0 M k ops (⟨some d, .binOp .lss t x y t', ty, pos, af, none⟩ :: rest) e H := ql_pure hT ((evp_arith hx hy).trans (bin_lssT hp)) hd h
theorem qf_lssT (hT : T.Ok P) {d : Nat} {t t' : Nat} {x y : Operand} {a b : Int} {ty : TypeId} {pos : String} {af : Array Edge} (hx : opv e x = some (.int .i64 a)) (hy : opv e y = some (.int .i64 b)) (hd : Nat.blt d n = true) (hp : a < b)
    (h : QF P ro n F w0 M k ops Hq rest ((d, .bool true) :: e) H) : QF P ro n F w0 M k ops Hq (⟨some d, .binOp .lss t x y t', ty, pos, af, none⟩ :: rest) e H := qf_pure hT ((evp_arith hx hy).trans (bin_lssT hp)) rfl hd h
theorem bin_lssF {a b : Int} (h : ¬ a < b) : binV .lss .i64 a b = some (.bool false) := by simp [binV]; omega
theorem ql_lssF (hT : T.Ok P) {d : Nat} {t t' : Nat} {x y : Operand} {a b : Int} {ty : TypeId} {pos : String} {af : Array Edge} (hx : opv e x = some (.int .i64 a)) (hy : opv e y = some (.int .i64 b)) (hd : Nat.blt d n = true) (hp : ¬ a < b)
    (h : QL P ro n F w0 M k ops rest ((d, .bool false) :: e) H) : QL P ro n F w0 M k ops (⟨some d, .binOp .lss t x y t', ty, pos, af, none⟩ :: rest) e H := ql_pure hT ((evp_arith hx hy).trans (bin_lssF hp)) hd h
theorem qf_lssF (hT : T.Ok P) {d : Nat} {t t' : Nat} {x y : Operand} {a b : Int} {ty : TypeId} {pos : String} {af : Array Edge} (hx : opv e x = some (.int .i64 a)) (hy : opv e y = some (.int .i64 b)) (hd : Nat.blt d n = true) (hp : ¬ a < b)
    (h : QF P ro n F w0 M k ops Hq rest ((d, .bool false) :: e) H) : QF P ro n F w0 M k ops Hq (⟨some d, .binOp .lss t x y t', ty, pos, af, none⟩ :: rest) e H := qf_pure hT ((evp_arith hx hy).trans (bin_lssF hp)) rfl hd h
theorem bin_leqT {a b : Int} (h : a ≤ b) : binV .leq .i64 a b = some (.bool true) := by simp [binV]; omega
theorem ql_leqT (hT : T.Ok P) {d : Nat} {t t' : Nat} {x y : Operand} {a b : Int} {ty : TypeId} {pos : String} {af : Array Edge} (hx : opv e x = some (.int .i64 a)) (hy : opv e y = some (.int .i64 b)) (hd : Nat.blt d n = true) (hp : a ≤ b)
    (h : QL P ro n F w0 M k ops rest ((d, .bool true) :: e) H) : QL P ro n F w0 M k ops (⟨some d, .binOp .leq t x y t', ty, pos, af, none⟩ :: rest) e H := ql_pure hT ((evp_arith hx hy).trans (bin_leqT hp)) hd h
theorem bin_leqF {a b : Int} (h : ¬ a ≤ b) : binV .leq .i64 a b = some (.bool false) := by simp [binV]; omega
theorem ql_leqF (hT : T.Ok P) {d : Nat} {t t' : Nat} {x y : Operand} {a b : Int} {ty : TypeId} {pos : String} {af : Array Edge} (hx : opv e x = some (.int .i64 a)) (hy : opv e y = some (.int .i64 b)) (hd : Nat.blt d n = true) (hp : ¬ a ≤ b)
    (h : QL P ro n F w0 M k ops rest ((d, .bool false) :: e) H) : QL P ro n F w0 M k ops (⟨some d, .binOp .leq t x y t', ty, pos, af, none⟩ :: rest) e H := ql_pure hT ((evp_arith hx hy).trans (bin_leqF hp)) hd h
theorem bin_gtrT {a b : Int} (h : b < a) : binV .gtr .i64 a b = some (.bool true) := by simp [binV]; omega
theorem ql_gtrT (hT : T.Ok P) {d : Nat} {t t' : Nat} {x y : Operand} {a b : Int} {ty : TypeId} {pos : String} {af : Array Edge} (hx : opv e x = some (.int .i64 a)) (hy : opv e y = some (.int .i64 b)) (hd : Nat.blt d n = true) (hp : b < a)
    (h : QL P ro n F w0 M k ops rest ((d, .bool true) :: e) H) : QL P ro n F w0 M k ops (⟨some d, .binOp .gtr t x y t', ty, pos, af, none⟩ :: rest) e H := ql_pure hT ((evp_arith hx hy).trans (bin_gtrT hp)) hd h
theorem qf_gtrT (hT : T.Ok P) {d : Nat} {t t' : Nat} {x y : Operand} {a b : Int} {ty : TypeId} {pos : String} {af : Array Edge} (hx : opv e x = some (.int .i64 a)) (hy : opv e y = some (.int .i64 b)) (hd : Nat.blt d n = true) (hp : b < a)
    (h : QF P ro n F w0 M k ops Hq rest ((d, .bool true) :: e) H) : QF P ro n F w0 M k ops Hq (⟨some d, .binOp .gtr t x y t', ty, pos, af, none⟩ :: rest) e H := qf_pure hT ((evp_arith hx hy).trans (bin_gtrT hp)) rfl hd h
theorem bin_gtrF {a b : Int} (h : ¬ b < a) : binV .gtr .i64 a b = some (.bool false) := by simp [binV]; omega
theorem ql_gtrF (hT : T.Ok P) {d : Nat} {t t' : Nat} {x y : Operand} {a b : Int} {ty : TypeId} {pos : String} {af : Array Edge} (hx : opv e x = some (.int .i64 a)) (hy : opv e y = some (.int .i64 b)) (hd : Nat.blt d n = true) (hp : ¬ b < a)
    (h : QL P ro n F w0 M k ops rest ((d, .bool false) :: e) H) : QL P ro n F w0 M k ops (⟨some d, .binOp .gtr t x y t', ty, pos, af, none⟩ :: rest) e H := ql_pure hT ((evp_arith hx hy).trans (bin_gtrF hp)) hd h
theorem qf_gtrF (hT : T.Ok P) {d : Nat} {t t' : Nat} {x y : Operand} {a b : Int} {ty : TypeId} {pos : String} {af : Array Edge} (hx : opv e x = some (.int .i64 a)) (hy : opv e y = some (.int .i64 b)) (hd : Nat.blt d n = true) (hp : ¬ b < a)
    (h : QF P ro n F w0 M k ops Hq rest ((d, .bool false) :: e) H) : QF P ro n F w0 M k ops Hq (⟨some d, .binOp .gtr t x y t', ty, pos, af, none⟩ :: rest) e H := qf_pure hT ((evp_arith hx hy).trans (bin_gtrF hp)) rfl hd h
theorem bin_geqT {a b : Int} (h : b ≤ a) : binV .geq .i64 a b = some (.bool true) := by simp [binV]; omega
theorem ql_geqT (hT : T.Ok P) {d : Nat} {t t' : Nat} {x y : Operand} {a b : Int} {ty : TypeId} {pos : String} {af : Array Edge} (hx : opv e x = some (.int .i64 a)) (hy : opv e y = some (.int .i64 b)) (hd : Nat.blt d n = true) (hp : b ≤ a)
    (h : QL P ro n F w0 M k ops rest ((d, .bool true) :: e) H) : QL P ro n F w0 M k ops (⟨some d, .binOp .geq t x y t', ty, pos, af, none⟩ :: rest) e H := ql_pure hT ((evp_arith hx hy).trans (bin_geqT hp)) hd h
theorem qf_geqT (hT : T.Ok P) {d : Nat} {t t' : Nat} {x y : Operand} {a b : Int} {ty : TypeId} {pos : String} {af : Array Edge} (hx : opv e x = some (.int .i64 a)) (hy : opv e y = some (.int .i64 b)) (hd : Nat.blt d n = true) (hp : b ≤ a)
    (h : QF P ro n F w0 M k ops Hq rest ((d, .bool true) :: e) H) : QF P ro n F w0 M k ops Hq (⟨some d, .binOp .geq t x y t', ty, pos, af, none⟩ :: rest) e H := qf_pure hT ((evp_arith hx hy).trans (bin_geqT hp)) rfl hd h
theorem bin_geqF {a b : Int} (h : ¬ b ≤ a) : binV .geq .i64 a b = some (.bool false) := by simp [binV]; omega
theorem ql_geqF (hT : T.Ok P) {d : Nat} {t t' : Nat} {x y : Operand} {a b : Int} {ty : TypeId} {pos : String} {af : Array Edge} (hx : opv e x = some (.int .i64 a)) (hy : opv e y = some (.int .i64 b)) (hd : Nat.blt d n = true) (hp : ¬ b ≤ a)
    (h : QL P ro n F w0 M k ops rest ((d, .bool false) :: e) H) : QL P ro n F w0 M k ops (⟨some d, .binOp .geq t x y t', ty, pos, af, none⟩ :: rest) e H := ql_pure hT ((evp_arith hx hy).trans (bin_geqF hp)) hd h
theorem qf_geqF (hT : T.Ok P) {d : Nat} {t t' : Nat} {x y : Operand} {a b : Int} {ty : TypeId} {pos : String} {af : Array Edge} (hx : opv e x = some (.int .i64 a)) (hy : opv e y = some (.int .i64 b)) (hd : Nat.blt d n = true) (hp : ¬ b ≤ a)
    (h : QF P ro n F w0 M k ops Hq rest ((d, .bool false) :: e) H) : QF P ro n F w0 M k ops Hq (⟨some d, .binOp .geq t x y t', ty, pos, af, none⟩ :: rest) e H := qf_pure hT ((evp_arith hx hy).trans (bin_geqF hp)) rfl hd h
theorem bin_eqlT {a b : Int} (h : a = b) : binV .eql .i64 a b = some (.bool true) := by simp [binV]; omega
theorem ql_eqlT (hT : T.Ok P) {d : Nat} {t t' : Nat} {x y : Operand} {a b : Int} {ty : TypeId} {pos : String} {af : Array Edge} (hx : opv e x = some (.int .i64 a)) (hy : opv e y = some (.int .i64 b)) (hd : Nat.blt d n = true) (hp : a = b)
    (h : QL P ro n F w0 M k ops rest ((d, .bool true) :: e) H) : QL P ro n F w0 M k ops (⟨some d, .binOp .eql t x y t', ty, pos, af, none⟩ :: rest) e H := ql_pure hT ((evp_arith hx hy).trans (bin_eqlT hp)) hd h
theorem qf_eqlT (hT : T.Ok P) {d : Nat} {t t' : Nat} {x y : Operand} {a b : Int} {ty : TypeId} {pos : String} {af : Array Edge} (hx : opv e x = some (.int .i64 a)) (hy : opv e y = some (.int .i64 b)) (hd : Nat.blt d n = true) (hp : a = b)
    (h : QF P ro n F w0 M k ops Hq rest ((d, .bool true) :: e) H) : QF P ro n F w0 M k ops Hq (⟨some d, .binOp .eql t x y t', ty, pos, af, none⟩ :: rest) e H := qf_pure hT ((evp_arith hx hy).trans (bin_eqlT hp)) rfl hd h
theorem bin_eqlF {a b : Int} (h : a ≠ b) : binV .eql .i64 a b = some (.bool false) := by simp [binV]; omega
theorem ql_eqlF (hT : T.Ok P) {d : Nat} {t t' : Nat} {x y : Operand} {a b : Int} {ty : TypeId} {pos : String} {af : Array Edge} (hx : opv e x = some (.int .i64 a)) (hy : opv e y = some (.int .i64 b)) (hd : Nat.blt d n = true) (hp : a ≠ b)
    (h : QL P ro n F w0 M k ops rest ((d, .bool false) :: e) H) : QL P ro n F w0 M k ops (⟨some d, .binOp .eql t x y t', ty, pos, af, none⟩ :: rest) e H := ql_pure hT ((evp_arith hx hy).trans (bin_eqlF hp)) hd h
theorem qf_eqlF (hT : T.Ok P) {d : Nat} {t t' : Nat} {x y : Operand} {a b : Int} {ty : TypeId} {pos : String} {af : Array Edge} (hx : opv e x = some (.int .i64 a)) (hy : opv e y = some (.int .i64 b)) (hd : Nat.blt d n = true) (hp : a ≠ b)
    (h : QF P ro n F w0 M k ops Hq rest ((d, .bool false) :: e) H) : QF P ro n F w0 M k ops Hq (⟨some d, .binOp .eql t x y t', ty, pos, af, none⟩ :: rest) e H := qf_pure hT ((evp_arith hx hy).trans (bin_eqlF hp)) rfl hd h
theorem bin_neqT {a b : Int} (h : a ≠ b) : binV .neq .i64 a b = some (.bool true) := by simp [binV]; omega
theorem ql_neqT (hT : T.Ok P) {d : Nat} {t t' : Nat} {x y : Operand} {a b : Int} {ty : TypeId} {pos : String} {af : Array Edge} (hx : opv e x = some (.int .i64 a)) (hy : opv e y = some (.int .i64 b)) (hd : Nat.blt d n = true) (hp : a ≠ b)
    (h : QL P ro n F w0 M k ops rest ((d, .bool true) :: e) H) : QL P ro n F w0 M k ops (⟨some d, .binOp .neq t x y t', ty, pos, af, none⟩ :: rest) e H := ql_pure hT ((evp_arith hx hy).trans (bin_neqT hp)) hd h
theorem qf_neqT (hT : T.Ok P) {d : Nat} {t t' : Nat} {x y : Operand} {a b : Int} {ty : TypeId} {pos : String} {af : Array Edge} (hx : opv e x = some (.int .i64 a)) (hy : opv e y = some (.int .i64 b)) (hd : Nat.blt d n = true) (hp : a ≠ b)
    (h : QF P ro n F w0 M k ops Hq rest ((d, .bool true) :: e) H) : QF P ro n F w0 M k ops Hq (⟨some d, .binOp .neq t x y t', ty, pos, af, none⟩ :: rest) e H := qf_pure hT ((evp_arith hx hy).trans (bin_neqT hp)) rfl hd h
theorem bin_neqF {a b : Int} (h : a = b) : binV .neq .i64 a b = some (.bool false) := by simp [binV]; omega
theorem ql_neqF (hT : T.Ok P) {d : Nat} {t t' : Nat} {x y : Operand} {a b : Int} {ty : TypeId} {pos : String} {af : Array Edge} (hx : opv e x = some (.int .i64 a)) (hy : opv e y = some (.int .i64 b)) (hd : Nat.blt d n = true) (hp : a = b)
    (h : QL P ro n F w0 M k ops rest ((d, .bool false) :: e) H) : QL P ro n F w0 M k ops (⟨some d, .binOp .neq t x y t', ty, pos, af, none⟩ :: rest) e H := ql_pure hT ((evp_arith hx hy).trans (bin_neqF hp)) hd h
theorem qf_neqF (hT : T.Ok P) {d : Nat} {t t' : Nat} {x y : Operand} {a b : Int} {ty : TypeId} {pos : String} {af : Array Edge} (hx : opv e x = some (.int .i64 a)) (hy : opv e y = some (.int .i64 b)) (hd : Nat.blt d n = true) (hp : a = b)
    (h : QF P ro n F w0 M k ops Hq rest ((d, .bool false) :: e) H) : QF P ro n F w0 M k ops Hq (⟨some d, .binOp .neq t x y t', ty, pos, af, none⟩ :: rest) e H := qf_pure hT ((evp_arith hx hy).trans (bin_neqF hp)) rfl hd h
end
end Go.Eng

/- The engine, part B16: shifts, and the last bit. -/
namespace Go.Eng
set_option maxRecDepth 4000
open Go Go.RowKit

section
variable {P : Program} {ro : Cx} {n : Nat} {F : Fin} {w0 : World} {M : Nat → Prop} {k : List It} {ops : Array Oper} {rest : List Oper} {e : Env} {H Hq : List Ck}
theorem run_shl {a b : Int} (hb : 0 ≤ b ∧ b < 64) (h1 : -9223372036854775808 ≤ a * 2 ^ b.toNat) (h2 : a * 2 ^ b.toNat < 9223372036854775808) (w : World) : (Op.shift .shl .i64 a .i64 b).run P w = .ok (.int .i64 (a * 2 ^ b.toNat)) w := by
  have hm : min b.toNat IntKind.i64.bits = b.toNat := by simp [IntKind.bits]; omega
  simp only [Op.shift, if_neg (show ¬ b < 0 by omega), hm]
  rw [w64 h1 h2]
  rfl
theorem run_shr {a b : Int} (ha : 0 ≤ a) (hb : 0 ≤ b ∧ b < 64) (w : World) : (Op.shift .shr .i64 a .i64 b).run P w = .ok (.int .i64 (a / 2 ^ b.toNat)) w := by
  have hm : min b.toNat IntKind.i64.bits = b.toNat := by simp [IntKind.bits]; omega
  simp only [Op.shift, if_neg (show ¬ b < 0 by omega), hm]
  rw [Int.fdiv_eq_ediv_of_nonneg _ (by exact Int.le_of_lt (Int.pow_pos (by omega)))]
  rfl
theorem bit1 (m : Nat) (hm : m < 18446744073709551616) : (BitVec.ofInt 64 (m : Int) &&& BitVec.ofInt 64 1).toNat = m % 2 := by
  rw [BitVec.toNat_and]
  have h1 : (BitVec.ofInt 64 (m : Int)).toNat = m := by simp [BitVec.toNat_ofInt]; omega
  have h2 : (BitVec.ofInt 64 1).toNat = 1 := by decide
  rw [h1, h2, Nat.and_one_is_mod]
theorem run_and1 {a : Int} (ha : 0 ≤ a ∧ a < 9223372036854775808) (w : World) : (Op.intBits .and .i64 a 1).run P w = .ok (.int .i64 (a % 2)) w := by
  obtain ⟨m, rfl⟩ := Int.eq_ofNat_of_zero_le ha.1
  have h := bit1 m (by omega)
  have h3 : (BitVec.ofInt IntKind.i64.bits (m : Int) &&& BitVec.ofInt IntKind.i64.bits 1).toNat = m % 2 := h
  simp only [Op.intBits]
  rw [h3, w64 (by omega) (by omega)]
  have : ((m % 2 : Nat) : Int) = (m : Int) % 2 := by omega
  rw [this]
  rfl
theorem ql_shl {d t t' : Nat} {x y : Operand} {a b : Int} {ty : TypeId} {pos : String} {af : Array Edge} (hx : opv e x = some (.int .i64 a)) (hy : opv e y = some (.int .i64 b)) (hd : Nat.blt d n = true) (hb : 0 ≤ b ∧ b < 64) (h1 : -9223372036854775808 ≤ a * 2 ^ b.toNat) (h2 : a * 2 ^ b.toNat < 9223372036854775808)
    (h : QL P ro n F w0 M k ops rest ((d, .int .i64 (a * 2 ^ b.toNat)) :: e) H) : QL P ro n F w0 M k ops (⟨some d, .binOp .shl t x y t', ty, pos, af, none⟩ :: rest) e H := .mk fun w hw =>
  yl_val (by simp) hd (fun a' hf => by
    have e1 := hf.op hx
    have e2 := hf.op hy
    simp only [execOp, e1, e2]
    have := run_shl (P := P) hb h1 h2 w
    simp [eqGuard, binOp, this]
    exact w64 h1 h2) (h.h w hw)
theorem ql_shr {d t t' : Nat} {x y : Operand} {a b : Int} {ty : TypeId} {pos : String} {af : Array Edge} (hx : opv e x = some (.int .i64 a)) (hy : opv e y = some (.int .i64 b)) (hd : Nat.blt d n = true) (ha : 0 ≤ a) (hb : 0 ≤ b ∧ b < 64)
    (h : QL P ro n F w0 M k ops rest ((d, .int .i64 (a / 2 ^ b.toNat)) :: e) H) : QL P ro n F w0 M k ops (⟨some d, .binOp .shr t x y t', ty, pos, af, none⟩ :: rest) e H := .mk fun w hw =>
  yl_val (by simp) hd (fun a' hf => by
    have e1 := hf.op hx
    have e2 := hf.op hy
    simp only [execOp, e1, e2]
    have := run_shr (P := P) ha hb w
    simp [eqGuard, binOp, this]) (h.h w hw)
theorem ql_and1 {d t t' : Nat} {x y : Operand} {a : Int} {ty : TypeId} {pos : String} {af : Array Edge} (hx : opv e x = some (.int .i64 a)) (hy : opv e y = some (.int .i64 1)) (hd : Nat.blt d n = true) (ha : 0 ≤ a ∧ a < 9223372036854775808)
    (h : QL P ro n F w0 M k ops rest ((d, .int .i64 (a % 2)) :: e) H) : QL P ro n F w0 M k ops (⟨some d, .binOp .and t x y t', ty, pos, af, none⟩ :: rest) e H := .mk fun w hw =>
  yl_val (by simp) hd (fun a' hf => by
    have e1 := hf.op hx
    have e2 := hf.op hy
    simp only [execOp, e1, e2]
    have := run_and1 (P := P) ha w
    simp [eqGuard, binOp, this]) (h.h w hw)
end
end Go.Eng

/- Engine 2: a block of numbers with room behind them. -/
namespace Go.Eng
set_option maxRecDepth 4000
open Go Go.RowKit

section
variable {P : Program} {T : Tab} {ro : Cx} {n : Nat} {F : Fin} {w0 : World} {M : Nat → Prop} {k : List It} {ops : Array Oper} {rest : List Oper} {e : Env} {H Hq : List Ck}
end
end Go.Eng

/- Engine 2: a region that draws, with any marks. -/
namespace Go.Eng
set_option maxRecDepth 4000
open Go Go.RowKit

section
variable {P : Program} {ro : Cx} {n : Nat} {F : Fin} {w0 : World} {M : Nat → Prop} {k : List It} {ops : Array Oper} {l : List Oper} {e : Env} {H H1 H2 : List Ck} {bs : List Bool}
structure QB (P : Program) (ro : Cx) (n : Nat) (F : Fin) (w0 : World) (M : Nat → Prop) (k : List It) (ops : Array Oper) (H1 H2 : List Ck) (bs : List Bool) (l : List Oper) (e : Env) (H : List Ck) : Prop where
  h : ∀ w, Sat w0 M H w → YB P ro n F k ops (Sat w0 M H1) (Sat w0 M H2) bs l e w
theorem q_drawB {id : Nat} (bs : List Bool) (Hq2 Hm : List Ck) (hH : Sp H (Hm ++ Hq2)) (hm : P.follows .mixedOrders = true) (hB : flB l.toArray = true) (hbs : flagB l.toArray bs = true)
    (h : QB P ro n F w0 M k l.toArray H Hq2 bs l e H) : Q P ro n F w0 M (.code (.region id l.toArray true) :: k) e H := .mk fun w hs a hf hd => by
  have hs1 : Sat w0 M H { w with drawn := w.drawn + 1 } := hs.keep (Chg.drew (N := []) w)
  have h12 : ∀ w, Sat w0 M H w → Sat w0 M Hq2 w := fun w hw => (hw.sp hH).right
  refine wpIn_region_fl2 hm (flB_spec hB) (K := fun a w => S P ro.ro F k .normal a w) (Cq := flagC (Sat w0 M H) (Sat w0 M Hq2) bs) (Ce := flagC (Sat w0 M H) (Sat w0 M Hq2) bs)
    (fun i j oi oj => flagB_spec hbs h12 i j oi oj) (fun i => ?_) (fun _ _ h => h) ?_
  · unfold flagC
    cases bs.getD i false
    · exact h12 _ hs1
    · exact hs1
  · have h2 := wpFlB_eq (P := P) (ops := l.toArray) (C1 := Sat w0 M H) (C2 := Sat w0 M Hq2) (bs := bs) (K := fun a w => S P ro.ro F k .normal a w) l 0 (by simp)
    rw [show List.range l.toArray.size = List.range' 0 l.length from by simp [List.range_eq_range'], h2]
    exact h.h _ hs1 a hf hd
theorem qb_T (c : Nat) (hb : (bs.take c).all (fun x => x == true) = true) (hc : Nat.ble c bs.length = true) (hH : Sp H H1)
    (h : ∀ K1 : Act → World → Prop, (∀ e' H', QB P ro n F w0 M k ops H1 H2 (bs.drop c) (l.drop c) e' H' → Q P ro n F w0 M (.k K1 :: k) e' H') → QF P ro n F w0 M (.k K1 :: k) ops H1 (l.take c) e []) :
    QB P ro n F w0 M k ops H1 H2 bs l e H := .mk fun w hs => by
  refine yb_seg true c hb (Nat.le_of_ble_eq_true hc) (fun K1 hK1 => ?_)
  have h3 := h K1 (fun e' H' hq => .mk fun w' hw' a' hf' hd' => hK1 e' w' (hq.h w' hw') a' hf' hd')
  exact h3.h w (hs.sp hH)
theorem qb_F (c : Nat) (Hm : List Ck) (hb : (bs.take c).all (fun x => x == false) = true) (hc : Nat.ble c bs.length = true) (hH : Sp H (Hm ++ H2))
    (h : ∀ K1 : Act → World → Prop, (∀ e' H', QB P ro n F w0 M k ops H1 H2 (bs.drop c) (l.drop c) e' H' → Q P ro n F w0 M (.k K1 :: k) e' H') → QF P ro n F w0 M (.k K1 :: k) ops H2 (l.take c) e Hm) :
    QB P ro n F w0 M k ops H1 H2 bs l e H := .mk fun w hs => by
  refine yb_seg false c hb (Nat.le_of_ble_eq_true hc) (fun K1 hK1 => ?_)
  have h3 := h K1 (fun e' H' hq => .mk fun w' hw' a' hf' hd' => hK1 e' w' (hq.h w' hw') a' hf' hd')
  exact h3.h w (hs.sp hH)
theorem qb_nil {bs : List Bool} (h : Q P ro n F w0 M k e H) : QB P ro n F w0 M k ops H1 H2 bs [] e H := .mk fun w hs => yb_nil (h.h w hs)
end
end Go.Eng

/- Engine 2: changing an element of a slice of our own, in a region that draws. -/
namespace Go.Eng
set_option maxRecDepth 4000
open Go Go.RowKit

section
variable {P : Program} {T : Tab}
variable {ro : Cx} {n : Nat} {F : Fin} {w0 : World} {M : Nat → Prop} {k : List It} {ops : Array Oper} {rest : List Oper} {e : Env} {H Hq : List Ck}
theorem qf_storeW (hT : T.Ok P) {t : Nat} {x y : Operand} {g off m c et : Nat} {xs : List Value} {u : Value} {H' : List Ck} {ty : TypeId} {pos : String} {af : Array Edge} (i : Nat)
    (hx : opv e x = some (.pointer (some ⟨g, off, none⟩))) (hy : opv e y = some u) (h1 : has T.one t = true) (hv : oneV u = true)
    (hr : Rp H (.ow (.slice (some ⟨g, 0, none⟩) m c) et 1 m xs) (.ow (.slice (some ⟨g, 0, none⟩) m c) et 1 m (xs.set i u)) H') (ho : off = i) (hi : i < xs.length)
    (h : QF P ro n F w0 M k ops Hq rest e H') : QF P ro n F w0 M k ops Hq (⟨none, .store t x y, ty, pos, af, none⟩ :: rest) e H := .mk fun w hs => by
  subst ho
  obtain ⟨hl, h2⟩ : w.ownsRow 0 et 1 (.slice (some ⟨g, 0, none⟩) m c) m xs := hs.mem (hr.app Hq).mem
  rcases h2 with ⟨hv', _⟩ | ⟨g', cap, cur, hv', hg, hh, hnc, hcm, hcs, ht⟩
  · cases hv'
  cases hv'
  have hb : Blk w g cur.toList et := by simpa [Blk] using hh
  have hcl : off < cur.toList.length := by
    have := congrArg List.length ht
    simp at this
    simp
    omega
  refine yf_store1 hT hx hy h1 hv hb hcl (fun w' hc _ hb' => ?_)
  have hs' := hs.rep (hr.app Hq) hc (fun k hk => by
    obtain rfl : k = g := by simpa using hk
    rfl) (by
    refine ⟨by simpa using hl, .inr ⟨g, c, (cur.toList.set off u).toArray, rfl, hg, by simpa [Blk] using hb', hnc, hcm, by simpa using hcs, ?_⟩⟩
    simp only [List.toList_toArray]
    rw [List.take_set, ht]) (fun b hb2 => by
    have : b = g := by simpa [Ck.D, Value.ownBlock] using hb2.symm
    subst this
    exact ⟨.inl rfl, hb'.lt⟩)
  exact ⟨hs'.right, h.h w' hs'⟩
theorem own_lt {w : World} {et g m c : Nat} {xs : List Value} (h : w.ownsRow 0 et 1 (.slice (some ⟨g, 0, none⟩) m c) m xs) : g < w.heap.size := by
  obtain ⟨hl, h2⟩ := h
  rcases h2 with ⟨hv', _⟩ | ⟨g', cap, cur, hv', hg, hh, hnc, hcm, hcs, ht⟩
  · cases hv'
  cases hv'
  have hb : Blk w g cur.toList et := by simpa [Blk] using hh
  exact hb.lt
theorem Sat.own0 {w : World} {et g m c : Nat} {xs : List Value} (h : w.ownsRow 0 et 1 (.slice (some ⟨g, 0, none⟩) m c) m xs) : Sat w (fun x => x = g) [.ow (.slice (some ⟨g, 0, none⟩) m c) et 1 m xs] w :=
  ⟨ChgP.refl _ _, by simpa [Ck.p] using h, .cons (by simp) .nil, fun ck hc x hx => by
    obtain rfl : ck = .ow (.slice (some ⟨g, 0, none⟩) m c) et 1 m xs := by simpa using hc
    obtain rfl : x = g := by simpa [Ck.D, Value.ownBlock] using hx.symm
    exact ⟨own_lt h, .inl rfl⟩⟩
end
end Go.Eng

/- Engine, part B20: two Bools compared. -/
namespace Go.Eng
set_option maxRecDepth 4000
open Go Go.RowKit

section
variable {P : Program} {T : Tab} {ro : Cx} {n : Nat} {F : Fin} {w0 : World} {M : Nat → Prop} {k : List It} {ops : Array Oper} {rest : List Oper} {e : Env} {H Hq : List Ck}
def boolB (P : Program) (t : Nat) : Bool := match P.underlying t with | some .bool => true | _ => false
theorem boolB_eq {t : Nat} (h : boolB P t = true) : P.underlying t = some .bool := by
  unfold boolB at h
  split at h
  · assumption
  · cases h
theorem exec_eqb {a : Act} {d t t' : Nat} {x y : Operand} {p q : Bool} {ty : TypeId} {pos : String} {af : Array Edge} (hf : Fits n e a) (hx : opv e x = some (.bool p)) (hy : opv e y = some (.bool q)) (hB : boolB P t = true) (w : World) :
    (execOp a.eval ⟨some d, .binOp .eql t x y t', ty, pos, af, none⟩).run P w = .ok (.value (.bool (p == q))) w ∧ (execOp a.eval ⟨some d, .binOp .neq t x y t', ty, pos, af, none⟩).run P w = .ok (.value (.bool (!(p == q)))) w := by
  have e1 := hf.op hx
  have e2 := hf.op hy
  have hu := boolB_eq hB
  have h3 := run_equalIn_bool w 9999 t p q hu
  constructor <;> simp [execOp, e1, e2, eqGuard, binOp, Op.equal, Op.maxDepth, h3]
theorem ql_neb {d t t' : Nat} {x y : Operand} {p q : Bool} {ty : TypeId} {pos : String} {af : Array Edge} (hB : boolB P t = true) (hx : opv e x = some (.bool p)) (hy : opv e y = some (.bool q)) (hd : Nat.blt d n = true)
    (h : QL P ro n F w0 M k ops rest ((d, .bool (!(p == q))) :: e) H) : QL P ro n F w0 M k ops (⟨some d, .binOp .neq t x y t', ty, pos, af, none⟩ :: rest) e H := .mk fun w hw =>
  yl_val (by simp) hd (fun _ hf => (exec_eqb hf hx hy hB w).2) (h.h w hw)
end
end Go.Eng

/- The engine, part B21: ranges over functions that hand out memory of their own. -/
namespace Go.Eng
set_option maxRecDepth 4000
open Go Go.RowKit

section
variable {P : Program} {T : Tab}
variable {ro : Cx} {n : Nat} {F : Fin} {k : List It} {ops : Array Oper} {rest : List Oper} {e : Env} {w0 : World} {M : Nat → Prop} {H Hq : List Ck}

/-- At the world w the function gf, with what it has captured, is an iterator over xs, whose elements are handed out with pieces of memory; the body changes nothing but what lies in D, and these pieces. -/
def ItOkP {α β : Type} (P : Program) (gf : Nat) (lb : List Value) (enc : α → List Value) (val : α → β) (pc : α → List Ck) (xs : List β) (w : World) (D : Nat → Prop) : Prop :=
  ∀ (fv : Value) (σ : Type) (L : σ → List Ck) (I : List β → σ → Prop) (E : σ → Prop) (s0 : σ), oneV fv = true → I [] s0 → (∀ b, DL (L s0) b → D b) → Sat w (DL (L s0)) (L s0) w →
    (∀ pre x post s w', xs = pre ++ val x :: post → I pre s → Sat w (DL (L s0)) (L s ++ pc x) w' → CaF P fv (enc x) w' (fun v w'' => ∃ s', ((v = .bool true ∧ I (pre ++ [val x]) s') ∨ (v = .bool false ∧ E s')) ∧ Sat w' (DL (L s ++ pc x)) (L s') w'')) →
    Ca P gf (fv :: lb) w (fun _ w' => ∃ s', (I xs s' ∨ E s') ∧ Sat w (DL (L s0)) (L s') w')

end
end Go.Eng

/- The engine, part B22: rows made, copied, cut at the front; append to a slice without room. -/
namespace Go.Eng
set_option maxRecDepth 4000
open Go Go.RowKit

section
variable {P : Program} {T : Tab} {ro : Cx} {n : Nat} {F : Fin} {w0 : World} {M : Nat → Prop} {k : List It} {ops : Array Oper} {rest : List Oper} {e : Env} {H Hq : List Ck}
theorem oneV_cell {v : Value} (h : oneV v = true) : v.oneCell' = true := by
  cases v <;> first | rfl | simp [oneV] at h

/-- copy of rows. -/
theorem run_copyR {w : World} {dT sT et sz m o c lo hi g : Nat} {v : Value} {cur news : List Value} {bt : TypeId} (ty : TypeId) (hu : P.underlying dT = some (.slice et)) (hsz : (P.info? et).map (·.size) = some sz)
    (hb : Blk w g cur bt) (hrd : Rd w lo hi v sz m news) (hfit : o + news.length ≤ cur.length) (h1 : ∀ x ∈ news, oneV x = true) :
    ∃ w', (Builtin.copy_ #[dT, sT] ty #[.slice (some ⟨g, o, none⟩) m c, v]).run P w = .ok (goInt m) w' ∧ Chg [g] w w' ∧ Blk w' g (cur.take o ++ news ++ cur.drop (o + news.length)) bt := by
  obtain ⟨hl, hr⟩ := hrd
  cases hq : P.info? et with
  | none => simp [hq] at hsz
  | some i =>
    have hi : i.size = sz := by simpa [hq] using hsz
    subst hi
    have key : ∀ (a : Addr) (cap : Nat), (∀ j x, news[j]? = some x → w.cell? (a.add j) = some x) → ∃ w', (Builtin.copy_ #[dT, sT] ty #[.slice (some ⟨g, o, none⟩) m c, .slice (some a) m cap]).run P w = .ok (goInt m) w' ∧ Chg [g] w w' ∧ Blk w' g (cur.take o ++ news ++ cur.drop (o + news.length)) bt := by
      intro a cap hc
      have hfc := run_firstCells_some (P := P) w i.size m a m cap news hl hc
      have hst : (storeCells ⟨g, o, none⟩ news).run P w = .ok () (w.setRow g (cur.take o ++ news ++ cur.drop (o + news.length)).toArray) := by
        have := run_storeCells_at P g o bt news 0 cur.toArray w hb (by simpa using hfit) (fun x hx => oneV_cell (h1 x hx))
        simpa using this
      refine ⟨w.setRow g (cur.take o ++ news ++ cur.drop (o + news.length)).toArray, ?_, ⟨rfl, rfl, rfl, by simp [World.setRow], fun k _ hk => setRow_other w g k _ (by simpa using hk)⟩, setRow_heap w g _ _ bt (0, 0) hb⟩
      simp [Builtin.copy_, run_underlying hu, Builtin.lenOf, sizeOf, typeInfo, hq, hfc, hst]
    rcases hr with ⟨rfl | ⟨a, cap, rfl⟩, rfl⟩ | ⟨b, off, cap, rfl, _, hc⟩
    · have hn : news = [] := List.eq_nil_of_length_eq_zero (by simpa using hl)
      subst hn
      exact ⟨w, run_copy_nil P w dT sT ty et _ _ _ hu (by simp [hq]), Chg.refl _ _, by simpa using hb⟩
    · have hn : news = [] := List.eq_nil_of_length_eq_zero (by simpa using hl)
      subst hn
      exact key a cap (by simp)
    · refine key _ _ (fun j x hj => ?_)
      have hjl := (List.getElem?_eq_some_iff.1 hj).1
      rw [Addr.add_lit, hc j hjl, hj]
theorem ql_copyR {d dT sT et sz m c o g : Nat} {x y : Operand} {v : Value} {bt : TypeId} {cur news : List Value} {H' : List Ck} {ty : TypeId} {pos : String} {af : Array Edge} (hu : P.underlying dT = some (.slice et)) (hsz : (P.info? et).map (·.size) = some sz)
    (hx : opv e x = some (.slice (some ⟨g, o, none⟩) m c)) (hy : opv e y = some v) (hd : Nat.blt d n = true) (hr : Rp H (.pt g cur bt) (.pt g (cur.take o ++ news ++ cur.drop (o + news.length)) bt) H') (hfit : o + news.length ≤ cur.length) (h1 : ∀ x ∈ news, oneV x = true)
    (hrd : ∀ w, Sat w0 M H w → ∃ lo hi, Rd w lo hi v sz m news) (h : QL P ro n F w0 M k ops rest ((d, goInt m) :: e) H') :
    QL P ro n F w0 M k ops (⟨some d, .call { callee := .builtin .copy, args := [x, y].toArray, argTypes := [dT, sT].toArray }, ty, pos, af, none⟩ :: rest) e H := .mk fun w hs => by
  obtain ⟨lo, hi, hrd⟩ := hrd w hs
  obtain ⟨w', hrun, hc, hb⟩ := run_copyR (P := P) (sT := sT) ty hu hsz (hs.blk hr.mem) hrd hfit h1 (c := c)
  refine yl_val (w' := w') (by simp) hd (fun ac hf => ?_) (h.h w' (hs.pt hr hc hb))
  simp [execOp, resolve, invoke, builtin, hf.op hx, hf.op hy, hrun]

/-- x[l:] and x[:h]. -/
theorem elem_slice {t et : Nat} (hu : P.underlying t = some (.slice et)) : P.elem t = et := by simp [Program.elem, hu]
end
end Go.Eng

/- The engine, part B23: a region that draws, with any marks, whose first part changes pieces too. -/
namespace Go.Eng
set_option maxRecDepth 4000
open Go Go.RowKit

section
variable {P : Program} {ro : Cx} {n : Nat} {F : Fin} {w0 : World} {M : Nat → Prop} {k : List It} {ops : Array Oper} {l : List Oper} {e : Env} {H H1 H2 : List Ck} {bs : List Bool}
theorem q_drawB2 {id : Nat} (bs : List Bool) (Hq1 Hm1 Hq2 Hm2 : List Ck) (hH1 : Sp H (Hm1 ++ Hq1)) (hH2 : Sp Hq1 (Hm2 ++ Hq2)) (hm : P.follows .mixedOrders = true) (hB : flB l.toArray = true) (hbs : flagB l.toArray bs = true)
    (h : QB P ro n F w0 M k l.toArray Hq1 Hq2 bs l e H) : Q P ro n F w0 M (.code (.region id l.toArray true) :: k) e H := .mk fun w hs a hf hd => by
  have hs0 : Sat w0 M H { w with drawn := w.drawn + 1 } := hs.keep (Chg.drew (N := []) w)
  have hs1 : Sat w0 M Hq1 { w with drawn := w.drawn + 1 } := (hs0.sp hH1).right
  have h12 : ∀ w, Sat w0 M Hq1 w → Sat w0 M Hq2 w := fun w hw => (hw.sp hH2).right
  refine wpIn_region_fl2 hm (flB_spec hB) (K := fun a w => S P ro.ro F k .normal a w) (Cq := flagC (Sat w0 M Hq1) (Sat w0 M Hq2) bs) (Ce := flagC (Sat w0 M Hq1) (Sat w0 M Hq2) bs)
    (fun i j oi oj => flagB_spec hbs h12 i j oi oj) (fun i => ?_) (fun _ _ h => h) ?_
  · unfold flagC
    cases bs.getD i false
    · exact h12 _ hs1
    · exact hs1
  · have h2 := wpFlB_eq (P := P) (ops := l.toArray) (C1 := Sat w0 M Hq1) (C2 := Sat w0 M Hq2) (bs := bs) (K := fun a w => S P ro.ro F k .normal a w) l 0 (by simp)
    rw [show List.range l.toArray.size = List.range' 0 l.length from by simp [List.range_eq_range'], h2]
    exact h.h _ hs0 a hf hd
theorem qb_T2 (c : Nat) (Hm : List Ck) (hb : (bs.take c).all (fun x => x == true) = true) (hc : Nat.ble c bs.length = true) (hH : Sp H (Hm ++ H1))
    (h : ∀ K1 : Act → World → Prop, (∀ e' H', QB P ro n F w0 M k ops H1 H2 (bs.drop c) (l.drop c) e' H' → Q P ro n F w0 M (.k K1 :: k) e' H') → QF P ro n F w0 M (.k K1 :: k) ops H1 (l.take c) e Hm) :
    QB P ro n F w0 M k ops H1 H2 bs l e H := .mk fun w hs => by
  refine yb_seg true c hb (Nat.le_of_ble_eq_true hc) (fun K1 hK1 => ?_)
  have h3 := h K1 (fun e' H' hq => .mk fun w' hw' a' hf' hd' => hK1 e' w' (hq.h w' hw') a' hf' hd')
  exact h3.h w (hs.sp hH)
end
end Go.Eng

/- The engine, part B24: a region that draws its order, in which some operations that act may stand in any order, and what is read may change later on. -/
namespace Go.Eng
set_option maxRecDepth 4000
open Go Go.RowKit

section
variable {P : Program} {ops : Array Oper} {Cq Ce : Nat → World → Prop} {K : Act → World → Prop}

def wpT2 (P : Program) (ops : Array Oper) (Cq Ce : Nat → World → Prop) (K : Act → World → Prop) : OT → Act → World → Prop
  | .nil, a, w => K a w
  | .op i t, a, w => match ops[i]? with
    | none => False
    | some o => if Region.wanted o (yielded ops a.tmps) = true then
        (if eff o.op = true then effStep P o a w (fun v w' => Ce i w' ∧ wpT2 P ops Cq Ce K t (a.put o.dst v) w')
         else ∃ v, (∀ w', Cq i w' → (execOp a.eval o).run P w' = .ok (.value v) w') ∧ wpT2 P ops Cq Ce K t (a.put o.dst v) w)
      else wpT2 P ops Cq Ce K t (a.put o.dst undef) w
  | .alt t u, a, w => wpT2 P ops Cq Ce K t a w ∧ wpT2 P ops Cq Ce K u a w
variable {ro : Cx} {Q : Fin}
end
end Go.Eng

/- The engine, part B25: walks of a region by a tree of orders, in two parts: what the first part reads may change in the second. -/
namespace Go.Eng
set_option maxRecDepth 4000
open Go Go.RowKit

section
variable {P : Program} {ro : Cx} {n : Nat} {F : Fin} {w0 : World} {M : Nat → Prop} {k : List It} {ops : Array Oper} {e : Env} {H H1 H2 : List Ck} {bs : List Bool}
structure QX (P : Program) (ro : Cx) (n : Nat) (F : Fin) (w0 : World) (M : Nat → Prop) (k : List It) (ops : Array Oper) (H1 H2 : List Ck) (bs : List Bool) (t : OT) (e : Env) (H : List Ck) : Prop where
  h : ∀ w, Sat w0 M H w → ∀ a, Fits n e a → a.defers = ro.ds → wpT2 P ops (flagC (Sat w0 M H1) (Sat w0 M H2) bs) (flagC (Sat w0 M H1) (Sat w0 M H2) bs) (fun a w => S P ro.ro F k .normal a w) t a w
end
end Go.Eng

/- The engine, part B26: arrays of Bools compared. -/
namespace Go.Eng
set_option maxRecDepth 4000
open Go Go.RowKit

section
variable {P : Program}
def eqBL : List Bool → List Bool → Bool
  | a :: l, b :: m => (a == b) && eqBL l m
  | _, _ => true
theorem eqBL_iff : ∀ (l m : List Bool), l.length = m.length → (eqBL l m = true ↔ l = m)
  | [], [], _ => by simp [eqBL]
  | a :: l, b :: m, h => by
    simp only [eqBL, Bool.and_eq_true, beq_iff_eq, List.cons.injEq, eqBL_iff l m (by simpa using h)]
def arrQB (P : Program) (t n e : Nat) : Bool :=
  !(P.eqGuardType P.depth t) && oneB P e && Nat.beq (P.cellsOf e) 1 && (P.info? e).isSome && (match P.underlying t with | some (.array n' e') => Nat.beq n' n && Nat.beq e' e | _ => false) && (match P.underlying e with | some .bool => true | _ => false)
theorem eqItems_bool {e : Nat} (he : P.underlying e = some .bool) (h1 : oneB P e = true) (d : Nat) (w : World) (xs ys : Array Value) : ∀ (l m : List Bool) (k : Nat), l.length = m.length → (∀ i (h : i < l.length), xs[k + i]? = some (.bool l[i])) → (∀ i (h : i < m.length), ys[k + i]? = some (.bool m[i])) →
    (Go.Op.eqItems (d + 1) e 1 xs ys (List.range' k l.length)).run P w = .ok (eqBL l m) w
  | [], [], _, _, _, _ => by simp [Go.Op.eqItems, eqBL]
  | a :: l, b :: m, k, h, hx, hy => by
    have ih := eqItems_bool he h1 d w xs ys l m (k + 1) (by simpa using h) (fun i hi => by have := hx (i + 1) (by simpa using hi); rw [show k + 1 + i = k + (i + 1) by omega]; simpa using this) (fun i hi => by have := hy (i + 1) (by simpa using hi); rw [show k + 1 + i = k + (i + 1) by omega]; simpa using this)
    have h0 := hx 0 (by simp)
    have g0 := hy 0 (by simp)
    simp only [Nat.add_zero, List.getElem_cons_zero] at h0 g0
    rw [List.length_cons, List.range'_succ]
    have p1 := run_part1 (P := P) (o := k * 1) h1 (by rw [Nat.mul_one]; exact h0) w
    have p2 := run_part1 (P := P) (o := k * 1) h1 (by rw [Nat.mul_one]; exact g0) w
    simp only [Go.Op.eqItems, Sem.run_bind, p1, p2, Result.andThen_ok, run_equalIn_bool' w d e a b he, eqBL]
    cases hab : (a == b)
    · simp
    · simpa using ih
theorem run_eqArr {t n e : Nat} (h : arrQB P t n e = true) {l m : List Bool} (hl : l.length = n) (hm : m.length = n) (d : Nat) (w : World) : (Go.Op.equalIn (d + 2) t (.agg (l.map Value.bool).toArray) (.agg (m.map Value.bool).toArray)).run P w = .ok (eqBL l m) w := by
  simp only [arrQB, Bool.and_eq_true, Bool.not_eq_true'] at h
  obtain ⟨⟨⟨⟨⟨h1, h2⟩, h3⟩, h4⟩, h5⟩, h6⟩ := h
  split at h5
  · rename_i n' e' hu
    simp only [Bool.and_eq_true] at h5
    have hn := Nat.eq_of_beq_eq_true h5.1
    have he := Nat.eq_of_beq_eq_true h5.2
    subst hn
    subst he
    split at h6
    · rename_i hb
      obtain ⟨i, hi⟩ := Option.isSome_iff_exists.1 h4
      rw [run_equalIn_array w (d + 1) _ _ hu hi, Nat.eq_of_beq_eq_true h3, List.range_eq_range', ← hl]
      exact eqItems_bool hb h2 d w _ _ l m 0 (by omega) (fun i hi => by simp [hi]) (fun i hi => by simp [hi])
    · cases h6
  · cases h5
variable {ro : Cx} {n : Nat} {F : Fin} {w0 : World} {M : Nat → Prop} {k : List It} {ops : Array Oper} {rest : List Oper} {e : Env} {H Hq : List Ck}
theorem qf_stA {T : Tab} (cs' : List Value) (hT : T.Ok P) {t m : Nat} {x y : Operand} {b off : Nat} {cs us : List Value} {bt : TypeId} {H' : List Ck} {ty : TypeId} {pos : String} {af : Array Edge}
    (hx : opv e x = some (.pointer (some ⟨b, off, none⟩))) (hy : opv e y = some (.agg us.toArray)) (h1 : find1 T.agg t = some m) (hm : us.length = m) (h1v : (us.all oneV) = true) (hr : Rp H (.pt b cs bt) (.pt b cs' bt) H') (he : setL cs off us = cs') (hl : Nat.ble (off + m) cs.length = true)
    (h : QF P ro n F w0 M k ops Hq rest e H') : QF P ro n F w0 M k ops Hq (⟨none, .store t x y, ty, pos, af, none⟩ :: rest) e H := by
  subst he
  exact qf_storeA hT hx hy h1 hm (List.all_eq_true.1 h1v) hr (Nat.le_of_ble_eq_true hl) h
end
end Go.Eng

/- The engine, part B27: structs of flat structs compared. -/
namespace Go.Eng
set_option maxRecDepth 4000
open Go Go.RowKit

section
variable {P : Program}
def nestF (P : Program) : Nat → List Field → List (List (Option IntKind)) → Bool
  | _, [], [] => true
  | o, f :: fs, k :: ks => !(f.name == "_") && Nat.beq f.offset o && flatB P f.type k && Nat.beq (P.cellsOf f.type) k.length && (P.info? f.type).isSome && nestF P (o + k.length) fs ks
  | _, _, _ => false
def nestB (P : Program) (t : Nat) (ks : List (List (Option IntKind))) : Bool :=
  !(P.stoodInHeld t) && !(P.eqGuardType P.depth t) && (match P.underlying t with | some (.struct fs) => nestF P 0 fs.toList ks | _ => false)
variable {ro : Cx} {n : Nat} {F : Fin} {w0 : World} {M : Nat → Prop} {k : List It} {ops : Array Oper} {rest : List Oper} {e : Env} {H Hq : List Ck}
end
end Go.Eng

/- The engine, part B28: a byte of a string. -/
namespace Go.Eng
set_option maxRecDepth 4000
open Go Go.RowKit

section
variable {P : Program} {T : Tab}
variable {ro : Cx} {n : Nat} {F : Fin} {w0 : World} {M : Nat → Prop} {k : List It} {ops : Array Oper} {rest : List Oper} {e : Env} {H Hq : List Ck}
end
end Go.Eng

/- Lists that can be read: of lists, of spans, of runs. -/
namespace Go.Proofs.YtcmpdmobmbbplaaGreat
set_option maxRecDepth 4000
open Go Go.Eng

/-- A pair of numbers as a value. -/
abbrev rtV (q : Int × Int) : Value := .agg #[.int .i64 q.1, .int .i64 q.2]
abbrev rnV (l : Rn) : Value := .agg #[.int .i64 l.a, .int .i64 l.b, .int .i64 l.lead]
abbrev RdS (w : World) (lo hi : Nat) (v : Value) (l : List (Int × Int)) : Prop := RdE w lo hi v 2 (l.map rtV)
abbrev RdR (w : World) (lo hi : Nat) (v : Value) (l : List Rn) : Prop := RdE w lo hi v 3 (l.map rnV)
/-- Their cells. -/
def spC (l : List (Int × Int)) : List Value := l.flatMap fun x => [.int .i64 x.1, .int .i64 x.2]
def rnC (l : List Rn) : List Value := l.flatMap fun x => [.int .i64 x.a, .int .i64 x.b, .int .i64 x.lead]
section
variable {w w' : World} {lo hi b off len cap : Nat} {v : Value}
theorem RdS.outI {l : List (Int × Int)} (h : RdS w lo hi v l) : ∃ a cap, v = .slice a l.length cap ∧ (0 < l.length → ∃ b off, a = some ⟨b, off, none⟩) := by
  have := RdE.out h
  simpa using this
theorem RdR.outI {l : List Rn} (h : RdR w lo hi v l) : ∃ a cap, v = .slice a l.length cap ∧ (0 < l.length → ∃ b off, a = some ⟨b, off, none⟩) := by
  have := RdE.out h
  simpa using this
theorem RdS.at {l : List (Int × Int)} (h : RdS w lo hi (.slice (some ⟨b, off, none⟩) len cap) l) (i : Nat) (hi : i < l.length) (j : Nat) (hj : j < 2) : w.cell? ⟨b, off + i * 2 + j, none⟩ = [Value.int .i64 l[i].1, Value.int .i64 l[i].2][j]? := by
  have := RdE.cell h i j (by simpa using hi) hj
  rw [this]
  simp [rtV, Value.cells]
theorem RdR.at {l : List Rn} (h : RdR w lo hi (.slice (some ⟨b, off, none⟩) len cap) l) (i : Nat) (hi : i < l.length) (j : Nat) (hj : j < 3) : w.cell? ⟨b, off + i * 3 + j, none⟩ = [Value.int .i64 l[i].a, Value.int .i64 l[i].b, Value.int .i64 l[i].lead][j]? := by
  have := RdE.cell h i j (by simpa using hi) hj
  rw [this]
  simp [rnV, Value.cells]
theorem RdS.at1 {l : List (Int × Int)} (h : RdS w lo hi (.slice (some ⟨b, off, none⟩) len cap) l) (i : Nat) (hi : i < l.length) : w.cell? ⟨b, off + i * 2 + 1, none⟩ = some (.int .i64 l[i].2) := RdS.at h i hi 1 (by omega)
theorem RdR.at1 {l : List Rn} (h : RdR w lo hi (.slice (some ⟨b, off, none⟩) len cap) l) (i : Nat) (hi : i < l.length) : w.cell? ⟨b, off + i * 3 + 1, none⟩ = some (.int .i64 l[i].b) := RdR.at h i hi 1 (by omega)
theorem cells_sp (l : List (Int × Int)) : cellsOf (l.map rtV) = spC l := by simp [cellsOf, spC, List.flatMap_map, Value.cells]
theorem cells_rn (l : List Rn) : cellsOf (l.map rnV) = rnC l := by simp [cellsOf, rnC, List.flatMap_map, Value.cells]
theorem spC_length (l : List (Int × Int)) : (spC l).length = l.length * 2 := by
  rw [← cells_sp, cellsOf_length (sz := 2)]
  · simp
  · intro e he; obtain ⟨x, _, rfl⟩ := List.mem_map.1 he; rfl
theorem rnC_length (l : List Rn) : (rnC l).length = l.length * 3 := by
  rw [← cells_rn, cellsOf_length (sz := 3)]
  · simp
  · intro e he; obtain ⟨x, _, rfl⟩ := List.mem_map.1 he; rfl
theorem RdS.row {l : List (Int × Int)} (h : RdS w lo hi v l) : Rd w lo hi v 2 l.length (spC l) := by
  have := h.rd
  rw [cells_sp, List.length_map] at this
  exact this
theorem RdR.row {l : List Rn} (h : RdR w lo hi v l) : Rd w lo hi v 3 l.length (rnC l) := by
  have := h.rd
  rw [cells_rn, List.length_map] at this
  exact this
theorem RdS.of {l : List (Int × Int)} (h : Rd w lo hi v 2 l.length (spC l)) : RdS w lo hi v l := ⟨by rw [cells_sp, List.length_map]; exact h, fun e he => by obtain ⟨x, _, rfl⟩ := List.mem_map.1 he; rfl⟩
theorem RdR.of {l : List Rn} (h : Rd w lo hi v 3 l.length (rnC l)) : RdR w lo hi v l := ⟨by rw [cells_rn, List.length_map]; exact h, fun e he => by obtain ⟨x, _, rfl⟩ := List.mem_map.1 he; rfl⟩
theorem own_rdI {t n : Nat} {l : List Int} (h : w.ownsRow 0 t 1 v n (ints l)) (hn : n = l.length) : RdI w 0 w.heap.size v l := by
  subst hn
  exact RdI.of (own_rd h)
theorem own_rdS {t n : Nat} {l : List (Int × Int)} (h : w.ownsRow 0 t 2 v n (spC l)) (hn : n = l.length) : RdS w 0 w.heap.size v l := by
  subst hn
  exact RdS.of (own_rd h)
theorem own_rdR {t n : Nat} {l : List Rn} (h : w.ownsRow 0 t 3 v n (rnC l)) (hn : n = l.length) : RdR w 0 w.heap.size v l := by
  subst hn
  exact RdR.of (own_rd h)
theorem own_one' {t sz m : Nat} {xs : List Value} (h : w.ownsRow 0 t sz v m xs) : oneV v = true := by
  obtain ⟨a, n, c, rfl⟩ := own_slice h
  rfl
end

/-- Lists of lists that can be read. -/
def RdII (w : World) (lo hi : Nat) (v : Value) (ll : List (List Int)) : Prop :=
  ∃ vs, RdE w lo hi v 1 vs ∧ vs.length = ll.length ∧ ∀ i (h : i < vs.length) (h' : i < ll.length), RdI w lo hi vs[i] ll[i]
theorem RdII.keep {w w' : World} {lo hi : Nat} {v : Value} {ll : List (List Int)} (h : RdII w lo hi v ll) (c : Chg [] w w') : RdII w' lo hi v ll := by
  obtain ⟨vs, h1, h2, h3⟩ := h
  exact ⟨vs, h1.keep c, h2, fun i hi hi' => (h3 i hi hi').keep c⟩
theorem RdII.outI {w : World} {lo hi : Nat} {v : Value} {ll : List (List Int)} (h : RdII w lo hi v ll) : ∃ a cap, v = .slice a ll.length cap ∧ (0 < ll.length → ∃ b off, a = some ⟨b, off, none⟩) := by
  obtain ⟨vs, h1, h2, h3⟩ := h
  have := RdE.out h1
  rwa [h2] at this
/-- One row. -/
theorem RdII.row {w : World} {lo hi : Nat} {b off len cap : Nat} {ll : List (List Int)} (h : RdII w lo hi (.slice (some ⟨b, off, none⟩) len cap) ll) (i : Nat) (hi' : i < ll.length) :
    ∃ a c, RdI w lo hi (.slice a ll[i].length c) ll[i] ∧ ∀ w', Chg [] w w' → w'.cell? ⟨b, off + i * 1, none⟩ = some (.slice a ll[i].length c) := by
  obtain ⟨vs, h1, h2, h3⟩ := h
  have h4 := h3 i (by omega) hi'
  obtain ⟨a, c, hv, _⟩ := RdI.outI h4
  refine ⟨a, c, hv ▸ h4, fun w' hw' => ?_⟩
  rw [RdE.cell1 (h1.keep hw') i (by omega) (by rw [hv]; rfl), hv]
/-- Rows of our own. -/
def rowsO (t : Nat) (xs : List (Value × List Int)) : List Ck := xs.map fun p => .ow p.1 t 1 p.2.length (ints p.2)
end Go.Proofs.YtcmpdmobmbbplaaGreat

/- What a function is told of its arguments: slices and structs that came in can be read. -/
namespace Go.Proofs.YtcmpdmobmbbplaaGreat
set_option maxRecDepth 4000
open Go Go.Eng

section
variable {H : Type} {enc : TypeId × Value → H} {P : Program} {w : World} {sp : Nat → Bool} {held : Bool}
theorem cell_spot {a : Addr} {v : Value} (h : w.cell? a = some v) : a.spot = none ∧ a.block < w.heap.size := by
  unfold World.cell? at h
  split at h
  · rename_i hh
    refine ⟨?_, (Array.getElem?_eq_some_iff.1 hh).1⟩
    split at h
    · cases h
    · rename_i hs
      cases hsp : a.spot with
      | none => rfl
      | some _ => rw [hsp] at hs; exact absurd rfl hs
  · cases h
theorem flat_len {sz : Nat} : ∀ (css : List (List Value)), (∀ c ∈ css, c.length = sz) → css.flatten.length = css.length * sz
  | [], _ => by simp
  | c :: css, h => by
    rw [List.flatten_cons, List.length_append, flat_len css (fun d hd => h d (List.mem_cons_of_mem _ hd)), h c List.mem_cons_self, List.length_cons, Nat.succ_mul, Nat.add_comm]
theorem flat_get {sz : Nat} (hsz : 0 < sz) : ∀ (css : List (List Value)), (∀ c ∈ css, c.length = sz) → ∀ j, css.flatten[j]? = (css[j / sz]?).bind (fun c => c[j % sz]?)
  | [], _, j => by simp
  | c :: css, h, j => by
    have hc := h c List.mem_cons_self
    rw [List.flatten_cons]
    by_cases hj : j < sz
    · rw [List.getElem?_append_left (by omega), Nat.div_eq_of_lt hj, Nat.mod_eq_of_lt hj]
      rfl
    · obtain ⟨k, rfl⟩ : ∃ k, j = k + sz := ⟨j - sz, by omega⟩
      rw [List.getElem?_append_right (by omega), hc, Nat.add_sub_cancel, flat_get hsz css (fun d hd => h d (List.mem_cons_of_mem _ hd)), Nat.add_div_right _ hsz, Nat.add_mod_right]
      rfl
/-- A slice that came in: its elements' cells. -/
theorem in_slice {t e : TypeId} {fuel : Nat} {cs : List Value} {x : DataW H × List MemPlace} (ht : P.underlying t = some (.slice e)) (hpos : 0 < P.cellsOf e) (h : DataW.trod enc P w 0 sp held fuel t cs = some x) :
    ∃ (v : Value) (css : List (List Value)), cs = [v] ∧ css.length ≤ maxLen ∧ Rd w 0 w.heap.size v (P.cellsOf e) css.length css.flatten ∧ (∀ c ∈ css, c.length = P.cellsOf e) ∧ ∀ c ∈ css, ∃ n y, DataW.trod enc P w 0 sp held n e c = some y := by
  rcases DataW.trod_slice ht h with ⟨rfl, _⟩ | ⟨a, len, cap, elems, rest, n, _, rfl, _, hb, hl, hm, hlen, hel, _, _⟩
  · exact ⟨_, [], rfl, by simp, ⟨by simp, .inl ⟨.inl rfl, rfl⟩⟩, by simp, by simp⟩
  · have key : ∀ i, i < len → ∃ c y, w.cells? 0 (a.add (i * P.cellsOf e)) (P.cellsOf e) = some c ∧ DataW.trod enc P w 0 sp held n e c = some y := by
      intro i hi
      have h1 := hel i hi
      rw [List.getElem?_eq_getElem (by omega), Option.bind_eq_some_iff] at h1
      obtain ⟨c, h2, h3⟩ := h1
      exact ⟨c, _, h2, h3⟩
    let css := (List.range len).map fun i => (w.cells? 0 (a.add (i * P.cellsOf e)) (P.cellsOf e)).getD []
    have hcl : css.length = len := by simp [css]
    have hat : ∀ i, i < len → ∃ c y, css[i]? = some c ∧ w.cells? 0 (a.add (i * P.cellsOf e)) (P.cellsOf e) = some c ∧ DataW.trod enc P w 0 sp held n e c = some y := by
      intro i hi
      obtain ⟨c, y, h2, h3⟩ := key i hi
      exact ⟨c, y, by simp [css, hi, h2], h2, h3⟩
    have hmem : ∀ c ∈ css, c.length = P.cellsOf e ∧ ∃ n y, DataW.trod enc P w 0 sp held n e c = some y := by
      intro c hc
      obtain ⟨i, hi, rfl⟩ := List.getElem_of_mem hc
      obtain ⟨c, y, h1, h2, h3⟩ := hat i (by omega)
      rw [List.getElem?_eq_getElem hi, Option.some.injEq] at h1
      subst h1
      exact ⟨(World.cells?_some h2).2.1, _, _, h3⟩
    have hfl := flat_len css (fun c hc => (hmem c hc).1)
    refine ⟨_, css, rfl, by omega, ⟨by rw [hfl], ?_⟩, fun c hc => (hmem c hc).1, fun c hc => (hmem c hc).2⟩
    by_cases h0 : len = 0
    · subst h0
      exact .inl ⟨.inr ⟨a, cap, rfl⟩, hcl⟩
    · obtain ⟨c0, y0, g1, g2, g3⟩ := hat 0 (by omega)
      obtain ⟨_, g4, g5⟩ := World.cells?_some g2
      have g6 := g5 0 hpos
      rw [List.getElem?_eq_getElem (by omega)] at g6
      have g7 := cell_spot g6
      rw [Nat.zero_mul, Addr.add_zero', Addr.add_zero'] at g7
      obtain ⟨b, off, spot⟩ := a
      obtain ⟨h9, g8⟩ := g7
      simp only at h9
      subst h9
      refine .inr ⟨b, off, cap, by rw [hcl], fun _ => ⟨Nat.zero_le _, g8, g8⟩, fun j hj => ?_⟩
      rw [hfl, hcl] at hj
      rw [flat_get hpos css (fun c hc => (hmem c hc).1)]
      have hji : j / P.cellsOf e < len := Nat.div_lt_of_lt_mul (by rw [Nat.mul_comm]; exact hj)
      obtain ⟨c, y, e1, e2, e3⟩ := hat (j / P.cellsOf e) hji
      obtain ⟨_, e4, e5⟩ := World.cells?_some e2
      have e6 := e5 (j % P.cellsOf e) (Nat.mod_lt _ hpos)
      rw [e1, Option.bind_some, ← e6, Addr.add_lit, Addr.add_lit]
      have := Nat.div_add_mod j (P.cellsOf e)
      rw [Nat.mul_comm] at this
      rw [show off + j / P.cellsOf e * P.cellsOf e + j % P.cellsOf e = off + j by omega]
/-- A field of a struct that came in. -/
theorem in_field {t : TypeId} {fs : Array Field} {fuel : Nat} {cs : List Value} {x : DataW H × List MemPlace} (ht : P.underlying t = some (.struct fs)) (h : DataW.trod enc P w 0 sp held fuel t cs = some x) :
    cs.length = P.cellsOf t ∧ ∀ (i : Nat) (f : Field), fs[i]? = some f → ∃ n y, DataW.trod enc P w 0 sp held n f.type ((cs.drop f.offset).take (P.cellsOf f.type)) = some y := by
  obtain ⟨xs, n, _, _, hl, hx, hf⟩ := DataW.trod_struct ht h
  refine ⟨hl, fun i f hi => ?_⟩
  have h1 := hf i f hi
  have h2 : i < xs.length := by rw [hx]; exact (Array.getElem?_eq_some_iff.1 hi).1
  rw [List.getElem?_eq_getElem h2] at h1
  exact ⟨n, _, h1⟩
end
/-- A number that fits into 64 bits. -/
def I64 (n : Int) : Prop := -9223372036854775808 ≤ n ∧ n < 9223372036854775808
theorem wf_i64 {n : Int} (h : (Lit.int .i64 n).wf = true) : I64 n := by
  simp [Lit.wf, IntKind.min, IntKind.max, IntKind.signed, IntKind.bits] at h
  unfold I64
  omega
section
variable {H : Type} {enc : TypeId × Value → H} {P : Program} {w : World} {sp : Nat → Bool} {held : Bool}
theorem in_int {t : TypeId} {fuel : Nat} {cs : List Value} {x : DataW H × List MemPlace} (ht : P.underlying t = some (.int .i64)) (h : DataW.trod enc P w 0 sp held fuel t cs = some x) : ∃ n, cs = [.int .i64 n] ∧ I64 n := by
  obtain ⟨n, h1, _, h2⟩ := DataW.trod_int ht h
  exact ⟨n, h1, wf_i64 h2⟩
theorem RdI.one {v : Value} {l : List Int} {lo hi : Nat} (h : RdI w lo hi v l) : oneV v = true := by
  obtain ⟨a, c, rfl, _⟩ := RdI.outI h
  rfl
end
end Go.Proofs.YtcmpdmobmbbplaaGreat

/- Walks: IndexFunc, ContainsFunc, klister/ski.all: alike for each element type. Written by gen_every.py. -/
namespace Go.Proofs.YtcmpdmobmbbplaaGreat
set_option maxRecDepth 4000
open Go Go.Eng

set_option maxHeartbeats 1000000 in
theorem idxF_run (w : World) (lo hi : Nat) (v cv : Value) (es : List Value) (p : Value → Bool) (hrd : RdE w lo hi v 3 es) (hagg : ∀ i (hi : i < es.length), ∃ c, es[i] = .agg c) (hlen : es.length < 4611686018427387904) (hp : PredAt Tryz.prog tab w cv es p) :
    Ca Tryz.prog 193 [v, cv] w fun r w' => ((∃ i : Nat, r = .int .i64 i ∧ ∃ hi : i < es.length, p es[i] = true) ∨ (r = .int .i64 (-1) ∧ ∀ x ∈ es, p x = false)) ∧ Chg [] w w' := by
  obtain ⟨a, cap, rfl, hsl⟩ := hrd.out
  obtain ⟨g, first, caps, rfl, hg, hcl⟩ := hp
  refine ca_of Tryz.func193 rfl (by simp [Tryz.ntmps193]) ?_
  (refine y_seq (y_region (yl_pure tabOk rfl rfl (y_seq (y_seq (y_region ?_))))); (iterate 3 refine yl_pure tabOk rfl rfl ?_); refine y_block ?_)
  refine y_loop (fun m l wr => ∃ k : Nat, k ≤ es.length ∧ m = es.length - k ∧ l = [(0, .slice a es.length cap), (1, .func (.func g) first caps), (7, .int .i64 es.length), (8, .int .i64 k)] ∧ (∀ i (hi : i < es.length), i < k → p es[i] = false) ∧ Chg [] w wr) (m := es.length)
    ⟨0, by omega, rfl, rfl, fun i _ hi => by omega, Chg.refl _ _⟩ ⟨rfl, rfl, rfl, rfl, trivial⟩ ?_
  rintro m l wr ⟨k, hkl, rfl, rfl, hpk, hcw⟩ K hK
  (refine y_seq (y_region (yl_pure tabOk rfl rfl (y_seq ?_))))
  refine y_if rfl (fun hc => ?_) (fun hc => ?_)
  · have hk : k < es.length := by omega
    obtain ⟨b, off, rfl⟩ := hsl (by omega)
    (refine y_skip (y_seq (y_block (y_seq (y_region (yl_pure tabOk rfl rfl (yl_pure tabOk rfl rfl (y_seq (y_region ?_)))))))); (iterate 3 refine yl_pure tabOk rfl rfl ?_))
    refine yl_index tabOk rfl rfl rfl rfl rfl (by omega) (by omega) ?_
    refine yl_loadA tabOk rfl rfl rfl (cs := es[k].cells.toList) (by simpa using hrd.sz es[k] (List.getElem_mem hk)) (fun j hj => (hrd.keep hcw).cell k j hk hj) ?_
    have hval : Value.agg es[k].cells.toList.toArray = es[k] := by
      obtain ⟨c, hc⟩ := hagg k hk
      rw [hc]; simp [Value.cells]
    rw [hval]
    refine yl_call tabOk rfl hg rfl rfl (hcl wr hcw es[k] (List.getElem_mem hk)) ?_
    rintro _ w2 ⟨rfl, hc2⟩
    (refine yl_nil ?_)
    refine y_cond rfl (fun hc => ?_) (fun hc => ?_)
    · (refine y_seq (y_region (yl_pure tabOk rfl rfl (yl_pure tabOk rfl rfl (y_ret ?_)))))
      exact y_fin1 rfl rfl ⟨.inl ⟨k, rfl, hk, hc⟩, hcw.trans hc2⟩
    · (refine y_skip (y_region (yl_pure tabOk rfl rfl (yl_pure tabOk rfl rfl (yl_nil ?_)))))
      refine y_k (hK _ _ _ _ ⟨k + 1, by omega, rfl, rfl, fun i hi hik => ?_, hcw.trans hc2⟩ (by omega) ⟨rfl, rfl, rfl, ?_, trivial⟩)
      · by_cases h : i < k
        · exact hpk i hi h
        · obtain rfl : i = k := by omega
          exact hc
      · show some (Value.int _ (IntKind.i64.wrap (↑k + 1))) = _
        rw [w64 (by omega) (by omega)]
        rfl
  · (refine y_exit _ rfl (y_seq (y_region (yl_pure tabOk rfl rfl (y_ret ?_)))))
    refine y_fin1 rfl rfl ⟨.inr ⟨rfl, fun x hx => ?_⟩, hcw⟩
    obtain ⟨i, hi, rfl⟩ := List.getElem_of_mem hx
    exact hpk i hi (by omega)

theorem conF_run (w : World) (lo hi : Nat) (v cv : Value) (es : List Value) (p : Value → Bool) (hrd : RdE w lo hi v 3 es) (hagg : ∀ i (hi : i < es.length), ∃ c, es[i] = .agg c) (hlen : es.length < 4611686018427387904) (hp : PredAt Tryz.prog tab w cv es p) :
    Ca Tryz.prog 180 [v, cv] w fun r w' => r = .bool (es.any p) ∧ Chg [] w w' := by
  refine ca_of Tryz.func180 rfl (by simp [Tryz.ntmps180]) ?_
  (refine y_seq (y_region (yl_pure tabOk rfl rfl (y_seq (y_region (yl_pure tabOk rfl rfl (yl_pure tabOk rfl rfl ?_)))))))
  refine yl_call tabOk rfl rfl rfl rfl (idxF_run w lo hi v cv es p hrd hagg hlen hp) ?_
  rintro r w2 ⟨⟨i, rfl, hi, hpi⟩ | ⟨rfl, hall⟩, hc2⟩
  · (refine yl_pure tabOk rfl rfl (yl_pure tabOk rfl rfl (y_ret ?_)))
    refine y_fin1 rfl rfl ⟨?_, hc2⟩
    have h1 : es.any p = true := List.any_eq_true.2 ⟨_, List.getElem_mem hi, hpi⟩
    rw [h1]
    exact congrArg Value.bool (decide_eq_true (by omega))
  · (refine yl_pure tabOk rfl rfl (yl_pure tabOk rfl rfl (y_ret ?_)))
    refine y_fin1 rfl rfl ⟨?_, hc2⟩
    have h1 : es.any p = false := List.any_eq_false.2 (fun x hx => by simp [hall x hx])
    rw [h1]
    rfl

theorem all1_run (w : World) (b t : Nat) (cv x : Value) (es : List Value) (p : Value → Bool) (hx : ∃ c, x = .agg c ∧ c.size = 3) (hm : x ∈ es) (hb : Blk w b [cv] t) (hp : PredAt Tryz.prog tab w cv es p) :
    Ca Tryz.prog 181 [x, .pointer (some ⟨b, 0, none⟩)] w fun r w' => r = .bool (!(p x)) ∧ Chg [] w w' := by
  obtain ⟨g, first, caps, rfl, hg, hcl⟩ := hp
  obtain ⟨c, rfl, hcs⟩ := hx
  refine ca_of Tryz.func181 rfl (by simp [Tryz.ntmps181]) ?_
  (refine y_seq (y_region ?_))
  refine yl_box rfl rfl (fun w1 hc1 hs1 hb1 => ?_)
  have hb' := hb.keep hc1
  (refine yl_pure tabOk rfl rfl (y_seq (y_region ?_)); refine yl_loadB tabOk rfl rfl rfl (by assumption) (by rfl) ?_)
  refine yl_loadAB tabOk rfl rfl rfl hb1 (us := c.toList) (List.take_of_length_le (by simp [Value.cells, hcs])) (by simpa using hcs) ?_
  refine yl_call tabOk rfl hg rfl rfl (hcl w1 hc1 _ hm) ?_
  rintro _ w2 ⟨rfl, hc2⟩
  (refine yl_pure tabOk rfl rfl (yl_pure tabOk rfl rfl (y_ret ?_)))
  exact y_fin1 rfl rfl ⟨rfl, hc1.trans hc2⟩

theorem all_run (w : World) (lo hi : Nat) (v cv : Value) (es : List Value) (p : Value → Bool) (hrd : RdE w lo hi v 3 es) (hagg : ∀ i (hi : i < es.length), ∃ c, es[i] = .agg c) (hlen : es.length < 4611686018427387904) (hp : PredAt Tryz.prog tab w cv es p) :
    Ca Tryz.prog 143 [v, cv] w fun r w' => r = .bool (es.all p) ∧ Chg [] w w' := by
  refine ca_of Tryz.func143 rfl (by simp [Tryz.ntmps143]) ?_
  (refine y_seq (y_region ?_))
  refine yl_box rfl rfl (fun w1 hc1 hs1 hb1 => ?_)
  have hcv : cv.cells.toList = [cv] := by obtain ⟨g, first, caps, rfl, _, _⟩ := hp; rfl
  rw [hcv] at hb1
  have hp1 : PredAt Tryz.prog tab w1 (.func (.func 181) #[] #[.pointer (some ⟨w.heap.size, 0, none⟩)]) es (fun x => !(p x)) := by
    refine ⟨181, #[], #[_], rfl, rfl, fun w' hw' x hx => ?_⟩
    refine all1_run w' w.heap.size _ cv x es p ?_ hx (hb1.keep hw') (hp.keep (hc1.trans hw'))
    obtain ⟨i, hi, rfl⟩ := List.getElem_of_mem hx
    obtain ⟨c, hc⟩ := hagg i hi; exact ⟨c, hc, by have := hrd.sz _ hx; rw [hc] at this; exact this⟩
  (refine yl_pure tabOk rfl rfl (y_seq (y_region (yl_pure tabOk rfl rfl (yl_pure tabOk rfl rfl ?_)))))
  refine yl_call tabOk rfl rfl rfl rfl (conF_run w1 lo hi v _ es _ (hrd.keep hc1) hagg hlen hp1) ?_
  rintro _ w2 ⟨rfl, hc2⟩
  (refine yl_pure tabOk rfl rfl (yl_pure tabOk rfl rfl (y_ret ?_)))
  refine y_fin1 rfl rfl ⟨?_, hc1.trans hc2⟩
  rw [List.all_eq_not_any_not]


set_option maxHeartbeats 1000000 in
theorem idxF_int (w : World) (lo hi : Nat) (v cv : Value) (es : List Value) (p : Value → Bool) (hrd : RdE w lo hi v 1 es) (hone : ∀ i (hi : i < es.length), oneV es[i] = true) (hlen : es.length < 4611686018427387904) (hp : PredAt Tryz.prog tab w cv es p) :
    Ca Tryz.prog 177 [v, cv] w fun r w' => ((∃ i : Nat, r = .int .i64 i ∧ ∃ hi : i < es.length, p es[i] = true) ∨ (r = .int .i64 (-1) ∧ ∀ x ∈ es, p x = false)) ∧ Chg [] w w' := by
  obtain ⟨a, cap, rfl, hsl⟩ := hrd.out
  obtain ⟨g, first, caps, rfl, hg, hcl⟩ := hp
  refine ca_of Tryz.func177 rfl (by simp [Tryz.ntmps177]) ?_
  (refine y_seq (y_region (yl_pure tabOk rfl rfl (y_seq (y_seq (y_region ?_))))); (iterate 3 refine yl_pure tabOk rfl rfl ?_); refine y_block ?_)
  refine y_loop (fun m l wr => ∃ k : Nat, k ≤ es.length ∧ m = es.length - k ∧ l = [(0, .slice a es.length cap), (1, .func (.func g) first caps), (7, .int .i64 es.length), (8, .int .i64 k)] ∧ (∀ i (hi : i < es.length), i < k → p es[i] = false) ∧ Chg [] w wr) (m := es.length)
    ⟨0, by omega, rfl, rfl, fun i _ hi => by omega, Chg.refl _ _⟩ ⟨rfl, rfl, rfl, rfl, trivial⟩ ?_
  rintro m l wr ⟨k, hkl, rfl, rfl, hpk, hcw⟩ K hK
  (refine y_seq (y_region (yl_pure tabOk rfl rfl (y_seq ?_))))
  refine y_if rfl (fun hc => ?_) (fun hc => ?_)
  · have hk : k < es.length := by omega
    obtain ⟨b, off, rfl⟩ := hsl (by omega)
    (refine y_skip (y_seq (y_block (y_seq (y_region (yl_pure tabOk rfl rfl (yl_pure tabOk rfl rfl (y_seq (y_region ?_)))))))); (iterate 3 refine yl_pure tabOk rfl rfl ?_))
    refine yl_index tabOk rfl rfl rfl rfl rfl (by omega) (by omega) ?_
    refine yl_load1 tabOk rfl rfl rfl (v := es[k]) (by rw [show (Int.toNat (k : Int)) = k from rfl]; exact (hrd.keep hcw).cell1 k hk (hone k hk)) ?_
    refine yl_call tabOk rfl hg rfl rfl (hcl wr hcw es[k] (List.getElem_mem hk)) ?_
    rintro _ w2 ⟨rfl, hc2⟩
    (refine yl_nil ?_)
    refine y_cond rfl (fun hc => ?_) (fun hc => ?_)
    · (refine y_seq (y_region (yl_pure tabOk rfl rfl (yl_pure tabOk rfl rfl (y_ret ?_)))))
      exact y_fin1 rfl rfl ⟨.inl ⟨k, rfl, hk, hc⟩, hcw.trans hc2⟩
    · (refine y_skip (y_region (yl_pure tabOk rfl rfl (yl_pure tabOk rfl rfl (yl_nil ?_)))))
      refine y_k (hK _ _ _ _ ⟨k + 1, by omega, rfl, rfl, fun i hi hik => ?_, hcw.trans hc2⟩ (by omega) ⟨rfl, rfl, rfl, ?_, trivial⟩)
      · by_cases h : i < k
        · exact hpk i hi h
        · obtain rfl : i = k := by omega
          exact hc
      · show some (Value.int _ (IntKind.i64.wrap (↑k + 1))) = _
        rw [w64 (by omega) (by omega)]
        rfl
  · (refine y_exit _ rfl (y_seq (y_region (yl_pure tabOk rfl rfl (y_ret ?_)))))
    refine y_fin1 rfl rfl ⟨.inr ⟨rfl, fun x hx => ?_⟩, hcw⟩
    obtain ⟨i, hi, rfl⟩ := List.getElem_of_mem hx
    exact hpk i hi (by omega)

theorem conF_int (w : World) (lo hi : Nat) (v cv : Value) (es : List Value) (p : Value → Bool) (hrd : RdE w lo hi v 1 es) (hone : ∀ i (hi : i < es.length), oneV es[i] = true) (hlen : es.length < 4611686018427387904) (hp : PredAt Tryz.prog tab w cv es p) :
    Ca Tryz.prog 140 [v, cv] w fun r w' => r = .bool (es.any p) ∧ Chg [] w w' := by
  refine ca_of Tryz.func140 rfl (by simp [Tryz.ntmps140]) ?_
  (refine y_seq (y_region (yl_pure tabOk rfl rfl (y_seq (y_region (yl_pure tabOk rfl rfl (yl_pure tabOk rfl rfl ?_)))))))
  refine yl_call tabOk rfl rfl rfl rfl (idxF_int w lo hi v cv es p hrd hone hlen hp) ?_
  rintro r w2 ⟨⟨i, rfl, hi, hpi⟩ | ⟨rfl, hall⟩, hc2⟩
  · (refine yl_pure tabOk rfl rfl (yl_pure tabOk rfl rfl (y_ret ?_)))
    refine y_fin1 rfl rfl ⟨?_, hc2⟩
    have h1 : es.any p = true := List.any_eq_true.2 ⟨_, List.getElem_mem hi, hpi⟩
    rw [h1]
    exact congrArg Value.bool (decide_eq_true (by omega))
  · (refine yl_pure tabOk rfl rfl (yl_pure tabOk rfl rfl (y_ret ?_)))
    refine y_fin1 rfl rfl ⟨?_, hc2⟩
    have h1 : es.any p = false := List.any_eq_false.2 (fun x hx => by simp [hall x hx])
    rw [h1]
    rfl

theorem all1_int (w : World) (b t : Nat) (cv x : Value) (es : List Value) (p : Value → Bool) (_hx : oneV x = true) (hm : x ∈ es) (hb : Blk w b [cv] t) (hp : PredAt Tryz.prog tab w cv es p) :
    Ca Tryz.prog 141 [x, .pointer (some ⟨b, 0, none⟩)] w fun r w' => r = .bool (!(p x)) ∧ Chg [] w w' := by
  obtain ⟨g, first, caps, rfl, hg, hcl⟩ := hp
  refine ca_of Tryz.func141 rfl (by simp [Tryz.ntmps141]) ?_
  (refine y_seq (y_region (yl_pure tabOk rfl rfl (y_seq (y_region ?_)))); refine yl_loadB tabOk rfl rfl rfl (by assumption) (by rfl) ?_; refine yl_pure tabOk rfl rfl ?_)
  refine yl_call tabOk rfl hg rfl rfl (hcl w (Chg.refl _ _) _ hm) ?_
  rintro _ w2 ⟨rfl, hc2⟩
  (refine yl_pure tabOk rfl rfl (yl_pure tabOk rfl rfl (y_ret ?_)))
  exact y_fin1 rfl rfl ⟨rfl, hc2⟩

theorem all_int (w : World) (lo hi : Nat) (v cv : Value) (es : List Value) (p : Value → Bool) (hrd : RdE w lo hi v 1 es) (hone : ∀ i (hi : i < es.length), oneV es[i] = true) (hlen : es.length < 4611686018427387904) (hp : PredAt Tryz.prog tab w cv es p) :
    Ca Tryz.prog 89 [v, cv] w fun r w' => r = .bool (es.all p) ∧ Chg [] w w' := by
  refine ca_of Tryz.func89 rfl (by simp [Tryz.ntmps89]) ?_
  (refine y_seq (y_region ?_))
  refine yl_box rfl rfl (fun w1 hc1 hs1 hb1 => ?_)
  have hcv : cv.cells.toList = [cv] := by obtain ⟨g, first, caps, rfl, _, _⟩ := hp; rfl
  rw [hcv] at hb1
  have hp1 : PredAt Tryz.prog tab w1 (.func (.func 141) #[] #[.pointer (some ⟨w.heap.size, 0, none⟩)]) es (fun x => !(p x)) := by
    refine ⟨141, #[], #[_], rfl, rfl, fun w' hw' x hx => ?_⟩
    refine all1_int w' w.heap.size _ cv x es p ?_ hx (hb1.keep hw') (hp.keep (hc1.trans hw'))
    obtain ⟨i, hi, rfl⟩ := List.getElem_of_mem hx
    exact hone i hi
  (refine yl_pure tabOk rfl rfl (y_seq (y_region (yl_pure tabOk rfl rfl (yl_pure tabOk rfl rfl ?_)))))
  refine yl_call tabOk rfl rfl rfl rfl (conF_int w1 lo hi v _ es _ (hrd.keep hc1) hone hlen hp1) ?_
  rintro _ w2 ⟨rfl, hc2⟩
  (refine yl_pure tabOk rfl rfl (yl_pure tabOk rfl rfl (y_ret ?_)))
  refine y_fin1 rfl rfl ⟨?_, hc1.trans hc2⟩
  rw [List.all_eq_not_any_not]


set_option maxHeartbeats 1000000 in
theorem idxF_ints (w : World) (lo hi : Nat) (v cv : Value) (es : List Value) (p : Value → Bool) (hrd : RdE w lo hi v 1 es) (hone : ∀ i (hi : i < es.length), oneV es[i] = true) (hlen : es.length < 4611686018427387904) (hp : PredAt Tryz.prog tab w cv es p) :
    Ca Tryz.prog 195 [v, cv] w fun r w' => ((∃ i : Nat, r = .int .i64 i ∧ ∃ hi : i < es.length, p es[i] = true) ∨ (r = .int .i64 (-1) ∧ ∀ x ∈ es, p x = false)) ∧ Chg [] w w' := by
  obtain ⟨a, cap, rfl, hsl⟩ := hrd.out
  obtain ⟨g, first, caps, rfl, hg, hcl⟩ := hp
  refine ca_of Tryz.func195 rfl (by simp [Tryz.ntmps195]) ?_
  (refine y_seq (y_region (yl_pure tabOk rfl rfl (y_seq (y_seq (y_region ?_))))); (iterate 3 refine yl_pure tabOk rfl rfl ?_); refine y_block ?_)
  refine y_loop (fun m l wr => ∃ k : Nat, k ≤ es.length ∧ m = es.length - k ∧ l = [(0, .slice a es.length cap), (1, .func (.func g) first caps), (7, .int .i64 es.length), (8, .int .i64 k)] ∧ (∀ i (hi : i < es.length), i < k → p es[i] = false) ∧ Chg [] w wr) (m := es.length)
    ⟨0, by omega, rfl, rfl, fun i _ hi => by omega, Chg.refl _ _⟩ ⟨rfl, rfl, rfl, rfl, trivial⟩ ?_
  rintro m l wr ⟨k, hkl, rfl, rfl, hpk, hcw⟩ K hK
  (refine y_seq (y_region (yl_pure tabOk rfl rfl (y_seq ?_))))
  refine y_if rfl (fun hc => ?_) (fun hc => ?_)
  · have hk : k < es.length := by omega
    obtain ⟨b, off, rfl⟩ := hsl (by omega)
    (refine y_skip (y_seq (y_block (y_seq (y_region (yl_pure tabOk rfl rfl (yl_pure tabOk rfl rfl (y_seq (y_region ?_)))))))); (iterate 3 refine yl_pure tabOk rfl rfl ?_))
    refine yl_index tabOk rfl rfl rfl rfl rfl (by omega) (by omega) ?_
    refine yl_load1 tabOk rfl rfl rfl (v := es[k]) (by rw [show (Int.toNat (k : Int)) = k from rfl]; exact (hrd.keep hcw).cell1 k hk (hone k hk)) ?_
    refine yl_call tabOk rfl hg rfl rfl (hcl wr hcw es[k] (List.getElem_mem hk)) ?_
    rintro _ w2 ⟨rfl, hc2⟩
    (refine yl_nil ?_)
    refine y_cond rfl (fun hc => ?_) (fun hc => ?_)
    · (refine y_seq (y_region (yl_pure tabOk rfl rfl (yl_pure tabOk rfl rfl (y_ret ?_)))))
      exact y_fin1 rfl rfl ⟨.inl ⟨k, rfl, hk, hc⟩, hcw.trans hc2⟩
    · (refine y_skip (y_region (yl_pure tabOk rfl rfl (yl_pure tabOk rfl rfl (yl_nil ?_)))))
      refine y_k (hK _ _ _ _ ⟨k + 1, by omega, rfl, rfl, fun i hi hik => ?_, hcw.trans hc2⟩ (by omega) ⟨rfl, rfl, rfl, ?_, trivial⟩)
      · by_cases h : i < k
        · exact hpk i hi h
        · obtain rfl : i = k := by omega
          exact hc
      · show some (Value.int _ (IntKind.i64.wrap (↑k + 1))) = _
        rw [w64 (by omega) (by omega)]
        rfl
  · (refine y_exit _ rfl (y_seq (y_region (yl_pure tabOk rfl rfl (y_ret ?_)))))
    refine y_fin1 rfl rfl ⟨.inr ⟨rfl, fun x hx => ?_⟩, hcw⟩
    obtain ⟨i, hi, rfl⟩ := List.getElem_of_mem hx
    exact hpk i hi (by omega)

theorem conF_ints (w : World) (lo hi : Nat) (v cv : Value) (es : List Value) (p : Value → Bool) (hrd : RdE w lo hi v 1 es) (hone : ∀ i (hi : i < es.length), oneV es[i] = true) (hlen : es.length < 4611686018427387904) (hp : PredAt Tryz.prog tab w cv es p) :
    Ca Tryz.prog 184 [v, cv] w fun r w' => r = .bool (es.any p) ∧ Chg [] w w' := by
  refine ca_of Tryz.func184 rfl (by simp [Tryz.ntmps184]) ?_
  (refine y_seq (y_region (yl_pure tabOk rfl rfl (y_seq (y_region (yl_pure tabOk rfl rfl (yl_pure tabOk rfl rfl ?_)))))))
  refine yl_call tabOk rfl rfl rfl rfl (idxF_ints w lo hi v cv es p hrd hone hlen hp) ?_
  rintro r w2 ⟨⟨i, rfl, hi, hpi⟩ | ⟨rfl, hall⟩, hc2⟩
  · (refine yl_pure tabOk rfl rfl (yl_pure tabOk rfl rfl (y_ret ?_)))
    refine y_fin1 rfl rfl ⟨?_, hc2⟩
    have h1 : es.any p = true := List.any_eq_true.2 ⟨_, List.getElem_mem hi, hpi⟩
    rw [h1]
    exact congrArg Value.bool (decide_eq_true (by omega))
  · (refine yl_pure tabOk rfl rfl (yl_pure tabOk rfl rfl (y_ret ?_)))
    refine y_fin1 rfl rfl ⟨?_, hc2⟩
    have h1 : es.any p = false := List.any_eq_false.2 (fun x hx => by simp [hall x hx])
    rw [h1]
    rfl

theorem all1_ints (w : World) (b t : Nat) (cv x : Value) (es : List Value) (p : Value → Bool) (_hx : oneV x = true) (hm : x ∈ es) (hb : Blk w b [cv] t) (hp : PredAt Tryz.prog tab w cv es p) :
    Ca Tryz.prog 185 [x, .pointer (some ⟨b, 0, none⟩)] w fun r w' => r = .bool (!(p x)) ∧ Chg [] w w' := by
  obtain ⟨g, first, caps, rfl, hg, hcl⟩ := hp
  refine ca_of Tryz.func185 rfl (by simp [Tryz.ntmps185]) ?_
  (refine y_seq (y_region (yl_pure tabOk rfl rfl (y_seq (y_region ?_)))); refine yl_loadB tabOk rfl rfl rfl (by assumption) (by rfl) ?_; refine yl_pure tabOk rfl rfl ?_)
  refine yl_call tabOk rfl hg rfl rfl (hcl w (Chg.refl _ _) _ hm) ?_
  rintro _ w2 ⟨rfl, hc2⟩
  (refine yl_pure tabOk rfl rfl (yl_pure tabOk rfl rfl (y_ret ?_)))
  exact y_fin1 rfl rfl ⟨rfl, hc2⟩

theorem all_ints (w : World) (lo hi : Nat) (v cv : Value) (es : List Value) (p : Value → Bool) (hrd : RdE w lo hi v 1 es) (hone : ∀ i (hi : i < es.length), oneV es[i] = true) (hlen : es.length < 4611686018427387904) (hp : PredAt Tryz.prog tab w cv es p) :
    Ca Tryz.prog 156 [v, cv] w fun r w' => r = .bool (es.all p) ∧ Chg [] w w' := by
  refine ca_of Tryz.func156 rfl (by simp [Tryz.ntmps156]) ?_
  (refine y_seq (y_region ?_))
  refine yl_box rfl rfl (fun w1 hc1 hs1 hb1 => ?_)
  have hcv : cv.cells.toList = [cv] := by obtain ⟨g, first, caps, rfl, _, _⟩ := hp; rfl
  rw [hcv] at hb1
  have hp1 : PredAt Tryz.prog tab w1 (.func (.func 185) #[] #[.pointer (some ⟨w.heap.size, 0, none⟩)]) es (fun x => !(p x)) := by
    refine ⟨185, #[], #[_], rfl, rfl, fun w' hw' x hx => ?_⟩
    refine all1_ints w' w.heap.size _ cv x es p ?_ hx (hb1.keep hw') (hp.keep (hc1.trans hw'))
    obtain ⟨i, hi, rfl⟩ := List.getElem_of_mem hx
    exact hone i hi
  (refine yl_pure tabOk rfl rfl (y_seq (y_region (yl_pure tabOk rfl rfl (yl_pure tabOk rfl rfl ?_)))))
  refine yl_call tabOk rfl rfl rfl rfl (conF_ints w1 lo hi v _ es _ (hrd.keep hc1) hone hlen hp1) ?_
  rintro _ w2 ⟨rfl, hc2⟩
  (refine yl_pure tabOk rfl rfl (yl_pure tabOk rfl rfl (y_ret ?_)))
  refine y_fin1 rfl rfl ⟨?_, hc1.trans hc2⟩
  rw [List.all_eq_not_any_not]


set_option maxHeartbeats 1000000 in
theorem idxF_wax (w : World) (lo hi : Nat) (v cv : Value) (es : List Value) (p : Value → Bool) (hrd : RdE w lo hi v 2 es) (hagg : ∀ i (hi : i < es.length), ∃ c, es[i] = .agg c) (hlen : es.length < 4611686018427387904) (hp : PredAt Tryz.prog tab w cv es p) :
    Ca Tryz.prog 161 [v, cv] w fun r w' => ((∃ i : Nat, r = .int .i64 i ∧ ∃ hi : i < es.length, p es[i] = true) ∨ (r = .int .i64 (-1) ∧ ∀ x ∈ es, p x = false)) ∧ Chg [] w w' := by
  obtain ⟨a, cap, rfl, hsl⟩ := hrd.out
  obtain ⟨g, first, caps, rfl, hg, hcl⟩ := hp
  refine ca_of Tryz.func161 rfl (by simp [Tryz.ntmps161]) ?_
  (refine y_seq (y_region (yl_pure tabOk rfl rfl (y_seq (y_seq (y_region ?_))))); (iterate 3 refine yl_pure tabOk rfl rfl ?_); refine y_block ?_)
  refine y_loop (fun m l wr => ∃ k : Nat, k ≤ es.length ∧ m = es.length - k ∧ l = [(0, .slice a es.length cap), (1, .func (.func g) first caps), (7, .int .i64 es.length), (8, .int .i64 k)] ∧ (∀ i (hi : i < es.length), i < k → p es[i] = false) ∧ Chg [] w wr) (m := es.length)
    ⟨0, by omega, rfl, rfl, fun i _ hi => by omega, Chg.refl _ _⟩ ⟨rfl, rfl, rfl, rfl, trivial⟩ ?_
  rintro m l wr ⟨k, hkl, rfl, rfl, hpk, hcw⟩ K hK
  (refine y_seq (y_region (yl_pure tabOk rfl rfl (y_seq ?_))))
  refine y_if rfl (fun hc => ?_) (fun hc => ?_)
  · have hk : k < es.length := by omega
    obtain ⟨b, off, rfl⟩ := hsl (by omega)
    (refine y_skip (y_seq (y_block (y_seq (y_region (yl_pure tabOk rfl rfl (yl_pure tabOk rfl rfl (y_seq (y_region ?_)))))))); (iterate 3 refine yl_pure tabOk rfl rfl ?_))
    refine yl_index tabOk rfl rfl rfl rfl rfl (by omega) (by omega) ?_
    refine yl_loadA tabOk rfl rfl rfl (cs := es[k].cells.toList) (by simpa using hrd.sz es[k] (List.getElem_mem hk)) (fun j hj => (hrd.keep hcw).cell k j hk hj) ?_
    have hval : Value.agg es[k].cells.toList.toArray = es[k] := by
      obtain ⟨c, hc⟩ := hagg k hk
      rw [hc]; simp [Value.cells]
    rw [hval]
    refine yl_call tabOk rfl hg rfl rfl (hcl wr hcw es[k] (List.getElem_mem hk)) ?_
    rintro _ w2 ⟨rfl, hc2⟩
    (refine yl_nil ?_)
    refine y_cond rfl (fun hc => ?_) (fun hc => ?_)
    · (refine y_seq (y_region (yl_pure tabOk rfl rfl (yl_pure tabOk rfl rfl (y_ret ?_)))))
      exact y_fin1 rfl rfl ⟨.inl ⟨k, rfl, hk, hc⟩, hcw.trans hc2⟩
    · (refine y_skip (y_region (yl_pure tabOk rfl rfl (yl_pure tabOk rfl rfl (yl_nil ?_)))))
      refine y_k (hK _ _ _ _ ⟨k + 1, by omega, rfl, rfl, fun i hi hik => ?_, hcw.trans hc2⟩ (by omega) ⟨rfl, rfl, rfl, ?_, trivial⟩)
      · by_cases h : i < k
        · exact hpk i hi h
        · obtain rfl : i = k := by omega
          exact hc
      · show some (Value.int _ (IntKind.i64.wrap (↑k + 1))) = _
        rw [w64 (by omega) (by omega)]
        rfl
  · (refine y_exit _ rfl (y_seq (y_region (yl_pure tabOk rfl rfl (y_ret ?_)))))
    refine y_fin1 rfl rfl ⟨.inr ⟨rfl, fun x hx => ?_⟩, hcw⟩
    obtain ⟨i, hi, rfl⟩ := List.getElem_of_mem hx
    exact hpk i hi (by omega)

theorem conF_wax (w : World) (lo hi : Nat) (v cv : Value) (es : List Value) (p : Value → Bool) (hrd : RdE w lo hi v 2 es) (hagg : ∀ i (hi : i < es.length), ∃ c, es[i] = .agg c) (hlen : es.length < 4611686018427387904) (hp : PredAt Tryz.prog tab w cv es p) :
    Ca Tryz.prog 126 [v, cv] w fun r w' => r = .bool (es.any p) ∧ Chg [] w w' := by
  refine ca_of Tryz.func126 rfl (by simp [Tryz.ntmps126]) ?_
  (refine y_seq (y_region (yl_pure tabOk rfl rfl (y_seq (y_region (yl_pure tabOk rfl rfl (yl_pure tabOk rfl rfl ?_)))))))
  refine yl_call tabOk rfl rfl rfl rfl (idxF_wax w lo hi v cv es p hrd hagg hlen hp) ?_
  rintro r w2 ⟨⟨i, rfl, hi, hpi⟩ | ⟨rfl, hall⟩, hc2⟩
  · (refine yl_pure tabOk rfl rfl (yl_pure tabOk rfl rfl (y_ret ?_)))
    refine y_fin1 rfl rfl ⟨?_, hc2⟩
    have h1 : es.any p = true := List.any_eq_true.2 ⟨_, List.getElem_mem hi, hpi⟩
    rw [h1]
    exact congrArg Value.bool (decide_eq_true (by omega))
  · (refine yl_pure tabOk rfl rfl (yl_pure tabOk rfl rfl (y_ret ?_)))
    refine y_fin1 rfl rfl ⟨?_, hc2⟩
    have h1 : es.any p = false := List.any_eq_false.2 (fun x hx => by simp [hall x hx])
    rw [h1]
    rfl

end Go.Proofs.YtcmpdmobmbbplaaGreat

/- Walks: ski's small functions; the error of a lab; what runs show. -/
namespace Go.Proofs.YtcmpdmobmbbplaaGreat
set_option maxRecDepth 4000
open Go Go.Eng

theorem within_ca (n lo hi : Int) (w : World) : Ca Tryz.prog 73 [.int .i64 n, .int .i64 lo, .int .i64 hi] w fun v w' => v = .bool (inB n lo hi) ∧ Chg [] w w' := by
  refine q_of (Sat.nil w M0) Tryz.func73 rfl (by simp [Tryz.ntmps73]) ?_
  (refine q_seq (q_region (ql_pure tabOk rfl rfl (q_nil (q_seq (q_region ?_))))); (iterate 4 refine ql_pure tabOk rfl rfl ?_))
  refine ql_split rfl rfl (fun hc => ?_) (fun hc => ?_)
  · (refine ql_gyes rfl (ql_pure tabOk rfl rfl (ql_gyes rfl (ql_pure tabOk rfl rfl (ql_gyes rfl ?_)))); (iterate 3 refine ql_pure tabOk rfl rfl ?_); refine q_nil (q_ret ?_))
    refine q_fin tabOk rfl (by repeat constructor) fun w hs => ?_
    exact ⟨by simp at hc; simp [inB, hc, retV], hs.chg0⟩
  · ((iterate 3 refine ql_gno rfl rfl rfl ?_); refine ql_pure tabOk rfl rfl (ql_pure tabOk rfl rfl (q_nil (q_ret ?_))))
    refine q_fin tabOk rfl (by repeat constructor) fun w hs => ?_
    exact ⟨by simp at hc; simp [inB, retV]; omega, hs.chg0⟩

/-- A lab as cells. -/
abbrev lbC (l : Lb) (v : Value) : List Value := [.int .i64 l.skis, .int .i64 l.err, v]
def knP (s : Int) (r : Rn) : Bool := inB r.a 0 (s - 1) && (inB r.b 0 (s - 1) && (!decide (r.a = r.b)))
def pKn (s : Int) : Value → Bool
  | .agg cs => match cs.toList with
    | [.int _ a, .int _ b, .int _ c] => knP s ⟨a, b, c⟩
    | _ => false
  | _ => false
def pLd : Value → Bool
  | .agg cs => match cs.toList with
    | [.int _ _, .int _ _, .int _ c] => inB c (-10000) 10000
    | _ => false
  | _ => false
theorem pKn_all (s : Int) (l : List Rn) : (l.map rnV).all (pKn s) = l.all (knP s) := by
  rw [List.all_map]
  rfl
theorem pLd_all (l : List Rn) : (l.map rnV).all pLd = l.all fun r => inB r.lead (-10000) 10000 := by
  rw [List.all_map]
  rfl
theorem rnV_agg (l : List Rn) : ∀ i (hi : i < (l.map rnV).length), ∃ c, (l.map rnV)[i] = .agg c := fun i hi => ⟨_, by rw [List.getElem_map]⟩
theorem check1_p (w : World) (l : List Rn) (s e : Int) (v : Value) (b t : Nat) (hs0 : 1 ≤ s ∧ s ≤ 8) (hb : Blk w b [.int .i64 s, .int .i64 e, v] t) : PredAt Tryz.prog tab w (.func (.func 144) #[] #[.pointer (some ⟨b, 0, none⟩)]) (l.map rnV) (pKn s) := by
  refine ⟨_, _, _, rfl, rfl, fun w' hw' x hx => ?_⟩
  have hb' := hb.keep hw'
  obtain ⟨⟨x, y, z⟩, hy, rfl⟩ := List.mem_map.1 hx
  refine q_of (Sat.nil w' M0) Tryz.func144 rfl (by simp [Tryz.ntmps144]) ?_
  (refine q_seq (q_region ?_))
  refine ql_box rfl rfl (fun b2 => ?_)
  (refine ql_pure tabOk rfl rfl (q_nil (q_seq (q_region (ql_pure tabOk rfl rfl ?_)))); refine ql_loadBa tabOk rfl rfl rfl ?_; refine ql_pure tabOk rfl rfl ?_; refine ql_loadP tabOk rfl rfl rfl (by assumption) (by rfl) ?_; refine ql_ar tabOk rfl rfl rfl rfl (by omega) (by omega) ?_)
  refine ql_callv (val := .bool (inB x 0 (s - 1))) tabOk rfl rfl rfl rfl (fun w hs => ?_) ?_; exact within_ca x 0 (s - 1) w
  (refine ql_pure tabOk rfl rfl ?_)
  refine ql_split rfl rfl (fun hc => ?_) (fun hc => ?_)
  · (refine ql_gyes rfl (ql_pure tabOk rfl rfl (ql_gyes rfl ?_)); refine ql_loadBa tabOk rfl rfl rfl ?_; refine ql_gyes rfl (ql_pure tabOk rfl rfl (ql_gyes rfl ?_)); refine ql_loadP tabOk rfl rfl rfl (by assumption) (by rfl) ?_; refine ql_gyes rfl (ql_ar tabOk rfl rfl rfl rfl (by omega) (by omega) (ql_gyes rfl ?_)))
    refine ql_callv (val := .bool (inB y 0 (s - 1))) tabOk rfl rfl rfl rfl (fun w hs => ?_) ?_; exact within_ca y 0 (s - 1) w
    (refine ql_pure tabOk rfl rfl (ql_pure tabOk rfl rfl ?_))
    refine ql_split rfl rfl (fun hc => ?_) (fun hc => ?_)
    · (refine ql_gyes rfl (ql_pure tabOk rfl rfl (ql_gyes rfl ?_)); refine ql_loadBa tabOk rfl rfl rfl ?_; refine ql_gyes rfl (ql_pure tabOk rfl rfl (ql_gyes rfl ?_)); refine ql_loadBa tabOk rfl rfl rfl ?_; refine ql_gyes rfl ?_; (iterate 3 refine ql_pure tabOk rfl rfl ?_); refine q_nil (q_ret ?_))
      by_cases hxy : x = y
      · skip
        refine q_fin tabOk rfl (by repeat constructor) fun w hs => ?_
        exact ⟨by simp [retV, pKn, knP, *], hs.chg0⟩
      · skip
        refine q_fin tabOk rfl (by repeat constructor) fun w hs => ?_
        exact ⟨by simp [retV, pKn, knP, *], hs.chg0⟩
    · ((iterate 5 refine ql_gno rfl rfl rfl ?_); refine ql_pure tabOk rfl rfl (ql_pure tabOk rfl rfl (q_nil (q_ret ?_))))
      refine q_fin tabOk rfl (by repeat constructor) fun w hs => ?_
      exact ⟨by simp [retV, pKn, knP, *], hs.chg0⟩
  · ((iterate 6 refine ql_gno rfl rfl rfl ?_); refine ql_pure tabOk rfl rfl (ql_pure tabOk rfl rfl ?_); (iterate 5 refine ql_gno rfl rfl rfl ?_); refine ql_pure tabOk rfl rfl (ql_pure tabOk rfl rfl (q_nil (q_ret ?_))))
    refine q_fin tabOk rfl (by repeat constructor) fun w hs => ?_
    exact ⟨by simp [retV, pKn, knP, *], hs.chg0⟩
theorem check2_p (w : World) (l : List Rn) : PredAt Tryz.prog tab w (.func (.func 145) #[] #[]) (l.map rnV) pLd := by
  refine ⟨_, _, _, rfl, rfl, fun w' hw' x hx => ?_⟩
  obtain ⟨⟨x, y, z⟩, hy, rfl⟩ := List.mem_map.1 hx
  refine q_of (Sat.nil w' M0) Tryz.func145 rfl (by simp [Tryz.ntmps145]) ?_
  (refine q_seq (q_region ?_))
  refine ql_box rfl rfl (fun b2 => ?_)
  (refine ql_pure tabOk rfl rfl (q_nil (q_seq (q_region (ql_pure tabOk rfl rfl ?_)))); refine ql_loadBa tabOk rfl rfl rfl ?_)
  refine ql_callv (val := .bool (inB z (-10000) 10000)) tabOk rfl rfl rfl rfl (fun w hs => ?_) ?_; exact within_ca z (-10000) 10000 w
  (refine ql_pure tabOk rfl rfl (q_nil (q_ret ?_)))
  refine q_fin tabOk rfl (by repeat constructor) fun w hs => ?_
  exact ⟨by simp [retV, pLd], hs.chg0⟩
theorem check_ca (w : World) (lo hi : Nat) (l : Lb) (v : Value) (h : RdR w lo hi v l.runs) (hlen : l.runs.length ≤ maxLen) : Ca Tryz.prog 96 [.agg (lbC l v).toArray] w fun x w' => x = .int .i64 (checkV l) ∧ Chg [] w w' := by
  obtain ⟨a, ca, rfl, hsa⟩ := RdR.outI h
  simp only [maxLen] at hlen
  refine q_of (Sat.nil w M0) Tryz.func96 rfl (by simp [Tryz.ntmps96]) ?_
  (refine q_seq (q_region ?_))
  refine ql_box rfl rfl (fun b1 => ?_)
  (refine ql_pure tabOk rfl rfl (q_nil (q_seq (q_block (q_seq (q_region (ql_pure tabOk rfl rfl ?_)))))); refine ql_loadBa tabOk rfl rfl rfl ?_)
  refine ql_callv (val := .bool (inB l.skis 1 8)) tabOk rfl rfl rfl rfl (fun w hs => ?_) ?_; exact within_ca l.skis 1 8 w
  (refine ql_pure tabOk rfl rfl (ql_pure tabOk rfl rfl ?_))
  cases h1 : inB l.skis 1 8 with
  | false =>
    ((iterate 4 refine ql_gno rfl rfl rfl ?_); refine ql_pure tabOk rfl rfl (ql_pure tabOk rfl rfl (q_nil (q_cond_true rfl (q_seq (q_region (ql_pure tabOk rfl rfl (q_nil (q_ret ?_)))))))))
    refine q_fin tabOk rfl (by repeat constructor) fun w hs => ?_
    exact ⟨by simp [retV, checkV, h1], hs.chg0⟩
  | true =>
    have h1' := inB_iff.1 h1
    (refine ql_gyes rfl (ql_pure tabOk rfl rfl (ql_gyes rfl ?_)); refine ql_loadBa tabOk rfl rfl rfl ?_; refine ql_gyes rfl ?_)
    refine ql_callv (val := .bool (inB l.err 0 1000)) tabOk rfl rfl rfl rfl (fun w hs => ?_) ?_; exact within_ca l.err 0 1000 w
    (refine ql_gyes rfl ?_; (iterate 3 refine ql_pure tabOk rfl rfl ?_); refine q_nil ?_)
    cases h2 : inB l.err 0 1000 with
    | false =>
      (refine q_cond_true rfl (q_seq (q_region (ql_pure tabOk rfl rfl (q_nil (q_ret ?_))))))
      refine q_fin tabOk rfl (by repeat constructor) fun w hs => ?_
      exact ⟨by simp [retV, checkV, h1, h2], hs.chg0⟩
    | true =>
      (refine q_cond_false rfl (q_seq (q_region (ql_pure tabOk rfl rfl ?_))); refine ql_loadBa tabOk rfl rfl rfl ?_; (iterate 3 refine ql_pure tabOk rfl rfl ?_); refine q_nil ?_)
      refine q_if rfl (fun hc => ?_) (fun hc => ?_)
      · have h3 : 40 < l.runs.length := by omega
        (refine q_seq (q_region (ql_pure tabOk rfl rfl (q_nil (q_ret ?_)))))
        refine q_fin tabOk rfl (by repeat constructor) fun w hs => ?_
        exact ⟨by simp [retV, checkV, h1, h2, h3], hs.chg0⟩
      · have h3 : ¬ 40 < l.runs.length := by omega
        (refine q_seq (q_region (ql_pure tabOk rfl rfl ?_)); refine ql_loadBa tabOk rfl rfl rfl ?_; refine ql_pure tabOk rfl rfl ?_)
        refine ql_callv (val := .bool (knownB l)) tabOk rfl rfl rfl rfl (fun w hs => ?_) ?_; exact by have := all_run w lo hi _ _ (l.runs.map rnV) (pKn l.skis) (RdE.keep h hs.chg0) (rnV_agg l.runs) (by simp; omega) (check1_p w l.runs l.skis l.err _ b1 _ h1' (hs.blk (by repeat constructor))); rw [pKn_all] at this; exact this
        (refine ql_pure tabOk rfl rfl (ql_pure tabOk rfl rfl (q_nil ?_)))
        cases h4 : knownB l with
        | false =>
          (refine q_cond_true rfl (q_seq (q_region (ql_pure tabOk rfl rfl (q_nil (q_ret ?_))))))
          refine q_fin tabOk rfl (by repeat constructor) fun w hs => ?_
          exact ⟨by simp [retV, checkV, h1, h2, h3, h4], hs.chg0⟩
        | true =>
          (refine q_cond_false rfl (q_seq (q_region (ql_pure tabOk rfl rfl ?_))); refine ql_loadBa tabOk rfl rfl rfl ?_)
          refine ql_callv (val := .bool (leadB l)) tabOk rfl rfl rfl rfl (fun w hs => ?_) ?_; exact by have := all_run w lo hi _ _ (l.runs.map rnV) pLd (RdE.keep h hs.chg0) (rnV_agg l.runs) (by simp; omega) (check2_p w l.runs); rw [pLd_all] at this; exact this
          (refine ql_pure tabOk rfl rfl (ql_pure tabOk rfl rfl (q_nil ?_)))
          cases h5 : leadB l with
          | false =>
            (refine q_cond_true rfl (q_seq (q_region (ql_pure tabOk rfl rfl (q_nil (q_ret ?_))))))
            refine q_fin tabOk rfl (by repeat constructor) fun w hs => ?_
            exact ⟨by simp [retV, checkV, h1, h2, h3, h4, h5], hs.chg0⟩
          | true =>
            (refine q_cond_false rfl (q_skip (q_blk (q_seq (q_region (ql_pure tabOk rfl rfl (q_nil (q_ret ?_))))))))
            refine q_fin tabOk rfl (by repeat constructor) fun w hs => ?_
            exact ⟨by simp [retV, checkV, h1, h2, h3, h4, h5], hs.chg0⟩
end Go.Proofs.YtcmpdmobmbbplaaGreat

/- What a function of the chapter is told of its arguments. -/
namespace Go.Proofs.YtcmpdmobmbbplaaGreat
set_option maxRecDepth 4000
open Go Go.Eng

section
variable {H : Type} {enc : TypeId × Value → H} {P : Program} {w : World} {sp : Nat → Bool} {held : Bool}
theorem in_fieldK {t : TypeId} {fs : Array Field} {fuel : Nat} {cs : List Value} {x : DataW H × List MemPlace} (ht : P.underlying t = some (.struct fs)) (h : DataW.trod enc P w 0 sp held fuel t cs = some x) (i u o m : Nat) (hi : (fs[i]?).map (fun f => (f.type, f.offset)) = some (u, o)) (hm : P.cellsOf u = m) :
    ∃ n y, DataW.trod enc P w 0 sp held n u ((cs.drop o).take m) = some y := by
  cases hf : fs[i]? with
  | none => rw [hf] at hi; cases hi
  | some f =>
    rw [hf] at hi
    simp only [Option.map_some, Option.some.injEq, Prod.mk.injEq] at hi
    obtain ⟨rfl, rfl⟩ := hi
    rw [← hm]
    exact (in_field ht h).2 i f hf
theorem agg_of {r : Reach} {base : Nat} {t : TypeId} {fs : Array Field} {v : Value} (ht : P.underlying t = some (.struct fs)) (hv : Value.okWide P w r base t v) : ∃ cs : List Value, v = .agg cs.toArray ∧ v.cells.toList = cs := by
  simp only [Value.okWide, ht] at hv
  obtain ⟨cs, rfl, _, _⟩ := hv
  exact ⟨cs.toList, by simp, rfl⟩
theorem cs3 {cs : List Value} (h : cs.length = 3) : ∃ a b c, cs = [a, b, c] := by
  match cs, h with
  | [a, b, c], _ => exact ⟨a, b, c, rfl⟩
theorem flats_of {α : Type} (enc2 : α → Value) (Q : α → Prop) : ∀ (css : List (List Value)), (∀ c ∈ css, ∃ a, c = (enc2 a).cells.toList ∧ Q a) → ∃ l : List α, css.flatten = cellsOf (l.map enc2) ∧ l.length = css.length ∧ ∀ x ∈ l, Q x
  | [], _ => ⟨[], rfl, rfl, by simp⟩
  | c :: css, h => by
    obtain ⟨a, rfl, ha⟩ := h c List.mem_cons_self
    obtain ⟨l, h1, h2, h3⟩ := flats_of enc2 Q css (fun d hd => h d (List.mem_cons_of_mem _ hd))
    refine ⟨a :: l, ?_, by simp [h2], fun x hx => ?_⟩
    · rw [List.flatten_cons, h1]
      simp [cellsOf]
    · rcases List.mem_cons.1 hx with rfl | hx
      · exact ha
      · exact h3 x hx
/-- Structs of numbers that came in. -/
theorem in_flats {α : Type} (enc2 : α → Value) (Q : α → Prop) {sz : Nat} (hsz : ∀ a, (enc2 a).cells.size = sz) (h0 : 0 < sz) {t e : TypeId} {fuel : Nat} {cs : List Value} {x : DataW H × List MemPlace} (ht : P.underlying t = some (.slice e)) (hc : P.cellsOf e = sz)
    (hf : ∀ n c y, DataW.trod enc P w 0 sp held n e c = some y → ∃ a, c = (enc2 a).cells.toList ∧ Q a) (h : DataW.trod enc P w 0 sp held fuel t cs = some x) :
    ∃ (v : Value) (l : List α), cs = [v] ∧ RdE w 0 w.heap.size v sz (l.map enc2) ∧ (∀ x ∈ l, Q x) ∧ l.length ≤ maxLen := by
  obtain ⟨v, css, h1, h2, h3, _, h4⟩ := in_slice ht (by omega) h
  obtain ⟨l, e1, e2, e3⟩ := flats_of enc2 Q css (fun c hc' => by obtain ⟨n, y, hy⟩ := h4 c hc'; exact hf n c y hy)
  rw [e1, ← e2, hc] at h3
  exact ⟨v, l, h1, ⟨by simpa using h3, fun e he => by obtain ⟨n, _, rfl⟩ := List.mem_map.1 he; exact hsz n⟩, e3, by omega⟩
end

section
variable {H : Type} {enc : TypeId × Value → H} {w : World} {sp : Nat → Bool} {held : Bool} {rc : Reach} {base : Nat} {v : Value} {d : DataW H} {ps : List MemPlace}
theorem und_lb : Tryz.prog.underlying 24 = some (.struct (Tryz.prog.fieldsOf 24)) := by kernel_rfl
theorem cel_lb : Tryz.prog.cellsOf 24 = 3 := by kernel_rfl
theorem und_rn : Tryz.prog.underlying 40 = some (.struct (Tryz.prog.fieldsOf 40)) := by kernel_rfl
theorem cel_rn : Tryz.prog.cellsOf 40 = 3 := by kernel_rfl
theorem und_R : Tryz.prog.underlying 22 = some (.slice 40) := by kernel_rfl
theorem cel_R : Tryz.prog.cellsOf 22 = 1 := by kernel_rfl
theorem und_i : Tryz.prog.underlying 3 = some (.int .i64) := by kernel_rfl
theorem cel_i : Tryz.prog.cellsOf 3 = 1 := by kernel_rfl
theorem trod_rn {n : Nat} {c : List Value} {y : DataW H × List MemPlace} (h : DataW.trod enc Tryz.prog w 0 sp held n 40 c = some y) : ∃ a : Rn, c = (rnV a).cells.toList ∧ (I64 a.a ∧ I64 a.b ∧ I64 a.lead) := by
  have hl := (in_field und_rn h).1
  rw [cel_rn] at hl
  obtain ⟨n0, y0, f0⟩ := in_fieldK und_rn h 0 3 0 1 (by kernel_rfl) cel_i
  obtain ⟨n1, y1, f1⟩ := in_fieldK und_rn h 1 3 1 1 (by kernel_rfl) cel_i
  obtain ⟨n2, y2, f2⟩ := in_fieldK und_rn h 2 3 2 1 (by kernel_rfl) cel_i
  obtain ⟨a0, a1, a2, rfl⟩ := cs3 hl
  obtain ⟨x0, g0, e0⟩ := in_int und_i f0
  obtain ⟨x1, g1, e1⟩ := in_int und_i f1
  obtain ⟨x2, g2, e2⟩ := in_int und_i f2
  cases g0; cases g1; cases g2
  exact ⟨⟨x0, x1, x2⟩, rfl, e0, e1, e2⟩
set_option maxRecDepth 100000 in
theorem in_A (h : DataW.Trod enc Tryz.prog w 0 sp held 24 v d ps) (hv : Value.okWide Tryz.prog w rc base 24 v) :
    ∃ (x : Lb) (u : Value), v = .agg (lbC x u).toArray ∧ RdR w 0 w.heap.size u x.runs ∧ x.runs.length ≤ maxLen ∧ (I64 x.skis ∧ I64 x.err ∧ ∀ r ∈ x.runs, I64 r.a ∧ I64 r.b ∧ I64 r.lead) := by
  obtain ⟨fuel, h⟩ := h
  obtain ⟨cs, rfl, hcs⟩ := agg_of und_lb hv
  rw [hcs] at h
  have hl := (in_field und_lb h).1
  rw [cel_lb] at hl
  obtain ⟨n0, y0, f0⟩ := in_fieldK und_lb h 0 3 0 1 (by kernel_rfl) cel_i
  obtain ⟨n1, y1, f1⟩ := in_fieldK und_lb h 1 3 1 1 (by kernel_rfl) cel_i
  obtain ⟨n2, y2, f2⟩ := in_fieldK und_lb h 2 22 2 1 (by kernel_rfl) cel_R
  obtain ⟨a0, a1, a2, rfl⟩ := cs3 hl
  obtain ⟨x0, g0, e0⟩ := in_int und_i f0
  obtain ⟨x1, g1, e1⟩ := in_int und_i f1
  obtain ⟨u, l, g2, h2, h3, h4⟩ := in_flats rnV (fun a => I64 a.a ∧ I64 a.b ∧ I64 a.lead) (sz := 3) (fun _ => rfl) (by omega) und_R cel_rn (fun n c y hc => trod_rn hc) f2
  cases g0; cases g1; cases g2
  exact ⟨⟨x0, x1, l⟩, _, rfl, h2, h4, e0, e1, h3⟩
end
end Go.Proofs.YtcmpdmobmbbplaaGreat

/- Walks: what runs show. -/
namespace Go.Proofs.YtcmpdmobmbbplaaGreat
set_option maxRecDepth 4000
open Go Go.Eng

/-- What a run shows, as numbers. -/
def runI (e : Int) (r : Rn) : Option (Int × Int) := if e < r.lead then some (r.a, r.b) else if r.lead < -e then some (r.b, r.a) else none
def shO : Option (Int × Int) → Value
  | some p => .tuple #[.agg #[.int .i64 p.1, .int .i64 p.2], .bool true]
  | none => .tuple #[.agg #[.int .i64 0, .int .i64 0], .bool false]
theorem runI_nat {e : Int} {r : Rn} : runV e r = (runI e r).map fun p => (p.1.toNat, p.2.toNat) := by
  unfold runV runI
  split
  · rfl
  · split <;> rfl
theorem shows_ca (w : World) (lo hi : Nat) (l : Lb) (v : Value) (h : RdR w lo hi v l.runs) (he : 0 ≤ l.err ∧ l.err ≤ 1000) (i : Nat) (hi' : i < l.runs.length) :
    Ca Tryz.prog 91 [.agg (lbC l v).toArray, .int .i64 i] w fun x w' => x = shO (runI l.err l.runs[i]) ∧ Chg [] w w' := by
  obtain ⟨a, ca, rfl, hsa⟩ := RdR.outI h
  obtain ⟨b, off, rfl⟩ := hsa (by omega)
  refine q_of (Sat.nil w M0) Tryz.func91 rfl (by simp [Tryz.ntmps91]) ?_
  (refine q_seq (q_region ?_))
  refine ql_box rfl rfl (fun b2 => ?_)
  skip
  refine ql_alloc zero86 rfl (fun b4 => ?_)
  (refine ql_pure tabOk rfl rfl (q_nil (q_seq (q_seq (q_region (ql_pure tabOk rfl rfl ?_))))); refine ql_loadBa tabOk rfl rfl rfl ?_; refine ql_pure tabOk rfl rfl ?_)
  refine ql_index tabOk rfl rfl rfl rfl rfl (by omega) (by omega) ?_
  refine ql_loadA tabOk rfl rfl rfl rfl (fun w hs => RdR.at (RdE.keep h hs.chg0) i hi') ?_
  skip
  refine ql_alloc zero40 rfl (fun b6 => ?_)
  (refine ql_setA tabOk rfl rfl rfl rfl rfl (by repeat constructor) rfl ?_; refine q_nil (q_block (q_seq (q_region (ql_pure tabOk rfl rfl ?_)))); refine ql_loadBa tabOk rfl rfl rfl ?_; refine ql_pure tabOk rfl rfl ?_; refine ql_loadBa tabOk rfl rfl rfl ?_; refine ql_pure tabOk rfl rfl (ql_pure tabOk rfl rfl (q_nil ?_)))
  refine q_if rfl (fun hc => ?_) (fun hc => ?_)
  · (refine q_seq (q_region (ql_pure tabOk rfl rfl ?_)); refine ql_loadBa tabOk rfl rfl rfl ?_; refine ql_pure tabOk rfl rfl ?_; refine ql_loadBa tabOk rfl rfl rfl ?_)
    refine ql_mk #[.int .i64 l.runs[i].a, .int .i64 l.runs[i].b] rfl (by kernel_rfl) rfl ?_
    (refine ql_setA tabOk rfl rfl rfl rfl rfl (by repeat constructor) rfl ?_; refine ql_pure tabOk rfl rfl (q_nil (q_ret ?_)))
    refine q_fin tabOk rfl (by repeat constructor) fun w hs => ?_
    exact ⟨by simp [retV, runI, shO, hc], hs.chg0⟩
  · have h1 := hc
    clear hc
    (refine q_seq (q_region (ql_pure tabOk rfl rfl ?_)); refine ql_loadBa tabOk rfl rfl rfl ?_; refine ql_pure tabOk rfl rfl ?_; refine ql_loadBa tabOk rfl rfl rfl ?_; refine ql_neg tabOk rfl rfl (by omega) (by omega) (ql_pure tabOk rfl rfl (ql_pure tabOk rfl rfl (q_nil ?_))))
    refine q_if rfl (fun hc => ?_) (fun hc => ?_)
    · (refine q_seq (q_region (ql_pure tabOk rfl rfl ?_)); refine ql_loadBa tabOk rfl rfl rfl ?_; refine ql_pure tabOk rfl rfl ?_; refine ql_loadBa tabOk rfl rfl rfl ?_)
      refine ql_mk #[.int .i64 l.runs[i].b, .int .i64 l.runs[i].a] rfl (by kernel_rfl) rfl ?_
      (refine ql_setA tabOk rfl rfl rfl rfl rfl (by repeat constructor) rfl ?_; refine ql_pure tabOk rfl rfl (q_nil (q_ret ?_)))
      refine q_fin tabOk rfl (by repeat constructor) fun w hs => ?_
      exact ⟨by simp [retV, runI, shO, h1, hc], hs.chg0⟩
    · (refine q_skip (q_blk (q_seq (q_region ?_))))
      refine ql_mk #[.int .i64 0, .int .i64 0] rfl (by kernel_rfl) rfl ?_
      (refine ql_setA tabOk rfl rfl rfl rfl rfl (by repeat constructor) rfl ?_; refine ql_pure tabOk rfl rfl (q_nil (q_ret ?_)))
      refine q_fin tabOk rfl (by repeat constructor) fun w hs => ?_
      exact ⟨by simp [retV, runI, shO, *], hs.chg0⟩
theorem shown_ca (w : World) (l : Lb) (v : Value) : Ca Tryz.prog 136 [.agg (lbC l v).toArray] w fun x w' => ∃ b : Nat, x = .func (.func 165) #[] #[.pointer (some ⟨b, 0, none⟩)] ∧ Sat w M0 [.pt b (lbC l v) 24] w' := by
  refine q_of (Sat.nil w M0) Tryz.func136 rfl (by simp [Tryz.ntmps136]) ?_
  (refine q_seq (q_region ?_))
  refine ql_box rfl rfl (fun b2 => ?_)
  (refine ql_pure tabOk rfl rfl (q_nil (q_seq (q_region (ql_pure tabOk rfl rfl (ql_pure tabOk rfl rfl (q_nil (q_ret ?_))))))))
  refine q_fin tabOk rfl (by repeat constructor) fun w hs => ?_
  exact ⟨b2, rfl, hs⟩

/-- What the first runs show, with their numbers. -/
def shP (l : Lb) (n : Nat) : List (Nat × Int × Int) := (List.range n).filterMap fun i => (runI l.err (l.runs.getD i ⟨0, 0, 0⟩)).map fun p => (i, p)
def shL (l : Lb) : List (Nat × Int × Int) := shP l l.runs.length
theorem shP_succ (l : Lb) {n : Nat} (h : n < l.runs.length) : shP l (n + 1) = shP l n ++ ((runI l.err l.runs[n]).map fun p => (n, p)).toList := by
  unfold shP
  rw [List.range_succ, List.filterMap_append]
  have e : l.runs.getD n ⟨0, 0, 0⟩ = l.runs[n] := by rw [List.getD_eq_getElem?_getD, List.getElem?_eq_getElem h]; rfl
  simp only [List.filterMap_cons, List.filterMap_nil, e]
  cases runI l.err l.runs[n] <;> rfl
theorem shP_split (l : Lb) : ∀ {n m : Nat}, n ≤ m → ∃ suf, shP l m = shP l n ++ suf
  | n, m, h => by
    obtain ⟨d, rfl⟩ : ∃ d, m = n + d := ⟨m - n, by omega⟩
    exact ⟨_, by unfold shP; rw [List.range_add, List.filterMap_append]⟩
theorem pairs_take (l : Lb) : ∀ n, n ≤ l.runs.length → (l.runs.take n).filterMap (runV l.err) = (shP l n).map fun x => (x.2.1.toNat, x.2.2.toNat)
  | 0, _ => rfl
  | n + 1, h => by
    rw [List.take_succ_eq_append_getElem h, List.filterMap_append, pairs_take l n (by omega), shP_succ l h, List.map_append]
    congr 1
    simp only [List.filterMap_cons, List.filterMap_nil, runI_nat]
    cases runI l.err l.runs[n] <;> rfl
theorem pairs_sh (l : Lb) : l.pairs = (shL l).map fun x => (x.2.1.toNat, x.2.2.toNat) := by
  have := pairs_take l l.runs.length (Nat.le_refl _)
  rw [List.take_length] at this
  exact this
def shE (x : Nat × Int × Int) : List Value := [.int .i64 x.1, .agg #[.int .i64 x.2.1, .int .i64 x.2.2]]
theorem shown_it (w0 w : World) (D : Nat → Prop) (lo hi b : Nat) (l : Lb) (v : Value) (h : RdR w0 lo hi v l.runs) (he : 0 ≤ l.err ∧ l.err ≤ 1000) (hlen : l.runs.length ≤ 1000) (h0 : ∀ w', ChgP D w w' → Chg [] w0 w') {t1 : TypeId} (hb : Blk w b (lbC l v) t1) (hD : ¬ D b) :
    ItOk Tryz.prog 165 [.pointer (some ⟨b, 0, none⟩)] shE (shL l) w D := by
  intro fv σ L I E s0 hI0 hLD hsat hcb
  obtain ⟨a, ca, rfl, hsa⟩ := RdR.outI h
  have hm : ∀ w', ChgP (DL (L s0)) w w' → ChgP D w w' := fun w' hc => ⟨hc.os, hc.tape, hc.output, hc.size, fun k hk hk2 => hc.block k hk (fun h => hk2 (hLD k h))⟩
  have hP : ∀ w', ChgP (DL (L s0)) w w' → Blk w' b _ t1 := fun w' hc => (hc.block b hb.lt (fun h => hD (hLD b h))).trans hb
  refine q_of (H := [un (L s0)]) (Sat.un1.2 hsat) Tryz.func165 rfl (by simp [Tryz.ntmps165]) ?_
  (refine q_seq (q_region (ql_pure tabOk rfl rfl ?_)); refine ql_loadG tabOk rfl rfl rfl (by assumption) (by rfl) ?_; refine ql_pure tabOk rfl rfl (ql_pure tabOk rfl rfl (q_nil (q_block ?_))))
  refine q_loop (σ := Nat × σ) (fun s => s.1 ≤ l.runs.length ∧ I (shP l s.1) s.2) (fun s => l.runs.length - s.1) (fun s => [(0, fv), (1, .pointer (some ⟨b, 0, none⟩)), (8, .int .i64 l.runs.length), (9, .int .i64 s.1)])
    (fun s => [un (L s.2)]) (0, s0) ⟨by omega, hI0⟩ ⟨rfl, rfl, rfl, rfl, trivial⟩ (Sp.refl _) ?_
  rintro ⟨n, s⟩ ⟨hn, hI⟩ K hK
  dsimp only at hn hI ⊢
  (refine q_seq (q_region (ql_pure tabOk rfl rfl (q_nil (q_seq ?_)))))
  refine q_if rfl (fun hc => ?_) (fun hc => ?_)
  · have hn2 : n < l.runs.length := by first | omega | (simp at hc; omega)
    clear hc
    (refine q_skip (q_seq (q_block (q_seq (q_region (ql_pure tabOk rfl rfl (ql_pure tabOk rfl rfl (q_nil (q_seq (q_region ?_))))))))); refine ql_loadGA tabOk rfl rfl rfl (by assumption) (by rfl) (by rfl) ?_; refine ql_pure tabOk rfl rfl ?_)
    refine ql_callv tabOk rfl rfl rfl rfl (fun w hs => shows_ca w lo hi l _ (RdE.keep h (h0 _ (hm _ hs.chg))) he n hn2) ?_
    obtain ⟨suf, hsuf⟩ := shP_split l (show n + 1 ≤ l.runs.length from hn2)
    have hs1 := shP_succ l hn2
    cases hx : runI l.err l.runs[n] with
    | none =>
      rw [hx] at hs1
      dsimp only [shO]
      (refine ql_pure tabOk rfl rfl (ql_ext tabOk rfl rfl rfl (ql_ext tabOk rfl rfl rfl ?_)))
      refine ql_alloc zero86 rfl (fun b4 => ?_)
      (refine ql_setA tabOk rfl rfl rfl rfl rfl (by repeat constructor) rfl ?_; refine ql_pure tabOk rfl rfl (q_nil (q_seq (q_region (ql_pure tabOk rfl rfl (ql_pure tabOk rfl rfl ?_))))); (iterate 5 refine ql_gno rfl rfl rfl ?_); refine ql_pure tabOk rfl rfl (q_nil (q_cond_false rfl (q_skip (q_blk (q_region (ql_ar tabOk rfl rfl rfl rfl (by omega) (by omega) (ql_pure tabOk rfl rfl (q_nil ?_)))))))))
      exact hK (n + 1, s) _ _ ⟨by simp only; omega, by rw [hs1]; simpa using hI⟩ (by simp only; omega) ⟨rfl, rfl, rfl, rfl, trivial⟩ (by repeat constructor)
    | some p =>
      rw [hx] at hs1
      dsimp only [shO]
      (refine ql_pure tabOk rfl rfl (ql_ext tabOk rfl rfl rfl (ql_ext tabOk rfl rfl rfl ?_)))
      refine ql_alloc zero86 rfl (fun b4 => ?_)
      (refine ql_setA tabOk rfl rfl rfl rfl rfl (by repeat constructor) rfl ?_; refine ql_pure tabOk rfl rfl (q_nil (q_seq (q_region (ql_pure tabOk rfl rfl (ql_pure tabOk rfl rfl (ql_gyes rfl (ql_pure tabOk rfl rfl (ql_gyes rfl (ql_pure tabOk rfl rfl (ql_gyes rfl ?_)))))))))); refine ql_loadABa tabOk rfl rfl rfl ?_; refine ql_gyes rfl ?_)
      have hxs : shL l = shP l n ++ (n, p) :: suf := by show shP l l.runs.length = _; rw [hsuf, hs1]; simp
      refine ql_callF (β := σ) [un (L s)] [.pt b4 [.int .i64 p.1, .int .i64 p.2] 86] (DL (L s)) rfl rfl rfl (by repeat constructor) (fun b hb => ⟨_, .head _, hb⟩) (yieldF hcb hxs hI) ?_
      rintro s' v (⟨rfl, hI'⟩ | ⟨rfl, hE⟩)
      · (refine ql_gyes rfl (ql_pure tabOk rfl rfl (ql_pure tabOk rfl rfl (q_nil (q_cond_false rfl (q_skip (q_blk (q_region (ql_ar tabOk rfl rfl rfl rfl (by omega) (by omega) (ql_pure tabOk rfl rfl (q_nil ?_)))))))))))
        exact hK (n + 1, s') _ _ ⟨by simp only; omega, by rw [hs1]; simpa using hI'⟩ (by simp only; omega) ⟨rfl, rfl, rfl, rfl, trivial⟩ (by repeat constructor)
      · (refine ql_gyes rfl (ql_pure tabOk rfl rfl (ql_pure tabOk rfl rfl (q_nil (q_cond_true rfl (q_ret ?_))))))
        refine q_fin tabOk rfl (by repeat constructor) fun w hs => ?_
        exact ⟨s', .inr hE, Sat.un1.1 (hs.sp (by repeat constructor))⟩
  · have hne : n = l.runs.length := by omega
    subst hne
    (refine q_exit _ rfl ?_)
    refine q_end tabOk rfl (by repeat constructor) fun w hs => ?_
    exact ⟨s, .inl hI, Sat.un1.1 (hs.sp (by repeat constructor))⟩
end Go.Proofs.YtcmpdmobmbbplaaGreat

/- Walks: orders. -/
namespace Go.Proofs.YtcmpdmobmbbplaaGreat
set_option maxRecDepth 4000
open Go Go.Eng

theorem o_arr : arrB Tryz.prog 120 8 118 8 = true := by kernel_rfl
theorem r_arr : arrB Tryz.prog 118 8 4 1 = true := by kernel_rfl
/-- The cells of an order. -/
def oL (o : Nat) : List Bool := (List.range 64).map o.testBit
def oC (o : Nat) : List Value := (oL o).map Value.bool
theorem oC_len (o : Nat) : (oC o).length = 64 := by simp [oC, oL]
theorem oC_get (o i : Nat) (h : i < 64) : (oC o)[i]? = some (.bool (o.testBit i)) := by simp [oC, oL, h]
theorem oC_one (o : Nat) : ∀ v ∈ oC o, oneV v = true := fun v hv => by
  obtain ⟨b, _, rfl⟩ := List.mem_map.1 hv
  rfl
theorem o_cell {w0 w : World} {M : Nat → Prop} {H : List Ck} {b off : Nat} {o : Nat} {t : TypeId} (hs : Sat w0 M H w) (hm : Ck.pt b (oC o) t ∈ H) (x y : Nat) (hx : x < 8) (hy : y < 8) (ho : off = 8 * x + y) : w.cell? ⟨b, off, none⟩ = some (.bool (fa o x y)) := by
  subst ho
  rw [Blk.cell (hs.mem hm), oC_get _ _ (by omega)]
  rfl
/-- An order that is under way. -/
def pO (o p n : Nat) : Nat := mkB (fun c => if c < n then p.testBit c else o.testBit c) 64
theorem pO_bit (o p n i : Nat) : (pO o p n).testBit i = (decide (i < 64) && if i < n then p.testBit i else o.testBit i) := mkB_bit _ _ _
theorem oC_pO0 (o p : Nat) : oC (pO o p 0) = oC o := by
  unfold oC oL
  rw [List.map_map, List.map_map]
  refine List.map_congr_left fun i hi => ?_
  have := List.mem_range.1 hi
  simp [pO_bit, this]
theorem oC_pO64 (o p : Nat) : oC (pO o p 64) = oC p := by
  unfold oC oL
  rw [List.map_map, List.map_map]
  refine List.map_congr_left fun i hi => ?_
  have := List.mem_range.1 hi
  simp [pO_bit, this]
theorem oC_pO_succ (o p n : Nat) (hn : n < 64) (hp : p.testBit n = true) : (oC (pO o p n)).set n (.bool true) = oC (pO o p (n + 1)) := by
  refine List.ext_getElem? fun i => ?_
  rw [List.getElem?_set]
  by_cases hi : i < 64
  · rw [oC_get _ _ hi, oC_get _ _ hi, oC_len, pO_bit, pO_bit]
    by_cases e : n = i
    · subst e
      simp [hn, hp]
    · rw [if_neg e]
      by_cases h : i < n
      · simp [hi, h, show i < n + 1 by omega]
      · simp [hi, h, show ¬ i < n + 1 by omega]
  · rw [if_neg (by omega), List.getElem?_eq_none (by rw [oC_len]; omega), List.getElem?_eq_none (by rw [oC_len]; omega)]
theorem oC_pO_same (o p n : Nat) (hp : p.testBit n = o.testBit n) : oC (pO o p n) = oC (pO o p (n + 1)) := by
  unfold oC oL
  rw [List.map_map, List.map_map]
  refine List.map_congr_left fun i hi => ?_
  have := List.mem_range.1 hi
  simp only [Function.comp, pO_bit]
  by_cases e : i = n
  · subst e
    simp [hp]
  · by_cases h : i < n
    · simp [h, show i < n + 1 by omega]
    · simp [h, show ¬ i < n + 1 by omega]
theorem agg_cells (l : List Value) : (Value.agg l.toArray).cells.toList = l := rfl
theorem oC_take (o : Nat) : List.take 64 (List.drop 0 (oC o)) = oC o := by rw [List.drop_zero, List.take_of_length_le (by rw [oC_len]; omega)]
theorem bit_with (o f s a b : Nat) (ha : a < 8) (hb : b < 8) : (withO o f s).testBit (8 * a + b) = (o.testBit (8 * a + b) || ((a == f || fa o a f) && (b == s || fa o s b))) := fa_with o f s ha hb
set_option maxHeartbeats 2000000 in
theorem with_ca (w : World) (o f s : Nat) (hf : f < 8) (hs8 : s < 8) : Ca Tryz.prog 133 [.agg (oC o).toArray, .int .i64 f, .int .i64 s] w fun v w' => v = .agg (oC (withO o f s)).toArray ∧ Chg [] w w' := by
  refine q_of (Sat.nil w M0) Tryz.func133 rfl (by simp [Tryz.ntmps133]) ?_
  (refine q_seq (q_region ?_))
  refine ql_box rfl rfl (fun b3 => ?_)
  rw [agg_cells]
  skip
  refine ql_alloc zero120 rfl (fun b6 => ?_)
  generalize hz6 : (Value.agg _).cells.toList = z6
  have hl6 : z6.length = 64 := by rw [← hz6]; rfl
  clear hz6
  (refine q_nil (q_seq (q_region ?_)); refine ql_loadABa tabOk rfl rfl rfl ?_)
  rw [oC_take]
  refine ql_alloc zero120 rfl (fun b7 => ?_)
  (refine ql_setA tabOk rfl rfl rfl rfl rfl (by repeat constructor) rfl ?_; refine q_nil (q_seq (q_seq (q_region (ql_pure tabOk rfl rfl (q_nil (q_block ?_)))))))
  obtain ⟨p, hp⟩ : ∃ p, p = withO o f s := ⟨_, rfl⟩
  refine q_loop (σ := Nat) (fun a => a ≤ 8) (fun a => 8 - a) (fun a => [(1, .int .i64 f), (2, .int .i64 s), (3, .pointer (some ⟨b3, 0, none⟩)), (6, .pointer (some ⟨b6, 0, none⟩)), (7, .pointer (some ⟨b7, 0, none⟩)), (11, .int .i64 a)]) (fun a => [.pt b7 (oC (pO o p (8 * a))) 120, .pt b6 z6 120, .pt b3 (oC o) 120]) 0 (by omega) ⟨rfl, rfl, rfl, rfl, rfl, rfl, trivial⟩ (by rw [Nat.mul_zero, oC_pO0]; repeat constructor) ?_
  rintro a ha K hK
  (refine q_seq (q_region (ql_pure tabOk rfl rfl (q_nil (q_seq ?_)))))
  refine q_if rfl (fun hc => ?_) (fun hc => ?_)
  · have ha2 : a < 8 := by omega
    clear hc
    (refine q_skip (q_seq (q_block (q_seq (q_region (ql_pure tabOk rfl rfl (ql_pure tabOk rfl rfl (q_nil (q_seq (q_region (ql_pure tabOk rfl rfl (q_nil ?_))))))))))); refine q_block ?_)
    refine q_loop (σ := Nat) (fun b => b ≤ 8) (fun b => 8 - b) (fun b => [(1, .int .i64 f), (2, .int .i64 s), (3, .pointer (some ⟨b3, 0, none⟩)), (6, .pointer (some ⟨b6, 0, none⟩)), (7, .pointer (some ⟨b7, 0, none⟩)), (8, .int .i64 a), (11, .int .i64 a), (14, .int .i64 b)]) (fun b => [.pt b7 (oC (pO o p (8 * a + b))) 120, .pt b6 z6 120, .pt b3 (oC o) 120]) 0 (by omega) ⟨rfl, rfl, rfl, rfl, rfl, rfl, rfl, rfl, trivial⟩ (by repeat constructor) ?_
    rintro b hb K2 hK2
    (refine q_seq (q_region (ql_pure tabOk rfl rfl (q_nil (q_seq ?_)))))
    refine q_if rfl (fun hc => ?_) (fun hc => ?_)
    · have hb2 : b < 8 := by omega
      clear hc
      have hbit := bit_with o f s a b ha2 hb2
      rw [← hp] at hbit
      by_cases ha3 : a = f
      · skip
        by_cases hb3 : b = s
        · (refine q_skip (q_seq (q_block (q_seq (q_region (ql_pure tabOk rfl rfl (ql_pure tabOk rfl rfl (q_nil (q_seq (q_region (ql_pure tabOk rfl rfl (ql_pure tabOk rfl rfl ?_))))))))))); refine ql_eqlT tabOk rfl rfl rfl (by omega) (ql_pure tabOk rfl rfl ?_); (iterate 5 refine ql_gno rfl rfl rfl ?_); refine ql_pure tabOk rfl rfl (ql_pure tabOk rfl rfl (ql_gyes rfl (ql_pure tabOk rfl rfl (ql_gyes rfl (ql_pure tabOk rfl rfl (ql_gyes rfl (ql_eqlT tabOk rfl rfl rfl (by omega) (ql_gyes rfl (ql_pure tabOk rfl rfl ?_))))))))); (iterate 5 refine ql_gno rfl rfl rfl ?_); refine ql_gyes rfl (ql_pure tabOk rfl rfl (ql_pure tabOk rfl rfl (q_nil (q_cond_true rfl (q_region (ql_pure tabOk rfl rfl (ql_pure tabOk rfl rfl ?_))))))))
          skip
          refine ql_indexA (len := 8) o_arr rfl rfl rfl (by omega) (by omega) ?_
          skip
          refine ql_indexA (len := 8) r_arr rfl rfl rfl (by omega) (by omega) ?_
          skip
          refine ql_store1 tabOk rfl rfl rfl rfl (by repeat constructor) (by rw [oC_len]; omega) ?_
          (refine q_nil (q_blk (q_region (ql_ar tabOk rfl rfl rfl rfl (by omega) (by omega) (ql_pure tabOk rfl rfl (q_nil ?_))))))
          exact hK2 (b + 1) _ _ (by omega) (by omega) ⟨rfl, rfl, rfl, rfl, rfl, rfl, rfl, rfl, trivial⟩ (by rw [show 8 * a + (b + 1) = 8 * a + b + 1 from by omega, ← oC_pO_succ o p (8 * a + b) (by omega) (by rw [hbit]; simp [*]), show 0 + (a : Int).toNat * 8 + (b : Int).toNat * 1 = 8 * a + b from by omega]; repeat constructor)
        · (refine q_skip (q_seq (q_block (q_seq (q_region (ql_pure tabOk rfl rfl (ql_pure tabOk rfl rfl (q_nil (q_seq (q_region (ql_pure tabOk rfl rfl (ql_pure tabOk rfl rfl ?_))))))))))); refine ql_eqlT tabOk rfl rfl rfl (by omega) (ql_pure tabOk rfl rfl ?_); (iterate 5 refine ql_gno rfl rfl rfl ?_); refine ql_pure tabOk rfl rfl (ql_pure tabOk rfl rfl (ql_gyes rfl (ql_pure tabOk rfl rfl (ql_gyes rfl (ql_pure tabOk rfl rfl (ql_gyes rfl (ql_eqlF tabOk rfl rfl rfl (by omega) (ql_gyes rfl (ql_pure tabOk rfl rfl (ql_gyes rfl (ql_pure tabOk rfl rfl ?_))))))))))); refine ql_gyes rfl (ql_pure tabOk rfl rfl (ql_gyes rfl ?_)))
          refine ql_indexA (len := 8) o_arr rfl rfl rfl (by omega) (by omega) ?_
          (refine ql_gyes rfl ?_)
          refine ql_indexA (len := 8) r_arr rfl rfl rfl (by omega) (by omega) ?_
          (refine ql_gyes rfl ?_)
          refine ql_load1 (v := .bool (fa o s b)) tabOk rfl rfl rfl (fun w hs => o_cell hs (b := b3) (by repeat constructor) s b hs8 hb2 (by omega)) ?_
          cases hx2 : fa o s b with
          | true =>
            (refine ql_gyes rfl (ql_pure tabOk rfl rfl (ql_pure tabOk rfl rfl (q_nil (q_cond_true rfl (q_region (ql_pure tabOk rfl rfl (ql_pure tabOk rfl rfl ?_))))))))
            refine ql_indexA (len := 8) o_arr rfl rfl rfl (by omega) (by omega) ?_
            skip
            refine ql_indexA (len := 8) r_arr rfl rfl rfl (by omega) (by omega) ?_
            skip
            refine ql_store1 tabOk rfl rfl rfl rfl (by repeat constructor) (by rw [oC_len]; omega) ?_
            (refine q_nil (q_blk (q_region (ql_ar tabOk rfl rfl rfl rfl (by omega) (by omega) (ql_pure tabOk rfl rfl (q_nil ?_))))))
            exact hK2 (b + 1) _ _ (by omega) (by omega) ⟨rfl, rfl, rfl, rfl, rfl, rfl, rfl, rfl, trivial⟩ (by rw [show 8 * a + (b + 1) = 8 * a + b + 1 from by omega, ← oC_pO_succ o p (8 * a + b) (by omega) (by rw [hbit]; simp [*]), show 0 + (a : Int).toNat * 8 + (b : Int).toNat * 1 = 8 * a + b from by omega]; repeat constructor)
          | false =>
            (refine ql_gyes rfl (ql_pure tabOk rfl rfl (ql_pure tabOk rfl rfl (q_nil (q_cond_false rfl (q_skip (q_blk (q_region (ql_ar tabOk rfl rfl rfl rfl (by omega) (by omega) (ql_pure tabOk rfl rfl (q_nil ?_)))))))))))
            exact hK2 (b + 1) _ _ (by omega) (by omega) ⟨rfl, rfl, rfl, rfl, rfl, rfl, rfl, rfl, trivial⟩ (by rw [show 8 * a + (b + 1) = 8 * a + b + 1 from by omega, ← oC_pO_same o p (8 * a + b) (by rw [hbit]; simp [*])]; repeat constructor)
      · (refine q_skip (q_seq (q_block (q_seq (q_region (ql_pure tabOk rfl rfl (ql_pure tabOk rfl rfl (q_nil (q_seq (q_region (ql_pure tabOk rfl rfl (ql_pure tabOk rfl rfl ?_))))))))))); refine ql_eqlF tabOk rfl rfl rfl (by omega) (ql_pure tabOk rfl rfl (ql_gyes rfl (ql_pure tabOk rfl rfl (ql_gyes rfl (ql_pure tabOk rfl rfl (ql_gyes rfl ?_)))))))
        refine ql_indexA (len := 8) o_arr rfl rfl rfl (by omega) (by omega) ?_
        (refine ql_gyes rfl ?_)
        refine ql_indexA (len := 8) r_arr rfl rfl rfl (by omega) (by omega) ?_
        (refine ql_gyes rfl ?_)
        refine ql_load1 (v := .bool (fa o a f)) tabOk rfl rfl rfl (fun w hs => o_cell hs (b := b3) (by repeat constructor) a f ha2 hf (by omega)) ?_
        cases hx1 : fa o a f with
        | true =>
          by_cases hb3 : b = s
          · (refine ql_pure tabOk rfl rfl (ql_pure tabOk rfl rfl (ql_gyes rfl (ql_pure tabOk rfl rfl (ql_gyes rfl (ql_pure tabOk rfl rfl (ql_gyes rfl (ql_eqlT tabOk rfl rfl rfl (by omega) (ql_gyes rfl (ql_pure tabOk rfl rfl ?_))))))))); (iterate 5 refine ql_gno rfl rfl rfl ?_); refine ql_gyes rfl (ql_pure tabOk rfl rfl (ql_pure tabOk rfl rfl (q_nil (q_cond_true rfl (q_region (ql_pure tabOk rfl rfl (ql_pure tabOk rfl rfl ?_))))))))
            skip
            refine ql_indexA (len := 8) o_arr rfl rfl rfl (by omega) (by omega) ?_
            skip
            refine ql_indexA (len := 8) r_arr rfl rfl rfl (by omega) (by omega) ?_
            skip
            refine ql_store1 tabOk rfl rfl rfl rfl (by repeat constructor) (by rw [oC_len]; omega) ?_
            (refine q_nil (q_blk (q_region (ql_ar tabOk rfl rfl rfl rfl (by omega) (by omega) (ql_pure tabOk rfl rfl (q_nil ?_))))))
            exact hK2 (b + 1) _ _ (by omega) (by omega) ⟨rfl, rfl, rfl, rfl, rfl, rfl, rfl, rfl, trivial⟩ (by rw [show 8 * a + (b + 1) = 8 * a + b + 1 from by omega, ← oC_pO_succ o p (8 * a + b) (by omega) (by rw [hbit]; simp [*]), show 0 + (a : Int).toNat * 8 + (b : Int).toNat * 1 = 8 * a + b from by omega]; repeat constructor)
          · (refine ql_pure tabOk rfl rfl (ql_pure tabOk rfl rfl (ql_gyes rfl (ql_pure tabOk rfl rfl (ql_gyes rfl (ql_pure tabOk rfl rfl (ql_gyes rfl (ql_eqlF tabOk rfl rfl rfl (by omega) (ql_gyes rfl (ql_pure tabOk rfl rfl (ql_gyes rfl (ql_pure tabOk rfl rfl ?_))))))))))); refine ql_gyes rfl (ql_pure tabOk rfl rfl (ql_gyes rfl ?_)))
            refine ql_indexA (len := 8) o_arr rfl rfl rfl (by omega) (by omega) ?_
            (refine ql_gyes rfl ?_)
            refine ql_indexA (len := 8) r_arr rfl rfl rfl (by omega) (by omega) ?_
            (refine ql_gyes rfl ?_)
            refine ql_load1 (v := .bool (fa o s b)) tabOk rfl rfl rfl (fun w hs => o_cell hs (b := b3) (by repeat constructor) s b hs8 hb2 (by omega)) ?_
            cases hx2 : fa o s b with
            | true =>
              (refine ql_gyes rfl (ql_pure tabOk rfl rfl (ql_pure tabOk rfl rfl (q_nil (q_cond_true rfl (q_region (ql_pure tabOk rfl rfl (ql_pure tabOk rfl rfl ?_))))))))
              refine ql_indexA (len := 8) o_arr rfl rfl rfl (by omega) (by omega) ?_
              skip
              refine ql_indexA (len := 8) r_arr rfl rfl rfl (by omega) (by omega) ?_
              skip
              refine ql_store1 tabOk rfl rfl rfl rfl (by repeat constructor) (by rw [oC_len]; omega) ?_
              (refine q_nil (q_blk (q_region (ql_ar tabOk rfl rfl rfl rfl (by omega) (by omega) (ql_pure tabOk rfl rfl (q_nil ?_))))))
              exact hK2 (b + 1) _ _ (by omega) (by omega) ⟨rfl, rfl, rfl, rfl, rfl, rfl, rfl, rfl, trivial⟩ (by rw [show 8 * a + (b + 1) = 8 * a + b + 1 from by omega, ← oC_pO_succ o p (8 * a + b) (by omega) (by rw [hbit]; simp [*]), show 0 + (a : Int).toNat * 8 + (b : Int).toNat * 1 = 8 * a + b from by omega]; repeat constructor)
            | false =>
              (refine ql_gyes rfl (ql_pure tabOk rfl rfl (ql_pure tabOk rfl rfl (q_nil (q_cond_false rfl (q_skip (q_blk (q_region (ql_ar tabOk rfl rfl rfl rfl (by omega) (by omega) (ql_pure tabOk rfl rfl (q_nil ?_)))))))))))
              exact hK2 (b + 1) _ _ (by omega) (by omega) ⟨rfl, rfl, rfl, rfl, rfl, rfl, rfl, rfl, trivial⟩ (by rw [show 8 * a + (b + 1) = 8 * a + b + 1 from by omega, ← oC_pO_same o p (8 * a + b) (by rw [hbit]; simp [*])]; repeat constructor)
        | false =>
          (refine ql_pure tabOk rfl rfl (ql_pure tabOk rfl rfl ?_); (iterate 4 refine ql_gno rfl rfl rfl ?_); (iterate 5 refine ql_gnone rfl rfl ?_); refine ql_gno rfl rfl rfl (ql_pure tabOk rfl rfl (q_nil (q_cond_false rfl (q_skip (q_blk (q_region (ql_ar tabOk rfl rfl rfl rfl (by omega) (by omega) (ql_pure tabOk rfl rfl (q_nil ?_))))))))))
          exact hK2 (b + 1) _ _ (by omega) (by omega) ⟨rfl, rfl, rfl, rfl, rfl, rfl, rfl, rfl, trivial⟩ (by rw [show 8 * a + (b + 1) = 8 * a + b + 1 from by omega, ← oC_pO_same o p (8 * a + b) (by rw [hbit]; simp [*])]; repeat constructor)
    · have hb8 : b = 8 := by omega
      subst hb8
      clear hc hK2 hb
      (refine q_exit _ rfl (q_blk (q_region (ql_ar tabOk rfl rfl rfl rfl (by omega) (by omega) (ql_pure tabOk rfl rfl (q_nil ?_))))))
      exact hK (a + 1) _ _ (by omega) (by omega) ⟨rfl, rfl, rfl, rfl, rfl, rfl, trivial⟩ (by rw [show 8 * (a + 1) = 8 * a + 8 from by omega]; repeat constructor)
  · have ha8 : a = 8 := by omega
    subst ha8
    clear hc hK ha
    rw [show 8 * 8 = 64 from rfl, oC_pO64]
    (refine q_exit _ rfl (q_seq (q_region ?_)); refine ql_loadABa tabOk rfl rfl rfl ?_)
    rw [oC_take]
    refine ql_setA tabOk rfl rfl rfl (oC_len p) (List.all_eq_true.2 (oC_one p)) (by repeat constructor) hl6 ?_
    (refine q_nil (q_ret ?_))
    refine q_fin tabOk rfl (by repeat constructor) fun w hs => ?_
    exact ⟨by rw [hp]; rfl, hs.chg0⟩
end Go.Proofs.YtcmpdmobmbbplaaGreat

/- Walks: places in an order; whether the first places are known; the desk. -/
namespace Go.Proofs.YtcmpdmobmbbplaaGreat
set_option maxRecDepth 4000
open Go Go.Eng

theorem upN_succ (o s k : Nat) : upN o s (k + 1) = upN o s k + (if fa o k s = true then 1 else 0) := by
  unfold upN
  rw [List.range_succ, List.filter_append, List.length_append]
  congr 1
  by_cases h : fa o k s = true <;> simp [h]
theorem dnN_succ (o s k : Nat) : dnN o s (k + 1) = dnN o s k + (if fa o s k = true then 1 else 0) := by
  unfold dnN
  rw [List.range_succ, List.filter_append, List.length_append]
  congr 1
  by_cases h : fa o s k = true <;> simp [h]
theorem upN_le (o s k : Nat) : upN o s k ≤ k := by
  have := List.length_filter_le (fun t => fa o t s) (List.range k)
  simpa [upN] using this
theorem dnN_le (o s k : Nat) : dnN o s k ≤ k := by
  have := List.length_filter_le (fun t => fa o s t) (List.range k)
  simpa [dnN] using this
theorem place_ca (w : World) (o s n : Nat) (hs8 : s < 8) (hn8 : n ≤ 8) : Ca Tryz.prog 81 [.agg (oC o).toArray, .int .i64 s, .int .i64 n] w fun v w' => v = .tuple #[.int .i64 (upN o s n), .int .i64 (dnN o s n)] ∧ Chg [] w w' := by
  refine q_of (Sat.nil w M0) Tryz.func81 rfl (by simp [Tryz.ntmps81]) ?_
  (refine q_seq (q_region ?_))
  refine ql_box rfl rfl (fun b3 => ?_)
  rw [agg_cells]
  (refine ql_pure tabOk rfl rfl (ql_pure tabOk rfl rfl (q_nil (q_seq (q_region (ql_pure tabOk rfl rfl (ql_pure tabOk rfl rfl (q_nil (q_seq (q_seq (q_region (ql_pure tabOk rfl rfl ?_))))))))))); refine ql_pure tabOk rfl rfl (q_nil (q_block ?_)))
  refine q_loop (σ := Nat) (fun k => k ≤ n) (fun k => n - k) (fun k => [(1, .int .i64 s), (3, .pointer (some ⟨b3, 0, none⟩)), (8, .int .i64 (upN o s k)), (9, .int .i64 (dnN o s k)), (11, .int .i64 n), (12, .int .i64 k)]) (fun k => [.pt b3 (oC o) 120]) 0 (by omega) ⟨rfl, rfl, rfl, rfl, rfl, rfl, trivial⟩ (by repeat constructor) ?_
  rintro k hk K hK
  (refine q_seq (q_region (ql_pure tabOk rfl rfl (q_nil (q_seq ?_)))))
  refine q_if rfl (fun hc => ?_) (fun hc => ?_)
  · have hk2 : k < n := by omega
    clear hc
    have h1 := upN_le o s k
    have h2 := dnN_le o s k
    have e1 := upN_succ o s k
    have e2 := dnN_succ o s k
    (refine q_skip (q_seq (q_block (q_seq (q_region (ql_pure tabOk rfl rfl (ql_pure tabOk rfl rfl (q_nil (q_seq (q_seq (q_region (ql_pure tabOk rfl rfl ?_))))))))))); refine ql_pure tabOk rfl rfl ?_)
    refine ql_indexA (len := 8) o_arr rfl rfl rfl (by omega) (by omega) ?_
    skip
    refine ql_indexA (len := 8) r_arr rfl rfl rfl (by omega) (by omega) ?_
    skip
    refine ql_load1 (v := .bool (fa o k s)) tabOk rfl rfl rfl (fun w hs => o_cell hs (b := b3) (by repeat constructor) k s (by omega) hs8 (by omega)) ?_
    cases hx1 : fa o k s with
    | true =>
      rw [hx1, if_pos rfl] at e1
      (refine q_nil (q_cond_true rfl (q_region (ql_pure tabOk rfl rfl (ql_ar tabOk rfl rfl rfl rfl (by omega) (by omega) (ql_pure tabOk rfl rfl (q_nil (q_seq (q_region (ql_pure tabOk rfl rfl (ql_pure tabOk rfl rfl ?_)))))))))))
      refine ql_indexA (len := 8) o_arr rfl rfl rfl (by omega) (by omega) ?_
      skip
      refine ql_indexA (len := 8) r_arr rfl rfl rfl (by omega) (by omega) ?_
      skip
      refine ql_load1 (v := .bool (fa o s k)) tabOk rfl rfl rfl (fun w hs => o_cell hs (b := b3) (by repeat constructor) s k hs8 (by omega) (by omega)) ?_
      cases hx2 : fa o s k with
      | true =>
        rw [hx2, if_pos rfl] at e2
        (refine q_nil (q_cond_true rfl (q_region (ql_pure tabOk rfl rfl (ql_ar tabOk rfl rfl rfl rfl (by omega) (by omega) (ql_pure tabOk rfl rfl (q_nil (q_blk (q_region (ql_ar tabOk rfl rfl rfl rfl (by omega) (by omega) (ql_pure tabOk rfl rfl (q_nil ?_))))))))))))
        exact hK (k + 1) _ _ (by omega) (by omega) ⟨rfl, rfl, by rw [e1]; rfl, by rw [e2]; rfl, rfl, rfl, trivial⟩ (by repeat constructor)
      | false =>
        rw [hx2, if_neg (by decide)] at e2
        (refine q_nil (q_cond_false rfl (q_skip (q_blk (q_region (ql_ar tabOk rfl rfl rfl rfl (by omega) (by omega) (ql_pure tabOk rfl rfl (q_nil ?_))))))))
        exact hK (k + 1) _ _ (by omega) (by omega) ⟨rfl, rfl, by rw [e1]; rfl, by rw [e2]; rfl, rfl, rfl, trivial⟩ (by repeat constructor)
    | false =>
      rw [hx1, if_neg (by decide)] at e1
      (refine q_nil (q_cond_false rfl (q_skip (q_seq (q_region (ql_pure tabOk rfl rfl (ql_pure tabOk rfl rfl ?_)))))))
      refine ql_indexA (len := 8) o_arr rfl rfl rfl (by omega) (by omega) ?_
      skip
      refine ql_indexA (len := 8) r_arr rfl rfl rfl (by omega) (by omega) ?_
      skip
      refine ql_load1 (v := .bool (fa o s k)) tabOk rfl rfl rfl (fun w hs => o_cell hs (b := b3) (by repeat constructor) s k hs8 (by omega) (by omega)) ?_
      cases hx2 : fa o s k with
      | true =>
        rw [hx2, if_pos rfl] at e2
        (refine q_nil (q_cond_true rfl (q_region (ql_pure tabOk rfl rfl (ql_ar tabOk rfl rfl rfl rfl (by omega) (by omega) (ql_pure tabOk rfl rfl (q_nil (q_blk (q_region (ql_ar tabOk rfl rfl rfl rfl (by omega) (by omega) (ql_pure tabOk rfl rfl (q_nil ?_))))))))))))
        exact hK (k + 1) _ _ (by omega) (by omega) ⟨rfl, rfl, by rw [e1]; rfl, by rw [e2]; rfl, rfl, rfl, trivial⟩ (by repeat constructor)
      | false =>
        rw [hx2, if_neg (by decide)] at e2
        (refine q_nil (q_cond_false rfl (q_skip (q_blk (q_region (ql_ar tabOk rfl rfl rfl rfl (by omega) (by omega) (ql_pure tabOk rfl rfl (q_nil ?_))))))))
        exact hK (k + 1) _ _ (by omega) (by omega) ⟨rfl, rfl, by rw [e1]; rfl, by rw [e2]; rfl, rfl, rfl, trivial⟩ (by repeat constructor)
  · have hkn : k = n := by omega
    subst hkn
    (refine q_exit _ rfl (q_seq (q_region ?_)); (iterate 4 refine ql_pure tabOk rfl rfl ?_); refine q_nil (q_ret ?_))
    refine q_fin tabOk rfl (by repeat constructor) fun w hs => ?_
    exact ⟨rfl, hs.chg0⟩

def sureB (o n place s : Nat) : Bool := upN o s n == place && (dnN o s n + 1 + place == n && true)
def sureP (o n place j : Nat) : Bool := (List.range j).any (sureB o n place) && true
theorem sureP_succ (o n place j : Nat) : sureP o n place (j + 1) = (sureP o n place j || sureB o n place j) := by simp [sureP, List.range_succ, List.any_append]
def knP' (o n p : Nat) : Bool := (List.range p).all fun place => sureP o n place n
theorem known_eq (o n k : Nat) : knownO o n k = knP' o n k := by
  unfold knownO knP' sureP sureB
  simp
theorem known_ca (w : World) (o n k : Nat) (hn8 : n ≤ 8) (hk8 : k ≤ n) : Ca Tryz.prog 64 [.agg (oC o).toArray, .int .i64 n, .int .i64 k] w fun v w' => v = .bool (knownO o n k) ∧ Chg [] w w' := by
  refine q_of (Sat.nil w M0) Tryz.func64 rfl (by simp [Tryz.ntmps64]) ?_
  (refine q_seq (q_region ?_))
  refine ql_box rfl rfl (fun b3 => ?_)
  rw [agg_cells]
  (refine ql_pure tabOk rfl rfl (q_nil (q_seq (q_seq (q_region (ql_pure tabOk rfl rfl (ql_pure tabOk rfl rfl (q_nil (q_block ?_)))))))))
  refine q_loop (σ := Nat) (fun p => p ≤ k ∧ knP' o n p = true) (fun p => k - p) (fun p => [(1, .int .i64 n), (3, .pointer (some ⟨b3, 0, none⟩)), (12, .int .i64 k), (13, .int .i64 p)]) (fun p => [.pt b3 (oC o) 120]) 0 ⟨by omega, rfl⟩ ⟨rfl, rfl, rfl, rfl, trivial⟩ (by repeat constructor) ?_
  rintro p ⟨hp, hkp⟩ K hK
  (refine q_seq (q_region (ql_pure tabOk rfl rfl (q_nil (q_seq ?_)))))
  refine q_if rfl (fun hc => ?_) (fun hc => ?_)
  · have hp2 : p < k := by omega
    clear hc
    (refine q_skip (q_seq (q_block (q_seq (q_region (ql_pure tabOk rfl rfl (ql_pure tabOk rfl rfl (q_nil (q_seq (q_region (ql_pure tabOk rfl rfl (q_nil ?_))))))))))); refine q_seq (q_seq (q_region (ql_pure tabOk rfl rfl (ql_pure tabOk rfl rfl (q_nil (q_block ?_)))))))
    refine q_loop (σ := Nat) (fun j => j ≤ n) (fun j => n - j) (fun j => [(1, .int .i64 n), (3, .pointer (some ⟨b3, 0, none⟩)), (7, .int .i64 p), (8, .bool (sureP o n p j)), (12, .int .i64 k), (13, .int .i64 p), (16, .int .i64 n), (17, .int .i64 j)]) (fun j => [.pt b3 (oC o) 120]) 0 (by omega) ⟨rfl, rfl, rfl, rfl, rfl, rfl, rfl, rfl, trivial⟩ (by repeat constructor) ?_
    rintro j hj K2 hK2
    (refine q_seq (q_region (ql_pure tabOk rfl rfl (q_nil (q_seq ?_)))))
    refine q_if rfl (fun hc => ?_) (fun hc => ?_)
    · have hj2 : j < n := by omega
      clear hc
      have e1 := sureP_succ o n p j
      (refine q_skip (q_seq (q_block (q_seq (q_region (ql_pure tabOk rfl rfl (ql_pure tabOk rfl rfl (q_nil (q_seq (q_region ?_))))))))); refine ql_loadABa tabOk rfl rfl rfl ?_; refine ql_pure tabOk rfl rfl (ql_pure tabOk rfl rfl ?_))
      rw [oC_take]
      refine ql_callv tabOk rfl rfl rfl rfl (fun w hs => place_ca w o j n (by omega) hn8) ?_
      have h1 := upN_le o j n
      have h2 := dnN_le o j n
      cases hx : sureP o n p j with
      | true =>
        rw [hx] at e1
        (refine ql_pure tabOk rfl rfl (ql_ext tabOk rfl rfl rfl (ql_ext tabOk rfl rfl rfl (ql_pure tabOk rfl rfl (ql_pure tabOk rfl rfl (q_nil (q_region (ql_pure tabOk rfl rfl (ql_pure tabOk rfl rfl ?_)))))))); (iterate 4 refine ql_gno rfl rfl rfl ?_); (iterate 6 refine ql_gnone rfl rfl ?_); refine ql_gno rfl rfl rfl (ql_pure tabOk rfl rfl (ql_pure tabOk rfl rfl (q_nil (q_blk (q_region (ql_ar tabOk rfl rfl rfl rfl (by omega) (by omega) (ql_pure tabOk rfl rfl (q_nil ?_)))))))))
        exact hK2 (j + 1) _ _ (by omega) (by omega) ⟨rfl, rfl, rfl, by rw [e1]; rfl, rfl, rfl, rfl, rfl, trivial⟩ (by repeat constructor)
      | false =>
        rw [hx, Bool.false_or] at e1
        unfold sureB at e1
        by_cases hu : upN o j n = p
        · by_cases hd : dnN o j n + 1 + p = n
          · have e2 : sureP o n p (j + 1) = true := by rw [e1]; simp [hu, hd]
            (refine ql_pure tabOk rfl rfl (ql_ext tabOk rfl rfl rfl (ql_ext tabOk rfl rfl rfl (ql_pure tabOk rfl rfl (ql_pure tabOk rfl rfl (q_nil (q_region (ql_pure tabOk rfl rfl (ql_pure tabOk rfl rfl (ql_gyes rfl (ql_pure tabOk rfl rfl (ql_gyes rfl ?_))))))))))); refine ql_pure tabOk rfl rfl (ql_gyes rfl (ql_eqlT tabOk rfl rfl rfl (by omega) (ql_gyes rfl (ql_pure tabOk rfl rfl (ql_gyes rfl (ql_pure tabOk rfl rfl (ql_gyes rfl (ql_pure tabOk rfl rfl (ql_gyes rfl (ql_ar tabOk rfl rfl rfl rfl (by omega) (by omega) (ql_gyes rfl ?_))))))))))); refine ql_pure tabOk rfl rfl (ql_gyes rfl (ql_ar tabOk rfl rfl rfl rfl (by omega) (by omega) (ql_gyes rfl (ql_eqlT tabOk rfl rfl rfl (by omega) (ql_gyes rfl ?_))))); (iterate 3 refine ql_pure tabOk rfl rfl ?_); refine q_nil (q_blk (q_region (ql_ar tabOk rfl rfl rfl rfl (by omega) (by omega) (ql_pure tabOk rfl rfl (q_nil ?_))))))
            exact hK2 (j + 1) _ _ (by omega) (by omega) ⟨rfl, rfl, rfl, by rw [e2]; rfl, rfl, rfl, rfl, rfl, trivial⟩ (by repeat constructor)
          · have e2 : sureP o n p (j + 1) = false := by rw [e1]; simp [hd]
            (refine ql_pure tabOk rfl rfl (ql_ext tabOk rfl rfl rfl (ql_ext tabOk rfl rfl rfl (ql_pure tabOk rfl rfl (ql_pure tabOk rfl rfl (q_nil (q_region (ql_pure tabOk rfl rfl (ql_pure tabOk rfl rfl (ql_gyes rfl (ql_pure tabOk rfl rfl (ql_gyes rfl ?_))))))))))); refine ql_pure tabOk rfl rfl (ql_gyes rfl (ql_eqlT tabOk rfl rfl rfl (by omega) (ql_gyes rfl (ql_pure tabOk rfl rfl (ql_gyes rfl (ql_pure tabOk rfl rfl (ql_gyes rfl (ql_pure tabOk rfl rfl (ql_gyes rfl (ql_ar tabOk rfl rfl rfl rfl (by omega) (by omega) (ql_gyes rfl ?_))))))))))); refine ql_pure tabOk rfl rfl (ql_gyes rfl (ql_ar tabOk rfl rfl rfl rfl (by omega) (by omega) (ql_gyes rfl (ql_eqlF tabOk rfl rfl rfl (by omega) (ql_gyes rfl ?_))))); (iterate 3 refine ql_pure tabOk rfl rfl ?_); refine q_nil (q_blk (q_region (ql_ar tabOk rfl rfl rfl rfl (by omega) (by omega) (ql_pure tabOk rfl rfl (q_nil ?_))))))
            exact hK2 (j + 1) _ _ (by omega) (by omega) ⟨rfl, rfl, rfl, by rw [e2]; rfl, rfl, rfl, rfl, rfl, trivial⟩ (by repeat constructor)
        · have e2 : sureP o n p (j + 1) = false := by rw [e1]; simp [hu]
          (refine ql_pure tabOk rfl rfl (ql_ext tabOk rfl rfl rfl (ql_ext tabOk rfl rfl rfl (ql_pure tabOk rfl rfl (ql_pure tabOk rfl rfl (q_nil (q_region (ql_pure tabOk rfl rfl (ql_pure tabOk rfl rfl (ql_gyes rfl (ql_pure tabOk rfl rfl (ql_gyes rfl ?_))))))))))); refine ql_pure tabOk rfl rfl (ql_gyes rfl (ql_eqlF tabOk rfl rfl rfl (by omega) (ql_gyes rfl (ql_pure tabOk rfl rfl ?_)))); (iterate 6 refine ql_gno rfl rfl rfl ?_); refine ql_gyes rfl ?_; (iterate 3 refine ql_pure tabOk rfl rfl ?_); refine q_nil (q_blk (q_region (ql_ar tabOk rfl rfl rfl rfl (by omega) (by omega) (ql_pure tabOk rfl rfl (q_nil ?_))))))
          exact hK2 (j + 1) _ _ (by omega) (by omega) ⟨rfl, rfl, rfl, by rw [e2]; rfl, rfl, rfl, rfl, rfl, trivial⟩ (by repeat constructor)
    · have hjn : j = n := by omega
      subst hjn
      clear hc hK2 hj
      (refine q_exit _ rfl (q_seq (q_region (ql_pure tabOk rfl rfl (ql_pure tabOk rfl rfl (q_nil ?_))))))
      cases hx : sureP o j p j with
      | true =>
        (refine q_cond_false rfl (q_skip (q_blk (q_region (ql_ar tabOk rfl rfl rfl rfl (by omega) (by omega) (ql_pure tabOk rfl rfl (q_nil ?_)))))))
        exact hK (p + 1) _ _ ⟨by omega, by unfold knP' at hkp ⊢; rw [List.range_succ, List.all_append, hkp]; simp [hx]⟩ (by omega) ⟨rfl, rfl, rfl, rfl, trivial⟩ (by repeat constructor)
      | false =>
        (refine q_cond_true rfl (q_seq (q_region (ql_pure tabOk rfl rfl (q_nil (q_ret ?_))))))
        refine q_fin tabOk rfl (by repeat constructor) fun w hs => ?_
        refine ⟨?_, hs.chg0⟩
        have : knownO o j k = false := by
          rw [known_eq]
          unfold knP'
          rw [List.all_eq_false]
          exact ⟨p, List.mem_range.2 hp2, by simp [hx]⟩
        rw [this]
        rfl
  · have hpk : p = k := by omega
    subst hpk
    (refine q_exit _ rfl (q_seq (q_region (ql_pure tabOk rfl rfl (q_nil (q_ret ?_))))))
    refine q_fin tabOk rfl (by repeat constructor) fun w hs => ?_
    exact ⟨by rw [known_eq, hkp]; rfl, hs.chg0⟩
end Go.Proofs.YtcmpdmobmbbplaaGreat

/- Walks: a lab at work. -/
namespace Go.Proofs.YtcmpdmobmbbplaaGreat
set_option maxRecDepth 4000
open Go Go.Eng

/-- A desk as cells. -/
abbrev dkC (l : Lb) (v : Value) (o : Nat) : List Value := .int .i64 l.skis :: .int .i64 l.err :: v :: oC o
theorem dkC_len (l : Lb) (v : Value) (o : Nat) : (dkC l v o).length = 67 := by simp [dkC, oC_len]
theorem d_cell {w : World} {b off : Nat} {l : Lb} {v : Value} {o : Nat} {t : TypeId} (hb : Blk w b (dkC l v o) t) (x y : Nat) (hx : x < 8) (hy : y < 8) (ho : off = 3 + (8 * x + y)) : w.cell? ⟨b, off, none⟩ = some (.bool (fa o x y)) := by
  subst ho
  rw [Blk.cell hb]
  show (Value.int .i64 l.skis :: .int .i64 l.err :: v :: oC o)[3 + (8 * x + y)]? = _
  rw [show 3 + (8 * x + y) = (8 * x + y) + 1 + 1 + 1 from by omega, List.getElem?_cons_succ, List.getElem?_cons_succ, List.getElem?_cons_succ, oC_get _ _ (by omega)]
  rfl
theorem dk_take (l : Lb) (v : Value) (o : Nat) : List.take 64 (List.drop (0 + 3) (dkC l v o)) = oC o := by
  show List.take 64 (oC o) = oC o
  rw [List.take_of_length_le (by rw [oC_len]; omega)]
theorem dk_set (l : Lb) (v : Value) (o p : Nat) : setL (dkC l v o) (0 + 3) (oC p) = dkC l v p := by
  have := setL_all (oC o) (oC p) [.int .i64 l.skis, .int .i64 l.err, v] (by rw [oC_len, oC_len])
  exact this
/-- The first ski that is faster than itself. -/
def confV (o n : Nat) : Int := match (List.range n).find? (fun s => fa o s s) with
  | some s => s
  | none => -1
theorem conf_some {o n s : Nat} (hs : s < n) (h : fa o s s = true) (hb : ∀ t, t < s → fa o t t = false) : confV o n = s := by
  have e : (List.range n).find? (fun s => fa o s s) = some s := List.find?_range_eq_some.2 ⟨h, List.mem_range.2 hs, fun t ht => by simp [hb t ht]⟩
  unfold confV
  rw [e]
theorem conf_none {o n : Nat} (hb : ∀ t, t < n → fa o t t = false) : confV o n = -1 := by
  have e : (List.range n).find? (fun s => fa o s s) = none := List.find?_eq_none.2 (fun t ht => by simp [hb t (List.mem_range.1 ht)])
  unfold confV
  rw [e]
theorem conf_iff {o n : Nat} : 0 ≤ confV o n ↔ conflB o n = true := by
  cases h : (List.range n).find? (fun s => fa o s s) with
  | none =>
    have h1 := List.find?_eq_none.1 h
    have h2 : conflB o n = false := confl_iff.2 fun s hs => by simpa using h1 s (List.mem_range.2 hs)
    rw [h2]
    unfold confV
    rw [h]
    simp
  | some s =>
    obtain ⟨h1, h2, _⟩ := List.find?_range_eq_some.1 h
    have h3 : conflB o n = true := by
      cases hc : conflB o n with
      | true => rfl
      | false => rw [confl_iff.1 hc s (List.mem_range.1 h2)] at h1; cases h1
    rw [h3]
    unfold confV
    rw [h]
    simp
theorem conflict_ca (w : World) (b : Nat) (t : TypeId) (l : Lb) (v : Value) (o : Nat) (hb : Blk w b (dkC l v o) t) (hl : l.Ok) : Ca Tryz.prog 84 [.pointer (some ⟨b, 0, none⟩)] w fun x w' => x = .int .i64 (confV o l.n) ∧ Chg [] w w' := by
  have h8 := hl.n8
  obtain ⟨n, hn⟩ := Int.eq_ofNat_of_zero_le (show 0 ≤ l.skis by have := hl.s0; omega)
  have hn' : l.n = n := by unfold Lb.n; omega
  rw [hn'] at h8 ⊢
  refine q_of (Sat.nil w M0) Tryz.func84 rfl (by simp [Tryz.ntmps84]) ?_
  (refine q_seq (q_region (ql_pure tabOk rfl rfl (q_nil (q_seq (q_seq (q_region ?_)))))); (iterate 4 refine ql_pure tabOk rfl rfl ?_); refine ql_loadP tabOk rfl rfl rfl (by assumption) (by rfl) ?_; refine ql_pure tabOk rfl rfl (q_nil (q_block ?_)))
  rw [hn]
  refine q_loop (σ := Nat) (fun s => s ≤ n ∧ ∀ t, t < s → fa o t t = false) (fun s => n - s) (fun s => [(0, .pointer (some ⟨b, 0, none⟩)), (8, .int .i64 n), (9, .int .i64 s)]) (fun _ => []) 0 ⟨by omega, fun t ht => by omega⟩ ⟨rfl, rfl, rfl, trivial⟩ (by repeat constructor) ?_
  rintro s ⟨hs1, hb1⟩ K hK
  (refine q_seq (q_region (ql_pure tabOk rfl rfl (q_nil (q_seq ?_)))))
  refine q_if rfl (fun hc => ?_) (fun hc => ?_)
  · have hs2 : s < n := by omega
    clear hc
    (refine q_skip (q_seq (q_block (q_seq (q_region (ql_pure tabOk rfl rfl (ql_pure tabOk rfl rfl (q_nil (q_seq (q_region ?_))))))))); (iterate 5 refine ql_pure tabOk rfl rfl ?_))
    refine ql_indexA (len := 8) o_arr rfl rfl rfl (by omega) (by omega) ?_
    skip
    refine ql_indexA (len := 8) r_arr rfl rfl rfl (by omega) (by omega) ?_
    skip
    refine ql_load1 (v := .bool (fa o s s)) tabOk rfl rfl rfl (fun w hs => d_cell (hb.keep hs.chg0) s s (by omega) (by omega) (by omega)) ?_
    cases hx : fa o s s with
    | true =>
      (refine q_nil (q_cond_true rfl (q_seq (q_region (ql_pure tabOk rfl rfl (ql_pure tabOk rfl rfl (q_nil (q_ret ?_))))))))
      refine q_fin tabOk rfl (by repeat constructor) fun w hs => ?_
      exact ⟨by rw [conf_some hs2 hx hb1]; rfl, hs.chg0⟩
    | false =>
      (refine q_nil (q_cond_false rfl (q_skip (q_blk (q_region (ql_ar tabOk rfl rfl rfl rfl (by omega) (by omega) (ql_pure tabOk rfl rfl (q_nil ?_))))))))
      exact hK (s + 1) _ _ ⟨by omega, fun t ht => by
        by_cases e : t = s
        · rw [e]; exact hx
        · exact hb1 t (by omega)⟩ (by omega) ⟨rfl, rfl, rfl, trivial⟩ (by repeat constructor)
  · have hsn : s = n := by omega
    subst hsn
    (refine q_exit _ rfl (q_seq (q_region (ql_pure tabOk rfl rfl (q_nil (q_ret ?_))))))
    refine q_fin tabOk rfl (by repeat constructor) fun w hs => ?_
    exact ⟨by rw [conf_none hb1]; rfl, hs.chg0⟩
theorem asked_no (w : World) (lo hi : Nat) (l : Lb) (v : Value) (h : RdR w lo hi v l.runs) (hlen : l.runs.length ≤ maxLen) (hc0 : checkV l ≠ 0) : Ca Tryz.prog 76 [.agg (lbC l v).toArray] w fun x w' => x = .tuple #[.pointer none, .int .i64 (checkV l)] ∧ Chg [] w w' := by
  refine q_ofM (Sat.nil w M0) Tryz.func76 rfl (by simp [Tryz.ntmps76]) ?_
  (refine q_seq (q_region ?_))
  refine ql_box rfl rfl (fun b1 => ?_)
  (refine ql_pure tabOk rfl rfl (ql_pure tabOk rfl rfl (q_nil (q_seq (q_seq (q_region ?_))))); refine ql_loadABa tabOk rfl rfl rfl ?_)
  refine ql_callv (val := .int .i64 (checkV l)) tabOk rfl rfl rfl rfl (fun w hs => ?_) ?_; exact check_ca w lo hi l v (RdE.keep h hs.chg0) hlen
  (refine ql_pure tabOk rfl rfl (q_nil (q_seq (q_region (ql_pure tabOk rfl rfl (ql_neqT tabOk rfl rfl rfl (by omega) (q_nil (q_cond_true rfl (q_seq (q_region ?_))))))))); (iterate 3 refine ql_pure tabOk rfl rfl ?_); refine q_nil (q_ret ?_))
  refine q_finM tabOk rfl (by repeat constructor) fun w hs => ?_
  exact ⟨rfl, hs.chg0⟩
/-- The order that what is shown makes. -/
def ordS (xs : List (Nat × Int × Int)) : Nat := orderV (xs.map fun x => (x.2.1.toNat, x.2.2.toNat))
theorem ordS_snoc (xs : List (Nat × Int × Int)) (x : Nat × Int × Int) : ordS (xs ++ [x]) = withO (ordS xs) x.2.1.toNat x.2.2.toNat := by
  unfold ordS
  rw [List.map_append]
  exact order_snoc _ _
theorem shL_in {l : Lb} (hl : l.Ok) : ∀ x ∈ shL l, 0 ≤ x.2.1 ∧ x.2.1 < l.skis ∧ 0 ≤ x.2.2 ∧ x.2.2 < l.skis ∧ x.1 < l.runs.length := fun x hx => by
  obtain ⟨i, hi, h1⟩ := List.mem_filterMap.1 hx
  have hi2 := List.mem_range.1 hi
  rw [List.getD_eq_getElem?_getD, List.getElem?_eq_getElem hi2] at h1
  have hr := hl.run _ (List.getElem_mem hi2)
  obtain ⟨p, hp, rfl⟩ := Option.map_eq_some_iff.1 h1
  have h3 := hr.a0
  have h4 := hr.a1
  have h5 := hr.b0
  have h6 := hr.b1
  simp only [Option.getD_some] at hp
  unfold runI at hp
  split at hp
  · cases hp; exact ⟨h3, h4, h5, h6, hi2⟩
  · split at hp
    · cases hp; exact ⟨h5, h6, h3, h4, hi2⟩
    · cases hp
set_option maxHeartbeats 2000000 in
theorem asked_ok (w : World) (lo hi : Nat) (l : Lb) (v : Value) (h : RdR w lo hi v l.runs) (hl : l.Ok) : Ca Tryz.prog 76 [.agg (lbC l v).toArray] w fun x w' => ∃ b : Nat, x = .tuple #[.pointer (some ⟨b, 0, none⟩), .int .i64 0] ∧ Sat w M0 [.pt b (dkC l v l.ord) 122] w' := by
  have hc0 := check_iff.2 hl
  have hlen : l.runs.length ≤ maxLen := by have := hl.len; simp only [maxLen]; omega
  refine q_ofM (Sat.nil w M0) Tryz.func76 rfl (by simp [Tryz.ntmps76]) ?_
  (refine q_seq (q_region ?_))
  refine ql_box rfl rfl (fun b1 => ?_)
  (refine ql_pure tabOk rfl rfl (ql_pure tabOk rfl rfl (q_nil (q_seq (q_seq (q_region ?_))))); refine ql_loadABa tabOk rfl rfl rfl ?_)
  refine ql_callv (val := .int .i64 0) tabOk rfl rfl rfl rfl (fun w hs => ?_) ?_; exact by have := check_ca w lo hi l v (RdE.keep h hs.chg0) hlen; rw [hc0] at this; exact this
  (refine ql_pure tabOk rfl rfl (q_nil (q_seq (q_region (ql_pure tabOk rfl rfl (ql_neqF tabOk rfl rfl rfl (by omega) (q_nil (q_cond_false rfl (q_skip (q_seq (q_region ?_)))))))))); refine ql_loadABa tabOk rfl rfl rfl ?_)
  refine ql_mk (dkC l v 0).toArray rfl (by kernel_rfl) rfl ?_
  skip
  refine ql_box rfl rfl (fun b15 => ?_)
  rw [agg_cells, agg_cells]
  skip
  refine ql_alloc zero115 rfl (fun b5 => ?_)
  (refine ql_set tabOk rfl rfl rfl rfl (by repeat constructor) ?_; refine q_nil (q_seq (q_seq (q_region ?_))); refine ql_loadABa tabOk rfl rfl rfl ?_)
  refine ql_call (β := Nat) tabOk [] _ M0 rfl rfl rfl rfl (Sp.refl _) (fun _ h => h.elim) (fun w' hs => shown_ca w' l v) ?_
  rintro bs _ rfl
  dsimp only [List.cons_append, List.nil_append]
  (refine q_nil (q_block ?_))
  refine q_range shE Nat (shL l) (fun pre s => s = ordS pre) (fun _ _ => False) (fun s => [.pt b15 (dkC l v s) 122, .pt b5 [.pointer (some ⟨b15, 0, none⟩)] 115]) [.pt bs (lbC l v) 24] 0
    rfl (by kernel_rfl) rfl (fun _ _ => rfl) rfl (by repeat constructor) ?_ ?_ ?_ (fun _ _ _ h => h.elim)
  · intro w1 D hs hD
    exact shown_it w w1 D lo hi bs l v h ⟨hl.e0, hl.e1⟩ (by have := hl.len; omega) (fun w' hc => hs.chg0.old hc (fun k hk => (hD k hk).2.resolve_left (fun h => h))) (hs.blk (by repeat constructor)) (fun h => (hD _ h).1 ⟨.pt bs (lbC l v) _, (by repeat constructor), rfl⟩)
  · intro pre x post s w1 lb rdy bsy K F' hx hI hsat hR hbegin hend hret hexit
    have hxl := shL_in hl x (by rw [hx]; simp)
    have h8 := hl.s1
    obtain ⟨f, hf⟩ := Int.eq_ofNat_of_zero_le hxl.1
    obtain ⟨g, hg⟩ := Int.eq_ofNat_of_zero_le hxl.2.2.1
    obtain ⟨i, p1, p2⟩ := x
    dsimp only at hf hg hxl
    subst hf hg
    dsimp only [shE, List.zip_cons_cons, List.zip_nil_left, List.zip_nil_right, List.foldl_cons, List.foldl_nil]
    (refine q_region ?_)
    refine ql_alloc zero86 rfl (fun b7 => ?_)
    (refine ql_setA tabOk rfl rfl rfl rfl rfl (by repeat constructor) rfl ?_; refine q_nil ?_)
    refine q_conv (H' := [rdy, .pt b7 [.int .i64 f, .int .i64 g] 86, .pt b15 (dkC l v s) 122, .pt b5 [.pointer (some ⟨b15, 0, none⟩)] 115]) (fun w' hs => hs.sp (by repeat constructor)) ?_
    refine hbegin _ _ ?_
    (refine q_block ?_)
    refine q_drawS 12 [bsy, .pt b7 [.int .i64 f, .int .i64 g] 86, .pt b5 [.pointer (some ⟨b15, 0, none⟩)] 115] [.pt b15 (dkC l v s) 122] (by repeat constructor) (by kernel_rfl) (by kernel_rfl) (by kernel_rfl) fun K1 hK1 => ?_
    ((iterate 2 refine qf_loadBa tabOk rfl rfl rfl ?_); refine qf_pure tabOk rfl rfl rfl (qf_pure tabOk rfl rfl rfl ?_); refine qf_loadABa tabOk rfl rfl rfl ?_; refine qf_pure tabOk rfl rfl rfl ?_; refine qf_loadBa tabOk rfl rfl rfl ?_; refine qf_pure tabOk rfl rfl rfl ?_; refine qf_loadBa tabOk rfl rfl rfl ?_)
    rw [dk_take]
    refine qf_callv tabOk rfl rfl rfl rfl (fun w hs => with_ca w s f g (by omega) (by omega)) ?_
    (refine qf_pure tabOk rfl rfl rfl (qf_pure tabOk rfl rfl rfl (qf_nil ?_)))
    refine hK1 _ _ [.pt b15 (dkC l v s) 122] (by repeat constructor) ?_
    skip
    refine qf_stA (dkC l v (withO s f g)) tabOk rfl rfl rfl (oC_len _) (List.all_eq_true.2 (oC_one _)) (by repeat constructor) (dk_set _ _ _ _) (by rw [dkC_len]; rfl) ?_
    (refine qf_nil (q_blk ?_))
    refine hend _ _ (withO s f g) (by rw [hI, ordS_snoc]; rfl) (by repeat constructor)
  · rintro D s rfl
    (refine q_blk (q_seq (q_region ?_)); refine ql_loadBa tabOk rfl rfl rfl ?_; refine ql_pure tabOk rfl rfl (ql_pure tabOk rfl rfl (q_nil (q_ret ?_))))
    refine q_finMD tabOk (by repeat constructor) rfl (by repeat constructor) fun w hs => ?_
    refine ⟨b15, rfl, ?_⟩
    have e : l.ord = ordS (shL l) := by unfold Lb.ord ordS; rw [pairs_sh]
    rw [e]
    exact hs.sp (by repeat constructor)
end Go.Proofs.YtcmpdmobmbbplaaGreat

/- Plain laws of zones. -/
namespace Go.Proofs.YtcmpdmobmbbplaaGreat
set_option maxRecDepth 4000

theorem takeWhile_len {α : Type} {p : α → Bool} : ∀ {l : List α} {k : Nat}, k ≤ l.length → (∀ i (h : i < l.length), i < k → p l[i] = true) → (∀ h : k < l.length, p l[k] = false) → (l.takeWhile p).length = k
  | [], k, hk, _, _ => by simp at hk; simp [hk]
  | x :: l, 0, _, _, h2 => by
    have := h2 (by simp)
    simp only [List.getElem_cons_zero] at this
    simp [List.takeWhile_cons, this]
  | x :: l, k + 1, hk, h1, h2 => by
    have h0 := h1 0 (by simp) (by omega)
    simp only [List.getElem_cons_zero] at h0
    rw [List.takeWhile_cons, if_pos h0, List.length_cons, takeWhile_len (k := k) (by simpa using hk) (fun i h hi => by have := h1 (i + 1) (by simpa using h) (by omega); simpa using this) (fun h => by have := h2 (by simpa using h); simpa using this)]
theorem getD_row {r : List Int} {s : Nat} (hs : s < r.length) : r.getD s 0 = r[s] := by
  simp only [List.getD_eq_getElem?_getD, Option.getD_some, List.getElem?_eq_getElem hs]
/-- How far a wax is good. -/
theorem goodN_eq {row : List Int} {most : Int} {a t : Nat} (hat : a ≤ t) (ht : t ≤ row.length) (h1 : ∀ s, a ≤ s → s < t → row.getD s 0 ≤ most) (h2 : t < row.length → ¬ row.getD t 0 ≤ most) : goodN row most a = t - a := by
  unfold goodN
  refine takeWhile_len (by rw [List.length_drop]; omega) (fun i h hi => ?_) (fun h => ?_)
  · rw [List.length_drop] at h
    rw [List.getElem_drop, ← getD_row]
    simpa using h1 (a + i) (by omega) (by omega)
  · rw [List.length_drop] at h
    rw [List.getElem_drop, ← getD_row, show a + (t - a) = t from by omega]
    simpa using h2 (by omega)
theorem goodN_le (row : List Int) (most : Int) (a : Nat) : goodN row most a ≤ row.length - a := by
  unfold goodN
  have := (List.takeWhile_sublist (l := row.drop a) (fun x => decide (x ≤ most))).length_le
  rwa [List.length_drop] at this
theorem goodN_pos {row : List Int} {most : Int} {a : Nat} (ha : a < row.length) (h : row.getD a 0 ≤ most) : 1 ≤ goodN row most a := by
  unfold goodN
  rw [List.drop_eq_getElem_cons ha, List.takeWhile_cons, if_pos (by rw [← getD_row ha]; simpa using h)]
  simp
theorem zone_ge {rs : List (List Int)} {most : Int} {a : Nat} : ∀ m i, i < m → (a : Int) - 1 + goodN (rs.getD i []) most a ≤ (zoneF rs most a m).1
  | m + 1, i, h => by
    unfold zoneF
    dsimp only
    split
    · rename_i h1
      by_cases e : i = m
      · subst e
        exact Int.le_refl _
      · have := zone_ge (rs := rs) (most := most) (a := a) m i (by omega)
        dsimp only
        omega
    · rename_i h1
      by_cases e : i = m
      · subst e
        omega
      · exact zone_ge m i (by omega)
theorem zone_lt {rs : List (List Int)} {most : Int} {a n : Nat} (hn : ∀ row ∈ rs, row.length = n) (ha : a < n) : ∀ m, (zoneF rs most a m).1 < n
  | 0 => by show (-1 : Int) < n; omega
  | m + 1 => by
    have ih := zone_lt hn ha (most := most) m
    unfold zoneF
    dsimp only
    split
    · dsimp only
      have h1 := goodN_le (rs.getD m []) most a
      have h2 : (rs.getD m []).length ≤ n := by
        rw [List.getD_eq_getElem?_getD]
        by_cases hm : m < rs.length
        · rw [List.getElem?_eq_getElem hm]
          exact Nat.le_of_eq (hn _ (List.getElem_mem hm))
        · rw [List.getElem?_eq_none (by omega)]
          simp
      omega
    · exact ih
/-- Each zone has a snow. -/
theorem zone_has {l : List (List Int)} {n : Nat} {most : Int} (hl : TabOk l n) (hm : 0 ≤ most) {a : Nat} (ha : a < n) : (a : Int) ≤ (zoneF (regV l n) most a l.length).1 := by
  obtain ⟨row, hr, he⟩ := low_mem (l := l) (by intro e; have := hl.l1; rw [e] at this; simp at this) a
  obtain ⟨i, hi, rfl⟩ := List.mem_iff_getElem.1 hr
  have h1 := zone_ge (rs := regV l n) (most := most) (a := a) l.length i hi
  have e : (regV l n).getD i [] = regRow l n l[i] := by
    unfold regV
    rw [List.getD_eq_getElem?_getD, List.getElem?_map, List.getElem?_eq_getElem hi]
    rfl
  rw [e] at h1
  have h2 := goodN_pos (row := regRow l n l[i]) (most := most) (a := a) (by rw [regRow_len]; exact ha) (by rw [regRow_get _ _ _ ha, he]; omega)
  omega
theorem zonesF_step {rs : List (List Int)} {most : Int} {n f a : Nat} (ha : a < n) : zonesF rs most n (f + 1) a = ((a : Int), (zoneF rs most a rs.length).1, (zoneF rs most a rs.length).2) :: zonesF rs most n f ((zoneF rs most a rs.length).1 + 1).toNat := by
  show (if a < n then _ else _) = _
  rw [if_pos ha]
theorem zonesF_end {rs : List (List Int)} {most : Int} {n f a : Nat} (ha : n ≤ a) : zonesF rs most n f a = [] := by
  cases f with
  | zero => rfl
  | succ f =>
    unfold zonesF
    rw [if_neg (by omega)]
end Go.Proofs.YtcmpdmobmbbplaaGreat

/- Plain law of sorting by insertion, by a key; what is equal stays in order. -/
namespace Go.Proofs.YtcmpdmobmbbplaaGreat
set_option maxRecDepth 4000

theorem getD_set (L : List Int) (i p : Nat) (v : Int) (hi : i < L.length) : (L.set i v).getD p 0 = if p = i then v else L.getD p 0 := by
  simp only [List.getD_eq_getElem?_getD, List.getElem?_set]
  by_cases h : i = p
  · rw [if_pos h, if_pos h.symm, if_pos hi]
    rfl
  · rw [if_neg h, if_neg (fun hh => h hh.symm)]
/-- By the key, then by the number. -/
def LtK (key : Int → Int) (a b : Int) : Prop := key a < key b ∨ (key a = key b ∧ a < b)
theorem LtK.trans {key : Int → Int} {a b c : Int} (h1 : LtK key a b) (h2 : LtK key b c) : LtK key a c := by
  unfold LtK at *
  omega
structure SrI (key : Int → Int) (l L : List Int) (i : Nat) : Prop where
  perm : L.Perm l
  srt : ∀ p q, p < q → q < i → LtK key (L.getD p 0) (L.getD q 0)
  ord : ∀ p q, p < i → i ≤ q → q < l.length → L.getD p 0 < L.getD q 0
  tail : ∀ p q, i ≤ p → p < q → q < l.length → L.getD p 0 < L.getD q 0
structure SrJ (key : Int → Int) (l L : List Int) (i j : Nat) : Prop where
  perm : L.Perm l
  ji : j ≤ i
  srt : ∀ p q, p < q → q ≤ i → p ≠ j → q ≠ j → LtK key (L.getD p 0) (L.getD q 0)
  low : ∀ q, j < q → q ≤ i → LtK key (L.getD j 0) (L.getD q 0)
  big : ∀ q, q ≤ i → q ≠ j → L.getD q 0 < L.getD j 0
  ord : ∀ p q, p ≤ i → i < q → q < l.length → L.getD p 0 < L.getD q 0
  tail : ∀ p q, i < p → p < q → q < l.length → L.getD p 0 < L.getD q 0
variable {key : Int → Int} {l L : List Int} {i j : Nat}
theorem SrI.open (h : SrI key l L i) (hi : i < l.length) : SrJ key l L i i where
  perm := h.perm
  ji := Nat.le_refl _
  srt := fun p q h1 h2 _ h3 => h.srt p q h1 (by omega)
  low := fun q h1 h2 => by omega
  big := fun q h1 h2 => h.ord q i (by omega) (Nat.le_refl _) hi
  ord := fun p q h1 h2 h3 => by
    by_cases e : p = i
    · exact h.tail p q (by omega) (by omega) h3
    · exact h.ord p q (by omega) (by omega) h3
  tail := fun p q h1 h2 h3 => h.tail p q (by omega) h2 h3
theorem SrJ.close (h : SrJ key l L i j) (hj : j = 0 ∨ ¬ key (L.getD j 0) < key (L.getD (j - 1) 0)) : SrI key l L (i + 1) where
  perm := h.perm
  srt := fun p q h1 h2 => by
    by_cases hp : p = j
    · subst hp
      exact h.low q h1 (by omega)
    by_cases hq : q = j
    · subst hq
      rcases hj with hj | hj
      · omega
      · have h4 := h.big (q - 1) (by omega) (by omega)
        have h5 : LtK key (L.getD (q - 1) 0) (L.getD q 0) := by unfold LtK; omega
        by_cases hp2 : p = q - 1
        · rw [hp2]; exact h5
        · exact (h.srt p (q - 1) (by omega) (by have := h.ji; omega) hp (by omega)).trans h5
    · exact h.srt p q h1 (by omega) hp hq
  ord := fun p q h1 h2 h3 => h.ord p q (by omega) (by omega) h3
  tail := fun p q h1 h2 h3 => h.tail p q (by omega) h2 h3
theorem SrJ.swap (h : SrJ key l L i j) (hj : 0 < j) (hi : i < L.length) (hlt : key (L.getD j 0) < key (L.getD (j - 1) 0)) {x y : Int} (hx : L.getD (j - 1) 0 = x) (hy : L.getD j 0 = y) : SrJ key l ((L.set j x).set (j - 1) y) i (j - 1) := by
  have hji := h.ji
  have e : ∀ p, ((L.set j x).set (j - 1) y).getD p 0 = if p = j - 1 then y else if p = j then x else L.getD p 0 := fun p => by
    rw [getD_set _ _ _ _ (by simp; omega), getD_set _ _ _ _ (by omega)]
  refine ⟨List.Perm.trans ?_ h.perm, by omega, fun p q h1 h2 h3 h4 => ?_, fun q h1 h2 => ?_, fun q h1 h2 => ?_, fun p q h1 h2 h3 => ?_, fun p q h1 h2 h3 => ?_⟩
  · have h1 : j < L.length := by omega
    have h2 : j - 1 < L.length := by omega
    have ex : x = L[j - 1] := by rw [← hx, getD_row h2]
    have ey : y = L[j] := by rw [← hy, getD_row h1]
    subst ex ey
    exact List.set_set_perm h1 h2
  · rw [e, e, if_neg h3, if_neg h4]
    by_cases hp : p = j
    · rw [if_pos hp, if_neg (by omega), ← hx]
      exact h.srt (j - 1) q (by omega) h2 (by omega) (by omega)
    · rw [if_neg hp]
      by_cases hq : q = j
      · rw [if_pos hq, ← hx]
        exact h.srt p (j - 1) (by omega) (by omega) hp (by omega)
      · rw [if_neg hq]
        exact h.srt p q h1 h2 hp hq
  · rw [e, e, if_pos rfl, if_neg (by omega), ← hy]
    by_cases hq : q = j
    · rw [if_pos hq, ← hx]
      exact .inl hlt
    · rw [if_neg hq]
      exact h.low q (by omega) h2
  · rw [e, e, if_pos rfl, if_neg h2, ← hy]
    by_cases hq : q = j
    · rw [if_pos hq, ← hx]
      exact h.big (j - 1) (by omega) (by omega)
    · rw [if_neg hq]
      exact h.big q h1 hq
  · rw [e p, e q, if_neg (show ¬ q = j - 1 by omega), if_neg (show ¬ q = j by omega)]
    split
    · rw [← hy]; exact h.ord j q (by omega) h2 h3
    · split
      · rw [← hx]; exact h.ord (j - 1) q (by omega) h2 h3
      · exact h.ord p q h1 h2 h3
  · rw [e, e, if_neg (by omega), if_neg (by omega), if_neg (by omega), if_neg (by omega)]
    exact h.tail p q h1 h2 h3
/-- Sorted by the key. -/
def SrtK (key : Int → Int) (L : List Int) : Prop := ∀ p q, p < q → q < L.length → LtK key (L.getD p 0) (L.getD q 0)
def iotaL (n : Nat) : List Int := (List.range n).map fun (i : Nat) => (i : Int)
theorem iota_len (n : Nat) : (iotaL n).length = n := by simp [iotaL]
theorem iota_get {n i : Nat} (h : i < n) : (iotaL n).getD i 0 = i := by
  unfold iotaL
  rw [List.getD_eq_getElem?_getD, List.getElem?_map, List.getElem?_range h]
  rfl
theorem SrI.start (n : Nat) : SrI key (iotaL n) (iotaL n) 1 where
  perm := .refl _
  srt := fun p q h1 h2 => by omega
  ord := fun p q h1 h2 h3 => by
    rw [iota_len] at h3
    rw [iota_get (by omega), iota_get h3]
    omega
  tail := fun p q h1 h2 h3 => by
    rw [iota_len] at h3
    rw [iota_get (by omega), iota_get h3]
    omega
theorem SrI.all (h : SrI key l L l.length) : SrtK key L := fun p q h1 h2 => h.srt p q h1 (by rw [← h.perm.length_eq]; exact h2)
/-- What is sorted is sorted in one way. -/
theorem srt_uniq {key : Int → Int} : ∀ {L M : List Int}, SrtK key L → SrtK key M → L.Perm M → L = M
  | [], M, _, _, hp => (List.nil_perm.1 hp).symm ▸ rfl
  | a :: L, [], _, _, hp => by have := hp.length_eq; simp at this
  | a :: L, b :: M, h1, h2, hp => by
    have hab : a = b := by
      have ha : a ∈ b :: M := hp.subset (.head _)
      have hb : b ∈ a :: L := hp.symm.subset (.head _)
      rcases List.mem_cons.1 ha with e | ha
      · exact e
      rcases List.mem_cons.1 hb with e | hb
      · exact e.symm
      obtain ⟨i, hi, ei⟩ := List.mem_iff_getElem.1 ha
      obtain ⟨j, hj, ej⟩ := List.mem_iff_getElem.1 hb
      have h3 := h1 0 (j + 1) (by omega) (by simpa using hj)
      have h4 := h2 0 (i + 1) (by omega) (by simpa using hi)
      rw [getD_row (by simp), getD_row (by simpa using hj)] at h3
      rw [getD_row (by simp), getD_row (by simpa using hi)] at h4
      simp only [List.getElem_cons_zero, List.getElem_cons_succ, ei, ej] at h3 h4
      unfold LtK at h3 h4
      omega
    subst hab
    have ht : ∀ {X : List Int}, SrtK key (a :: X) → SrtK key X := fun hX p q h3 h4 => by
      have := hX (p + 1) (q + 1) (by omega) (by simpa using h4)
      simpa using this
    rw [srt_uniq (ht h1) (ht h2) hp.cons_inv]
end Go.Proofs.YtcmpdmobmbbplaaGreat

/- Plain: the order of single skis, pairs, gaps. -/
namespace Go.Proofs.YtcmpdmobmbbplaaGreat
set_option maxRecDepth 4000

def singlesV (st : List Int) : Int := if (inB st.length 2 16 && (!decide (st.length % 2 = 1) && true)) = false then 2 else if (st.all fun n => inB n 0 100000) = false then 3 else 0
structure SingOk (st : List Int) : Prop where
  l1 : 2 ≤ st.length
  l2 : st.length ≤ 16
  ev : st.length % 2 = 0
  num : ∀ x ∈ st, 0 ≤ x ∧ x ≤ 100000
theorem sing_iff {st : List Int} : singlesV st = 0 ↔ SingOk st := by
  unfold singlesV
  constructor
  · intro h
    split at h
    · cases h
    · rename_i h1
      split at h
      · cases h
      · rename_i h2
        simp only [Bool.not_eq_false, Bool.and_eq_true] at h1 h2
        have h3 := inB_iff.1 h1.1
        refine ⟨by omega, by omega, ?_, fun x hx => inB_iff.1 (List.all_eq_true.1 h2 x hx)⟩
        have h4 := h1.2.1
        simp at h4
        omega
  · rintro ⟨h1, h2, h3, h4⟩
    rw [if_neg (by
      have : ¬ st.length % 2 = 1 := by omega
      simp [inB_iff.2 (show (2 : Int) ≤ st.length ∧ (st.length : Int) ≤ 16 by omega), this]), if_neg (by
      simp only [Bool.not_eq_false, List.all_eq_true]
      exact fun x hx => inB_iff.2 (h4 x hx))]
def insK (key : Int → Int) (x : Int) : List Int → List Int
  | [] => [x]
  | y :: l => if key x < key y then x :: y :: l else y :: insK key x l
def isortF (key : Int → Int) : List Int → List Int → List Int
  | acc, [] => acc
  | acc, x :: l => isortF key (insK key x acc) l
theorem ins_perm (key : Int → Int) (x : Int) : ∀ l, (insK key x l).Perm (x :: l)
  | [] => .refl _
  | y :: l => by
    unfold insK
    split
    · exact .refl _
    · exact ((ins_perm key x l).cons y).trans (.swap _ _ _)
theorem isort_perm (key : Int → Int) : ∀ (acc l : List Int), (isortF key acc l).Perm (acc ++ l)
  | acc, [] => by simp [isortF]
  | acc, x :: l => by
    unfold isortF
    refine (isort_perm key _ l).trans (((ins_perm key x acc).append_right l).trans ?_)
    rw [List.cons_append]
    exact List.perm_middle.symm
theorem ins_srt (key : Int → Int) (x : Int) : ∀ l : List Int, l.Pairwise (LtK key) → (∀ y ∈ l, y < x) → (insK key x l).Pairwise (LtK key)
  | [], _, _ => by simp [insK]
  | y :: l, h, hx => by
    unfold insK
    have h1 := List.pairwise_cons.1 h
    split
    · rename_i hk
      refine List.pairwise_cons.2 ⟨fun z hz => ?_, h⟩
      have hy : LtK key x y := .inl hk
      rcases List.mem_cons.1 hz with rfl | hz
      · exact hy
      · exact hy.trans (h1.1 z hz)
    · rename_i hk
      refine List.pairwise_cons.2 ⟨fun z hz => ?_, ins_srt key x l h1.2 (fun z hz => hx z (.tail _ hz))⟩
      rcases List.mem_cons.1 ((ins_perm key x l).subset hz) with rfl | hz
      · have := hx y (.head _)
        unfold LtK
        omega
      · exact h1.1 z hz
theorem isort_srt (key : Int → Int) : ∀ (acc l : List Int), acc.Pairwise (LtK key) → l.Pairwise (· < ·) → (∀ x ∈ acc, ∀ y ∈ l, x < y) → (isortF key acc l).Pairwise (LtK key)
  | acc, [], h, _, _ => h
  | acc, x :: l, h, hl, ha => by
    unfold isortF
    have h1 := List.pairwise_cons.1 hl
    refine isort_srt key _ l (ins_srt key x acc h (fun y hy => ha y hy x (.head _))) h1.2 (fun y hy z hz => ?_)
    rcases List.mem_cons.1 ((ins_perm key x acc).subset hy) with rfl | hy
    · exact h1.1 z hz
    · exact ha y hy z (.tail _ hz)
theorem srtK_of {key : Int → Int} {L : List Int} (h : L.Pairwise (LtK key)) : SrtK key L := fun p q h1 h2 => by
  rw [getD_row (by omega), getD_row h2]
  exact List.pairwise_iff_getElem.1 h p q (by omega) h2 h1
theorem iota_lt (n : Nat) : (iotaL n).Pairwise (· < ·) := by
  unfold iotaL
  rw [List.pairwise_map]
  exact List.pairwise_lt_range.imp fun h => by omega
/-- The numbers below n, sorted by the key. -/
def ordK (key : Int → Int) (n : Nat) : List Int := isortF key [] (iotaL n)
theorem ordK_perm (key : Int → Int) (n : Nat) : (ordK key n).Perm (iotaL n) := by
  have := isort_perm key [] (iotaL n)
  rwa [List.nil_append] at this
theorem ordK_eq {key : Int → Int} {n : Nat} {L : List Int} (hp : L.Perm (iotaL n)) (hs : SrtK key L) : L = ordK key n :=
  srt_uniq hs (srtK_of (isort_srt key [] (iotaL n) .nil (iota_lt n) (fun _ h => by cases h))) (hp.trans (ordK_perm key n).symm)
theorem iota_mem {n : Nat} {x : Int} : x ∈ iotaL n ↔ 0 ≤ x ∧ x < n := by
  unfold iotaL
  rw [List.mem_map]
  constructor
  · rintro ⟨i, hi, rfl⟩
    have := List.mem_range.1 hi
    omega
  · intro h
    exact ⟨x.toNat, List.mem_range.2 (by omega), by omega⟩
theorem ordK_mem {key : Int → Int} {n : Nat} {x : Int} : x ∈ ordK key n ↔ 0 ≤ x ∧ x < n := (ordK_perm key n).mem_iff.trans iota_mem
theorem ordK_len (key : Int → Int) (n : Nat) : (ordK key n).length = n := by rw [(ordK_perm key n).length_eq, iota_len]
/-- What pairs cost. -/
def costF (st : List Int) : List Int → Int
  | a :: b :: l => costF st l + (st.getD b.toNat 0 - st.getD a.toNat 0)
  | _ => 0
def stK (st : List Int) (x : Int) : Int := st.getD x.toNat 0
def softL (st : List Int) : List Int := ordK (stK st) st.length
/-- Gaps. -/
def lowC (st : List Int) (x : Int) : Nat := st.countP fun n => decide (n ≤ x)
def highC (st : List Int) (x : Int) : Nat := st.countP fun n => decide (x ≤ n)
def gapBad (st : List Int) (p : Option Int) (g : Int × Int) : Bool := decide (g.2 ≤ g.1) || ((match p with | some x => decide (g.1 < x) | none => false) || (decide (lowC st g.1 % 2 = 0) || decide (lowC st g.1 + highC st g.2 ≠ st.length)))
def gapsF (st : List Int) : Option Int → List (Int × Int) → Option Int
  | _, [] => some 0
  | p, g :: l => if gapBad st p g = true then none else (gapsF st (some g.2) l).map fun s => s + (g.2 - g.1)
def gapsV (st : List Int) (gs : List (Int × Int)) : Int × Int := if singlesV st ≠ 0 then (0, singlesV st) else if 16 < gs.length then (0, 2) else match gapsF st none gs with | some s => (s, 0) | none => (0, 8)
def sixL : List Int := [50, 20, 41, 23, 60, 38]
theorem aw_sing : singlesV sixL = 0 := by decide +kernel
theorem aw_cost : costF sixL (softL sixL) = 16 := by decide +kernel
theorem aw_gaps : gapsV sixL [(20, 23), (38, 41), (50, 60)] = (16, 0) := by decide +kernel
end Go.Proofs.YtcmpdmobmbbplaaGreat

/- Plain law of SkiMore. -/
namespace Go.Proofs.YtcmpdmobmbbplaaGreat
set_option maxRecDepth 4000

/-- What is told of a lab. -/
structure Told (k : Nat) (l : Lb) : Prop where
  ok : l.Ok
  noC : NoC l.ord l.n
theorem run_ok {s x y ld : Int} (hx : 0 ≤ x ∧ x < s) (hy : 0 ≤ y ∧ y < s) (hne : x ≠ y) (hl : -10000 ≤ ld ∧ ld ≤ 10000) : (⟨x, y, ld⟩ : Rn).Ok s := ⟨hx.1, hx.2, hy.1, hy.2, hne, hl.1, hl.2⟩
theorem Lb.Ok.loose {l : Lb} (h : l.Ok) {d : Int} (hd : 0 ≤ d) (h2 : l.err + d ≤ 1000) : (l.loose d).Ok := ⟨h.s0, h.s1, by have := h.e0; show 0 ≤ l.err + d; omega, h2, h.len, h.run⟩
/-- The places of a ski, as they are told. -/
def spanP (l : Lb) (s : Nat) : Int × Int := ((1 + upN l.ord s l.n : Nat), l.skis - dnN l.ord s l.n)
end Go.Proofs.YtcmpdmobmbbplaaGreat

/- The plain law of SkiWaxed. -/
namespace Go.Proofs.YtcmpdmobmbbplaaGreat
set_option maxRecDepth 4000

/-- Tables of numbers. -/
structure LosL (W S : Nat) (l : List (List Int)) (n : Nat) : Prop where
  l1 : 1 ≤ l.length
  l2 : l.length ≤ W
  n1 : 1 ≤ n
  n2 : n ≤ S
  len : ∀ row ∈ l, row.length = n
  num : ∀ row ∈ l, ∀ x ∈ row, 0 ≤ x ∧ x ≤ 200
theorem LosL.tab {W S n : Nat} {l : List (List Int)} (h : LosL W S l n) (hW : W ≤ 12) (hS : S ≤ 20) : TabOk l n :=
  ⟨h.l1, by have := h.l2; omega, h.n1, by have := h.n2; omega, h.len, fun r hr x hx => by have := h.num r hr x hx; omega⟩
theorem TabOk.v {l : List (List Int)} {n : Nat} (h : TabOk l n) : tableV l = 0 ∧ (l.headD []).length = n := by
  have e : (l.headD []).length = n := by
    have h1 := h.l1
    match l, h1 with
    | r :: l, _ => exact h.len r List.mem_cons_self
  exact ⟨table_iff.2 (e ▸ h), e⟩
theorem TabOk.low {l : List (List Int)} {n s : Nat} (h : TabOk l n) (hs : s < n) : 0 ≤ lowV l s ∧ lowV l s ≤ 10000 := by
  obtain ⟨r, hr, e⟩ := low_mem (l := l) (by intro e; have := h.l1; rw [e] at this; simp at this) s
  rw [e]
  exact h.num r hr _ (getD_mem (by rw [h.len r hr]; exact hs))
end Go.Proofs.YtcmpdmobmbbplaaGreat

/- The plain law of SkiEnded. -/
namespace Go.Proofs.YtcmpdmobmbbplaaGreat
set_option maxRecDepth 4000

theorem sumN_ge {f : Nat → Nat} {i : Nat} : ∀ n, i < n → f i ≤ sumN f n
  | n + 1, h => by
    unfold sumN
    by_cases e : i = n
    · subst e; omega
    · have := sumN_ge n (i := i) (f := f) (by omega)
      omega
theorem full_bit {n s : Nat} (h : s < n) : (2 ^ n - 1).testBit s = true := by rw [Nat.testBit_two_pow_sub_one]; simp [h]
/-- Further runs that show a ski to be faster than all that are not faster than it. -/
def earL (l : Lb) (x : Nat) : Nat → Lb
  | 0 => l
  | k + 1 => if k = x ∨ fa l.ord k x = true then earL l x k else (earL l x k).add ⟨x, k, (earL l x k).err + 1⟩
def latL (l : Lb) (x : Nat) : Nat → Lb
  | 0 => l
  | k + 1 => if k = x ∨ fa l.ord x k = true then latL l x k else (latL l x k).add ⟨k, x, (latL l x k).err + 1⟩
theorem run_more {e : Int} {a b : Nat} (he : 0 ≤ e) : runV e ⟨a, b, e + 1⟩ = some (a, b) := by
  unfold runV
  rw [if_pos (show e < e + 1 by omega), Int.toNat_natCast, Int.toNat_natCast]
structure More (l m : Lb) (k : Nat) (R : Nat × Nat → Prop) : Prop where
  sk : m.skis = l.skis
  err : m.err = l.err
  ok : m.Ok
  len : m.runs.length ≤ l.runs.length + k
  has : ∀ p, p ∈ m.pairs ↔ p ∈ l.pairs ∨ R p
theorem More.n {l m : Lb} {k : Nat} {R : Nat × Nat → Prop} (h : More l m k R) : m.n = l.n := by unfold Lb.n; rw [h.sk]
theorem More.le {l m : Lb} {k : Nat} {R : Nat × Nat → Prop} (h : More l m k R) (hl : l.Ok) : LeO l.ord m.ord := order_le hl.in8 h.ok.in8 fun p hp => (h.has p).2 (.inl hp)
theorem More.add {l m : Lb} {k a b : Nat} {R R' : Nat × Nat → Prop} (h : More l m k R) (ha : a < l.n) (hb : b < l.n) (hne : a ≠ b) (hlen : l.runs.length + k < 40) (hR : ∀ p, R' p ↔ R p ∨ p = (a, b)) : More l (m.add ⟨a, b, m.err + 1⟩) (k + 1) R' := by
  have hs0 := h.ok.s0
  have hs1 := h.ok.s1
  have he0 := h.ok.e0
  have he1 := h.ok.e1
  have hsk := h.sk
  have hl := h.len
  have ha2 : (a : Int) < m.skis := by unfold Lb.n at ha; omega
  have hb2 : (b : Int) < m.skis := by unfold Lb.n at hb; omega
  refine ⟨h.sk, h.err, h.ok.add (by omega) (run_ok (by omega) (by omega) (by omega) (by omega)), ?_, fun p => ?_⟩
  · show (m.runs ++ [_]).length ≤ _
    rw [List.length_append, List.length_singleton]
    omega
  · rw [add_pairs, run_more he0, hR, List.mem_append, h.has]
    simp only [Option.toList, List.mem_singleton]
    exact or_assoc
theorem More.up {l m : Lb} {k : Nat} {R R' : Nat × Nat → Prop} (h : More l m k R) (hR : ∀ p, R' p ↔ R p) : More l m (k + 1) R' :=
  ⟨h.sk, h.err, h.ok, by have := h.len; omega, fun p => by rw [h.has, hR]⟩
theorem More.start {l : Lb} {R : Nat × Nat → Prop} (h : l.Ok) (hR : ∀ p, ¬ R p) : More l l 0 R := ⟨rfl, rfl, h, by omega, fun p => by simp [hR p]⟩
/-- A run more that shows a ski to be faster than another one. -/
theorem furt_ord {l : Lb} (hl : l.Ok) (x y : Nat) : (l.add ⟨x, y, l.err + 1⟩).ord = withO l.ord x y := add_some (p := (x, y)) (run_more hl.e0)
theorem furt_ok {l : Lb} (hl : l.Ok) {x y : Nat} (hx : x < l.n) (hy : y < l.n) (hne : x ≠ y) (hlen : l.runs.length < 40) : (l.add ⟨x, y, l.err + 1⟩).Ok := by
  have h1 := hl.s0
  have h2 := hl.e0
  have h3 := hl.e1
  unfold Lb.n at hx hy
  exact hl.add hlen (run_ok (by omega) (by omega) (by omega) (by omega))
end Go.Proofs.YtcmpdmobmbbplaaGreat

/- The plain law of a chain: the search of a shortest chain of runs, and the way back. -/
namespace Go.Proofs.YtcmpdmobmbbplaaGreat
set_option maxRecDepth 4000
open Go Go.Eng
/-- The i-th run shows that one ski is faster than another one. -/
def Sh (l : Lb) (i f s : Nat) : Prop := i < l.runs.length ∧ runV l.err (l.runs.getD i ⟨0, 0, 0⟩) = some (f, s)
theorem mem_sh {l : Lb} {i f s : Nat} (h : Sh l i f s) : ∃ x ∈ shL l, x.1 = i ∧ x.2.1.toNat = f ∧ x.2.2.toNat = s := by
  obtain ⟨h1, h2⟩ := h
  rw [runI_nat] at h2
  obtain ⟨p, hp, h3⟩ := Option.map_eq_some_iff.1 h2
  refine ⟨(i, p), List.mem_filterMap.2 ⟨i, List.mem_range.2 h1, by rw [hp]; rfl⟩, rfl, ?_, ?_⟩
  · exact congrArg Prod.fst h3
  · exact congrArg Prod.snd h3
/-- A ski is reached by a chain of so many runs. -/
def Wk (l : Lb) (a : Nat) : Nat → Nat → Prop
  | 0, b => b = a
  | k + 1, b => ∃ s i, Wk l a k s ∧ Sh l i s b
theorem lead_snoc (l : Lb) : ∀ (c : List Int) (a i : Int), leadV l a (c ++ [i]) = (leadV l a c).bind fun x => leadV l x [i]
  | [], a, i => rfl
  | j :: c, a, i => by
    simp only [List.cons_append]
    unfold leadV
    split
    · rfl
    · rename_i p hp
      split
      · rw [lead_snoc l c p.2 i]
        rfl
      · rfl
theorem lead_one {l : Lb} (he : 0 ≤ l.err) {x i y : Int} (h : leadV l x [i] = some y) : ∃ f s : Nat, Sh l i.toNat f s ∧ (f : Int) = x ∧ (s : Int) = y := by
  unfold leadV at h
  split at h
  · cases h
  · rename_i p hp
    split at h
    · rename_i h1
      unfold leadV at h
      refine ⟨p.1, p.2, ⟨?_, hp⟩, h1, Option.some.inj h⟩
      rcases Nat.lt_or_ge i.toNat l.runs.length with h2 | h2
      · exact h2
      · exfalso
        rw [List.getD_eq_getElem?_getD, List.getElem?_eq_none h2, Option.getD_none] at hp
        unfold runV at hp
        rw [if_neg (by simp only; omega), if_neg (by simp only; omega)] at hp
        cases hp
    · cases h
theorem lead_wk {l : Lb} (he : 0 ≤ l.err) (a : Nat) : ∀ (n : Nat) (c : List Int) (y : Int), c.length = n → leadV l a c = some y → ∃ b : Nat, y = b ∧ Wk l a n b
  | 0, c, y, hn, h => by
    rw [List.length_eq_zero_iff.1 hn] at h
    exact ⟨a, (Option.some.inj h).symm, rfl⟩
  | n + 1, c, y, hn, h => by
    rcases List.eq_nil_or_concat c with rfl | ⟨c, i, rfl⟩
    · simp at hn
    · rw [List.concat_eq_append] at h hn
      rw [lead_snoc] at h
      obtain ⟨x, hx, h2⟩ := Option.bind_eq_some_iff.1 h
      obtain ⟨f, s, h3, h4, h5⟩ := lead_one he h2
      obtain ⟨b, hb, hw⟩ := lead_wk he a n c x (by simpa using hn) hx
      refine ⟨s, h5.symm, f, i.toNat, ?_, h3⟩
      have : b = f := by omega
      rw [← this]
      exact hw
theorem lead_cons {l : Lb} {i f s : Nat} {c : List Int} (h : Sh l i f s) : leadV l f ((i : Int) :: c) = leadV l s c := by
  conv => lhs; unfold leadV
  rw [Int.toNat_natCast, h.2]
  simp
/-- What the search has found so far. -/
structure BI (l : Lb) (fast slow n : Nat) (pre : List (Nat × Int × Int)) (by' : List Int) (met lev : List Nat) : Prop where
  bl : by'.length = 8
  ll : lev.length = met.length
  m0 : met.getD 0 0 = fast
  l0 : lev.getD 0 0 = 0
  nl : n < met.length
  mono : ∀ i j, i ≤ j → j < met.length → lev.getD i 0 ≤ lev.getD j 0
  top : ∀ j, j < met.length → lev.getD j 0 ≤ lev.getD n 0 + 1
  nod : ∀ j, j < met.length → met.getD j 0 < 8
  par : ∀ s, s < 8 → 0 ≤ by'.getD s 0 → ∃ j p, 1 ≤ j ∧ j < met.length ∧ met.getD j 0 = s ∧ p < j ∧ Sh l (by'.getD s 0).toNat (met.getD p 0) s ∧ lev.getD j 0 = lev.getD p 0 + 1
  mem : ∀ j, 1 ≤ j → j < met.length → 0 ≤ by'.getD (met.getD j 0) 0
  uniq : ∀ i j, 1 ≤ i → i < met.length → 1 ≤ j → j < met.length → met.getD i 0 = met.getD j 0 → i = j
  slow : by'.getD slow 0 < 0
  lv : ∀ j, j < met.length → lev.getD j 0 ≤ j
  sz : met.length ≤ 1 + ((List.range 8).filter fun s => decide (0 ≤ by'.getD s 0)).length
  done : ∀ m, m < n → ∀ x ∈ shL l, x.2.1.toNat = met.getD m 0 → ∃ j, 1 ≤ j ∧ j < met.length ∧ met.getD j 0 = x.2.2.toNat ∧ lev.getD j 0 ≤ lev.getD m 0 + 1
  cur : ∀ x ∈ pre, x.2.1.toNat = met.getD n 0 → ∃ j, 1 ≤ j ∧ j < met.length ∧ met.getD j 0 = x.2.2.toNat
theorem getD_app1 {α : Type} (l : List α) (x d : α) {i : Nat} (h : i < l.length) : (l ++ [x]).getD i d = l.getD i d := by
  rw [List.getD_eq_getElem?_getD, List.getD_eq_getElem?_getD, List.getElem?_append_left h]
theorem getD_app2 {α : Type} (l : List α) (x d : α) : (l ++ [x]).getD l.length d = x := by
  rw [List.getD_eq_getElem?_getD, List.getElem?_append_right (Nat.le_refl _)]
  simp
theorem BI.start (l : Lb) {fast slow : Nat} (hf : fast < 8) (hs : slow < 8) : BI l fast slow 0 [] (List.replicate 8 (-1)) [fast] [0] where
  bl := by simp
  ll := rfl
  m0 := rfl
  l0 := rfl
  nl := by simp
  mono := fun i j h1 h2 => by
    have : j = 0 := by simpa using h2
    subst this
    have : i = 0 := by omega
    subst this
    exact Nat.le_refl _
  top := fun j hj => by
    have : j = 0 := by simpa using hj
    subst this
    exact Nat.le_succ _
  nod := fun j hj => by
    have : j = 0 := by simpa using hj
    subst this
    exact hf
  par := fun s h1 h2 => by
    rw [List.getD_eq_getElem?_getD, List.getElem?_replicate, if_pos h1] at h2
    simp at h2
  mem := fun j h1 h2 => by simp at h2; omega
  uniq := fun i j h1 h2 => by simp at h2; omega
  slow := by rw [List.getD_eq_getElem?_getD, List.getElem?_replicate, if_pos hs]; simp
  lv := fun j hj => by
    have : j = 0 := by simpa using hj
    subst this
    exact Nat.le_refl _
  sz := by simp only [List.length_singleton]; omega
  done := fun m h => by omega
  cur := fun x h => by cases h
theorem BI.skip {l : Lb} {fast slow n : Nat} {pre : List (Nat × Int × Int)} {by' : List Int} {met lev : List Nat} (h : BI l fast slow n pre by' met lev) {x : Nat × Int × Int} (hs8 : x.2.2.toNat < 8) (hx : x.2.1.toNat ≠ met.getD n 0 ∨ 0 ≤ by'.getD x.2.2.toNat 0) : BI l fast slow n (pre ++ [x]) by' met lev :=
  { h with
    cur := fun y hy hf => by
      rcases List.mem_append.1 hy with hy | hy
      · exact h.cur y hy hf
      · rw [List.mem_singleton.1 hy] at hf ⊢
        rcases hx with hx | hx
        · exact absurd hf hx
        · obtain ⟨j, p, h1, h2, h3, _⟩ := h.par _ hs8 hx
          exact ⟨j, h1, h2, h3⟩ }
theorem BI.add {l : Lb} {fast slow n : Nat} {pre : List (Nat × Int × Int)} {by' : List Int} {met lev : List Nat} (h : BI l fast slow n pre by' met lev) {x : Nat × Int × Int} (hsh : Sh l x.1 x.2.1.toNat x.2.2.toNat) (hs8 : x.2.2.toNat < 8) (hf : x.2.1.toNat = met.getD n 0) (hb : by'.getD x.2.2.toNat 0 < 0) (hne : x.2.2.toNat ≠ slow) : BI l fast slow n (pre ++ [x]) (by'.set x.2.2.toNat x.1) (met ++ [x.2.2.toNat]) (lev ++ [lev.getD n 0 + 1]) := by
  obtain ⟨i, f, s0⟩ := x
  dsimp only at hsh hs8 hf hb hne ⊢
  generalize hst : s0.toNat = s at *
  have hbl := h.bl
  have hll := h.ll
  have hnl := h.nl
  have hm : ∀ j, j < met.length → (met ++ [s]).getD j 0 = met.getD j 0 := fun j hj => getD_app1 _ _ _ hj
  have hl : ∀ j, j < met.length → (lev ++ [lev.getD n 0 + 1]).getD j 0 = lev.getD j 0 := fun j hj => getD_app1 _ _ _ (by omega)
  have hm2 : (met ++ [s]).getD met.length 0 = s := getD_app2 _ _ _
  have hl2 : (lev ++ [lev.getD n 0 + 1]).getD met.length 0 = lev.getD n 0 + 1 := by rw [← hll]; exact getD_app2 _ _ _
  have hbs : (by'.set s (i : Int)).getD s 0 = i := by rw [set_getD _ _ _ _ (by omega), if_pos rfl]
  have hbo : ∀ t, t ≠ s → (by'.set s (i : Int)).getD t 0 = by'.getD t 0 := fun t ht => by rw [set_getD _ _ _ _ (by omega), if_neg ht]
  have hnew : ∀ j, 1 ≤ j → j < met.length → met.getD j 0 ≠ s := fun j h1 h2 e => by
    have := h.mem j h1 h2
    rw [e] at this
    omega
  have hlen : (met ++ [s]).length = met.length + 1 := by simp
  refine ⟨by simp [hbl], by simp [hll], by rw [hm 0 (by omega)]; exact h.m0, by rw [hl 0 (by omega)]; exact h.l0, by omega, fun a b hab hbl2 => ?_, fun j hj => ?_, fun j hj => ?_, fun t ht hb0 => ?_, fun j h1 h2 => ?_, fun a b h1 h2 h3 h4 e => ?_, ?_, fun j hj => ?_, ?_, fun m hmn y hy e => ?_, fun y hy e => ?_⟩
  · rw [hlen] at hbl2
    by_cases e1 : b = met.length
    · rw [e1, hl2]
      by_cases e2 : a = met.length
      · rw [e2, hl2]; omega
      · rw [hl a (by omega)]
        exact h.top a (by omega)
    · rw [hl a (by omega), hl b (by omega)]
      exact h.mono a b hab (by omega)
  · rw [hlen] at hj
    rw [hl n hnl]
    by_cases e1 : j = met.length
    · rw [e1, hl2]; omega
    · rw [hl j (by omega)]
      exact h.top j (by omega)
  · rw [hlen] at hj
    by_cases e1 : j = met.length
    · rw [e1, hm2]; exact hs8
    · rw [hm j (by omega)]
      exact h.nod j (by omega)
  · by_cases e1 : t = s
    · subst e1
      refine ⟨met.length, n, by omega, by omega, hm2, hnl, ?_, ?_⟩
      · rw [hbs, Int.toNat_natCast, hm n hnl, ← hf]
        exact hsh
      · rw [hl2, hl n hnl]
    · rw [hbo t e1] at hb0 ⊢
      obtain ⟨j, p, h1, h2, h3, h4, h5, h6⟩ := h.par t ht hb0
      exact ⟨j, p, h1, by omega, by rw [hm j h2]; exact h3, h4, by rw [hm p (by omega)]; exact h5, by rw [hl j h2, hl p (by omega)]; exact h6⟩
  · rw [hlen] at h2
    by_cases e1 : j = met.length
    · rw [e1, hm2, hbs]; omega
    · rw [hm j (by omega), hbo _ (hnew j h1 (by omega))]
      exact h.mem j h1 (by omega)
  · rw [hlen] at h2 h4
    by_cases e1 : a = met.length
    · by_cases e2 : b = met.length
      · omega
      · rw [e1, hm2, hm b (by omega)] at e
        exact absurd e.symm (hnew b h3 (by omega))
    · by_cases e2 : b = met.length
      · rw [e2, hm2, hm a (by omega)] at e
        exact absurd e (hnew a h1 (by omega))
      · rw [hm a (by omega), hm b (by omega)] at e
        exact h.uniq a b h1 (by omega) h3 (by omega) e
  · rw [hbo _ (Ne.symm hne)]
    exact h.slow
  · rw [hlen] at hj
    by_cases e1 : j = met.length
    · rw [e1, hl2]
      have := h.lv n hnl
      omega
    · rw [hl j (by omega)]
      exact h.lv j (by omega)
  · have h1 := h.sz
    have h2 := filter_lt (fun t => decide (0 ≤ by'.getD t 0)) (fun t => decide (0 ≤ (by'.set s (i : Int)).getD t 0)) (List.range 8) (fun t ht h3 => by
      by_cases e1 : t = s
      · rw [e1, hbs]; simp
      · rw [hbo t e1]; exact h3) ⟨s, List.mem_range.2 hs8, by rw [hbs]; simp, by simpa using hb⟩
    omega
  · rw [hm m (by omega)] at e
    obtain ⟨j, h1, h2, h3, h4⟩ := h.done m hmn y hy e
    exact ⟨j, h1, by omega, by rw [hm j h2]; exact h3, by rw [hl j h2, hl m (by omega)]; exact h4⟩
  · rw [hm n hnl] at e
    rcases List.mem_append.1 hy with hy | hy
    · obtain ⟨j, h1, h2, h3⟩ := h.cur y hy e
      exact ⟨j, h1, by omega, by rw [hm j h2]; exact h3⟩
    · rw [List.mem_singleton.1 hy]
      refine ⟨met.length, by omega, by omega, ?_⟩
      rw [hm2]
      exact hst.symm
theorem BI.next {l : Lb} {fast slow n : Nat} {by' : List Int} {met lev : List Nat} (h : BI l fast slow n (shL l) by' met lev) (hn : n + 1 < met.length) : BI l fast slow (n + 1) [] by' met lev :=
  { h with
    nl := hn
    top := fun j hj => by have := h.top j hj; have := h.mono n (n + 1) (by omega) hn; omega
    done := fun m hm x hx e => by
      by_cases e1 : m = n
      · subst e1
        obtain ⟨j, h1, h2, h3⟩ := h.cur x hx e
        exact ⟨j, h1, h2, h3, h.top j h2⟩
      · exact h.done m (by omega) x hx e
    cur := fun x hx => by cases hx }
theorem BI.last {l : Lb} {fast slow n : Nat} {by' : List Int} {met lev : List Nat} (h : BI l fast slow n (shL l) by' met lev) (hn : n + 1 = met.length) : ∀ k b, 1 ≤ k → Wk l fast k b → ∃ j, 1 ≤ j ∧ j < met.length ∧ met.getD j 0 = b
  | 0, b, h1, _ => by omega
  | k + 1, b, h1, hw => by
    obtain ⟨s, i, hs, hsh⟩ := hw
    obtain ⟨x, hx, _, hx2, hx3⟩ := mem_sh hsh
    have key : ∀ m, m < met.length → met.getD m 0 = s → ∃ j, 1 ≤ j ∧ j < met.length ∧ met.getD j 0 = b := fun m hm hms => by
      by_cases e1 : m = n
      · subst e1
        obtain ⟨j, h2, h3, h4⟩ := h.cur x hx (by rw [hx2, hms])
        exact ⟨j, h2, h3, by rw [h4, hx3]⟩
      · obtain ⟨j, h2, h3, h4, _⟩ := h.done m (by omega) x hx (by rw [hx2, hms])
        exact ⟨j, h2, h3, by rw [h4, hx3]⟩
    by_cases hk0 : k = 0
    · subst hk0
      have hs2 : s = fast := hs
      exact key 0 (by omega) (by rw [h.m0, hs2])
    · obtain ⟨m, _, h3, h4⟩ := h.last hn k s (by omega) hs
      exact key m h3 h4
/-- A chain of the fewest runs. -/
structure Short (l : Lb) (fast slow : Nat) (c : List Int) : Prop where
  ne : c ≠ []
  ok : leadV l fast c = some (slow : Int)
  inr : ∀ i ∈ c, 0 ≤ i ∧ i < l.runs.length
  min : ∀ c', c' ≠ [] → leadV l fast c' = some (slow : Int) → c.length ≤ c'.length
def NoCh (l : Lb) (fast slow : Nat) : Prop := ∀ c', c' ≠ [] → leadV l fast c' ≠ some (slow : Int)
theorem BI.none {l : Lb} {fast slow n : Nat} {by' : List Int} {met lev : List Nat} (he : 0 ≤ l.err) (h : BI l fast slow n (shL l) by' met lev) (hn : n + 1 = met.length) : NoCh l fast slow := fun c hne hc => by
  obtain ⟨b, hb, hw⟩ := lead_wk he fast _ c _ rfl hc
  obtain ⟨j, h1, h2, h3⟩ := h.last hn _ _ (List.length_pos_iff.2 hne) hw
  have h4 := h.mem j h1 h2
  have h5 := h.slow
  rw [h3, show b = slow from by omega] at h4
  omega
/-- The search has found the slower ski, and goes back. -/
structure BK (l : Lb) (fast slow : Nat) (by' : List Int) (at' : Nat) (out : List Int) (K : Nat) : Prop where
  bl : by'.length = 8
  kb : K ≤ 9
  at8 : at' < 8
  ge : 0 ≤ by'.getD at' 0 ∨ (at' = fast ∧ out ≠ [])
  ok : leadV l at' out.reverse = some (slow : Int)
  inr : ∀ i ∈ out, 0 ≤ i ∧ i < l.runs.length
  len : ∃ (met lev : List Nat), lev.length = met.length ∧ (∀ j, j < met.length → met.getD j 0 < 8) ∧ met.getD 0 0 = fast ∧ lev.getD 0 0 = 0 ∧ 0 < met.length ∧ (∀ s, s < 8 → s ≠ slow → 0 ≤ by'.getD s 0 → ∃ j p, 1 ≤ j ∧ j < met.length ∧ met.getD j 0 = s ∧ p < j ∧ Sh l (by'.getD s 0).toNat (met.getD p 0) s ∧ lev.getD j 0 = lev.getD p 0 + 1) ∧
    (∀ j, 1 ≤ j → j < met.length → 0 ≤ by'.getD (met.getD j 0) 0 ∧ met.getD j 0 ≠ slow) ∧ (∀ i j, 1 ≤ i → i < met.length → 1 ≤ j → j < met.length → met.getD i 0 = met.getD j 0 → i = j) ∧ (∀ c', c' ≠ [] → leadV l fast c' = some (slow : Int) → K ≤ c'.length) ∧
    ((out = [] ∧ at' = slow ∧ ∃ p, p < met.length ∧ Sh l (by'.getD slow 0).toNat (met.getD p 0) slow ∧ K = lev.getD p 0 + 1) ∨ (out ≠ [] ∧ ∃ p, p < met.length ∧ met.getD p 0 = at' ∧ lev.getD p 0 + out.length = K))
/-- One step back. -/
theorem BK.step {l : Lb} {fast slow at' K : Nat} {by' out : List Int} (h : BK l fast slow by' at' out K) (hgo : out = [] ∨ at' ≠ fast) : ∃ f : Nat, 0 ≤ by'.getD at' 0 ∧ Sh l (by'.getD at' 0).toNat f at' ∧ BK l fast slow by' f (out ++ [by'.getD at' 0]) K := by
  have hge : 0 ≤ by'.getD at' 0 := by
    rcases h.ge with h1 | ⟨h1, h2⟩
    · exact h1
    · rcases hgo with h3 | h3
      · exact absurd h3 h2
      · exact absurd h1 h3
  obtain ⟨met, lev, k1, k2, k3, k4, k5, k6, k7, k8, k9, k10⟩ := h.len
  have fin : ∀ p, p < met.length → Sh l (by'.getD at' 0).toNat (met.getD p 0) at' → lev.getD p 0 + (out.length + 1) = K → ∃ f : Nat, 0 ≤ by'.getD at' 0 ∧ Sh l (by'.getD at' 0).toNat f at' ∧ BK l fast slow by' f (out ++ [by'.getD at' 0]) K := fun p hp hsh hK => by
    refine ⟨met.getD p 0, hge, hsh, ⟨h.bl, h.kb, k2 p hp, ?_, ?_, fun i hi => ?_, met, lev, k1, k2, k3, k4, k5, k6, k7, k8, k9, .inr ⟨by simp, p, hp, rfl, by rw [List.length_append, List.length_singleton]; exact hK⟩⟩⟩
    · by_cases hp0 : p = 0
      · subst hp0
        exact .inr ⟨k3, by simp⟩
      · exact .inl (k7 p (by omega) hp).1
    · rw [List.reverse_append]
      have e : ((by'.getD at' 0).toNat : Int) = by'.getD at' 0 := by omega
      show leadV l (met.getD p 0 : Nat) (by'.getD at' 0 :: out.reverse) = _
      rw [← e, lead_cons hsh]
      exact h.ok
    · rcases List.mem_append.1 hi with hi | hi
      · exact h.inr i hi
      · rw [List.mem_singleton.1 hi]
        have := hsh.1
        omega
  rcases k10 with ⟨h1, h2, p, h3, h4, h5⟩ | ⟨h1, p, h3, h4, h5⟩
  · subst h2
    exact fin p h3 h4 (by rw [h1, List.length_nil]; omega)
  · have hp1 : 1 ≤ p := by
      rcases Nat.eq_zero_or_pos p with h6 | h6
      · subst h6
        rcases hgo with h7 | h7
        · exact absurd h7 h1
        · rw [k3] at h4
          exact absurd h4.symm h7
      · exact h6
    have hns := (k7 p hp1 h3).2
    rw [h4] at hns
    obtain ⟨j, q, g1, g2, g3, g4, g5, g6⟩ := k6 at' h.at8 hns hge
    have hjp := k8 j p g1 g2 hp1 h3 (by rw [g3, h4])
    subst hjp
    exact fin q (by omega) g5 (by omega)
theorem BK.end {l : Lb} {fast slow K : Nat} {by' out : List Int} (h : BK l fast slow by' fast out K) (hne : out ≠ []) : Short l fast slow out.reverse := by
  obtain ⟨met, lev, k1, k2, k3, k4, k5, k6, k7, k8, k9, k10⟩ := h.len
  refine ⟨by simpa using hne, h.ok, fun i hi => h.inr i (List.mem_reverse.1 hi), fun c h1 h2 => ?_⟩
  have h3 := k9 c h1 h2
  rcases k10 with ⟨h4, _⟩ | ⟨_, p, _, _, h5⟩
  · exact absurd h4 hne
  · rw [List.length_reverse]
    omega
end Go.Proofs.YtcmpdmobmbbplaaGreat

/- The plain law of SkiBagged. -/
namespace Go.Proofs.YtcmpdmobmbbplaaGreat
set_option maxRecDepth 4000

/-- Where the best zone from a snow on ends, and one. -/
def reachF (rs : List (List Int)) (most : Int) (a : Nat) : Nat := ((zoneF rs most a rs.length).1 + 1).toNat
structure ReachZ (rs : List (List Int)) (most : Int) (n a e : Nat) : Prop where
  lt : a < e
  le : e ≤ n
  wax : ∃ w : Nat, w < rs.length ∧ (zoneF rs most a rs.length).2 = (w : Int) ∧ ∀ s, a ≤ s → s < e → (rs.getD w []).getD s 0 ≤ most
  max : ∀ w s, w < rs.length → a ≤ s → s < n → (∀ t, a ≤ t → t ≤ s → (rs.getD w []).getD t 0 ≤ most) → s < e
  eq : (zoneF rs most a rs.length).1 = (e : Int) - 1
/-- Where the next zone begins. -/
def nxtZ (Z : List (Int × Int × Int)) (a : Int) : Nat → Int
  | 0 => a
  | i + 1 => (Z.getD i (0, 0, 0)).2.1 + 1
structure ZoneIs (rs : List (List Int)) (most : Int) (n : Nat) (a : Int) (z : Int × Int × Int) : Prop where
  frm : z.1 = a
  a0 : 0 ≤ a
  le : a ≤ z.2.1
  lt : z.2.1 < n
  w0 : 0 ≤ z.2.2
  w1 : z.2.2 < rs.length
  good : ∀ s : Nat, a ≤ s → (s : Int) ≤ z.2.1 → (rs.getD z.2.2.toNat []).getD s 0 ≤ most
/-- The first number for which something is found. -/
def tryF {α : Type} (g : Nat → Option α) : Nat → Nat → Option α
  | 0, _ => none
  | f + 1, w => match g w with
    | some x => some x
    | none => tryF g f (w + 1)
def fstB (ch : List Nat) : Nat := match ch.getLast? with | none => 0 | some x => x + 1
/-- The first list of so many waxes more that is good enough. -/
def chooseF (cov : List Nat → Bool) (m : Nat) : Nat → List Nat → Option (List Nat)
  | 0, ch => if cov ch then some ch else none
  | k + 1, ch => tryF (fun w => chooseF cov m k (ch ++ [w])) (m - fstB ch) (fstB ch)
def bagF (cov : List Nat → Bool) (m : Nat) : Option (List Nat) := tryF (fun n => chooseF cov m (n + 1) []) m 0
def Inc (m : Nat) (ch : List Nat) : Prop := ch.Pairwise (· < ·) ∧ ∀ x ∈ ch, x < m
/-- Some waxes have a good one for each snow. -/
def covB (rs : List (List Int)) (most : Int) (n : Nat) (ch : List Nat) : Bool := (List.range n).all fun s => ch.any fun w => decide ((rs.getD w []).getD s 0 ≤ most)
theorem filter_or {α : Type} (p q : α → Bool) : ∀ l : List α, (l.filter fun x => p x || q x).length ≤ (l.filter p).length + (l.filter q).length
  | [] => by simp
  | x :: l => by
    have ih := filter_or p q l
    simp only [List.filter_cons]
    cases p x <;> cases q x <;> simp <;> omega
theorem filter_one (c m : Nat) : ((List.range m).filter fun w => decide (w = c)).length ≤ 1 := by
  induction m with
  | zero => simp
  | succ m ih =>
    rw [List.range_succ, List.filter_append, List.length_append]
    by_cases e : m = c
    · subst e
      have : ((List.range m).filter fun w => decide (w = m)) = [] := List.filter_eq_nil_iff.2 fun w hw => by have := List.mem_range.1 hw; simp; omega
      rw [this]
      simp
    · have : ([m].filter fun w => decide (w = c)) = [] := by simp [e]
      rw [this, List.length_nil]
      omega
end Go.Proofs.YtcmpdmobmbbplaaGreat

/- The plain law of the table of orders: sets in the order of their numbers. -/
namespace Go.Proofs.YtcmpdmobmbbplaaGreat
set_option maxRecDepth 4000

def pc (S : Nat) : Nat := ((List.range 8).filter S.testBit).length
theorem pc_le (S : Nat) : pc S ≤ 8 := by
  have := List.length_filter_le S.testBit (List.range 8)
  simpa [pc] using this
theorem pc_xor {S s : Nat} (hs : s < 8) (h : S.testBit s = true) : pc (S ^^^ 2 ^ s) + 1 ≤ pc S := by
  have h1 := filter_add (fun a => (S ^^^ 2 ^ s).testBit a) (fun a => a == s) (List.range 8) (fun a _ ha => by
    cases e : (a == s) with
    | false => rfl
    | true => rw [beq_iff_eq] at e; subst e; rw [bit_xor_self h] at ha; cases ha)
  have h2 : ((List.range 8).filter (fun a => (S ^^^ 2 ^ s).testBit a || a == s)).length = pc S := by
    refine filter_congr2 fun a _ => ?_
    by_cases e : a = s
    · subst e; simp [h]
    · rw [bit_xor e]; simp [e]
  have h3 : 0 < ((List.range 8).filter (fun t => t == s)).length := List.length_pos_iff_exists_mem.2 ⟨s, by simp [hs]⟩
  have h4 : ((List.range 8).filter (fun a => (S ^^^ 2 ^ s).testBit a)).length = pc (S ^^^ 2 ^ s) := rfl
  omega
theorem sumN_bd {f : Nat → Nat} {B : Nat} : ∀ n, (∀ i, i < n → f i ≤ B) → sumN f n ≤ n * B
  | 0, _ => by simp [sumN]
  | n + 1, h => by
    have h1 := sumN_bd n fun i hi => h i (by omega)
    have h2 := h n (by omega)
    rw [sumN, Nat.succ_mul]
    omega
theorem cnt_pow {o n : Nat} (hn : n ≤ 8) : ∀ S, cnt o n S ≤ 8 ^ pc S := by
  intro S
  induction S using Nat.strongRecOn with
  | _ S ih =>
    by_cases h0 : S = 0
    · subst h0
      rw [cnt_zero]
      exact Nat.pow_le_pow_right (n := 8) (i := 0) (by omega) (Nat.zero_le _)
    · rw [cnt_eq h0]
      by_cases hp : pc S = 0
      · have : sumN (fun s => cond (S.testBit s && freeO o n s (S ^^^ 2 ^ s)) (cnt o n (S ^^^ 2 ^ s)) 0) n ≤ n * 0 := sumN_bd n fun i hi => by
          cases ht : S.testBit i with
          | false => exact Nat.le_refl _
          | true => have := pc_xor (show i < 8 by omega) ht; omega
        simp only [Nat.mul_zero] at this
        exact Nat.le_trans this (Nat.zero_le _)
      · obtain ⟨m, hm⟩ : ∃ m, pc S = m + 1 := ⟨pc S - 1, by omega⟩
        have : sumN (fun s => cond (S.testBit s && freeO o n s (S ^^^ 2 ^ s)) (cnt o n (S ^^^ 2 ^ s)) 0) n ≤ n * 8 ^ m := sumN_bd n fun i hi => by
          cases ht : S.testBit i with
          | false => exact Nat.zero_le _
          | true =>
            have h1 := pc_xor (show i < 8 by omega) ht
            have h2 := ih _ (xor_lt ht)
            have h3 : 8 ^ pc (S ^^^ 2 ^ i) ≤ 8 ^ m := Nat.pow_le_pow_right (by omega) (by omega)
            rw [Bool.true_and]
            cases freeO o n i (S ^^^ 2 ^ i)
            · exact Nat.zero_le _
            · exact Nat.le_trans h2 h3
        rw [hm, Nat.pow_succ]
        have h4 : n * 8 ^ m ≤ 8 ^ m * 8 := by rw [Nat.mul_comm]; exact Nat.mul_le_mul_left _ hn
        exact Nat.le_trans this h4
theorem cnt_bd {o n : Nat} (hn : n ≤ 8) (S : Nat) : cnt o n S ≤ 16777216 := Nat.le_trans (cnt_pow hn S) (Nat.le_trans (Nat.pow_le_pow_right (by omega) (pc_le S)) (by decide))
/-- The table, when some sets, and some skis of the next one, are done. -/
def mmT (o n S k T s : Nat) : Nat := cond (T.testBit s && ((decide (T ^^^ 2 ^ s < S) || (decide (T ^^^ 2 ^ s = S) && decide (s < k))) && freeO o n s (T ^^^ 2 ^ s))) (cnt o n (T ^^^ 2 ^ s)) 0
def mm (o n S k T : Nat) : Nat := if T = 0 then 1 else sumN (mmT o n S k T) n
theorem mmT_bd {o n S k T s : Nat} (hn : n ≤ 8) : mmT o n S k T s ≤ 16777216 := by
  unfold mmT
  generalize (T.testBit s && ((decide (T ^^^ 2 ^ s < S) || (decide (T ^^^ 2 ^ s = S) && decide (s < k))) && freeO o n s (T ^^^ 2 ^ s))) = c
  cases c
  · exact Nat.zero_le _
  · exact cnt_bd hn _
theorem mm_bd {o n S k T : Nat} (hn : n ≤ 8) : mm o n S k T ≤ 134217728 := by
  unfold mm
  split
  · omega
  · have := sumN_bd (f := mmT o n S k T) n fun i _ => mmT_bd hn
    omega
theorem mm_first (o n T : Nat) : mm o n 0 0 T = if T = 0 then 1 else 0 := by
  unfold mm
  split
  · rfl
  · have : sumN (mmT o n 0 0 T) n ≤ n * 0 := sumN_bd n fun i _ => by simp [mmT]
    omega
theorem mm_next (o n S T : Nat) : mm o n S n T = mm o n (S + 1) 0 T := by
  unfold mm
  split
  · rfl
  · refine sumN_congr n fun s hs => ?_
    unfold mmT
    have : (decide (T ^^^ 2 ^ s < S) || (decide (T ^^^ 2 ^ s = S) && decide (s < n))) = (decide (T ^^^ 2 ^ s < S + 1) || (decide (T ^^^ 2 ^ s = S + 1) && decide (s < 0))) := by
      by_cases h1 : T ^^^ 2 ^ s < S
      · simp [h1, show T ^^^ 2 ^ s < S + 1 by omega]
      · by_cases h2 : T ^^^ 2 ^ s = S
        · simp [h2, hs]
        · simp [h1, h2, show ¬ T ^^^ 2 ^ s < S + 1 by omega]
    rw [this]
theorem mm_self (o n S : Nat) : mm o n S 0 S = cnt o n S := by
  unfold mm
  split
  · rename_i h; subst h; rw [cnt_zero]
  · rename_i h
    rw [cnt_eq h]
    refine sumN_congr n fun s hs => ?_
    unfold mmT
    cases ht : S.testBit s with
    | false => rfl
    | true => simp [xor_lt ht]
theorem sumN_upd {f g : Nat → Nat} {k d : Nat} : ∀ n, k < n → (∀ i, i < n → i ≠ k → g i = f i) → g k = f k + d → sumN g n = sumN f n + d
  | 0, h, _, _ => by omega
  | n + 1, h, h1, h2 => by
    rw [sumN, sumN]
    by_cases e : k = n
    · subst e
      rw [h2, sumN_congr k fun i hi => h1 i (by omega) (by omega)]
      omega
    · rw [sumN_upd n (by omega) (fun i hi hne => h1 i (by omega) hne) h2, h1 n (by omega) (Ne.symm e)]
      omega
theorem or_xor {S k : Nat} (h : S.testBit k = false) : (S ||| 2 ^ k) ^^^ 2 ^ k = S := Nat.eq_of_testBit_eq fun i => by
  rw [Nat.testBit_xor, Nat.testBit_or]
  by_cases e : i = k
  · subst e; rw [h, Nat.testBit_two_pow_self]; rfl
  · rw [Nat.testBit_two_pow_of_ne (Ne.symm e)]; simp
theorem xor_or {T S k : Nat} (h : T.testBit k = true) (e : T ^^^ 2 ^ k = S) : T = S ||| 2 ^ k := by
  subst e
  refine Nat.eq_of_testBit_eq fun i => ?_
  rw [Nat.testBit_or, Nat.testBit_xor]
  by_cases e : i = k
  · subst e; rw [h, Nat.testBit_two_pow_self]; rfl
  · rw [Nat.testBit_two_pow_of_ne (Ne.symm e)]; simp
theorem mm_add {o n S k : Nat} (hk : k < n) (hf : freeO o n k S = true) : mm o n S (k + 1) (S ||| 2 ^ k) = mm o n S k (S ||| 2 ^ k) + cnt o n S := by
  have hb := (free_iff.1 hf).1
  have hT : (S ||| 2 ^ k).testBit k = true := by rw [Nat.testBit_or, Nat.testBit_two_pow_self, Bool.or_true]
  have h0 : S ||| 2 ^ k ≠ 0 := by intro h; rw [h] at hT; simp at hT
  have hx := or_xor hb
  unfold mm
  rw [if_neg h0, if_neg h0]
  refine sumN_upd n hk (fun i hi hne => ?_) ?_
  · unfold mmT
    have : decide (i < k + 1) = decide (i < k) := decide_eq_decide.2 (by omega)
    rw [this]
  · unfold mmT
    rw [hx, hT, hf]
    simp
theorem mm_same {o n S k T : Nat} (h : T ≠ S ||| 2 ^ k ∨ freeO o n k S = false ∨ cnt o n S = 0) : mm o n S (k + 1) T = mm o n S k T := by
  unfold mm
  split
  · rfl
  · refine sumN_congr n fun s hs => ?_
    unfold mmT
    by_cases e : s = k
    · subst e
      cases ht : T.testBit s with
      | false => rfl
      | true =>
        by_cases hx : T ^^^ 2 ^ s = S
        · rcases h with h | h | h
          · exact absurd (xor_or ht hx) h
          · rw [hx, h]; simp
          · rw [hx, h, cond_zero, cond_zero]
        · simp [hx]
    · have : decide (s < k + 1) = decide (s < k) := decide_eq_decide.2 (by omega)
      rw [this]
/-- The whole table. -/
def mmL (o n S k : Nat) : List Int := (List.range (2 ^ n)).map fun T => ((mm o n S k T : Nat) : Int)
theorem mmL_len (o n S k : Nat) : (mmL o n S k).length = 2 ^ n := by simp [mmL]
theorem mmL_get {o n S k T : Nat} (h : T < 2 ^ n) : (mmL o n S k)[T]'(by rw [mmL_len]; exact h) = ((mm o n S k T : Nat) : Int) := by simp [mmL]
theorem mmL_first (o n : Nat) : (List.replicate (2 ^ n) (0 : Int)).set 0 1 = mmL o n 0 0 := by
  refine List.ext_getElem (by simp [mmL_len]) fun i h1 h2 => ?_
  rw [List.getElem_set, mmL_get (by simpa [mmL_len] using h2), mm_first]
  by_cases h : i = 0
  · subst h; simp
  · rw [if_neg (fun e => h e.symm), if_neg h, List.getElem_replicate]
    rfl
theorem mmL_next (o n S : Nat) : mmL o n S n = mmL o n (S + 1) 0 := by
  unfold mmL
  refine List.map_congr_left fun T _ => ?_
  rw [mm_next]
theorem mmL_add {o n S k : Nat} (hk : k < n) (hf : freeO o n k S = true) : (mmL o n S k).set (S ||| 2 ^ k) ((mm o n S k (S ||| 2 ^ k) : Nat) + (cnt o n S : Nat) : Int) = mmL o n S (k + 1) := by
  refine List.ext_getElem (by simp [mmL_len]) fun i h1 h2 => ?_
  have hi : i < 2 ^ n := by simpa [mmL_len] using h2
  rw [List.getElem_set, mmL_get hi, mmL_get hi]
  by_cases h : S ||| 2 ^ k = i
  · rw [if_pos h, ← h, mm_add hk hf]
    rfl
  · rw [if_neg h, mm_same (.inl (fun e => h e.symm))]
theorem mmL_same {o n S k : Nat} (h : freeO o n k S = false ∨ cnt o n S = 0) : mmL o n S k = mmL o n S (k + 1) := by
  unfold mmL
  refine List.map_congr_left fun T _ => ?_
  rw [mm_same (.inr h)]
end Go.Proofs.YtcmpdmobmbbplaaGreat

/- The plain law of SkiPlanned: plans. -/
namespace Go.Proofs.YtcmpdmobmbbplaaGreat
set_option maxRecDepth 4000

theorem sumN_one : ∀ n, sumN (fun _ => 1) n = n
  | 0 => rfl
  | n + 1 => by unfold sumN; rw [sumN_one n]
theorem count_all {f : Nat → Nat} {n : Nat} : ∀ m, (∀ s, s < m → f s < n) → sumN (fun p => ((List.range m).filter fun s => decide (f s = p)).length) n = m
  | 0, _ => by
    have := sumN_bd (f := fun p => ((List.range 0).filter fun s => decide (f s = p)).length) (B := 0) n (fun i _ => by simp)
    omega
  | m + 1, h => by
    have ih := count_all (f := f) m (fun s hs => h s (by omega))
    have h1 := sumN_upd (f := fun p => ((List.range m).filter fun s => decide (f s = p)).length) (g := fun p => ((List.range (m + 1)).filter fun s => decide (f s = p)).length) (k := f m) (d := 1) n (h m (by omega)) (fun i hi hne => by
      have e : ([m].filter fun s => decide (f s = i)) = [] := by simp [Ne.symm hne]
      simp only [List.range_succ, List.filter_append, e, List.append_nil]) (by
      have e : ([m].filter fun s => decide (f s = f m)) = [m] := by simp
      simp only [List.range_succ, List.filter_append, e, List.length_append, List.length_singleton])
    rw [h1, ih]
theorem surj {f : Nat → Nat} {n : Nat} (hf : ∀ s, s < n → f s < n) (inj : ∀ s t, s < n → t < n → f s = f t → s = t) : ∀ p, p < n → ∃ s, s < n ∧ f s = p := fun p hp => by
  rcases Classical.em (∃ s, s < n ∧ f s = p) with h | h
  · exact h
  · exfalso
    have h1 := count_all (f := f) n hf
    have h2 : sumN (fun p => ((List.range n).filter fun s => decide (f s = p)).length) n ≤ sumN (fun i => if i = p then 0 else 1) n := sumN_le n fun i hi => by
      split
      · rename_i e
        subst e
        have : ((List.range n).filter fun s => decide (f s = i)) = [] := List.filter_eq_nil_iff.2 fun s hs => by
          have := List.mem_range.1 hs
          simp only [decide_eq_true_eq]
          exact fun e => h ⟨s, this, e⟩
        rw [this]
        simp
      · rcases Classical.em (∃ s, s < n ∧ f s = i) with ⟨s, hs, e⟩ | h3
        · refine Nat.le_trans (filter_le _ (fun t => decide (t = s)) _ fun t ht h4 => ?_) (filter_one s n)
          have := List.mem_range.1 ht
          simp only [decide_eq_true_eq] at h4 ⊢
          exact inj t s this hs (by omega)
        · have : ((List.range n).filter fun s => decide (f s = i)) = [] := List.filter_eq_nil_iff.2 fun s hs => by
            have := List.mem_range.1 hs
            simp only [decide_eq_true_eq]
            exact fun e => h3 ⟨s, this, e⟩
          rw [this]
          simp
    have h3 := sumN_upd (f := fun i => if i = p then 0 else 1) (g := fun _ => 1) (k := p) (d := 1) n hp (fun i _ hne => by simp [hne]) (by simp)
    rw [sumN_one] at h3
    omega
/-- Of each two skis one is faster. -/
def Tot (o n : Nat) : Prop := ∀ s t, s < n → t < n → s ≠ t → fa o s t = true ∨ fa o t s = true
theorem tot_sum {o n s : Nat} (ht : Tot o n) (ho : Ord o) (hc : NoC o n) (hn : n ≤ 8) (hs : s < n) : upN o s n + dnN o s n + 1 = n := by
  have h1 := up_dn hc ho hn hs
  have h2 := filter_add (fun t => fa o t s) (fun t => fa o s t) (List.range n) (fun t h h3 => hc.asym ho hn (List.mem_range.1 h) hs h3)
  have h3 := filter_or (fun t => fa o t s || fa o s t) (fun t => decide (t = s)) (List.range n)
  have h4 := filter_one s n
  have h5 : ((List.range n).filter fun t => (fa o t s || fa o s t) || decide (t = s)) = List.range n := List.filter_eq_self.2 fun t h => by
    have := List.mem_range.1 h
    by_cases e : t = s
    · simp [e]
    · rcases ht t s this hs e with h | h <;> simp [h]
  rw [h5, List.length_range] at h3
  unfold upN dnN at *
  omega
theorem up_lt {o n s t : Nat} (ho : Ord o) (hc : NoC o n) (hn : n ≤ 8) (hs : s < n) (ht : t < n) (h : fa o s t = true) : upN o s n < upN o t n :=
  filter_lt _ _ _ (fun a ha h1 => ho.tr a s t (by have := List.mem_range.1 ha; omega) (by omega) (by omega) h1 h) ⟨s, List.mem_range.2 hs, h, hc s hs⟩
theorem tot_known {o n k : Nat} (ht : Tot o n) (ho : Ord o) (hc : NoC o n) (hn : n ≤ 8) (hk : k ≤ n) : knownO o n k = true := known_iff.2 fun p hp => by
  obtain ⟨s, hs, e⟩ := surj (f := fun s => upN o s n) (n := n) (fun s hs => by have := tot_sum ht ho hc hn hs; omega) (fun s t hs ht' e => by
    rcases Classical.em (s = t) with h | h
    · exact h
    · rcases ht s t hs ht' h with h1 | h1
      · have := up_lt ho hc hn hs ht' h1; omega
      · have := up_lt ho hc hn ht' hs h1; omega) p (by omega)
  have := tot_sum ht ho hc hn hs
  exact ⟨s, hs, e, by omega⟩
theorem tot_or {o n : Nat} (h : ¬ Tot o n) : ∃ p ∈ pairsN n, undO o p = true := by
  rcases Classical.em (∃ p ∈ pairsN n, undO o p = true) with h1 | h1
  · exact h1
  · refine absurd (fun s t hs ht hne => ?_) h
    rcases Classical.em (fa o s t = true ∨ fa o t s = true) with h2 | h2
    · exact h2
    · exfalso
      rw [not_or] at h2
      rcases Nat.lt_or_gt_of_ne hne with h3 | h3
      · exact h1 ⟨(t, s), pairs_iff.2 ⟨ht, h3⟩, und_iff.2 ⟨Bool.eq_false_iff.2 h2.2, Bool.eq_false_iff.2 h2.1⟩⟩
      · exact h1 ⟨(s, t), pairs_iff.2 ⟨hs, h3⟩, und_iff.2 ⟨Bool.eq_false_iff.2 h2.1, Bool.eq_false_iff.2 h2.2⟩⟩
theorem plan_und {n k : Nat} (hn : n ≤ 8) (hk : k ≤ n) : ∀ u o, undN o n ≤ u → Ord o → NoC o n → planO n k o ≤ undN o n
  | u, o, hu, ho, hc => by
    by_cases hkn : knownO o n k = true
    · rw [plan_eq hn ho, if_pos hkn]
      omega
    · obtain ⟨p, hp, hup⟩ := tot_or (o := o) (n := n) (fun ht => hkn (tot_known ht ho hc hn hk))
      have hU := Und.of ho hn hp hup
      have h1 := und_lt hU
      have h2 := und_lt hU.swap
      have h3 := plan_worth (k := k) hU
      match u with
      | 0 => omega
      | u + 1 =>
        have h4 := plan_und hn hk u _ (by omega) (ho.with (f := p.1) (s := p.2) (by have := hU.hx; omega) (by have := hU.hy; omega)) (hc.with hU)
        have h5 := plan_und hn hk u _ (by omega) (ho.with (f := p.2) (s := p.1) (by have := hU.hy; omega) (by have := hU.hx; omega)) (hc.with hU.swap)
        unfold worthO at h3
        omega
theorem pairs_len {n : Nat} (hn : n ≤ 8) (h1 : 1 ≤ n) : (pairsN n).length < n * n ∧ (n ≤ 5 → (pairsN n).length ≤ 10) := by
  obtain rfl | rfl | rfl | rfl | rfl | rfl | rfl | rfl : n = 1 ∨ n = 2 ∨ n = 3 ∨ n = 4 ∨ n = 5 ∨ n = 6 ∨ n = 7 ∨ n = 8 := by omega
  all_goals decide
theorem und_len (o n : Nat) : undN o n ≤ (pairsN n).length := List.length_filter_le _ _
theorem fold_mem (u : Nat × Nat → Bool) (g : Nat × Nat → Nat) : ∀ (l : List (Nat × Nat)) (a : Nat), l.foldl (fun best p => cond (u p) (min best (g p)) best) a = a ∨ ∃ p ∈ l, u p = true ∧ l.foldl (fun best p => cond (u p) (min best (g p)) best) a = g p
  | [], a => .inl rfl
  | p :: l, a => by
    rw [List.foldl_cons]
    rcases fold_mem u g l (cond (u p) (min a (g p)) a) with h | ⟨q, hq, h1, h2⟩
    · rw [h]
      cases hu : u p with
      | false => exact .inl rfl
      | true =>
        rw [cond_true]
        rcases Nat.le_total a (g p) with h3 | h3
        · exact .inl (Nat.min_eq_left h3)
        · exact .inr ⟨p, List.mem_cons_self, hu, Nat.min_eq_right h3⟩
    · exact .inr ⟨q, List.mem_cons_of_mem _ hq, h1, h2⟩
/-- Some run of two skis of which it is not known which one is faster is worth the fewest. -/
theorem plan_at {n k o : Nat} (hn : n ≤ 8) (h1 : 1 ≤ n) (hk : k ≤ n) (ho : Ord o) (hc : NoC o n) (hkn : ¬ knownO o n k = true) : ∃ p ∈ pairsN n, undO o p = true ∧ worthO n k o p.1 p.2 = planO n k o := by
  have h2 := plan_und hn hk _ o (Nat.le_refl _) ho hc
  have h3 := und_len o n
  have h4 := (pairs_len hn h1).1
  have h5 := plan_eq (k := k) hn ho
  rw [if_neg hkn] at h5
  rcases fold_mem (undO o) (fun p => worthO n k o p.1 p.2) (pairsN n) (n * n) with h6 | ⟨p, hp, hu, h6⟩
  · rw [h6] at h5
    omega
  · exact ⟨p, hp, hu, by rw [h5, h6]⟩
theorem plan_zero {n k o : Nat} (hn : n ≤ 8) (h1 : 1 ≤ n) (hk : k ≤ n) (ho : Ord o) (hc : NoC o n) : planO n k o = 0 ↔ knownO o n k = true := by
  constructor
  · intro h
    rcases Classical.em (knownO o n k = true) with h2 | h2
    · exact h2
    · obtain ⟨p, _, _, h3⟩ := plan_at hn h1 hk ho hc h2
      unfold worthO at h3
      omega
  · intro h
    rw [plan_eq hn ho, if_pos h]
end Go.Proofs.YtcmpdmobmbbplaaGreat
