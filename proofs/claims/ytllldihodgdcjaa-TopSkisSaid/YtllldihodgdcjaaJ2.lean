/- My texts W3, W4, W5, B5, B6, B7, B8, B9, B10, B11, B12, B13, B14, B15, B16, B17, B18, B19, B20, B21, B22, B23, B24, B25, B26, B27, B28, G0, Every, K0, K1, K2, K3, K4, K5, B29, K6, W6, K7, B30, K8, B31, K9, K10, K11, W7, W8, W9, W10, W11, W12, W13, W14, W15, K12, B32, K13, K14, K15, K16, K17, K18, K19, K20, K21, K22, K23, K24, K25, K26, D1, D2, K27, K28, K30, K33, D3, D4, K29, D5, joined: a claim takes at most 60 files. -/
import Derived.Test.YtllldihodgdcjaaJ1
import Derived.Laws.CopyRow
import Derived.Laws.MakeOwn
import Derived.Laws.OwnMore
import Derived.Laws.Slices
import Derived.Laws.StructEq
import Derived.ChangeKeysEq

/- The plain laws of waxes: regrets. -/
namespace Go.Proofs.Ytllldihodgdcjaa

def lenB (n : Int) (row : List Int) (k : Int) : Bool := inB row.length 1 20 && decide ((row.length : Int) = k) && true
/-- The error of a table. -/
def tableV (l : List (List Int)) : Int := if (inB l.length 1 12 && l.all (fun row => inB row.length 1 20 && (decide (row.length = (l.headD []).length) && true))) = false then 2 else if l.all (fun row => row.all fun n => inB n 0 10000) = false then 3 else 0
structure TabOk (l : List (List Int)) (n : Nat) : Prop where
  l1 : 1 ≤ l.length
  l2 : l.length ≤ 12
  n1 : 1 ≤ n
  n2 : n ≤ 20
  len : ∀ row ∈ l, row.length = n
  num : ∀ row ∈ l, ∀ x ∈ row, 0 ≤ x ∧ x ≤ 10000
theorem table_iff {l : List (List Int)} : tableV l = 0 ↔ TabOk l (l.headD []).length := by
  unfold tableV
  constructor
  · intro h
    split at h
    · cases h
    split at h
    · cases h
    rename_i h1 h2
    simp only [Bool.not_eq_false, Bool.and_eq_true, inB_iff, List.all_eq_true, Bool.and_true, decide_eq_true_eq] at h1 h2
    obtain ⟨⟨a, b⟩, c⟩ := h1
    cases l with
    | nil => simp at a
    | cons r l =>
      have hr := c r List.mem_cons_self
      exact ⟨by omega, by omega, by simp only [List.headD_cons]; omega, by simp only [List.headD_cons]; omega, fun row hrow => (c row hrow).2, fun row hrow x hx => h2 row hrow x hx⟩
  · intro h
    rw [if_neg, if_neg]
    · simp only [Bool.not_eq_false, List.all_eq_true]
      exact fun row hr x hx => inB_iff.2 (h.num row hr x hx)
    · simp only [Bool.not_eq_false, Bool.and_eq_true, inB_iff, List.all_eq_true, Bool.and_true, decide_eq_true_eq]
      refine ⟨⟨by have := h.l1; omega, by have := h.l2; omega⟩, fun row hr => ?_⟩
      have h1 := h.len row hr
      have h2 := h.n1
      have h3 := h.n2
      exact ⟨⟨by omega, by omega⟩, h1⟩
/-- What a wax loses on a snow. -/
def gt (l : List (List Int)) (i s : Nat) : Int := (l.getD i []).getD s 0
/-- The least of a list, from a number on. -/
def minF (a : Int) (l : List Int) : Int := l.foldl min a
def maxF (a : Int) (l : List Int) : Int := l.foldl max a
theorem min_mem (a : Int) : ∀ l : List Int, minF a l = a ∨ minF a l ∈ l := by
  intro l
  induction l generalizing a with
  | nil => exact .inl rfl
  | cons b l ih =>
    have := ih (min a b)
    unfold minF at this ⊢
    rw [List.foldl_cons]
    rcases this with h | h
    · rw [h]
      by_cases hab : a ≤ b
      · exact .inl (by omega)
      · exact .inr (by rw [show min a b = b from by omega]; exact List.mem_cons_self)
    · exact .inr (List.mem_cons_of_mem _ h)
/-- The least loss on a snow. -/
def lowV (l : List (List Int)) (s : Nat) : Int := minF (gt l 0 s) (l.map fun row => row.getD s 0)
/-- The regrets of a row. -/
def regRow (l : List (List Int)) (n : Nat) (row : List Int) : List Int := (List.range n).map fun s => row.getD s 0 - lowV l s
def regV (l : List (List Int)) (n : Nat) : List (List Int) := l.map (regRow l n)
theorem low_mem {l : List (List Int)} (h : l ≠ []) (s : Nat) : ∃ row ∈ l, lowV l s = row.getD s 0 := by
  rcases min_mem (gt l 0 s) (l.map fun row => row.getD s 0) with h1 | h1
  · cases l with
    | nil => exact absurd rfl h
    | cons r l => exact ⟨r, List.mem_cons_self, h1⟩
  · obtain ⟨row, hr, h2⟩ := List.mem_map.1 h1
    exact ⟨row, hr, h2.symm⟩
/-- The greatest regret of a span of snows. -/
def spanL (row : List Int) (a b : Nat) : List Int := (row.drop a).take (b + 1 - a)
def topR (row : List Int) (a b : Nat) : Int := match spanL row a b with
  | [] => 0
  | x :: l => maxF x l
/-- The wax with the least regret, and this. -/
def waxF (rs : List (List Int)) (a b : Nat) : Nat → Int × Int
  | 0 => (0, 10001)
  | i + 1 => let p := waxF rs a b i; let x := topR (rs.getD i []) a b; if x < p.2 then ((i : Int), x) else p
structure BestW (rs : List (List Int)) (a b m : Nat) (p : Int × Int) : Prop where
  w0 : 0 ≤ p.1
  le : ∀ i, i < m → p.2 ≤ topR (rs.getD i []) a b
  lt : ∀ i, i < m → (i : Int) < p.1 → p.2 < topR (rs.getD i []) a b
  at_ : 0 < m → p.1 < m ∧ topR (rs.getD p.1.toNat []) a b = p.2
end Go.Proofs.Ytllldihodgdcjaa

/- The plain laws of waxes: what SkiWaxed says. -/
namespace Go.Proofs.Ytllldihodgdcjaa

theorem getD_mem {l : List Int} {i : Nat} (h : i < l.length) : l.getD i 0 ∈ l := by
  rw [List.getD_eq_getElem?_getD, List.getElem?_eq_getElem h]
  exact List.getElem_mem h
/-- A snow on which all waxes lose as much more. -/
def worseV (l : List (List Int)) (s : Nat) (d : Int) : List (List Int) := l.map fun row => row.set s (row.getD s 0 + d)
theorem set_getD (row : List Int) (s t : Nat) (x : Int) (hs : s < row.length) : (row.set s x).getD t 0 = if t = s then x else row.getD t 0 := by
  rw [List.getD_eq_getElem?_getD, List.getD_eq_getElem?_getD, List.getElem?_set]
  by_cases h : s = t
  · subst h
    simp [hs]
  · rw [if_neg h, if_neg (fun e => h e.symm)]
end Go.Proofs.Ytllldihodgdcjaa

/- The plain specifications of chains, zones and breaks. -/
namespace Go.Proofs.Ytllldihodgdcjaa

/-- The error of a lab and two skis. -/
def twoV (l : Lb) (a b : Int) : Int := if checkV l ≠ 0 then checkV l else if (inB a 0 (l.skis - 1) && inB b 0 (l.skis - 1)) = false then 1 else 0
/-- Where a chain leads. -/
def leadV (l : Lb) : Int → List Int → Option Int
  | a, [] => some a
  | a, i :: c => match runV l.err (l.runs.getD i.toNat ⟨0, 0, 0⟩) with
    | none => none
    | some p => if (p.1 : Int) = a then leadV l p.2 c else none
def chainV (l : Lb) (a b : Int) (c : List Int) : Bool × Int :=
  if twoV l a b ≠ 0 then (false, twoV l a b) else if c.all (fun i => inB i 0 (l.runs.length - 1)) = false then (false, 1) else (match leadV l a c with | none => false | some x => decide (x = b) && (!c.isEmpty && true), 0)
/-- How far a wax is good, from a snow on. -/
def goodN (row : List Int) (most : Int) (a : Nat) : Nat := ((row.drop a).takeWhile fun x => decide (x ≤ most)).length
/-- The best zone from a snow on: where it ends, and its wax. -/
def zoneF (rs : List (List Int)) (most : Int) (a : Nat) : Nat → Int × Int
  | 0 => (-1, 0)
  | i + 1 => let p := zoneF rs most a i; let x : Int := a - 1 + goodN (rs.getD i []) most a; if p.1 < x then (x, (i : Int)) else p
def zonesF (rs : List (List Int)) (most : Int) (n : Nat) : Nat → Nat → List (Int × Int × Int)
  | 0, _ => []
  | f + 1, a => if a < n then let p := zoneF rs most a rs.length; ((a : Int), p.1, p.2) :: zonesF rs most n f (p.1 + 1).toNat else []
def limitV (l : List (List Int)) (most : Int) : Int := if tableV l ≠ 0 then tableV l else if inB most 0 10000 = false then 3 else 0
def nV (l : List (List Int)) : Nat := (l.headD []).length
def zonesV (l : List (List Int)) (most : Int) : List (Int × Int × Int) × Int := if limitV l most ≠ 0 then ([], limitV l most) else (zonesF (regV l (nV l)) most (nV l) (nV l + 1) 0, 0)
def allG (row : List Int) (most : Int) (a b : Nat) : Bool := (spanL row a b).all fun x => decide (x ≤ most)
def brkF (rs : List (List Int)) (most : Int) : List Int → Bool
  | a :: b :: l => if b ≤ a then false else if rs.any (fun row => allG row most a.toNat b.toNat) then false else brkF rs most (b :: l)
  | _ => true
def breaksV (l : List (List Int)) (most : Int) (br : List Int) : Bool × Int :=
  if limitV l most ≠ 0 then (false, limitV l most) else if br.all (fun s => inB s 0 ((nV l : Int) - 1)) = false then (false, 1) else (if brkF (regV l (nV l)) most br = true then !br.isEmpty && true else false, 0)
/-- The error of skis, and a number of places. -/
def placedV (l : Lb) (k : Int) : Int := if checkV l ≠ 0 then checkV l else if inB k 1 l.skis = false then 3 else 0
def plannedV (l : Lb) (k : Int) : Int := if placedV l k ≠ 0 then placedV l k else if 5 < l.skis then 10 else agreedV l
def fewestV (l : Lb) (k : Int) : Int × Int := if plannedV l k ≠ 0 then (0, plannedV l k) else ((planO l.n k.toNat l.ord : Nat), 0)
def placesV (l : Lb) : List (Int × Int) := (List.range l.n).map fun s => ((1 + upN l.ord s l.n : Nat), l.skis - dnN l.ord s l.n)
def fourL : Lb := ⟨4, 5, [⟨0, 1, 8⟩, ⟨1, 2, 3⟩, ⟨2, 1, -9⟩, ⟨3, 0, -6⟩]⟩
def threeT : List (List Int) := [[5, 4, 9, 9], [6, 2, 3, 8], [9, 9, 2, 1]]
end Go.Proofs.Ytllldihodgdcjaa

/- The engine, part B5: arrays as values; slices of arrays; copy; make. -/
namespace Go.Eng
open Go Go.RowKit

section
variable {P : Program} {T : Tab}
variable {ro : Cx} {n n' : Nat} {F : Fin} {w0 : World} {M : Nat → Prop} {k : List It} {ops : Array Oper} {rest : List Oper} {e : Env} {H Hq : List Ck}

/-- make([]int, n). -/
theorem ql_makeI {d t et m : Nat} {x y : Operand} {ty : TypeId} {pos : String} {af : Array Edge} (hS : SlT P t et 1 8 (.int .i64 0)) (hx : opv e x = some (.int .i64 m)) (hy : opv e y = some (.int .i64 m)) (hd : Nat.blt d n = true) (hm : m ≤ 1000000)
    (h : ∀ b, QL P ro n F w0 M k ops rest ((d, .slice (some ⟨b, 0, none⟩) m m) :: e) (.pt b (ints (List.replicate m 0)) et :: H)) :
    QL P ro n F w0 M k ops (⟨some d, .makeSlice t x y, ty, pos, af, none⟩ :: rest) e H := .mk fun w hs => by
  obtain ⟨ht, hi', hzs, hsz⟩ := hS
  cases hinf : P.info? et with
  | none => simp [hinf] at hi'
  | some i =>
    simp [hinf] at hi'
    obtain ⟨hz, hsize, hby⟩ := hi'
    have hr := run_makeSlice (P := P) w t et i _ ht hinf hz .i64 .i64 m m (by omega) (Int.le_refl _) (by rw [hsize]; simp; omega) (by rw [hby]; omega) (by omega)
    have hcells : (madeCells (Value.int .i64 0).cells ((m : Int).toNat * i.size)) = (ints (List.replicate m 0)).toArray := by
      apply Array.ext'
      rw [hsize, show (Value.int .i64 0).cells = #[Value.int .i64 0] from rfl, toList_madeCells_one]
      simp
    rw [hcells] at hr
    refine yl_val (w' := w.alloc (.cells (ints (List.replicate m 0)).toArray et)) (by simp) hd (fun ac hf => ?_) ((h w.heap.size).h _ (hs.addPt (alloc_chg _ _) (by simp) (alloc_blk w _ _)))
    simp only [execOp, hf.op hx, hf.op hy]
    simp [hr]
end
end Go.Eng

/- The engine, part B6: other pieces for the same memory. -/
namespace Go.Eng
open Go Go.RowKit

section
variable {P : Program} {T : Tab}
variable {ro : Cx} {n n' : Nat} {F : Fin} {w0 : World} {M : Nat → Prop} {k : List It} {ops : Array Oper} {rest : List Oper} {e : Env} {H H' Hq L R : List Ck}

theorem q_conv (hc : ∀ w, Sat w0 M H w → Sat w0 M H' w) (h : Q P ro n F w0 M k e H') : Q P ro n F w0 M k e H := .mk fun w hs => h.h w (hc w hs)
theorem q_fact {p : Prop} (hp : ∀ w, Sat w0 M H w → p) (h : p → Q P ro n F w0 M k e H) : Q P ro n F w0 M k e H := .mk fun w hs => (h (hp w hs)).h w hs
theorem ql_fact {p : Prop} (hp : ∀ w, Sat w0 M H w → p) (h : p → QL P ro n F w0 M k ops rest e H) : QL P ro n F w0 M k ops rest e H := .mk fun w hs => (h (hp w hs)).h w hs
theorem Sat.own_one {w : World} {v : Value} {t sz m : Nat} {xs : List Value} (h : Sat w0 M H w) (hm : Ck.ow v t sz m xs ∈ H) : oneV v = true := by
  have hp : w.ownsRow 0 t sz v m xs := h.all _ hm
  rcases hp.2 with ⟨rfl, _⟩ | ⟨g, cap, cur, rfl, _⟩ <;> rfl
theorem Blk.rd {w : World} {b m : Nat} {cs : List Value} {t : TypeId} (h : Blk w b cs t) (hl : cs.length = m) (c : Nat) : Rd w b (b + 1) (.slice (some ⟨b, 0, none⟩) m c) 1 m cs :=
  ⟨by omega, .inr ⟨b, 0, c, rfl, fun _ => ⟨Nat.le_refl _, Nat.lt_succ_self _, h.lt⟩, fun j _ => by rw [Blk.cell h]; simp⟩⟩
theorem cellsOf_one : ∀ (es : List Value), (∀ e ∈ es, oneV e = true) → cellsOf es = es
  | [], _ => rfl
  | e :: es, h => by
    have h1 := cellsOf_one es (fun x hx => h x (List.mem_cons_of_mem _ hx))
    have h2 := h e List.mem_cons_self
    have h3 : e.cells.toList = [e] := by cases e <;> first | rfl | simp [oneV] at h2
    simp only [cellsOf, List.flatMap_cons] at h1 ⊢
    rw [h1, h3]
    rfl
/-- Elements of one cell each. -/
theorem RdE.one {w : World} {lo hi : Nat} {v : Value} {es : List Value} (h : Rd w lo hi v 1 es.length es) (h1 : ∀ e ∈ es, oneV e = true) : RdE w lo hi v 1 es :=
  ⟨by rw [cellsOf_one es h1]; exact h, fun e he => by have := h1 e he; cases e <;> first | rfl | simp [oneV] at this⟩

theorem Sat.ownil {w : World} (h : Sat w0 M H w) (t sz : Nat) : Sat w0 M (.ow (.slice none 0 0) t sz 0 [] :: H) w :=
  h.add (Chg.refl _ _) (own_nil _ _ _ _) (fun b hb => by simp [Ck.D, Value.ownBlock] at hb)

theorem Sat.pt_ow {w : World} {b : Nat} {cs : List Value} {t sz m : Nat} (hl : cs.length = m * sz) (hm : m ≤ 1000000) (h : Sat w0 M (.pt b cs t :: R) w) : Sat w0 M (.ow (.slice (some ⟨b, 0, none⟩) m m) t sz m cs :: R) w := by
  have hb : Blk w b cs t := h.blk List.mem_cons_self
  refine h.rep .z (Chg.refl [] w) (by simp) ⟨hl, .inr ⟨b, m, cs.toArray, rfl, Nat.zero_le _, hb, Nat.le_refl _, by simp only [maxLen]; omega, by simpa using hl, ?_⟩⟩ (fun x hx => ?_)
  · rw [← hl]; simp
  · have hx' : x = b := by simpa [Ck.D, Value.ownBlock, eq_comm] using hx
    subst hx'
    exact ⟨.inl rfl, hb.lt⟩

theorem Sat.un_perm {w : World} {L L' : List Ck} (hp : L.Perm L') (h : Sat w0 M (un L :: R) w) : Sat w0 M (un L' :: R) w :=
  Sat.un_iff.2 ((Sat.un_iff.1 h).perm (hp.append_right R))
theorem Sat.un_in {w : World} {c : Ck} (h : Sat w0 M (c :: un L :: R) w) : Sat w0 M (un (c :: L) :: R) w := by
  have h1 : Sat w0 M (un L :: c :: R) w := h.perm (.swap _ _ _)
  refine Sat.un_iff.2 ((Sat.un_iff.1 h1).perm ?_)
  exact List.perm_middle
theorem Sat.un_nil {w : World} (h : Sat w0 M R w) : Sat w0 M (un [] :: R) w := Sat.un_iff.2 h
end
end Go.Eng

/- The engine, part B7: structs of numbers and Bools compared; maps. -/
namespace Go.Eng
open Go Go.RowKit

section
variable {P : Program} {T : Tab}

/-! Flat structs: each field is a number or a Bool. -/
def flatF (P : Program) : Nat → List Field → List (Option IntKind) → Bool
  | _, [], [] => true
  | o, f :: fs, k :: ks => !(f.name == "_") && Nat.beq f.offset o && oneB P f.type && (match P.underlying f.type, k with | some (.int q), some q' => kindEq q q' | some .bool, none => true | _, _ => false) && flatF P (o + 1) fs ks
  | _, _, _ => false
def flatB (P : Program) (t : Nat) (ks : List (Option IntKind)) : Bool :=
  !(P.stoodInHeld t) && !(P.eqGuardType P.depth t) && (match P.underlying t with | some (.struct fs) => flatF P 0 fs.toList ks | _ => false)
def fitV : List (Option IntKind) → List Value → Bool
  | [], [] => true
  | some k :: ks, .int k' _ :: vs => kindEq k k' && fitV ks vs
  | none :: ks, .bool _ :: vs => fitV ks vs
  | _, _ => false
def eqL : List Value → List Value → Bool
  | .int _ a :: l, .int _ b :: m => decide (a = b) && eqL l m
  | .bool a :: l, .bool b :: m => (a == b) && eqL l m
  | _, _ => true

variable {ro : Cx} {n : Nat} {F : Fin} {w0 : World} {M : Nat → Prop} {k : List It} {ops : Array Oper} {rest : List Oper} {e : Env} {H Hq : List Ck}

/-! Maps -/
/-- How keys of a type are compared: q says what Go's == does. -/
structure KeyT (P : Program) (kt : TypeId) (K : Value → Prop) (q : Value → Value → Bool) : Prop where
  chk : ∀ empty k w, K k → (Instr.checkKey empty 10000 kt k).run P w = .ok () w
  find : ∀ k es w, K k → (∀ x ∈ es, K x.key) → (Instr.findKey kt k es).run P w = .ok ((es.zipIdx.find? (fun p => q k p.1.key)).map (fun p => (p.2, p.1.val))) w
  eq : ∀ a b, K a → K b → q a b = true → a = b
  refl : ∀ a, K a → q a a = true
  bits : ∀ a, K a → Instr.sameBits 10000 a a = true

/-- A block is a map that is f. -/
def MapAt (w : World) (b : Nat) (K : Value → Prop) (q : Value → Value → Bool) (f : Value → Option Value) : Prop :=
  ∃ es clock, w.heap[b]? = some (.map es clock) ∧ (∀ x ∈ es.toList, K x.key) ∧ ∀ k, K k → (es.toList.find? (fun x => q k x.key)).map (·.val) = f k
def mpP (K : Value → Prop) (q : Value → Value → Bool) (b : Nat) (f : Value → Option Value) : Ck := .gn (· = b) (fun w => MapAt w b K q f)
  (fun _ _ _ ⟨es, clock, h1, h2⟩ hc hn => ⟨es, clock, (hc.block b (Array.getElem?_eq_some_iff.1 h1).1 (hn b rfl)).trans h1, h2⟩)

variable {K : Value → Prop} {q : Value → Value → Bool} {kt et mt : TypeId}

end
end Go.Eng

/- The engine, part B8: kinds of keys; the operations on maps. -/
namespace Go.Eng
open Go Go.RowKit

section
variable {P : Program} {T : Tab}

theorem lookI {e : Env} {t : Nat} {a b : Int} (hl : look e t = some (.int .i64 a)) (h : a = b) : look e t = some (.int .i64 b) := by rw [hl, h]

def eqV : Value → Value → Bool
  | .agg a, .agg b => eqL a.toList b.toList
  | .int _ a, .int _ b => decide (a = b)
  | _, _ => true
def keyF (ks : List (Option IntKind)) (v : Value) : Prop := ∃ xs : List Value, v = .agg xs.toArray ∧ fitV ks xs = true
def keyI (kd : IntKind) (v : Value) : Prop := ∃ a, v = .int kd a

variable {ro : Cx} {n : Nat} {F : Fin} {w0 : World} {M : Nat → Prop} {k : List It} {ops : Array Oper} {rest : List Oper} {e : Env} {H Hq : List Ck}
variable {K : Value → Prop} {q : Value → Value → Bool} {kt et mt : TypeId}

/-! An empty list that is not nil. -/
theorem run_mkS0 {t et : Nat} (hu : P.underlying t = some (.slice et)) (hi : (P.info? et).isSome = true) (w : World) : (Instr.buildSlice t 0 #[]).run P w = .ok (.slice (some ⟨w.heap.size, 0, none⟩) 0 0) (w.alloc (.cells #[] et)) := by
  cases h : P.info? et with
  | none => rw [h] at hi; cases hi
  | some i =>
    have e0 : (Array.range 0) = #[] := rfl
    simp [Instr.buildSlice, run_underlying hu, sizeOf, typeInfo, h, Instr.fill, newRow, e0]
theorem ql_mkS0 (et : Nat) {d t : Nat} {ty : TypeId} {pos : String} {af : Array Edge} (hu : P.underlying t = some (.slice et)) (hi : (P.info? et).isSome = true) (hd : Nat.blt d n = true)
    (h : ∀ b, QL P ro n F w0 M k ops rest ((d, .slice (some ⟨b, 0, none⟩) 0 0) :: e) (.ow (.slice (some ⟨b, 0, none⟩) 0 0) et 1 0 [] :: H)) : QL P ro n F w0 M k ops (⟨some d, .buildSlice t 0 #[], ty, pos, af, none⟩ :: rest) e H := .mk fun w hs => by
  refine yl_val (w' := w.alloc (.cells #[] et)) (by simp) hd (fun a hf => ?_) ((h w.heap.size).h _ (Sat.pt_ow (m := 0) rfl (by omega) (hs.addPt (alloc_chg _ _) (by simp) (alloc_blk w _ _))))
  simp only [execOp]
  simp [run_mkS0 hu hi]
theorem RdI.row {w : World} {lo hi : Nat} {v : Value} {l : List Int} (h : RdI w lo hi v l) : Rd w lo hi v 1 l.length (ints l) := by
  have := h.rd
  rw [cellsOf_one _ (by simp [oneV])] at this
  simpa using this
end
end Go.Eng

/- The engine, part B9: maps that were there before. -/
namespace Go.Eng
open Go Go.RowKit

section
variable {P : Program} {T : Tab}
variable {ro : Cx} {n : Nat} {F : Fin} {w0 : World} {M : Nat → Prop} {k : List It} {ops : Array Oper} {rest : List Oper} {e : Env} {H Hq : List Ck}
variable {K : Value → Prop} {q : Value → Value → Bool} {kt et mt : TypeId}

theorem MapAt.keep {w w' : World} {b : Nat} {f : Value → Option Value} (h : MapAt w b K q f) (c : Chg [] w w') : MapAt w' b K q f := by
  obtain ⟨es, clock, h1, h2⟩ := h
  exact ⟨es, clock, (c.block b (Array.getElem?_eq_some_iff.1 h1).1 (by simp)).trans h1, h2⟩
theorem MapAt.congr {w : World} {b : Nat} {f g : Value → Option Value} (h : MapAt w b K q f) (he : ∀ k, K k → f k = g k) : MapAt w b K q g := by
  obtain ⟨es, clock, h1, h2, h3⟩ := h
  exact ⟨es, clock, h1, h2, fun k hk => (h3 k hk).trans (he k hk)⟩
theorem Sat.turn {w : World} {c c' : Ck} {R : List Ck} (h : Sat w0 M (c :: R) w) (hD : ∀ b, c'.D b → c.D b) (hp : c.p w → c'.p w) : Sat w0 M (c' :: R) w :=
  h.rep .z (Chg.refl [] w) (by simp) (hp (h.all _ List.mem_cons_self)) (fun b hb => ⟨.inl (hD b hb), (h.bd _ List.mem_cons_self b (hD b hb)).1⟩)
end
end Go.Eng

/- The engine, part B10: a region that draws its order, in which some operations that act may stand in any order: one walk for each such order. -/
namespace Go.Eng
open Go Go.RowKit

section
variable {P : Program} {ops : Array Oper} {C : World → Prop} {K : Act → World → Prop}

theorem apart_symm {x y : Oper} (h : x.apart ops y = true) : y.apart ops x = true := by
  obtain ⟨h1, h2, h3⟩ := Oper.apart_spec h
  simp only [Oper.apart, Bool.and_eq_true]
  constructor
  · cases hy : y.dst with
    | none => rfl
    | some d =>
      simp only [Bool.and_eq_true, Bool.not_eq_true', bne_iff_ne, ne_eq]
      refine ⟨?_, fun hx => h2 d hx hy⟩
      have := h3 d hy
      simpa using this
  · cases hx : x.dst with
    | none => rfl
    | some d =>
      have := h1 d hx
      simpa using this

/-- Each operation against all others. -/
def pairsB (ops : Array Oper) (ms : List Nat) : Bool := (List.range ops.size).all fun j => match ops[j]? with
  | none => true
  | some oj => (kindOk oj.op && oj.after.all (fun e => Nat.blt e.on ops.size)) && (List.range j).all fun i => match ops[i]? with
    | none => true
    | some oi => (ms.getD j 0).testBit i || oi.apart ops oj
structure FlM (ops : Array Oper) : Prop where
  kind : ∀ (j : Nat) o, ops[j]? = some o → kindOk o.op = true
  edge : ∀ (j : Nat) o, ops[j]? = some o → ∀ e ∈ o.after, Region.binds .any e = true → ¬ e.on < ops.size → False
  pair : ∀ (i j : Nat) oi oj, i ≠ j → ops[i]? = some oi → ops[j]? = some oj → ((masks ops.toList).getD j 0).testBit i = true ∨ ((masks ops.toList).getD i 0).testBit j = true ∨ oi.apart ops oj = true
theorem pairsB_spec (h : pairsB ops (masks ops.toList) = true) : FlM ops := by
  have hj : ∀ (j : Nat) oj, ops[j]? = some oj → (kindOk oj.op = true ∧ (oj.after.all (fun e => Nat.blt e.on ops.size)) = true) ∧ ∀ i oi, i < j → ops[i]? = some oi → ((masks ops.toList).getD j 0).testBit i = true ∨ oi.apart ops oj = true := by
    intro j oj hoj
    have h1 := List.all_eq_true.1 h j (List.mem_range.2 (Array.getElem?_eq_some_iff.1 hoj).1)
    simp only [hoj, Bool.and_eq_true] at h1
    refine ⟨⟨h1.1.1, h1.1.2⟩, fun i oi hi hoi => ?_⟩
    have h2 := List.all_eq_true.1 h1.2 i (List.mem_range.2 hi)
    simpa only [hoi, Bool.or_eq_true] using h2
  refine ⟨fun j o ho => (hj j o ho).1.1, fun j o ho e he _ hn => hn (by have := Array.all_eq_true'.1 (hj j o ho).1.2 e he; simpa [Nat.blt_eq] using this), fun i j oi oj hij hoi hoj => ?_⟩
  rcases Nat.lt_or_gt_of_ne hij with h1 | h1
  · rcases (hj j oj hoj).2 i oi h1 hoi with h2 | h2
    · exact .inl h2
    · exact .inr (.inr h2)
  · rcases (hj i oi hoi).2 j oj h1 hoj with h2 | h2
    · exact .inr (.inl h2)
    · exact .inr (.inr (apart_symm h2))

/-- Orders: alternatives share what stands ahead. -/
inductive OT where
  | nil
  | op (i : Nat) (t : OT)
  | alt (t u : OT)
def wpT (P : Program) (ops : Array Oper) (C : World → Prop) (K : Act → World → Prop) : OT → Act → World → Prop
  | .nil, a, w => K a w
  | .op i t, a, w => match ops[i]? with
    | none => False
    | some o => if Region.wanted o (yielded ops a.tmps) = true then
        (if eff o.op = true then effStep P o a w (fun v w' => C w' ∧ wpT P ops C K t (a.put o.dst v) w')
         else ∃ v, (∀ w', C w' → (execOp a.eval o).run P w' = .ok (.value v) w') ∧ wpT P ops C K t (a.put o.dst v) w)
      else wpT P ops C K t (a.put o.dst undef) w
  | .alt t u, a, w => wpT P ops C K t a w ∧ wpT P ops C K u a w
def OT.del (j : Nat) : OT → OT
  | .nil => .nil
  | .op i t => if i = j then t else .op i (t.del j)
  | .alt t u => .alt (t.del j) (u.del j)
def isEff (ops : Array Oper) (i : Nat) : Bool := match ops[i]? with | some o => eff o.op | none => false
def OT.take (ops : Array Oper) (j : Nat) : OT → Option OT
  | .nil => none
  | .op i t => if i = j then some t else if isEff ops i = true then none else (t.take ops j).map (.op i)
  | .alt t u => match t.take ops j with | some x => some x | none => u.take ops j
def effsT (ops : Array Oper) : OT → List Nat
  | .nil => []
  | .op i t => if isEff ops i = true then i :: effsT ops t else effsT ops t
  | .alt t _ => effsT ops t
def covT (ops : Array Oper) (ms : List Nat) : Nat → OT → Bool
  | 0, t => (effsT ops t).isEmpty
  | n + 1, t => (effsT ops t).all fun j => (effsT ops t).any (fun i => (ms.getD j 0).testBit i) || (match t.take ops j with | some t' => covT ops ms n t' | none => false)
def OkT (ops : Array Oper) : OT → List Nat → Prop
  | .nil, rem => rem = []
  | .op i t, rem => (∃ o, ops[i]? = some o ∧ ∀ e ∈ o.after, Region.binds .any e = true → e.on ∉ rem) ∧ i ∈ rem ∧ (∀ b ∈ rem, ((masks ops.toList).getD i 0).testBit b = false) ∧ OkT ops t (rem.erase i)
  | .alt t u, rem => OkT ops t rem ∧ OkT ops u rem
def okT (ops : Array Oper) (ms : List Nat) : OT → List Nat → Bool
  | .nil, rem => rem.isEmpty
  | .op i t, rem => (match ops[i]? with | none => false | some o => o.after.all fun e => !(Region.binds .any e) || !(rem.contains e.on)) && rem.contains i && rem.all (fun b => !((ms.getD i 0).testBit b)) && okT ops ms t (rem.erase i)
  | .alt t u, rem => okT ops ms t rem && okT ops ms u rem
theorem okT_spec : ∀ (t : OT) (rem : List Nat), okT ops (masks ops.toList) t rem = true → OkT ops t rem
  | .nil, rem, h => by simpa [okT, OkT] using h
  | .op i t, rem, h => by
    simp only [okT, Bool.and_eq_true] at h
    obtain ⟨⟨⟨h1, h2⟩, h3⟩, h4⟩ := h
    refine ⟨?_, by simpa using h2, fun b hb => by simpa using List.all_eq_true.1 h3 b hb, okT_spec t _ h4⟩
    cases ho : ops[i]? with
    | none => rw [ho] at h1; cases h1
    | some o =>
      rw [ho] at h1
      refine ⟨o, rfl, fun e he hb => ?_⟩
      have := Array.all_eq_true'.1 h1 e he
      simp only [hb, Bool.not_true, Bool.false_or, Bool.not_eq_true'] at this
      simpa using this
  | .alt t u, rem, h => by
    simp only [okT, Bool.and_eq_true] at h
    exact ⟨okT_spec t rem h.1, okT_spec u rem h.2⟩

theorem del_ok {j : Nat} : ∀ (t : OT) (rem : List Nat), rem.Nodup → OkT ops t rem → j ∈ rem → OkT ops (t.del j) (rem.erase j)
  | .nil, rem, _, h, hj => by
    have : rem = [] := h
    subst this
    cases hj
  | .op i t, rem, hn, ⟨⟨o, h1, h1'⟩, h2, h3, h4⟩, hj => by
    unfold OT.del
    split
    · rename_i hij
      subst hij
      exact h4
    · rename_i hij
      refine ⟨⟨o, h1, fun e he hb hm => h1' e he hb (List.mem_of_mem_erase hm)⟩, (List.mem_erase_of_ne hij).2 h2, fun b hb => h3 b (List.mem_of_mem_erase hb), ?_⟩
      rw [List.erase_comm]
      exact del_ok t _ (hn.erase i) h4 ((List.mem_erase_of_ne (fun h => hij h.symm)).2 hj)
  | .alt t u, rem, hn, ⟨h1, h2⟩, hj => ⟨del_ok t rem hn h1 hj, del_ok u rem hn h2 hj⟩
theorem take_ok {j : Nat} : ∀ (t t' : OT) (rem : List Nat), rem.Nodup → OkT ops t rem → j ∈ rem → t.take ops j = some t' → OkT ops t' (rem.erase j)
  | .nil, _, _, _, _, _, h => by simp [OT.take] at h
  | .op i t, t', rem, hn, ⟨⟨o, h1, h1'⟩, h2, h3, h4⟩, hj, h => by
    unfold OT.take at h
    split at h
    · rename_i hij
      subst hij
      cases h
      exact h4
    · rename_i hij
      split at h
      · cases h
      · cases hx : t.take ops j with
        | none => rw [hx] at h; cases h
        | some x =>
          rw [hx] at h
          cases h
          refine ⟨⟨o, h1, fun e he hb hm => h1' e he hb (List.mem_of_mem_erase hm)⟩, (List.mem_erase_of_ne hij).2 h2, fun b hb => h3 b (List.mem_of_mem_erase hb), ?_⟩
          rw [List.erase_comm]
          exact take_ok t x _ (hn.erase i) h4 ((List.mem_erase_of_ne (fun h => hij h.symm)).2 hj) hx
  | .alt t u, t', rem, hn, ⟨h1, h2⟩, hj, h => by
    unfold OT.take at h
    split at h
    · rename_i x hx
      cases h
      exact take_ok t _ rem hn h1 hj hx
    · exact take_ok u t' rem hn h2 hj h
theorem take_del {j q : Nat} (hq : isEff ops q = false) (hj : isEff ops j = true) : ∀ t : OT, (t.del q).take ops j = (t.take ops j).map (OT.del q)
  | .nil => rfl
  | .op i t => by
    have hjq : j ≠ q := fun h => by rw [h, hq] at hj; cases hj
    by_cases hiq : i = q
    · subst hiq
      have e1 : (OT.op i t).del i = t := by simp [OT.del]
      rw [e1]
      simp only [OT.take, if_neg (fun h : i = j => hjq h.symm), hq, Bool.false_eq_true, if_false]
      cases t.take ops j with
      | none => rfl
      | some x => simp [OT.del]
    · have e1 : (OT.op i t).del q = .op i (t.del q) := by simp [OT.del, hiq]
      rw [e1]
      simp only [OT.take]
      split
      · rfl
      · split
        · rfl
        · rw [take_del hq hj t]
          cases t.take ops j with
          | none => rfl
          | some x => simp [OT.del, hiq]
  | .alt t u => by
    simp only [OT.del, OT.take, take_del hq hj t, take_del hq hj u]
    cases t.take ops j with
    | none => rfl
    | some x => rfl
theorem effs_del {q : Nat} (hq : isEff ops q = false) : ∀ t : OT, effsT ops (t.del q) = effsT ops t
  | .nil => rfl
  | .op i t => by
    unfold OT.del
    split
    · rename_i h
      subst h
      simp [effsT, hq]
    · simp only [effsT, effs_del hq t]
  | .alt t _ => by simp only [OT.del, effsT, effs_del hq t]
theorem effs_eff : ∀ (t : OT) (j : Nat), j ∈ effsT ops t → isEff ops j = true
  | .nil, j, h => by simp [effsT] at h
  | .op i t, j, h => by
    unfold effsT at h
    split at h
    · rename_i hi
      rcases List.mem_cons.1 h with rfl | h
      · exact hi
      · exact effs_eff t j h
    · exact effs_eff t j h
  | .alt t _, j, h => effs_eff t j h
theorem effs_rem : ∀ (t : OT) (rem : List Nat), OkT ops t rem → (∀ j, j ∈ effsT ops t → j ∈ rem) ∧ ∀ j, j ∈ rem → isEff ops j = true → j ∈ effsT ops t
  | .nil, rem, h => by
    have : rem = [] := h
    subst this
    exact ⟨fun j h => by simp [effsT] at h, fun j h => by cases h⟩
  | .op i t, rem, ⟨_, h2, _, h4⟩ => by
    obtain ⟨ih1, ih2⟩ := effs_rem t _ h4
    unfold effsT
    constructor
    · intro j hj
      split at hj
      · rcases List.mem_cons.1 hj with rfl | hj
        · exact h2
        · exact List.mem_of_mem_erase (ih1 j hj)
      · exact List.mem_of_mem_erase (ih1 j hj)
    · intro j hj he
      by_cases hij : j = i
      · subst hij
        rw [if_pos he]
        exact List.mem_cons_self
      · have := ih2 j ((List.mem_erase_of_ne hij).2 hj) he
        split
        · exact List.mem_cons_of_mem _ this
        · exact this
  | .alt t _, rem, ⟨h, _⟩ => effs_rem t rem h
theorem cov_del {q : Nat} (hq : isEff ops q = false) (ms : List Nat) : ∀ (n : Nat) (t : OT), covT ops ms n t = true → covT ops ms n (t.del q) = true
  | 0, t, h => by simpa [covT, effs_del hq] using h
  | n + 1, t, h => by
    simp only [covT, effs_del hq, List.all_eq_true] at h ⊢
    intro j hj
    have h1 := h j hj
    rw [Bool.or_eq_true] at h1 ⊢
    rcases h1 with h1 | h1
    · exact .inl h1
    · refine .inr ?_
      rw [take_del hq (effs_eff t j hj)]
      cases hx : t.take ops j with
      | none => rw [hx] at h1; cases h1
      | some x =>
        rw [hx] at h1
        exact cov_del hq ms n x h1

theorem pair_apart (hF : FlM ops) {i j : Nat} {oi oj : Oper} (hij : i ≠ j) (hi : ops[i]? = some oi) (hj : ops[j]? = some oj) (h1 : ((masks ops.toList).getD j 0).testBit i = false) (h2 : ((masks ops.toList).getD i 0).testBit j = false) : oi.apart ops oj = true := by
  rcases hF.pair i j oi oj hij hi hj with h | h | h
  · rw [h1] at h; cases h
  · rw [h2] at h; cases h
  · exact h

theorem swapT_quiet (hF : FlM ops) {j : Nat} {oj : Oper} (hj : ops[j]? = some oj) (hne : eff oj.op = false) : ∀ (t : OT) (rem : List Nat) (a : Act) (w : World), rem.Nodup → OkT ops t rem → j ∈ rem → (∀ i ∈ rem, ((masks ops.toList).getD j 0).testBit i = false) →
    Region.wanted oj (yielded ops a.tmps) = true → C w → wpT P ops C K t a w → ∃ v, (∀ w', C w' → (execOp a.eval oj).run P w' = .ok (.value v) w') ∧ wpT P ops C K (t.del j) (a.put oj.dst v) w
  | .nil, rem, a, w, hn, hok, hjr, hm, hw, hC, h => by
    have : rem = [] := hok
    subst this
    cases hjr
  | .alt t u, rem, a, w, hn, ⟨o1, o2⟩, hjr, hm, hw, hC, ⟨h1, h2⟩ => by
    obtain ⟨v, hv, h3⟩ := swapT_quiet hF hj hne t rem a w hn o1 hjr hm hw hC h1
    obtain ⟨v', hv', h4⟩ := swapT_quiet hF hj hne u rem a w hn o2 hjr hm hw hC h2
    have e1 := hv w hC
    have e2 := hv' w hC
    rw [e1] at e2
    have : v = v' := by simpa using e2
    subst this
    exact ⟨v, hv, h3, h4⟩
  | .op i t, rem, a, w, hn, ⟨⟨oi, hi, _⟩, hir, him, hok⟩, hjr, hm, hw, hC, h => by
    by_cases hij : i = j
    · subst hij
      rw [hj] at hi
      obtain rfl := Option.some.inj hi
      simp only [wpT, hj, hw, if_true, hne, Bool.false_eq_true, if_false] at h
      simpa [OT.del] using h
    · have hji : j ∈ rem.erase i := (List.mem_erase_of_ne (fun h => hij h.symm)).2 hjr
      have ih' := fun a w => swapT_quiet hF hj hne t (rem.erase i) a w (hn.erase i) hok hji (fun b hb => hm b (List.mem_of_mem_erase hb))
      have hap := pair_apart hF hij hi hj (hm i hir) (him j hjr)
      obtain ⟨p1, p2, p3⟩ := Oper.apart_spec hap
      have kj := hF.kind j oj hj
      have ki := hF.kind i oi hi
      have ej : ∀ (a : Act) v, execOp (a.put oi.dst v).eval oj = execOp a.eval oj := fun a v => exec_put kj a oi.dst v p1
      have ei : ∀ (a : Act) v, execOp (a.put oj.dst v).eval oi = execOp a.eval oi := fun a v => exec_put ki a oj.dst v p3
      have wj : ∀ (a : Act) v, Region.wanted oj (yielded ops (a.put oi.dst v).tmps) = Region.wanted oj (yielded ops a.tmps) := fun a v => wanted_put oj a oi.dst v p1
      have wi : ∀ (a : Act) v, Region.wanted oi (yielded ops (a.put oj.dst v).tmps) = Region.wanted oi (yielded ops a.tmps) := fun a v => wanted_put oi a oj.dst v p3
      have cm : ∀ (a : Act) u v, (a.put oi.dst u).put oj.dst v = (a.put oj.dst v).put oi.dst u := fun a u v => Act.put_comm a u v p2
      have ed : (OT.op i t).del j = .op i (t.del j) := by simp [OT.del, hij]
      rw [ed]
      simp only [wpT, hi] at h ⊢
      by_cases hwi : Region.wanted oi (yielded ops a.tmps) = true
      · simp only [hwi, if_true] at h
        by_cases he : eff oi.op = true
        · simp only [he, if_true] at h
          obtain ⟨v0, w0, hC0, h0⟩ := h.some
          obtain ⟨v, hv, _⟩ := ih' _ w0 (by rw [wj]; exact hw) hC0 h0
          simp only [ej] at hv
          refine ⟨v, hv, ?_⟩
          rw [wi]
          simp only [hwi, if_true, he]
          have h1 : effStep P oi (a.put oj.dst v) w (fun u w' => C w' ∧ wpT P ops C K t (a.put oi.dst u) w') := by
            unfold effStep at h ⊢
            rw [ei]
            exact h
          refine h1.mono fun u w' ⟨hC', h2⟩ => ⟨hC', ?_⟩
          obtain ⟨v', hv', h3⟩ := ih' _ w' (by rw [wj]; exact hw) hC' h2
          simp only [ej] at hv'
          have e1 := hv w hC
          have e2 := hv' w hC
          rw [e1] at e2
          have : v = v' := by simpa using e2
          subst this
          rw [cm] at h3
          exact h3
        · simp only [he] at h
          obtain ⟨u, hu, h⟩ := h
          obtain ⟨v, hv, h3⟩ := ih' _ w (by rw [wj]; exact hw) hC h
          simp only [ej] at hv
          refine ⟨v, hv, ?_⟩
          rw [wi]
          simp only [hwi, if_true, he]
          refine ⟨u, fun w' hC' => by rw [ei]; exact hu w' hC', ?_⟩
          rw [cm] at h3
          exact h3
      · simp only [hwi] at h
        obtain ⟨v, hv, h3⟩ := ih' _ w (by rw [wj]; exact hw) hC h
        simp only [ej] at hv
        refine ⟨v, hv, ?_⟩
        rw [wi]
        simp only [hwi]
        rw [cm] at h3
        exact h3

theorem swapT_skip (hF : FlM ops) {j : Nat} {oj : Oper} (hj : ops[j]? = some oj) : ∀ (t : OT) (rem : List Nat) (a : Act) (w : World), rem.Nodup → OkT ops t rem → j ∈ rem → (∀ i ∈ rem, ((masks ops.toList).getD j 0).testBit i = false) →
    Region.wanted oj (yielded ops a.tmps) = false → wpT P ops C K t a w → wpT P ops C K (t.del j) (a.put oj.dst undef) w
  | .nil, rem, a, w, hn, hok, hjr, hm, hw, h => by
    have : rem = [] := hok
    subst this
    cases hjr
  | .alt t u, rem, a, w, hn, ⟨o1, o2⟩, hjr, hm, hw, ⟨h1, h2⟩ => ⟨swapT_skip hF hj t rem a w hn o1 hjr hm hw h1, swapT_skip hF hj u rem a w hn o2 hjr hm hw h2⟩
  | .op i t, rem, a, w, hn, ⟨⟨oi, hi, _⟩, hir, him, hok⟩, hjr, hm, hw, h => by
    by_cases hij : i = j
    · subst hij
      rw [hj] at hi
      obtain rfl := Option.some.inj hi
      simp only [wpT, hj, hw, Bool.false_eq_true, if_false] at h
      simpa [OT.del] using h
    · have hji : j ∈ rem.erase i := (List.mem_erase_of_ne (fun h => hij h.symm)).2 hjr
      have ih' := fun a w => swapT_skip hF hj t (rem.erase i) a w (hn.erase i) hok hji (fun b hb => hm b (List.mem_of_mem_erase hb))
      have hap := pair_apart hF hij hi hj (hm i hir) (him j hjr)
      obtain ⟨p1, p2, p3⟩ := Oper.apart_spec hap
      have ki := hF.kind i oi hi
      have ei : ∀ (a : Act) v, execOp (a.put oj.dst v).eval oi = execOp a.eval oi := fun a v => exec_put ki a oj.dst v p3
      have wj : ∀ (a : Act) v, Region.wanted oj (yielded ops (a.put oi.dst v).tmps) = Region.wanted oj (yielded ops a.tmps) := fun a v => wanted_put oj a oi.dst v p1
      have wi : ∀ (a : Act) v, Region.wanted oi (yielded ops (a.put oj.dst v).tmps) = Region.wanted oi (yielded ops a.tmps) := fun a v => wanted_put oi a oj.dst v p3
      have cm : ∀ (a : Act) u v, (a.put oi.dst u).put oj.dst v = (a.put oj.dst v).put oi.dst u := fun a u v => Act.put_comm a u v p2
      have ed : (OT.op i t).del j = .op i (t.del j) := by simp [OT.del, hij]
      rw [ed]
      simp only [wpT, hi] at h ⊢
      rw [wi]
      by_cases hwi : Region.wanted oi (yielded ops a.tmps) = true
      · simp only [hwi, if_true] at h ⊢
        by_cases he : eff oi.op = true
        · simp only [he, if_true] at h ⊢
          have h1 : effStep P oi (a.put oj.dst undef) w (fun u w' => C w' ∧ wpT P ops C K t (a.put oi.dst u) w') := by
            unfold effStep at h ⊢
            rw [ei]
            exact h
          refine h1.mono fun u w' ⟨hC', h2⟩ => ⟨hC', ?_⟩
          have h3 := ih' _ w' (by rw [wj]; exact hw) h2
          rw [cm] at h3
          exact h3
        · simp only [he] at h ⊢
          obtain ⟨u, hu, h⟩ := h
          have h3 := ih' _ w (by rw [wj]; exact hw) h
          refine ⟨u, fun w' hC' => by rw [ei]; exact hu w' hC', ?_⟩
          rw [cm] at h3
          exact h3
      · simp only [hwi] at h ⊢
        have h3 := ih' _ w (by rw [wj]; exact hw) h
        rw [cm] at h3
        exact h3

theorem swapT_eff (hF : FlM ops) {j : Nat} {oj : Oper} (hj : ops[j]? = some oj) (he : eff oj.op = true) : ∀ (t t' : OT) (rem : List Nat) (a : Act) (w : World), rem.Nodup → OkT ops t rem → j ∈ rem → (∀ i ∈ rem, ((masks ops.toList).getD j 0).testBit i = false) →
    Region.wanted oj (yielded ops a.tmps) = true → t.take ops j = some t' → wpT P ops C K t a w → effStep P oj a w (fun v w' => C w' ∧ wpT P ops C K t' (a.put oj.dst v) w')
  | .nil, _, _, _, _, _, _, _, _, _, ht, _ => by simp [OT.take] at ht
  | .alt t u, t', rem, a, w, hn, ⟨o1, o2⟩, hjr, hm, hw, ht, ⟨h1, h2⟩ => by
    unfold OT.take at ht
    split at ht
    · rename_i x hx
      cases ht
      exact swapT_eff hF hj he t _ rem a w hn o1 hjr hm hw hx h1
    · exact swapT_eff hF hj he u t' rem a w hn o2 hjr hm hw ht h2
  | .op i t, t', rem, a, w, hn, ⟨⟨oi, hi, _⟩, hir, him, hok⟩, hjr, hm, hw, ht, h => by
    unfold OT.take at ht
    split at ht
    · rename_i hij
      subst hij
      cases ht
      rw [hj] at hi
      obtain rfl := Option.some.inj hi
      simp only [wpT, hj, hw, if_true, he] at h
      exact h
    · rename_i hij
      split at ht
      · cases ht
      · rename_i hei0
        have hei : eff oi.op = false := by simpa [isEff, hi] using hei0
        cases hx : t.take ops j with
        | none => rw [hx] at ht; cases ht
        | some x =>
          rw [hx] at ht
          cases ht
          have hji : j ∈ rem.erase i := (List.mem_erase_of_ne (fun h => hij h.symm)).2 hjr
          have ih' := fun a w => swapT_eff hF hj he t x (rem.erase i) a w (hn.erase i) hok hji (fun b hb => hm b (List.mem_of_mem_erase hb))
          have hap := pair_apart hF hij hi hj (hm i hir) (him j hjr)
          obtain ⟨p1, p2, p3⟩ := Oper.apart_spec hap
          have kj := hF.kind j oj hj
          have ki := hF.kind i oi hi
          have ej : ∀ (a : Act) v, execOp (a.put oi.dst v).eval oj = execOp a.eval oj := fun a v => exec_put kj a oi.dst v p1
          have ei : ∀ (a : Act) v, execOp (a.put oj.dst v).eval oi = execOp a.eval oi := fun a v => exec_put ki a oj.dst v p3
          have wj : ∀ (a : Act) v, Region.wanted oj (yielded ops (a.put oi.dst v).tmps) = Region.wanted oj (yielded ops a.tmps) := fun a v => wanted_put oj a oi.dst v p1
          have wi : ∀ (a : Act) v, Region.wanted oi (yielded ops (a.put oj.dst v).tmps) = Region.wanted oi (yielded ops a.tmps) := fun a v => wanted_put oi a oj.dst v p3
          have cm : ∀ (a : Act) u v, (a.put oi.dst u).put oj.dst v = (a.put oj.dst v).put oi.dst u := fun a u v => Act.put_comm a u v p2
          simp only [wpT, hi] at h
          by_cases hwi : Region.wanted oi (yielded ops a.tmps) = true
          · simp only [hwi, if_true, hei, Bool.false_eq_true, if_false] at h
            obtain ⟨u, hu, h⟩ := h
            have h3 := ih' _ w (by rw [wj]; exact hw) hx h
            have h4 : effStep P oj a w (fun v w' => C w' ∧ wpT P ops C K x ((a.put oi.dst u).put oj.dst v) w') := by
              unfold effStep at h3 ⊢
              rw [ej] at h3
              exact h3
            refine h4.mono fun v w' ⟨hC', h5⟩ => ⟨hC', ?_⟩
            simp only [wpT, hi]
            rw [wi]
            simp only [hwi, if_true, hei, Bool.false_eq_true, if_false]
            refine ⟨u, fun w' hC' => by rw [ei]; exact hu w' hC', ?_⟩
            rw [cm] at h5
            exact h5
          · simp only [hwi, Bool.false_eq_true, if_false] at h
            have h3 := ih' _ w (by rw [wj]; exact hw) hx h
            have h4 : effStep P oj a w (fun v w' => C w' ∧ wpT P ops C K x ((a.put oi.dst undef).put oj.dst v) w') := by
              unfold effStep at h3 ⊢
              rw [ej] at h3
              exact h3
            refine h4.mono fun v w' ⟨hC', h5⟩ => ⟨hC', ?_⟩
            simp only [wpT, hi]
            rw [wi]
            simp only [hwi, Bool.false_eq_true, if_false]
            rw [cm] at h5
            exact h5

/-- An operation that is left out: the orders in which it stands first, without it. -/
theorem swapT_skipE (hF : FlM ops) {j : Nat} {oj : Oper} (hj : ops[j]? = some oj) : ∀ (t t' : OT) (rem : List Nat) (a : Act) (w : World), rem.Nodup → OkT ops t rem → j ∈ rem → (∀ i ∈ rem, ((masks ops.toList).getD j 0).testBit i = false) →
    Region.wanted oj (yielded ops a.tmps) = false → t.take ops j = some t' → wpT P ops C K t a w → wpT P ops C K t' (a.put oj.dst undef) w
  | .nil, _, _, _, _, _, _, _, _, _, ht, _ => by simp [OT.take] at ht
  | .alt t u, t', rem, a, w, hn, ⟨o1, o2⟩, hjr, hm, hw, ht, ⟨h1, h2⟩ => by
    unfold OT.take at ht
    split at ht
    · rename_i x hx
      cases ht
      exact swapT_skipE hF hj t _ rem a w hn o1 hjr hm hw hx h1
    · exact swapT_skipE hF hj u t' rem a w hn o2 hjr hm hw ht h2
  | .op i t, t', rem, a, w, hn, ⟨⟨oi, hi, _⟩, hir, him, hok⟩, hjr, hm, hw, ht, h => by
    unfold OT.take at ht
    split at ht
    · rename_i hij
      subst hij
      cases ht
      rw [hj] at hi
      obtain rfl := Option.some.inj hi
      simp only [wpT, hj, hw, Bool.false_eq_true, if_false] at h
      exact h
    · rename_i hij
      split at ht
      · cases ht
      · rename_i hei0
        have hei : eff oi.op = false := by simpa [isEff, hi] using hei0
        cases hx : t.take ops j with
        | none => rw [hx] at ht; cases ht
        | some x =>
          rw [hx] at ht
          cases ht
          have hji : j ∈ rem.erase i := (List.mem_erase_of_ne (fun h => hij h.symm)).2 hjr
          have ih' := fun a w => swapT_skipE hF hj t x (rem.erase i) a w (hn.erase i) hok hji (fun b hb => hm b (List.mem_of_mem_erase hb))
          have hap := pair_apart hF hij hi hj (hm i hir) (him j hjr)
          obtain ⟨p1, p2, p3⟩ := Oper.apart_spec hap
          have ki := hF.kind i oi hi
          have ei : ∀ (a : Act) v, execOp (a.put oj.dst v).eval oi = execOp a.eval oi := fun a v => exec_put ki a oj.dst v p3
          have wj : ∀ (a : Act) v, Region.wanted oj (yielded ops (a.put oi.dst v).tmps) = Region.wanted oj (yielded ops a.tmps) := fun a v => wanted_put oj a oi.dst v p1
          have wi : ∀ (a : Act) v, Region.wanted oi (yielded ops (a.put oj.dst v).tmps) = Region.wanted oi (yielded ops a.tmps) := fun a v => wanted_put oi a oj.dst v p3
          have cm : ∀ (a : Act) u v, (a.put oi.dst u).put oj.dst v = (a.put oj.dst v).put oi.dst u := fun a u v => Act.put_comm a u v p2
          simp only [wpT, hi] at h ⊢
          rw [wi]
          by_cases hwi : Region.wanted oi (yielded ops a.tmps) = true
          · simp only [hwi, if_true, hei, Bool.false_eq_true, if_false] at h ⊢
            obtain ⟨u, hu, h⟩ := h
            have h3 := ih' _ w (by rw [wj]; exact hw) hx h
            refine ⟨u, fun w' hC' => by rw [ei]; exact hu w' hC', ?_⟩
            rw [cm] at h3
            exact h3
          · simp only [hwi, Bool.false_eq_true, if_false] at h ⊢
            have h3 := ih' _ w (by rw [wj]; exact hw) hx h
            rw [cm] at h3
            exact h3

theorem okT_end : ∀ (t : OT) (a : Act) (w : World), OkT ops t [] → wpT P ops C K t a w → K a w
  | .nil, _, _, _, h => h
  | .op i t, _, _, ⟨_, h2, _⟩, _ => by cases h2
  | .alt t _, a, w, ⟨h1, _⟩, ⟨h2, _⟩ => okT_end t a w h1 h2
theorem okT_first : ∀ (t : OT) (rem : List Nat), OkT ops t rem → rem ≠ [] → ∃ i ∈ rem, ∃ o, ops[i]? = some o ∧ ∀ e ∈ o.after, Region.binds .any e = true → e.on ∉ rem
  | .nil, rem, h, hne => absurd h hne
  | .op i t, rem, ⟨h1, h2, _⟩, _ => ⟨i, h2, h1⟩
  | .alt t _, rem, ⟨h1, _⟩, hne => okT_first t rem h1 hne

variable {ro : Cx} {Q : Fin}
theorem any_of_T (hF : FlM ops) (hK : ∀ a w, C w → K a w → Q .normal a w) : ∀ (fuel m : Nat) (t : OT) (rem : List Nat) (listed : Array Bool) (a : Act) (w : World),
    rem.length = fuel → rem.Nodup → listed.size = ops.size → (∀ i, i ∈ rem ↔ i < ops.size ∧ listed.getD i true = false) →
    (∀ (m : Nat) o, ops[m]? = some o → listed.getD m false = true → ∀ e ∈ o.after, Region.binds .any e = true → listed.getD e.on false = true) →
    OkT ops t rem → covT ops (masks ops.toList) m t = true → C w → wpT P ops C K t a w → wpAnyIn (FR ro.ro) 0 P .any ops Q fuel listed a w := by
  intro fuel
  induction fuel with
  | zero =>
    intro m t rem listed a w hl hn hsz hmem hcl hok hcov hC h
    have : rem = [] := by simpa using hl
    subst this
    refine ⟨?_, hK _ _ hC (okT_end t a w hok h)⟩
    refine List.eq_nil_iff_forall_not_mem.2 fun i hi => ?_
    obtain ⟨h0, o, ho, _⟩ := mem_ready.1 hi
    exact absurd ((hmem i).2 ⟨(Array.getElem?_eq_some_iff.1 ho).1, h0⟩) (by simp)
  | succ fuel ih =>
    intro m t rem listed a w hl hn hsz hmem hcl hok hcov hC h
    have hlist : ∀ x, x < ops.size → x ∉ rem → listed.getD x false = true := by
      intro x hx hr
      have h3 : ¬ (x < ops.size ∧ listed.getD x true = false) := fun hx => hr ((hmem x).2 hx)
      have h4 : x < listed.size := by omega
      simp only [Array.getD_eq_getD_getElem?, Array.getElem?_eq_getElem h4, Option.getD_some] at h3 ⊢
      cases hc : listed[x] with
      | true => rfl
      | false => exact absurd ⟨hx, hc⟩ h3
    have hunl : ∀ x, listed.getD x false = true → x ∉ rem := by
      intro x hx hr
      have h0 := ((hmem x).1 hr).2
      simp only [Array.getD_eq_getD_getElem?] at hx h0
      cases hc : listed[x]? <;> simp [hc] at hx h0
      simp [hx] at h0
    refine ⟨fun h0 => ?_, fun j hj => ?_⟩
    · exfalso
      obtain ⟨i, hir, o, ho, hd⟩ := okT_first t rem hok (by rintro rfl; simp at hl)
      have hrd : i ∈ Region.ready .any ops listed := by
        refine mem_ready.2 ⟨((hmem i).1 hir).2, o, ho, fun e he hb => ?_⟩
        by_cases hes : e.on < ops.size
        · exact hlist _ hes (hd e he hb)
        · exact (hF.edge i o ho e he hb hes).elim
      rw [h0] at hrd
      cases hrd
    · obtain ⟨h0, oj, hoj, hre⟩ := mem_ready.1 hj
      have hjr : j ∈ rem := (hmem j).2 ⟨(Array.getElem?_eq_some_iff.1 hoj).1, h0⟩
      have hun : ∀ i ∈ rem, ((masks ops.toList).getD j 0).testBit i = false := fun i hi => by
        cases hb : ((masks ops.toList).getD j 0).testBit i with
        | false => rfl
        | true => exact absurd hi (hunl i (masks_spec (D := fun m => listed.getD m false = true) (fun m o hm hD e he hb => hcl m o hm hD e he hb) j oj hoj (fun e he hb => hre e he hb) i hb))
      have next : ∀ m (t' : OT) a w, OkT ops t' (rem.erase j) → covT ops (masks ops.toList) m t' = true → C w → wpT P ops C K t' a w → wpAnyIn (FR ro.ro) 0 P .any ops Q fuel (listed.setIfInBounds j true) a w := by
        intro m t' a w hok hcov hC h
        refine ih m t' (rem.erase j) _ a w ?_ (hn.erase j) (by simp [hsz]) ?_ ?_ hok hcov hC h
        · rw [List.length_erase_of_mem hjr]; omega
        · intro i
          constructor
          · intro hi
            have hne : j ≠ i := fun e => by subst e; exact absurd hi (hn.not_mem_erase)
            have h1 := (hmem i).1 (List.mem_of_mem_erase hi)
            exact ⟨h1.1, by rw [getD_set_ne true hne]; exact h1.2⟩
          · rintro ⟨h1, h2⟩
            have hne : j ≠ i := fun e => by
              subst e
              simp [hsz, h1] at h2
            rw [getD_set_ne true hne] at h2
            exact (List.mem_erase_of_ne (fun h => hne h.symm)).2 ((hmem i).2 ⟨h1, h2⟩)
        · intro m o hm hD e he hb
          by_cases hmj : j = m
          · subst hmj
            rw [hoj] at hm
            obtain rfl := Option.some.inj hm
            exact getD_set_true (hre e he hb)
          · rw [getD_set_ne false hmj] at hD
            exact getD_set_true (hcl m o hm hD e he hb)
      unfold wpOpIn
      simp only [hoj]
      by_cases hw : Region.wanted oj (yielded ops a.tmps) = true
      · simp only [hw, if_true]
        cases he : eff oj.op with
        | true =>
          have hej : isEff ops j = true := by simp [isEff, hoj, he]
          have hje := (effs_rem t rem hok).2 j hjr hej
          cases m with
          | zero =>
            simp only [covT, List.isEmpty_iff] at hcov
            rw [hcov] at hje
            cases hje
          | succ m =>
            simp only [covT, List.all_eq_true] at hcov
            have h1 := hcov j hje
            rw [Bool.or_eq_true] at h1
            rcases h1 with h1 | h1
            · obtain ⟨i, hi, hb⟩ := List.any_eq_true.1 h1
              rw [hun i ((effs_rem t rem hok).1 i hi)] at hb
              cases hb
            · cases hx : t.take ops j with
              | none => rw [hx] at h1; cases h1
              | some x =>
                rw [hx] at h1
                have h2 := swapT_eff hF hoj he t x rem a w hn hok hjr hun hw hx h
                exact effStep.wpIn (hF.kind j oj hoj) (h2.mono fun v w' ⟨hC', h3⟩ => next m x _ _ (take_ok t x rem hn hok hjr hx) h1 hC' h3)
        | false =>
          have hej : isEff ops j = false := by simp [isEff, hoj, he]
          obtain ⟨v, hv, h2⟩ := swapT_quiet hF hoj he t rem a w hn hok hjr hun hw hC h
          exact upon_FR (fun c hc => by have := hF.kind j oj hoj; rw [hc] at this; cases this) (hv w hC) (next m _ _ _ (del_ok t rem hn hok hjr) (cov_del hej _ m t hcov) hC h2)
      · have hw' : Region.wanted oj (yielded ops a.tmps) = false := by simpa using hw
        simp only [hw', Bool.false_eq_true, if_false]
        cases he : eff oj.op with
        | false =>
          have hej : isEff ops j = false := by simp [isEff, hoj, he]
          exact ⟨fun f _ => fr_fn f, next m _ _ _ (del_ok t rem hn hok hjr) (cov_del hej _ m t hcov) hC (swapT_skip hF hoj t rem a w hn hok hjr hun hw' h)⟩
        | true =>
          have hej : isEff ops j = true := by simp [isEff, hoj, he]
          have hje := (effs_rem t rem hok).2 j hjr hej
          cases m with
          | zero =>
            simp only [covT, List.isEmpty_iff] at hcov
            rw [hcov] at hje
            cases hje
          | succ m =>
            simp only [covT, List.all_eq_true] at hcov
            have h1 := hcov j hje
            rw [Bool.or_eq_true] at h1
            rcases h1 with h1 | h1
            · obtain ⟨i, hi, hb⟩ := List.any_eq_true.1 h1
              rw [hun i ((effs_rem t rem hok).1 i hi)] at hb
              cases hb
            · cases hx : t.take ops j with
              | none => rw [hx] at h1; cases h1
              | some x =>
                rw [hx] at h1
                exact ⟨fun f _ => fr_fn f, next m _ _ _ (take_ok t x rem hn hok hjr hx) h1 hC (swapT_skipE hF hoj t x rem a w hn hok hjr hun hw' hx h)⟩

/-- The whole check. -/
def treeB (ops : Array Oper) (t : OT) : Bool := pairsB ops (masks ops.toList) && okT ops (masks ops.toList) t (List.range ops.size) && covT ops (masks ops.toList) ops.size t
theorem wpIn_region_T {id : Nat} {a : Act} {w : World} (t : OT) (hm : P.follows .mixedOrders = true) (hB : treeB ops t = true) (hC : C { w with drawn := w.drawn + 1 })
    (hK : ∀ a w, C w → K a w → Q .normal a w) (h : wpT P ops C K t a { w with drawn := w.drawn + 1 }) : (Code.region id ops true).wpIn (FR ro.ro) 0 P Q a w := by
  simp only [treeB, Bool.and_eq_true] at hB
  obtain ⟨⟨h1, h2⟩, h3⟩ := hB
  refine wpIn_region_any hm (any_of_T (pairsB_spec h1) hK ops.size ops.size t (List.range ops.size) _ a _ (by simp) List.nodup_range (by simp) ?_ ?_ (okT_spec t _ h2) h3 hC h)
  · intro i
    simp only [List.mem_range]
    constructor
    · intro hi
      exact ⟨hi, by simp [hi]⟩
    · exact fun hi => hi.1
  · intro m o _ hD
    simp only [Array.getD_eq_getD_getElem?, Array.getElem?_replicate] at hD
    split at hD <;> simp at hD
end
end Go.Eng

/- The engine, part B11: walks of a region by a tree of orders. -/
namespace Go.Eng
open Go Go.RowKit

section
variable {P : Program} {ro : Cx} {n : Nat} {F : Fin} {w0 : World} {M : Nat → Prop} {k : List It} {ops : Array Oper} {e : Env} {H Hq : List Ck}

structure QT (P : Program) (ro : Cx) (n : Nat) (F : Fin) (w0 : World) (M : Nat → Prop) (k : List It) (ops : Array Oper) (Hq : List Ck) (t : OT) (e : Env) (H : List Ck) : Prop where
  h : ∀ w, Sat w0 M (H ++ Hq) w → ∀ a, Fits n e a → a.defers = ro.ds → wpT P ops (Sat w0 M Hq) (fun a w => S P ro.ro F k .normal a w) t a w
def chainT : List Nat → OT → OT
  | [], t => t
  | i :: l, t => .op i (chainT l t)

theorem q_drawT {id : Nat} {l : List Oper} (t : OT) (Hq Hm : List Ck) (hH : Sp H (Hm ++ Hq)) (hm : P.follows .mixedOrders = true) (hB : treeB l.toArray t = true) (h : QT P ro n F w0 M k l.toArray Hq t e Hm) :
    Q P ro n F w0 M (.code (.region id l.toArray true) :: k) e H := .mk fun w hs a hf hd => by
  have hs1 := (hs.sp hH).keep (Chg.drew (N := []) w)
  exact wpIn_region_T t hm hB (C := Sat w0 M Hq) hs1.right (fun _ _ _ h => h) (h.h _ hs1 a hf hd)
theorem qt_nil (h : Q P ro n F w0 M k e (H ++ Hq)) : QT P ro n F w0 M k ops Hq .nil e H := ⟨fun w hs a hf hd => h.h w hs a hf hd⟩
theorem qt_alt {t u : OT} (h1 : QT P ro n F w0 M k ops Hq t e H) (h2 : QT P ro n F w0 M k ops Hq u e H) : QT P ro n F w0 M k ops Hq (.alt t u) e H :=
  ⟨fun w hs a hf hd => ⟨h1.h w hs a hf hd, h2.h w hs a hf hd⟩⟩
theorem wpT_chain {C : World → Prop} {K : Act → World → Prop} {t : OT} : ∀ (l : List Nat) (lo : List Oper) (a : Act) (w : World), l.map (fun i => ops[i]?) = lo.map some → wpFlL P ops C (wpT P ops C K t) lo a w → wpT P ops C K (chainT l t) a w
  | [], [], a, w, _, h => h
  | [], _ :: _, _, _, hl, _ => by cases hl
  | _ :: _, [], _, _, hl, _ => by cases hl
  | i :: l, o :: lo, a, w, hl, h => by
    simp only [List.map_cons, List.cons.injEq] at hl
    have ih : ∀ a w, wpFlL P ops C (wpT P ops C K t) lo a w → wpT P ops C K (chainT l t) a w := fun a w => wpT_chain l lo a w hl.2
    simp only [chainT, wpT, hl.1]
    simp only [wpFlL] at h
    split
    · rename_i hw
      rw [if_pos hw] at h
      split
      · rename_i he
        rw [if_pos he] at h
        exact h.mono fun v w' ⟨hC, h2⟩ => ⟨hC, ih _ _ h2⟩
      · rename_i he
        rw [if_neg he] at h
        obtain ⟨v, hv, h2⟩ := h
        exact ⟨v, hv, ih _ _ h2⟩
    · rename_i hw
      rw [if_neg hw] at h
      exact ih _ _ h
/-- The operations of these numbers. -/
inductive PickL (ops : Array Oper) : List Nat → List Oper → Prop
  | nil : PickL ops [] []
  | cons {i : Nat} {o : Oper} {l : List Nat} {lo : List Oper} : ops[i]? = some o → PickL ops l lo → PickL ops (i :: l) (o :: lo)
theorem PickL.map {l : List Nat} {lo : List Oper} (h : PickL ops l lo) : l.map (fun i => ops[i]?) = lo.map some := by
  induction h with
  | nil => rfl
  | cons h1 _ ih => simp [h1, ih]
theorem qt_seg {l : List Nat} {lo : List Oper} {t : OT} (hl : PickL ops l lo)
    (h : ∀ K1 : Act → World → Prop, (∀ e' H', QT P ro n F w0 M k ops Hq t e' H' → Q P ro n F w0 M (.k K1 :: k) e' (H' ++ Hq)) → QF P ro n F w0 M (.k K1 :: k) ops Hq lo e H) : QT P ro n F w0 M k ops Hq (chainT l t) e H :=
  ⟨fun w hs a hf hd => by
    have h1 := h (wpT P ops (Sat w0 M Hq) (fun a w => S P ro.ro F k .normal a w) t) (fun e' H' hq => .mk fun w' hs' a' hf' hd' => hq.h w' hs' a' hf' hd')
    exact wpT_chain l lo a w hl.map (h1.h w hs a hf hd)⟩

/-- What follows, once for all the ways that lead there. -/
theorem q_cut {σ : Type} {c : Code} (env : σ → Env) (hp : σ → List Ck) (main : ∀ s, Q P ro n F w0 M k (env s) (hp s))
    (first : ∀ K2 : Act → World → Prop, (∀ s e' H', Sub (env s) e' → Sp H' (hp s) → Q P ro n F w0 M (.k K2 :: k) e' H') → Q P ro n F w0 M (.code c :: .k K2 :: k) e H) : Q P ro n F w0 M (.code c :: k) e H := by
  have h1 := first (fun a w => S P ro.ro F k .normal a w) (fun s e' H' hs hH => .mk fun w hw a hf hd => (main s).h w (hw.sp hH) a (hf.sub hs) hd)
  have e1 : S P ro.ro F (.k (fun a w => S P ro.ro F k .normal a w) :: k) = S P ro.ro F k := by
    funext x a w
    cases x <;> rfl
  refine .mk fun w hs a hf hd => ?_
  have h2 := h1.h w hs a hf hd
  simp only [S] at h2 ⊢
  simp only [S] at e1
  rw [e1] at h2
  exact h2
end
end Go.Eng

/- The engine, part B12: more about callbacks: pieces that others leave alone; maps in worlds that change. -/
namespace Go.Eng
open Go Go.RowKit

section
variable {P : Program} {T : Tab}
variable {ro : Cx} {n : Nat} {F : Fin} {w0 : World} {M : Nat → Prop} {k : List It} {ops : Array Oper} {rest : List Oper} {e : Env} {H Hq : List Ck}
variable {K : Value → Prop} {q : Value → Value → Bool} {kt et mt : TypeId}

/-- Later changes of these pieces are changes of the first ones. -/
theorem Sat.later {w w' : World} {A B : List Ck} (h : Sat w0 (DL A) B w) (c : ChgP (DL B) w w') : ChgP (DL A) w0 w' := h.chg.upP c (fun k ⟨x, hx, hk⟩ => (h.bd x hx k hk).2)

theorem qf_fact {φ : Prop} (hf : ∀ w, Sat w0 M (H ++ Hq) w → φ) (h : φ → QF P ro n F w0 M k ops Hq rest e H) : QF P ro n F w0 M k ops Hq rest e H := .mk fun w hs => (h (hf w hs)).h w hs
theorem own_slice {w : World} {base e sz n : Nat} {v : Value} {xs : List Value} (h : w.ownsRow base e sz v n xs) : ∃ a m c, v = .slice a m c := by
  rcases h.2 with ⟨rfl, _⟩ | ⟨g, cap, cur, rfl, _⟩
  · exact ⟨_, _, _, rfl⟩
  · exact ⟨_, _, _, rfl⟩
theorem Sat.slice {w : World} {e sz n : Nat} {v : Value} {xs : List Value} (h : Sat w0 M H w) (hc : Ck.ow v e sz n xs ∈ H) : ∃ a m c, v = .slice a m c := own_slice (h.mem hc)

theorem Sat.slice2 {w : World} {e sz n : Nat} {v : Value} {xs : List Value} (h : Sat w0 M H w) (hc : Ck.ow v e sz n xs ∈ H) : ∃ a c, v = .slice a n c := by
  have h1 : w.ownsRow 0 e sz v n xs := h.all _ hc
  rcases h1.2 with ⟨rfl, rfl, _⟩ | ⟨g, cap, cur, rfl, _⟩
  · exact ⟨_, _, rfl⟩
  · exact ⟨_, _, rfl⟩

theorem Sat.rdI {w : World} {t n : Nat} {v : Value} {l : List Int} (h : Sat w0 M H w) (hc : Ck.ow v t 1 n (ints l) ∈ H) (hn : n = l.length) : RdI w 0 w.heap.size v l := by
  subst hn
  exact RdI.of (own_rd (h.all _ hc))

end
end Go.Eng

/- The engine, part B13: changing an element of a slice of our own. -/
namespace Go.Eng
open Go Go.RowKit

section
variable {P : Program} {T : Tab}
variable {ro : Cx} {n : Nat} {F : Fin} {w0 : World} {M : Nat → Prop} {k : List It} {ops : Array Oper} {rest : List Oper} {e : Env} {H Hq : List Ck}

theorem own_some {w : World} {et sz m : Nat} {v : Value} {xs : List Value} (h : w.ownsRow 0 et sz v m xs) (hm : 0 < m) : ∃ g c, v = .slice (some ⟨g, 0, none⟩) m c := by
  rcases h.2 with ⟨rfl, rfl⟩ | ⟨g, cap, cur, rfl, _⟩
  · omega
  · exact ⟨_, _, rfl⟩
theorem Sat.ownSome {w : World} {et sz m : Nat} {v : Value} {xs : List Value} (h : Sat w0 M H w) (hc : Ck.ow v et sz m xs ∈ H) (hm : 0 < m) : ∃ g c, v = .slice (some ⟨g, 0, none⟩) m c := own_some (h.all _ hc) hm

end
end Go.Eng

/- The engine, part B14: a subtree of orders walked once for all the ways that lead there. -/
namespace Go.Eng
open Go Go.RowKit

section
variable {P : Program} {ro : Cx} {n : Nat} {F : Fin} {w0 : World} {M : Nat → Prop} {k : List It} {ops : Array Oper} {e : Env} {H Hq : List Ck}
theorem qt_let {σ : Type} (t : OT) {t0 : OT} (env : σ → Env) (pc : σ → List Ck) (main : ∀ s, QT P ro n F w0 M k ops Hq t (env s) (pc s))
    (use : (∀ s e' H', Sub (env s) e' → Sp H' (pc s) → QT P ro n F w0 M k ops Hq t e' H') → QT P ro n F w0 M k ops Hq t0 e H) : QT P ro n F w0 M k ops Hq t0 e H :=
  use (fun s _ _ he hH => ⟨fun w hs a hf hd => (main s).h w (hs.sp (Sp.app hH Hq)) a (hf.sub he) hd⟩)
end
end Go.Eng

/- The engine, part B15: comparisons that are decided at once. -/
namespace Go.Eng
open Go Go.RowKit

section
variable {P : Program} {T : Tab} {ro : Cx} {n : Nat} {F : Fin} {w0 : World} {M : Nat → Prop} {k : List It} {ops : Array Oper} {rest : List Oper} {e : Env} {H Hq : List Ck}
theorem bin_lssT {a b : Int} (h : a < b) : binV .lss .i64 a b = some (.bool true) := by simp [binV]; omega
theorem ql_lssT (hT : T.Ok P) {d : Nat} {t t' : Nat} {x y : Operand} {a b : Int} {ty : TypeId} {pos : String} {af : Array Edge} (hx : opv e x = some (.int .i64 a)) (hy : opv e y = some (.int .i64 b)) (hd : Nat.blt d n = true) (hp : a < b)
    (h : QL P ro n F w0 M k ops rest ((d, .bool true) :: e) H) : QL P ro n F w0 M k ops (⟨some d, .binOp .lss t x y t', ty, pos, af, none⟩ :: rest) e H := ql_pure hT ((evp_arith hx hy).trans (bin_lssT hp)) hd h
theorem bin_lssF {a b : Int} (h : ¬ a < b) : binV .lss .i64 a b = some (.bool false) := by simp [binV]; omega
theorem ql_lssF (hT : T.Ok P) {d : Nat} {t t' : Nat} {x y : Operand} {a b : Int} {ty : TypeId} {pos : String} {af : Array Edge} (hx : opv e x = some (.int .i64 a)) (hy : opv e y = some (.int .i64 b)) (hd : Nat.blt d n = true) (hp : ¬ a < b)
    (h : QL P ro n F w0 M k ops rest ((d, .bool false) :: e) H) : QL P ro n F w0 M k ops (⟨some d, .binOp .lss t x y t', ty, pos, af, none⟩ :: rest) e H := ql_pure hT ((evp_arith hx hy).trans (bin_lssF hp)) hd h
theorem qf_lssF (hT : T.Ok P) {d : Nat} {t t' : Nat} {x y : Operand} {a b : Int} {ty : TypeId} {pos : String} {af : Array Edge} (hx : opv e x = some (.int .i64 a)) (hy : opv e y = some (.int .i64 b)) (hd : Nat.blt d n = true) (hp : ¬ a < b)
    (h : QF P ro n F w0 M k ops Hq rest ((d, .bool false) :: e) H) : QF P ro n F w0 M k ops Hq (⟨some d, .binOp .lss t x y t', ty, pos, af, none⟩ :: rest) e H := qf_pure hT ((evp_arith hx hy).trans (bin_lssF hp)) rfl hd h
theorem bin_leqT {a b : Int} (h : a ≤ b) : binV .leq .i64 a b = some (.bool true) := by simp [binV]; omega
theorem ql_leqT (hT : T.Ok P) {d : Nat} {t t' : Nat} {x y : Operand} {a b : Int} {ty : TypeId} {pos : String} {af : Array Edge} (hx : opv e x = some (.int .i64 a)) (hy : opv e y = some (.int .i64 b)) (hd : Nat.blt d n = true) (hp : a ≤ b)
    (h : QL P ro n F w0 M k ops rest ((d, .bool true) :: e) H) : QL P ro n F w0 M k ops (⟨some d, .binOp .leq t x y t', ty, pos, af, none⟩ :: rest) e H := ql_pure hT ((evp_arith hx hy).trans (bin_leqT hp)) hd h
theorem bin_gtrT {a b : Int} (h : b < a) : binV .gtr .i64 a b = some (.bool true) := by simp [binV]; omega
theorem qf_gtrT (hT : T.Ok P) {d : Nat} {t t' : Nat} {x y : Operand} {a b : Int} {ty : TypeId} {pos : String} {af : Array Edge} (hx : opv e x = some (.int .i64 a)) (hy : opv e y = some (.int .i64 b)) (hd : Nat.blt d n = true) (hp : b < a)
    (h : QF P ro n F w0 M k ops Hq rest ((d, .bool true) :: e) H) : QF P ro n F w0 M k ops Hq (⟨some d, .binOp .gtr t x y t', ty, pos, af, none⟩ :: rest) e H := qf_pure hT ((evp_arith hx hy).trans (bin_gtrT hp)) rfl hd h
theorem bin_gtrF {a b : Int} (h : ¬ b < a) : binV .gtr .i64 a b = some (.bool false) := by simp [binV]; omega
theorem ql_gtrF (hT : T.Ok P) {d : Nat} {t t' : Nat} {x y : Operand} {a b : Int} {ty : TypeId} {pos : String} {af : Array Edge} (hx : opv e x = some (.int .i64 a)) (hy : opv e y = some (.int .i64 b)) (hd : Nat.blt d n = true) (hp : ¬ b < a)
    (h : QL P ro n F w0 M k ops rest ((d, .bool false) :: e) H) : QL P ro n F w0 M k ops (⟨some d, .binOp .gtr t x y t', ty, pos, af, none⟩ :: rest) e H := ql_pure hT ((evp_arith hx hy).trans (bin_gtrF hp)) hd h
theorem qf_gtrF (hT : T.Ok P) {d : Nat} {t t' : Nat} {x y : Operand} {a b : Int} {ty : TypeId} {pos : String} {af : Array Edge} (hx : opv e x = some (.int .i64 a)) (hy : opv e y = some (.int .i64 b)) (hd : Nat.blt d n = true) (hp : ¬ b < a)
    (h : QF P ro n F w0 M k ops Hq rest ((d, .bool false) :: e) H) : QF P ro n F w0 M k ops Hq (⟨some d, .binOp .gtr t x y t', ty, pos, af, none⟩ :: rest) e H := qf_pure hT ((evp_arith hx hy).trans (bin_gtrF hp)) rfl hd h
theorem bin_geqF {a b : Int} (h : ¬ b ≤ a) : binV .geq .i64 a b = some (.bool false) := by simp [binV]; omega
theorem ql_geqF (hT : T.Ok P) {d : Nat} {t t' : Nat} {x y : Operand} {a b : Int} {ty : TypeId} {pos : String} {af : Array Edge} (hx : opv e x = some (.int .i64 a)) (hy : opv e y = some (.int .i64 b)) (hd : Nat.blt d n = true) (hp : ¬ b ≤ a)
    (h : QL P ro n F w0 M k ops rest ((d, .bool false) :: e) H) : QL P ro n F w0 M k ops (⟨some d, .binOp .geq t x y t', ty, pos, af, none⟩ :: rest) e H := ql_pure hT ((evp_arith hx hy).trans (bin_geqF hp)) hd h
theorem bin_eqlT {a b : Int} (h : a = b) : binV .eql .i64 a b = some (.bool true) := by simp [binV]; omega
theorem ql_eqlT (hT : T.Ok P) {d : Nat} {t t' : Nat} {x y : Operand} {a b : Int} {ty : TypeId} {pos : String} {af : Array Edge} (hx : opv e x = some (.int .i64 a)) (hy : opv e y = some (.int .i64 b)) (hd : Nat.blt d n = true) (hp : a = b)
    (h : QL P ro n F w0 M k ops rest ((d, .bool true) :: e) H) : QL P ro n F w0 M k ops (⟨some d, .binOp .eql t x y t', ty, pos, af, none⟩ :: rest) e H := ql_pure hT ((evp_arith hx hy).trans (bin_eqlT hp)) hd h
theorem qf_eqlT (hT : T.Ok P) {d : Nat} {t t' : Nat} {x y : Operand} {a b : Int} {ty : TypeId} {pos : String} {af : Array Edge} (hx : opv e x = some (.int .i64 a)) (hy : opv e y = some (.int .i64 b)) (hd : Nat.blt d n = true) (hp : a = b)
    (h : QF P ro n F w0 M k ops Hq rest ((d, .bool true) :: e) H) : QF P ro n F w0 M k ops Hq (⟨some d, .binOp .eql t x y t', ty, pos, af, none⟩ :: rest) e H := qf_pure hT ((evp_arith hx hy).trans (bin_eqlT hp)) rfl hd h
theorem bin_eqlF {a b : Int} (h : a ≠ b) : binV .eql .i64 a b = some (.bool false) := by simp [binV]; omega
theorem ql_eqlF (hT : T.Ok P) {d : Nat} {t t' : Nat} {x y : Operand} {a b : Int} {ty : TypeId} {pos : String} {af : Array Edge} (hx : opv e x = some (.int .i64 a)) (hy : opv e y = some (.int .i64 b)) (hd : Nat.blt d n = true) (hp : a ≠ b)
    (h : QL P ro n F w0 M k ops rest ((d, .bool false) :: e) H) : QL P ro n F w0 M k ops (⟨some d, .binOp .eql t x y t', ty, pos, af, none⟩ :: rest) e H := ql_pure hT ((evp_arith hx hy).trans (bin_eqlF hp)) hd h
theorem bin_neqT {a b : Int} (h : a ≠ b) : binV .neq .i64 a b = some (.bool true) := by simp [binV]; omega
theorem ql_neqT (hT : T.Ok P) {d : Nat} {t t' : Nat} {x y : Operand} {a b : Int} {ty : TypeId} {pos : String} {af : Array Edge} (hx : opv e x = some (.int .i64 a)) (hy : opv e y = some (.int .i64 b)) (hd : Nat.blt d n = true) (hp : a ≠ b)
    (h : QL P ro n F w0 M k ops rest ((d, .bool true) :: e) H) : QL P ro n F w0 M k ops (⟨some d, .binOp .neq t x y t', ty, pos, af, none⟩ :: rest) e H := ql_pure hT ((evp_arith hx hy).trans (bin_neqT hp)) hd h
theorem bin_neqF {a b : Int} (h : a = b) : binV .neq .i64 a b = some (.bool false) := by simp [binV]; omega
theorem ql_neqF (hT : T.Ok P) {d : Nat} {t t' : Nat} {x y : Operand} {a b : Int} {ty : TypeId} {pos : String} {af : Array Edge} (hx : opv e x = some (.int .i64 a)) (hy : opv e y = some (.int .i64 b)) (hd : Nat.blt d n = true) (hp : a = b)
    (h : QL P ro n F w0 M k ops rest ((d, .bool false) :: e) H) : QL P ro n F w0 M k ops (⟨some d, .binOp .neq t x y t', ty, pos, af, none⟩ :: rest) e H := ql_pure hT ((evp_arith hx hy).trans (bin_neqF hp)) hd h
end
end Go.Eng

/- The engine, part B16: shifts, and the last bit. -/
namespace Go.Eng
open Go Go.RowKit

section
variable {P : Program} {ro : Cx} {n : Nat} {F : Fin} {w0 : World} {M : Nat → Prop} {k : List It} {ops : Array Oper} {rest : List Oper} {e : Env} {H Hq : List Ck}
theorem run_shl {a b : Int} (hb : 0 ≤ b ∧ b < 64) (h1 : -9223372036854775808 ≤ a * 2 ^ b.toNat) (h2 : a * 2 ^ b.toNat < 9223372036854775808) (w : World) : (Op.shift .shl .i64 a .i64 b).run P w = .ok (.int .i64 (a * 2 ^ b.toNat)) w := by
  have hm : min b.toNat IntKind.i64.bits = b.toNat := by simp [IntKind.bits]; omega
  simp only [Op.shift, if_neg (show ¬ b < 0 by omega), hm]
  rw [w64 h1 h2]
  rfl
theorem run_shr {a b : Int} (ha : 0 ≤ a) (hb : 0 ≤ b ∧ b < 64) (w : World) : (Op.shift .shr .i64 a .i64 b).run P w = .ok (.int .i64 (a / 2 ^ b.toNat)) w := by
  have hm : min b.toNat IntKind.i64.bits = b.toNat := by simp [IntKind.bits]; omega
  simp only [Op.shift, if_neg (show ¬ b < 0 by omega), hm]
  rw [Int.fdiv_eq_ediv_of_nonneg _ (by exact Int.le_of_lt (Int.pow_pos (by omega)))]
  rfl
theorem bit1 (m : Nat) (hm : m < 18446744073709551616) : (BitVec.ofInt 64 (m : Int) &&& BitVec.ofInt 64 1).toNat = m % 2 := by
  rw [BitVec.toNat_and]
  have h1 : (BitVec.ofInt 64 (m : Int)).toNat = m := by simp [BitVec.toNat_ofInt]; omega
  have h2 : (BitVec.ofInt 64 1).toNat = 1 := by decide
  rw [h1, h2, Nat.and_one_is_mod]
theorem run_and1 {a : Int} (ha : 0 ≤ a ∧ a < 9223372036854775808) (w : World) : (Op.intBits .and .i64 a 1).run P w = .ok (.int .i64 (a % 2)) w := by
  obtain ⟨m, rfl⟩ := Int.eq_ofNat_of_zero_le ha.1
  have h := bit1 m (by omega)
  have h3 : (BitVec.ofInt IntKind.i64.bits (m : Int) &&& BitVec.ofInt IntKind.i64.bits 1).toNat = m % 2 := h
  simp only [Op.intBits]
  rw [h3, w64 (by omega) (by omega)]
  have : ((m % 2 : Nat) : Int) = (m : Int) % 2 := by omega
  rw [this]
  rfl
theorem ql_shl {d t t' : Nat} {x y : Operand} {a b : Int} {ty : TypeId} {pos : String} {af : Array Edge} (hx : opv e x = some (.int .i64 a)) (hy : opv e y = some (.int .i64 b)) (hd : Nat.blt d n = true) (hb : 0 ≤ b ∧ b < 64) (h1 : -9223372036854775808 ≤ a * 2 ^ b.toNat) (h2 : a * 2 ^ b.toNat < 9223372036854775808)
    (h : QL P ro n F w0 M k ops rest ((d, .int .i64 (a * 2 ^ b.toNat)) :: e) H) : QL P ro n F w0 M k ops (⟨some d, .binOp .shl t x y t', ty, pos, af, none⟩ :: rest) e H := .mk fun w hw =>
  yl_val (by simp) hd (fun a' hf => by
    have e1 := hf.op hx
    have e2 := hf.op hy
    simp only [execOp, e1, e2]
    have := run_shl (P := P) hb h1 h2 w
    simp [eqGuard, binOp, this]
    exact w64 h1 h2) (h.h w hw)
theorem ql_shr {d t t' : Nat} {x y : Operand} {a b : Int} {ty : TypeId} {pos : String} {af : Array Edge} (hx : opv e x = some (.int .i64 a)) (hy : opv e y = some (.int .i64 b)) (hd : Nat.blt d n = true) (ha : 0 ≤ a) (hb : 0 ≤ b ∧ b < 64)
    (h : QL P ro n F w0 M k ops rest ((d, .int .i64 (a / 2 ^ b.toNat)) :: e) H) : QL P ro n F w0 M k ops (⟨some d, .binOp .shr t x y t', ty, pos, af, none⟩ :: rest) e H := .mk fun w hw =>
  yl_val (by simp) hd (fun a' hf => by
    have e1 := hf.op hx
    have e2 := hf.op hy
    simp only [execOp, e1, e2]
    have := run_shr (P := P) ha hb w
    simp [eqGuard, binOp, this]) (h.h w hw)
theorem ql_and1 {d t t' : Nat} {x y : Operand} {a : Int} {ty : TypeId} {pos : String} {af : Array Edge} (hx : opv e x = some (.int .i64 a)) (hy : opv e y = some (.int .i64 1)) (hd : Nat.blt d n = true) (ha : 0 ≤ a ∧ a < 9223372036854775808)
    (h : QL P ro n F w0 M k ops rest ((d, .int .i64 (a % 2)) :: e) H) : QL P ro n F w0 M k ops (⟨some d, .binOp .and t x y t', ty, pos, af, none⟩ :: rest) e H := .mk fun w hw =>
  yl_val (by simp) hd (fun a' hf => by
    have e1 := hf.op hx
    have e2 := hf.op hy
    simp only [execOp, e1, e2]
    have := run_and1 (P := P) ha w
    simp [eqGuard, binOp, this]) (h.h w hw)
end
end Go.Eng

/- Engine 2: a block of numbers with room behind them. -/
namespace Go.Eng
open Go Go.RowKit

section
variable {P : Program} {T : Tab} {ro : Cx} {n : Nat} {F : Fin} {w0 : World} {M : Nat → Prop} {k : List It} {ops : Array Oper} {rest : List Oper} {e : Env} {H Hq : List Ck}
end
end Go.Eng

/- Engine 2: a region that draws, with any marks. -/
namespace Go.Eng
open Go Go.RowKit

section
variable {P : Program} {ro : Cx} {n : Nat} {F : Fin} {w0 : World} {M : Nat → Prop} {k : List It} {ops : Array Oper} {l : List Oper} {e : Env} {H H1 H2 : List Ck} {bs : List Bool}
structure QB (P : Program) (ro : Cx) (n : Nat) (F : Fin) (w0 : World) (M : Nat → Prop) (k : List It) (ops : Array Oper) (H1 H2 : List Ck) (bs : List Bool) (l : List Oper) (e : Env) (H : List Ck) : Prop where
  h : ∀ w, Sat w0 M H w → YB P ro n F k ops (Sat w0 M H1) (Sat w0 M H2) bs l e w
theorem q_drawB {id : Nat} (bs : List Bool) (Hq2 Hm : List Ck) (hH : Sp H (Hm ++ Hq2)) (hm : P.follows .mixedOrders = true) (hB : flB l.toArray = true) (hbs : flagB l.toArray bs = true)
    (h : QB P ro n F w0 M k l.toArray H Hq2 bs l e H) : Q P ro n F w0 M (.code (.region id l.toArray true) :: k) e H := .mk fun w hs a hf hd => by
  have hs1 : Sat w0 M H { w with drawn := w.drawn + 1 } := hs.keep (Chg.drew (N := []) w)
  have h12 : ∀ w, Sat w0 M H w → Sat w0 M Hq2 w := fun w hw => (hw.sp hH).right
  refine wpIn_region_fl2 hm (flB_spec hB) (K := fun a w => S P ro.ro F k .normal a w) (Cq := flagC (Sat w0 M H) (Sat w0 M Hq2) bs) (Ce := flagC (Sat w0 M H) (Sat w0 M Hq2) bs)
    (fun i j oi oj => flagB_spec hbs h12 i j oi oj) (fun i => ?_) (fun _ _ h => h) ?_
  · unfold flagC
    cases bs.getD i false
    · exact h12 _ hs1
    · exact hs1
  · have h2 := wpFlB_eq (P := P) (ops := l.toArray) (C1 := Sat w0 M H) (C2 := Sat w0 M Hq2) (bs := bs) (K := fun a w => S P ro.ro F k .normal a w) l 0 (by simp)
    rw [show List.range l.toArray.size = List.range' 0 l.length from by simp [List.range_eq_range'], h2]
    exact h.h _ hs1 a hf hd
theorem qb_T (c : Nat) (hb : (bs.take c).all (fun x => x == true) = true) (hc : Nat.ble c bs.length = true) (hH : Sp H H1)
    (h : ∀ K1 : Act → World → Prop, (∀ e' H', QB P ro n F w0 M k ops H1 H2 (bs.drop c) (l.drop c) e' H' → Q P ro n F w0 M (.k K1 :: k) e' H') → QF P ro n F w0 M (.k K1 :: k) ops H1 (l.take c) e []) :
    QB P ro n F w0 M k ops H1 H2 bs l e H := .mk fun w hs => by
  refine yb_seg true c hb (Nat.le_of_ble_eq_true hc) (fun K1 hK1 => ?_)
  have h3 := h K1 (fun e' H' hq => .mk fun w' hw' a' hf' hd' => hK1 e' w' (hq.h w' hw') a' hf' hd')
  exact h3.h w (hs.sp hH)
theorem qb_F (c : Nat) (Hm : List Ck) (hb : (bs.take c).all (fun x => x == false) = true) (hc : Nat.ble c bs.length = true) (hH : Sp H (Hm ++ H2))
    (h : ∀ K1 : Act → World → Prop, (∀ e' H', QB P ro n F w0 M k ops H1 H2 (bs.drop c) (l.drop c) e' H' → Q P ro n F w0 M (.k K1 :: k) e' H') → QF P ro n F w0 M (.k K1 :: k) ops H2 (l.take c) e Hm) :
    QB P ro n F w0 M k ops H1 H2 bs l e H := .mk fun w hs => by
  refine yb_seg false c hb (Nat.le_of_ble_eq_true hc) (fun K1 hK1 => ?_)
  have h3 := h K1 (fun e' H' hq => .mk fun w' hw' a' hf' hd' => hK1 e' w' (hq.h w' hw') a' hf' hd')
  exact h3.h w (hs.sp hH)
theorem qb_nil {bs : List Bool} (h : Q P ro n F w0 M k e H) : QB P ro n F w0 M k ops H1 H2 bs [] e H := .mk fun w hs => yb_nil (h.h w hs)
end
end Go.Eng

/- Engine 2: changing an element of a slice of our own, in a region that draws. -/
namespace Go.Eng
open Go Go.RowKit

section
variable {P : Program} {T : Tab}
variable {ro : Cx} {n : Nat} {F : Fin} {w0 : World} {M : Nat → Prop} {k : List It} {ops : Array Oper} {rest : List Oper} {e : Env} {H Hq : List Ck}
theorem qf_storeW (hT : T.Ok P) {t : Nat} {x y : Operand} {g off m c et : Nat} {xs : List Value} {u : Value} {H' : List Ck} {ty : TypeId} {pos : String} {af : Array Edge} (i : Nat)
    (hx : opv e x = some (.pointer (some ⟨g, off, none⟩))) (hy : opv e y = some u) (h1 : has T.one t = true) (hv : oneV u = true)
    (hr : Rp H (.ow (.slice (some ⟨g, 0, none⟩) m c) et 1 m xs) (.ow (.slice (some ⟨g, 0, none⟩) m c) et 1 m (xs.set i u)) H') (ho : off = i) (hi : i < xs.length)
    (h : QF P ro n F w0 M k ops Hq rest e H') : QF P ro n F w0 M k ops Hq (⟨none, .store t x y, ty, pos, af, none⟩ :: rest) e H := .mk fun w hs => by
  subst ho
  obtain ⟨hl, h2⟩ : w.ownsRow 0 et 1 (.slice (some ⟨g, 0, none⟩) m c) m xs := hs.mem (hr.app Hq).mem
  rcases h2 with ⟨hv', _⟩ | ⟨g', cap, cur, hv', hg, hh, hnc, hcm, hcs, ht⟩
  · cases hv'
  cases hv'
  have hb : Blk w g cur.toList et := by simpa [Blk] using hh
  have hcl : off < cur.toList.length := by
    have := congrArg List.length ht
    simp at this
    simp
    omega
  refine yf_store1 hT hx hy h1 hv hb hcl (fun w' hc _ hb' => ?_)
  have hs' := hs.rep (hr.app Hq) hc (fun k hk => by
    obtain rfl : k = g := by simpa using hk
    rfl) (by
    refine ⟨by simpa using hl, .inr ⟨g, c, (cur.toList.set off u).toArray, rfl, hg, by simpa [Blk] using hb', hnc, hcm, by simpa using hcs, ?_⟩⟩
    simp only [List.toList_toArray]
    rw [List.take_set, ht]) (fun b hb2 => by
    have : b = g := by simpa [Ck.D, Value.ownBlock] using hb2.symm
    subst this
    exact ⟨.inl rfl, hb'.lt⟩)
  exact ⟨hs'.right, h.h w' hs'⟩
end
end Go.Eng

/- Engine, part B20: two Bools compared. -/
namespace Go.Eng
open Go Go.RowKit

section
variable {P : Program} {T : Tab} {ro : Cx} {n : Nat} {F : Fin} {w0 : World} {M : Nat → Prop} {k : List It} {ops : Array Oper} {rest : List Oper} {e : Env} {H Hq : List Ck}
def boolB (P : Program) (t : Nat) : Bool := match P.underlying t with | some .bool => true | _ => false
end
end Go.Eng

/- The engine, part B21: ranges over functions that hand out memory of their own. -/
namespace Go.Eng
open Go Go.RowKit

section
variable {P : Program} {T : Tab}
variable {ro : Cx} {n : Nat} {F : Fin} {k : List It} {ops : Array Oper} {rest : List Oper} {e : Env} {w0 : World} {M : Nat → Prop} {H Hq : List Ck}

/-- At the world w the function gf, with what it has captured, is an iterator over xs, whose elements are handed out with pieces of memory; the body changes nothing but what lies in D, and these pieces. -/
def ItOkP {α β : Type} (P : Program) (gf : Nat) (lb : List Value) (enc : α → List Value) (val : α → β) (pc : α → List Ck) (xs : List β) (w : World) (D : Nat → Prop) : Prop :=
  ∀ (fv : Value) (σ : Type) (L : σ → List Ck) (I : List β → σ → Prop) (E : σ → Prop) (s0 : σ), oneV fv = true → I [] s0 → (∀ b, DL (L s0) b → D b) → Sat w (DL (L s0)) (L s0) w →
    (∀ pre x post s w', xs = pre ++ val x :: post → I pre s → Sat w (DL (L s0)) (L s ++ pc x) w' → CaF P fv (enc x) w' (fun v w'' => ∃ s', ((v = .bool true ∧ I (pre ++ [val x]) s') ∨ (v = .bool false ∧ E s')) ∧ Sat w' (DL (L s ++ pc x)) (L s') w'')) →
    Ca P gf (fv :: lb) w (fun _ w' => ∃ s', (I xs s' ∨ E s') ∧ Sat w (DL (L s0)) (L s') w')

end
end Go.Eng

/- The engine, part B22: rows made, copied, cut at the front; append to a slice without room. -/
namespace Go.Eng
open Go Go.RowKit

section
variable {P : Program} {T : Tab} {ro : Cx} {n : Nat} {F : Fin} {w0 : World} {M : Nat → Prop} {k : List It} {ops : Array Oper} {rest : List Oper} {e : Env} {H Hq : List Ck}
end
end Go.Eng

/- The engine, part B23: a region that draws, with any marks, whose first part changes pieces too. -/
namespace Go.Eng
open Go Go.RowKit

section
variable {P : Program} {ro : Cx} {n : Nat} {F : Fin} {w0 : World} {M : Nat → Prop} {k : List It} {ops : Array Oper} {l : List Oper} {e : Env} {H H1 H2 : List Ck} {bs : List Bool}
end
end Go.Eng

/- The engine, part B24: a region that draws its order, in which some operations that act may stand in any order, and what is read may change later on. -/
namespace Go.Eng
open Go Go.RowKit

section
variable {P : Program} {ops : Array Oper} {Cq Ce : Nat → World → Prop} {K : Act → World → Prop}

def wpT2 (P : Program) (ops : Array Oper) (Cq Ce : Nat → World → Prop) (K : Act → World → Prop) : OT → Act → World → Prop
  | .nil, a, w => K a w
  | .op i t, a, w => match ops[i]? with
    | none => False
    | some o => if Region.wanted o (yielded ops a.tmps) = true then
        (if eff o.op = true then effStep P o a w (fun v w' => Ce i w' ∧ wpT2 P ops Cq Ce K t (a.put o.dst v) w')
         else ∃ v, (∀ w', Cq i w' → (execOp a.eval o).run P w' = .ok (.value v) w') ∧ wpT2 P ops Cq Ce K t (a.put o.dst v) w)
      else wpT2 P ops Cq Ce K t (a.put o.dst undef) w
  | .alt t u, a, w => wpT2 P ops Cq Ce K t a w ∧ wpT2 P ops Cq Ce K u a w
theorem swapT_quiet2 (hF : FlM ops) (hH : ∀ (i j : Nat) oi oj, ops[i]? = some oi → ops[j]? = some oj → eff oi.op = false → eff oj.op = true → ((masks ops.toList).getD j 0).testBit i = false → ∀ w, Ce j w → Cq i w) {j : Nat} {oj : Oper} (hj : ops[j]? = some oj) (hne : eff oj.op = false) : ∀ (t : OT) (rem : List Nat) (a : Act) (w : World), rem.Nodup → OkT ops t rem → j ∈ rem → (∀ i ∈ rem, ((masks ops.toList).getD j 0).testBit i = false) →
    Region.wanted oj (yielded ops a.tmps) = true → Cq j w → wpT2 P ops Cq Ce K t a w → ∃ v, (∀ w', Cq j w' → (execOp a.eval oj).run P w' = .ok (.value v) w') ∧ wpT2 P ops Cq Ce K (t.del j) (a.put oj.dst v) w
  | .nil, rem, a, w, hn, hok, hjr, hm, hw, hC, h => by
    have : rem = [] := hok
    subst this
    cases hjr
  | .alt t u, rem, a, w, hn, ⟨o1, o2⟩, hjr, hm, hw, hC, ⟨h1, h2⟩ => by
    obtain ⟨v, hv, h3⟩ := swapT_quiet2 hF hH hj hne t rem a w hn o1 hjr hm hw hC h1
    obtain ⟨v', hv', h4⟩ := swapT_quiet2 hF hH hj hne u rem a w hn o2 hjr hm hw hC h2
    have e1 := hv w hC
    have e2 := hv' w hC
    rw [e1] at e2
    have : v = v' := by simpa using e2
    subst this
    exact ⟨v, hv, h3, h4⟩
  | .op i t, rem, a, w, hn, ⟨⟨oi, hi, _⟩, hir, him, hok⟩, hjr, hm, hw, hC, h => by
    by_cases hij : i = j
    · subst hij
      rw [hj] at hi
      obtain rfl := Option.some.inj hi
      simp only [wpT2, hj, hw, if_true, hne, Bool.false_eq_true, if_false] at h
      simpa [OT.del] using h
    · have hji : j ∈ rem.erase i := (List.mem_erase_of_ne (fun h => hij h.symm)).2 hjr
      have ih' := fun a w => swapT_quiet2 hF hH hj hne t (rem.erase i) a w (hn.erase i) hok hji (fun b hb => hm b (List.mem_of_mem_erase hb))
      have hap := pair_apart hF hij hi hj (hm i hir) (him j hjr)
      obtain ⟨p1, p2, p3⟩ := Oper.apart_spec hap
      have kj := hF.kind j oj hj
      have ki := hF.kind i oi hi
      have ej : ∀ (a : Act) v, execOp (a.put oi.dst v).eval oj = execOp a.eval oj := fun a v => exec_put kj a oi.dst v p1
      have ei : ∀ (a : Act) v, execOp (a.put oj.dst v).eval oi = execOp a.eval oi := fun a v => exec_put ki a oj.dst v p3
      have wj : ∀ (a : Act) v, Region.wanted oj (yielded ops (a.put oi.dst v).tmps) = Region.wanted oj (yielded ops a.tmps) := fun a v => wanted_put oj a oi.dst v p1
      have wi : ∀ (a : Act) v, Region.wanted oi (yielded ops (a.put oj.dst v).tmps) = Region.wanted oi (yielded ops a.tmps) := fun a v => wanted_put oi a oj.dst v p3
      have cm : ∀ (a : Act) u v, (a.put oi.dst u).put oj.dst v = (a.put oj.dst v).put oi.dst u := fun a u v => Act.put_comm a u v p2
      have ed : (OT.op i t).del j = .op i (t.del j) := by simp [OT.del, hij]
      rw [ed]
      simp only [wpT2, hi] at h ⊢
      by_cases hwi : Region.wanted oi (yielded ops a.tmps) = true
      · simp only [hwi, if_true] at h
        by_cases he : eff oi.op = true
        · simp only [he, if_true] at h
          obtain ⟨v0, w0, hC0, h0⟩ := h.some
          obtain ⟨v, hv, _⟩ := ih' _ w0 (by rw [wj]; exact hw) (hH j i oj oi hj hi hne he (him j hjr) w0 hC0) h0
          simp only [ej] at hv
          refine ⟨v, hv, ?_⟩
          rw [wi]
          simp only [hwi, if_true, he]
          have h1 : effStep P oi (a.put oj.dst v) w (fun u w' => Ce i w' ∧ wpT2 P ops Cq Ce K t (a.put oi.dst u) w') := by
            unfold effStep at h ⊢
            rw [ei]
            exact h
          refine h1.mono fun u w' ⟨hC', h2⟩ => ⟨hC', ?_⟩
          obtain ⟨v', hv', h3⟩ := ih' _ w' (by rw [wj]; exact hw) (hH j i oj oi hj hi hne he (him j hjr) w' hC') h2
          simp only [ej] at hv'
          have e1 := hv w hC
          have e2 := hv' w hC
          rw [e1] at e2
          have : v = v' := by simpa using e2
          subst this
          rw [cm] at h3
          exact h3
        · simp only [he] at h
          obtain ⟨u, hu, h⟩ := h
          obtain ⟨v, hv, h3⟩ := ih' _ w (by rw [wj]; exact hw) hC h
          simp only [ej] at hv
          refine ⟨v, hv, ?_⟩
          rw [wi]
          simp only [hwi, if_true, he]
          refine ⟨u, fun w' hC' => by rw [ei]; exact hu w' hC', ?_⟩
          rw [cm] at h3
          exact h3
      · simp only [hwi] at h
        obtain ⟨v, hv, h3⟩ := ih' _ w (by rw [wj]; exact hw) hC h
        simp only [ej] at hv
        refine ⟨v, hv, ?_⟩
        rw [wi]
        simp only [hwi]
        rw [cm] at h3
        exact h3

theorem swapT_skip2 (hF : FlM ops) {j : Nat} {oj : Oper} (hj : ops[j]? = some oj) : ∀ (t : OT) (rem : List Nat) (a : Act) (w : World), rem.Nodup → OkT ops t rem → j ∈ rem → (∀ i ∈ rem, ((masks ops.toList).getD j 0).testBit i = false) →
    Region.wanted oj (yielded ops a.tmps) = false → wpT2 P ops Cq Ce K t a w → wpT2 P ops Cq Ce K (t.del j) (a.put oj.dst undef) w
  | .nil, rem, a, w, hn, hok, hjr, hm, hw, h => by
    have : rem = [] := hok
    subst this
    cases hjr
  | .alt t u, rem, a, w, hn, ⟨o1, o2⟩, hjr, hm, hw, ⟨h1, h2⟩ => ⟨swapT_skip2 hF hj t rem a w hn o1 hjr hm hw h1, swapT_skip2 hF hj u rem a w hn o2 hjr hm hw h2⟩
  | .op i t, rem, a, w, hn, ⟨⟨oi, hi, _⟩, hir, him, hok⟩, hjr, hm, hw, h => by
    by_cases hij : i = j
    · subst hij
      rw [hj] at hi
      obtain rfl := Option.some.inj hi
      simp only [wpT2, hj, hw, Bool.false_eq_true, if_false] at h
      simpa [OT.del] using h
    · have hji : j ∈ rem.erase i := (List.mem_erase_of_ne (fun h => hij h.symm)).2 hjr
      have ih' := fun a w => swapT_skip2 hF hj t (rem.erase i) a w (hn.erase i) hok hji (fun b hb => hm b (List.mem_of_mem_erase hb))
      have hap := pair_apart hF hij hi hj (hm i hir) (him j hjr)
      obtain ⟨p1, p2, p3⟩ := Oper.apart_spec hap
      have ki := hF.kind i oi hi
      have ei : ∀ (a : Act) v, execOp (a.put oj.dst v).eval oi = execOp a.eval oi := fun a v => exec_put ki a oj.dst v p3
      have wj : ∀ (a : Act) v, Region.wanted oj (yielded ops (a.put oi.dst v).tmps) = Region.wanted oj (yielded ops a.tmps) := fun a v => wanted_put oj a oi.dst v p1
      have wi : ∀ (a : Act) v, Region.wanted oi (yielded ops (a.put oj.dst v).tmps) = Region.wanted oi (yielded ops a.tmps) := fun a v => wanted_put oi a oj.dst v p3
      have cm : ∀ (a : Act) u v, (a.put oi.dst u).put oj.dst v = (a.put oj.dst v).put oi.dst u := fun a u v => Act.put_comm a u v p2
      have ed : (OT.op i t).del j = .op i (t.del j) := by simp [OT.del, hij]
      rw [ed]
      simp only [wpT2, hi] at h ⊢
      rw [wi]
      by_cases hwi : Region.wanted oi (yielded ops a.tmps) = true
      · simp only [hwi, if_true] at h ⊢
        by_cases he : eff oi.op = true
        · simp only [he, if_true] at h ⊢
          have h1 : effStep P oi (a.put oj.dst undef) w (fun u w' => Ce i w' ∧ wpT2 P ops Cq Ce K t (a.put oi.dst u) w') := by
            unfold effStep at h ⊢
            rw [ei]
            exact h
          refine h1.mono fun u w' ⟨hC', h2⟩ => ⟨hC', ?_⟩
          have h3 := ih' _ w' (by rw [wj]; exact hw) h2
          rw [cm] at h3
          exact h3
        · simp only [he] at h ⊢
          obtain ⟨u, hu, h⟩ := h
          have h3 := ih' _ w (by rw [wj]; exact hw) h
          refine ⟨u, fun w' hC' => by rw [ei]; exact hu w' hC', ?_⟩
          rw [cm] at h3
          exact h3
      · simp only [hwi] at h ⊢
        have h3 := ih' _ w (by rw [wj]; exact hw) h
        rw [cm] at h3
        exact h3

theorem swapT_eff2 (hF : FlM ops) {j : Nat} {oj : Oper} (hj : ops[j]? = some oj) (he : eff oj.op = true) : ∀ (t t' : OT) (rem : List Nat) (a : Act) (w : World), rem.Nodup → OkT ops t rem → j ∈ rem → (∀ i ∈ rem, ((masks ops.toList).getD j 0).testBit i = false) →
    Region.wanted oj (yielded ops a.tmps) = true → t.take ops j = some t' → wpT2 P ops Cq Ce K t a w → effStep P oj a w (fun v w' => Ce j w' ∧ wpT2 P ops Cq Ce K t' (a.put oj.dst v) w')
  | .nil, _, _, _, _, _, _, _, _, _, ht, _ => by simp [OT.take] at ht
  | .alt t u, t', rem, a, w, hn, ⟨o1, o2⟩, hjr, hm, hw, ht, ⟨h1, h2⟩ => by
    unfold OT.take at ht
    split at ht
    · rename_i x hx
      cases ht
      exact swapT_eff2 hF hj he t _ rem a w hn o1 hjr hm hw hx h1
    · exact swapT_eff2 hF hj he u t' rem a w hn o2 hjr hm hw ht h2
  | .op i t, t', rem, a, w, hn, ⟨⟨oi, hi, _⟩, hir, him, hok⟩, hjr, hm, hw, ht, h => by
    unfold OT.take at ht
    split at ht
    · rename_i hij
      subst hij
      cases ht
      rw [hj] at hi
      obtain rfl := Option.some.inj hi
      simp only [wpT2, hj, hw, if_true, he] at h
      exact h
    · rename_i hij
      split at ht
      · cases ht
      · rename_i hei0
        have hei : eff oi.op = false := by simpa [isEff, hi] using hei0
        cases hx : t.take ops j with
        | none => rw [hx] at ht; cases ht
        | some x =>
          rw [hx] at ht
          cases ht
          have hji : j ∈ rem.erase i := (List.mem_erase_of_ne (fun h => hij h.symm)).2 hjr
          have ih' := fun a w => swapT_eff2 hF hj he t x (rem.erase i) a w (hn.erase i) hok hji (fun b hb => hm b (List.mem_of_mem_erase hb))
          have hap := pair_apart hF hij hi hj (hm i hir) (him j hjr)
          obtain ⟨p1, p2, p3⟩ := Oper.apart_spec hap
          have kj := hF.kind j oj hj
          have ki := hF.kind i oi hi
          have ej : ∀ (a : Act) v, execOp (a.put oi.dst v).eval oj = execOp a.eval oj := fun a v => exec_put kj a oi.dst v p1
          have ei : ∀ (a : Act) v, execOp (a.put oj.dst v).eval oi = execOp a.eval oi := fun a v => exec_put ki a oj.dst v p3
          have wj : ∀ (a : Act) v, Region.wanted oj (yielded ops (a.put oi.dst v).tmps) = Region.wanted oj (yielded ops a.tmps) := fun a v => wanted_put oj a oi.dst v p1
          have wi : ∀ (a : Act) v, Region.wanted oi (yielded ops (a.put oj.dst v).tmps) = Region.wanted oi (yielded ops a.tmps) := fun a v => wanted_put oi a oj.dst v p3
          have cm : ∀ (a : Act) u v, (a.put oi.dst u).put oj.dst v = (a.put oj.dst v).put oi.dst u := fun a u v => Act.put_comm a u v p2
          simp only [wpT2, hi] at h
          by_cases hwi : Region.wanted oi (yielded ops a.tmps) = true
          · simp only [hwi, if_true, hei, Bool.false_eq_true, if_false] at h
            obtain ⟨u, hu, h⟩ := h
            have h3 := ih' _ w (by rw [wj]; exact hw) hx h
            have h4 : effStep P oj a w (fun v w' => Ce j w' ∧ wpT2 P ops Cq Ce K x ((a.put oi.dst u).put oj.dst v) w') := by
              unfold effStep at h3 ⊢
              rw [ej] at h3
              exact h3
            refine h4.mono fun v w' ⟨hC', h5⟩ => ⟨hC', ?_⟩
            simp only [wpT2, hi]
            rw [wi]
            simp only [hwi, if_true, hei, Bool.false_eq_true, if_false]
            refine ⟨u, fun w' hC' => by rw [ei]; exact hu w' hC', ?_⟩
            rw [cm] at h5
            exact h5
          · simp only [hwi, Bool.false_eq_true, if_false] at h
            have h3 := ih' _ w (by rw [wj]; exact hw) hx h
            have h4 : effStep P oj a w (fun v w' => Ce j w' ∧ wpT2 P ops Cq Ce K x ((a.put oi.dst undef).put oj.dst v) w') := by
              unfold effStep at h3 ⊢
              rw [ej] at h3
              exact h3
            refine h4.mono fun v w' ⟨hC', h5⟩ => ⟨hC', ?_⟩
            simp only [wpT2, hi]
            rw [wi]
            simp only [hwi, Bool.false_eq_true, if_false]
            rw [cm] at h5
            exact h5

/-- An operation that is left out: the orders in which it stands first, without it. -/
theorem swapT_skipE2 (hF : FlM ops) {j : Nat} {oj : Oper} (hj : ops[j]? = some oj) : ∀ (t t' : OT) (rem : List Nat) (a : Act) (w : World), rem.Nodup → OkT ops t rem → j ∈ rem → (∀ i ∈ rem, ((masks ops.toList).getD j 0).testBit i = false) →
    Region.wanted oj (yielded ops a.tmps) = false → t.take ops j = some t' → wpT2 P ops Cq Ce K t a w → wpT2 P ops Cq Ce K t' (a.put oj.dst undef) w
  | .nil, _, _, _, _, _, _, _, _, _, ht, _ => by simp [OT.take] at ht
  | .alt t u, t', rem, a, w, hn, ⟨o1, o2⟩, hjr, hm, hw, ht, ⟨h1, h2⟩ => by
    unfold OT.take at ht
    split at ht
    · rename_i x hx
      cases ht
      exact swapT_skipE2 hF hj t _ rem a w hn o1 hjr hm hw hx h1
    · exact swapT_skipE2 hF hj u t' rem a w hn o2 hjr hm hw ht h2
  | .op i t, t', rem, a, w, hn, ⟨⟨oi, hi, _⟩, hir, him, hok⟩, hjr, hm, hw, ht, h => by
    unfold OT.take at ht
    split at ht
    · rename_i hij
      subst hij
      cases ht
      rw [hj] at hi
      obtain rfl := Option.some.inj hi
      simp only [wpT2, hj, hw, Bool.false_eq_true, if_false] at h
      exact h
    · rename_i hij
      split at ht
      · cases ht
      · rename_i hei0
        have hei : eff oi.op = false := by simpa [isEff, hi] using hei0
        cases hx : t.take ops j with
        | none => rw [hx] at ht; cases ht
        | some x =>
          rw [hx] at ht
          cases ht
          have hji : j ∈ rem.erase i := (List.mem_erase_of_ne (fun h => hij h.symm)).2 hjr
          have ih' := fun a w => swapT_skipE2 hF hj t x (rem.erase i) a w (hn.erase i) hok hji (fun b hb => hm b (List.mem_of_mem_erase hb))
          have hap := pair_apart hF hij hi hj (hm i hir) (him j hjr)
          obtain ⟨p1, p2, p3⟩ := Oper.apart_spec hap
          have ki := hF.kind i oi hi
          have ei : ∀ (a : Act) v, execOp (a.put oj.dst v).eval oi = execOp a.eval oi := fun a v => exec_put ki a oj.dst v p3
          have wj : ∀ (a : Act) v, Region.wanted oj (yielded ops (a.put oi.dst v).tmps) = Region.wanted oj (yielded ops a.tmps) := fun a v => wanted_put oj a oi.dst v p1
          have wi : ∀ (a : Act) v, Region.wanted oi (yielded ops (a.put oj.dst v).tmps) = Region.wanted oi (yielded ops a.tmps) := fun a v => wanted_put oi a oj.dst v p3
          have cm : ∀ (a : Act) u v, (a.put oi.dst u).put oj.dst v = (a.put oj.dst v).put oi.dst u := fun a u v => Act.put_comm a u v p2
          simp only [wpT2, hi] at h ⊢
          rw [wi]
          by_cases hwi : Region.wanted oi (yielded ops a.tmps) = true
          · simp only [hwi, if_true, hei, Bool.false_eq_true, if_false] at h ⊢
            obtain ⟨u, hu, h⟩ := h
            have h3 := ih' _ w (by rw [wj]; exact hw) hx h
            refine ⟨u, fun w' hC' => by rw [ei]; exact hu w' hC', ?_⟩
            rw [cm] at h3
            exact h3
          · simp only [hwi, Bool.false_eq_true, if_false] at h ⊢
            have h3 := ih' _ w (by rw [wj]; exact hw) hx h
            rw [cm] at h3
            exact h3

theorem okT_end2 : ∀ (t : OT) (a : Act) (w : World), OkT ops t [] → wpT2 P ops Cq Ce K t a w → K a w
  | .nil, _, _, _, h => h
  | .op i t, _, _, ⟨_, h2, _⟩, _ => by cases h2
  | .alt t _, a, w, ⟨h1, _⟩, ⟨h2, _⟩ => okT_end2 t a w h1 h2
variable {ro : Cx} {Q : Fin}
theorem any_of_T2 (hF : FlM ops) (hH : ∀ (i j : Nat) oi oj, ops[i]? = some oi → ops[j]? = some oj → eff oi.op = false → eff oj.op = true → ((masks ops.toList).getD j 0).testBit i = false → ∀ w, Ce j w → Cq i w) (hK : ∀ a w, K a w → Q .normal a w) : ∀ (fuel m : Nat) (t : OT) (rem : List Nat) (listed : Array Bool) (a : Act) (w : World),
    rem.length = fuel → rem.Nodup → listed.size = ops.size → (∀ i, i ∈ rem ↔ i < ops.size ∧ listed.getD i true = false) →
    (∀ (m : Nat) o, ops[m]? = some o → listed.getD m false = true → ∀ e ∈ o.after, Region.binds .any e = true → listed.getD e.on false = true) →
    OkT ops t rem → covT ops (masks ops.toList) m t = true → (∀ i ∈ rem, ∀ o, ops[i]? = some o → eff o.op = false → Cq i w) → wpT2 P ops Cq Ce K t a w → wpAnyIn (FR ro.ro) 0 P .any ops Q fuel listed a w := by
  intro fuel
  induction fuel with
  | zero =>
    intro m t rem listed a w hl hn hsz hmem hcl hok hcov hC h
    have : rem = [] := by simpa using hl
    subst this
    refine ⟨?_, hK _ _ (okT_end2 t a w hok h)⟩
    refine List.eq_nil_iff_forall_not_mem.2 fun i hi => ?_
    obtain ⟨h0, o, ho, _⟩ := mem_ready.1 hi
    exact absurd ((hmem i).2 ⟨(Array.getElem?_eq_some_iff.1 ho).1, h0⟩) (by simp)
  | succ fuel ih =>
    intro m t rem listed a w hl hn hsz hmem hcl hok hcov hC h
    have hlist : ∀ x, x < ops.size → x ∉ rem → listed.getD x false = true := by
      intro x hx hr
      have h3 : ¬ (x < ops.size ∧ listed.getD x true = false) := fun hx => hr ((hmem x).2 hx)
      have h4 : x < listed.size := by omega
      simp only [Array.getD_eq_getD_getElem?, Array.getElem?_eq_getElem h4, Option.getD_some] at h3 ⊢
      cases hc : listed[x] with
      | true => rfl
      | false => exact absurd ⟨hx, hc⟩ h3
    have hunl : ∀ x, listed.getD x false = true → x ∉ rem := by
      intro x hx hr
      have h0 := ((hmem x).1 hr).2
      simp only [Array.getD_eq_getD_getElem?] at hx h0
      cases hc : listed[x]? <;> simp [hc] at hx h0
      simp [hx] at h0
    refine ⟨fun h0 => ?_, fun j hj => ?_⟩
    · exfalso
      obtain ⟨i, hir, o, ho, hd⟩ := okT_first t rem hok (by rintro rfl; simp at hl)
      have hrd : i ∈ Region.ready .any ops listed := by
        refine mem_ready.2 ⟨((hmem i).1 hir).2, o, ho, fun e he hb => ?_⟩
        by_cases hes : e.on < ops.size
        · exact hlist _ hes (hd e he hb)
        · exact (hF.edge i o ho e he hb hes).elim
      rw [h0] at hrd
      cases hrd
    · obtain ⟨h0, oj, hoj, hre⟩ := mem_ready.1 hj
      have hjr : j ∈ rem := (hmem j).2 ⟨(Array.getElem?_eq_some_iff.1 hoj).1, h0⟩
      have hun : ∀ i ∈ rem, ((masks ops.toList).getD j 0).testBit i = false := fun i hi => by
        cases hb : ((masks ops.toList).getD j 0).testBit i with
        | false => rfl
        | true => exact absurd hi (hunl i (masks_spec (D := fun m => listed.getD m false = true) (fun m o hm hD e he hb => hcl m o hm hD e he hb) j oj hoj (fun e he hb => hre e he hb) i hb))
      have next : ∀ m (t' : OT) a w, OkT ops t' (rem.erase j) → covT ops (masks ops.toList) m t' = true → (∀ i ∈ rem.erase j, ∀ o, ops[i]? = some o → eff o.op = false → Cq i w) → wpT2 P ops Cq Ce K t' a w → wpAnyIn (FR ro.ro) 0 P .any ops Q fuel (listed.setIfInBounds j true) a w := by
        intro m t' a w hok hcov hC h
        refine ih m t' (rem.erase j) _ a w ?_ (hn.erase j) (by simp [hsz]) ?_ ?_ hok hcov hC h
        · rw [List.length_erase_of_mem hjr]; omega
        · intro i
          constructor
          · intro hi
            have hne : j ≠ i := fun e => by subst e; exact absurd hi (hn.not_mem_erase)
            have h1 := (hmem i).1 (List.mem_of_mem_erase hi)
            exact ⟨h1.1, by rw [getD_set_ne true hne]; exact h1.2⟩
          · rintro ⟨h1, h2⟩
            have hne : j ≠ i := fun e => by
              subst e
              simp [hsz, h1] at h2
            rw [getD_set_ne true hne] at h2
            exact (List.mem_erase_of_ne (fun h => hne h.symm)).2 ((hmem i).2 ⟨h1, h2⟩)
        · intro m o hm hD e he hb
          by_cases hmj : j = m
          · subst hmj
            rw [hoj] at hm
            obtain rfl := Option.some.inj hm
            exact getD_set_true (hre e he hb)
          · rw [getD_set_ne false hmj] at hD
            exact getD_set_true (hcl m o hm hD e he hb)
      unfold wpOpIn
      simp only [hoj]
      by_cases hw : Region.wanted oj (yielded ops a.tmps) = true
      · simp only [hw, if_true]
        cases he : eff oj.op with
        | true =>
          have hej : isEff ops j = true := by simp [isEff, hoj, he]
          have hje := (effs_rem t rem hok).2 j hjr hej
          cases m with
          | zero =>
            simp only [covT, List.isEmpty_iff] at hcov
            rw [hcov] at hje
            cases hje
          | succ m =>
            simp only [covT, List.all_eq_true] at hcov
            have h1 := hcov j hje
            rw [Bool.or_eq_true] at h1
            rcases h1 with h1 | h1
            · obtain ⟨i, hi, hb⟩ := List.any_eq_true.1 h1
              rw [hun i ((effs_rem t rem hok).1 i hi)] at hb
              cases hb
            · cases hx : t.take ops j with
              | none => rw [hx] at h1; cases h1
              | some x =>
                rw [hx] at h1
                have h2 := swapT_eff2 hF hoj he t x rem a w hn hok hjr hun hw hx h
                exact effStep.wpIn (hF.kind j oj hoj) (h2.mono fun v w' ⟨hC', h3⟩ => next m x _ _ (take_ok t x rem hn hok hjr hx) h1 (fun i hi o ho hq => hH i j o oj ho hoj hq he (hun i (List.mem_of_mem_erase hi)) w' hC') h3)
        | false =>
          have hej : isEff ops j = false := by simp [isEff, hoj, he]
          obtain ⟨v, hv, h2⟩ := swapT_quiet2 hF hH hoj he t rem a w hn hok hjr hun hw (hC j hjr oj hoj he) h
          exact upon_FR (fun c hc => by have := hF.kind j oj hoj; rw [hc] at this; cases this) (hv w (hC j hjr oj hoj he)) (next m _ _ _ (del_ok t rem hn hok hjr) (cov_del hej _ m t hcov) (fun i hi => hC i (List.mem_of_mem_erase hi)) h2)
      · have hw' : Region.wanted oj (yielded ops a.tmps) = false := by simpa using hw
        simp only [hw', Bool.false_eq_true, if_false]
        cases he : eff oj.op with
        | false =>
          have hej : isEff ops j = false := by simp [isEff, hoj, he]
          exact ⟨fun f _ => fr_fn f, next m _ _ _ (del_ok t rem hn hok hjr) (cov_del hej _ m t hcov) (fun i hi => hC i (List.mem_of_mem_erase hi)) (swapT_skip2 hF hoj t rem a w hn hok hjr hun hw' h)⟩
        | true =>
          have hej : isEff ops j = true := by simp [isEff, hoj, he]
          have hje := (effs_rem t rem hok).2 j hjr hej
          cases m with
          | zero =>
            simp only [covT, List.isEmpty_iff] at hcov
            rw [hcov] at hje
            cases hje
          | succ m =>
            simp only [covT, List.all_eq_true] at hcov
            have h1 := hcov j hje
            rw [Bool.or_eq_true] at h1
            rcases h1 with h1 | h1
            · obtain ⟨i, hi, hb⟩ := List.any_eq_true.1 h1
              rw [hun i ((effs_rem t rem hok).1 i hi)] at hb
              cases hb
            · cases hx : t.take ops j with
              | none => rw [hx] at h1; cases h1
              | some x =>
                rw [hx] at h1
                exact ⟨fun f _ => fr_fn f, next m _ _ _ (take_ok t x rem hn hok hjr hx) h1 (fun i hi => hC i (List.mem_of_mem_erase hi)) (swapT_skipE2 hF hoj t x rem a w hn hok hjr hun hw' hx h)⟩

theorem wpIn_region_T2 {id : Nat} {a : Act} {w : World} (t : OT) (hm : P.follows .mixedOrders = true) (hB : treeB ops t = true) (hH : ∀ (i j : Nat) oi oj, ops[i]? = some oi → ops[j]? = some oj → eff oi.op = false → eff oj.op = true → ((masks ops.toList).getD j 0).testBit i = false → ∀ w, Ce j w → Cq i w) (hC : ∀ i, Cq i { w with drawn := w.drawn + 1 })
    (hK : ∀ a w, K a w → Q .normal a w) (h : wpT2 P ops Cq Ce K t a { w with drawn := w.drawn + 1 }) : (Code.region id ops true).wpIn (FR ro.ro) 0 P Q a w := by
  simp only [treeB, Bool.and_eq_true] at hB
  obtain ⟨⟨h1, h2⟩, h3⟩ := hB
  refine wpIn_region_any hm (any_of_T2 (pairsB_spec h1) hH hK ops.size ops.size t (List.range ops.size) _ a _ (by simp) List.nodup_range (by simp) ?_ ?_ (okT_spec t _ h2) h3 (fun i _ _ _ _ => hC i) h)
  · intro i
    simp only [List.mem_range]
    constructor
    · intro hi
      exact ⟨hi, by simp [hi]⟩
    · exact fun hi => hi.1
  · intro m o _ hD
    simp only [Array.getD_eq_getD_getElem?, Array.getElem?_replicate] at hD
    split at hD <;> simp at hD
end
end Go.Eng

/- The engine, part B25: walks of a region by a tree of orders, in two parts: what the first part reads may change in the second. -/
namespace Go.Eng
open Go Go.RowKit

section
variable {P : Program} {ro : Cx} {n : Nat} {F : Fin} {w0 : World} {M : Nat → Prop} {k : List It} {ops : Array Oper} {e : Env} {H H1 H2 : List Ck} {bs : List Bool}
structure QX (P : Program) (ro : Cx) (n : Nat) (F : Fin) (w0 : World) (M : Nat → Prop) (k : List It) (ops : Array Oper) (H1 H2 : List Ck) (bs : List Bool) (t : OT) (e : Env) (H : List Ck) : Prop where
  h : ∀ w, Sat w0 M H w → ∀ a, Fits n e a → a.defers = ro.ds → wpT2 P ops (flagC (Sat w0 M H1) (Sat w0 M H2) bs) (flagC (Sat w0 M H1) (Sat w0 M H2) bs) (fun a w => S P ro.ro F k .normal a w) t a w
theorem q_drawX {id : Nat} {l : List Oper} (t : OT) (bs : List Bool) (Hq1 Hm1 Hq2 Hm2 : List Ck) (hH1 : Sp H (Hm1 ++ Hq1)) (hH2 : Sp Hq1 (Hm2 ++ Hq2)) (hm : P.follows .mixedOrders = true) (hB : treeB l.toArray t = true) (hbs : flagB l.toArray bs = true)
    (h : QX P ro n F w0 M k l.toArray Hq1 Hq2 bs t e H) : Q P ro n F w0 M (.code (.region id l.toArray true) :: k) e H := .mk fun w hs a hf hd => by
  have hs0 : Sat w0 M H { w with drawn := w.drawn + 1 } := hs.keep (Chg.drew (N := []) w)
  have hs1 : Sat w0 M Hq1 { w with drawn := w.drawn + 1 } := (hs0.sp hH1).right
  have h12 : ∀ w, Sat w0 M Hq1 w → Sat w0 M Hq2 w := fun w hw => (hw.sp hH2).right
  refine wpIn_region_T2 t hm hB (Cq := flagC (Sat w0 M Hq1) (Sat w0 M Hq2) bs) (Ce := flagC (Sat w0 M Hq1) (Sat w0 M Hq2) bs) (fun i j oi oj hi hj hei hej hmk w hC => flagB_spec hbs h12 i j oi oj hi hj hei hej (.inr hmk) w hC) (fun i => ?_) (fun _ _ h => h) (h.h _ hs0 a hf hd)
  unfold flagC
  cases bs.getD i false
  · exact h12 _ hs1
  · exact hs1
theorem qx_nil (h : Q P ro n F w0 M k e H) : QX P ro n F w0 M k ops H1 H2 bs .nil e H := ⟨fun w hs a hf hd => h.h w hs a hf hd⟩
theorem qx_alt {t u : OT} (h1 : QX P ro n F w0 M k ops H1 H2 bs t e H) (h2 : QX P ro n F w0 M k ops H1 H2 bs u e H) : QX P ro n F w0 M k ops H1 H2 bs (.alt t u) e H :=
  ⟨fun w hs a hf hd => ⟨h1.h w hs a hf hd, h2.h w hs a hf hd⟩⟩
theorem wpT2_chain {C1 C2 : World → Prop} {b : Bool} {K : Act → World → Prop} {t : OT} : ∀ (l : List Nat) (lo : List Oper) (a : Act) (w : World), l.map (fun i => ops[i]?) = lo.map some → l.all (fun i => bs.getD i false == b) = true →
    wpFlL P ops (bif b then C1 else C2) (wpT2 P ops (flagC C1 C2 bs) (flagC C1 C2 bs) K t) lo a w → wpT2 P ops (flagC C1 C2 bs) (flagC C1 C2 bs) K (chainT l t) a w
  | [], [], a, w, _, _, h => h
  | [], _ :: _, _, _, hl, _, _ => by cases hl
  | _ :: _, [], _, _, hl, _, _ => by cases hl
  | i :: l, o :: lo, a, w, hl, hb, h => by
    simp only [List.map_cons, List.cons.injEq] at hl
    simp only [List.all_cons, Bool.and_eq_true, beq_iff_eq] at hb
    have ih : ∀ a w, wpFlL P ops (bif b then C1 else C2) (wpT2 P ops (flagC C1 C2 bs) (flagC C1 C2 bs) K t) lo a w → wpT2 P ops (flagC C1 C2 bs) (flagC C1 C2 bs) K (chainT l t) a w := fun a w => wpT2_chain l lo a w hl.2 hb.2
    have hC : flagC C1 C2 bs i = (bif b then C1 else C2) := by
      funext w
      unfold flagC
      rw [hb.1]
      cases b <;> rfl
    simp only [chainT, wpT2, hl.1, hC]
    simp only [wpFlL] at h
    split
    · rename_i hw
      rw [if_pos hw] at h
      split
      · rename_i he
        rw [if_pos he] at h
        exact h.mono fun v w' ⟨hC, h2⟩ => ⟨hC, ih _ _ h2⟩
      · rename_i he
        rw [if_neg he] at h
        obtain ⟨v, hv, h2⟩ := h
        exact ⟨v, hv, ih _ _ h2⟩
    · rename_i hw
      rw [if_neg hw] at h
      exact ih _ _ h
/-- A piece of the first part; of the second one. -/
theorem qx_T {l : List Nat} {lo : List Oper} {t : OT} (Hm : List Ck) (hl : PickL ops l lo) (hb : l.all (fun i => bs.getD i false == true) = true) (hH : Sp H (Hm ++ H1))
    (h : ∀ K1 : Act → World → Prop, (∀ e' H', QX P ro n F w0 M k ops H1 H2 bs t e' H' → Q P ro n F w0 M (.k K1 :: k) e' H') → QF P ro n F w0 M (.k K1 :: k) ops H1 lo e Hm) : QX P ro n F w0 M k ops H1 H2 bs (chainT l t) e H :=
  ⟨fun w hs a hf hd => by
    have h1 := h (wpT2 P ops (flagC (Sat w0 M H1) (Sat w0 M H2) bs) (flagC (Sat w0 M H1) (Sat w0 M H2) bs) (fun a w => S P ro.ro F k .normal a w) t) (fun e' H' hq => .mk fun w' hs' a' hf' hd' => hq.h w' hs' a' hf' hd')
    exact wpT2_chain (b := true) l lo a w hl.map hb (h1.h w (hs.sp hH) a hf hd)⟩
theorem qx_F {l : List Nat} {lo : List Oper} {t : OT} (Hm : List Ck) (hl : PickL ops l lo) (hb : l.all (fun i => bs.getD i false == false) = true) (hH : Sp H (Hm ++ H2))
    (h : ∀ K1 : Act → World → Prop, (∀ e' H', QX P ro n F w0 M k ops H1 H2 bs t e' H' → Q P ro n F w0 M (.k K1 :: k) e' H') → QF P ro n F w0 M (.k K1 :: k) ops H2 lo e Hm) : QX P ro n F w0 M k ops H1 H2 bs (chainT l t) e H :=
  ⟨fun w hs a hf hd => by
    have h1 := h (wpT2 P ops (flagC (Sat w0 M H1) (Sat w0 M H2) bs) (flagC (Sat w0 M H1) (Sat w0 M H2) bs) (fun a w => S P ro.ro F k .normal a w) t) (fun e' H' hq => .mk fun w' hs' a' hf' hd' => hq.h w' hs' a' hf' hd')
    exact wpT2_chain (b := false) l lo a w hl.map hb (h1.h w (hs.sp hH) a hf hd)⟩
/-- What is shared by several orders. -/
theorem qx_let {σ : Type} (t : OT) {t0 : OT} (env : σ → Env) (pc : σ → List Ck) (main : ∀ s, QX P ro n F w0 M k ops H1 H2 bs t (env s) (pc s))
    (use : (∀ s e' H', Sub (env s) e' → Sp H' (pc s) → QX P ro n F w0 M k ops H1 H2 bs t e' H') → QX P ro n F w0 M k ops H1 H2 bs t0 e H) : QX P ro n F w0 M k ops H1 H2 bs t0 e H :=
  use (fun s _ _ he hH => ⟨fun w hs a hf hd => (main s).h w (hs.sp hH) a (hf.sub he) hd⟩)
end
end Go.Eng

/- The engine, part B26: arrays of Bools compared. -/
namespace Go.Eng
open Go Go.RowKit

section
variable {P : Program}
def eqBL : List Bool → List Bool → Bool
  | a :: l, b :: m => (a == b) && eqBL l m
  | _, _ => true
def arrQB (P : Program) (t n e : Nat) : Bool :=
  !(P.eqGuardType P.depth t) && oneB P e && Nat.beq (P.cellsOf e) 1 && (P.info? e).isSome && (match P.underlying t with | some (.array n' e') => Nat.beq n' n && Nat.beq e' e | _ => false) && (match P.underlying e with | some .bool => true | _ => false)
variable {ro : Cx} {n : Nat} {F : Fin} {w0 : World} {M : Nat → Prop} {k : List It} {ops : Array Oper} {rest : List Oper} {e : Env} {H Hq : List Ck}
theorem qf_stA {T : Tab} (cs' : List Value) (hT : T.Ok P) {t m : Nat} {x y : Operand} {b off : Nat} {cs us : List Value} {bt : TypeId} {H' : List Ck} {ty : TypeId} {pos : String} {af : Array Edge}
    (hx : opv e x = some (.pointer (some ⟨b, off, none⟩))) (hy : opv e y = some (.agg us.toArray)) (h1 : find1 T.agg t = some m) (hm : us.length = m) (h1v : (us.all oneV) = true) (hr : Rp H (.pt b cs bt) (.pt b cs' bt) H') (he : setL cs off us = cs') (hl : Nat.ble (off + m) cs.length = true)
    (h : QF P ro n F w0 M k ops Hq rest e H') : QF P ro n F w0 M k ops Hq (⟨none, .store t x y, ty, pos, af, none⟩ :: rest) e H := by
  subst he
  exact qf_storeA hT hx hy h1 hm (List.all_eq_true.1 h1v) hr (Nat.le_of_ble_eq_true hl) h
end
end Go.Eng

/- The engine, part B27: structs of flat structs compared. -/
namespace Go.Eng
open Go Go.RowKit

section
variable {P : Program}
def nestF (P : Program) : Nat → List Field → List (List (Option IntKind)) → Bool
  | _, [], [] => true
  | o, f :: fs, k :: ks => !(f.name == "_") && Nat.beq f.offset o && flatB P f.type k && Nat.beq (P.cellsOf f.type) k.length && (P.info? f.type).isSome && nestF P (o + k.length) fs ks
  | _, _, _ => false
def nestB (P : Program) (t : Nat) (ks : List (List (Option IntKind))) : Bool :=
  !(P.stoodInHeld t) && !(P.eqGuardType P.depth t) && (match P.underlying t with | some (.struct fs) => nestF P 0 fs.toList ks | _ => false)
variable {ro : Cx} {n : Nat} {F : Fin} {w0 : World} {M : Nat → Prop} {k : List It} {ops : Array Oper} {rest : List Oper} {e : Env} {H Hq : List Ck}
end
end Go.Eng

/- The engine, part B28: a byte of a string. -/
namespace Go.Eng
open Go Go.RowKit

section
variable {P : Program} {T : Tab}
variable {ro : Cx} {n : Nat} {F : Fin} {w0 : World} {M : Nat → Prop} {k : List It} {ops : Array Oper} {rest : List Oper} {e : Env} {H Hq : List Ck}
end
end Go.Eng

/- Lists that can be read: of lists, of spans, of runs. -/
namespace Go.Proofs.Ytllldihodgdcjaa
open Go Go.Eng

/-- A pair of numbers as a value. -/
abbrev rtV (q : Int × Int) : Value := .agg #[.int .i64 q.1, .int .i64 q.2]
abbrev rnV (l : Rn) : Value := .agg #[.int .i64 l.a, .int .i64 l.b, .int .i64 l.lead]
abbrev RdS (w : World) (lo hi : Nat) (v : Value) (l : List (Int × Int)) : Prop := RdE w lo hi v 2 (l.map rtV)
abbrev RdR (w : World) (lo hi : Nat) (v : Value) (l : List Rn) : Prop := RdE w lo hi v 3 (l.map rnV)
/-- Their cells. -/
def spC (l : List (Int × Int)) : List Value := l.flatMap fun x => [.int .i64 x.1, .int .i64 x.2]
def rnC (l : List Rn) : List Value := l.flatMap fun x => [.int .i64 x.a, .int .i64 x.b, .int .i64 x.lead]
section
variable {w w' : World} {lo hi b off len cap : Nat} {v : Value}
theorem RdS.outI {l : List (Int × Int)} (h : RdS w lo hi v l) : ∃ a cap, v = .slice a l.length cap ∧ (0 < l.length → ∃ b off, a = some ⟨b, off, none⟩) := by
  have := RdE.out h
  simpa using this
theorem RdR.outI {l : List Rn} (h : RdR w lo hi v l) : ∃ a cap, v = .slice a l.length cap ∧ (0 < l.length → ∃ b off, a = some ⟨b, off, none⟩) := by
  have := RdE.out h
  simpa using this
theorem RdS.at {l : List (Int × Int)} (h : RdS w lo hi (.slice (some ⟨b, off, none⟩) len cap) l) (i : Nat) (hi : i < l.length) (j : Nat) (hj : j < 2) : w.cell? ⟨b, off + i * 2 + j, none⟩ = [Value.int .i64 l[i].1, Value.int .i64 l[i].2][j]? := by
  have := RdE.cell h i j (by simpa using hi) hj
  rw [this]
  simp [rtV, Value.cells]
theorem RdR.at {l : List Rn} (h : RdR w lo hi (.slice (some ⟨b, off, none⟩) len cap) l) (i : Nat) (hi : i < l.length) (j : Nat) (hj : j < 3) : w.cell? ⟨b, off + i * 3 + j, none⟩ = [Value.int .i64 l[i].a, Value.int .i64 l[i].b, Value.int .i64 l[i].lead][j]? := by
  have := RdE.cell h i j (by simpa using hi) hj
  rw [this]
  simp [rnV, Value.cells]
theorem cells_sp (l : List (Int × Int)) : cellsOf (l.map rtV) = spC l := by simp [cellsOf, spC, List.flatMap_map, Value.cells]
theorem cells_rn (l : List Rn) : cellsOf (l.map rnV) = rnC l := by simp [cellsOf, rnC, List.flatMap_map, Value.cells]
theorem RdS.row {l : List (Int × Int)} (h : RdS w lo hi v l) : Rd w lo hi v 2 l.length (spC l) := by
  have := h.rd
  rw [cells_sp, List.length_map] at this
  exact this
theorem RdR.row {l : List Rn} (h : RdR w lo hi v l) : Rd w lo hi v 3 l.length (rnC l) := by
  have := h.rd
  rw [cells_rn, List.length_map] at this
  exact this
theorem RdS.of {l : List (Int × Int)} (h : Rd w lo hi v 2 l.length (spC l)) : RdS w lo hi v l := ⟨by rw [cells_sp, List.length_map]; exact h, fun e he => by obtain ⟨x, _, rfl⟩ := List.mem_map.1 he; rfl⟩
theorem RdR.of {l : List Rn} (h : Rd w lo hi v 3 l.length (rnC l)) : RdR w lo hi v l := ⟨by rw [cells_rn, List.length_map]; exact h, fun e he => by obtain ⟨x, _, rfl⟩ := List.mem_map.1 he; rfl⟩
theorem own_rdI {t n : Nat} {l : List Int} (h : w.ownsRow 0 t 1 v n (ints l)) (hn : n = l.length) : RdI w 0 w.heap.size v l := by
  subst hn
  exact RdI.of (own_rd h)
theorem own_rdS {t n : Nat} {l : List (Int × Int)} (h : w.ownsRow 0 t 2 v n (spC l)) (hn : n = l.length) : RdS w 0 w.heap.size v l := by
  subst hn
  exact RdS.of (own_rd h)
theorem own_rdR {t n : Nat} {l : List Rn} (h : w.ownsRow 0 t 3 v n (rnC l)) (hn : n = l.length) : RdR w 0 w.heap.size v l := by
  subst hn
  exact RdR.of (own_rd h)
theorem own_one' {t sz m : Nat} {xs : List Value} (h : w.ownsRow 0 t sz v m xs) : oneV v = true := by
  obtain ⟨a, n, c, rfl⟩ := own_slice h
  rfl
end

/-- Lists of lists that can be read. -/
def RdII (w : World) (lo hi : Nat) (v : Value) (ll : List (List Int)) : Prop :=
  ∃ vs, RdE w lo hi v 1 vs ∧ vs.length = ll.length ∧ ∀ i (h : i < vs.length) (h' : i < ll.length), RdI w lo hi vs[i] ll[i]
theorem RdII.keep {w w' : World} {lo hi : Nat} {v : Value} {ll : List (List Int)} (h : RdII w lo hi v ll) (c : Chg [] w w') : RdII w' lo hi v ll := by
  obtain ⟨vs, h1, h2, h3⟩ := h
  exact ⟨vs, h1.keep c, h2, fun i hi hi' => (h3 i hi hi').keep c⟩
theorem RdII.outI {w : World} {lo hi : Nat} {v : Value} {ll : List (List Int)} (h : RdII w lo hi v ll) : ∃ a cap, v = .slice a ll.length cap ∧ (0 < ll.length → ∃ b off, a = some ⟨b, off, none⟩) := by
  obtain ⟨vs, h1, h2, h3⟩ := h
  have := RdE.out h1
  rwa [h2] at this
/-- One row. -/
theorem RdII.row {w : World} {lo hi : Nat} {b off len cap : Nat} {ll : List (List Int)} (h : RdII w lo hi (.slice (some ⟨b, off, none⟩) len cap) ll) (i : Nat) (hi' : i < ll.length) :
    ∃ a c, RdI w lo hi (.slice a ll[i].length c) ll[i] ∧ ∀ w', Chg [] w w' → w'.cell? ⟨b, off + i * 1, none⟩ = some (.slice a ll[i].length c) := by
  obtain ⟨vs, h1, h2, h3⟩ := h
  have h4 := h3 i (by omega) hi'
  obtain ⟨a, c, hv, _⟩ := RdI.outI h4
  refine ⟨a, c, hv ▸ h4, fun w' hw' => ?_⟩
  rw [RdE.cell1 (h1.keep hw') i (by omega) (by rw [hv]; rfl), hv]
/-- Rows of our own. -/
def rowsO (t : Nat) (xs : List (Value × List Int)) : List Ck := xs.map fun p => .ow p.1 t 1 p.2.length (ints p.2)
theorem rowsO_rd {w : World} {v : Value} {xs : List (Value × List Int)} {n t t2 : Nat} (hu : (un (rowsO t xs)).p w) (h1 : w.ownsRow 0 t2 1 v n (xs.map (·.1))) : RdII w 0 w.heap.size v (xs.map (·.2)) := by
  have hn : n = (xs.map (·.1)).length := by have := h1.1; omega
  have hp : ∀ p ∈ xs, w.ownsRow 0 t 1 p.1 p.2.length (ints p.2) := fun p hp => hu.1 (.ow p.1 t 1 p.2.length (ints p.2)) (List.mem_map.2 ⟨p, hp, rfl⟩)
  refine ⟨xs.map (·.1), RdE.one (by rw [← hn]; exact own_rd h1) (fun e he => by obtain ⟨p, hm, rfl⟩ := List.mem_map.1 he; exact own_one' (hp p hm)), by simp, fun i hi hi' => ?_⟩
  have hi2 : i < xs.length := by simpa using hi
  simp only [List.getElem_map]
  exact own_rdI (hp _ (List.getElem_mem hi2)) rfl
end Go.Proofs.Ytllldihodgdcjaa

/- Walks: IndexFunc, ContainsFunc, klister/ski.all: alike for each element type. Written by gen_every.py. -/
namespace Go.Proofs.Ytllldihodgdcjaa
open Go Go.Eng

set_option maxHeartbeats 1000000 in
theorem idxF_run (w : World) (lo hi : Nat) (v cv : Value) (es : List Value) (p : Value → Bool) (hrd : RdE w lo hi v 3 es) (hagg : ∀ i (hi : i < es.length), ∃ c, es[i] = .agg c) (hlen : es.length < 4611686018427387904) (hp : PredAt Try.prog tab w cv es p) :
    Ca Try.prog 64 [v, cv] w fun r w' => ((∃ i : Nat, r = .int .i64 i ∧ ∃ hi : i < es.length, p es[i] = true) ∨ (r = .int .i64 (-1) ∧ ∀ x ∈ es, p x = false)) ∧ Chg [] w w' := by
  obtain ⟨a, cap, rfl, hsl⟩ := hrd.out
  obtain ⟨g, first, caps, rfl, hg, hcl⟩ := hp
  refine ca_of Try.func64 rfl (by simp [Try.ntmps64]) ?_
  (refine y_seq (y_region (yl_pure tabOk rfl rfl (y_seq (y_seq (y_region ?_))))); (iterate 3 refine yl_pure tabOk rfl rfl ?_); refine y_block ?_)
  refine y_loop (fun m l wr => ∃ k : Nat, k ≤ es.length ∧ m = es.length - k ∧ l = [(0, .slice a es.length cap), (1, .func (.func g) first caps), (7, .int .i64 es.length), (8, .int .i64 k)] ∧ (∀ i (hi : i < es.length), i < k → p es[i] = false) ∧ Chg [] w wr) (m := es.length)
    ⟨0, by omega, rfl, rfl, fun i _ hi => by omega, Chg.refl _ _⟩ ⟨rfl, rfl, rfl, rfl, trivial⟩ ?_
  rintro m l wr ⟨k, hkl, rfl, rfl, hpk, hcw⟩ K hK
  (refine y_seq (y_region (yl_pure tabOk rfl rfl (y_seq ?_))))
  refine y_if rfl (fun hc => ?_) (fun hc => ?_)
  · have hk : k < es.length := by omega
    obtain ⟨b, off, rfl⟩ := hsl (by omega)
    (refine y_skip (y_seq (y_block (y_seq (y_region (yl_pure tabOk rfl rfl (yl_pure tabOk rfl rfl (y_seq (y_region ?_)))))))); (iterate 3 refine yl_pure tabOk rfl rfl ?_))
    refine yl_index tabOk rfl rfl rfl rfl rfl (by omega) (by omega) ?_
    refine yl_loadA tabOk rfl rfl rfl (cs := es[k].cells.toList) (by simpa using hrd.sz es[k] (List.getElem_mem hk)) (fun j hj => (hrd.keep hcw).cell k j hk hj) ?_
    have hval : Value.agg es[k].cells.toList.toArray = es[k] := by
      obtain ⟨c, hc⟩ := hagg k hk
      rw [hc]; simp [Value.cells]
    rw [hval]
    refine yl_call tabOk rfl hg rfl rfl (hcl wr hcw es[k] (List.getElem_mem hk)) ?_
    rintro _ w2 ⟨rfl, hc2⟩
    (refine yl_nil ?_)
    refine y_cond rfl (fun hc => ?_) (fun hc => ?_)
    · (refine y_seq (y_region (yl_pure tabOk rfl rfl (yl_pure tabOk rfl rfl (y_ret ?_)))))
      exact y_fin1 rfl rfl ⟨.inl ⟨k, rfl, hk, hc⟩, hcw.trans hc2⟩
    · (refine y_skip (y_region (yl_pure tabOk rfl rfl (yl_pure tabOk rfl rfl (yl_nil ?_)))))
      refine y_k (hK _ _ _ _ ⟨k + 1, by omega, rfl, rfl, fun i hi hik => ?_, hcw.trans hc2⟩ (by omega) ⟨rfl, rfl, rfl, ?_, trivial⟩)
      · by_cases h : i < k
        · exact hpk i hi h
        · obtain rfl : i = k := by omega
          exact hc
      · show some (Value.int _ (IntKind.i64.wrap (↑k + 1))) = _
        rw [w64 (by omega) (by omega)]
        rfl
  · (refine y_exit _ rfl (y_seq (y_region (yl_pure tabOk rfl rfl (y_ret ?_)))))
    refine y_fin1 rfl rfl ⟨.inr ⟨rfl, fun x hx => ?_⟩, hcw⟩
    obtain ⟨i, hi, rfl⟩ := List.getElem_of_mem hx
    exact hpk i hi (by omega)

theorem conF_run (w : World) (lo hi : Nat) (v cv : Value) (es : List Value) (p : Value → Bool) (hrd : RdE w lo hi v 3 es) (hagg : ∀ i (hi : i < es.length), ∃ c, es[i] = .agg c) (hlen : es.length < 4611686018427387904) (hp : PredAt Try.prog tab w cv es p) :
    Ca Try.prog 53 [v, cv] w fun r w' => r = .bool (es.any p) ∧ Chg [] w w' := by
  refine ca_of Try.func53 rfl (by simp [Try.ntmps53]) ?_
  (refine y_seq (y_region (yl_pure tabOk rfl rfl (y_seq (y_region (yl_pure tabOk rfl rfl (yl_pure tabOk rfl rfl ?_)))))))
  refine yl_call tabOk rfl rfl rfl rfl (idxF_run w lo hi v cv es p hrd hagg hlen hp) ?_
  rintro r w2 ⟨⟨i, rfl, hi, hpi⟩ | ⟨rfl, hall⟩, hc2⟩
  · (refine yl_pure tabOk rfl rfl (yl_pure tabOk rfl rfl (y_ret ?_)))
    refine y_fin1 rfl rfl ⟨?_, hc2⟩
    have h1 : es.any p = true := List.any_eq_true.2 ⟨_, List.getElem_mem hi, hpi⟩
    rw [h1]
    exact congrArg Value.bool (decide_eq_true (by omega))
  · (refine yl_pure tabOk rfl rfl (yl_pure tabOk rfl rfl (y_ret ?_)))
    refine y_fin1 rfl rfl ⟨?_, hc2⟩
    have h1 : es.any p = false := List.any_eq_false.2 (fun x hx => by simp [hall x hx])
    rw [h1]
    rfl

theorem all1_run (w : World) (b t : Nat) (cv x : Value) (es : List Value) (p : Value → Bool) (hx : ∃ c, x = .agg c ∧ c.size = 3) (hm : x ∈ es) (hb : Blk w b [cv] t) (hp : PredAt Try.prog tab w cv es p) :
    Ca Try.prog 54 [x, .pointer (some ⟨b, 0, none⟩)] w fun r w' => r = .bool (!(p x)) ∧ Chg [] w w' := by
  obtain ⟨g, first, caps, rfl, hg, hcl⟩ := hp
  obtain ⟨c, rfl, hcs⟩ := hx
  refine ca_of Try.func54 rfl (by simp [Try.ntmps54]) ?_
  (refine y_seq (y_region ?_))
  refine yl_box rfl rfl (fun w1 hc1 hs1 hb1 => ?_)
  have hb' := hb.keep hc1
  (refine yl_pure tabOk rfl rfl (y_seq (y_region ?_)); refine yl_loadB tabOk rfl rfl rfl (by assumption) (by rfl) ?_)
  refine yl_loadAB tabOk rfl rfl rfl hb1 (us := c.toList) (List.take_of_length_le (by simp [Value.cells, hcs])) (by simpa using hcs) ?_
  refine yl_call tabOk rfl hg rfl rfl (hcl w1 hc1 _ hm) ?_
  rintro _ w2 ⟨rfl, hc2⟩
  (refine yl_pure tabOk rfl rfl (yl_pure tabOk rfl rfl (y_ret ?_)))
  exact y_fin1 rfl rfl ⟨rfl, hc1.trans hc2⟩

theorem all_run (w : World) (lo hi : Nat) (v cv : Value) (es : List Value) (p : Value → Bool) (hrd : RdE w lo hi v 3 es) (hagg : ∀ i (hi : i < es.length), ∃ c, es[i] = .agg c) (hlen : es.length < 4611686018427387904) (hp : PredAt Try.prog tab w cv es p) :
    Ca Try.prog 39 [v, cv] w fun r w' => r = .bool (es.all p) ∧ Chg [] w w' := by
  refine ca_of Try.func39 rfl (by simp [Try.ntmps39]) ?_
  (refine y_seq (y_region ?_))
  refine yl_box rfl rfl (fun w1 hc1 hs1 hb1 => ?_)
  have hcv : cv.cells.toList = [cv] := by obtain ⟨g, first, caps, rfl, _, _⟩ := hp; rfl
  rw [hcv] at hb1
  have hp1 : PredAt Try.prog tab w1 (.func (.func 54) #[] #[.pointer (some ⟨w.heap.size, 0, none⟩)]) es (fun x => !(p x)) := by
    refine ⟨54, #[], #[_], rfl, rfl, fun w' hw' x hx => ?_⟩
    refine all1_run w' w.heap.size _ cv x es p ?_ hx (hb1.keep hw') (hp.keep (hc1.trans hw'))
    obtain ⟨i, hi, rfl⟩ := List.getElem_of_mem hx
    obtain ⟨c, hc⟩ := hagg i hi; exact ⟨c, hc, by have := hrd.sz _ hx; rw [hc] at this; exact this⟩
  (refine yl_pure tabOk rfl rfl (y_seq (y_region (yl_pure tabOk rfl rfl (yl_pure tabOk rfl rfl ?_)))))
  refine yl_call tabOk rfl rfl rfl rfl (conF_run w1 lo hi v _ es _ (hrd.keep hc1) hagg hlen hp1) ?_
  rintro _ w2 ⟨rfl, hc2⟩
  (refine yl_pure tabOk rfl rfl (yl_pure tabOk rfl rfl (y_ret ?_)))
  refine y_fin1 rfl rfl ⟨?_, hc1.trans hc2⟩
  rw [List.all_eq_not_any_not]


end Go.Proofs.Ytllldihodgdcjaa

/- Walks: ski's small functions; the error of a lab; what runs show. -/
namespace Go.Proofs.Ytllldihodgdcjaa
open Go Go.Eng

theorem within_ca (n lo hi : Int) (w : World) : Ca Try.prog 24 [.int .i64 n, .int .i64 lo, .int .i64 hi] w fun v w' => v = .bool (inB n lo hi) ∧ Chg [] w w' := by
  refine q_of (Sat.nil w M0) Try.func24 rfl (by simp [Try.ntmps24]) ?_
  (refine q_seq (q_region (ql_pure tabOk rfl rfl (q_nil (q_seq (q_region ?_))))); (iterate 4 refine ql_pure tabOk rfl rfl ?_))
  refine ql_split rfl rfl (fun hc => ?_) (fun hc => ?_)
  · (refine ql_gyes rfl (ql_pure tabOk rfl rfl (ql_gyes rfl (ql_pure tabOk rfl rfl (ql_gyes rfl ?_)))); (iterate 3 refine ql_pure tabOk rfl rfl ?_); refine q_nil (q_ret ?_))
    refine q_fin tabOk rfl (by repeat constructor) fun w hs => ?_
    exact ⟨by simp at hc; simp [inB, hc, retV], hs.chg0⟩
  · ((iterate 3 refine ql_gno rfl rfl rfl ?_); refine ql_pure tabOk rfl rfl (ql_pure tabOk rfl rfl (q_nil (q_ret ?_))))
    refine q_fin tabOk rfl (by repeat constructor) fun w hs => ?_
    exact ⟨by simp at hc; simp [inB, retV]; omega, hs.chg0⟩

/-- A lab as cells. -/
abbrev lbC (l : Lb) (v : Value) : List Value := [.int .i64 l.skis, .int .i64 l.err, v]
def knP (s : Int) (r : Rn) : Bool := inB r.a 0 (s - 1) && (inB r.b 0 (s - 1) && (!decide (r.a = r.b)))
def pKn (s : Int) : Value → Bool
  | .agg cs => match cs.toList with
    | [.int _ a, .int _ b, .int _ c] => knP s ⟨a, b, c⟩
    | _ => false
  | _ => false
def pLd : Value → Bool
  | .agg cs => match cs.toList with
    | [.int _ _, .int _ _, .int _ c] => inB c (-10000) 10000
    | _ => false
  | _ => false
theorem pKn_all (s : Int) (l : List Rn) : (l.map rnV).all (pKn s) = l.all (knP s) := by
  rw [List.all_map]
  rfl
theorem pLd_all (l : List Rn) : (l.map rnV).all pLd = l.all fun r => inB r.lead (-10000) 10000 := by
  rw [List.all_map]
  rfl
theorem rnV_agg (l : List Rn) : ∀ i (hi : i < (l.map rnV).length), ∃ c, (l.map rnV)[i] = .agg c := fun i hi => ⟨_, by rw [List.getElem_map]⟩
theorem check1_p (w : World) (l : List Rn) (s e : Int) (v : Value) (b t : Nat) (hs0 : 1 ≤ s ∧ s ≤ 8) (hb : Blk w b [.int .i64 s, .int .i64 e, v] t) : PredAt Try.prog tab w (.func (.func 40) #[] #[.pointer (some ⟨b, 0, none⟩)]) (l.map rnV) (pKn s) := by
  refine ⟨_, _, _, rfl, rfl, fun w' hw' x hx => ?_⟩
  have hb' := hb.keep hw'
  obtain ⟨⟨x, y, z⟩, hy, rfl⟩ := List.mem_map.1 hx
  refine q_of (Sat.nil w' M0) Try.func40 rfl (by simp [Try.ntmps40]) ?_
  (refine q_seq (q_region ?_))
  refine ql_box rfl rfl (fun b2 => ?_)
  (refine ql_pure tabOk rfl rfl (q_nil (q_seq (q_region (ql_pure tabOk rfl rfl ?_)))); refine ql_loadBa tabOk rfl rfl rfl ?_; refine ql_pure tabOk rfl rfl ?_; refine ql_loadP tabOk rfl rfl rfl (by assumption) (by rfl) ?_; refine ql_ar tabOk rfl rfl rfl rfl (by omega) (by omega) ?_)
  refine ql_callv (val := .bool (inB x 0 (s - 1))) tabOk rfl rfl rfl rfl (fun w hs => ?_) ?_; exact within_ca x 0 (s - 1) w
  (refine ql_pure tabOk rfl rfl ?_)
  refine ql_split rfl rfl (fun hc => ?_) (fun hc => ?_)
  · (refine ql_gyes rfl (ql_pure tabOk rfl rfl (ql_gyes rfl ?_)); refine ql_loadBa tabOk rfl rfl rfl ?_; refine ql_gyes rfl (ql_pure tabOk rfl rfl (ql_gyes rfl ?_)); refine ql_loadP tabOk rfl rfl rfl (by assumption) (by rfl) ?_; refine ql_gyes rfl (ql_ar tabOk rfl rfl rfl rfl (by omega) (by omega) (ql_gyes rfl ?_)))
    refine ql_callv (val := .bool (inB y 0 (s - 1))) tabOk rfl rfl rfl rfl (fun w hs => ?_) ?_; exact within_ca y 0 (s - 1) w
    (refine ql_pure tabOk rfl rfl (ql_pure tabOk rfl rfl ?_))
    refine ql_split rfl rfl (fun hc => ?_) (fun hc => ?_)
    · (refine ql_gyes rfl (ql_pure tabOk rfl rfl (ql_gyes rfl ?_)); refine ql_loadBa tabOk rfl rfl rfl ?_; refine ql_gyes rfl (ql_pure tabOk rfl rfl (ql_gyes rfl ?_)); refine ql_loadBa tabOk rfl rfl rfl ?_; refine ql_gyes rfl ?_; (iterate 3 refine ql_pure tabOk rfl rfl ?_); refine q_nil (q_ret ?_))
      by_cases hxy : x = y
      · skip
        refine q_fin tabOk rfl (by repeat constructor) fun w hs => ?_
        exact ⟨by simp [retV, pKn, knP, *], hs.chg0⟩
      · skip
        refine q_fin tabOk rfl (by repeat constructor) fun w hs => ?_
        exact ⟨by simp [retV, pKn, knP, *], hs.chg0⟩
    · ((iterate 5 refine ql_gno rfl rfl rfl ?_); refine ql_pure tabOk rfl rfl (ql_pure tabOk rfl rfl (q_nil (q_ret ?_))))
      refine q_fin tabOk rfl (by repeat constructor) fun w hs => ?_
      exact ⟨by simp [retV, pKn, knP, *], hs.chg0⟩
  · ((iterate 6 refine ql_gno rfl rfl rfl ?_); refine ql_pure tabOk rfl rfl (ql_pure tabOk rfl rfl ?_); (iterate 5 refine ql_gno rfl rfl rfl ?_); refine ql_pure tabOk rfl rfl (ql_pure tabOk rfl rfl (q_nil (q_ret ?_))))
    refine q_fin tabOk rfl (by repeat constructor) fun w hs => ?_
    exact ⟨by simp [retV, pKn, knP, *], hs.chg0⟩
theorem check2_p (w : World) (l : List Rn) : PredAt Try.prog tab w (.func (.func 41) #[] #[]) (l.map rnV) pLd := by
  refine ⟨_, _, _, rfl, rfl, fun w' hw' x hx => ?_⟩
  obtain ⟨⟨x, y, z⟩, hy, rfl⟩ := List.mem_map.1 hx
  refine q_of (Sat.nil w' M0) Try.func41 rfl (by simp [Try.ntmps41]) ?_
  (refine q_seq (q_region ?_))
  refine ql_box rfl rfl (fun b2 => ?_)
  (refine ql_pure tabOk rfl rfl (q_nil (q_seq (q_region (ql_pure tabOk rfl rfl ?_)))); refine ql_loadBa tabOk rfl rfl rfl ?_)
  refine ql_callv (val := .bool (inB z (-10000) 10000)) tabOk rfl rfl rfl rfl (fun w hs => ?_) ?_; exact within_ca z (-10000) 10000 w
  (refine ql_pure tabOk rfl rfl (q_nil (q_ret ?_)))
  refine q_fin tabOk rfl (by repeat constructor) fun w hs => ?_
  exact ⟨by simp [retV, pLd], hs.chg0⟩
theorem check_ca (w : World) (lo hi : Nat) (l : Lb) (v : Value) (h : RdR w lo hi v l.runs) (hlen : l.runs.length ≤ maxLen) : Ca Try.prog 23 [.agg (lbC l v).toArray] w fun x w' => x = .int .i64 (checkV l) ∧ Chg [] w w' := by
  obtain ⟨a, ca, rfl, hsa⟩ := RdR.outI h
  simp only [maxLen] at hlen
  refine q_of (Sat.nil w M0) Try.func23 rfl (by simp [Try.ntmps23]) ?_
  (refine q_seq (q_region ?_))
  refine ql_box rfl rfl (fun b1 => ?_)
  (refine ql_pure tabOk rfl rfl (q_nil (q_seq (q_block (q_seq (q_region (ql_pure tabOk rfl rfl ?_)))))); refine ql_loadBa tabOk rfl rfl rfl ?_)
  refine ql_callv (val := .bool (inB l.skis 1 8)) tabOk rfl rfl rfl rfl (fun w hs => ?_) ?_; exact within_ca l.skis 1 8 w
  (refine ql_pure tabOk rfl rfl (ql_pure tabOk rfl rfl ?_))
  cases h1 : inB l.skis 1 8 with
  | false =>
    ((iterate 4 refine ql_gno rfl rfl rfl ?_); refine ql_pure tabOk rfl rfl (ql_pure tabOk rfl rfl (q_nil (q_cond_true rfl (q_seq (q_region (ql_pure tabOk rfl rfl (q_nil (q_ret ?_)))))))))
    refine q_fin tabOk rfl (by repeat constructor) fun w hs => ?_
    exact ⟨by simp [retV, checkV, h1], hs.chg0⟩
  | true =>
    have h1' := inB_iff.1 h1
    (refine ql_gyes rfl (ql_pure tabOk rfl rfl (ql_gyes rfl ?_)); refine ql_loadBa tabOk rfl rfl rfl ?_; refine ql_gyes rfl ?_)
    refine ql_callv (val := .bool (inB l.err 0 1000)) tabOk rfl rfl rfl rfl (fun w hs => ?_) ?_; exact within_ca l.err 0 1000 w
    (refine ql_gyes rfl ?_; (iterate 3 refine ql_pure tabOk rfl rfl ?_); refine q_nil ?_)
    cases h2 : inB l.err 0 1000 with
    | false =>
      (refine q_cond_true rfl (q_seq (q_region (ql_pure tabOk rfl rfl (q_nil (q_ret ?_))))))
      refine q_fin tabOk rfl (by repeat constructor) fun w hs => ?_
      exact ⟨by simp [retV, checkV, h1, h2], hs.chg0⟩
    | true =>
      (refine q_cond_false rfl (q_seq (q_region (ql_pure tabOk rfl rfl ?_))); refine ql_loadBa tabOk rfl rfl rfl ?_; (iterate 3 refine ql_pure tabOk rfl rfl ?_); refine q_nil ?_)
      refine q_if rfl (fun hc => ?_) (fun hc => ?_)
      · have h3 : 40 < l.runs.length := by omega
        (refine q_seq (q_region (ql_pure tabOk rfl rfl (q_nil (q_ret ?_)))))
        refine q_fin tabOk rfl (by repeat constructor) fun w hs => ?_
        exact ⟨by simp [retV, checkV, h1, h2, h3], hs.chg0⟩
      · have h3 : ¬ 40 < l.runs.length := by omega
        (refine q_seq (q_region (ql_pure tabOk rfl rfl ?_)); refine ql_loadBa tabOk rfl rfl rfl ?_; refine ql_pure tabOk rfl rfl ?_)
        refine ql_callv (val := .bool (knownB l)) tabOk rfl rfl rfl rfl (fun w hs => ?_) ?_; exact by have := all_run w lo hi _ _ (l.runs.map rnV) (pKn l.skis) (RdE.keep h hs.chg0) (rnV_agg l.runs) (by simp; omega) (check1_p w l.runs l.skis l.err _ b1 _ h1' (hs.blk (by repeat constructor))); rw [pKn_all] at this; exact this
        (refine ql_pure tabOk rfl rfl (ql_pure tabOk rfl rfl (q_nil ?_)))
        cases h4 : knownB l with
        | false =>
          (refine q_cond_true rfl (q_seq (q_region (ql_pure tabOk rfl rfl (q_nil (q_ret ?_))))))
          refine q_fin tabOk rfl (by repeat constructor) fun w hs => ?_
          exact ⟨by simp [retV, checkV, h1, h2, h3, h4], hs.chg0⟩
        | true =>
          (refine q_cond_false rfl (q_seq (q_region (ql_pure tabOk rfl rfl ?_))); refine ql_loadBa tabOk rfl rfl rfl ?_)
          refine ql_callv (val := .bool (leadB l)) tabOk rfl rfl rfl rfl (fun w hs => ?_) ?_; exact by have := all_run w lo hi _ _ (l.runs.map rnV) pLd (RdE.keep h hs.chg0) (rnV_agg l.runs) (by simp; omega) (check2_p w l.runs); rw [pLd_all] at this; exact this
          (refine ql_pure tabOk rfl rfl (ql_pure tabOk rfl rfl (q_nil ?_)))
          cases h5 : leadB l with
          | false =>
            (refine q_cond_true rfl (q_seq (q_region (ql_pure tabOk rfl rfl (q_nil (q_ret ?_))))))
            refine q_fin tabOk rfl (by repeat constructor) fun w hs => ?_
            exact ⟨by simp [retV, checkV, h1, h2, h3, h4, h5], hs.chg0⟩
          | true =>
            (refine q_cond_false rfl (q_skip (q_blk (q_seq (q_region (ql_pure tabOk rfl rfl (q_nil (q_ret ?_))))))))
            refine q_fin tabOk rfl (by repeat constructor) fun w hs => ?_
            exact ⟨by simp [retV, checkV, h1, h2, h3, h4, h5], hs.chg0⟩
end Go.Proofs.Ytllldihodgdcjaa

/- Walks: what runs show. -/
namespace Go.Proofs.Ytllldihodgdcjaa
open Go Go.Eng

/-- What a run shows, as numbers. -/
def runI (e : Int) (r : Rn) : Option (Int × Int) := if e < r.lead then some (r.a, r.b) else if r.lead < -e then some (r.b, r.a) else none
def shO : Option (Int × Int) → Value
  | some p => .tuple #[.agg #[.int .i64 p.1, .int .i64 p.2], .bool true]
  | none => .tuple #[.agg #[.int .i64 0, .int .i64 0], .bool false]
theorem runI_nat {e : Int} {r : Rn} : runV e r = (runI e r).map fun p => (p.1.toNat, p.2.toNat) := by
  unfold runV runI
  split
  · rfl
  · split <;> rfl
theorem shows_ca (w : World) (lo hi : Nat) (l : Lb) (v : Value) (h : RdR w lo hi v l.runs) (he : 0 ≤ l.err ∧ l.err ≤ 1000) (i : Nat) (hi' : i < l.runs.length) :
    Ca Try.prog 52 [.agg (lbC l v).toArray, .int .i64 i] w fun x w' => x = shO (runI l.err l.runs[i]) ∧ Chg [] w w' := by
  obtain ⟨a, ca, rfl, hsa⟩ := RdR.outI h
  obtain ⟨b, off, rfl⟩ := hsa (by omega)
  refine q_of (Sat.nil w M0) Try.func52 rfl (by simp [Try.ntmps52]) ?_
  (refine q_seq (q_region ?_))
  refine ql_box rfl rfl (fun b2 => ?_)
  skip
  refine ql_alloc zero88 rfl (fun b4 => ?_)
  (refine ql_pure tabOk rfl rfl (q_nil (q_seq (q_seq (q_region (ql_pure tabOk rfl rfl ?_))))); refine ql_loadBa tabOk rfl rfl rfl ?_; refine ql_pure tabOk rfl rfl ?_)
  refine ql_index tabOk rfl rfl rfl rfl rfl (by omega) (by omega) ?_
  refine ql_loadA tabOk rfl rfl rfl rfl (fun w hs => RdR.at (RdE.keep h hs.chg0) i hi') ?_
  skip
  refine ql_alloc zero33 rfl (fun b6 => ?_)
  (refine ql_setA tabOk rfl rfl rfl rfl rfl (by repeat constructor) rfl ?_; refine q_nil (q_block (q_seq (q_region (ql_pure tabOk rfl rfl ?_)))); refine ql_loadBa tabOk rfl rfl rfl ?_; refine ql_pure tabOk rfl rfl ?_; refine ql_loadBa tabOk rfl rfl rfl ?_; refine ql_pure tabOk rfl rfl (ql_pure tabOk rfl rfl (q_nil ?_)))
  refine q_if rfl (fun hc => ?_) (fun hc => ?_)
  · (refine q_seq (q_region (ql_pure tabOk rfl rfl ?_)); refine ql_loadBa tabOk rfl rfl rfl ?_; refine ql_pure tabOk rfl rfl ?_; refine ql_loadBa tabOk rfl rfl rfl ?_)
    refine ql_mk #[.int .i64 l.runs[i].a, .int .i64 l.runs[i].b] rfl (by kernel_rfl) rfl ?_
    (refine ql_setA tabOk rfl rfl rfl rfl rfl (by repeat constructor) rfl ?_; refine ql_pure tabOk rfl rfl (q_nil (q_ret ?_)))
    refine q_fin tabOk rfl (by repeat constructor) fun w hs => ?_
    exact ⟨by simp [retV, runI, shO, hc], hs.chg0⟩
  · have h1 := hc
    clear hc
    (refine q_seq (q_region (ql_pure tabOk rfl rfl ?_)); refine ql_loadBa tabOk rfl rfl rfl ?_; refine ql_pure tabOk rfl rfl ?_; refine ql_loadBa tabOk rfl rfl rfl ?_; refine ql_neg tabOk rfl rfl (by omega) (by omega) (ql_pure tabOk rfl rfl (ql_pure tabOk rfl rfl (q_nil ?_))))
    refine q_if rfl (fun hc => ?_) (fun hc => ?_)
    · (refine q_seq (q_region (ql_pure tabOk rfl rfl ?_)); refine ql_loadBa tabOk rfl rfl rfl ?_; refine ql_pure tabOk rfl rfl ?_; refine ql_loadBa tabOk rfl rfl rfl ?_)
      refine ql_mk #[.int .i64 l.runs[i].b, .int .i64 l.runs[i].a] rfl (by kernel_rfl) rfl ?_
      (refine ql_setA tabOk rfl rfl rfl rfl rfl (by repeat constructor) rfl ?_; refine ql_pure tabOk rfl rfl (q_nil (q_ret ?_)))
      refine q_fin tabOk rfl (by repeat constructor) fun w hs => ?_
      exact ⟨by simp [retV, runI, shO, h1, hc], hs.chg0⟩
    · (refine q_skip (q_blk (q_seq (q_region ?_))))
      refine ql_mk #[.int .i64 0, .int .i64 0] rfl (by kernel_rfl) rfl ?_
      (refine ql_setA tabOk rfl rfl rfl rfl rfl (by repeat constructor) rfl ?_; refine ql_pure tabOk rfl rfl (q_nil (q_ret ?_)))
      refine q_fin tabOk rfl (by repeat constructor) fun w hs => ?_
      exact ⟨by simp [retV, runI, shO, *], hs.chg0⟩
theorem shown_ca (w : World) (l : Lb) (v : Value) : Ca Try.prog 37 [.agg (lbC l v).toArray] w fun x w' => ∃ b : Nat, x = .func (.func 51) #[] #[.pointer (some ⟨b, 0, none⟩)] ∧ Sat w M0 [.pt b (lbC l v) 28] w' := by
  refine q_of (Sat.nil w M0) Try.func37 rfl (by simp [Try.ntmps37]) ?_
  (refine q_seq (q_region ?_))
  refine ql_box rfl rfl (fun b2 => ?_)
  (refine ql_pure tabOk rfl rfl (q_nil (q_seq (q_region (ql_pure tabOk rfl rfl (ql_pure tabOk rfl rfl (q_nil (q_ret ?_))))))))
  refine q_fin tabOk rfl (by repeat constructor) fun w hs => ?_
  exact ⟨b2, rfl, hs⟩

/-- What the first runs show, with their numbers. -/
def shP (l : Lb) (n : Nat) : List (Nat × Int × Int) := (List.range n).filterMap fun i => (runI l.err (l.runs.getD i ⟨0, 0, 0⟩)).map fun p => (i, p)
def shL (l : Lb) : List (Nat × Int × Int) := shP l l.runs.length
theorem shP_succ (l : Lb) {n : Nat} (h : n < l.runs.length) : shP l (n + 1) = shP l n ++ ((runI l.err l.runs[n]).map fun p => (n, p)).toList := by
  unfold shP
  rw [List.range_succ, List.filterMap_append]
  have e : l.runs.getD n ⟨0, 0, 0⟩ = l.runs[n] := by rw [List.getD_eq_getElem?_getD, List.getElem?_eq_getElem h]; rfl
  simp only [List.filterMap_cons, List.filterMap_nil, e]
  cases runI l.err l.runs[n] <;> rfl
theorem shP_split (l : Lb) : ∀ {n m : Nat}, n ≤ m → ∃ suf, shP l m = shP l n ++ suf
  | n, m, h => by
    obtain ⟨d, rfl⟩ : ∃ d, m = n + d := ⟨m - n, by omega⟩
    exact ⟨_, by unfold shP; rw [List.range_add, List.filterMap_append]⟩
theorem pairs_take (l : Lb) : ∀ n, n ≤ l.runs.length → (l.runs.take n).filterMap (runV l.err) = (shP l n).map fun x => (x.2.1.toNat, x.2.2.toNat)
  | 0, _ => rfl
  | n + 1, h => by
    rw [List.take_succ_eq_append_getElem h, List.filterMap_append, pairs_take l n (by omega), shP_succ l h, List.map_append]
    congr 1
    simp only [List.filterMap_cons, List.filterMap_nil, runI_nat]
    cases runI l.err l.runs[n] <;> rfl
theorem pairs_sh (l : Lb) : l.pairs = (shL l).map fun x => (x.2.1.toNat, x.2.2.toNat) := by
  have := pairs_take l l.runs.length (Nat.le_refl _)
  rw [List.take_length] at this
  exact this
def shE (x : Nat × Int × Int) : List Value := [.int .i64 x.1, .agg #[.int .i64 x.2.1, .int .i64 x.2.2]]
theorem shown_it (w0 w : World) (D : Nat → Prop) (lo hi b : Nat) (l : Lb) (v : Value) (h : RdR w0 lo hi v l.runs) (he : 0 ≤ l.err ∧ l.err ≤ 1000) (hlen : l.runs.length ≤ 1000) (h0 : ∀ w', ChgP D w w' → Chg [] w0 w') {t1 : TypeId} (hb : Blk w b (lbC l v) t1) (hD : ¬ D b) :
    ItOk Try.prog 51 [.pointer (some ⟨b, 0, none⟩)] shE (shL l) w D := by
  intro fv σ L I E s0 hI0 hLD hsat hcb
  obtain ⟨a, ca, rfl, hsa⟩ := RdR.outI h
  have hm : ∀ w', ChgP (DL (L s0)) w w' → ChgP D w w' := fun w' hc => ⟨hc.os, hc.tape, hc.output, hc.size, fun k hk hk2 => hc.block k hk (fun h => hk2 (hLD k h))⟩
  have hP : ∀ w', ChgP (DL (L s0)) w w' → Blk w' b _ t1 := fun w' hc => (hc.block b hb.lt (fun h => hD (hLD b h))).trans hb
  refine q_of (H := [un (L s0)]) (Sat.un1.2 hsat) Try.func51 rfl (by simp [Try.ntmps51]) ?_
  (refine q_seq (q_region (ql_pure tabOk rfl rfl ?_)); refine ql_loadG tabOk rfl rfl rfl (by assumption) (by rfl) ?_; refine ql_pure tabOk rfl rfl (ql_pure tabOk rfl rfl (q_nil (q_block ?_))))
  refine q_loop (σ := Nat × σ) (fun s => s.1 ≤ l.runs.length ∧ I (shP l s.1) s.2) (fun s => l.runs.length - s.1) (fun s => [(0, fv), (1, .pointer (some ⟨b, 0, none⟩)), (8, .int .i64 l.runs.length), (9, .int .i64 s.1)])
    (fun s => [un (L s.2)]) (0, s0) ⟨by omega, hI0⟩ ⟨rfl, rfl, rfl, rfl, trivial⟩ (Sp.refl _) ?_
  rintro ⟨n, s⟩ ⟨hn, hI⟩ K hK
  dsimp only at hn hI ⊢
  (refine q_seq (q_region (ql_pure tabOk rfl rfl (q_nil (q_seq ?_)))))
  refine q_if rfl (fun hc => ?_) (fun hc => ?_)
  · have hn2 : n < l.runs.length := by first | omega | (simp at hc; omega)
    clear hc
    (refine q_skip (q_seq (q_block (q_seq (q_region (ql_pure tabOk rfl rfl (ql_pure tabOk rfl rfl (q_nil (q_seq (q_region ?_))))))))); refine ql_loadGA tabOk rfl rfl rfl (by assumption) (by rfl) (by rfl) ?_; refine ql_pure tabOk rfl rfl ?_)
    refine ql_callv tabOk rfl rfl rfl rfl (fun w hs => shows_ca w lo hi l _ (RdE.keep h (h0 _ (hm _ hs.chg))) he n hn2) ?_
    obtain ⟨suf, hsuf⟩ := shP_split l (show n + 1 ≤ l.runs.length from hn2)
    have hs1 := shP_succ l hn2
    cases hx : runI l.err l.runs[n] with
    | none =>
      rw [hx] at hs1
      dsimp only [shO]
      (refine ql_pure tabOk rfl rfl (ql_ext tabOk rfl rfl rfl (ql_ext tabOk rfl rfl rfl ?_)))
      refine ql_alloc zero88 rfl (fun b4 => ?_)
      (refine ql_setA tabOk rfl rfl rfl rfl rfl (by repeat constructor) rfl ?_; refine ql_pure tabOk rfl rfl (q_nil (q_seq (q_region (ql_pure tabOk rfl rfl (ql_pure tabOk rfl rfl ?_))))); (iterate 5 refine ql_gno rfl rfl rfl ?_); refine ql_pure tabOk rfl rfl (q_nil (q_cond_false rfl (q_skip (q_blk (q_region (ql_ar tabOk rfl rfl rfl rfl (by omega) (by omega) (ql_pure tabOk rfl rfl (q_nil ?_)))))))))
      exact hK (n + 1, s) _ _ ⟨by simp only; omega, by rw [hs1]; simpa using hI⟩ (by simp only; omega) ⟨rfl, rfl, rfl, rfl, trivial⟩ (by repeat constructor)
    | some p =>
      rw [hx] at hs1
      dsimp only [shO]
      (refine ql_pure tabOk rfl rfl (ql_ext tabOk rfl rfl rfl (ql_ext tabOk rfl rfl rfl ?_)))
      refine ql_alloc zero88 rfl (fun b4 => ?_)
      (refine ql_setA tabOk rfl rfl rfl rfl rfl (by repeat constructor) rfl ?_; refine ql_pure tabOk rfl rfl (q_nil (q_seq (q_region (ql_pure tabOk rfl rfl (ql_pure tabOk rfl rfl (ql_gyes rfl (ql_pure tabOk rfl rfl (ql_gyes rfl (ql_pure tabOk rfl rfl (ql_gyes rfl ?_)))))))))); refine ql_loadABa tabOk rfl rfl rfl ?_; refine ql_gyes rfl ?_)
      have hxs : shL l = shP l n ++ (n, p) :: suf := by show shP l l.runs.length = _; rw [hsuf, hs1]; simp
      refine ql_callF (β := σ) [un (L s)] [.pt b4 [.int .i64 p.1, .int .i64 p.2] 88] (DL (L s)) rfl rfl rfl (by repeat constructor) (fun b hb => ⟨_, .head _, hb⟩) (yieldF hcb hxs hI) ?_
      rintro s' v (⟨rfl, hI'⟩ | ⟨rfl, hE⟩)
      · (refine ql_gyes rfl (ql_pure tabOk rfl rfl (ql_pure tabOk rfl rfl (q_nil (q_cond_false rfl (q_skip (q_blk (q_region (ql_ar tabOk rfl rfl rfl rfl (by omega) (by omega) (ql_pure tabOk rfl rfl (q_nil ?_)))))))))))
        exact hK (n + 1, s') _ _ ⟨by simp only; omega, by rw [hs1]; simpa using hI'⟩ (by simp only; omega) ⟨rfl, rfl, rfl, rfl, trivial⟩ (by repeat constructor)
      · (refine ql_gyes rfl (ql_pure tabOk rfl rfl (ql_pure tabOk rfl rfl (q_nil (q_cond_true rfl (q_ret ?_))))))
        refine q_fin tabOk rfl (by repeat constructor) fun w hs => ?_
        exact ⟨s', .inr hE, Sat.un1.1 (hs.sp (by repeat constructor))⟩
  · have hne : n = l.runs.length := by omega
    subst hne
    (refine q_exit _ rfl ?_)
    refine q_end tabOk rfl (by repeat constructor) fun w hs => ?_
    exact ⟨s, .inl hI, Sat.un1.1 (hs.sp (by repeat constructor))⟩
end Go.Proofs.Ytllldihodgdcjaa

/- Walks: orders. -/
namespace Go.Proofs.Ytllldihodgdcjaa
open Go Go.Eng

theorem o_arr : arrB Try.prog 60 8 58 8 = true := by kernel_rfl
theorem r_arr : arrB Try.prog 58 8 4 1 = true := by kernel_rfl
/-- The cells of an order. -/
def oL (o : Nat) : List Bool := (List.range 64).map o.testBit
def oC (o : Nat) : List Value := (oL o).map Value.bool
theorem oC_len (o : Nat) : (oC o).length = 64 := by simp [oC, oL]
theorem oC_get (o i : Nat) (h : i < 64) : (oC o)[i]? = some (.bool (o.testBit i)) := by simp [oC, oL, h]
theorem oC_one (o : Nat) : ∀ v ∈ oC o, oneV v = true := fun v hv => by
  obtain ⟨b, _, rfl⟩ := List.mem_map.1 hv
  rfl
theorem o_cell {w0 w : World} {M : Nat → Prop} {H : List Ck} {b off : Nat} {o : Nat} {t : TypeId} (hs : Sat w0 M H w) (hm : Ck.pt b (oC o) t ∈ H) (x y : Nat) (hx : x < 8) (hy : y < 8) (ho : off = 8 * x + y) : w.cell? ⟨b, off, none⟩ = some (.bool (fa o x y)) := by
  subst ho
  rw [Blk.cell (hs.mem hm), oC_get _ _ (by omega)]
  rfl
/-- An order that is under way. -/
def pO (o p n : Nat) : Nat := mkB (fun c => if c < n then p.testBit c else o.testBit c) 64
theorem pO_bit (o p n i : Nat) : (pO o p n).testBit i = (decide (i < 64) && if i < n then p.testBit i else o.testBit i) := mkB_bit _ _ _
theorem oC_pO0 (o p : Nat) : oC (pO o p 0) = oC o := by
  unfold oC oL
  rw [List.map_map, List.map_map]
  refine List.map_congr_left fun i hi => ?_
  have := List.mem_range.1 hi
  simp [pO_bit, this]
theorem oC_pO64 (o p : Nat) : oC (pO o p 64) = oC p := by
  unfold oC oL
  rw [List.map_map, List.map_map]
  refine List.map_congr_left fun i hi => ?_
  have := List.mem_range.1 hi
  simp [pO_bit, this]
theorem oC_pO_succ (o p n : Nat) (hn : n < 64) (hp : p.testBit n = true) : (oC (pO o p n)).set n (.bool true) = oC (pO o p (n + 1)) := by
  refine List.ext_getElem? fun i => ?_
  rw [List.getElem?_set]
  by_cases hi : i < 64
  · rw [oC_get _ _ hi, oC_get _ _ hi, oC_len, pO_bit, pO_bit]
    by_cases e : n = i
    · subst e
      simp [hn, hp]
    · rw [if_neg e]
      by_cases h : i < n
      · simp [hi, h, show i < n + 1 by omega]
      · simp [hi, h, show ¬ i < n + 1 by omega]
  · rw [if_neg (by omega), List.getElem?_eq_none (by rw [oC_len]; omega), List.getElem?_eq_none (by rw [oC_len]; omega)]
theorem oC_pO_same (o p n : Nat) (hp : p.testBit n = o.testBit n) : oC (pO o p n) = oC (pO o p (n + 1)) := by
  unfold oC oL
  rw [List.map_map, List.map_map]
  refine List.map_congr_left fun i hi => ?_
  have := List.mem_range.1 hi
  simp only [Function.comp, pO_bit]
  by_cases e : i = n
  · subst e
    simp [hp]
  · by_cases h : i < n
    · simp [h, show i < n + 1 by omega]
    · simp [h, show ¬ i < n + 1 by omega]
theorem agg_cells (l : List Value) : (Value.agg l.toArray).cells.toList = l := rfl
theorem oC_take (o : Nat) : List.take 64 (List.drop 0 (oC o)) = oC o := by rw [List.drop_zero, List.take_of_length_le (by rw [oC_len]; omega)]
theorem bit_with (o f s a b : Nat) (ha : a < 8) (hb : b < 8) : (withO o f s).testBit (8 * a + b) = (o.testBit (8 * a + b) || ((a == f || fa o a f) && (b == s || fa o s b))) := fa_with o f s ha hb
set_option maxHeartbeats 2000000 in
theorem with_ca (w : World) (o f s : Nat) (hf : f < 8) (hs8 : s < 8) : Ca Try.prog 38 [.agg (oC o).toArray, .int .i64 f, .int .i64 s] w fun v w' => v = .agg (oC (withO o f s)).toArray ∧ Chg [] w w' := by
  refine q_of (Sat.nil w M0) Try.func38 rfl (by simp [Try.ntmps38]) ?_
  (refine q_seq (q_region ?_))
  refine ql_box rfl rfl (fun b3 => ?_)
  rw [agg_cells]
  skip
  refine ql_alloc zero60 rfl (fun b6 => ?_)
  generalize hz6 : (Value.agg _).cells.toList = z6
  have hl6 : z6.length = 64 := by rw [← hz6]; rfl
  clear hz6
  (refine q_nil (q_seq (q_region ?_)); refine ql_loadABa tabOk rfl rfl rfl ?_)
  rw [oC_take]
  refine ql_alloc zero60 rfl (fun b7 => ?_)
  (refine ql_setA tabOk rfl rfl rfl rfl rfl (by repeat constructor) rfl ?_; refine q_nil (q_seq (q_seq (q_region (ql_pure tabOk rfl rfl (q_nil (q_block ?_)))))))
  obtain ⟨p, hp⟩ : ∃ p, p = withO o f s := ⟨_, rfl⟩
  refine q_loop (σ := Nat) (fun a => a ≤ 8) (fun a => 8 - a) (fun a => [(1, .int .i64 f), (2, .int .i64 s), (3, .pointer (some ⟨b3, 0, none⟩)), (6, .pointer (some ⟨b6, 0, none⟩)), (7, .pointer (some ⟨b7, 0, none⟩)), (11, .int .i64 a)]) (fun a => [.pt b7 (oC (pO o p (8 * a))) 60, .pt b6 z6 60, .pt b3 (oC o) 60]) 0 (by omega) ⟨rfl, rfl, rfl, rfl, rfl, rfl, trivial⟩ (by rw [Nat.mul_zero, oC_pO0]; repeat constructor) ?_
  rintro a ha K hK
  (refine q_seq (q_region (ql_pure tabOk rfl rfl (q_nil (q_seq ?_)))))
  refine q_if rfl (fun hc => ?_) (fun hc => ?_)
  · have ha2 : a < 8 := by omega
    clear hc
    (refine q_skip (q_seq (q_block (q_seq (q_region (ql_pure tabOk rfl rfl (ql_pure tabOk rfl rfl (q_nil (q_seq (q_region (ql_pure tabOk rfl rfl (q_nil ?_))))))))))); refine q_block ?_)
    refine q_loop (σ := Nat) (fun b => b ≤ 8) (fun b => 8 - b) (fun b => [(1, .int .i64 f), (2, .int .i64 s), (3, .pointer (some ⟨b3, 0, none⟩)), (6, .pointer (some ⟨b6, 0, none⟩)), (7, .pointer (some ⟨b7, 0, none⟩)), (8, .int .i64 a), (11, .int .i64 a), (14, .int .i64 b)]) (fun b => [.pt b7 (oC (pO o p (8 * a + b))) 60, .pt b6 z6 60, .pt b3 (oC o) 60]) 0 (by omega) ⟨rfl, rfl, rfl, rfl, rfl, rfl, rfl, rfl, trivial⟩ (by repeat constructor) ?_
    rintro b hb K2 hK2
    (refine q_seq (q_region (ql_pure tabOk rfl rfl (q_nil (q_seq ?_)))))
    refine q_if rfl (fun hc => ?_) (fun hc => ?_)
    · have hb2 : b < 8 := by omega
      clear hc
      have hbit := bit_with o f s a b ha2 hb2
      rw [← hp] at hbit
      by_cases ha3 : a = f
      · skip
        by_cases hb3 : b = s
        · (refine q_skip (q_seq (q_block (q_seq (q_region (ql_pure tabOk rfl rfl (ql_pure tabOk rfl rfl (q_nil (q_seq (q_region (ql_pure tabOk rfl rfl (ql_pure tabOk rfl rfl ?_))))))))))); refine ql_eqlT tabOk rfl rfl rfl (by omega) (ql_pure tabOk rfl rfl ?_); (iterate 5 refine ql_gno rfl rfl rfl ?_); refine ql_pure tabOk rfl rfl (ql_pure tabOk rfl rfl (ql_gyes rfl (ql_pure tabOk rfl rfl (ql_gyes rfl (ql_pure tabOk rfl rfl (ql_gyes rfl (ql_eqlT tabOk rfl rfl rfl (by omega) (ql_gyes rfl (ql_pure tabOk rfl rfl ?_))))))))); (iterate 5 refine ql_gno rfl rfl rfl ?_); refine ql_gyes rfl (ql_pure tabOk rfl rfl (ql_pure tabOk rfl rfl (q_nil (q_cond_true rfl (q_region (ql_pure tabOk rfl rfl (ql_pure tabOk rfl rfl ?_))))))))
          skip
          refine ql_indexA (len := 8) o_arr rfl rfl rfl (by omega) (by omega) ?_
          skip
          refine ql_indexA (len := 8) r_arr rfl rfl rfl (by omega) (by omega) ?_
          skip
          refine ql_store1 tabOk rfl rfl rfl rfl (by repeat constructor) (by rw [oC_len]; omega) ?_
          (refine q_nil (q_blk (q_region (ql_ar tabOk rfl rfl rfl rfl (by omega) (by omega) (ql_pure tabOk rfl rfl (q_nil ?_))))))
          exact hK2 (b + 1) _ _ (by omega) (by omega) ⟨rfl, rfl, rfl, rfl, rfl, rfl, rfl, rfl, trivial⟩ (by rw [show 8 * a + (b + 1) = 8 * a + b + 1 from by omega, ← oC_pO_succ o p (8 * a + b) (by omega) (by rw [hbit]; simp [*]), show 0 + (a : Int).toNat * 8 + (b : Int).toNat * 1 = 8 * a + b from by omega]; repeat constructor)
        · (refine q_skip (q_seq (q_block (q_seq (q_region (ql_pure tabOk rfl rfl (ql_pure tabOk rfl rfl (q_nil (q_seq (q_region (ql_pure tabOk rfl rfl (ql_pure tabOk rfl rfl ?_))))))))))); refine ql_eqlT tabOk rfl rfl rfl (by omega) (ql_pure tabOk rfl rfl ?_); (iterate 5 refine ql_gno rfl rfl rfl ?_); refine ql_pure tabOk rfl rfl (ql_pure tabOk rfl rfl (ql_gyes rfl (ql_pure tabOk rfl rfl (ql_gyes rfl (ql_pure tabOk rfl rfl (ql_gyes rfl (ql_eqlF tabOk rfl rfl rfl (by omega) (ql_gyes rfl (ql_pure tabOk rfl rfl (ql_gyes rfl (ql_pure tabOk rfl rfl ?_))))))))))); refine ql_gyes rfl (ql_pure tabOk rfl rfl (ql_gyes rfl ?_)))
          refine ql_indexA (len := 8) o_arr rfl rfl rfl (by omega) (by omega) ?_
          (refine ql_gyes rfl ?_)
          refine ql_indexA (len := 8) r_arr rfl rfl rfl (by omega) (by omega) ?_
          (refine ql_gyes rfl ?_)
          refine ql_load1 (v := .bool (fa o s b)) tabOk rfl rfl rfl (fun w hs => o_cell hs (b := b3) (by repeat constructor) s b hs8 hb2 (by omega)) ?_
          cases hx2 : fa o s b with
          | true =>
            (refine ql_gyes rfl (ql_pure tabOk rfl rfl (ql_pure tabOk rfl rfl (q_nil (q_cond_true rfl (q_region (ql_pure tabOk rfl rfl (ql_pure tabOk rfl rfl ?_))))))))
            refine ql_indexA (len := 8) o_arr rfl rfl rfl (by omega) (by omega) ?_
            skip
            refine ql_indexA (len := 8) r_arr rfl rfl rfl (by omega) (by omega) ?_
            skip
            refine ql_store1 tabOk rfl rfl rfl rfl (by repeat constructor) (by rw [oC_len]; omega) ?_
            (refine q_nil (q_blk (q_region (ql_ar tabOk rfl rfl rfl rfl (by omega) (by omega) (ql_pure tabOk rfl rfl (q_nil ?_))))))
            exact hK2 (b + 1) _ _ (by omega) (by omega) ⟨rfl, rfl, rfl, rfl, rfl, rfl, rfl, rfl, trivial⟩ (by rw [show 8 * a + (b + 1) = 8 * a + b + 1 from by omega, ← oC_pO_succ o p (8 * a + b) (by omega) (by rw [hbit]; simp [*]), show 0 + (a : Int).toNat * 8 + (b : Int).toNat * 1 = 8 * a + b from by omega]; repeat constructor)
          | false =>
            (refine ql_gyes rfl (ql_pure tabOk rfl rfl (ql_pure tabOk rfl rfl (q_nil (q_cond_false rfl (q_skip (q_blk (q_region (ql_ar tabOk rfl rfl rfl rfl (by omega) (by omega) (ql_pure tabOk rfl rfl (q_nil ?_)))))))))))
            exact hK2 (b + 1) _ _ (by omega) (by omega) ⟨rfl, rfl, rfl, rfl, rfl, rfl, rfl, rfl, trivial⟩ (by rw [show 8 * a + (b + 1) = 8 * a + b + 1 from by omega, ← oC_pO_same o p (8 * a + b) (by rw [hbit]; simp [*])]; repeat constructor)
      · (refine q_skip (q_seq (q_block (q_seq (q_region (ql_pure tabOk rfl rfl (ql_pure tabOk rfl rfl (q_nil (q_seq (q_region (ql_pure tabOk rfl rfl (ql_pure tabOk rfl rfl ?_))))))))))); refine ql_eqlF tabOk rfl rfl rfl (by omega) (ql_pure tabOk rfl rfl (ql_gyes rfl (ql_pure tabOk rfl rfl (ql_gyes rfl (ql_pure tabOk rfl rfl (ql_gyes rfl ?_)))))))
        refine ql_indexA (len := 8) o_arr rfl rfl rfl (by omega) (by omega) ?_
        (refine ql_gyes rfl ?_)
        refine ql_indexA (len := 8) r_arr rfl rfl rfl (by omega) (by omega) ?_
        (refine ql_gyes rfl ?_)
        refine ql_load1 (v := .bool (fa o a f)) tabOk rfl rfl rfl (fun w hs => o_cell hs (b := b3) (by repeat constructor) a f ha2 hf (by omega)) ?_
        cases hx1 : fa o a f with
        | true =>
          by_cases hb3 : b = s
          · (refine ql_pure tabOk rfl rfl (ql_pure tabOk rfl rfl (ql_gyes rfl (ql_pure tabOk rfl rfl (ql_gyes rfl (ql_pure tabOk rfl rfl (ql_gyes rfl (ql_eqlT tabOk rfl rfl rfl (by omega) (ql_gyes rfl (ql_pure tabOk rfl rfl ?_))))))))); (iterate 5 refine ql_gno rfl rfl rfl ?_); refine ql_gyes rfl (ql_pure tabOk rfl rfl (ql_pure tabOk rfl rfl (q_nil (q_cond_true rfl (q_region (ql_pure tabOk rfl rfl (ql_pure tabOk rfl rfl ?_))))))))
            skip
            refine ql_indexA (len := 8) o_arr rfl rfl rfl (by omega) (by omega) ?_
            skip
            refine ql_indexA (len := 8) r_arr rfl rfl rfl (by omega) (by omega) ?_
            skip
            refine ql_store1 tabOk rfl rfl rfl rfl (by repeat constructor) (by rw [oC_len]; omega) ?_
            (refine q_nil (q_blk (q_region (ql_ar tabOk rfl rfl rfl rfl (by omega) (by omega) (ql_pure tabOk rfl rfl (q_nil ?_))))))
            exact hK2 (b + 1) _ _ (by omega) (by omega) ⟨rfl, rfl, rfl, rfl, rfl, rfl, rfl, rfl, trivial⟩ (by rw [show 8 * a + (b + 1) = 8 * a + b + 1 from by omega, ← oC_pO_succ o p (8 * a + b) (by omega) (by rw [hbit]; simp [*]), show 0 + (a : Int).toNat * 8 + (b : Int).toNat * 1 = 8 * a + b from by omega]; repeat constructor)
          · (refine ql_pure tabOk rfl rfl (ql_pure tabOk rfl rfl (ql_gyes rfl (ql_pure tabOk rfl rfl (ql_gyes rfl (ql_pure tabOk rfl rfl (ql_gyes rfl (ql_eqlF tabOk rfl rfl rfl (by omega) (ql_gyes rfl (ql_pure tabOk rfl rfl (ql_gyes rfl (ql_pure tabOk rfl rfl ?_))))))))))); refine ql_gyes rfl (ql_pure tabOk rfl rfl (ql_gyes rfl ?_)))
            refine ql_indexA (len := 8) o_arr rfl rfl rfl (by omega) (by omega) ?_
            (refine ql_gyes rfl ?_)
            refine ql_indexA (len := 8) r_arr rfl rfl rfl (by omega) (by omega) ?_
            (refine ql_gyes rfl ?_)
            refine ql_load1 (v := .bool (fa o s b)) tabOk rfl rfl rfl (fun w hs => o_cell hs (b := b3) (by repeat constructor) s b hs8 hb2 (by omega)) ?_
            cases hx2 : fa o s b with
            | true =>
              (refine ql_gyes rfl (ql_pure tabOk rfl rfl (ql_pure tabOk rfl rfl (q_nil (q_cond_true rfl (q_region (ql_pure tabOk rfl rfl (ql_pure tabOk rfl rfl ?_))))))))
              refine ql_indexA (len := 8) o_arr rfl rfl rfl (by omega) (by omega) ?_
              skip
              refine ql_indexA (len := 8) r_arr rfl rfl rfl (by omega) (by omega) ?_
              skip
              refine ql_store1 tabOk rfl rfl rfl rfl (by repeat constructor) (by rw [oC_len]; omega) ?_
              (refine q_nil (q_blk (q_region (ql_ar tabOk rfl rfl rfl rfl (by omega) (by omega) (ql_pure tabOk rfl rfl (q_nil ?_))))))
              exact hK2 (b + 1) _ _ (by omega) (by omega) ⟨rfl, rfl, rfl, rfl, rfl, rfl, rfl, rfl, trivial⟩ (by rw [show 8 * a + (b + 1) = 8 * a + b + 1 from by omega, ← oC_pO_succ o p (8 * a + b) (by omega) (by rw [hbit]; simp [*]), show 0 + (a : Int).toNat * 8 + (b : Int).toNat * 1 = 8 * a + b from by omega]; repeat constructor)
            | false =>
              (refine ql_gyes rfl (ql_pure tabOk rfl rfl (ql_pure tabOk rfl rfl (q_nil (q_cond_false rfl (q_skip (q_blk (q_region (ql_ar tabOk rfl rfl rfl rfl (by omega) (by omega) (ql_pure tabOk rfl rfl (q_nil ?_)))))))))))
              exact hK2 (b + 1) _ _ (by omega) (by omega) ⟨rfl, rfl, rfl, rfl, rfl, rfl, rfl, rfl, trivial⟩ (by rw [show 8 * a + (b + 1) = 8 * a + b + 1 from by omega, ← oC_pO_same o p (8 * a + b) (by rw [hbit]; simp [*])]; repeat constructor)
        | false =>
          (refine ql_pure tabOk rfl rfl (ql_pure tabOk rfl rfl ?_); (iterate 4 refine ql_gno rfl rfl rfl ?_); (iterate 5 refine ql_gnone rfl rfl ?_); refine ql_gno rfl rfl rfl (ql_pure tabOk rfl rfl (q_nil (q_cond_false rfl (q_skip (q_blk (q_region (ql_ar tabOk rfl rfl rfl rfl (by omega) (by omega) (ql_pure tabOk rfl rfl (q_nil ?_))))))))))
          exact hK2 (b + 1) _ _ (by omega) (by omega) ⟨rfl, rfl, rfl, rfl, rfl, rfl, rfl, rfl, trivial⟩ (by rw [show 8 * a + (b + 1) = 8 * a + b + 1 from by omega, ← oC_pO_same o p (8 * a + b) (by rw [hbit]; simp [*])]; repeat constructor)
    · have hb8 : b = 8 := by omega
      subst hb8
      clear hc hK2 hb
      (refine q_exit _ rfl (q_blk (q_region (ql_ar tabOk rfl rfl rfl rfl (by omega) (by omega) (ql_pure tabOk rfl rfl (q_nil ?_))))))
      exact hK (a + 1) _ _ (by omega) (by omega) ⟨rfl, rfl, rfl, rfl, rfl, rfl, trivial⟩ (by rw [show 8 * (a + 1) = 8 * a + 8 from by omega]; repeat constructor)
  · have ha8 : a = 8 := by omega
    subst ha8
    clear hc hK ha
    rw [show 8 * 8 = 64 from rfl, oC_pO64]
    (refine q_exit _ rfl (q_seq (q_region ?_)); refine ql_loadABa tabOk rfl rfl rfl ?_)
    rw [oC_take]
    refine ql_setA tabOk rfl rfl rfl (oC_len p) (List.all_eq_true.2 (oC_one p)) (by repeat constructor) hl6 ?_
    (refine q_nil (q_ret ?_))
    refine q_fin tabOk rfl (by repeat constructor) fun w hs => ?_
    exact ⟨by rw [hp]; rfl, hs.chg0⟩
end Go.Proofs.Ytllldihodgdcjaa

/- Walks: places in an order; whether the first places are known; the desk. -/
namespace Go.Proofs.Ytllldihodgdcjaa
open Go Go.Eng

theorem upN_succ (o s k : Nat) : upN o s (k + 1) = upN o s k + (if fa o k s = true then 1 else 0) := by
  unfold upN
  rw [List.range_succ, List.filter_append, List.length_append]
  congr 1
  by_cases h : fa o k s = true <;> simp [h]
theorem dnN_succ (o s k : Nat) : dnN o s (k + 1) = dnN o s k + (if fa o s k = true then 1 else 0) := by
  unfold dnN
  rw [List.range_succ, List.filter_append, List.length_append]
  congr 1
  by_cases h : fa o s k = true <;> simp [h]
theorem upN_le (o s k : Nat) : upN o s k ≤ k := by
  have := List.length_filter_le (fun t => fa o t s) (List.range k)
  simpa [upN] using this
theorem dnN_le (o s k : Nat) : dnN o s k ≤ k := by
  have := List.length_filter_le (fun t => fa o s t) (List.range k)
  simpa [dnN] using this
theorem place_ca (w : World) (o s n : Nat) (hs8 : s < 8) (hn8 : n ≤ 8) : Ca Try.prog 14 [.agg (oC o).toArray, .int .i64 s, .int .i64 n] w fun v w' => v = .tuple #[.int .i64 (upN o s n), .int .i64 (dnN o s n)] ∧ Chg [] w w' := by
  refine q_of (Sat.nil w M0) Try.func14 rfl (by simp [Try.ntmps14]) ?_
  (refine q_seq (q_region ?_))
  refine ql_box rfl rfl (fun b3 => ?_)
  rw [agg_cells]
  (refine ql_pure tabOk rfl rfl (ql_pure tabOk rfl rfl (q_nil (q_seq (q_region (ql_pure tabOk rfl rfl (ql_pure tabOk rfl rfl (q_nil (q_seq (q_seq (q_region (ql_pure tabOk rfl rfl ?_))))))))))); refine ql_pure tabOk rfl rfl (q_nil (q_block ?_)))
  refine q_loop (σ := Nat) (fun k => k ≤ n) (fun k => n - k) (fun k => [(1, .int .i64 s), (3, .pointer (some ⟨b3, 0, none⟩)), (8, .int .i64 (upN o s k)), (9, .int .i64 (dnN o s k)), (11, .int .i64 n), (12, .int .i64 k)]) (fun k => [.pt b3 (oC o) 60]) 0 (by omega) ⟨rfl, rfl, rfl, rfl, rfl, rfl, trivial⟩ (by repeat constructor) ?_
  rintro k hk K hK
  (refine q_seq (q_region (ql_pure tabOk rfl rfl (q_nil (q_seq ?_)))))
  refine q_if rfl (fun hc => ?_) (fun hc => ?_)
  · have hk2 : k < n := by omega
    clear hc
    have h1 := upN_le o s k
    have h2 := dnN_le o s k
    have e1 := upN_succ o s k
    have e2 := dnN_succ o s k
    (refine q_skip (q_seq (q_block (q_seq (q_region (ql_pure tabOk rfl rfl (ql_pure tabOk rfl rfl (q_nil (q_seq (q_seq (q_region (ql_pure tabOk rfl rfl ?_))))))))))); refine ql_pure tabOk rfl rfl ?_)
    refine ql_indexA (len := 8) o_arr rfl rfl rfl (by omega) (by omega) ?_
    skip
    refine ql_indexA (len := 8) r_arr rfl rfl rfl (by omega) (by omega) ?_
    skip
    refine ql_load1 (v := .bool (fa o k s)) tabOk rfl rfl rfl (fun w hs => o_cell hs (b := b3) (by repeat constructor) k s (by omega) hs8 (by omega)) ?_
    cases hx1 : fa o k s with
    | true =>
      rw [hx1, if_pos rfl] at e1
      (refine q_nil (q_cond_true rfl (q_region (ql_pure tabOk rfl rfl (ql_ar tabOk rfl rfl rfl rfl (by omega) (by omega) (ql_pure tabOk rfl rfl (q_nil (q_seq (q_region (ql_pure tabOk rfl rfl (ql_pure tabOk rfl rfl ?_)))))))))))
      refine ql_indexA (len := 8) o_arr rfl rfl rfl (by omega) (by omega) ?_
      skip
      refine ql_indexA (len := 8) r_arr rfl rfl rfl (by omega) (by omega) ?_
      skip
      refine ql_load1 (v := .bool (fa o s k)) tabOk rfl rfl rfl (fun w hs => o_cell hs (b := b3) (by repeat constructor) s k hs8 (by omega) (by omega)) ?_
      cases hx2 : fa o s k with
      | true =>
        rw [hx2, if_pos rfl] at e2
        (refine q_nil (q_cond_true rfl (q_region (ql_pure tabOk rfl rfl (ql_ar tabOk rfl rfl rfl rfl (by omega) (by omega) (ql_pure tabOk rfl rfl (q_nil (q_blk (q_region (ql_ar tabOk rfl rfl rfl rfl (by omega) (by omega) (ql_pure tabOk rfl rfl (q_nil ?_))))))))))))
        exact hK (k + 1) _ _ (by omega) (by omega) ⟨rfl, rfl, by rw [e1]; rfl, by rw [e2]; rfl, rfl, rfl, trivial⟩ (by repeat constructor)
      | false =>
        rw [hx2, if_neg (by decide)] at e2
        (refine q_nil (q_cond_false rfl (q_skip (q_blk (q_region (ql_ar tabOk rfl rfl rfl rfl (by omega) (by omega) (ql_pure tabOk rfl rfl (q_nil ?_))))))))
        exact hK (k + 1) _ _ (by omega) (by omega) ⟨rfl, rfl, by rw [e1]; rfl, by rw [e2]; rfl, rfl, rfl, trivial⟩ (by repeat constructor)
    | false =>
      rw [hx1, if_neg (by decide)] at e1
      (refine q_nil (q_cond_false rfl (q_skip (q_seq (q_region (ql_pure tabOk rfl rfl (ql_pure tabOk rfl rfl ?_)))))))
      refine ql_indexA (len := 8) o_arr rfl rfl rfl (by omega) (by omega) ?_
      skip
      refine ql_indexA (len := 8) r_arr rfl rfl rfl (by omega) (by omega) ?_
      skip
      refine ql_load1 (v := .bool (fa o s k)) tabOk rfl rfl rfl (fun w hs => o_cell hs (b := b3) (by repeat constructor) s k hs8 (by omega) (by omega)) ?_
      cases hx2 : fa o s k with
      | true =>
        rw [hx2, if_pos rfl] at e2
        (refine q_nil (q_cond_true rfl (q_region (ql_pure tabOk rfl rfl (ql_ar tabOk rfl rfl rfl rfl (by omega) (by omega) (ql_pure tabOk rfl rfl (q_nil (q_blk (q_region (ql_ar tabOk rfl rfl rfl rfl (by omega) (by omega) (ql_pure tabOk rfl rfl (q_nil ?_))))))))))))
        exact hK (k + 1) _ _ (by omega) (by omega) ⟨rfl, rfl, by rw [e1]; rfl, by rw [e2]; rfl, rfl, rfl, trivial⟩ (by repeat constructor)
      | false =>
        rw [hx2, if_neg (by decide)] at e2
        (refine q_nil (q_cond_false rfl (q_skip (q_blk (q_region (ql_ar tabOk rfl rfl rfl rfl (by omega) (by omega) (ql_pure tabOk rfl rfl (q_nil ?_))))))))
        exact hK (k + 1) _ _ (by omega) (by omega) ⟨rfl, rfl, by rw [e1]; rfl, by rw [e2]; rfl, rfl, rfl, trivial⟩ (by repeat constructor)
  · have hkn : k = n := by omega
    subst hkn
    (refine q_exit _ rfl (q_seq (q_region ?_)); (iterate 4 refine ql_pure tabOk rfl rfl ?_); refine q_nil (q_ret ?_))
    refine q_fin tabOk rfl (by repeat constructor) fun w hs => ?_
    exact ⟨rfl, hs.chg0⟩

def sureB (o n place s : Nat) : Bool := upN o s n == place && (dnN o s n + 1 + place == n && true)
def sureP (o n place j : Nat) : Bool := (List.range j).any (sureB o n place) && true
theorem sureP_succ (o n place j : Nat) : sureP o n place (j + 1) = (sureP o n place j || sureB o n place j) := by simp [sureP, List.range_succ, List.any_append]
def knP' (o n p : Nat) : Bool := (List.range p).all fun place => sureP o n place n
theorem known_eq (o n k : Nat) : knownO o n k = knP' o n k := by
  unfold knownO knP' sureP sureB
  simp
theorem known_ca (w : World) (o n k : Nat) (hn8 : n ≤ 8) (hk8 : k ≤ n) : Ca Try.prog 17 [.agg (oC o).toArray, .int .i64 n, .int .i64 k] w fun v w' => v = .bool (knownO o n k) ∧ Chg [] w w' := by
  refine q_of (Sat.nil w M0) Try.func17 rfl (by simp [Try.ntmps17]) ?_
  (refine q_seq (q_region ?_))
  refine ql_box rfl rfl (fun b3 => ?_)
  rw [agg_cells]
  (refine ql_pure tabOk rfl rfl (q_nil (q_seq (q_seq (q_region (ql_pure tabOk rfl rfl (ql_pure tabOk rfl rfl (q_nil (q_block ?_)))))))))
  refine q_loop (σ := Nat) (fun p => p ≤ k ∧ knP' o n p = true) (fun p => k - p) (fun p => [(1, .int .i64 n), (3, .pointer (some ⟨b3, 0, none⟩)), (12, .int .i64 k), (13, .int .i64 p)]) (fun p => [.pt b3 (oC o) 60]) 0 ⟨by omega, rfl⟩ ⟨rfl, rfl, rfl, rfl, trivial⟩ (by repeat constructor) ?_
  rintro p ⟨hp, hkp⟩ K hK
  (refine q_seq (q_region (ql_pure tabOk rfl rfl (q_nil (q_seq ?_)))))
  refine q_if rfl (fun hc => ?_) (fun hc => ?_)
  · have hp2 : p < k := by omega
    clear hc
    (refine q_skip (q_seq (q_block (q_seq (q_region (ql_pure tabOk rfl rfl (ql_pure tabOk rfl rfl (q_nil (q_seq (q_region (ql_pure tabOk rfl rfl (q_nil ?_))))))))))); refine q_seq (q_seq (q_region (ql_pure tabOk rfl rfl (ql_pure tabOk rfl rfl (q_nil (q_block ?_)))))))
    refine q_loop (σ := Nat) (fun j => j ≤ n) (fun j => n - j) (fun j => [(1, .int .i64 n), (3, .pointer (some ⟨b3, 0, none⟩)), (7, .int .i64 p), (8, .bool (sureP o n p j)), (12, .int .i64 k), (13, .int .i64 p), (16, .int .i64 n), (17, .int .i64 j)]) (fun j => [.pt b3 (oC o) 60]) 0 (by omega) ⟨rfl, rfl, rfl, rfl, rfl, rfl, rfl, rfl, trivial⟩ (by repeat constructor) ?_
    rintro j hj K2 hK2
    (refine q_seq (q_region (ql_pure tabOk rfl rfl (q_nil (q_seq ?_)))))
    refine q_if rfl (fun hc => ?_) (fun hc => ?_)
    · have hj2 : j < n := by omega
      clear hc
      have e1 := sureP_succ o n p j
      (refine q_skip (q_seq (q_block (q_seq (q_region (ql_pure tabOk rfl rfl (ql_pure tabOk rfl rfl (q_nil (q_seq (q_region ?_))))))))); refine ql_loadABa tabOk rfl rfl rfl ?_; refine ql_pure tabOk rfl rfl (ql_pure tabOk rfl rfl ?_))
      rw [oC_take]
      refine ql_callv tabOk rfl rfl rfl rfl (fun w hs => place_ca w o j n (by omega) hn8) ?_
      have h1 := upN_le o j n
      have h2 := dnN_le o j n
      cases hx : sureP o n p j with
      | true =>
        rw [hx] at e1
        (refine ql_pure tabOk rfl rfl (ql_ext tabOk rfl rfl rfl (ql_ext tabOk rfl rfl rfl (ql_pure tabOk rfl rfl (ql_pure tabOk rfl rfl (q_nil (q_region (ql_pure tabOk rfl rfl (ql_pure tabOk rfl rfl ?_)))))))); (iterate 4 refine ql_gno rfl rfl rfl ?_); (iterate 6 refine ql_gnone rfl rfl ?_); refine ql_gno rfl rfl rfl (ql_pure tabOk rfl rfl (ql_pure tabOk rfl rfl (q_nil (q_blk (q_region (ql_ar tabOk rfl rfl rfl rfl (by omega) (by omega) (ql_pure tabOk rfl rfl (q_nil ?_)))))))))
        exact hK2 (j + 1) _ _ (by omega) (by omega) ⟨rfl, rfl, rfl, by rw [e1]; rfl, rfl, rfl, rfl, rfl, trivial⟩ (by repeat constructor)
      | false =>
        rw [hx, Bool.false_or] at e1
        unfold sureB at e1
        by_cases hu : upN o j n = p
        · by_cases hd : dnN o j n + 1 + p = n
          · have e2 : sureP o n p (j + 1) = true := by rw [e1]; simp [hu, hd]
            (refine ql_pure tabOk rfl rfl (ql_ext tabOk rfl rfl rfl (ql_ext tabOk rfl rfl rfl (ql_pure tabOk rfl rfl (ql_pure tabOk rfl rfl (q_nil (q_region (ql_pure tabOk rfl rfl (ql_pure tabOk rfl rfl (ql_gyes rfl (ql_pure tabOk rfl rfl (ql_gyes rfl ?_))))))))))); refine ql_pure tabOk rfl rfl (ql_gyes rfl (ql_eqlT tabOk rfl rfl rfl (by omega) (ql_gyes rfl (ql_pure tabOk rfl rfl (ql_gyes rfl (ql_pure tabOk rfl rfl (ql_gyes rfl (ql_pure tabOk rfl rfl (ql_gyes rfl (ql_ar tabOk rfl rfl rfl rfl (by omega) (by omega) (ql_gyes rfl ?_))))))))))); refine ql_pure tabOk rfl rfl (ql_gyes rfl (ql_ar tabOk rfl rfl rfl rfl (by omega) (by omega) (ql_gyes rfl (ql_eqlT tabOk rfl rfl rfl (by omega) (ql_gyes rfl ?_))))); (iterate 3 refine ql_pure tabOk rfl rfl ?_); refine q_nil (q_blk (q_region (ql_ar tabOk rfl rfl rfl rfl (by omega) (by omega) (ql_pure tabOk rfl rfl (q_nil ?_))))))
            exact hK2 (j + 1) _ _ (by omega) (by omega) ⟨rfl, rfl, rfl, by rw [e2]; rfl, rfl, rfl, rfl, rfl, trivial⟩ (by repeat constructor)
          · have e2 : sureP o n p (j + 1) = false := by rw [e1]; simp [hd]
            (refine ql_pure tabOk rfl rfl (ql_ext tabOk rfl rfl rfl (ql_ext tabOk rfl rfl rfl (ql_pure tabOk rfl rfl (ql_pure tabOk rfl rfl (q_nil (q_region (ql_pure tabOk rfl rfl (ql_pure tabOk rfl rfl (ql_gyes rfl (ql_pure tabOk rfl rfl (ql_gyes rfl ?_))))))))))); refine ql_pure tabOk rfl rfl (ql_gyes rfl (ql_eqlT tabOk rfl rfl rfl (by omega) (ql_gyes rfl (ql_pure tabOk rfl rfl (ql_gyes rfl (ql_pure tabOk rfl rfl (ql_gyes rfl (ql_pure tabOk rfl rfl (ql_gyes rfl (ql_ar tabOk rfl rfl rfl rfl (by omega) (by omega) (ql_gyes rfl ?_))))))))))); refine ql_pure tabOk rfl rfl (ql_gyes rfl (ql_ar tabOk rfl rfl rfl rfl (by omega) (by omega) (ql_gyes rfl (ql_eqlF tabOk rfl rfl rfl (by omega) (ql_gyes rfl ?_))))); (iterate 3 refine ql_pure tabOk rfl rfl ?_); refine q_nil (q_blk (q_region (ql_ar tabOk rfl rfl rfl rfl (by omega) (by omega) (ql_pure tabOk rfl rfl (q_nil ?_))))))
            exact hK2 (j + 1) _ _ (by omega) (by omega) ⟨rfl, rfl, rfl, by rw [e2]; rfl, rfl, rfl, rfl, rfl, trivial⟩ (by repeat constructor)
        · have e2 : sureP o n p (j + 1) = false := by rw [e1]; simp [hu]
          (refine ql_pure tabOk rfl rfl (ql_ext tabOk rfl rfl rfl (ql_ext tabOk rfl rfl rfl (ql_pure tabOk rfl rfl (ql_pure tabOk rfl rfl (q_nil (q_region (ql_pure tabOk rfl rfl (ql_pure tabOk rfl rfl (ql_gyes rfl (ql_pure tabOk rfl rfl (ql_gyes rfl ?_))))))))))); refine ql_pure tabOk rfl rfl (ql_gyes rfl (ql_eqlF tabOk rfl rfl rfl (by omega) (ql_gyes rfl (ql_pure tabOk rfl rfl ?_)))); (iterate 6 refine ql_gno rfl rfl rfl ?_); refine ql_gyes rfl ?_; (iterate 3 refine ql_pure tabOk rfl rfl ?_); refine q_nil (q_blk (q_region (ql_ar tabOk rfl rfl rfl rfl (by omega) (by omega) (ql_pure tabOk rfl rfl (q_nil ?_))))))
          exact hK2 (j + 1) _ _ (by omega) (by omega) ⟨rfl, rfl, rfl, by rw [e2]; rfl, rfl, rfl, rfl, rfl, trivial⟩ (by repeat constructor)
    · have hjn : j = n := by omega
      subst hjn
      clear hc hK2 hj
      (refine q_exit _ rfl (q_seq (q_region (ql_pure tabOk rfl rfl (ql_pure tabOk rfl rfl (q_nil ?_))))))
      cases hx : sureP o j p j with
      | true =>
        (refine q_cond_false rfl (q_skip (q_blk (q_region (ql_ar tabOk rfl rfl rfl rfl (by omega) (by omega) (ql_pure tabOk rfl rfl (q_nil ?_)))))))
        exact hK (p + 1) _ _ ⟨by omega, by unfold knP' at hkp ⊢; rw [List.range_succ, List.all_append, hkp]; simp [hx]⟩ (by omega) ⟨rfl, rfl, rfl, rfl, trivial⟩ (by repeat constructor)
      | false =>
        (refine q_cond_true rfl (q_seq (q_region (ql_pure tabOk rfl rfl (q_nil (q_ret ?_))))))
        refine q_fin tabOk rfl (by repeat constructor) fun w hs => ?_
        refine ⟨?_, hs.chg0⟩
        have : knownO o j k = false := by
          rw [known_eq]
          unfold knP'
          rw [List.all_eq_false]
          exact ⟨p, List.mem_range.2 hp2, by simp [hx]⟩
        rw [this]
        rfl
  · have hpk : p = k := by omega
    subst hpk
    (refine q_exit _ rfl (q_seq (q_region (ql_pure tabOk rfl rfl (q_nil (q_ret ?_))))))
    refine q_fin tabOk rfl (by repeat constructor) fun w hs => ?_
    exact ⟨by rw [known_eq, hkp]; rfl, hs.chg0⟩
end Go.Proofs.Ytllldihodgdcjaa

/- Walks: a lab at work. -/
namespace Go.Proofs.Ytllldihodgdcjaa
open Go Go.Eng

/-- A desk as cells. -/
abbrev dkC (l : Lb) (v : Value) (o : Nat) : List Value := .int .i64 l.skis :: .int .i64 l.err :: v :: oC o
theorem dkC_len (l : Lb) (v : Value) (o : Nat) : (dkC l v o).length = 67 := by simp [dkC, oC_len]
theorem d_cell {w : World} {b off : Nat} {l : Lb} {v : Value} {o : Nat} {t : TypeId} (hb : Blk w b (dkC l v o) t) (x y : Nat) (hx : x < 8) (hy : y < 8) (ho : off = 3 + (8 * x + y)) : w.cell? ⟨b, off, none⟩ = some (.bool (fa o x y)) := by
  subst ho
  rw [Blk.cell hb]
  show (Value.int .i64 l.skis :: .int .i64 l.err :: v :: oC o)[3 + (8 * x + y)]? = _
  rw [show 3 + (8 * x + y) = (8 * x + y) + 1 + 1 + 1 from by omega, List.getElem?_cons_succ, List.getElem?_cons_succ, List.getElem?_cons_succ, oC_get _ _ (by omega)]
  rfl
theorem dk_take (l : Lb) (v : Value) (o : Nat) : List.take 64 (List.drop (0 + 3) (dkC l v o)) = oC o := by
  show List.take 64 (oC o) = oC o
  rw [List.take_of_length_le (by rw [oC_len]; omega)]
theorem dk_set (l : Lb) (v : Value) (o p : Nat) : setL (dkC l v o) (0 + 3) (oC p) = dkC l v p := by
  have := setL_all (oC o) (oC p) [.int .i64 l.skis, .int .i64 l.err, v] (by rw [oC_len, oC_len])
  exact this
/-- The first ski that is faster than itself. -/
def confV (o n : Nat) : Int := match (List.range n).find? (fun s => fa o s s) with
  | some s => s
  | none => -1
theorem conf_some {o n s : Nat} (hs : s < n) (h : fa o s s = true) (hb : ∀ t, t < s → fa o t t = false) : confV o n = s := by
  have e : (List.range n).find? (fun s => fa o s s) = some s := List.find?_range_eq_some.2 ⟨h, List.mem_range.2 hs, fun t ht => by simp [hb t ht]⟩
  unfold confV
  rw [e]
theorem conf_none {o n : Nat} (hb : ∀ t, t < n → fa o t t = false) : confV o n = -1 := by
  have e : (List.range n).find? (fun s => fa o s s) = none := List.find?_eq_none.2 (fun t ht => by simp [hb t (List.mem_range.1 ht)])
  unfold confV
  rw [e]
theorem conflict_ca (w : World) (b : Nat) (t : TypeId) (l : Lb) (v : Value) (o : Nat) (hb : Blk w b (dkC l v o) t) (hl : l.Ok) : Ca Try.prog 22 [.pointer (some ⟨b, 0, none⟩)] w fun x w' => x = .int .i64 (confV o l.n) ∧ Chg [] w w' := by
  have h8 := hl.n8
  obtain ⟨n, hn⟩ := Int.eq_ofNat_of_zero_le (show 0 ≤ l.skis by have := hl.s0; omega)
  have hn' : l.n = n := by unfold Lb.n; omega
  rw [hn'] at h8 ⊢
  refine q_of (Sat.nil w M0) Try.func22 rfl (by simp [Try.ntmps22]) ?_
  (refine q_seq (q_region (ql_pure tabOk rfl rfl (q_nil (q_seq (q_seq (q_region ?_)))))); (iterate 4 refine ql_pure tabOk rfl rfl ?_); refine ql_loadP tabOk rfl rfl rfl (by assumption) (by rfl) ?_; refine ql_pure tabOk rfl rfl (q_nil (q_block ?_)))
  rw [hn]
  refine q_loop (σ := Nat) (fun s => s ≤ n ∧ ∀ t, t < s → fa o t t = false) (fun s => n - s) (fun s => [(0, .pointer (some ⟨b, 0, none⟩)), (8, .int .i64 n), (9, .int .i64 s)]) (fun _ => []) 0 ⟨by omega, fun t ht => by omega⟩ ⟨rfl, rfl, rfl, trivial⟩ (by repeat constructor) ?_
  rintro s ⟨hs1, hb1⟩ K hK
  (refine q_seq (q_region (ql_pure tabOk rfl rfl (q_nil (q_seq ?_)))))
  refine q_if rfl (fun hc => ?_) (fun hc => ?_)
  · have hs2 : s < n := by omega
    clear hc
    (refine q_skip (q_seq (q_block (q_seq (q_region (ql_pure tabOk rfl rfl (ql_pure tabOk rfl rfl (q_nil (q_seq (q_region ?_))))))))); (iterate 5 refine ql_pure tabOk rfl rfl ?_))
    refine ql_indexA (len := 8) o_arr rfl rfl rfl (by omega) (by omega) ?_
    skip
    refine ql_indexA (len := 8) r_arr rfl rfl rfl (by omega) (by omega) ?_
    skip
    refine ql_load1 (v := .bool (fa o s s)) tabOk rfl rfl rfl (fun w hs => d_cell (hb.keep hs.chg0) s s (by omega) (by omega) (by omega)) ?_
    cases hx : fa o s s with
    | true =>
      (refine q_nil (q_cond_true rfl (q_seq (q_region (ql_pure tabOk rfl rfl (ql_pure tabOk rfl rfl (q_nil (q_ret ?_))))))))
      refine q_fin tabOk rfl (by repeat constructor) fun w hs => ?_
      exact ⟨by rw [conf_some hs2 hx hb1]; rfl, hs.chg0⟩
    | false =>
      (refine q_nil (q_cond_false rfl (q_skip (q_blk (q_region (ql_ar tabOk rfl rfl rfl rfl (by omega) (by omega) (ql_pure tabOk rfl rfl (q_nil ?_))))))))
      exact hK (s + 1) _ _ ⟨by omega, fun t ht => by
        by_cases e : t = s
        · rw [e]; exact hx
        · exact hb1 t (by omega)⟩ (by omega) ⟨rfl, rfl, rfl, trivial⟩ (by repeat constructor)
  · have hsn : s = n := by omega
    subst hsn
    (refine q_exit _ rfl (q_seq (q_region (ql_pure tabOk rfl rfl (q_nil (q_ret ?_))))))
    refine q_fin tabOk rfl (by repeat constructor) fun w hs => ?_
    exact ⟨by rw [conf_none hb1]; rfl, hs.chg0⟩
/-- The order that what is shown makes. -/
def ordS (xs : List (Nat × Int × Int)) : Nat := orderV (xs.map fun x => (x.2.1.toNat, x.2.2.toNat))
theorem ordS_snoc (xs : List (Nat × Int × Int)) (x : Nat × Int × Int) : ordS (xs ++ [x]) = withO (ordS xs) x.2.1.toNat x.2.2.toNat := by
  unfold ordS
  rw [List.map_append]
  exact order_snoc _ _
theorem shL_in {l : Lb} (hl : l.Ok) : ∀ x ∈ shL l, 0 ≤ x.2.1 ∧ x.2.1 < l.skis ∧ 0 ≤ x.2.2 ∧ x.2.2 < l.skis ∧ x.1 < l.runs.length := fun x hx => by
  obtain ⟨i, hi, h1⟩ := List.mem_filterMap.1 hx
  have hi2 := List.mem_range.1 hi
  rw [List.getD_eq_getElem?_getD, List.getElem?_eq_getElem hi2] at h1
  have hr := hl.run _ (List.getElem_mem hi2)
  obtain ⟨p, hp, rfl⟩ := Option.map_eq_some_iff.1 h1
  have h3 := hr.a0
  have h4 := hr.a1
  have h5 := hr.b0
  have h6 := hr.b1
  simp only [Option.getD_some] at hp
  unfold runI at hp
  split at hp
  · cases hp; exact ⟨h3, h4, h5, h6, hi2⟩
  · split at hp
    · cases hp; exact ⟨h5, h6, h3, h4, hi2⟩
    · cases hp
set_option maxHeartbeats 2000000 in
theorem asked_ok (w : World) (lo hi : Nat) (l : Lb) (v : Value) (h : RdR w lo hi v l.runs) (hl : l.Ok) : Ca Try.prog 21 [.agg (lbC l v).toArray] w fun x w' => ∃ b : Nat, x = .tuple #[.pointer (some ⟨b, 0, none⟩), .int .i64 0] ∧ Sat w M0 [.pt b (dkC l v l.ord) 62] w' := by
  have hc0 := check_iff.2 hl
  have hlen : l.runs.length ≤ maxLen := by have := hl.len; simp only [maxLen]; omega
  refine q_ofM (Sat.nil w M0) Try.func21 rfl (by simp [Try.ntmps21]) ?_
  (refine q_seq (q_region ?_))
  refine ql_box rfl rfl (fun b1 => ?_)
  (refine ql_pure tabOk rfl rfl (ql_pure tabOk rfl rfl (q_nil (q_seq (q_seq (q_region ?_))))); refine ql_loadABa tabOk rfl rfl rfl ?_)
  refine ql_callv (val := .int .i64 0) tabOk rfl rfl rfl rfl (fun w hs => ?_) ?_; exact by have := check_ca w lo hi l v (RdE.keep h hs.chg0) hlen; rw [hc0] at this; exact this
  (refine ql_pure tabOk rfl rfl (q_nil (q_seq (q_region (ql_pure tabOk rfl rfl (ql_neqF tabOk rfl rfl rfl (by omega) (q_nil (q_cond_false rfl (q_skip (q_seq (q_region ?_)))))))))); refine ql_loadABa tabOk rfl rfl rfl ?_)
  refine ql_mk (dkC l v 0).toArray rfl (by kernel_rfl) rfl ?_
  skip
  refine ql_box rfl rfl (fun b15 => ?_)
  rw [agg_cells, agg_cells]
  skip
  refine ql_alloc zero55 rfl (fun b5 => ?_)
  (refine ql_set tabOk rfl rfl rfl rfl (by repeat constructor) ?_; refine q_nil (q_seq (q_seq (q_region ?_))); refine ql_loadABa tabOk rfl rfl rfl ?_)
  refine ql_call (β := Nat) tabOk [] _ M0 rfl rfl rfl rfl (Sp.refl _) (fun _ h => h.elim) (fun w' hs => shown_ca w' l v) ?_
  rintro bs _ rfl
  dsimp only [List.cons_append, List.nil_append]
  (refine q_nil (q_block ?_))
  refine q_range shE Nat (shL l) (fun pre s => s = ordS pre) (fun _ _ => False) (fun s => [.pt b15 (dkC l v s) 62, .pt b5 [.pointer (some ⟨b15, 0, none⟩)] 55]) [.pt bs (lbC l v) 28] 0
    rfl (by kernel_rfl) rfl (fun _ _ => rfl) rfl (by repeat constructor) ?_ ?_ ?_ (fun _ _ _ h => h.elim)
  · intro w1 D hs hD
    exact shown_it w w1 D lo hi bs l v h ⟨hl.e0, hl.e1⟩ (by have := hl.len; omega) (fun w' hc => hs.chg0.old hc (fun k hk => (hD k hk).2.resolve_left (fun h => h))) (hs.blk (by repeat constructor)) (fun h => (hD _ h).1 ⟨.pt bs (lbC l v) _, (by repeat constructor), rfl⟩)
  · intro pre x post s w1 lb rdy bsy K F' hx hI hsat hR hbegin hend hret hexit
    have hxl := shL_in hl x (by rw [hx]; simp)
    have h8 := hl.s1
    obtain ⟨f, hf⟩ := Int.eq_ofNat_of_zero_le hxl.1
    obtain ⟨g, hg⟩ := Int.eq_ofNat_of_zero_le hxl.2.2.1
    obtain ⟨i, p1, p2⟩ := x
    dsimp only at hf hg hxl
    subst hf hg
    dsimp only [shE, List.zip_cons_cons, List.zip_nil_left, List.zip_nil_right, List.foldl_cons, List.foldl_nil]
    (refine q_region ?_)
    refine ql_alloc zero88 rfl (fun b7 => ?_)
    (refine ql_setA tabOk rfl rfl rfl rfl rfl (by repeat constructor) rfl ?_; refine q_nil ?_)
    refine q_conv (H' := [rdy, .pt b7 [.int .i64 f, .int .i64 g] 88, .pt b15 (dkC l v s) 62, .pt b5 [.pointer (some ⟨b15, 0, none⟩)] 55]) (fun w' hs => hs.sp (by repeat constructor)) ?_
    refine hbegin _ _ ?_
    (refine q_block ?_)
    refine q_drawS 12 [bsy, .pt b7 [.int .i64 f, .int .i64 g] 88, .pt b5 [.pointer (some ⟨b15, 0, none⟩)] 55] [.pt b15 (dkC l v s) 62] (by repeat constructor) (by kernel_rfl) (by kernel_rfl) (by kernel_rfl) fun K1 hK1 => ?_
    ((iterate 2 refine qf_loadBa tabOk rfl rfl rfl ?_); refine qf_pure tabOk rfl rfl rfl (qf_pure tabOk rfl rfl rfl ?_); refine qf_loadABa tabOk rfl rfl rfl ?_; refine qf_pure tabOk rfl rfl rfl ?_; refine qf_loadBa tabOk rfl rfl rfl ?_; refine qf_pure tabOk rfl rfl rfl ?_; refine qf_loadBa tabOk rfl rfl rfl ?_)
    rw [dk_take]
    refine qf_callv tabOk rfl rfl rfl rfl (fun w hs => with_ca w s f g (by omega) (by omega)) ?_
    (refine qf_pure tabOk rfl rfl rfl (qf_pure tabOk rfl rfl rfl (qf_nil ?_)))
    refine hK1 _ _ [.pt b15 (dkC l v s) 62] (by repeat constructor) ?_
    skip
    refine qf_stA (dkC l v (withO s f g)) tabOk rfl rfl rfl (oC_len _) (List.all_eq_true.2 (oC_one _)) (by repeat constructor) (dk_set _ _ _ _) (by rw [dkC_len]; rfl) ?_
    (refine qf_nil (q_blk ?_))
    refine hend _ _ (withO s f g) (by rw [hI, ordS_snoc]; rfl) (by repeat constructor)
  · rintro D s rfl
    (refine q_blk (q_seq (q_region ?_)); refine ql_loadBa tabOk rfl rfl rfl ?_; refine ql_pure tabOk rfl rfl (ql_pure tabOk rfl rfl (q_nil (q_ret ?_))))
    refine q_finMD tabOk (by repeat constructor) rfl (by repeat constructor) fun w hs => ?_
    refine ⟨b15, rfl, ?_⟩
    have e : l.ord = ordS (shL l) := by unfold Lb.ord ordS; rw [pairs_sh]
    rw [e]
    exact hs.sp (by repeat constructor)
end Go.Proofs.Ytllldihodgdcjaa

/- Walks: a lab whose runs do not contradict each other; sets; places; how many orders fit. -/
namespace Go.Proofs.Ytllldihodgdcjaa
open Go Go.Eng

theorem agreed_ok (w : World) (lo hi : Nat) (l : Lb) (v : Value) (h : RdR w lo hi v l.runs) (hl : l.Ok) (hn : NoC l.ord l.n) : Ca Try.prog 13 [.agg (lbC l v).toArray] w fun x w' => ∃ b : Nat, x = .tuple #[.pointer (some ⟨b, 0, none⟩), .int .i64 0] ∧ Sat w M0 [.pt b (dkC l v l.ord) 62] w' := by
  refine q_of (Sat.nil w M0) Try.func13 rfl (by simp [Try.ntmps13]) ?_
  (refine q_seq (q_region ?_))
  refine ql_box rfl rfl (fun b1 => ?_)
  rw [agg_cells]
  (refine ql_pure tabOk rfl rfl (ql_pure tabOk rfl rfl (q_nil (q_seq (q_region ?_)))); refine ql_loadABa tabOk rfl rfl rfl ?_)
  have hcv : confV l.ord l.n = -1 := conf_none hn
  refine ql_call (β := Nat) tabOk [] _ M0 rfl rfl rfl rfl (Sp.refl _) (fun _ h => h.elim) (fun w' hs => asked_ok w' lo hi l v (RdE.keep h hs.chg0) hl) ?_
  rintro b _ rfl
  dsimp only [List.cons_append, List.nil_append]
  (refine ql_pure tabOk rfl rfl (ql_ext tabOk rfl rfl rfl (ql_ext tabOk rfl rfl rfl (ql_pure tabOk rfl rfl (ql_pure tabOk rfl rfl (q_nil (q_seq (q_seq (q_region (ql_pure tabOk rfl rfl (ql_eqlT tabOk rfl rfl rfl (by omega) (ql_pure tabOk rfl rfl ?_))))))))))); refine ql_gyes rfl (ql_pure tabOk rfl rfl (ql_gyes rfl ?_)))
  refine ql_callv (val := .int .i64 (-1)) tabOk rfl rfl rfl rfl (fun w hs => ?_) ?_; exact by have := conflict_ca w b _ l v l.ord (hs.blk (by repeat constructor)) hl; rw [hcv] at this; exact this
  (refine ql_gyes rfl (ql_geqF tabOk rfl rfl rfl (by omega) (ql_pure tabOk rfl rfl (q_nil (q_cond_false rfl (q_skip (q_seq (q_region ?_))))))); (iterate 4 refine ql_pure tabOk rfl rfl ?_); refine q_nil (q_ret ?_))
  refine q_fin tabOk rfl (by repeat constructor) fun w hs => ?_
  exact ⟨b, rfl, hs.sp (by repeat constructor)⟩
end Go.Proofs.Ytllldihodgdcjaa

/- The engine, part B29: bits of numbers joined. -/
namespace Go.Eng
open Go Go.RowKit

section
variable {P : Program} {ro : Cx} {n : Nat} {F : Fin} {w0 : World} {M : Nat → Prop} {k : List It} {ops : Array Oper} {rest : List Oper} {e : Env} {H Hq : List Ck}
theorem bit_int (S s : Nat) : ((S : Int) / 2 ^ (s : Int).toNat) % 2 = ((S.testBit s).toNat : Int) := by
  rw [Nat.toNat_testBit, Int.toNat_natCast]
  norm_cast
theorem run_orN {a b : Nat} (ha : a < 9223372036854775808) (hb : b < 9223372036854775808) (w : World) : (Op.intBits .or .i64 (a : Int) (b : Int)).run P w = .ok (.int .i64 ((a ||| b : Nat) : Int)) w := by
  have h1 : (BitVec.ofInt IntKind.i64.bits (a : Int) ||| BitVec.ofInt IntKind.i64.bits (b : Int)).toNat = a ||| b := by
    rw [BitVec.toNat_or]
    have h1 : (BitVec.ofInt IntKind.i64.bits (a : Int)).toNat = a := by
      show (BitVec.ofInt 64 (a : Int)).toNat = a
      simp [BitVec.toNat_ofInt]; omega
    have h2 : (BitVec.ofInt IntKind.i64.bits (b : Int)).toNat = b := by
      show (BitVec.ofInt 64 (b : Int)).toNat = b
      simp [BitVec.toNat_ofInt]; omega
    rw [h1, h2]
  have h2 : a ||| b < 2 ^ 63 := Nat.or_lt_two_pow (by simpa using ha) (by simpa using hb)
  simp only [Op.intBits]
  rw [h1, w64 (by omega) (by omega)]
  rfl
theorem ql_orN {d t t' : Nat} {x y : Operand} {a b : Nat} {ty : TypeId} {pos : String} {af : Array Edge} (hx : opv e x = some (.int .i64 a)) (hy : opv e y = some (.int .i64 b)) (hd : Nat.blt d n = true) (ha : a < 9223372036854775808) (hb : b < 9223372036854775808)
    (h : QL P ro n F w0 M k ops rest ((d, .int .i64 ((a ||| b : Nat) : Int)) :: e) H) : QL P ro n F w0 M k ops (⟨some d, .binOp .or t x y t', ty, pos, af, none⟩ :: rest) e H := .mk fun w hw =>
  yl_val (by simp) hd (fun a' hf => by
    have e1 := hf.op hx
    have e2 := hf.op hy
    simp only [execOp, e1, e2]
    have := run_orN (P := P) ha hb w
    simp [eqGuard, binOp, this]) (h.h w hw)
end
end Go.Eng

/- Walks: sets; places; how many orders fit. -/
namespace Go.Proofs.Ytllldihodgdcjaa
open Go Go.Eng

theorem free_false {o n s S : Nat} (h : ¬ (S.testBit s = false ∧ ∀ t, t < n → fa o t s = true → S.testBit t = true)) : freeO o n s S = false := by
  cases hx : freeO o n s S with
  | false => rfl
  | true => exact absurd (free_iff.1 hx) h
theorem Lb.Ok.nat {l : Lb} (hl : l.Ok) : ∃ n : Nat, l.skis = (n : Int) ∧ l.n = n ∧ n ≤ 8 ∧ 1 ≤ n := by
  obtain ⟨n, hn⟩ := Int.eq_ofNat_of_zero_le (show 0 ≤ l.skis by have := hl.s0; omega)
  have := hl.s0
  have := hl.s1
  exact ⟨n, hn, by unfold Lb.n; omega, by omega, by omega⟩
theorem free_ca (w : World) (b : Nat) (t : TypeId) (l : Lb) (v : Value) (o s S : Nat) (hb : Blk w b (dkC l v o) t) (hl : l.Ok) (hs8 : s < l.n) (hS : S < 256) : Ca Try.prog 15 [.pointer (some ⟨b, 0, none⟩), .int .i64 s, .int .i64 S] w fun x w' => x = .bool (freeO o l.n s S) ∧ Chg [] w w' := by
  obtain ⟨n, hn, hn', h8, h1⟩ := hl.nat
  rw [hn'] at hs8 ⊢
  have hbd : ∀ k : Nat, 0 ≤ (S : Int) / 2 ^ k ∧ (S : Int) / 2 ^ k < 9223372036854775808 := fun k => ⟨Int.ediv_nonneg (by omega) (Int.le_of_lt (Int.pow_pos (by omega))), Int.lt_of_le_of_lt (Int.ediv_le_self _ (by omega)) (by omega)⟩
  refine q_of (Sat.nil w M0) Try.func15 rfl (by simp [Try.ntmps15]) ?_
  (refine q_seq (q_region (ql_pure tabOk rfl rfl (q_nil (q_seq (q_seq (q_region (ql_pure tabOk rfl rfl (ql_pure tabOk rfl rfl ?_)))))))))
  refine ql_shr rfl rfl rfl (by omega) (by omega) ?_
  skip
  refine ql_and1 rfl rfl rfl (hbd _) ?_
  rw [bit_int]
  cases hx : S.testBit s with
  | true =>
    rw [show (((true).toNat : Nat) : Int) = 1 from rfl]
    (refine ql_eqlT tabOk rfl rfl rfl (by omega) (q_nil (q_cond_true rfl (q_seq (q_region (ql_pure tabOk rfl rfl (q_nil (q_ret ?_))))))))
    refine q_fin tabOk rfl (by repeat constructor) fun w hs => ?_
    exact ⟨by rw [free_false (by rintro ⟨h, _⟩; rw [hx] at h; cases h)]; rfl, hs.chg0⟩
  | false =>
    rw [show (((false).toNat : Nat) : Int) = 0 from rfl]
    (refine ql_eqlF tabOk rfl rfl rfl (by omega) (q_nil (q_cond_false rfl (q_skip (q_seq (q_seq (q_region ?_)))))); (iterate 4 refine ql_pure tabOk rfl rfl ?_); refine ql_loadP tabOk rfl rfl rfl (by assumption) (by rfl) ?_; refine ql_pure tabOk rfl rfl (q_nil (q_block ?_)))
    rw [hn]
    refine q_loop (σ := Nat) (fun u => u ≤ n ∧ ∀ t, t < u → fa o t s = true → S.testBit t = true) (fun u => n - u) (fun u => [(0, .pointer (some ⟨b, 0, none⟩)), (1, .int .i64 s), (2, .int .i64 S), (17, .int .i64 n), (18, .int .i64 u)]) (fun _ => []) 0 ⟨by omega, fun t ht => by omega⟩ ⟨rfl, rfl, rfl, rfl, rfl, trivial⟩ (by repeat constructor) ?_
    rintro u ⟨hu1, hu2⟩ K hK
    (refine q_seq (q_region (ql_pure tabOk rfl rfl (q_nil (q_seq ?_)))))
    refine q_if rfl (fun hc => ?_) (fun hc => ?_)
    · have hu3 : u < n := by omega
      clear hc
      (refine q_skip (q_seq (q_block (q_seq (q_region (ql_pure tabOk rfl rfl (ql_pure tabOk rfl rfl (q_nil (q_seq (q_region ?_))))))))); (iterate 5 refine ql_pure tabOk rfl rfl ?_))
      refine ql_indexA (len := 8) o_arr rfl rfl rfl (by omega) (by omega) ?_
      skip
      refine ql_indexA (len := 8) r_arr rfl rfl rfl (by omega) (by omega) ?_
      skip
      refine ql_load1 (v := .bool (fa o u s)) tabOk rfl rfl rfl (fun w hs => d_cell (hb.keep hs.chg0) u s (by omega) (by omega) (by omega)) ?_
      cases hf : fa o u s with
      | true =>
        (refine ql_pure tabOk rfl rfl (ql_gyes rfl (ql_pure tabOk rfl rfl (ql_gyes rfl (ql_pure tabOk rfl rfl (ql_gyes rfl ?_))))))
        refine ql_shr rfl rfl rfl (by omega) (by omega) ?_
        (refine ql_gyes rfl ?_)
        refine ql_and1 rfl rfl rfl (hbd _) ?_
        rw [bit_int]
        cases hy : S.testBit u with
        | true =>
          rw [show (((true).toNat : Nat) : Int) = 1 from rfl]
          (refine ql_gyes rfl (ql_eqlF tabOk rfl rfl rfl (by omega) (ql_pure tabOk rfl rfl (q_nil (q_cond_false rfl (q_skip (q_blk (q_region (ql_ar tabOk rfl rfl rfl rfl (by omega) (by omega) (ql_pure tabOk rfl rfl (q_nil ?_)))))))))))
          exact hK (u + 1) _ _ ⟨by omega, fun t ht h => by
            by_cases e : t = u
            · rw [e]; exact hy
            · exact hu2 t (by omega) h⟩ (by omega) ⟨rfl, rfl, rfl, rfl, rfl, trivial⟩ (by repeat constructor)
        | false =>
          rw [show (((false).toNat : Nat) : Int) = 0 from rfl]
          (refine ql_gyes rfl (ql_eqlT tabOk rfl rfl rfl (by omega) (ql_pure tabOk rfl rfl (q_nil (q_cond_true rfl (q_seq (q_region (ql_pure tabOk rfl rfl (q_nil (q_ret ?_))))))))))
          refine q_fin tabOk rfl (by repeat constructor) fun w hs => ?_
          exact ⟨by rw [free_false (by rintro ⟨_, h⟩; rw [h u hu3 hf] at hy; cases hy)]; rfl, hs.chg0⟩
      | false =>
        (refine ql_pure tabOk rfl rfl ?_; (iterate 5 refine ql_gno rfl rfl rfl ?_); refine ql_pure tabOk rfl rfl (q_nil (q_cond_false rfl (q_skip (q_blk (q_region (ql_ar tabOk rfl rfl rfl rfl (by omega) (by omega) (ql_pure tabOk rfl rfl (q_nil ?_)))))))))
        exact hK (u + 1) _ _ ⟨by omega, fun t ht h => by
          by_cases e : t = u
          · rw [e, hf] at h; cases h
          · exact hu2 t (by omega) h⟩ (by omega) ⟨rfl, rfl, rfl, rfl, rfl, trivial⟩ (by repeat constructor)
    · have hun : u = n := by omega
      subst hun
      (refine q_exit _ rfl (q_seq (q_region (ql_pure tabOk rfl rfl (q_nil (q_ret ?_))))))
      refine q_fin tabOk rfl (by repeat constructor) fun w hs => ?_
      exact ⟨by rw [free_iff.2 ⟨hx, hu2⟩]; rfl, hs.chg0⟩

/-- Places, as cells. -/
def plC (l : Lb) (o k : Nat) : List (Int × Int) := (List.range k).map fun s => ((1 + upN o s l.n : Nat), l.skis - dnN o s l.n)
theorem plC_len (l : Lb) (o k : Nat) : (plC l o k).length = k := by simp [plC]
theorem plC_succ (l : Lb) (o k : Nat) : spC (plC l o (k + 1)) = spC (plC l o k) ++ [.int .i64 ((1 + upN o k l.n : Nat) : Int), .int .i64 (l.skis - dnN o k l.n)] := by
  unfold plC
  rw [List.range_succ, List.map_append]
  simp [spC]
theorem Blk.rdN {w : World} {b : Nat} {cs : List Value} {t : TypeId} {c sz q : Nat} (h : Blk w b cs t) (hl : cs.length = q * sz) : Rd w 0 w.heap.size (.slice (some ⟨b, 0, none⟩) q c) sz q cs :=
  ⟨hl, .inr ⟨b, 0, c, rfl, fun _ => ⟨Nat.zero_le _, h.lt, h.lt⟩, fun j _ => by rw [Blk.cell h]; simp⟩⟩
theorem slS : SlT Try.prog 34 48 2 16 (.agg #[.int .i64 0, .int .i64 0]) := ⟨by kernel_rfl, by kernel_rfl, by kernel_rfl, by decide⟩
theorem places_ok (w : World) (lo hi : Nat) (l : Lb) (v : Value) (h : RdR w lo hi v l.runs) (hl : l.Ok) (hn : NoC l.ord l.n) : Ca Try.prog 8 [.agg (lbC l v).toArray] w fun x w' => ∃ u : Value, x = .tuple #[u, .int .i64 0] ∧ Sat w M0 [.ow u 48 2 l.n (spC (plC l l.ord l.n))] w' := by
  obtain ⟨n, en, hn', h8, h1⟩ := hl.nat
  refine q_of (Sat.nil w M0) Try.func8 rfl (by simp [Try.ntmps8]) ?_
  (refine q_seq (q_region ?_))
  refine ql_box rfl rfl (fun b1 => ?_)
  rw [agg_cells]
  (refine ql_pure tabOk rfl rfl (ql_pure tabOk rfl rfl (q_nil (q_seq (q_region ?_)))); refine ql_loadABa tabOk rfl rfl rfl ?_)
  refine ql_call (β := Nat) tabOk [] _ M0 rfl rfl rfl rfl (Sp.refl _) (fun _ h => h.elim) (fun w' hs => agreed_ok w' lo hi l v (RdE.keep h hs.chg0) hl hn) ?_
  rintro b _ rfl
  dsimp only [List.cons_append, List.nil_append]
  (refine ql_pure tabOk rfl rfl (ql_ext tabOk rfl rfl rfl (ql_ext tabOk rfl rfl rfl (ql_pure tabOk rfl rfl (ql_pure tabOk rfl rfl (q_nil (q_seq (q_seq (q_region (ql_pure tabOk rfl rfl (ql_neqF tabOk rfl rfl rfl (by omega) (q_nil ?_))))))))))); refine q_cond_false rfl (q_skip (q_seq (q_region (ql_pure tabOk rfl rfl (q_nil (q_seq (q_seq (q_region ?_)))))))); (iterate 4 refine ql_pure tabOk rfl rfl ?_); refine ql_loadBa tabOk rfl rfl rfl ?_; refine ql_pure tabOk rfl rfl (q_nil (q_block ?_)))
  rw [en]
  refine q_conv (H' := [.ow (.slice none 0 0) 48 2 0 (spC (plC l l.ord 0)), .pt b (dkC l v l.ord) 62]) (fun w' hs => (Sat.ownil hs 48 2).sp (by repeat constructor)) ?_
  refine q_loop (σ := Nat × Value) (fun y => y.1 ≤ n) (fun y => n - y.1) (fun y => [(4, .pointer (some ⟨b, 0, none⟩)), (6, y.2), (22, .int .i64 n), (23, .int .i64 y.1)]) (fun y => [.ow y.2 48 2 y.1 (spC (plC l l.ord y.1)), .pt b (dkC l v l.ord) 62]) (0, .slice none 0 0) (by simp only; omega) ⟨rfl, rfl, rfl, rfl, trivial⟩ (by repeat constructor) ?_
  rintro ⟨s, u⟩ hs1 K hK
  dsimp only at hs1 ⊢
  (refine q_seq (q_region (ql_pure tabOk rfl rfl (q_nil (q_seq ?_)))))
  refine q_if rfl (fun hc => ?_) (fun hc => ?_)
  · have hs2 : s < n := by omega
    clear hc
    have b1' := upN_le l.ord s n
    have b2' := dnN_le l.ord s n
    (refine q_skip (q_seq (q_block (q_seq (q_region (ql_pure tabOk rfl rfl (ql_pure tabOk rfl rfl (q_nil (q_seq ?_)))))))))
    refine q_draw _ [] (Sp.refl _) (by kernel_rfl) (by kernel_rfl) ?_
    ((iterate 3 refine qf_pure tabOk rfl rfl rfl ?_); refine qf_loadABa tabOk rfl rfl rfl ?_; (iterate 5 refine qf_pure tabOk rfl rfl rfl ?_); refine qf_loadBa tabOk rfl rfl rfl ?_)
    rw [dk_take, en]
    refine qf_callv (val := .tuple #[.int .i64 (upN l.ord s n), .int .i64 (dnN l.ord s n)]) tabOk rfl rfl rfl rfl (fun w hs => ?_) ?_; exact place_ca w l.ord s n (by omega) h8
    (refine qf_pure tabOk rfl rfl rfl (qf_ext tabOk rfl rfl rfl (qf_ext tabOk rfl rfl rfl (qf_pure tabOk rfl rfl rfl (qf_pure tabOk rfl rfl rfl (qf_nil (q_region (ql_pure tabOk rfl rfl (ql_pure tabOk rfl rfl (ql_ar tabOk rfl rfl rfl rfl (by omega) (by omega) ?_))))))))); (iterate 4 refine ql_pure tabOk rfl rfl ?_); refine ql_loadBa tabOk rfl rfl rfl ?_; refine ql_pure tabOk rfl rfl (ql_ar tabOk rfl rfl rfl rfl (by omega) (by omega) ?_))
    refine ql_mk #[.int .i64 (1 + (upN l.ord s n : Nat)), .int .i64 (l.skis - (dnN l.ord s n : Nat))] rfl (by kernel_rfl) rfl ?_
    skip
    refine ql_mkS 48 [.int .i64 (1 + (upN l.ord s n : Nat)), .int .i64 (l.skis - (dnN l.ord s n : Nat))] rfl (by kernel_rfl) rfl (fun bn => ?_)
    skip
    refine ql_append (q := 1) (news := [.int .i64 (1 + (upN l.ord s n : Nat)), .int .i64 (l.skis - (dnN l.ord s n : Nat))]) slS rfl rfl rfl (fun v' => by repeat constructor) (fun w' hs => ⟨_, _, Blk.rdN (hs.blk (b := bn) (by repeat constructor)) rfl⟩) (by simp [oneV]) (by omega) (by omega) (fun u' => ?_)
    (refine ql_pure tabOk rfl rfl (q_nil (q_blk (q_region (ql_ar tabOk rfl rfl rfl rfl (by omega) (by omega) (ql_pure tabOk rfl rfl (q_nil ?_)))))))
    exact hK (s + 1, u') _ _ (by simp only; omega) (by simp only; omega) ⟨rfl, rfl, rfl, rfl, trivial⟩ (by dsimp only; rw [plC_succ, hn']; repeat constructor)
  · have hsn : n = s := by omega
    subst hsn
    (refine q_exit _ rfl (q_seq (q_region ?_)); (iterate 3 refine ql_pure tabOk rfl rfl ?_); refine q_nil (q_ret ?_))
    refine q_fin tabOk rfl (by repeat constructor) fun w hs => ?_
    rw [hn']
    exact ⟨u, rfl, hs.sp (by repeat constructor)⟩
end Go.Proofs.Ytllldihodgdcjaa

/- The plain law of the table of orders: sets in the order of their numbers. -/
namespace Go.Proofs.Ytllldihodgdcjaa

def pc (S : Nat) : Nat := ((List.range 8).filter S.testBit).length
/-- The table, when some sets, and some skis of the next one, are done. -/
def mmT (o n S k T s : Nat) : Nat := cond (T.testBit s && ((decide (T ^^^ 2 ^ s < S) || (decide (T ^^^ 2 ^ s = S) && decide (s < k))) && freeO o n s (T ^^^ 2 ^ s))) (cnt o n (T ^^^ 2 ^ s)) 0
def mm (o n S k T : Nat) : Nat := if T = 0 then 1 else sumN (mmT o n S k T) n
/-- The whole table. -/
def mmL (o n S k : Nat) : List Int := (List.range (2 ^ n)).map fun T => ((mm o n S k T : Nat) : Int)
end Go.Proofs.Ytllldihodgdcjaa

/- Walks: how many orders fit. -/
namespace Go.Proofs.Ytllldihodgdcjaa
open Go Go.Eng

theorem slI : SlT Try.prog 29 3 1 8 (.int .i64 0) := ⟨by kernel_rfl, by kernel_rfl, by kernel_rfl, by decide⟩
end Go.Proofs.Ytllldihodgdcjaa

/- The engine, part B30: arrays of arrays of Bools: compared, and as keys of maps. -/
namespace Go.Eng
open Go Go.RowKit

section
variable {P : Program}
def arr2B (P : Program) (t e b n1 n2 : Nat) : Bool :=
  !(P.eqGuardType P.depth t) && (match P.underlying t with | some (.array n' e') => Nat.beq n' n1 && Nat.beq e' e | _ => false) && (Nat.beq (P.cellsOf e) n2 && (P.info? e).isSome) && arrQB P e n2 b && (match P.underlying e with | some (.array _ _) => true | _ => false) && (P.info? b).isSome && Nat.beq (P.cellsOf b) 1
structure Arr2 (P : Program) (t e b n1 n2 : Nat) : Prop where
  g : P.eqGuardType P.depth t = false
  u : P.underlying t = some (.array n1 e)
  c : P.cellsOf e = n2
  i : (P.info? e).isSome = true
  q : arrQB P e n2 b = true
  v : ∃ n' e', P.underlying e = some (.array n' e')
variable {ro : Cx} {n : Nat} {F : Fin} {w0 : World} {M : Nat → Prop} {k : List It} {ops : Array Oper} {rest : List Oper} {e : Env} {H Hq : List Ck}
end
end Go.Eng

/- Walks: plans: the two ways of a run, the least of numbers, whether plans may be asked. -/
namespace Go.Proofs.Ytllldihodgdcjaa
open Go Go.Eng

/-- An order as a value. -/
abbrev oV (o : Nat) : Value := .agg (oC o).toArray
abbrev withF : Value := .func (.func 38) #[] #[]
theorem placed_ca (w : World) (lo hi : Nat) (l : Lb) (v : Value) (k : Int) (h : RdR w lo hi v l.runs) (hlen : l.runs.length ≤ maxLen) : Ca Try.prog 16 [.agg (lbC l v).toArray, .int .i64 k] w fun x w' => x = .int .i64 (placedV l k) ∧ Chg [] w w' := by
  refine q_of (Sat.nil w M0) Try.func16 rfl (by simp [Try.ntmps16]) ?_
  (refine q_seq (q_region ?_))
  refine ql_box rfl rfl (fun b2 => ?_)
  rw [agg_cells]
  (refine ql_pure tabOk rfl rfl (q_nil (q_seq (q_seq (q_region ?_)))); refine ql_loadABa tabOk rfl rfl rfl ?_)
  refine ql_callv (val := .int .i64 (checkV l)) tabOk rfl rfl rfl rfl (fun w hs => ?_) ?_; exact check_ca w lo hi l v (RdE.keep h hs.chg0) hlen
  by_cases hc0 : checkV l = 0
  · rw [hc0]
    (refine ql_pure tabOk rfl rfl (q_nil (q_seq (q_region (ql_pure tabOk rfl rfl (ql_neqF tabOk rfl rfl rfl (by omega) (q_nil (q_cond_false rfl (q_skip (q_seq (q_seq (q_region ?_))))))))))); refine ql_pure tabOk rfl rfl (ql_pure tabOk rfl rfl ?_); refine ql_loadBa tabOk rfl rfl rfl ?_)
    refine ql_callv (val := .bool (inB k 1 l.skis)) tabOk rfl rfl rfl rfl (fun w hs => ?_) ?_; exact within_ca k 1 l.skis w
    (refine ql_pure tabOk rfl rfl (q_nil ?_))
    cases hk : inB k 1 l.skis with
    | false =>
      (refine q_cond_true rfl (q_seq (q_region (ql_pure tabOk rfl rfl (q_nil (q_ret ?_))))))
      refine q_fin tabOk rfl (by repeat constructor) fun w hs => ?_
      exact ⟨by unfold placedV; rw [if_neg (by simpa using hc0), if_pos hk]; rfl, hs.chg0⟩
    | true =>
      (refine q_cond_false rfl (q_skip (q_seq (q_region (ql_pure tabOk rfl rfl (q_nil (q_ret ?_)))))))
      refine q_fin tabOk rfl (by repeat constructor) fun w hs => ?_
      exact ⟨by unfold placedV; rw [if_neg (by simpa using hc0), if_neg (by simp [hk])]; rfl, hs.chg0⟩
  · (refine ql_pure tabOk rfl rfl (q_nil (q_seq (q_region (ql_pure tabOk rfl rfl (ql_neqT tabOk rfl rfl rfl (by omega) (q_nil (q_cond_true rfl (q_seq (q_region (ql_pure tabOk rfl rfl (ql_pure tabOk rfl rfl ?_))))))))))); refine q_nil (q_ret ?_))
    refine q_fin tabOk rfl (by repeat constructor) fun w hs => ?_
    exact ⟨by unfold placedV; rw [if_pos hc0]; rfl, hs.chg0⟩
end Go.Proofs.Ytllldihodgdcjaa

/- The engine, part B31: an element of an array that is a value, of several cells, or a struct. -/
namespace Go.Eng
open Go Go.RowKit

section
variable {P : Program} {T : Tab} {ro : Cx} {n : Nat} {F : Fin} {w0 : World} {M : Nat → Prop} {k : List It} {ops : Array Oper} {rest : List Oper} {e : Env} {H Hq : List Ck}
end
end Go.Eng

/- Walks: plans: the memo of the fewest further runs. -/
namespace Go.Proofs.Ytllldihodgdcjaa
open Go Go.Eng

theorem Blk.rdI {w : World} {b c : Nat} {l : List Int} {t : TypeId} (h : Blk w b (ints l) t) : RdI w 0 w.heap.size (.slice (some ⟨b, 0, none⟩) l.length c) l := RdI.of (by have := Blk.rdN (c := c) (sz := 1) (q := l.length) h (by simp [ints]); exact this)
abbrev oK : Value → Prop := keyF (List.replicate (8 * 8) none)
/-- Each order that is noted has the fewest further runs that it needs. -/
def GoodP (n k : Nat) (f : Value → Option Value) : Prop := ∀ o, o < 2 ^ 64 → ∀ v, f (oV o) = some v → v = .int .i64 (planO n k o)
section
variable {w w' : World} {b : Nat} {K : Value → Prop} {q : Value → Value → Bool} {f : Value → Option Value}
end
abbrev mpO (bm : Nat) (f : Value → Option Value) : Ck := mpP oK eqV bm f
def mst (n k o a b j : Nat) : Nat := if j = 0 then 0 else if j = 1 then planO n k (withO o a b) else max (planO n k (withO o a b)) (planO n k (withO o b a))
end Go.Proofs.Ytllldihodgdcjaa

/- Walks: the fewest further runs. -/
namespace Go.Proofs.Ytllldihodgdcjaa
open Go Go.Eng

def stepP (n k o : Nat) (best : Nat) (p : Nat × Nat) : Nat := cond (undO o p) (min best (worthO n k o p.1 p.2)) best
/-- The best of the pairs that are done. -/
def foldP (n k o a b : Nat) : Nat := ((List.range b).map fun c => (a, c)).foldl (stepP n k o) ((pairsN a).foldl (stepP n k o) (n * n))
end Go.Proofs.Ytllldihodgdcjaa

/- Walks: plans that are asked: the fewest further runs. -/
namespace Go.Proofs.Ytllldihodgdcjaa
open Go Go.Eng

structure PlanOk (l : Lb) (k : Int) : Prop where
  ok : l.Ok
  noC : NoC l.ord l.n
  k1 : 1 ≤ k
  k2 : k ≤ l.skis
  s5 : l.skis ≤ 5
theorem placed_iff {l : Lb} {k : Int} : placedV l k = 0 ↔ l.Ok ∧ 1 ≤ k ∧ k ≤ l.skis := by
  unfold placedV
  constructor
  · intro h
    split at h
    · rename_i h1; exact absurd h h1
    · rename_i h1
      split at h
      · cases h
      · rename_i h2
        have h3 : checkV l = 0 := by simpa using h1
        exact ⟨check_iff.1 h3, inB_iff.1 (by simpa using h2)⟩
  · rintro ⟨h1, h2⟩
    rw [if_neg (by simpa using check_iff.2 h1), if_neg (by simp [inB_iff, h2])]
end Go.Proofs.Ytllldihodgdcjaa

/- Plain laws of zones. -/
namespace Go.Proofs.Ytllldihodgdcjaa

theorem getD_row {r : List Int} {s : Nat} (hs : s < r.length) : r.getD s 0 = r[s] := by
  simp only [List.getD_eq_getElem?_getD, Option.getD_some, List.getElem?_eq_getElem hs]
end Go.Proofs.Ytllldihodgdcjaa

/- Plain law of sorting by insertion, by a key; what is equal stays in order. -/
namespace Go.Proofs.Ytllldihodgdcjaa

theorem getD_set (L : List Int) (i p : Nat) (v : Int) (hi : i < L.length) : (L.set i v).getD p 0 = if p = i then v else L.getD p 0 := by
  simp only [List.getD_eq_getElem?_getD, List.getElem?_set]
  by_cases h : i = p
  · rw [if_pos h, if_pos h.symm, if_pos hi]
    rfl
  · rw [if_neg h, if_neg (fun hh => h hh.symm)]
/-- By the key, then by the number. -/
def LtK (key : Int → Int) (a b : Int) : Prop := key a < key b ∨ (key a = key b ∧ a < b)
theorem LtK.trans {key : Int → Int} {a b c : Int} (h1 : LtK key a b) (h2 : LtK key b c) : LtK key a c := by
  unfold LtK at *
  omega
structure SrI (key : Int → Int) (l L : List Int) (i : Nat) : Prop where
  perm : L.Perm l
  srt : ∀ p q, p < q → q < i → LtK key (L.getD p 0) (L.getD q 0)
  ord : ∀ p q, p < i → i ≤ q → q < l.length → L.getD p 0 < L.getD q 0
  tail : ∀ p q, i ≤ p → p < q → q < l.length → L.getD p 0 < L.getD q 0
structure SrJ (key : Int → Int) (l L : List Int) (i j : Nat) : Prop where
  perm : L.Perm l
  ji : j ≤ i
  srt : ∀ p q, p < q → q ≤ i → p ≠ j → q ≠ j → LtK key (L.getD p 0) (L.getD q 0)
  low : ∀ q, j < q → q ≤ i → LtK key (L.getD j 0) (L.getD q 0)
  big : ∀ q, q ≤ i → q ≠ j → L.getD q 0 < L.getD j 0
  ord : ∀ p q, p ≤ i → i < q → q < l.length → L.getD p 0 < L.getD q 0
  tail : ∀ p q, i < p → p < q → q < l.length → L.getD p 0 < L.getD q 0
variable {key : Int → Int} {l L : List Int} {i j : Nat}
theorem SrI.open (h : SrI key l L i) (hi : i < l.length) : SrJ key l L i i where
  perm := h.perm
  ji := Nat.le_refl _
  srt := fun p q h1 h2 _ h3 => h.srt p q h1 (by omega)
  low := fun q h1 h2 => by omega
  big := fun q h1 h2 => h.ord q i (by omega) (Nat.le_refl _) hi
  ord := fun p q h1 h2 h3 => by
    by_cases e : p = i
    · exact h.tail p q (by omega) (by omega) h3
    · exact h.ord p q (by omega) (by omega) h3
  tail := fun p q h1 h2 h3 => h.tail p q (by omega) h2 h3
theorem SrJ.swap (h : SrJ key l L i j) (hj : 0 < j) (hi : i < L.length) (hlt : key (L.getD j 0) < key (L.getD (j - 1) 0)) {x y : Int} (hx : L.getD (j - 1) 0 = x) (hy : L.getD j 0 = y) : SrJ key l ((L.set j x).set (j - 1) y) i (j - 1) := by
  have hji := h.ji
  have e : ∀ p, ((L.set j x).set (j - 1) y).getD p 0 = if p = j - 1 then y else if p = j then x else L.getD p 0 := fun p => by
    rw [getD_set _ _ _ _ (by simp; omega), getD_set _ _ _ _ (by omega)]
  refine ⟨List.Perm.trans ?_ h.perm, by omega, fun p q h1 h2 h3 h4 => ?_, fun q h1 h2 => ?_, fun q h1 h2 => ?_, fun p q h1 h2 h3 => ?_, fun p q h1 h2 h3 => ?_⟩
  · have h1 : j < L.length := by omega
    have h2 : j - 1 < L.length := by omega
    have ex : x = L[j - 1] := by rw [← hx, getD_row h2]
    have ey : y = L[j] := by rw [← hy, getD_row h1]
    subst ex ey
    exact List.set_set_perm h1 h2
  · rw [e, e, if_neg h3, if_neg h4]
    by_cases hp : p = j
    · rw [if_pos hp, if_neg (by omega), ← hx]
      exact h.srt (j - 1) q (by omega) h2 (by omega) (by omega)
    · rw [if_neg hp]
      by_cases hq : q = j
      · rw [if_pos hq, ← hx]
        exact h.srt p (j - 1) (by omega) (by omega) hp (by omega)
      · rw [if_neg hq]
        exact h.srt p q h1 h2 hp hq
  · rw [e, e, if_pos rfl, if_neg (by omega), ← hy]
    by_cases hq : q = j
    · rw [if_pos hq, ← hx]
      exact .inl hlt
    · rw [if_neg hq]
      exact h.low q (by omega) h2
  · rw [e, e, if_pos rfl, if_neg h2, ← hy]
    by_cases hq : q = j
    · rw [if_pos hq, ← hx]
      exact h.big (j - 1) (by omega) (by omega)
    · rw [if_neg hq]
      exact h.big q h1 hq
  · rw [e p, e q, if_neg (show ¬ q = j - 1 by omega), if_neg (show ¬ q = j by omega)]
    split
    · rw [← hy]; exact h.ord j q (by omega) h2 h3
    · split
      · rw [← hx]; exact h.ord (j - 1) q (by omega) h2 h3
      · exact h.ord p q h1 h2 h3
  · rw [e, e, if_neg (by omega), if_neg (by omega), if_neg (by omega), if_neg (by omega)]
    exact h.tail p q h1 h2 h3
/-- Sorted by the key. -/
def SrtK (key : Int → Int) (L : List Int) : Prop := ∀ p q, p < q → q < L.length → LtK key (L.getD p 0) (L.getD q 0)
def iotaL (n : Nat) : List Int := (List.range n).map fun (i : Nat) => (i : Int)
theorem SrI.all (h : SrI key l L l.length) : SrtK key L := fun p q h1 h2 => h.srt p q h1 (by rw [← h.perm.length_eq]; exact h2)
end Go.Proofs.Ytllldihodgdcjaa

/- Plain: the order of single skis, pairs, gaps. -/
namespace Go.Proofs.Ytllldihodgdcjaa

def singlesV (st : List Int) : Int := if (inB st.length 2 16 && (!decide (st.length % 2 = 1) && true)) = false then 2 else if (st.all fun n => inB n 0 100000) = false then 3 else 0
structure SingOk (st : List Int) : Prop where
  l1 : 2 ≤ st.length
  l2 : st.length ≤ 16
  ev : st.length % 2 = 0
  num : ∀ x ∈ st, 0 ≤ x ∧ x ≤ 100000
def insK (key : Int → Int) (x : Int) : List Int → List Int
  | [] => [x]
  | y :: l => if key x < key y then x :: y :: l else y :: insK key x l
def isortF (key : Int → Int) : List Int → List Int → List Int
  | acc, [] => acc
  | acc, x :: l => isortF key (insK key x acc) l
/-- The numbers below n, sorted by the key. -/
def ordK (key : Int → Int) (n : Nat) : List Int := isortF key [] (iotaL n)
/-- What pairs cost. -/
def costF (st : List Int) : List Int → Int
  | a :: b :: l => costF st l + (st.getD b.toNat 0 - st.getD a.toNat 0)
  | _ => 0
def stK (st : List Int) (x : Int) : Int := st.getD x.toNat 0
def softL (st : List Int) : List Int := ordK (stK st) st.length
/-- Gaps. -/
def lowC (st : List Int) (x : Int) : Nat := st.countP fun n => decide (n ≤ x)
def highC (st : List Int) (x : Int) : Nat := st.countP fun n => decide (x ≤ n)
def gapBad (st : List Int) (p : Option Int) (g : Int × Int) : Bool := decide (g.2 ≤ g.1) || ((match p with | some x => decide (g.1 < x) | none => false) || (decide (lowC st g.1 % 2 = 0) || decide (lowC st g.1 + highC st g.2 ≠ st.length)))
def gapsF (st : List Int) : Option Int → List (Int × Int) → Option Int
  | _, [] => some 0
  | p, g :: l => if gapBad st p g = true then none else (gapsF st (some g.2) l).map fun s => s + (g.2 - g.1)
def gapsV (st : List Int) (gs : List (Int × Int)) : Int × Int := if singlesV st ≠ 0 then (0, singlesV st) else if 16 < gs.length then (0, 2) else match gapsF st none gs with | some s => (s, 0) | none => (0, 8)
def sixL : List Int := [50, 20, 41, 23, 60, 38]
end Go.Proofs.Ytllldihodgdcjaa

/- Plain law of SkiMore. -/
namespace Go.Proofs.Ytllldihodgdcjaa

/-- What is told of a lab. -/
structure Told (k : Nat) (l : Lb) : Prop where
  ok : l.Ok
  noC : NoC l.ord l.n
theorem run_ok {s x y ld : Int} (hx : 0 ≤ x ∧ x < s) (hy : 0 ≤ y ∧ y < s) (hne : x ≠ y) (hl : -10000 ≤ ld ∧ ld ≤ 10000) : (⟨x, y, ld⟩ : Rn).Ok s := ⟨hx.1, hx.2, hy.1, hy.2, hne, hl.1, hl.2⟩
theorem Lb.Ok.loose {l : Lb} (h : l.Ok) {d : Int} (hd : 0 ≤ d) (h2 : l.err + d ≤ 1000) : (l.loose d).Ok := ⟨h.s0, h.s1, by have := h.e0; show 0 ≤ l.err + d; omega, h2, h.len, h.run⟩
/-- The places of a ski, as they are told. -/
def spanP (l : Lb) (s : Nat) : Int × Int := ((1 + upN l.ord s l.n : Nat), l.skis - dnN l.ord s l.n)
end Go.Proofs.Ytllldihodgdcjaa

/- The plain law of SkiWaxed. -/
namespace Go.Proofs.Ytllldihodgdcjaa

/-- Tables of numbers. -/
structure LosL (W S : Nat) (l : List (List Int)) (n : Nat) : Prop where
  l1 : 1 ≤ l.length
  l2 : l.length ≤ W
  n1 : 1 ≤ n
  n2 : n ≤ S
  len : ∀ row ∈ l, row.length = n
  num : ∀ row ∈ l, ∀ x ∈ row, 0 ≤ x ∧ x ≤ 200
theorem LosL.tab {W S n : Nat} {l : List (List Int)} (h : LosL W S l n) (hW : W ≤ 12) (hS : S ≤ 20) : TabOk l n :=
  ⟨h.l1, by have := h.l2; omega, h.n1, by have := h.n2; omega, h.len, fun r hr x hx => by have := h.num r hr x hx; omega⟩
theorem TabOk.v {l : List (List Int)} {n : Nat} (h : TabOk l n) : tableV l = 0 ∧ (l.headD []).length = n := by
  have e : (l.headD []).length = n := by
    have h1 := h.l1
    match l, h1 with
    | r :: l, _ => exact h.len r List.mem_cons_self
  exact ⟨table_iff.2 (e ▸ h), e⟩
theorem TabOk.low {l : List (List Int)} {n s : Nat} (h : TabOk l n) (hs : s < n) : 0 ≤ lowV l s ∧ lowV l s ≤ 10000 := by
  obtain ⟨r, hr, e⟩ := low_mem (l := l) (by intro e; have := h.l1; rw [e] at this; simp at this) s
  rw [e]
  exact h.num r hr _ (getD_mem (by rw [h.len r hr]; exact hs))
end Go.Proofs.Ytllldihodgdcjaa

/- The plain law of SkiEnded. -/
namespace Go.Proofs.Ytllldihodgdcjaa

/-- Further runs that show a ski to be faster than all that are not faster than it. -/
def earL (l : Lb) (x : Nat) : Nat → Lb
  | 0 => l
  | k + 1 => if k = x ∨ fa l.ord k x = true then earL l x k else (earL l x k).add ⟨x, k, (earL l x k).err + 1⟩
def latL (l : Lb) (x : Nat) : Nat → Lb
  | 0 => l
  | k + 1 => if k = x ∨ fa l.ord x k = true then latL l x k else (latL l x k).add ⟨k, x, (latL l x k).err + 1⟩
theorem run_more {e : Int} {a b : Nat} (he : 0 ≤ e) : runV e ⟨a, b, e + 1⟩ = some (a, b) := by
  unfold runV
  rw [if_pos (show e < e + 1 by omega), Int.toNat_natCast, Int.toNat_natCast]
structure More (l m : Lb) (k : Nat) (R : Nat × Nat → Prop) : Prop where
  sk : m.skis = l.skis
  err : m.err = l.err
  ok : m.Ok
  len : m.runs.length ≤ l.runs.length + k
  has : ∀ p, p ∈ m.pairs ↔ p ∈ l.pairs ∨ R p
theorem More.n {l m : Lb} {k : Nat} {R : Nat × Nat → Prop} (h : More l m k R) : m.n = l.n := by unfold Lb.n; rw [h.sk]
theorem More.le {l m : Lb} {k : Nat} {R : Nat × Nat → Prop} (h : More l m k R) (hl : l.Ok) : LeO l.ord m.ord := order_le hl.in8 h.ok.in8 fun p hp => (h.has p).2 (.inl hp)
theorem More.add {l m : Lb} {k a b : Nat} {R R' : Nat × Nat → Prop} (h : More l m k R) (ha : a < l.n) (hb : b < l.n) (hne : a ≠ b) (hlen : l.runs.length + k < 40) (hR : ∀ p, R' p ↔ R p ∨ p = (a, b)) : More l (m.add ⟨a, b, m.err + 1⟩) (k + 1) R' := by
  have hs0 := h.ok.s0
  have hs1 := h.ok.s1
  have he0 := h.ok.e0
  have he1 := h.ok.e1
  have hsk := h.sk
  have hl := h.len
  have ha2 : (a : Int) < m.skis := by unfold Lb.n at ha; omega
  have hb2 : (b : Int) < m.skis := by unfold Lb.n at hb; omega
  refine ⟨h.sk, h.err, h.ok.add (by omega) (run_ok (by omega) (by omega) (by omega) (by omega)), ?_, fun p => ?_⟩
  · show (m.runs ++ [_]).length ≤ _
    rw [List.length_append, List.length_singleton]
    omega
  · rw [add_pairs, run_more he0, hR, List.mem_append, h.has]
    simp only [Option.toList, List.mem_singleton]
    exact or_assoc
theorem More.up {l m : Lb} {k : Nat} {R R' : Nat × Nat → Prop} (h : More l m k R) (hR : ∀ p, R' p ↔ R p) : More l m (k + 1) R' :=
  ⟨h.sk, h.err, h.ok, by have := h.len; omega, fun p => by rw [h.has, hR]⟩
end Go.Proofs.Ytllldihodgdcjaa

/- The plain law of SkiBagged. -/
namespace Go.Proofs.Ytllldihodgdcjaa

/-- Where the best zone from a snow on ends, and one. -/
def reachF (rs : List (List Int)) (most : Int) (a : Nat) : Nat := ((zoneF rs most a rs.length).1 + 1).toNat
structure ReachZ (rs : List (List Int)) (most : Int) (n a e : Nat) : Prop where
  lt : a < e
  le : e ≤ n
  wax : ∃ w : Nat, w < rs.length ∧ (zoneF rs most a rs.length).2 = (w : Int) ∧ ∀ s, a ≤ s → s < e → (rs.getD w []).getD s 0 ≤ most
  max : ∀ w s, w < rs.length → a ≤ s → s < n → (∀ t, a ≤ t → t ≤ s → (rs.getD w []).getD t 0 ≤ most) → s < e
  eq : (zoneF rs most a rs.length).1 = (e : Int) - 1
/-- Where the next zone begins. -/
def nxtZ (Z : List (Int × Int × Int)) (a : Int) : Nat → Int
  | 0 => a
  | i + 1 => (Z.getD i (0, 0, 0)).2.1 + 1
structure ZoneIs (rs : List (List Int)) (most : Int) (n : Nat) (a : Int) (z : Int × Int × Int) : Prop where
  frm : z.1 = a
  a0 : 0 ≤ a
  le : a ≤ z.2.1
  lt : z.2.1 < n
  w0 : 0 ≤ z.2.2
  w1 : z.2.2 < rs.length
  good : ∀ s : Nat, a ≤ s → (s : Int) ≤ z.2.1 → (rs.getD z.2.2.toNat []).getD s 0 ≤ most
/-- The first number for which something is found. -/
def tryF {α : Type} (g : Nat → Option α) : Nat → Nat → Option α
  | 0, _ => none
  | f + 1, w => match g w with
    | some x => some x
    | none => tryF g f (w + 1)
def fstB (ch : List Nat) : Nat := match ch.getLast? with | none => 0 | some x => x + 1
/-- The first list of so many waxes more that is good enough. -/
def chooseF (cov : List Nat → Bool) (m : Nat) : Nat → List Nat → Option (List Nat)
  | 0, ch => if cov ch then some ch else none
  | k + 1, ch => tryF (fun w => chooseF cov m k (ch ++ [w])) (m - fstB ch) (fstB ch)
def bagF (cov : List Nat → Bool) (m : Nat) : Option (List Nat) := tryF (fun n => chooseF cov m (n + 1) []) m 0
def Inc (m : Nat) (ch : List Nat) : Prop := ch.Pairwise (· < ·) ∧ ∀ x ∈ ch, x < m
/-- Some waxes have a good one for each snow. -/
def covB (rs : List (List Int)) (most : Int) (n : Nat) (ch : List Nat) : Bool := (List.range n).all fun s => ch.any fun w => decide ((rs.getD w []).getD s 0 ≤ most)
end Go.Proofs.Ytllldihodgdcjaa

/- The plain law of SkiPlanned: plans. -/
namespace Go.Proofs.Ytllldihodgdcjaa

/-- Of each two skis one is faster. -/
def Tot (o n : Nat) : Prop := ∀ s t, s < n → t < n → s ≠ t → fa o s t = true ∨ fa o t s = true
theorem up_lt {o n s t : Nat} (ho : Ord o) (hc : NoC o n) (hn : n ≤ 8) (hs : s < n) (ht : t < n) (h : fa o s t = true) : upN o s n < upN o t n :=
  filter_lt _ _ _ (fun a ha h1 => ho.tr a s t (by have := List.mem_range.1 ha; omega) (by omega) (by omega) h1 h) ⟨s, List.mem_range.2 hs, h, hc s hs⟩
end Go.Proofs.Ytllldihodgdcjaa

/- The plain law of SkiPlanned: orders that fit. -/
namespace Go.Proofs.Ytllldihodgdcjaa

/-- An order that fits. -/
structure LinO (o n : Nat) (L : List Nat) : Prop where
  perm : L.Perm (List.range n)
  idx : ∀ a b, a < 8 → b < 8 → fa o a b = true → a < n ∧ b < n ∧ L.idxOf a < L.idxOf b
theorem LinO.len {o n : Nat} {L : List Nat} (h : LinO o n L) : L.length = n := by rw [h.perm.length_eq, List.length_range]
theorem LinO.nodup {o n : Nat} {L : List Nat} (h : LinO o n L) : L.Nodup := h.perm.nodup_iff.2 List.nodup_range
theorem LinO.mem {o n : Nat} {L : List Nat} (h : LinO o n L) {s : Nat} : s ∈ L ↔ s < n := by rw [h.perm.mem_iff, List.mem_range]
theorem LinO.noC {o n : Nat} {L : List Nat} (h : LinO o n L) (hn : n ≤ 8) : NoC o n := fun s hs => Bool.eq_false_iff.2 fun hh => by
  have := (h.idx s s (by omega) (by omega) hh).2.2
  omega
theorem LinO.with {o n x y : Nat} {L : List Nat} (h : LinO o n L) (hn : n ≤ 8) (hx : x < n) (hy : y < n) (hxy : L.idxOf x < L.idxOf y) : LinO (withO o x y) n L :=
  ⟨h.perm, with_sub (R := fun a b => a < n ∧ b < n ∧ L.idxOf a < L.idxOf b) (by omega) (by omega) (fun a b c _ _ _ h1 h2 => ⟨h1.1, h2.2.1, by omega⟩) h.idx ⟨hx, hy, hxy⟩⟩
theorem lt_le {L : List Nat} (hn : L.Nodup) (i : Nat) : (L.filter fun t => decide (L.idxOf t < i)).length ≤ i := by
  have e : L.filter (fun t => decide (L.idxOf t < i)) = (L.take i).filter (fun t => decide (L.idxOf t < i)) := by
    conv => lhs; arg 2; rw [← List.take_append_drop i L]
    rw [List.filter_append]
    have : (L.drop i).filter (fun t => decide (L.idxOf t < i)) = [] := List.filter_eq_nil_iff.2 fun t ht => by
      obtain ⟨j, hj, rfl⟩ := List.mem_iff_getElem.1 ht
      rw [List.length_drop] at hj
      rw [List.getElem_drop, hn.idxOf_getElem]
      simp
    rw [this, List.append_nil]
  rw [e]
  exact Nat.le_trans (List.length_filter_le _ _) (by rw [List.length_take]; omega)
theorem gt_le {L : List Nat} (hn : L.Nodup) (i : Nat) : (L.filter fun t => decide (i < L.idxOf t)).length ≤ L.length - (i + 1) := by
  have e : L.filter (fun t => decide (i < L.idxOf t)) = (L.drop (i + 1)).filter (fun t => decide (i < L.idxOf t)) := by
    conv => lhs; arg 2; rw [← List.take_append_drop (i + 1) L]
    rw [List.filter_append]
    have : (L.take (i + 1)).filter (fun t => decide (i < L.idxOf t)) = [] := List.filter_eq_nil_iff.2 fun t ht => by
      obtain ⟨j, hj, rfl⟩ := List.mem_iff_getElem.1 ht
      rw [List.length_take] at hj
      rw [List.getElem_take, hn.idxOf_getElem]
      simp
      omega
    rw [this, List.nil_append]
  rw [e]
  exact Nat.le_trans (List.length_filter_le _ _) (by rw [List.length_drop]; omega)
/-- A ski whose place is known has it in each order that fits. -/
theorem lin_at {o n s p : Nat} {L : List Nat} (h : LinO o n L) (hn : n ≤ 8) (hs : s < n) (h1 : upN o s n = p) (h2 : dnN o s n + 1 + p = n) : L.idxOf s = p := by
  have h3 : L.idxOf s < L.length := List.idxOf_lt_length_iff.2 (h.mem.2 hs)
  have hl := h.len
  have h4 : upN o s n ≤ L.idxOf s := by
    refine Nat.le_trans ?_ (lt_le h.nodup (L.idxOf s))
    rw [(h.perm.filter _).length_eq]
    exact filter_le _ _ _ fun t ht hf => by
      have := List.mem_range.1 ht
      simpa using (h.idx t s (by omega) (by omega) hf).2.2
  have h5 : dnN o s n ≤ L.length - (L.idxOf s + 1) := by
    refine Nat.le_trans ?_ (gt_le h.nodup (L.idxOf s))
    rw [(h.perm.filter _).length_eq]
    exact filter_le _ _ _ fun t ht hf => by
      have := List.mem_range.1 ht
      simpa using (h.idx s t (by omega) (by omega) hf).2.2
  omega
/-- Orders that fit have the same first places if these are known. -/
theorem lin_same {o n k : Nat} {L M : List Nat} (h : LinO o n L) (g : LinO o n M) (hn : n ≤ 8) (hk : knownO o n k = true) (hkn : k ≤ n) : L.take k = M.take k := by
  refine List.ext_getElem (by rw [List.length_take, List.length_take, h.len, g.len]) (fun p h1 h2 => ?_)
  rw [List.length_take] at h1
  obtain ⟨s, hs, h3, h4⟩ := known_iff.1 hk p (by omega)
  have h5 := lin_at h hn hs h3 h4
  have h6 := lin_at g hn hs h3 h4
  have hl := h.len
  have gl := g.len
  have e1 := List.getElem_idxOf (x := s) (xs := L) (by omega)
  have e2 := List.getElem_idxOf (x := s) (xs := M) (by omega)
  simp only [h5] at e1
  simp only [h6] at e2
  rw [List.getElem_take, List.getElem_take, e1, e2]
/-- The first order that fits. -/
def nextO (o n S : Nat) : Option Nat := (List.range n).find? fun s => freeO o n s S
def firF (o n : Nat) : Nat → List Nat × Nat
  | 0 => ([], 0)
  | j + 1 => match nextO o n (firF o n j).2 with
    | some s => ((firF o n j).1 ++ [s], (firF o n j).2 ||| 2 ^ s)
    | none => firF o n j
structure FirI (o n j : Nat) (L : List Nat) (S : Nat) : Prop where
  rest : ∃ R, (L ++ R).Perm (List.range n)
  len : L.length = j
  bit : ∀ t, t < n → (S.testBit t = true ↔ t ∈ L)
  bd : S < 2 ^ n
  down : ∀ s, s ∈ L → ∀ t, t < n → fa o t s = true → t ∈ L ∧ L.idxOf t < L.idxOf s
theorem or_bit {S s t : Nat} : (S ||| 2 ^ s).testBit t = (S.testBit t || decide (s = t)) := by rw [Nat.testBit_or, Nat.testBit_two_pow]
theorem min_in {o n S : Nat} (hc : NoC o n) (ho : Ord o) (hn : n ≤ 8) : ∀ k s, s < n → S.testBit s = false → upN o s n ≤ k → ∃ t, t < n ∧ freeO o n t S = true
  | k, s, hs, hb, hk => by
    by_cases h : ∃ u, u < n ∧ S.testBit u = false ∧ fa o u s = true
    · obtain ⟨u, hu, hbu, hf⟩ := h
      have hlt := up_lt ho hc hn hu hs hf
      match k with
      | 0 => omega
      | k + 1 => exact min_in hc ho hn k u hu hbu (by omega)
    · refine ⟨s, hs, free_iff.2 ⟨hb, fun u hu hf => ?_⟩⟩
      cases h2 : S.testBit u with
      | true => rfl
      | false => exact absurd ⟨u, hu, h2, hf⟩ h
theorem fir_step {o n j : Nat} {L : List Nat} {S s : Nat} (h : FirI o n j L S) (hs : s < n) (hf : freeO o n s S = true) : FirI o n (j + 1) (L ++ [s]) (S ||| 2 ^ s) := by
  obtain ⟨R, hR⟩ := h.rest
  obtain ⟨h1, h2⟩ := free_iff.1 hf
  have hsL : s ∉ L := fun hm => by rw [(h.bit s hs).2 hm] at h1; cases h1
  have hsR : s ∈ R := by
    have : s ∈ L ++ R := hR.mem_iff.2 (List.mem_range.2 hs)
    exact (List.mem_append.1 this).resolve_left hsL
  refine ⟨⟨R.erase s, ?_⟩, by rw [List.length_append, h.len]; rfl, fun t ht => ?_, ?_, fun t ht u hu hf2 => ?_⟩
  · rw [List.append_assoc]
    exact (List.Perm.append_left L (List.perm_cons_erase hsR).symm).trans hR
  · rw [or_bit, Bool.or_eq_true, h.bit t ht, List.mem_append, List.mem_singleton, decide_eq_true_iff]
    exact ⟨fun h => h.imp_right Eq.symm, fun h => h.imp_right Eq.symm⟩
  · refine Nat.or_lt_two_pow h.bd (Nat.pow_lt_pow_right (by omega) hs)
  · rcases List.mem_append.1 ht with h3 | h3
    · obtain ⟨h4, h5⟩ := h.down t h3 u hu hf2
      exact ⟨List.mem_append_left _ h4, by rw [List.idxOf_append, List.idxOf_append, if_pos h4, if_pos h3]; exact h5⟩
    · obtain rfl := List.mem_singleton.1 h3
      have h4 := (h.bit u hu).1 (h2 u hu hf2)
      refine ⟨List.mem_append_left _ h4, ?_⟩
      rw [List.idxOf_append, List.idxOf_append, if_pos h4, if_neg hsL]
      have := List.idxOf_lt_length_iff.2 h4
      omega
theorem fir_is {o n : Nat} (hc : NoC o n) (ho : Ord o) (hn : n ≤ 8) : ∀ j, j ≤ n → FirI o n j (firF o n j).1 (firF o n j).2
  | 0, _ => ⟨⟨List.range n, by simp [firF]⟩, rfl, fun t _ => by simp [firF], Nat.pow_pos (by omega), fun s hs => by simp [firF] at hs⟩
  | j + 1, hj => by
    have ih := fir_is hc ho hn j (by omega)
    unfold firF
    split
    · rename_i s hs
      have h1 := List.find?_some hs
      have h2 := List.mem_of_find?_eq_some hs
      exact fir_step ih (List.mem_range.1 h2) h1
    · rename_i hs
      exfalso
      obtain ⟨R, hR⟩ := ih.rest
      have h1 := hR.length_eq
      rw [List.length_append, ih.len, List.length_range] at h1
      obtain ⟨s, hsR⟩ : ∃ s, s ∈ R := by
        cases R with
        | nil => simp at h1; omega
        | cons s R => exact ⟨s, List.mem_cons_self⟩
      have hsn : s < n := List.mem_range.1 (hR.mem_iff.1 (List.mem_append_right _ hsR))
      have hnd := hR.nodup_iff.2 List.nodup_range
      have hb : (firF o n j).2.testBit s = false := Bool.eq_false_iff.2 fun h => by
        have h2 := (ih.bit s hsn).1 h
        exact (List.nodup_append.1 hnd).2.2 s h2 s hsR rfl
      obtain ⟨t, ht, hf⟩ := min_in hc ho hn (upN o s n) s hsn hb (Nat.le_refl _)
      exact List.find?_eq_none.1 hs t (List.mem_range.2 ht) hf
/-- Skis that are faster, and slower, are skis of the lab. -/
def InO (o n : Nat) : Prop := ∀ a b, a < 8 → b < 8 → fa o a b = true → a < n ∧ b < n
theorem Lb.Ok.inO {l : Lb} (h : l.Ok) : InO l.ord l.n := order_sub (R := fun a b => a < l.n ∧ b < l.n) h.in8 (fun _ _ _ _ _ _ h1 h2 => ⟨h1.1, h2.2⟩) fun p hp => ⟨(h.in p hp).1, (h.in p hp).2.1⟩
theorem first_lin {o n : Nat} (hc : NoC o n) (ho : Ord o) (hn : n ≤ 8) (hi : InO o n) : LinO o n (firF o n n).1 := by
  have h := fir_is hc ho hn n (Nat.le_refl _)
  obtain ⟨R, hR⟩ := h.rest
  have h1 := hR.length_eq
  rw [List.length_append, h.len, List.length_range] at h1
  have h2 : R = [] := List.length_eq_zero_iff.1 (by omega)
  rw [h2, List.append_nil] at hR
  refine ⟨hR, fun a b ha hb hf => ?_⟩
  obtain ⟨h3, h4⟩ := hi a b ha hb hf
  exact ⟨h3, h4, (h.down b (hR.mem_iff.2 (List.mem_range.2 h4)) a h3 hf).2⟩
/-- The skis, the fastest one first. -/
def rnkK (real : List Int) (x : Int) : Int := -(real.getD x.toNat 0)
def rankL (real : List Int) : List Int := ordK (rnkK real) real.length
end Go.Proofs.Ytllldihodgdcjaa

/- Walks: whether runs are a chain. -/
namespace Go.Proofs.Ytllldihodgdcjaa
open Go Go.Eng

def pIx (n : Int) : Value → Bool
  | .int _ i => inB i 0 (n - 1)
  | _ => false
end Go.Proofs.Ytllldihodgdcjaa

/- The engine, part B32: a cell of an element of a slice of our own changed; elements of several cells. -/
namespace Go.Eng
open Go Go.RowKit

section
variable {P : Program} {T : Tab}
variable {ro : Cx} {n : Nat} {F : Fin} {w0 : World} {M : Nat → Prop} {k : List It} {ops : Array Oper} {rest : List Oper} {e : Env} {H Hq : List Ck}
/-! x[l:h] -/
theorem RdI.part {w : World} {lo hi b off n c c2 k h m : Nat} {l : List Int} (hr : RdI w lo hi (.slice (some ⟨b, off, none⟩) n c) l) (hk : k < h) (hh : h ≤ l.length) (hm : m = h - k) : RdI w lo hi (.slice (some ⟨b, off + k * 1, none⟩) m c2) ((l.drop k).take m) := by
  have hl : ((l.drop k).take m).length = m := by rw [List.length_take, List.length_drop]; omega
  have h1 := hr.rd
  rw [cellsOf_one _ (by simp [oneV])] at h1
  refine RdI.of (by
    rw [hl]
    refine ⟨by simp [ints, hl]; omega, ?_⟩
    obtain ⟨e1, e2⟩ := h1
    rcases e2 with ⟨h3, h4⟩ | ⟨b', off', cap, h3, h4, h5⟩
    · simp at h4
      subst h4
      simp at hh
      omega
    · injection h3 with e1 e2 e3
      injection e1 with e1
      injection e1 with e1 e2
      subst e1 e2
      refine .inr ⟨b, off + k * 1, c2, rfl, fun _ => h4 (by simp; omega), fun j hj => ?_⟩
      have hj2 : j < m := by simp [ints] at hj; omega
      rw [show off + k * 1 + j = off + (k + j) from by omega, h5 (k + j) (by simp; omega)]
      simp [ints, List.getElem?_map, List.getElem?_take, List.getElem?_drop, hj2])
end
end Go.Eng

/- Walks: the error of a table; the greatest regret. -/
namespace Go.Proofs.Ytllldihodgdcjaa
open Go Go.Eng

/-- A list of numbers as it is read. -/
def rowAt (w : World) : Value → List Int
  | .slice (some ⟨b, off, _⟩) n _ => (List.range n).map fun i => match w.cell? ⟨b, off + i, none⟩ with
    | some (.int _ z) => z
    | _ => 0
  | _ => []
def lenP (n : Nat) (row : List Int) : Bool := inB row.length 1 20 && (decide (row.length = n) && true)
def valP (row : List Int) : Bool := row.all fun n => inB n 0 10000
end Go.Proofs.Ytllldihodgdcjaa

/- Walks: the greatest of numbers; the greatest regret; the least of numbers. -/
namespace Go.Proofs.Ytllldihodgdcjaa
open Go Go.Eng

/-- A wax as a value. -/
def wxV (most : Int) (v : Value) : Value := .agg #[v, .int .i64 most]
end Go.Proofs.Ytllldihodgdcjaa

/- Walks: the regrets of all waxes. -/
namespace Go.Proofs.Ytllldihodgdcjaa
open Go Go.Eng

/-- Waxes as cells. -/
def wxC (most : Int) (xs : List (Value × List Int)) : List Value := xs.flatMap fun p => [p.1, .int .i64 most]
section
variable {t : Nat}
theorem rows_nil {w0 w : World} {M : Nat → Prop} {R : List Ck} (h : Sat w0 M R w) : ∀ n, Sat w0 M (un (rowsO t (List.replicate n (.slice none 0 0, []))) :: R) w
  | 0 => Sat.un_nil h
  | n + 1 => Sat.un_in (Sat.ownil (rows_nil h n) t 1)
end
theorem rows_nil' {w0 w : World} {M : Nat → Prop} {R : List Ck} (t : Nat) (h : Sat w0 M R w) (n : Nat) : Sat w0 M (un (rowsO t (List.replicate n (.slice none 0 0, []))) :: R) w := rows_nil h n
/-- The regrets on the first snows. -/
def regP (l : List (List Int)) (k : Nat) (row : List Int) : List Int := (List.range k).map fun s => row.getD s 0 - lowV l s
/-- The rows, some of which are longer by one. -/
structure RegI (l : List (List Int)) (s m : Nat) (xs : List (Value × List Int)) : Prop where
  len : xs.length = l.length
  lt : ∀ i (hi : i < xs.length), i < m → xs[i].2 = regP l (s + 1) (l.getD i [])
  ge : ∀ i (hi : i < xs.length), m ≤ i → xs[i].2 = regP l s (l.getD i [])
theorem RegI.next {l : List (List Int)} {s : Nat} {xs : List (Value × List Int)} (h : RegI l s l.length xs) : RegI l (s + 1) 0 xs :=
  ⟨h.len, fun _ _ h2 => by omega, fun i hi _ => h.lt i hi (by rw [← h.len]; exact hi)⟩
theorem RegI.step {l : List (List Int)} {s m : Nat} {xs : List (Value × List Int)} (h : RegI l s m xs) (u : Value) {r : List Int} (hr : r = regP l (s + 1) (l.getD m [])) : RegI l s (m + 1) (xs.modify m fun _ => (u, r)) := by
  refine ⟨by rw [List.length_modify]; exact h.len, fun i hi h2 => ?_, fun i hi h2 => ?_⟩
  · rw [List.getElem_modify]
    split
    · rename_i e; subst e; exact hr
    · exact h.lt i (by simpa using hi) (by omega)
  · rw [List.getElem_modify, if_neg (by omega)]
    exact h.ge i (by simpa using hi) (by omega)
theorem RegI.all {l : List (List Int)} {s : Nat} {xs : List (Value × List Int)} (h : RegI l s 0 xs) : xs.map (·.2) = l.map (regP l s) := by
  refine List.ext_getElem (by simp [h.len]) (fun i h1 h2 => ?_)
  have hi : i < xs.length := by simpa using h1
  have hi2 : i < l.length := by simpa using h2
  rw [List.getElem_map, List.getElem_map, h.ge i hi (by omega), List.getD_eq_getElem?_getD, List.getElem?_eq_getElem hi2]
  rfl
end Go.Proofs.Ytllldihodgdcjaa

/- Walks: the waxes of a table. -/
namespace Go.Proofs.Ytllldihodgdcjaa
open Go Go.Eng

theorem RdII.rowS {w : World} {lo hi : Nat} {b off len cap m : Nat} {ll : List (List Int)} (h : RdII w lo hi (.slice (some ⟨b, off, none⟩) len cap) ll) (i : Nat) (hi' : i < ll.length) (hm : ll[i].length = m) (hp : 0 < m) :
    ∃ b2 o2 c2, RdI w lo hi (.slice (some ⟨b2, o2, none⟩) m c2) ll[i] ∧ ∀ w', Chg [] w w' → w'.cell? ⟨b, off + i * 1, none⟩ = some (.slice (some ⟨b2, o2, none⟩) m c2) := by
  obtain ⟨a, c, h1, h2⟩ := RdII.row h i hi'
  obtain ⟨a', c', e, h3⟩ := RdI.outI h1
  obtain ⟨b2, o2, e2⟩ := h3 (by omega)
  injection e with e3 e4 e5
  subst e3 e2 hm
  exact ⟨b2, o2, c, h1, h2⟩
end Go.Proofs.Ytllldihodgdcjaa

/- Walks: waxes that can be read; whether a wax is good on snows. -/
namespace Go.Proofs.Ytllldihodgdcjaa
open Go Go.Eng

/-- Waxes that can be read. -/
def RdW (w : World) (lo hi : Nat) (v : Value) (most : Int) (rows : List (List Int)) : Prop :=
  ∃ vs : List Value, RdE w lo hi v 2 (vs.map (wxV most)) ∧ vs.length = rows.length ∧ ∀ i (h : i < vs.length) (h' : i < rows.length), RdI w lo hi vs[i] rows[i] ∧ ∀ a n c, vs[i] = .slice a n c → n ≤ c
theorem RdW.keep {w w' : World} {lo hi : Nat} {v : Value} {most : Int} {rows : List (List Int)} (h : RdW w lo hi v most rows) (c : Chg [] w w') : RdW w' lo hi v most rows := by
  obtain ⟨vs, h1, h2, h3⟩ := h
  exact ⟨vs, h1.keep c, h2, fun i hi hi' => ⟨(h3 i hi hi').1.keep c, (h3 i hi hi').2⟩⟩
theorem RdW.outI {w : World} {lo hi : Nat} {v : Value} {most : Int} {rows : List (List Int)} (h : RdW w lo hi v most rows) : ∃ a cap, v = .slice a rows.length cap ∧ (0 < rows.length → ∃ b off, a = some ⟨b, off, none⟩) := by
  obtain ⟨vs, h1, h2, h3⟩ := h
  have := RdE.out h1
  rwa [List.length_map, h2] at this
/-- One wax. -/
theorem RdW.row {w : World} {lo hi : Nat} {b off len cap : Nat} {most : Int} {rows : List (List Int)} (h : RdW w lo hi (.slice (some ⟨b, off, none⟩) len cap) most rows) (i : Nat) (hi' : i < rows.length) :
    ∃ a c, RdI w lo hi (.slice a rows[i].length c) rows[i] ∧ rows[i].length ≤ c ∧ ∀ w', Chg [] w w' → ∀ j, j < 2 → w'.cell? ⟨b, off + i * 2 + j, none⟩ = [Value.slice a rows[i].length c, .int .i64 most][j]? := by
  obtain ⟨vs, h1, h2, h3⟩ := h
  obtain ⟨h4, h5⟩ := h3 i (by omega) hi'
  obtain ⟨a, c, hv, _⟩ := RdI.outI h4
  refine ⟨a, c, hv ▸ h4, h5 _ _ _ hv, fun w' hw' j hj => ?_⟩
  rw [RdE.cell (h1.keep hw') i j (by simp; omega) hj, List.getElem_map, hv]
  rfl
end Go.Proofs.Ytllldihodgdcjaa

/- Walks: the best wax. -/
namespace Go.Proofs.Ytllldihodgdcjaa
open Go Go.Eng

/-- The best wax of a span, with its regret, or the error. -/
def bestV (l : List (List Int)) (a b : Int) : Int × Int × Int := if tableV l ≠ 0 then (0, 0, tableV l) else if (inB a 0 b && (decide (b < (nV l : Int)) && true)) = false then (0, 0, 1) else let p := waxF (regV l (nV l)) a.toNat b.toNat l.length; (p.1, p.2, 0)
end Go.Proofs.Ytllldihodgdcjaa

/- Walks: zones. -/
namespace Go.Proofs.Ytllldihodgdcjaa
open Go Go.Eng

/-- Zones as cells. -/
def znC (zs : List (Int × Int × Int)) : List Value := zs.flatMap fun z => [.int .i64 z.1, .int .i64 z.2.1, .int .i64 z.2.2]
end Go.Proofs.Ytllldihodgdcjaa

/- Walks: whether snows are breaks. -/
namespace Go.Proofs.Ytllldihodgdcjaa
open Go Go.Eng

def pAll (w : World) (a b : Nat) : Value → Bool
  | .agg cs => match cs.toList with
    | [v, .int _ most] => allG (rowAt w v) most a b
    | _ => false
  | _ => false
def tK20_bab9619 : OT := .alt (chainT [9, 10, 0, 1, 2, 3, 4, 11, 5, 6, 7, 8, 12] (.nil)) (chainT [10, 9, 0, 1, 2, 3, 4, 11, 5, 6, 7, 8, 12] (.nil))
end Go.Proofs.Ytllldihodgdcjaa

/- Walks: sorted by insertion, with a function that compares. -/
namespace Go.Proofs.Ytllldihodgdcjaa
open Go Go.Eng

/-- A function value that compares by a key, in all worlds where only one block may have changed. -/
def CmpAt (w : World) (g : Nat) (cmp : Value) (key : Int → Int) (l : List Int) : Prop := ∀ w', ChgP (fun x => x = g) w w' → ∀ a ∈ l, ∀ b ∈ l, CaF Try.prog cmp [.int .i64 a, .int .i64 b] w' fun v w2 => v = .int .i64 (key a - key b) ∧ Chg [] w' w2
theorem CmpAt.sub {w w' : World} {g : Nat} {cmp : Value} {key : Int → Int} {l : List Int} (h : CmpAt w g cmp key l) (hc : ChgP (fun x => x = g) w w') : CmpAt w' g cmp key l := fun w2 hc2 => h w2 (hc.upP hc2 fun _ h => .inl h)
end Go.Proofs.Ytllldihodgdcjaa

/- Walks: single skis, sorted by how stiff they are. -/
namespace Go.Proofs.Ytllldihodgdcjaa
open Go Go.Eng

end Go.Proofs.Ytllldihodgdcjaa

/- Walks: pairs of single skis. -/
namespace Go.Proofs.Ytllldihodgdcjaa
open Go Go.Eng

def tK23_8fecd85 : OT := chainT [1, 2, 3, 4, 5, 6, 7, 8, 9, 10, 11, 0, 12, 13] (.nil)
end Go.Proofs.Ytllldihodgdcjaa

/- Walks: whether gaps show something. -/
namespace Go.Proofs.Ytllldihodgdcjaa
open Go Go.Eng

/-- The gap before the k-th one ends here. -/
def prevH (gs : List (Int × Int)) (k : Nat) : Option Int := if k = 0 then none else some (gs.getD (k - 1) (0, 0)).2
end Go.Proofs.Ytllldihodgdcjaa

/- Walks: lists compared. -/
namespace Go.Proofs.Ytllldihodgdcjaa
open Go Go.Eng

def eqIB (a b : List Int) : Bool := decide (a = b) && true
end Go.Proofs.Ytllldihodgdcjaa

/- Walks: the examples of the chapter. -/
namespace Go.Proofs.Ytllldihodgdcjaa
open Go Go.Eng

end Go.Proofs.Ytllldihodgdcjaa

/- Walks: klisterkit's deck. Only the ranges of what it deals are told. -/
namespace Go.Proofs.Ytllldihodgdcjaa
open Go Go.Eng

section
attribute [local irreducible] IntKind.wrap Int.tmod Int.tdiv

/-- The deck's own variable, after at most K cards. -/
def DkS (w : World) (b : Nat) (bs : Value) (K : Nat) : Prop :=
  ∃ next st, Blk w b [bs, .int .i64 next, .int .u32 st] 54 ∧ 0 ≤ next ∧ next ≤ K ∧ 0 ≤ st ∧ st < 4294967296
/-- Its bytes. -/
def DkB (w : World) (lo hi : Nat) (bs : Value) : Prop := ∃ nb cs, Rd w lo hi bs 1 nb cs ∧ (∀ c ∈ cs, ∃ x, c = .int .u8 x ∧ 0 ≤ x ∧ x < 256)
theorem DkB.keep {w w' : World} {lo hi : Nat} {bs : Value} (h : DkB w lo hi bs) (c : Chg [] w w') : DkB w' lo hi bs := by
  obtain ⟨nb, cs, h1, h2⟩ := h
  exact ⟨nb, cs, h1.keep c, h2⟩

set_option maxHeartbeats 1000000 in
theorem draw_ca (n : Int) (K : Nat) (hK : K < 4611686018427387904) (w : World) (b lo hi : Nat) (bs : Value) (hby : DkB w lo hi bs) (hlh : hi ≤ b) (hd : DkS w b bs K) :
    Ca Try.prog 7 [.pointer (some ⟨b, 0, none⟩), .int .i64 n] w fun v w' => ∃ r, v = .int .i64 r ∧ 0 ≤ r ∧ (r < n ∨ r = 0) ∧ Chg [b] w w' ∧ w'.heap.size = w.heap.size ∧ DkS w' b bs (K + 1) := by
  obtain ⟨nb, cs, hrd, hcs⟩ := hby
  obtain ⟨next, st, hb, hn0, hnK, hs0, hs1⟩ := hd
  have hd : DkS w b bs (K + 1) := ⟨next, st, hb, hn0, by omega, hs0, hs1⟩
  obtain ⟨a, cap, rfl, hsl⟩ := hrd.out
  refine ca_of Try.func7 rfl (by simp [Try.ntmps7]) ?_
  (refine y_seq (y_region (yl_pure tabOk rfl rfl (y_seq (y_seq (y_region ?_))))); (iterate 3 refine yl_pure tabOk rfl rfl ?_))
  refine yl_split rfl rfl (fun hc => ?_) (fun hc => ?_)
  · ((iterate 6 refine yl_guard_no rfl rfl rfl ?_); refine yl_pure tabOk rfl rfl (y_cond_true rfl (y_seq (y_region (yl_pure tabOk rfl rfl (y_ret ?_))))))
    exact y_fin1 rfl rfl ⟨0, rfl, by omega, .inr rfl, Chg.refl _ _, rfl, hd⟩
  (refine yl_guard_yes rfl (yl_pure tabOk rfl rfl (yl_guard_yes rfl (yl_pure tabOk rfl rfl (yl_guard_yes rfl (yl_pure tabOk rfl rfl (yl_guard_yes rfl ?_)))))); refine yl_loadB tabOk rfl rfl rfl (by assumption) (by rfl) ?_; refine yl_guard_yes rfl (yl_pure tabOk rfl rfl (yl_guard_yes rfl (yl_pure tabOk rfl rfl (yl_pure tabOk rfl rfl (yl_nil ?_))))))
  have hn := of_decide_eq_false hc
  refine y_if rfl (fun hc => ?_) (fun hc => ?_)
  · (refine y_seq (y_region (yl_pure tabOk rfl rfl (y_ret ?_))))
    exact y_fin1 rfl rfl ⟨0, rfl, by omega, .inr rfl, Chg.refl _ _, rfl, hd⟩
  have hnb : 0 < nb := by omega
  obtain ⟨bb, off, rfl, hcell⟩ := hsl hnb
  (refine y_skip (y_seq ?_))
  refine y_draw [] (by kernel_rfl) (by kernel_rfl) (fun w1 hc1 hs1 => ?_)
  have hb1 := hb.keep hc1
  ((iterate 3 refine yf_pure tabOk rfl rfl rfl ?_); refine yf_loadB tabOk rfl rfl rfl (by assumption) (by first | assumption | simp) (by rfl) ?_; (iterate 3 refine yf_pure tabOk rfl rfl rfl ?_); refine yf_loadB tabOk rfl rfl rfl (by assumption) (by first | assumption | simp) (by rfl) ?_; (iterate 3 refine yf_pure tabOk rfl rfl rfl ?_); refine yf_loadB tabOk rfl rfl rfl (by assumption) (by first | assumption | simp) (by rfl) ?_; refine yf_pure tabOk rfl rfl rfl ?_)
  have hlen : cs.length = nb := by have := hrd.1; omega
  have hm := tmod_pos hn0 (by omega : (0 : Int) < nb)
  refine yf_rem rfl rfl (by omega) rfl ?_
  refine yf_index tabOk rfl rfl rfl rfl rfl hm.1 hm.2 ?_
  obtain ⟨x, hx, hx0, hx1⟩ := hcs (cs[(next.tmod nb).toNat]'(by omega)) (List.getElem_mem _)
  refine yf_load1 tabOk rfl rfl rfl (fun w' hw' => ?_) (v := .int .u8 x) ?_
  · have h1 := ((hrd.keep hc1).keep hw').cell rfl (next.tmod nb).toNat (by omega)
    rw [Nat.mul_one, h1, List.getElem?_eq_getElem (by omega), hx]
  ((iterate 4 refine yf_pure tabOk rfl rfl rfl ?_); refine yf_loadB tabOk rfl rfl rfl (by assumption) (by first | assumption | simp) (by rfl) ?_; (iterate 3 refine yf_pure tabOk rfl rfl rfl ?_); refine yf_loadB tabOk rfl rfl rfl (by assumption) (by first | assumption | simp) (by rfl) ?_; refine yf_pure tabOk rfl rfl rfl ?_)
  refine yf_quo rfl rfl (by omega) rfl ?_
  ((iterate 3 refine yf_pure tabOk rfl rfl rfl ?_); refine y_seq (y_region ?_); (iterate 3 refine yl_pure tabOk rfl rfl ?_); refine yl_loadB tabOk rfl rfl rfl (by assumption) (by rfl) ?_; (iterate 3 refine yl_pure tabOk rfl rfl ?_))
  refine yl_store1 tabOk rfl rfl rfl rfl (by assumption) (by simp) (fun w2 hc2 hs2 hb2 => ?_)
  (refine y_seq (y_region ?_); (iterate 4 refine yl_pure tabOk rfl rfl ?_); refine yl_loadB tabOk rfl rfl rfl (by assumption) (by rfl) ?_; (iterate 7 refine yl_pure tabOk rfl rfl ?_))
  refine yl_rem rfl rfl (by omega) rfl ?_
  (refine yl_pure tabOk rfl rfl (yl_pure tabOk rfl rfl ?_))
  refine yl_store1 tabOk rfl rfl rfl rfl (by assumption) (by simp) (fun w3 hc3 hs3 hb3 => ?_)
  have hc03 : Chg [b] w w3 := (hc1.nil.trans hc2).trans hc3
  generalize hq : IntKind.u32.wrap (IntKind.i64.wrap (next.tdiv nb)) = q at *
  clear hq
  generalize hz : Int.tmod _ 65519 = z at *
  have hz0 : 0 ≤ z ∧ z < 65519 := by rw [← hz]; exact tmod_pos (wu32_range _).1 (by omega)
  clear hz
  have hd3 : DkS w3 b (.slice (some ⟨bb, off, none⟩) nb cap) (K + 1) := by
    refine ⟨next + 1, z, ?_, by omega, by omega, hz0.1, by omega⟩
    rw [w64 (by omega) (by omega)] at hb3
    exact hb3
  have hfin : ∀ y : Int, ∃ r, Value.int .i64 ((IntKind.i64.wrap (IntKind.u32.wrap y)).tmod n) = .int .i64 r ∧ 0 ≤ r ∧ (r < n ∨ r = 0) ∧ Chg [b] w w3 ∧ w3.heap.size = w.heap.size ∧ DkS w3 b (.slice (some ⟨bb, off, none⟩) nb cap) (K + 1) := by
    intro y
    have h1 := wu32_range y
    have h2 : IntKind.i64.wrap (IntKind.u32.wrap y) = IntKind.u32.wrap y := w64 (by omega) (by omega)
    rw [h2]
    have h3 := tmod_pos h1.1 (by omega : (0 : Int) < n)
    exact ⟨_, rfl, h3.1, .inl h3.2, hc03, by omega, hd3⟩
  (refine y_seq (y_seq (y_region ?_)); (iterate 3 refine yl_pure tabOk rfl rfl ?_))
  refine yl_split rfl rfl (fun hc => ?_) (fun hc => ?_)
  · (refine yl_guard_yes rfl (yl_pure tabOk rfl rfl (yl_guard_yes rfl (yl_pure tabOk rfl rfl (yl_pure tabOk rfl rfl (yl_nil ?_))))))
    refine y_if rfl (fun hc => ?_) (fun hc => ?_)
    · (refine y_seq (y_region ?_); (iterate 3 refine yl_pure tabOk rfl rfl ?_))
      refine yl_rem rfl rfl (by omega) rfl ?_
      (refine yl_pure tabOk rfl rfl (y_ret ?_))
      exact y_fin1 rfl rfl (hfin _)
    · (refine y_skip (y_seq (y_region ?_)); (iterate 3 refine yl_pure tabOk rfl rfl ?_); refine yl_loadB tabOk rfl rfl rfl (by assumption) (by rfl) ?_; (iterate 5 refine yl_pure tabOk rfl rfl ?_))
      refine yl_rem rfl rfl (by omega) rfl ?_
      (refine yl_pure tabOk rfl rfl (y_ret ?_))
      exact y_fin1 rfl rfl (hfin _)
  · (refine yl_guard_no rfl rfl rfl (yl_guard_no rfl rfl rfl (yl_pure tabOk rfl rfl (y_cond_false rfl (y_skip (y_seq (y_region ?_)))))); (iterate 3 refine yl_pure tabOk rfl rfl ?_); refine yl_loadB tabOk rfl rfl rfl (by assumption) (by rfl) ?_; (iterate 5 refine yl_pure tabOk rfl rfl ?_))
    refine yl_rem rfl rfl (by omega) rfl ?_
    (refine yl_pure tabOk rfl rfl (y_ret ?_))
    exact y_fin1 rfl rfl (hfin _)


end
/-- A deck, after at most K cards. -/
def dkP (bs : Value) (b K : Nat) : Ck := .gn (fun x => x = b) (fun w => DkS w b bs K) (fun w w' N h hc hN => by
  obtain ⟨next, st, h1, h2⟩ := h
  exact ⟨next, st, (hc.block b h1.lt (hN b rfl)).trans h1, h2⟩)

theorem drawP_ca (n : Int) (K : Nat) (hK : K < 4611686018427387904) (w : World) (b lo hi : Nat) (bs : Value) (hby : DkB w lo hi bs) (hlh : hi ≤ b) (hd : DkS w b bs K) :
    Ca Try.prog 7 [.pointer (some ⟨b, 0, none⟩), .int .i64 n] w fun v w' => ∃ x : Int, (v = .int .i64 x ∧ 0 ≤ x ∧ (x < n ∨ x = 0)) ∧ Sat w (fun x => x = b) [dkP bs b (K + 1)] w' :=
  (draw_ca n K hK w b lo hi bs hby hlh hd).mono fun v w' ⟨r, h1, h2, h3, h4, h5, h6⟩ =>
    ⟨r, ⟨h1, h2, h3⟩, ⟨h4.os, h4.tape, h4.output, h4.size, fun k hk hkb => h4.block k hk (by simpa using hkb)⟩, by simpa [dkP, Ck.p] using h6, .cons (by simp) .nil, fun c hc x hx => by
      obtain rfl : c = dkP bs b (K + 1) := by simpa using hc
      obtain rfl : x = b := hx
      obtain ⟨_, _, h7, _⟩ := h6
      exact ⟨h7.lt, .inl rfl⟩⟩



theorem dk_sat {w : World} {b K : Nat} {bs : Value} (hd : DkS w b bs K) : Sat w (fun x => x = b) [dkP bs b K] w :=
  ⟨ChgP.refl _ _, by simpa [dkP, Ck.p] using hd, .cons (by simp) .nil, fun c hc x hx => by
    obtain rfl : c = dkP bs b K := by simpa using hc
    obtain rfl : x = b := hx
    obtain ⟨_, _, h7, _⟩ := hd
    exact ⟨h7.lt, .inl rfl⟩⟩

theorem between_ca (l h : Int) (hl : -1000000 ≤ l) (hh : h ≤ 1000000) (hlh2 : l ≤ h) (K : Nat) (hK : K < 4611686018427387904) (w : World) (b lo hi : Nat) (bs : Value) (hby : DkB w lo hi bs) (hlh : hi ≤ b) (hd : DkS w b bs K) :
    Ca Try.prog 5 [.pointer (some ⟨b, 0, none⟩), .int .i64 l, .int .i64 h] w fun v w' => ∃ x : Int, (v = .int .i64 x ∧ l ≤ x ∧ x ≤ h) ∧ Sat w (fun x => x = b) [dkP bs b (K + 1)] w' := by
  refine q_of (dk_sat hd) Try.func5 rfl (by simp [Try.ntmps5]) ?_
  (refine q_seq (q_region (ql_pure tabOk rfl rfl (q_nil (q_seq (q_region ?_))))); (iterate 4 refine ql_pure tabOk rfl rfl ?_); refine ql_ar tabOk rfl rfl rfl rfl (by omega) (by omega) (ql_ar tabOk rfl rfl rfl rfl (by omega) (by omega) ?_))
  refine ql_call (β := Int) (ψ := fun x v => v = .int .i64 x ∧ 0 ≤ x ∧ (x < h - l + 1 ∨ x = 0)) (L' := fun _ => [dkP bs b (K + 1)]) tabOk [dkP bs b K] [] (fun x => x = b) rfl rfl rfl rfl (Sp.refl _) (fun x hx => ⟨_, .head _, hx⟩) (fun w' hs => drawP_ca (h - l + 1) K hK w' b lo hi bs (by
    obtain ⟨nb, cs, h1, h2⟩ := hby
    exact ⟨nb, cs, h1.chg (N := [b]) ⟨hs.chg.os, hs.chg.tape, hs.chg.output, hs.chg.size, fun k hk hkb => hs.chg.block k hk (by simpa using hkb)⟩ (fun k hk => .inr (by simp at hk; omega)), h2⟩) hlh (hs.all _ (.head _))) ?_
  rintro x _ ⟨rfl, hx0, hx1⟩
  (refine ql_ar tabOk rfl rfl rfl rfl (by omega) (by omega) (ql_pure tabOk rfl rfl (q_nil (q_ret ?_))))
  refine q_fin tabOk rfl (by repeat constructor) fun w hs => ?_
  exact ⟨_, ⟨rfl, by omega, by omega⟩, hs⟩



theorem of_ca (w : World) (a : Option Addr) (n c : Nat) : Ca Try.prog 4 [.slice a n c] w fun v w' => ∃ b : Nat, v = .pointer (some ⟨b, 0, none⟩) ∧ Sat w M0 [dkP (.slice a n c) b 0] w' := by
  refine q_of (Sat.nil w M0) Try.func4 rfl (by simp [Try.ntmps4]) ?_
  (refine q_seq (q_region (ql_pure tabOk rfl rfl (q_nil (q_seq (q_region (ql_pure tabOk rfl rfl ?_)))))))
  refine ql_mk #[.slice a n c, .int .i64 0, .int .u32 17] rfl (by kernel_rfl) rfl ?_
  skip
  refine ql_box rfl rfl (fun b1 => ?_)
  (refine ql_pure tabOk rfl rfl (q_nil (q_ret ?_)))
  refine q_fin tabOk rfl (by repeat constructor) fun w hs => ?_
  refine ⟨b1, rfl, ⟨hs.chg, fun d hd => ?_, .cons (by simp) .nil, fun d hd x hx => ?_⟩⟩
  · obtain rfl : d = dkP (.slice a n c) b1 0 := by simpa using hd
    exact ⟨0, 17, hs.all _ (.head _), by omega, by omega, by omega, by omega⟩
  · obtain rfl : d = dkP (.slice a n c) b1 0 := by simpa using hd
    obtain rfl : x = b1 := hx
    exact hs.bd _ (.head _) x rfl



theorem DkB.keepP {w w' : World} {lo hi b : Nat} {bs : Value} (h : DkB w lo hi bs) (hlh : hi ≤ b) (hc : ChgP (fun x => x = b) w w') : DkB w' lo hi bs := by
  obtain ⟨nb, cs, h1, h2⟩ := h
  exact ⟨nb, cs, h1.chg (N := [b]) ⟨hc.os, hc.tape, hc.output, hc.size, fun k hk hkb => hc.block k hk (by simpa using hkb)⟩ (fun k hk => .inr (by simp at hk; omega)), h2⟩
theorem DkS.mono {w : World} {b K K' : Nat} {bs : Value} (h : DkS w b bs K) (hk : K ≤ K') : DkS w b bs K' := by
  obtain ⟨next, st, h1, h2, h3, h4⟩ := h
  exact ⟨next, st, h1, h2, by omega, h4⟩
theorem Sat.dk {w0 w : World} {M : Nat → Prop} {R : List Ck} {b K K' : Nat} {bs : Value} (h : Sat w0 M (dkP bs b K :: R) w) (hk : K ≤ K') : Sat w0 M (dkP bs b K' :: R) w := h.turn (fun _ h => h) (fun h => DkS.mono h hk)



section
variable {K b : Nat} {bs : Value} {w0 w : World} {R : List Ck}
theorem dk_new (hs : Sat w0 M0 (dkP bs b K :: R) w) : w0.heap.size ≤ b := (hs.bd _ (.head _) b rfl).2.resolve_left (fun h => h)
theorem btw0 {l h : Int} (hby : DkB w0 0 w0.heap.size bs) (hs : Sat w0 M0 (dkP bs b K :: R) w) (hl : -1000000 ≤ l) (hh : h ≤ 1000000) (hlh : l ≤ h) (hK : K < 1000000) :
    Ca Try.prog 5 [.pointer (some ⟨b, 0, none⟩), .int .i64 l, .int .i64 h] w fun v w' => ∃ x : Int, (v = .int .i64 x ∧ l ≤ x ∧ x ≤ h) ∧ Sat w (fun x => x = b) [dkP bs b (K + 1)] w' :=
  between_ca l h hl hh hlh K (by omega) w b 0 w0.heap.size _ (hby.keep hs.chg0) (dk_new hs) (hs.all _ (.head _))
theorem drw0 {n : Int} (hby : DkB w0 0 w0.heap.size bs) (hs : Sat w0 M0 (dkP bs b K :: R) w) (hn : 1 ≤ n) (hK : K < 1000000) :
    Ca Try.prog 7 [.pointer (some ⟨b, 0, none⟩), .int .i64 n] w fun v w' => ∃ x : Int, (v = .int .i64 x ∧ 0 ≤ x ∧ x ≤ n - 1) ∧ Sat w (fun x => x = b) [dkP bs b (K + 1)] w' :=
  (drawP_ca n K (by omega) w b 0 w0.heap.size _ (hby.keep hs.chg0) (dk_new hs) (hs.all _ (.head _))).mono fun v w' ⟨x, ⟨h1, h2, h3⟩, h4⟩ => ⟨x, ⟨h1, h2, by omega⟩, h4⟩
end
end Go.Proofs.Ytllldihodgdcjaa

/- Walks: a lab is made of numbers. -/
namespace Go.Proofs.Ytllldihodgdcjaa
open Go Go.Eng

/-- What a lab that was made has. -/
structure MadeL (most runs : Nat) (l : Lb) (real : List Int) : Prop where
  ok : l.Ok
  s2 : 2 ≤ l.skis
  sm : l.skis ≤ most
  e12 : l.err ≤ 11
  len : l.runs.length ≤ runs
  tr : l.True real
  rl : real.length = l.n
  rb : ∀ x ∈ real, 0 ≤ x ∧ x ≤ 96
theorem slR : SlT Try.prog 26 33 3 24 (.agg #[.int .i64 0, .int .i64 0, .int .i64 0]) := ⟨by kernel_rfl, by kernel_rfl, by kernel_rfl, by decide⟩
theorem rnC_snoc (l : List Rn) (r : Rn) : rnC (l ++ [r]) = rnC l ++ [.int .i64 r.a, .int .i64 r.b, .int .i64 r.lead] := by simp [rnC]
end Go.Proofs.Ytllldihodgdcjaa

/- Walks: tables are made of numbers, and copied. -/
namespace Go.Proofs.Ytllldihodgdcjaa
open Go Go.Eng

theorem slII : SlT Try.prog 44 29 1 24 (.slice none 0 0) := ⟨by kernel_rfl, by kernel_rfl, by kernel_rfl, by decide⟩
theorem rows_add {w0 w : World} {M : Nat → Prop} {R : List Ck} {t : Nat} {xs : List (Value × List Int)} {u : Value} {r : List Int} (h : Sat w0 M (.ow u t 1 r.length (ints r) :: un (rowsO t xs) :: R) w) : Sat w0 M (un (rowsO t (xs ++ [(u, r)])) :: R) w :=
  (Sat.un_in h).un_perm (L' := rowsO t (xs ++ [(u, r)])) (by unfold rowsO; rw [List.map_append]; exact (List.perm_append_comm (l₁ := [_])))
end Go.Proofs.Ytllldihodgdcjaa

/- Walks: the regrets of a table; lists of lists copied. -/
namespace Go.Proofs.Ytllldihodgdcjaa
open Go Go.Eng

end Go.Proofs.Ytllldihodgdcjaa

/- Walks: breaks; slices.Clone; waxes that are good on a snow. -/
namespace Go.Proofs.Ytllldihodgdcjaa
open Go Go.Eng

theorem sclone_ca (w : World) (lo hi : Nat) (v : Value) (l : List Int) (hl : RdI w lo hi v l) (hlen : l.length < 1000000) : Ca Try.prog 35 [v] w fun v w' => ∃ x : Value, v = x ∧ Sat w M0 [.ow x 3 1 l.length (ints l)] w' := by
  obtain ⟨a, c, rfl, hs⟩ := RdI.outI hl
  refine q_of (Sat.nil w M0) Try.func35 rfl (by simp [Try.ntmps35]) ?_
  (refine q_seq (q_region (ql_pure tabOk rfl rfl (q_nil (q_seq (q_seq (q_region (ql_pure tabOk rfl rfl ?_))))))))
  refine ql_eqnil tabOk rfl rfl rfl rfl ?_
  cases a with
  | none =>
    have h0 : l = [] := by
      cases l with
      | nil => rfl
      | cons x l =>
        obtain ⟨b, off, hb⟩ := hs (by simp)
        cases hb
    subst h0
    (refine q_nil (q_cond_true rfl (q_seq (q_region (ql_pure tabOk rfl rfl (q_nil (q_ret ?_)))))))
    refine q_fin tabOk rfl (by repeat constructor) fun w hs => ?_
    exact ⟨_, rfl, by simpa [ints, retV] using Sat.ownil hs 3 1⟩
  | some ad =>
    (refine q_nil (q_cond_false rfl (q_skip (q_seq (q_region ?_)))))
    refine ql_mkS0 3 (by kernel_rfl) (by kernel_rfl) rfl (fun x => ?_)
    (refine ql_pure tabOk rfl rfl ?_)
    refine ql_append (q := l.length) slI rfl rfl rfl (fun v' => by repeat constructor) (fun w' hs => ⟨lo, hi, RdI.row (RdE.keep hl hs.chg0)⟩) (by simp [oneV]) (by omega) (by omega) (fun v' => ?_)
    (refine ql_pure tabOk rfl rfl (q_nil (q_ret ?_)))
    refine q_fin tabOk rfl (by repeat constructor) fun w hs => ?_
    exact ⟨v', rfl, by simpa using hs⟩

/-- Chosen waxes as numbers. -/
def chI (ch : List Nat) : List Int := ch.map fun (x : Nat) => (x : Int)
theorem chI_len (ch : List Nat) : (chI ch).length = ch.length := by simp [chI]
def pGd (R : List (List Int)) (most : Int) (s : Nat) : Value → Bool
  | .int _ i => decide ((R.getD i.toNat []).getD s 0 ≤ most)
  | _ => false
end Go.Proofs.Ytllldihodgdcjaa

/- Walks: whether places are known; the first order that fits; where a number is. -/
namespace Go.Proofs.Ytllldihodgdcjaa
open Go Go.Eng

theorem known_ok (w : World) (lo hi : Nat) (l : Lb) (v : Value) (k : Nat) (h : RdR w lo hi v l.runs) (hl : l.Ok) (hc : NoC l.ord l.n) (k1 : 1 ≤ k) (k2 : k ≤ l.n) : Ca Try.prog 10 [.agg (lbC l v).toArray, .int .i64 k] w fun x w' => x = .tuple #[.bool (knownO l.ord l.n k), .int .i64 0] ∧ Chg [] w w' := by
  obtain ⟨n, en, hn', h8, h1⟩ := hl.nat
  rw [hn'] at k2 ⊢
  have hlen : l.runs.length ≤ maxLen := by have := hl.len; simp only [maxLen]; omega
  have hpl : placedV l k = 0 := placed_iff.2 ⟨hl, by omega, by omega⟩
  refine q_of (Sat.nil w M0) Try.func10 rfl (by simp [Try.ntmps10]) ?_
  (refine q_seq (q_region ?_))
  refine ql_box rfl rfl (fun b2 => ?_)
  rw [agg_cells]
  (refine ql_pure tabOk rfl rfl (ql_pure tabOk rfl rfl (q_nil (q_seq (q_seq (q_region ?_))))); refine ql_loadABa tabOk rfl rfl rfl ?_; refine ql_pure tabOk rfl rfl ?_)
  refine ql_callv (val := .int .i64 0) tabOk rfl rfl rfl rfl (fun w hs => ?_) ?_; exact by have := placed_ca w lo hi l v k (RdE.keep h hs.chg0) hlen; rw [hpl] at this; exact this
  (refine ql_pure tabOk rfl rfl (q_nil (q_seq (q_region (ql_pure tabOk rfl rfl (ql_neqF tabOk rfl rfl rfl (by omega) (q_nil (q_cond_false rfl (q_skip (q_seq (q_region ?_)))))))))); refine ql_loadABa tabOk rfl rfl rfl ?_)
  refine ql_call (β := Nat) tabOk [] _ M0 rfl rfl rfl rfl (Sp.refl _) (fun _ h => h.elim) (fun w' hs => agreed_ok w' lo hi l v (RdE.keep h hs.chg0) hl hc) ?_
  rintro b _ rfl
  dsimp only [List.cons_append, List.nil_append]
  (refine ql_pure tabOk rfl rfl (ql_ext tabOk rfl rfl rfl (ql_ext tabOk rfl rfl rfl (ql_pure tabOk rfl rfl (ql_pure tabOk rfl rfl (q_nil (q_seq (q_seq (q_region (ql_pure tabOk rfl rfl (ql_neqF tabOk rfl rfl rfl (by omega) (q_nil ?_))))))))))); refine q_cond_false rfl (q_skip (q_seq ?_)))
  refine q_draw _ [] (Sp.refl _) (by kernel_rfl) (by kernel_rfl) ?_
  ((iterate 3 refine qf_pure tabOk rfl rfl rfl ?_); refine qf_loadABa tabOk rfl rfl rfl ?_; (iterate 4 refine qf_pure tabOk rfl rfl rfl ?_); refine qf_loadBa tabOk rfl rfl rfl ?_; refine qf_pure tabOk rfl rfl rfl ?_)
  rw [dk_take, en]
  refine qf_callv (val := .bool (knownO l.ord n k)) tabOk rfl rfl rfl rfl (fun w hs => ?_) ?_; exact known_ca w l.ord n k h8 k2
  (refine qf_pure tabOk rfl rfl rfl (qf_pure tabOk rfl rfl rfl (qf_nil (q_ret ?_))))
  refine q_fin tabOk rfl (by repeat constructor) fun w hs => ?_
  exact ⟨rfl, hs.chg0⟩
/-- Where a number is in a list, or -1. -/
def idxN (L : List Nat) (x : Nat) : Int := if x ∈ L then (L.idxOf x : Int) else -1
theorem chI_snoc' (ch : List Nat) (x : Nat) : ints (chI ch ++ [(x : Int)]) = ints (chI ch) ++ [.int .i64 (x : Int)] := by simp [ints]
theorem chI_app' (ch : List Nat) (x : Nat) : chI (ch ++ [x]) = chI ch ++ [(x : Int)] := by simp [chI]
theorem first_step {o n j : Nat} : firF o n (j + 1) = match nextO o n (firF o n j).2 with | some s => ((firF o n j).1 ++ [s], (firF o n j).2 ||| 2 ^ s) | none => firF o n j := rfl
set_option maxHeartbeats 1000000 in
theorem first_ok (w : World) (lo hi : Nat) (l : Lb) (v : Value) (h : RdR w lo hi v l.runs) (hl : l.Ok) (hc0 : NoC l.ord l.n) : Ca Try.prog 9 [.agg (lbC l v).toArray] w fun x w' => ∃ u : Value, x = .tuple #[u, .int .i64 0] ∧ Sat w M0 [.ow u 3 1 l.n (ints (chI (firF l.ord l.n l.n).1))] w' := by
  obtain ⟨n, en, hn', h8, h1⟩ := hl.nat
  have hfi := fun j (hj : j ≤ l.n) => fir_is hc0 hl.o hl.n8 j hj
  rw [hn'] at hfi ⊢
  refine q_of (Sat.nil w M0) Try.func9 rfl (by simp [Try.ntmps9]) ?_
  (refine q_seq (q_region ?_))
  refine ql_box rfl rfl (fun b1 => ?_)
  rw [agg_cells]
  (refine ql_pure tabOk rfl rfl (ql_pure tabOk rfl rfl (q_nil (q_seq (q_region ?_)))); refine ql_loadABa tabOk rfl rfl rfl ?_)
  refine ql_call (β := Nat) tabOk [] _ M0 rfl rfl rfl rfl (Sp.refl _) (fun _ h => h.elim) (fun w' hs => agreed_ok w' lo hi l v (RdE.keep h hs.chg0) hl hc0) ?_
  rintro b _ rfl
  dsimp only [List.cons_append, List.nil_append]
  (refine ql_pure tabOk rfl rfl (ql_ext tabOk rfl rfl rfl (ql_ext tabOk rfl rfl rfl (ql_pure tabOk rfl rfl (ql_pure tabOk rfl rfl (q_nil (q_seq (q_seq (q_region (ql_pure tabOk rfl rfl (ql_neqF tabOk rfl rfl rfl (by omega) (q_nil ?_))))))))))); refine q_cond_false rfl (q_skip (q_seq (q_region (ql_pure tabOk rfl rfl (q_nil (q_seq (q_region (ql_pure tabOk rfl rfl (q_nil (q_seq (q_seq ?_))))))))))); refine q_region ?_; (iterate 4 refine ql_pure tabOk rfl rfl ?_); refine ql_loadBa tabOk rfl rfl rfl ?_; refine ql_pure tabOk rfl rfl (q_nil (q_block ?_)))
  rw [en]
  refine q_conv (H' := [.ow (.slice none 0 0) 3 1 0 (ints (chI (firF l.ord n 0).1)), .pt b (dkC l v l.ord) 62]) (fun w' hs => (Sat.ownil hs 3 1).sp (by repeat constructor)) ?_
  refine q_loop (σ := Nat × Value) (fun y => y.1 ≤ n) (fun y => n - y.1) (fun y => [(4, .pointer (some ⟨b, 0, none⟩)), (6, y.2), (7, .int .i64 (firF l.ord n y.1).2), (21, .int .i64 n), (22, .int .i64 y.1)]) (fun y => [.ow y.2 3 1 y.1 (ints (chI (firF l.ord n y.1).1)), .pt b (dkC l v l.ord) 62]) (0, .slice none 0 0) (by simp only; omega) ⟨rfl, rfl, rfl, rfl, rfl, trivial⟩ (by repeat constructor) ?_
  rintro ⟨j, u⟩ hj K hK
  dsimp only at hj ⊢
  (refine q_seq (q_region (ql_pure tabOk rfl rfl (q_nil (q_seq ?_)))))
  refine q_if rfl (fun hc => ?_) (fun hc => ?_)
  · have hj2 : j < n := by omega
    clear hc
    have hI := hfi j (by omega)
    have hI2 := hfi (j + 1) (by omega)
    rw [first_step] at hI2
    have hst := first_step (o := l.ord) (n := n) (j := j)
    have hbd := hI.bd
    have h256 : 2 ^ n ≤ 256 := by have := Nat.pow_le_pow_right (show 0 < 2 by omega) h8; simpa using this
    obtain ⟨L, S, hLS⟩ : ∃ L S, firF l.ord n j = (L, S) := ⟨_, _, rfl⟩
    rw [hLS] at hI hI2 hst hbd ⊢
    dsimp only at hI hI2 hst hbd ⊢
    have hex : ∃ s, nextO l.ord n S = some s := by
      cases hnx : nextO l.ord n S with
      | some s => exact ⟨s, rfl⟩
      | none =>
        rw [hnx] at hI2
        have h3 := hI2.len
        have h4 := hI.len
        dsimp only at h3
        omega
    obtain ⟨s0, hs0⟩ := hex
    rw [hs0] at hst
    dsimp only at hst
    obtain ⟨hf0, hr0, hb0⟩ := List.find?_range_eq_some.1 hs0
    have hs0n := List.mem_range.1 hr0
    have hS : S < 256 := by omega
    (refine q_skip (q_seq (q_block (q_seq (q_region ?_)))); (iterate 4 refine ql_pure tabOk rfl rfl ?_); refine ql_loadBa tabOk rfl rfl rfl ?_; refine ql_pure tabOk rfl rfl (q_nil (q_block ?_)))
    rw [en]
    refine q_loop (σ := Nat) (fun s => s ≤ s0) (fun s => n - s) (fun s => [(4, .pointer (some ⟨b, 0, none⟩)), (6, u), (7, .int .i64 S), (21, .int .i64 n), (22, .int .i64 j), (28, .int .i64 n), (29, .int .i64 s)]) (fun _ => [.ow u 3 1 j (ints (chI L)), .pt b (dkC l v l.ord) 62]) 0 (by omega) ⟨rfl, rfl, rfl, rfl, rfl, rfl, rfl, trivial⟩ (by repeat constructor) ?_
    rintro s hs1 K2 hK2
    (refine q_seq (q_region (ql_lssT tabOk rfl rfl rfl (by omega) (q_nil (q_seq (q_cond_true rfl (q_skip (q_seq (q_block (q_seq (q_region (ql_pure tabOk rfl rfl ?_))))))))))); refine ql_pure tabOk rfl rfl (q_nil (q_seq (q_region ?_))); (iterate 3 refine ql_pure tabOk rfl rfl ?_))
    refine ql_callv (val := .bool (freeO l.ord n s S)) tabOk rfl rfl rfl rfl (fun w hs => ?_) ?_; exact by have := free_ca w b 62 l v l.ord s S (hs.blk (by repeat constructor)) hl (by omega) (by omega); rw [hn'] at this; exact this
    by_cases hss : s = s0
    · subst hss
      rw [hf0]
      have hpow : (2 : Nat) ^ s ≤ 128 := by have := Nat.pow_le_pow_right (show 0 < 2 by omega) (show s ≤ 7 by omega); simpa using this
      (refine q_nil (q_cond_true rfl (q_seq (q_region (ql_pure tabOk rfl rfl (ql_pure tabOk rfl rfl ?_))))))
      refine ql_mkS 3 [.int .i64 s] rfl (by kernel_rfl) rfl (fun bn => ?_)
      skip
      refine ql_append (q := 1) (news := [.int .i64 s]) slI rfl rfl rfl (fun v' => by repeat constructor) (fun w' hs => ⟨_, _, Blk.rdN (hs.blk (b := bn) (by repeat constructor)) rfl⟩) (by simp [oneV]) (by omega) (by omega) (fun u' => ?_)
      (refine ql_pure tabOk rfl rfl (q_nil (q_seq (q_region (ql_pure tabOk rfl rfl (ql_pure tabOk rfl rfl ?_))))))
      obtain ⟨pk, hpk⟩ : ∃ p, p = 2 ^ s := ⟨_, rfl⟩
      have sh2 : (1 : Int) * 2 ^ (s : Int).toNat = (pk : Int) := by rw [hpk, Int.toNat_natCast, Int.one_mul]; norm_cast
      rw [← hpk] at hpow hst
      refine ql_shl rfl rfl rfl (by omega) (by rw [sh2]; omega) (by rw [sh2]; omega) ?_
      rw [sh2]
      skip
      refine ql_orN rfl rfl rfl (by omega) (by omega) ?_
      (refine ql_pure tabOk rfl rfl (q_nil (q_exit _ rfl (q_blk (q_region (ql_ar tabOk rfl rfl rfl rfl (by omega) (by omega) (ql_pure tabOk rfl rfl (q_nil ?_))))))))
      exact hK (j + 1, u') _ _ (by simp only; omega) (by simp only; omega) ⟨rfl, rfl, by rw [hst]; rfl, rfl, rfl, trivial⟩ (by dsimp only; rw [hst]; dsimp only; rw [chI_app', chI_snoc']; repeat constructor)
    · have hff : freeO l.ord n s S = false := by simpa using hb0 s (by omega)
      rw [hff]
      (refine q_nil (q_cond_false rfl (q_skip (q_blk (q_region (ql_ar tabOk rfl rfl rfl rfl (by omega) (by omega) (ql_pure tabOk rfl rfl (q_nil ?_))))))))
      exact hK2 (s + 1) _ _ (by omega) (by omega) ⟨rfl, rfl, rfl, rfl, rfl, rfl, rfl, trivial⟩ (by repeat constructor)
  · obtain rfl : j = n := by omega
    (refine q_exit _ rfl (q_seq (q_region ?_)); (iterate 3 refine ql_pure tabOk rfl rfl ?_); refine q_nil (q_ret ?_))
    refine q_fin tabOk rfl (by repeat constructor) fun w hs => ?_
    exact ⟨u, rfl, hs.sp (by repeat constructor)⟩
end Go.Proofs.Ytllldihodgdcjaa

/- Walks: labs are copied, and get a run more. -/
namespace Go.Proofs.Ytllldihodgdcjaa
open Go Go.Eng

def tD3_563eb24 : OT := chainT [0, 1, 2, 3, 4, 5, 6, 7, 8] (.nil)
end Go.Proofs.Ytllldihodgdcjaa

/- Lists of labs, and what is told of them. -/
namespace Go.Proofs.Ytllldihodgdcjaa
open Go Go.Eng

abbrev LbM := Lb × Option Addr × Nat
def labCs (M : List LbM) : List Value := M.flatMap fun m => [.int .i64 m.1.skis, .int .i64 m.1.err, .slice m.2.1 m.1.runs.length m.2.2]
def labOs (t : Nat) (M : List LbM) : List Ck := M.map fun m => .ow (.slice m.2.1 m.1.runs.length m.2.2) t 3 m.1.runs.length (rnC m.1.runs)
/-- Places that were told. -/
def plOs (t : Nat) (M : List LbM) (ps : List Value) : List Ck := (M.zip ps).map fun x => .ow x.2 t 2 x.1.1.n (spC (plC x.1.1 x.1.1.ord x.1.1.n))
/-- An array that is filled. -/
def filA (f : Nat → Int) (n j : Nat) : List Int := (List.range n).map fun i => if i < j then f i else 0
theorem plC_get (l : Lb) (o : Nat) {k s : Nat} (hs : s < k) : (plC l o k)[s]? = some (((1 + upN o s l.n : Nat) : Int), l.skis - dnN o s l.n) := by
  unfold plC
  rw [List.getElem?_map, List.getElem?_range hs]
  rfl
def lbM (M : List LbM) (i : Nat) : Lb := (M.getD i (⟨0, 0, []⟩, none, 0)).1
def oM (M : List LbM) (i : Nat) : Int := cnt (lbM M i).ord (lbM M i).n (2 ^ (lbM M i).n - 1)
def rM (M : List LbM) (k i : Nat) : Int := (planO (lbM M i).n k (lbM M i).ord : Nat)
/-- What all labs of a list have. -/
structure AllOk (sk : Nat) (m : LbM) : Prop where
  ok : m.1.Ok
  noC : NoC m.1.ord m.1.n
  skis : m.1.skis = (sk : Int)
theorem AllOk.n {sk : Nat} {m : LbM} (h : AllOk sk m) : m.1.n = sk := by unfold Lb.n; rw [h.skis]; omega
end Go.Proofs.Ytllldihodgdcjaa

/- Walks: all pairs of skis of which one is faster; whether a pair is among them. -/
namespace Go.Proofs.Ytllldihodgdcjaa
open Go Go.Eng

/-- The pairs with a faster ski of a list of skis. -/
def prA (o n : Nat) (L : List Nat) : List (Int × Int) := L.flatMap fun a => ((List.range n).filter fun b => fa o a b).map fun (b : Nat) => ((a : Int), (b : Int))
/-- All pairs of skis of which one is faster. -/
def fasL (o n : Nat) : List (Int × Int) := prA o n (List.range n)
/-- Those of the skis ahead of the k-th one, and the first ones of its own. -/
def fasI (o n a b : Nat) : List (Int × Int) := prA o n (List.range a) ++ ((List.range b).filter fun b => fa o a b).map fun (b : Nat) => ((a : Int), (b : Int))
/-- Where a pair is, or -1. -/
def idxP (L : List (Int × Int)) (p : Int × Int) : Int := if p ∈ L then (L.idxOf p : Int) else -1
end Go.Proofs.Ytllldihodgdcjaa

/- Labs that grow, and what is read of them. -/
namespace Go.Proofs.Ytllldihodgdcjaa
open Go Go.Eng

/-- The slice of a lab's runs. -/
abbrev slV (m : LbM) : Value := .slice m.2.1 m.1.runs.length m.2.2
end Go.Proofs.Ytllldihodgdcjaa
