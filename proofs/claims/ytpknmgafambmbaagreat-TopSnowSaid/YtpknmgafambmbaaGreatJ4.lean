/- My texts B30, B31, B32, B33, B34, B35, B36, B37, B38, B39, B40, B41, B42, B43, B44, B45, B46, B49, B50, H1, H2, H4, H5, H6, H3, H7, K29, K30, K31, W8, Z0, L12, L15, B47, joined: a claim takes at most 60 files. -/
import Derived.Test.YtpknmgafambmbaaGreatJ3

/- The engine, part B30: arrays of arrays of Bools: compared, and as keys of maps. -/
namespace Go.Eng
open Go Go.RowKit

section
variable {P : Program}
def arr2B (P : Program) (t e b n1 n2 : Nat) : Bool :=
  !(P.eqGuardType P.depth t) && (match P.underlying t with | some (.array n' e') => Nat.beq n' n1 && Nat.beq e' e | _ => false) && (Nat.beq (P.cellsOf e) n2 && (P.info? e).isSome) && arrQB P e n2 b && (match P.underlying e with | some (.array _ _) => true | _ => false) && (P.info? b).isSome && Nat.beq (P.cellsOf b) 1
structure Arr2 (P : Program) (t e b n1 n2 : Nat) : Prop where
  g : P.eqGuardType P.depth t = false
  u : P.underlying t = some (.array n1 e)
  c : P.cellsOf e = n2
  i : (P.info? e).isSome = true
  q : arrQB P e n2 b = true
  v : ∃ n' e', P.underlying e = some (.array n' e')
theorem run_partArr {t n n' e' : Nat} (hu : P.underlying t = some (.array n' e')) (hc : P.cellsOf t = n) (hi : (P.info? t).isSome = true) (xs : List Value) (o : Nat) (w : World) : (part t xs.toArray o).run P w = .ok (.agg ((xs.drop o).take n).toArray) w := by
  obtain ⟨i, hi⟩ := Option.isSome_iff_exists.1 hi
  have e : xs.toArray.extract o (o + n) = ((xs.drop o).take n).toArray := by
    apply Array.ext'
    simp [List.extract_eq_take_drop]
  simp [part, isAgg, run_underlying hu, run_sizeOf w hi, hc, e]
theorem forIn_ok {w : World} {f : Nat → PUnit → Sem (ForInStep PUnit)} : ∀ l : List Nat, (∀ i ∈ l, (f i PUnit.unit).run P w = .ok (ForInStep.yield PUnit.unit) w) → (forIn (m := Sem) l PUnit.unit f).run P w = .ok PUnit.unit w
  | [], _ => by simp
  | i :: l, h => by
    have ih := forIn_ok l (fun j hj => h j (List.mem_cons_of_mem _ hj))
    simp only [List.forIn_cons, Sem.run_bind, h i List.mem_cons_self, Result.andThen_ok]
    exact ih
theorem chk_row {e b n2 : Nat} (h : arrQB P e n2 b = true) (empty : Bool) (d : Nat) (w : World) (l : List Bool) (hl : l.length = n2) : (Instr.checkKey empty (d + 2) e (.agg (l.map Value.bool).toArray)).run P w = .ok () w := by
  simp only [arrQB, Bool.and_eq_true, Bool.not_eq_true'] at h
  obtain ⟨⟨⟨⟨⟨h1, h2⟩, h3⟩, h4⟩, h5⟩, h6⟩ := h
  split at h5
  · rename_i n' e' hu
    simp only [Bool.and_eq_true] at h5
    have hn := Nat.eq_of_beq_eq_true h5.1
    have he := Nat.eq_of_beq_eq_true h5.2
    subst hn
    subst he
    split at h6
    · rename_i hb
      obtain ⟨i, hi⟩ := Option.isSome_iff_exists.1 h4
      rw [Instr.checkKey]
      simp only [Sem.run_bind, run_underlying hu, Result.andThen_ok, Std.Legacy.Range.forIn_eq_forIn_range', Std.Legacy.Range.size, Nat.sub_zero, Nat.add_one_sub_one, Nat.div_one]
      rw [forIn_ok]
      · rfl
      · intro j hj
        have hj2 : j < l.length := by simp at hj; omega
        have p1 := run_part1 (P := P) (xs := (l.map Value.bool).toArray) (o := j * 1) (v := .bool l[j]) h2 (by simp [hj2]) w
        have c1 : (Instr.checkKey empty (d + 1) e' (.bool l[j])).run P w = .ok () w := by rw [Instr.checkKey]; simp [run_underlying hb]
        have s1 := run_sizeOf w hi
        rw [Nat.eq_of_beq_eq_true h3] at s1
        simp only [Sem.run_bind, s1, Result.andThen_ok, p1, c1]
        rfl
    · cases h6
  · cases h5
theorem fit_bools : ∀ (n : Nat) (xs : List Value), fitV (List.replicate n none) xs = true → ∃ l : List Bool, xs = l.map Value.bool ∧ l.length = n
  | 0, [], _ => ⟨[], rfl, rfl⟩
  | 0, _ :: _, h => by simp [fitV] at h
  | n + 1, [], h => by simp [List.replicate_succ, fitV] at h
  | n + 1, v :: xs, h => by
    rw [List.replicate_succ] at h
    obtain ⟨v', m, he, hm, hv⟩ := fitV_cons h
    cases he
    obtain ⟨l, rfl, hl⟩ := fit_bools n xs hm
    rcases hv with ⟨q, a, hq, _⟩ | ⟨b, _, rfl⟩
    · cases hq
    · exact ⟨b :: l, rfl, by simp [hl]⟩
theorem eqL_bools : ∀ (l m : List Bool), eqL (l.map Value.bool) (m.map Value.bool) = eqBL l m
  | [], [] => rfl
  | [], _ :: _ => rfl
  | _ :: _, [] => rfl
  | a :: l, b :: m => by simp [eqL, eqBL, eqL_bools l m]
variable {ro : Cx} {n : Nat} {F : Fin} {w0 : World} {M : Nat → Prop} {k : List It} {ops : Array Oper} {rest : List Oper} {e : Env} {H Hq : List Ck}
end
end Go.Eng

/- The engine, part B31: an element of an array that is a value, of several cells, or a struct. -/
namespace Go.Eng
open Go Go.RowKit

section
variable {P : Program} {T : Tab} {ro : Cx} {n : Nat} {F : Fin} {w0 : World} {M : Nat → Prop} {k : List It} {ops : Array Oper} {rest : List Oper} {e : Env} {H Hq : List Ck}
theorem run_ixG (hT : T.Ok P) {t len et m : Nat} {cs : Array Value} {ik : IntKind} {i : Int} (hA : arrB P t len et m = true) (h1 : find1 T.agg et = some m) (h0 : 0 ≤ i) (hi : i < len) (w : World) :
    (Instr.index t (.agg cs) (.int ik i)).run P w = .ok (.agg (cs.extract (i.toNat * m) (i.toNat * m + m))) w := by
  obtain ⟨r1, r2⟩ := agg_run hT h1 w
  simp only [arrB, Bool.and_eq_true] at hA
  obtain ⟨ha, hb⟩ := hA
  split at ha
  · rename_i q e' hu
    simp only [Bool.and_eq_true] at ha
    have e1 := Nat.eq_of_beq_eq_true ha.1
    have e2 := Nat.eq_of_beq_eq_true ha.2
    subst e1; subst e2
    simp [Instr.index, asIntOf, run_underlying hu, h0, hi, r2, part, r1]
  · cases ha
theorem ql_ixG (hT : T.Ok P) {d t len et m : Nat} {x ix : Operand} {cs : Array Value} {ik : IntKind} {i : Int} {v : Value} {ty : TypeId} {pos : String} {af : Array Edge} (hA : arrB P t len et m = true) (h1 : find1 T.agg et = some m)
    (hx : opv e x = some (.agg cs)) (hi : opv e ix = some (.int ik i)) (hd : Nat.blt d n = true) (h0 : 0 ≤ i) (hl : i < len) (hv : .agg (cs.extract (i.toNat * m) (i.toNat * m + m)) = v)
    (h : QL P ro n F w0 M k ops rest ((d, v) :: e) H) : QL P ro n F w0 M k ops (⟨some d, .index t x ix, ty, pos, af, none⟩ :: rest) e H := .mk fun w hw =>
  yl_val (by simp) hd (fun a hf => by
    simp only [execOp, hf.op hx, hf.op hi]
    simp [run_ixG hT hA h1 h0 hl w, hv]) (h.h w hw)
end
end Go.Eng

/- The engine, part B32: a cell of an element of a slice of our own changed; elements of several cells. -/
namespace Go.Eng
open Go Go.RowKit

section
variable {P : Program} {T : Tab}
variable {ro : Cx} {n : Nat} {F : Fin} {w0 : World} {M : Nat → Prop} {k : List It} {ops : Array Oper} {rest : List Oper} {e : Env} {H Hq : List Ck}
/-! x[l:h] -/
theorem RdI.part {w : World} {lo hi b off n c c2 k h m : Nat} {l : List Int} (hr : RdI w lo hi (.slice (some ⟨b, off, none⟩) n c) l) (hk : k < h) (hh : h ≤ l.length) (hm : m = h - k) : RdI w lo hi (.slice (some ⟨b, off + k * 1, none⟩) m c2) ((l.drop k).take m) := by
  have hl : ((l.drop k).take m).length = m := by rw [List.length_take, List.length_drop]; omega
  have h1 := hr.rd
  rw [cellsOf_one _ (by simp [oneV])] at h1
  refine RdI.of (by
    rw [hl]
    refine ⟨by simp [ints, hl]; omega, ?_⟩
    obtain ⟨e1, e2⟩ := h1
    rcases e2 with ⟨h3, h4⟩ | ⟨b', off', cap, h3, h4, h5⟩
    · simp at h4
      subst h4
      simp at hh
      omega
    · injection h3 with e1 e2 e3
      injection e1 with e1
      injection e1 with e1 e2
      subst e1 e2
      refine .inr ⟨b, off + k * 1, c2, rfl, fun _ => h4 (by simp; omega), fun j hj => ?_⟩
      have hj2 : j < m := by simp [ints] at hj; omega
      rw [show off + k * 1 + j = off + (k + j) from by omega, h5 (k + j) (by simp; omega)]
      simp [ints, List.getElem?_map, List.getElem?_take, List.getElem?_drop, hj2])
end
end Go.Eng

/- The engine: loops in which each round leaves marks; the end of a function with many marks. -/
namespace Go.Eng
open Go Go.RowKit

section
variable {P : Program} {n : Nat} {F : Fin} {k : List It} {e : Env} {w : World}
end
section
variable {P : Program} {n : Nat} {F : Fin} {w0 : World} {M : Nat → Prop} {k : List It} {e : Env} {H : List Ck}
end
end Go.Eng

/- The engine: make of a list whose elements are one cell each. -/
namespace Go.Eng
open Go Go.RowKit
section
variable {P : Program} {T : Tab} {ro : Cx} {n : Nat} {F : Fin} {w0 : World} {M : Nat → Prop} {k : List It} {ops : Array Oper} {rest : List Oper} {e : Env} {H Hq : List Ck}
end
end Go.Eng

/- The engine, part B35: a bit of a number is cleared. -/
namespace Go.Eng
open Go Go.RowKit

section
variable {P : Program} {ro : Cx} {n : Nat} {F : Fin} {w0 : World} {M : Nat → Prop} {k : List It} {ops : Array Oper} {rest : List Oper} {e : Env} {H Hq : List Ck}
/-- A number without a bit. -/
def delB (a s : Nat) : Nat := if a.testBit s = true then a ^^^ 2 ^ s else a
end
end Go.Eng

/- The engine, part B36: shifts and make of a list of numbers in a region that draws. -/
namespace Go.Eng
open Go Go.RowKit

section
variable {P : Program} {ro : Cx} {n : Nat} {F : Fin} {w0 : World} {M : Nat → Prop} {k : List It} {ops : Array Oper} {rest : List Oper} {e : Env} {H Hq : List Ck}
end
end Go.Eng

/- The engine, part B37: make of a list whose elements are structs, with its zero cells. -/
namespace Go.Eng
open Go Go.RowKit
section
variable {P : Program} {T : Tab} {ro : Cx} {n : Nat} {F : Fin} {w0 : World} {M : Nat → Prop} {k : List It} {ops : Array Oper} {rest : List Oper} {e : Env} {H Hq : List Ck}
end
end Go.Eng

/- The engine, part B38: structs of flat structs and arrays of Bools, as keys of maps. -/
namespace Go.Eng
open Go Go.RowKit

section
variable {P : Program}
/-- A part of a key: a flat struct, or an array of Bools. -/
inductive PK where
  | fl : List (Option IntKind) → PK
  | ar : Nat → Nat → PK
def PK.ks : PK → List (Option IntKind)
  | .fl ks => ks
  | .ar n _ => List.replicate n none
def PK.b (P : Program) (t : Nat) : PK → Bool
  | .fl ks => flatB P t ks && Nat.beq (P.cellsOf t) ks.length && (P.info? t).isSome
  | .ar n e => arrQB P t n e && Nat.beq (P.cellsOf t) n && (P.info? t).isSome
theorem PK.part {t : Nat} {p : PK} (h : p.b P t = true) (xs : List Value) (o : Nat) (w : World) : (part t xs.toArray o).run P w = .ok (.agg ((xs.drop o).take p.ks.length).toArray) w := by
  cases p with
  | fl ks =>
    simp only [PK.b, Bool.and_eq_true] at h
    obtain ⟨⟨h1, h2⟩, h3⟩ := h
    exact run_partA h1 (Nat.eq_of_beq_eq_true h2) h3 xs o w
  | ar n e =>
    simp only [PK.b, Bool.and_eq_true] at h
    obtain ⟨⟨h1, h2⟩, h3⟩ := h
    simp only [arrQB, Bool.and_eq_true, Bool.not_eq_true'] at h1
    obtain ⟨⟨_, h5⟩, _⟩ := h1
    split at h5
    · rename_i n' e' hu
      have := run_partArr (P := P) hu (Nat.eq_of_beq_eq_true h2) h3 xs o w
      rw [this]
      simp [PK.ks]
    · cases h5
theorem PK.eq {t : Nat} {p : PK} (h : p.b P t = true) {xs ys : List Value} (hx : fitV p.ks xs = true) (hy : fitV p.ks ys = true) (d : Nat) (w : World) : (Go.Op.equalIn (d + 2) t (.agg xs.toArray) (.agg ys.toArray)).run P w = .ok (eqL xs ys) w := by
  cases p with
  | fl ks =>
    simp only [PK.b, Bool.and_eq_true] at h
    exact run_eqFlat h.1.1 hx hy d w
  | ar n e =>
    simp only [PK.b, Bool.and_eq_true] at h
    obtain ⟨l, rfl, hl⟩ := fit_bools _ _ hx
    obtain ⟨m, rfl, hm⟩ := fit_bools _ _ hy
    rw [eqL_bools]
    exact run_eqArr h.1.1 hl hm d w
theorem PK.chk {t : Nat} {p : PK} (h : p.b P t = true) {xs : List Value} (hx : fitV p.ks xs = true) (empty : Bool) (d : Nat) (w : World) : (Instr.checkKey empty (d + 2) t (.agg xs.toArray)).run P w = .ok () w := by
  cases p with
  | fl ks =>
    simp only [PK.b, Bool.and_eq_true] at h
    exact chk_agg h.1.1 hx empty d w
  | ar n e =>
    simp only [PK.b, Bool.and_eq_true] at h
    obtain ⟨l, rfl, hl⟩ := fit_bools _ _ hx
    exact chk_row h.1.1 empty d w l hl
def mixF (P : Program) : Nat → List Field → List PK → Bool
  | _, [], [] => true
  | o, f :: fs, p :: ps => !(f.name == "_") && Nat.beq f.offset o && p.b P f.type && mixF P (o + p.ks.length) fs ps
  | _, _, _ => false
def mixB (P : Program) (t : Nat) (ps : List PK) : Bool :=
  !(P.stoodInHeld t) && !(P.eqGuardType P.depth t) && (match P.underlying t with | some (.struct fs) => mixF P 0 fs.toList ps | _ => false)
def mixK (ps : List PK) : List (Option IntKind) := ps.flatMap PK.ks
end
end Go.Eng

/- The engine, part B39: Bools compared, in regions that draw. -/
namespace Go.Eng
open Go Go.RowKit
section
variable {P : Program}
variable {ro : Cx} {n : Nat} {F : Fin} {k : List It} {ops : Array Oper} {rest : List Oper} {e : Env} {w0 : World} {M : Nat → Prop} {H Hq : List Ck}
end
end Go.Eng

/- The engine, part B40: a field, of one cell, of a struct that is a value. -/
namespace Go.Eng
open Go Go.RowKit

def fldB (P : Program) (t i off ft : Nat) : Bool :=
  match P.underlying t with
  | some (.struct fs) => (match fs[i]? with | some f => Nat.beq f.offset off && Nat.beq f.type ft | none => false)
  | _ => false
section
variable {P : Program} {T : Tab} {ro : Cx} {n : Nat} {F : Fin} {w0 : World} {M : Nat → Prop} {k : List It} {ops : Array Oper} {rest : List Oper} {e : Env} {H Hq : List Ck}
end
end Go.Eng

/- The engine, part B41: an empty list that is no nil, of structs. -/
namespace Go.Eng
open Go Go.RowKit
section
variable {P : Program} {T : Tab} {ro : Cx} {n : Nat} {F : Fin} {w0 : World} {M : Nat → Prop} {k : List It} {ops : Array Oper} {rest : List Oper} {e : Env} {H Hq : List Ck}
end
end Go.Eng

/- The engine, part B42: Bools compared, unequal, in regions that draw. -/
namespace Go.Eng
open Go Go.RowKit
section
variable {P : Program} {ro : Cx} {n : Nat} {F : Fin} {w0 : World} {M : Nat → Prop} {k : List It} {ops : Array Oper} {rest : List Oper} {e : Env} {H Hq : List Ck}
end
end Go.Eng

/- The engine, part B43: a struct is stored into an own row. -/
namespace Go.Eng
open Go Go.RowKit
section
variable {P : Program} {T : Tab} {ro : Cx} {n : Nat} {F : Fin} {w0 : World} {M : Nat → Prop} {k : List It} {ops : Array Oper} {rest : List Oper} {e : Env} {H Hq : List Ck}
end
end Go.Eng

/- The engine, part B44: pieces told otherwise in a region that draws; the least of three numbers. -/
namespace Go.Eng
open Go Go.RowKit
section
variable {P : Program} {T : Tab} {ro : Cx} {n : Nat} {F : Fin} {w0 : World} {M : Nat → Prop} {k : List It} {ops : Array Oper} {rest : List Oper} {e : Env} {H H' Hq : List Ck}
end
end Go.Eng

/- The engine, part B45: an empty list that is no nil, in a region that draws. -/
namespace Go.Eng
open Go Go.RowKit
section
variable {P : Program} {T : Tab} {ro : Cx} {n : Nat} {F : Fin} {w0 : World} {M : Nat → Prop} {k : List It} {ops : Array Oper} {rest : List Oper} {e : Env} {H H' Hq : List Ck}
end
end Go.Eng

/- The engine, part B46: a map of which the keys (numbers) are known, in their order; how many it has. -/
namespace Go.Eng
open Go Go.RowKit
section
variable {P : Program} {T : Tab} {ro : Cx} {n : Nat} {F : Fin} {w0 : World} {M : Nat → Prop} {k : List It} {ops : Array Oper} {rest : List Oper} {e : Env} {H H' Hq : List Ck}
def KeysAt (w : World) (b : Nat) (l : List Int) : Prop := ∃ es clock, w.heap[b]? = some (.map es clock) ∧ es.toList.map (·.key) = ints l
def ksP (b : Nat) (l : List Int) : Ck := .gn (· = b) (fun w => KeysAt w b l)
  (fun _ _ _ ⟨es, clock, h1, h2⟩ hc hn => ⟨es, clock, (hc.block b (Array.getElem?_eq_some_iff.1 h1).1 (hn b rfl)).trans h1, h2⟩)
def insK (l : List Int) (x : Int) : List Int := if x ∈ l then l else l ++ [x]
end
end Go.Eng

/- The engine, part B49: a map of which it is known how many keys it has. -/
namespace Go.Eng
open Go Go.RowKit
section
variable {P : Program} {T : Tab} {ro : Cx} {n : Nat} {F : Fin} {w0 : World} {M : Nat → Prop} {k : List It} {ops : Array Oper} {rest : List Oper} {e : Env} {H H' Hq : List Ck}
variable {K : Value → Prop} {q : Value → Value → Bool} {kt et mt : TypeId}
def MapN (w : World) (b : Nat) (K : Value → Prop) (q : Value → Value → Bool) (f : Value → Option Value) (m : Nat) : Prop :=
  ∃ es clock, w.heap[b]? = some (.map es clock) ∧ es.size = m ∧ (∀ x ∈ es.toList, K x.key) ∧ ∀ k, K k → (es.toList.find? (fun x => q k x.key)).map (·.val) = f k
def mnP (K : Value → Prop) (q : Value → Value → Bool) (b : Nat) (f : Value → Option Value) (m : Nat) : Ck := .gn (· = b) (fun w => MapN w b K q f m)
  (fun _ _ _ ⟨es, clock, h1, h2⟩ hc hn => ⟨es, clock, (hc.block b (Array.getElem?_eq_some_iff.1 h1).1 (hn b rfl)).trans h1, h2⟩)
theorem MapN.at {w : World} {b m : Nat} {f : Value → Option Value} (h : MapN w b K q f m) : MapAt w b K q f := by
  obtain ⟨es, c, h1, _, h3, h4⟩ := h
  exact ⟨es, c, h1, h3, h4⟩
theorem MapN.keep {w w' : World} {b m : Nat} {f : Value → Option Value} (h : MapN w b K q f m) (c : Chg [] w w') : MapN w' b K q f m := by
  obtain ⟨es, cl, h1, h2⟩ := h
  exact ⟨es, cl, (c.block b (Array.getElem?_eq_some_iff.1 h1).1 (by simp)).trans h1, h2⟩
theorem run_mapNew {w : World} {b m : Nat} {f : Value → Option Value} (hK : KeyT P kt K q) (ht : P.underlying mt = some (.map kt et)) (hm : MapN w b K q f m) {key v : Value} (hk : K key) (hf0 : f key = none) :
    ∃ w', (Instr.mapUpdate mt (.map (some b)) key v).run P w = .ok () w' ∧ MapN w' b K q (fun x => if q x key then some v else f x) (m + 1) ∧ Chg [b] w w' := by
  obtain ⟨es, clock, hb, hsz, hes, hf⟩ := hm
  have hlt : b < w.heap.size := (Array.getElem?_eq_some_iff.1 hb).1
  have h1 := hK.find key es.toList w hk hes
  have hg : (getObj b).run P w = .ok (.map es clock) w := by simp [getObj, Sem.run, hb]
  have hs : ∀ o, (setObj b o).run P w = .ok () (w.putObj b o) := fun o => by simp [setObj, Sem.run, World.putObj, hb]
  rw [find_zipIdx (fun x : MapEntry => q key x.key)] at h1
  have hfi : ∀ k, (es.toList.find? (fun x => q k x.key)) = (es.toList.findIdx? (fun x => q k x.key)).bind fun i => es.toList[i]? := fun k => List.find?_eq_bind_findIdx?_getElem?
  cases hi : es.toList.findIdx? (fun x => q key x.key) with
  | none =>
    rw [hi] at h1
    simp at h1
    refine ⟨w.putObj b (.map (es.push { key := key, val := v, born := clock }) (clock + 1)), ?_, ⟨es.push { key := key, val := v, born := clock }, clock + 1, putObj_heap w b _ hlt, by rw [Array.size_push, hsz], ?_, fun k hk' => ?_⟩, putObj_chg w b _⟩
    · simp only [Instr.mapUpdate, Sem.run_bind, run_underlying ht, Result.andThen_ok, hg, hK.chk _ key w hk, h1, hs]
    · intro x hx
      rw [Array.toList_push, List.mem_append] at hx
      rcases hx with hx | hx
      · exact hes x hx
      · rw [List.mem_singleton.1 hx]; exact hk
    · rw [Array.toList_push, List.find?_append]
      by_cases hq : q k key = true
      · have := hK.eq k key hk' hk hq
        subst this
        rw [hfi, hi]
        simp [hq]
      · have hq' : q k key = false := by simpa using hq
        simp only [hq', if_false, Bool.false_eq_true]
        rw [← hf k hk']
        cases List.find? (fun x => q k x.key) es.toList <;> simp [hq']
  | some i =>
    exfalso
    have h2 := hf key hk
    rw [hf0, hfi, hi] at h2
    rw [List.findIdx?_eq_some_iff_getElem] at hi
    obtain ⟨hlt2, _⟩ := hi
    rw [Option.bind_some, List.getElem?_eq_getElem hlt2] at h2
    cases h2
theorem Sat.mapNew {w w' : World} {b m m' : Nat} {f f' : Value → Option Value} {H' : List Ck} (hs : Sat w0 M H w) (hr : Rp H (mnP K q b f m) (mnP K q b f' m') H') (hc : Chg [b] w w') (hm : MapN w' b K q f' m') : Sat w0 M H' w' := by
  refine hs.rep hr hc (fun x hx => (by simpa using hx : x = b)) hm (fun x hx => ?_)
  have hx' : x = b := hx
  subst hx'
  obtain ⟨es, clock, h1, _⟩ := hm
  exact ⟨.inl rfl, (Array.getElem?_eq_some_iff.1 h1).1⟩
theorem qf_insNew {b m : Nat} {x ix y : Operand} {f f' : Value → Option Value} {key v : Value} {H' : List Ck} {ty : TypeId} {pos : String} {af : Array Edge} (hK : KeyT P kt K q) (ht : P.underlying mt = some (.map kt et))
    (hx : opv e x = some (.map (some b))) (hi : opv e ix = some key) (hy : opv e y = some v) (hk : K key) (hf0 : f key = none) (hf : (fun x => if q x key then some v else f x) = f') (hr : Rp H (mnP K q b f m) (mnP K q b f' (m + 1)) H')
    (h : QF P ro n F w0 M k ops Hq rest e H') : QF P ro n F w0 M k ops Hq (⟨none, .insert mt x ix y, ty, pos, af, none⟩ :: rest) e H := .mk fun w hw => by
  subst hf
  obtain ⟨w', hrun, hm, hc⟩ := run_mapNew hK ht (hw.mem (hr.app Hq).mem) hk hf0 (v := v)
  have hs' := hw.mapNew (hr.app Hq) hc hm
  refine yf_do (w' := w') rfl (fun a hf => ?_) hs'.right (h.h w' hs')
  simp only [execOp, hf.op hx, hf.op hi, hf.op hy]
  simp [hrun]
theorem qf_updNew {b m : Nat} {x ix y : Operand} {f f' : Value → Option Value} {key v : Value} {H' : List Ck} {ty : TypeId} {pos : String} {af : Array Edge} (hK : KeyT P kt K q) (ht : P.underlying mt = some (.map kt et))
    (hx : opv e x = some (.map (some b))) (hi : opv e ix = some key) (hy : opv e y = some v) (hk : K key) (hf0 : f key = none) (hf : (fun x => if q x key then some v else f x) = f') (hr : Rp H (mnP K q b f m) (mnP K q b f' (m + 1)) H')
    (h : QF P ro n F w0 M k ops Hq rest e H') : QF P ro n F w0 M k ops Hq (⟨none, .mapUpdate mt x ix y, ty, pos, af, none⟩ :: rest) e H := .mk fun w hw => by
  subst hf
  obtain ⟨w', hrun, hm, hc⟩ := run_mapNew hK ht (hw.mem (hr.app Hq).mem) hk hf0 (v := v)
  have hs' := hw.mapNew (hr.app Hq) hc hm
  refine yf_do (w' := w') rfl (fun a hf => ?_) hs'.right (h.h w' hs')
  simp only [execOp, hf.op hx, hf.op hi, hf.op hy]
  simp [hrun]
theorem qf_makeMapN (K : Value → Prop) (q : Value → Value → Bool) {d : Nat} {t : TypeId} {ty : TypeId} {pos : String} {af : Array Edge} (hd : Nat.blt d n = true)
    (h : ∀ b, QF P ro n F w0 M k ops Hq rest ((d, .map (some b)) :: e) (mnP K q b (fun _ => none) 0 :: H)) : QF P ro n F w0 M k ops Hq (⟨some d, .makeMap t none, ty, pos, af, none⟩ :: rest) e H := .mk fun w hs => by
  have hs' : Sat w0 M ((mnP K q w.heap.size (fun _ => none) 0 :: H) ++ Hq) (w.alloc (.map #[] 0)) := hs.add (alloc_chg _ _) (show MapN _ _ _ _ _ _ from ⟨#[], 0, by show (w.heap.push _)[w.heap.size]? = _; simp, rfl, by simp, fun _ _ => rfl⟩) (mk_mapD (K := K) (q := q) w)
  refine yf_eff (w' := w.alloc (.map #[] 0)) rfl hd (fun a hf => ?_) hs'.right ((h w.heap.size).h _ hs')
  simp only [execOp]
  simp [run_mkMap]
theorem run_lenN {w : World} {b m : Nat} {f : Value → Option Value} {x : Operand} {d : Nat} {ty : TypeId} {pos : String} {af : Array Edge} (ht : P.underlying mt = some (.map kt et)) (hx : opv e x = some (.map (some b))) (hm : MapN w b K q f m) (ac : Act) (hf : Fits n e ac) :
    (execOp ac.eval ⟨some d, .call { callee := .builtin .len, args := #[x], argTypes := #[mt] }, ty, pos, af, none⟩).run P w = .ok (.value (.int .i64 m)) w := by
  obtain ⟨es, clock, hb, hl, _⟩ := hm
  have hg : (getObj b).run P w = .ok (.map es clock) w := by simp [getObj, Sem.run, hb]
  unfold execOp
  have e0 := hf.op hx
  simp only [resolve, List.map_toArray, List.map_cons, List.map_nil, e0]
  simp [invoke, builtin, Builtin.len_, run_underlying ht, hg, hl, goInt]
theorem ql_lenN {d b m : Nat} {f : Value → Option Value} {x : Operand} {ty : TypeId} {pos : String} {af : Array Edge} (ht : P.underlying mt = some (.map kt et)) (hx : opv e x = some (.map (some b))) (hd : Nat.blt d n = true) (hm : ∀ w', Sat w0 M H w' → MapN w' b K q f m)
    (h : QL P ro n F w0 M k ops rest ((d, .int .i64 m) :: e) H) : QL P ro n F w0 M k ops (⟨some d, .call { callee := .builtin .len, args := #[x], argTypes := #[mt] }, ty, pos, af, none⟩ :: rest) e H := .mk fun w hw =>
  yl_val (by simp) hd (fun ac hf => run_lenN ht hx (hm w hw) ac hf) (h.h w hw)
theorem qf_lenN {d b m : Nat} {f : Value → Option Value} {x : Operand} {ty : TypeId} {pos : String} {af : Array Edge} (ht : P.underlying mt = some (.map kt et)) (hx : opv e x = some (.map (some b))) (hd : Nat.blt d n = true) (hm : ∀ w', Sat w0 M Hq w' → MapN w' b K q f m)
    (h : QF P ro n F w0 M k ops Hq rest ((d, .int .i64 m) :: e) H) : QF P ro n F w0 M k ops Hq (⟨some d, .call { callee := .builtin .len, args := #[x], argTypes := #[mt] }, ty, pos, af, none⟩ :: rest) e H := .mk fun w hw =>
  yf_quiet rfl hd (fun ac hf w' hs => run_lenN ht hx (hm w' hs) ac hf) (h.h w hw)
theorem qf_look2N {d b m : Nat} {x ix : Operand} {f : Value → Option Value} {key v z : Value} {o : Bool} {ty : TypeId} {pos : String} {af : Array Edge} (hK : KeyT P kt K q) (ht : P.underlying mt = some (.map kt et)) (hz : ZeroOf P et z)
    (hx : opv e x = some (.map (some b))) (hi : opv e ix = some key) (hd : Nat.blt d n = true) (hm : ∀ w', Sat w0 M Hq w' → MapN w' b K q f m) (hk : K key) (hv : (f key).getD z = v) (ho : (f key).isSome = o)
    (h : QF P ro n F w0 M k ops Hq rest ((d, .tuple #[v, .bool o]) :: e) H) : QF P ro n F w0 M k ops Hq (⟨some d, .lookup mt x ix true, ty, pos, af, none⟩ :: rest) e H := .mk fun w hw =>
  yf_quiet rfl hd (fun a hf w' hs => by
    simp only [execOp, hf.op hx, hf.op hi]
    simp [run_mapLook hK ht (zero_run hz w') (hm w' hs).at hk, hv, ho]) (h.h w hw)
theorem qf_lookN {d b m : Nat} {x ix : Operand} {f : Value → Option Value} {key v z : Value} {ty : TypeId} {pos : String} {af : Array Edge} (hK : KeyT P kt K q) (ht : P.underlying mt = some (.map kt et)) (hz : ZeroOf P et z)
    (hx : opv e x = some (.map (some b))) (hi : opv e ix = some key) (hd : Nat.blt d n = true) (hm : ∀ w', Sat w0 M Hq w' → MapN w' b K q f m) (hk : K key) (hv : (f key).getD z = v)
    (h : QF P ro n F w0 M k ops Hq rest ((d, v) :: e) H) : QF P ro n F w0 M k ops Hq (⟨some d, .lookup mt x ix false, ty, pos, af, none⟩ :: rest) e H := .mk fun w hw =>
  yf_quiet rfl hd (fun a hf w' hs => by
    simp only [execOp, hf.op hx, hf.op hi]
    simp [run_mapLook hK ht (zero_run hz w') (hm w' hs).at hk, hv]) (h.h w hw)
end
end Go.Eng

/- The engine, part B50: copy of as many elements as there are; an element of an array that is a value, in a region that draws. -/
namespace Go.Eng
open Go Go.RowKit
section
variable {P : Program} {T : Tab} {ro : Cx} {n : Nat} {F : Fin} {w0 : World} {M : Nat → Prop} {k : List It} {ops : Array Oper} {rest : List Oper} {e : Env} {H H' Hq : List Ck}
theorem run_copyM {w : World} {dT sT et m o c g q c2 l b o2 : Nat} {cur news : List Value} {bt : TypeId} (ty : TypeId) (hu : P.underlying dT = some (.slice et)) (hus : ∃ t2, P.underlying sT = some (.slice t2)) (hsz : (P.info? et).map (·.size) = some 1)
    (hb : Blk w g cur bt) (hq : Nat.min q m = l) (hl : news.length = l) (hrd : ∀ j x, news[j]? = some x → w.cell? ⟨b, o2 + j, none⟩ = some x) (hfit : o + l ≤ cur.length) (h1 : ∀ x ∈ news, oneV x = true) :
    ∃ w', (Builtin.copy_ #[dT, sT] ty #[.slice (some ⟨g, o, none⟩) m c, .slice (some ⟨b, o2, none⟩) q c2]).run P w = .ok (goInt l) w' ∧ Chg [g] w w' ∧ Blk w' g (cur.take o ++ news ++ cur.drop (o + news.length)) bt := by
  cases hi : P.info? et with
  | none => simp [hi] at hsz
  | some i =>
    have hi1 : i.size = 1 := by simpa [hi] using hsz
    have hfc := run_firstCells_some (P := P) w 1 l ⟨b, o2, none⟩ q c2 news (by rw [hl, Nat.mul_one]) (fun j x hj => by rw [Addr.add_lit]; exact hrd j x hj)
    have hst : (storeCells ⟨g, o, none⟩ news).run P w = .ok () (w.setRow g (cur.take o ++ news ++ cur.drop (o + news.length)).toArray) := by
      have := run_storeCells_at P g o bt news 0 cur.toArray w hb (by simpa [hl] using hfit) (fun x hx => oneV_cell (h1 x hx))
      simpa using this
    refine ⟨w.setRow g (cur.take o ++ news ++ cur.drop (o + news.length)).toArray, ?_, ⟨rfl, rfl, rfl, by simp [World.setRow], fun k _ hk => setRow_other w g k _ (by simpa using hk)⟩, setRow_heap w g _ _ bt (0, 0) hb⟩
    simp [Builtin.copy_, run_underlying hu, Builtin.lenOf, sizeOf, typeInfo, hi, hi1, hq, hfc, hst]
theorem ql_copyM {d dT sT et m c o g q c2 l b o2 : Nat} {x y : Operand} {bt : TypeId} {cur news cur' : List Value} {H' : List Ck} {ty : TypeId} {pos : String} {af : Array Edge} (hu : P.underlying dT = some (.slice et)) (hus : ∃ t2, P.underlying sT = some (.slice t2)) (hsz : (P.info? et).map (·.size) = some 1)
    (hx : opv e x = some (.slice (some ⟨g, o, none⟩) m c)) (hy : opv e y = some (.slice (some ⟨b, o2, none⟩) q c2)) (hd : Nat.blt d n = true) (hq : Nat.min q m = l) (hl : news.length = l) (hcur : cur.take o ++ news ++ cur.drop (o + news.length) = cur') (hr : Rp H (.pt g cur bt) (.pt g cur' bt) H') (hfit : o + l ≤ cur.length) (h1 : ∀ x ∈ news, oneV x = true)
    (hrd : ∀ w, Sat w0 M H w → ∀ j x, news[j]? = some x → w.cell? ⟨b, o2 + j, none⟩ = some x) (h : QL P ro n F w0 M k ops rest ((d, goInt l) :: e) H') :
    QL P ro n F w0 M k ops (⟨some d, .call { callee := .builtin .copy, args := [x, y].toArray, argTypes := [dT, sT].toArray }, ty, pos, af, none⟩ :: rest) e H := .mk fun w hs => by
  subst hcur
  obtain ⟨w', hrun, hc, hb⟩ := run_copyM (P := P) (sT := sT) ty hu hus hsz (hs.blk hr.mem) hq hl (hrd w hs) hfit h1 (c := c) (c2 := c2)
  refine yl_val (w' := w') (by simp) hd (fun ac hf => ?_) (h.h w' (hs.pt hr hc hb))
  simp [execOp, resolve, invoke, builtin, hf.op hx, hf.op hy, hrun]
theorem qf_copyM {d dT sT et m c o g q c2 l b o2 : Nat} {x y : Operand} {bt : TypeId} {cur news cur' : List Value} {H' : List Ck} {ty : TypeId} {pos : String} {af : Array Edge} (hu : P.underlying dT = some (.slice et)) (hus : ∃ t2, P.underlying sT = some (.slice t2)) (hsz : (P.info? et).map (·.size) = some 1)
    (hx : opv e x = some (.slice (some ⟨g, o, none⟩) m c)) (hy : opv e y = some (.slice (some ⟨b, o2, none⟩) q c2)) (hd : Nat.blt d n = true) (hq : Nat.min q m = l) (hl : news.length = l) (hcur : cur.take o ++ news ++ cur.drop (o + news.length) = cur') (hr : Rp H (.pt g cur bt) (.pt g cur' bt) H') (hfit : o + l ≤ cur.length) (h1 : ∀ x ∈ news, oneV x = true)
    (hrd : ∀ w, Sat w0 M (H ++ Hq) w → ∀ j x, news[j]? = some x → w.cell? ⟨b, o2 + j, none⟩ = some x) (h : QF P ro n F w0 M k ops Hq rest ((d, goInt l) :: e) H') :
    QF P ro n F w0 M k ops Hq (⟨some d, .call { callee := .builtin .copy, args := [x, y].toArray, argTypes := [dT, sT].toArray }, ty, pos, af, none⟩ :: rest) e H := .mk fun w hs => by
  subst hcur
  obtain ⟨w', hrun, hc, hb⟩ := run_copyM (P := P) (sT := sT) ty hu hus hsz (hs.blk (hr.app Hq).mem) hq hl (hrd w hs) hfit h1 (c := c) (c2 := c2)
  have hs' := hs.pt (hr.app Hq) hc hb
  refine yf_eff (w' := w') rfl hd (fun ac hf => ?_) hs'.right (h.h w' hs')
  simp [execOp, resolve, invoke, builtin, hf.op hx, hf.op hy, hrun]
theorem qf_ixG (hT : T.Ok P) {d t len et m : Nat} {x ix : Operand} {cs : Array Value} {ik : IntKind} {i : Int} {v : Value} {ty : TypeId} {pos : String} {af : Array Edge} (hA : arrB P t len et m = true) (h1 : find1 T.agg et = some m)
    (hx : opv e x = some (.agg cs)) (hi : opv e ix = some (.int ik i)) (hd : Nat.blt d n = true) (h0 : 0 ≤ i) (hl : i < len) (hv : .agg (cs.extract (i.toNat * m) (i.toNat * m + m)) = v)
    (h : QF P ro n F w0 M k ops Hq rest ((d, v) :: e) H) : QF P ro n F w0 M k ops Hq (⟨some d, .index t x ix, ty, pos, af, none⟩ :: rest) e H := .mk fun w hw =>
  yf_quiet rfl hd (fun a hf w' _ => by
    simp only [execOp, hf.op hx, hf.op hi]
    simp [run_ixG hT hA h1 h0 hl w', hv]) (h.h w hw)
/-- Bits of unsigned numbers that are known. -/
theorem ql_andC {d t t' : Nat} {x y : Operand} {a b r : Int} {ty : TypeId} {pos : String} {af : Array Edge} (hx : opv e x = some (.int .u64 a)) (hy : opv e y = some (.int .u64 b)) (hd : Nat.blt d n = true) (hr : IntKind.u64.wrap ((BitVec.ofInt 64 a &&& BitVec.ofInt 64 b).toNat : Int) = r)
    (h : QL P ro n F w0 M k ops rest ((d, .int .u64 r) :: e) H) : QL P ro n F w0 M k ops (⟨some d, .binOp .and t x y t', ty, pos, af, none⟩ :: rest) e H := .mk fun w hw =>
  yl_val (by simp) hd (fun a' hf => by
    have e1 := hf.op hx
    have e2 := hf.op hy
    simp only [execOp, e1, e2]
    have : (Op.intBits .and .u64 a b).run P w = .ok (.int .u64 r) w := by rw [← hr]; rfl
    simp [eqGuard, binOp, this]) (h.h w hw)
theorem ql_shrC {d t t' : Nat} {x y : Operand} {a r : Int} {ty : TypeId} {pos : String} {af : Array Edge} (hx : opv e x = some (.int .u64 a)) (hy : opv e y = some (.int .u64 32)) (hd : Nat.blt d n = true) (hr : a.fdiv (2 ^ 32) = r)
    (h : QL P ro n F w0 M k ops rest ((d, .int .u64 r) :: e) H) : QL P ro n F w0 M k ops (⟨some d, .binOp .shr t x y t', ty, pos, af, none⟩ :: rest) e H := .mk fun w hw =>
  yl_val (by simp) hd (fun a' hf => by
    have e1 := hf.op hx
    have e2 := hf.op hy
    simp only [execOp, e1, e2]
    have : (Op.shift .shr .u64 a .u64 32).run P w = .ok (.int .u64 r) w := by rw [← hr]; rfl
    simp [eqGuard, binOp, this]) (h.h w hw)
/-- A store of what is there already. -/
theorem qf_stSame (hT : T.Ok P) {t m : Nat} {x y : Operand} {b : Nat} {cs : List Value} {bt : TypeId} {ty : TypeId} {pos : String} {af : Array Edge}
    (hx : opv e x = some (.pointer (some ⟨b, 0, none⟩))) (hy : opv e y = some (.agg cs.toArray)) (h1 : find1 T.agg t = some m) (hm : cs.length = m) (h1v : (cs.all oneV) = true) (hc : Ck.pt b cs bt ∈ Hq)
    (h : QF P ro n F w0 M k ops Hq rest e H) : QF P ro n F w0 M k ops Hq (⟨none, .store t x y, ty, pos, af, none⟩ :: rest) e H := .mk fun w hs => by
  have hb0 : Blk w b cs bt := hs.blk (List.mem_append_right _ hc)
  have e1 : setL cs 0 cs = cs := setL_all cs cs [] (by omega)
  refine yf_storeA hT hx hy h1 hm (List.all_eq_true.1 h1v) hb0 (by omega) (fun w' hc' _ hb => ?_)
  rw [e1] at hb
  have hc0 : Chg [] w w' := ⟨hc'.os, hc'.tape, hc'.output, hc'.size, fun k hk _ => by
    by_cases hkb : k = b
    · subst hkb
      exact hb.trans hb0.symm
    · exact hc'.block k hk (by simpa using hkb)⟩
  exact ⟨(hs.keep hc0).right, h.h w' (hs.keep hc0)⟩
end
end Go.Eng

/- Walks: chip's small functions. -/
namespace Go.Proofs.YtpknmgafambmbaaGreat
open Go Go.Eng

theorem Blk.rdN {w : World} {b : Nat} {cs : List Value} {t : TypeId} {c sz q : Nat} (h : Blk w b cs t) (hl : cs.length = q * sz) : Rd w 0 w.heap.size (.slice (some ⟨b, 0, none⟩) q c) sz q cs :=
  ⟨hl, .inr ⟨b, 0, c, rfl, fun _ => ⟨Nat.zero_le _, h.lt, h.lt⟩, fun j _ => by rw [Blk.cell h]; simp⟩⟩
/-- A race of one skier, without chips. -/
abbrev rcC (bS : Nat) (a : Option Addr) (k c : Nat) : List Value := [.slice (some ⟨bS, 0, none⟩) 1 1, .slice a k c, .slice none 0 0, .slice none 0 0]
def spL (L : List Int) : List (Int × Int) := L.map fun n => (n, 2 * n)
theorem spL_len (L : List Int) : (spL L).length = L.length := by simp [spL]
theorem inY (n lo hi : Int) (h : lo ≤ n ∧ n ≤ hi) (w : World) : Ca Tryz.prog 80 [.int .i64 n, .int .i64 lo, .int .i64 hi] w fun v w' => v = .bool true ∧ Chg [] w w' := by
  refine q_of (Sat.nil w M0) Tryz.func80 rfl (by simp [Tryz.ntmps80]) ?_
  (refine q_seq (q_region (ql_pure tabOk rfl rfl (q_nil (q_seq (q_region (ql_pure tabOk rfl rfl (ql_pure tabOk rfl rfl (ql_geqT tabOk rfl rfl rfl (by omega) (ql_pure tabOk rfl rfl (ql_gyes rfl (ql_pure tabOk rfl rfl ?_))))))))))); refine ql_gyes rfl (ql_pure tabOk rfl rfl (ql_gyes rfl (ql_leqT tabOk rfl rfl rfl (by omega) (ql_pure tabOk rfl rfl (ql_pure tabOk rfl rfl (q_nil (q_ret ?_))))))))
  refine q_fin tabOk rfl (by repeat constructor) fun w hs => ?_
  exact ⟨rfl, hs.chg0⟩
theorem zeroP_ca (w : World) : Ca Tryz.prog 37 [] w fun v w' => v = .agg #[.int .i64 (-1), .int .i64 0] ∧ Chg [] w w' := by
  refine q_of (Sat.nil w M0) Tryz.func37 rfl (by simp [Tryz.ntmps37]) ?_
  (refine q_seq (q_region ?_))
  refine ql_alloc zero106 rfl (fun b1 => ?_)
  (refine q_nil (q_seq (q_region ?_)))
  refine ql_mk #[.int .i64 (-1), .int .i64 0] rfl (by kernel_rfl) rfl ?_
  (refine ql_setA tabOk rfl rfl rfl rfl rfl (by repeat constructor) rfl ?_; refine q_nil (q_ret ?_))
  refine q_fin tabOk rfl (by repeat constructor) fun w hs => ?_
  exact ⟨rfl, hs.chg0⟩
theorem atP_ca (w : World) (s m : Int) : Ca Tryz.prog 38 [.agg #[.int .i64 s, .int .i64 m]] w fun v w' => v = .agg #[.int .i64 s, .int .i64 m] ∧ Chg [] w w' := by
  refine q_of (Sat.nil w M0) Tryz.func38 rfl (by simp [Tryz.ntmps38]) ?_
  (refine q_seq (q_region ?_))
  refine ql_box rfl rfl (fun b1 => ?_)
  skip
  refine ql_alloc zero106 rfl (fun b2 => ?_)
  (refine q_nil (q_seq (q_region (ql_pure tabOk rfl rfl ?_))); refine ql_loadBa tabOk rfl rfl rfl ?_; refine ql_pure tabOk rfl rfl ?_; refine ql_loadBa tabOk rfl rfl rfl ?_)
  refine ql_mk #[.int .i64 s, .int .i64 m] rfl (by kernel_rfl) rfl ?_
  (refine ql_setA tabOk rfl rfl rfl rfl rfl (by repeat constructor) rfl ?_; refine q_nil (q_ret ?_))
  refine q_fin tabOk rfl (by repeat constructor) fun w hs => ?_
  exact ⟨rfl, hs.chg0⟩
theorem spanY (a b lo hi : Int) (h : a ≤ b ∧ lo ≤ a ∧ b ≤ hi) (w : World) : Ca Tryz.prog 98 [.agg #[.int .i64 a, .int .i64 b], .int .i64 lo, .int .i64 hi] w fun v w' => v = .bool true ∧ Chg [] w w' := by
  refine q_of (Sat.nil w M0) Tryz.func98 rfl (by simp [Tryz.ntmps98]) ?_
  (refine q_seq (q_region ?_))
  refine ql_box rfl rfl (fun b1 => ?_)
  (refine ql_pure tabOk rfl rfl (q_nil (q_seq (q_region (ql_pure tabOk rfl rfl ?_)))); refine ql_loadBa tabOk rfl rfl rfl ?_; refine ql_pure tabOk rfl rfl ?_; refine ql_loadBa tabOk rfl rfl rfl ?_; refine ql_leqT tabOk rfl rfl rfl (by omega) (ql_pure tabOk rfl rfl (ql_gyes rfl (ql_pure tabOk rfl rfl (ql_gyes rfl ?_)))); refine ql_loadBa tabOk rfl rfl rfl ?_; refine ql_gyes rfl (ql_pure tabOk rfl rfl (ql_gyes rfl (ql_geqT tabOk rfl rfl rfl (by omega) (ql_pure tabOk rfl rfl (ql_pure tabOk rfl rfl (ql_gyes rfl (ql_pure tabOk rfl rfl (ql_gyes rfl ?_)))))))); refine ql_loadBa tabOk rfl rfl rfl ?_; refine ql_gyes rfl (ql_pure tabOk rfl rfl (ql_gyes rfl (ql_leqT tabOk rfl rfl rfl (by omega) (ql_pure tabOk rfl rfl (ql_pure tabOk rfl rfl (q_nil (q_ret ?_))))))))
  refine q_fin tabOk rfl (by repeat constructor) fun w hs => ?_
  exact ⟨rfl, hs.chg0⟩
theorem chk1_ca (n : Int) (h : 0 ≤ n ∧ n ≤ 360000) (w : World) : Ca Tryz.prog 95 [.int .i64 n] w fun v w' => v = .bool true ∧ Chg [] w w' := by
  refine q_of (Sat.nil w M0) Tryz.func95 rfl (by simp [Tryz.ntmps95]) ?_
  (refine q_seq (q_region (ql_pure tabOk rfl rfl (q_nil (q_seq (q_region (ql_pure tabOk rfl rfl ?_)))))))
  refine ql_callv (val := .bool true) tabOk rfl rfl rfl rfl (fun w hs => ?_) ?_; exact inY n 0 360000 h w
  (refine ql_pure tabOk rfl rfl (q_nil (q_ret ?_)))
  refine q_fin tabOk rfl (by repeat constructor) fun w hs => ?_
  exact ⟨rfl, hs.chg0⟩
theorem chk2_ca (a b : Int) (h : a ≤ b ∧ 0 ≤ a ∧ b ≤ 360000) (w : World) : Ca Tryz.prog 97 [.agg #[.int .i64 a, .int .i64 b]] w fun v w' => v = .bool true ∧ Chg [] w w' := by
  refine q_of (Sat.nil w M0) Tryz.func97 rfl (by simp [Tryz.ntmps97]) ?_
  (refine q_seq (q_region ?_))
  refine ql_box rfl rfl (fun b1 => ?_)
  (refine ql_pure tabOk rfl rfl (q_nil (q_seq (q_region ?_))); refine ql_loadABa tabOk rfl rfl rfl ?_)
  refine ql_callv (val := .bool true) tabOk rfl rfl rfl rfl (fun w hs => ?_) ?_; exact spanY a b 0 360000 h w
  (refine ql_pure tabOk rfl rfl (q_nil (q_ret ?_)))
  refine q_fin tabOk rfl (by repeat constructor) fun w hs => ?_
  exact ⟨rfl, hs.chg0⟩
theorem spotY (w : World) (bS : Nat) (a : Option Addr) (k c m : Nat) (hm : m ≤ k) (hk : k ≤ 100) : Ca Tryz.prog 56 [.agg (rcC bS a k c).toArray, .agg #[.int .i64 0, .int .i64 m]] w fun v w' => v = .bool true ∧ Chg [] w w' := by
  refine q_of (Sat.nil w M0) Tryz.func56 rfl (by simp [Tryz.ntmps56]) ?_
  (refine q_seq (q_region ?_))
  refine ql_box rfl rfl (fun b2 => ?_)
  skip
  refine ql_box rfl rfl (fun b3 => ?_)
  (refine ql_pure tabOk rfl rfl (q_nil (q_seq (q_region (ql_pure tabOk rfl rfl ?_)))); refine ql_loadBa tabOk rfl rfl rfl ?_; refine ql_pure tabOk rfl rfl ?_; refine ql_loadBa tabOk rfl rfl rfl ?_; refine ql_pure tabOk rfl rfl (ql_ar tabOk rfl rfl rfl rfl (by omega) (by omega) ?_))
  refine ql_callv (val := .bool true) tabOk rfl rfl rfl rfl (fun w hs => ?_) ?_; exact inY 0 0 0 (by omega) w
  (refine ql_pure tabOk rfl rfl (ql_gyes rfl (ql_pure tabOk rfl rfl (ql_gyes rfl ?_))); refine ql_loadBa tabOk rfl rfl rfl ?_; refine ql_gyes rfl (ql_pure tabOk rfl rfl (ql_gyes rfl ?_)); refine ql_loadBa tabOk rfl rfl rfl ?_; refine ql_gyes rfl (ql_pure tabOk rfl rfl (ql_gyes rfl ?_)))
  refine ql_callv (val := .bool true) tabOk rfl rfl rfl rfl (fun w hs => ?_) ?_; exact inY m 0 k (by omega) w
  (refine ql_pure tabOk rfl rfl (ql_pure tabOk rfl rfl (q_nil (q_ret ?_))))
  refine q_fin tabOk rfl (by repeat constructor) fun w hs => ?_
  exact ⟨rfl, hs.chg0⟩
theorem alwI (fv : Value) (w : World) (lo hi : Nat) (v : Value) (l : List Int) (h : RdI w lo hi v l) (hlen : l.length ≤ 1000000) (hp : ∀ w', Chg [] w w' → ∀ x ∈ l, CaF Tryz.prog fv [.int .i64 x] w' fun r w'' => r = .bool true ∧ Chg [] w' w'') :
    Ca Tryz.prog 94 [v, fv] w fun r w' => r = .bool true ∧ Chg [] w w' := by
  obtain ⟨a, cap, rfl, hsa⟩ := h.outI
  refine q_of (Sat.nil w M0) Tryz.func94 rfl (by simp [Tryz.ntmps94]) ?_
  (refine q_seq (q_region (ql_pure tabOk rfl rfl (q_nil (q_seq (q_seq (q_region ?_)))))); (iterate 3 refine ql_pure tabOk rfl rfl ?_); refine q_nil (q_block ?_))
  refine q_loop (σ := Nat) (fun k => k ≤ l.length) (fun k => l.length - k) (fun k => [(1, fv), (7, .slice a l.length cap), (8, .int .i64 l.length), (9, .int .i64 k)]) (fun _ => []) 0 (by omega) ⟨rfl, rfl, rfl, rfl, trivial⟩ .nil ?_
  intro k hk K hK
  (refine q_seq (q_region (ql_pure tabOk rfl rfl (q_nil (q_seq ?_)))))
  refine q_if rfl (fun hc => ?_) (fun hc => ?_)
  · have hk2 : k < l.length := by omega
    clear hc
    obtain ⟨b, off, rfl⟩ := hsa (by omega)
    (refine q_skip (q_seq (q_block (q_seq (q_region ?_)))))
    (refine ql_index tabOk rfl rfl rfl rfl rfl (by omega) (by omega) ?_; refine ql_load1 tabOk rfl rfl rfl (fun w hs => RdI.at (h.keep hs.chg0) k hk2) ?_)
    (refine ql_pure tabOk rfl rfl (q_nil (q_seq (q_region (ql_pure tabOk rfl rfl (ql_pure tabOk rfl rfl ?_))))))
    refine ql_callFv rfl rfl rfl (fun w' hs => hp w' hs.chg0 _ (List.getElem_mem hk2)) ?_
    (refine ql_pure tabOk rfl rfl (q_nil (q_cond_false rfl (q_skip (q_blk (q_region (ql_ar tabOk rfl rfl rfl rfl (by omega) (by omega) (ql_pure tabOk rfl rfl (q_nil ?_)))))))))
    exact hK (k + 1) _ _ (by omega) (by omega) ⟨rfl, rfl, rfl, rfl, trivial⟩ (by repeat constructor)
  · (refine q_exit _ rfl (q_seq (q_region (ql_pure tabOk rfl rfl (q_nil (q_ret ?_))))))
    refine q_fin tabOk rfl (by repeat constructor) fun w hs => ?_
    exact ⟨rfl, hs.chg0⟩
theorem alwS (fv : Value) (w : World) (lo hi : Nat) (v : Value) (l : List (Int × Int)) (h : RdS w lo hi v l) (hlen : l.length ≤ 1000000) (hp : ∀ w', Chg [] w w' → ∀ x ∈ l, CaF Tryz.prog fv [.agg #[.int .i64 x.1, .int .i64 x.2]] w' fun r w'' => r = .bool true ∧ Chg [] w' w'') :
    Ca Tryz.prog 96 [v, fv] w fun r w' => r = .bool true ∧ Chg [] w w' := by
  obtain ⟨a, cap, rfl, hsa⟩ := RdS.outI h
  refine q_of (Sat.nil w M0) Tryz.func96 rfl (by simp [Tryz.ntmps96]) ?_
  (refine q_seq (q_region (ql_pure tabOk rfl rfl (q_nil (q_seq (q_seq (q_region ?_)))))); (iterate 3 refine ql_pure tabOk rfl rfl ?_); refine q_nil (q_block ?_))
  refine q_loop (σ := Nat) (fun k => k ≤ l.length) (fun k => l.length - k) (fun k => [(1, fv), (7, .slice a l.length cap), (8, .int .i64 l.length), (9, .int .i64 k)]) (fun _ => []) 0 (by omega) ⟨rfl, rfl, rfl, rfl, trivial⟩ .nil ?_
  intro k hk K hK
  (refine q_seq (q_region (ql_pure tabOk rfl rfl (q_nil (q_seq ?_)))))
  refine q_if rfl (fun hc => ?_) (fun hc => ?_)
  · have hk2 : k < l.length := by omega
    clear hc
    obtain ⟨b, off, rfl⟩ := hsa (by omega)
    (refine q_skip (q_seq (q_block (q_seq (q_region ?_)))))
    (refine ql_index tabOk rfl rfl rfl rfl rfl (by omega) (by omega) ?_; refine ql_loadA tabOk rfl rfl rfl rfl (fun w hs => RdS.at (RdE.keep h hs.chg0) k hk2) ?_)
    skip
    refine ql_alloc zero27 rfl (fun b6 => ?_)
    (refine ql_setA tabOk rfl rfl rfl rfl rfl (by repeat constructor) rfl ?_; refine q_nil (q_seq (q_region (ql_pure tabOk rfl rfl ?_))); refine ql_loadABa tabOk rfl rfl rfl ?_)
    refine ql_callFv rfl rfl rfl (fun w' hs => hp w' hs.chg0 _ (List.getElem_mem hk2)) ?_
    (refine ql_pure tabOk rfl rfl (q_nil (q_cond_false rfl (q_skip (q_blk (q_region (ql_ar tabOk rfl rfl rfl rfl (by omega) (by omega) (ql_pure tabOk rfl rfl (q_nil ?_)))))))))
    exact hK (k + 1) _ _ (by omega) (by omega) ⟨rfl, rfl, rfl, rfl, trivial⟩ (by repeat constructor)
  · (refine q_exit _ rfl (q_seq (q_region (ql_pure tabOk rfl rfl (q_nil (q_ret ?_))))))
    refine q_fin tabOk rfl (by repeat constructor) fun w hs => ?_
    exact ⟨rfl, hs.chg0⟩
theorem alwT (fv : Value) (w : World) (lo hi : Nat) (v : Value) (l : List (Int × Int)) (h : RdS w lo hi v l) (hlen : l.length ≤ 1000000) (hp : ∀ w', Chg [] w w' → ∀ x ∈ l, CaF Tryz.prog fv [.agg #[.int .i64 x.1, .int .i64 x.2]] w' fun r w'' => r = .bool true ∧ Chg [] w' w'') :
    Ca Tryz.prog 55 [v, fv] w fun r w' => r = .bool true ∧ Chg [] w w' := by
  obtain ⟨a, cap, rfl, hsa⟩ := RdS.outI h
  refine q_of (Sat.nil w M0) Tryz.func55 rfl (by simp [Tryz.ntmps55]) ?_
  (refine q_seq (q_region (ql_pure tabOk rfl rfl (q_nil (q_seq (q_seq (q_region ?_)))))); (iterate 3 refine ql_pure tabOk rfl rfl ?_); refine q_nil (q_block ?_))
  refine q_loop (σ := Nat) (fun k => k ≤ l.length) (fun k => l.length - k) (fun k => [(1, fv), (7, .slice a l.length cap), (8, .int .i64 l.length), (9, .int .i64 k)]) (fun _ => []) 0 (by omega) ⟨rfl, rfl, rfl, rfl, trivial⟩ .nil ?_
  intro k hk K hK
  (refine q_seq (q_region (ql_pure tabOk rfl rfl (q_nil (q_seq ?_)))))
  refine q_if rfl (fun hc => ?_) (fun hc => ?_)
  · have hk2 : k < l.length := by omega
    clear hc
    obtain ⟨b, off, rfl⟩ := hsa (by omega)
    (refine q_skip (q_seq (q_block (q_seq (q_region ?_)))))
    (refine ql_index tabOk rfl rfl rfl rfl rfl (by omega) (by omega) ?_; refine ql_loadA tabOk rfl rfl rfl rfl (fun w hs => RdS.at (RdE.keep h hs.chg0) k hk2) ?_)
    skip
    refine ql_alloc zero65 rfl (fun b6 => ?_)
    (refine ql_setA tabOk rfl rfl rfl rfl rfl (by repeat constructor) rfl ?_; refine q_nil (q_seq (q_region (ql_pure tabOk rfl rfl ?_))); refine ql_loadABa tabOk rfl rfl rfl ?_)
    refine ql_callFv rfl rfl rfl (fun w' hs => hp w' hs.chg0 _ (List.getElem_mem hk2)) ?_
    (refine ql_pure tabOk rfl rfl (q_nil (q_cond_false rfl (q_skip (q_blk (q_region (ql_ar tabOk rfl rfl rfl rfl (by omega) (by omega) (ql_pure tabOk rfl rfl (q_nil ?_)))))))))
    exact hK (k + 1) _ _ (by omega) (by omega) ⟨rfl, rfl, rfl, rfl, trivial⟩ (by repeat constructor)
  · (refine q_exit _ rfl (q_seq (q_region (ql_pure tabOk rfl rfl (q_nil (q_ret ?_))))))
    refine q_fin tabOk rfl (by repeat constructor) fun w hs => ?_
    exact ⟨rfl, hs.chg0⟩
theorem alwC (fv : Value) (w : World) : Ca Tryz.prog 99 [.slice none 0 0, fv] w fun r w' => r = .bool true ∧ Chg [] w w' := by
  refine q_of (Sat.nil w M0) Tryz.func99 rfl (by simp [Tryz.ntmps99]) ?_
  (refine q_seq (q_region (ql_pure tabOk rfl rfl (q_nil (q_seq (q_seq (q_region ?_)))))); (iterate 3 refine ql_pure tabOk rfl rfl ?_); refine q_nil (q_block ?_))
  refine q_loop (σ := Unit) (fun _ => True) (fun _ => 0) (fun _ => [(8, .int .i64 0), (9, .int .i64 0)]) (fun _ => []) () trivial ⟨rfl, rfl, trivial⟩ .nil ?_
  intro k hk K hK
  (refine q_seq (q_region (ql_lssF tabOk rfl rfl rfl (by omega) (q_nil (q_seq (q_cond_false rfl (q_exit _ rfl (q_seq (q_region (ql_pure tabOk rfl rfl (q_nil (q_ret ?_))))))))))))
  refine q_fin tabOk rfl (by repeat constructor) fun w hs => ?_
  exact ⟨rfl, hs.chg0⟩
theorem alwR (fv : Value) (w : World) : Ca Tryz.prog 101 [.slice none 0 0, fv] w fun r w' => r = .bool true ∧ Chg [] w w' := by
  refine q_of (Sat.nil w M0) Tryz.func101 rfl (by simp [Tryz.ntmps101]) ?_
  (refine q_seq (q_region (ql_pure tabOk rfl rfl (q_nil (q_seq (q_seq (q_region ?_)))))); (iterate 3 refine ql_pure tabOk rfl rfl ?_); refine q_nil (q_block ?_))
  refine q_loop (σ := Unit) (fun _ => True) (fun _ => 0) (fun _ => [(8, .int .i64 0), (9, .int .i64 0)]) (fun _ => []) () trivial ⟨rfl, rfl, trivial⟩ .nil ?_
  intro k hk K hK
  (refine q_seq (q_region (ql_lssF tabOk rfl rfl rfl (by omega) (q_nil (q_seq (q_cond_false rfl (q_exit _ rfl (q_seq (q_region (ql_pure tabOk rfl rfl (q_nil (q_ret ?_))))))))))))
  refine q_fin tabOk rfl (by repeat constructor) fun w hs => ?_
  exact ⟨rfl, hs.chg0⟩
theorem chkR_ca (w : World) (lo hi bS : Nat) (a : Option Addr) (k c : Nat) (L : List Int) (hk : k = L.length) (hL : L.length ≤ 7) (hn : ∀ n ∈ L, 0 ≤ n ∧ n ≤ 100000) (hS : RdI w lo hi (.slice (some ⟨bS, 0, none⟩) 1 1) [300]) (hP : RdS w lo hi (.slice a k c) (spL L)) :
    Ca Tryz.prog 78 [.agg (rcC bS a k c).toArray] w fun v w' => v = .int .i64 0 ∧ Chg [] w w' := by
  refine q_of (Sat.nil w M0) Tryz.func78 rfl (by simp [Tryz.ntmps78]) ?_
  (refine q_seq (q_region ?_))
  refine ql_box rfl rfl (fun b1 => ?_)
  (refine ql_pure tabOk rfl rfl (q_nil (q_seq (q_block (q_seq (q_region (ql_pure tabOk rfl rfl ?_)))))); refine ql_loadBa tabOk rfl rfl rfl ?_; refine ql_pure tabOk rfl rfl ?_)
  refine ql_callv (val := .bool true) tabOk rfl rfl rfl rfl (fun w hs => ?_) ?_; exact inY 1 1 8 (by omega) w
  (refine ql_pure tabOk rfl rfl (ql_pure tabOk rfl rfl (ql_gyes rfl (ql_pure tabOk rfl rfl (ql_gyes rfl ?_)))); refine ql_loadBa tabOk rfl rfl rfl ?_; refine ql_gyes rfl (ql_pure tabOk rfl rfl (ql_gyes rfl (ql_gtrF tabOk rfl rfl rfl (by omega) (ql_pure tabOk rfl rfl (ql_pure tabOk rfl rfl (ql_gyes rfl (ql_pure tabOk rfl rfl (ql_gyes rfl ?_)))))))); refine ql_loadBa tabOk rfl rfl rfl ?_; refine ql_gyes rfl (ql_pure tabOk rfl rfl (ql_gyes rfl (ql_gtrF tabOk rfl rfl rfl (by omega) (ql_pure tabOk rfl rfl (ql_pure tabOk rfl rfl (ql_gyes rfl (ql_pure tabOk rfl rfl (ql_gyes rfl ?_)))))))); refine ql_loadBa tabOk rfl rfl rfl ?_; refine ql_gyes rfl (ql_pure tabOk rfl rfl (ql_gyes rfl (ql_gtrF tabOk rfl rfl rfl (by omega) (ql_pure tabOk rfl rfl (ql_pure tabOk rfl rfl (q_nil (q_cond_false rfl (q_seq (q_region (ql_pure tabOk rfl rfl ?_)))))))))); refine ql_loadBa tabOk rfl rfl rfl ?_)
  refine ql_callv (val := .bool true) tabOk rfl rfl rfl rfl (fun w hs => ?_) ?_; exact alwI _ w lo hi _ [300] (RdE.keep hS hs.chg0) (by simp) (fun w' _ x hx => CaF.of tabOk rfl (chk1_ca x (by rw [List.mem_singleton.1 hx]; omega) w'))
  (refine ql_pure tabOk rfl rfl (ql_pure tabOk rfl rfl (ql_gyes rfl (ql_pure tabOk rfl rfl (ql_gyes rfl ?_)))); refine ql_loadBa tabOk rfl rfl rfl ?_; refine ql_gyes rfl ?_)
  refine ql_callv (val := .bool true) tabOk rfl rfl rfl rfl (fun w hs => ?_) ?_; exact alwS _ w lo hi _ (spL L) (RdE.keep hP hs.chg0) (by rw [spL_len]; omega) (fun w' _ x hx => CaF.of tabOk rfl (by obtain ⟨n, h, rfl⟩ := List.mem_map.1 hx; have := hn n h; exact chk2_ca n (2 * n) (by omega) w'))
  (refine ql_gyes rfl ?_; (iterate 3 refine ql_pure tabOk rfl rfl ?_); refine q_nil (q_cond_false rfl (q_seq (q_region (ql_pure tabOk rfl rfl ?_)))); refine ql_loadBa tabOk rfl rfl rfl ?_)
  refine ql_callv (val := .bool true) tabOk rfl rfl rfl rfl (fun w hs => ?_) ?_; exact alwC _ w
  (refine ql_pure tabOk rfl rfl (ql_pure tabOk rfl rfl (q_nil (q_cond_false rfl (q_seq (q_region (ql_pure tabOk rfl rfl ?_)))))); refine ql_loadBa tabOk rfl rfl rfl ?_)
  refine ql_callv (val := .bool true) tabOk rfl rfl rfl rfl (fun w hs => ?_) ?_; exact alwR _ w
  (refine ql_pure tabOk rfl rfl (ql_pure tabOk rfl rfl (q_nil (q_cond_false rfl (q_seq (q_region (ql_pure tabOk rfl rfl ?_)))))); refine ql_loadBa tabOk rfl rfl rfl ?_; refine ql_pure tabOk rfl rfl ?_)
  refine ql_callv (val := .bool true) tabOk rfl rfl rfl rfl (fun w hs => ?_) ?_; exact alwR _ w
  (refine ql_pure tabOk rfl rfl (ql_pure tabOk rfl rfl (q_nil (q_cond_false rfl (q_skip (q_blk (q_seq (q_region (ql_pure tabOk rfl rfl (q_nil (q_ret ?_)))))))))))
  refine q_fin tabOk rfl (by repeat constructor) fun w hs => ?_
  exact ⟨rfl, hs.chg0⟩
end Go.Proofs.YtpknmgafambmbaaGreat

/- Walks: the steps of a race, where they lead, and what they count. -/
namespace Go.Proofs.YtpknmgafambmbaaGreat
open Go Go.Eng

/-- A step: kind, index, up. -/
abbrev Stp := Nat × Nat × Bool
abbrev stC (x : Stp) : List Value := [.int .i64 x.1, .int .i64 0, .int .i64 x.2.1, .bool x.2.2]
def stL (k : Nat) : List Stp := [(0, 0, true), (0, 0, false)] ++ (List.range k).flatMap fun i => [(1, i, true), (1, i, false)]
/-- A point by its number. -/
def ptC (j : Nat) : List Value := if j = 0 then [.int .i64 (-1), .int .i64 0] else [.int .i64 0, .int .i64 ((j - 1 : Nat) : Int)]
def frmN (x : Stp) : Nat := if x.2.2 then x.1 + x.2.1 else x.1 + x.2.1 + 1
def towN (x : Stp) : Nat := if x.2.2 then x.1 + x.2.1 + 1 else x.1 + x.2.1
def cntV (L : List Int) (x : Stp) : Int := if x.1 = 0 then (if x.2.2 then 300 else -300) else (if x.2.2 then 2 * L.getD x.2.1 0 else -L.getD x.2.1 0)

def rulF : List Value := [.func (.func 121) #[] #[], .func (.func 122) #[] #[], .func (.func 123) #[] #[], .func (.func 124) #[] #[], .func (.func 125) #[] #[], .func (.func 126) #[] #[], .func (.func 127) #[] #[], .func (.func 128) #[] #[], .func (.func 130) #[] #[], .func (.func 131) #[] #[], .func (.func 132) #[] #[], .func (.func 133) #[] #[]]
theorem rulesF_ca (w : World) : Ca Tryz.prog 116 [] w fun v w' => v = .agg rulF.toArray ∧ Chg [] w w' := by
  refine q_of (Sat.nil w M0) Tryz.func116 rfl (by simp [Tryz.ntmps116]) ?_
  (refine q_seq (q_region ?_))
  refine ql_alloc zero204 rfl (fun b0 => ?_)
  (refine q_nil (q_seq (q_region ?_)))
  refine ql_mk #[.func (.func 121) #[] #[], .func (.func 122) #[] #[], .func (.func 123) #[] #[]] rfl (by kernel_rfl) rfl ?_
  skip
  refine ql_mk #[.func (.func 124) #[] #[], .func (.func 125) #[] #[], .func (.func 126) #[] #[]] rfl (by kernel_rfl) rfl ?_
  skip
  refine ql_mk #[.func (.func 127) #[] #[], .func (.func 128) #[] #[], .func (.func 130) #[] #[]] rfl (by kernel_rfl) rfl ?_
  skip
  refine ql_mk #[.func (.func 131) #[] #[], .func (.func 132) #[] #[], .func (.func 133) #[] #[]] rfl (by kernel_rfl) rfl ?_
  skip
  refine ql_mk #[.func (.func 121) #[] #[], .func (.func 122) #[] #[], .func (.func 123) #[] #[], .func (.func 124) #[] #[], .func (.func 125) #[] #[], .func (.func 126) #[] #[], .func (.func 127) #[] #[], .func (.func 128) #[] #[], .func (.func 130) #[] #[], .func (.func 131) #[] #[], .func (.func 132) #[] #[], .func (.func 133) #[] #[]] rfl (by kernel_rfl) rfl ?_
  (refine ql_setA tabOk rfl rfl rfl rfl rfl (by repeat constructor) rfl ?_; refine q_nil (q_ret ?_))
  refine q_fin tabOk rfl (by repeat constructor) fun w hs => ?_
  exact ⟨rfl, hs.chg0⟩
section
variable (w : World) (lo hi bS : Nat) (a : Option Addr) (k c : Nat)
theorem ends0_ca (i : Nat) (u : Bool) : Ca Tryz.prog 122 [.agg (rcC bS a k c).toArray, .agg #[.int .i64 0, .int .i64 0, .int .i64 i, .bool u]] w fun v w' => v = .tuple #[.agg #[.int .i64 (-1), .int .i64 0], .agg #[.int .i64 0, .int .i64 0]] ∧ Chg [] w w' := by
  refine q_of (Sat.nil w M0) Tryz.func122 rfl (by simp [Tryz.ntmps122]) ?_
  (refine q_seq (q_region ?_))
  refine ql_box rfl rfl (fun b2 => ?_)
  skip
  refine ql_box rfl rfl (fun b3 => ?_)
  skip
  refine ql_alloc zero106 rfl (fun b4 => ?_)
  skip
  refine ql_alloc zero106 rfl (fun b5 => ?_)
  (refine q_nil (q_seq ?_))
  refine q_draw _ [.pt b4 _ _, .pt b5 _ _] (Sp.cons (by repeat constructor) (Sp.cons (by repeat constructor) (Sp.refl _))) (by kernel_rfl) (by kernel_rfl) ?_
  skip
  refine qf_callv (val := .agg #[.int .i64 (-1), .int .i64 0]) tabOk rfl rfl rfl rfl (fun w hs => ?_) ?_; exact zeroP_ca w
  (refine qf_pure tabOk rfl rfl rfl ?_; refine qf_loadBa tabOk rfl rfl rfl ?_)
  refine qf_mk #[.int .i64 0, .int .i64 0] rfl (by kernel_rfl) rfl ?_
  ((iterate 2 refine qf_setA tabOk rfl rfl rfl rfl rfl (by repeat constructor) rfl ?_); refine qf_nil (q_ret ?_))
  refine q_fin tabOk rfl (by repeat constructor) fun w hs => ?_
  exact ⟨rfl, hs.chg0⟩
theorem counts0_ca (i : Nat) (u : Bool) (hS : RdI w lo hi (.slice (some ⟨bS, 0, none⟩) 1 1) [300]) : Ca Tryz.prog 123 [.agg (rcC bS a k c).toArray, .agg #[.int .i64 0, .int .i64 0, .int .i64 i, .bool u]] w fun v w' => v = .tuple #[.int .i64 300, .int .i64 (-300)] ∧ Chg [] w w' := by
  refine q_of (Sat.nil w M0) Tryz.func123 rfl (by simp [Tryz.ntmps123]) ?_
  (refine q_seq (q_region ?_))
  refine ql_box rfl rfl (fun b2 => ?_)
  skip
  refine ql_box rfl rfl (fun b3 => ?_)
  (refine ql_pure tabOk rfl rfl (ql_pure tabOk rfl rfl (q_nil (q_seq ?_))))
  refine q_draw _ [] (Sp.refl _) (by kernel_rfl) (by kernel_rfl) ?_
  (refine qf_pure tabOk rfl rfl rfl ?_; refine qf_loadBa tabOk rfl rfl rfl ?_; refine qf_pure tabOk rfl rfl rfl ?_; refine qf_loadBa tabOk rfl rfl rfl ?_)
  refine qf_index tabOk rfl rfl rfl rfl rfl (by omega) (by omega) ?_
  refine qf_load1 (v := .int .i64 300) tabOk rfl rfl rfl (fun w hs => RdI.at (hS.keep hs.chg0) 0 (by simp)) ?_
  (refine qf_pure tabOk rfl rfl rfl ?_; refine qf_loadBa tabOk rfl rfl rfl ?_; refine qf_pure tabOk rfl rfl rfl ?_; refine qf_loadBa tabOk rfl rfl rfl ?_)
  refine qf_index tabOk rfl rfl rfl rfl rfl (by omega) (by omega) ?_
  refine qf_load1 (v := .int .i64 300) tabOk rfl rfl rfl (fun w hs => RdI.at (hS.keep hs.chg0) 0 (by simp)) ?_
  (refine qf_neg tabOk rfl rfl (by omega) (by omega) (qf_pure tabOk rfl rfl rfl (qf_pure tabOk rfl rfl rfl (qf_nil (q_ret ?_)))))
  refine q_fin tabOk rfl (by repeat constructor) fun w hs => ?_
  exact ⟨rfl, hs.chg0⟩
theorem ends1_ca (i : Nat) (u : Bool) (hi : i ≤ 100) : Ca Tryz.prog 125 [.agg (rcC bS a k c).toArray, .agg #[.int .i64 1, .int .i64 0, .int .i64 i, .bool u]] w fun v w' => v = .tuple #[.agg #[.int .i64 0, .int .i64 i], .agg #[.int .i64 0, .int .i64 (i + 1)]] ∧ Chg [] w w' := by
  refine q_of (Sat.nil w M0) Tryz.func125 rfl (by simp [Tryz.ntmps125]) ?_
  (refine q_seq (q_region ?_))
  refine ql_box rfl rfl (fun b2 => ?_)
  skip
  refine ql_box rfl rfl (fun b3 => ?_)
  skip
  refine ql_alloc zero106 rfl (fun b4 => ?_)
  skip
  refine ql_alloc zero106 rfl (fun b5 => ?_)
  (refine q_nil (q_seq ?_))
  refine q_draw _ [.pt b4 _ _, .pt b5 _ _] (Sp.cons (by repeat constructor) (Sp.cons (by repeat constructor) (Sp.refl _))) (by kernel_rfl) (by kernel_rfl) ?_
  (refine qf_pure tabOk rfl rfl rfl ?_; refine qf_loadBa tabOk rfl rfl rfl ?_; refine qf_pure tabOk rfl rfl rfl ?_; refine qf_loadBa tabOk rfl rfl rfl ?_)
  refine qf_mk #[.int .i64 0, .int .i64 i] rfl (by kernel_rfl) rfl ?_
  (refine qf_pure tabOk rfl rfl rfl ?_; refine qf_loadBa tabOk rfl rfl rfl ?_; refine qf_pure tabOk rfl rfl rfl ?_; refine qf_loadBa tabOk rfl rfl rfl ?_; refine qf_ar tabOk rfl rfl rfl rfl (by omega) (by omega) ?_)
  refine qf_mk #[.int .i64 0, .int .i64 (i + 1)] rfl (by kernel_rfl) rfl ?_
  ((iterate 2 refine qf_setA tabOk rfl rfl rfl rfl rfl (by repeat constructor) rfl ?_); refine qf_nil (q_ret ?_))
  refine q_fin tabOk rfl (by repeat constructor) fun w hs => ?_
  exact ⟨rfl, hs.chg0⟩
theorem counts1_ca (L : List Int) (hk : k = L.length) (hL : L.length ≤ 7) (hn : ∀ n ∈ L, 0 ≤ n ∧ n ≤ 100000) (i : Nat) (u : Bool) (hiL : i < L.length) (hP : RdS w lo hi (.slice a k c) (spL L)) : Ca Tryz.prog 126 [.agg (rcC bS a k c).toArray, .agg #[.int .i64 1, .int .i64 0, .int .i64 i, .bool u]] w fun v w' => v = .tuple #[.int .i64 (2 * L[i]), .int .i64 (-L[i])] ∧ Chg [] w w' := by
  have hni := hn _ (List.getElem_mem hiL)
  have hi2 : i < (spL L).length := by rw [spL_len]; exact hiL
  have e1 : (spL L)[i].1 = L[i] := by simp [spL]
  have e2 : (spL L)[i].2 = 2 * L[i] := by simp [spL]
  obtain ⟨a', c', ha, hsa⟩ := RdS.outI hP
  obtain ⟨b, off, rfl⟩ := hsa (by omega)
  cases ha
  refine q_of (Sat.nil w M0) Tryz.func126 rfl (by simp [Tryz.ntmps126]) ?_
  (refine q_seq (q_region ?_))
  refine ql_box rfl rfl (fun b2 => ?_)
  skip
  refine ql_box rfl rfl (fun b3 => ?_)
  (refine ql_pure tabOk rfl rfl (ql_pure tabOk rfl rfl (q_nil (q_seq ?_))))
  refine q_draw _ [] (Sp.refl _) (by kernel_rfl) (by kernel_rfl) ?_
  (refine qf_pure tabOk rfl rfl rfl ?_; refine qf_loadBa tabOk rfl rfl rfl ?_; refine qf_pure tabOk rfl rfl rfl ?_; refine qf_loadBa tabOk rfl rfl rfl ?_)
  refine qf_index tabOk rfl rfl rfl rfl rfl (by omega) (by omega) ?_
  (refine qf_pure tabOk rfl rfl rfl ?_)
  refine qf_load1 (v := .int .i64 (2 * L[i])) tabOk rfl rfl rfl (fun w hs => (RdS.at1 (RdE.keep hP hs.chg0) i hi2).trans (by rw [e2])) ?_
  (refine qf_pure tabOk rfl rfl rfl ?_; refine qf_loadBa tabOk rfl rfl rfl ?_; refine qf_pure tabOk rfl rfl rfl ?_; refine qf_loadBa tabOk rfl rfl rfl ?_)
  refine qf_index tabOk rfl rfl rfl rfl rfl (by omega) (by omega) ?_
  (refine qf_pure tabOk rfl rfl rfl ?_)
  refine qf_load1 (v := .int .i64 L[i]) tabOk rfl rfl rfl (fun w hs => (RdS.at0 (RdE.keep hP hs.chg0) i hi2).trans (by rw [e1])) ?_
  (refine qf_neg tabOk rfl rfl (by omega) (by omega) (qf_pure tabOk rfl rfl rfl (qf_pure tabOk rfl rfl rfl (qf_nil (q_ret ?_)))))
  refine q_fin tabOk rfl (by repeat constructor) fun w hs => ?_
  exact ⟨rfl, hs.chg0⟩
theorem rul_arr : arrB Tryz.prog 204 4 203 3 = true := by kernel_rfl
def tH2_ae6e63c : OT := .alt (chainT [0, 4, 1, 2, 3, 5] (.nil)) (chainT [4, 0, 1, 2, 3, 5] (.nil))
set_option maxHeartbeats 1000000 in
theorem leads0_ca (u : Bool) (hS : RdI w lo hi (.slice (some ⟨bS, 0, none⟩) 1 1) [300]) : Ca Tryz.prog 105 [.agg (rcC bS a k c).toArray, .agg #[.int .i64 0, .int .i64 0, .int .i64 0, .bool u]] w fun v w' => v = (if u then .tuple #[.agg #[.int .i64 (-1), .int .i64 0], .agg #[.int .i64 0, .int .i64 0], .int .i64 300] else .tuple #[.agg #[.int .i64 0, .int .i64 0], .agg #[.int .i64 (-1), .int .i64 0], .int .i64 (-300)]) ∧ Chg [] w w' := by
  refine q_of (Sat.nil w M0) Tryz.func105 rfl (by simp [Tryz.ntmps105]) ?_
  (refine q_seq (q_region ?_))
  refine ql_box rfl rfl (fun b2 => ?_)
  skip
  refine ql_box rfl rfl (fun b3 => ?_)
  skip
  refine ql_alloc zero106 rfl (fun b4 => ?_)
  skip
  refine ql_alloc zero106 rfl (fun b5 => ?_)
  (refine ql_pure tabOk rfl rfl (q_nil (q_seq ?_)))
  refine q_cut (σ := Nat) (fun b7 => [(2, .pointer (some ⟨b2, 0, none⟩)), (3, .pointer (some ⟨b3, 0, none⟩)), (4, .pointer (some ⟨b4, 0, none⟩)), (5, .pointer (some ⟨b5, 0, none⟩)), (7, .pointer (some ⟨b7, 0, none⟩))]) (fun b7 => [.pt b7 [.func (.func 121) #[] #[], .func (.func 122) #[] #[], .func (.func 123) #[] #[]] 203, .pt b5 [.int .i64 0, .int .i64 0] 106, .pt b4 [.int .i64 0, .int .i64 0] 106, .pt b3 [.int .i64 0, .int .i64 0, .int .i64 0, .bool u] 160, .pt b2 (rcC bS a k c) 59]) ?_ ?_
  rotate_left
  · intro K2 hK2
    refine q_drawT (tH2_ae6e63c) _ [] (Sp.refl _) (by kernel_rfl) (by kernel_rfl) ?_
    refine qt_alt ?_ ?_
    · skip
      refine qt_seg (by repeat (first | exact PickL.nil | (apply PickL.cons; rfl))) fun K1 hK1 => ?_
      skip
      refine qf_callv (val := .agg rulF.toArray) tabOk rfl rfl rfl rfl (fun w hs => ?_) ?_; exact rulesF_ca w
      skip
      refine qf_alloc zero203 rfl (fun b7 => ?_)
      (refine qf_pure tabOk rfl rfl rfl ?_; refine qf_loadBa tabOk rfl rfl rfl ?_)
      refine qf_ixG (v := .agg #[.func (.func 121) #[] #[], .func (.func 122) #[] #[], .func (.func 123) #[] #[]]) tabOk rul_arr rfl rfl rfl rfl (by omega) (by decide) rfl ?_
      (refine qf_setA tabOk rfl rfl rfl rfl rfl (by repeat constructor) rfl ?_; refine qf_nil ?_)
      skip
      exact hK1 _ _ (qt_nil (hK2 b7 _ _ ⟨rfl, rfl, rfl, rfl, rfl, trivial⟩ (by repeat constructor)))
    · skip
      refine qt_seg (by repeat (first | exact PickL.nil | (apply PickL.cons; rfl))) fun K1 hK1 => ?_
      skip
      refine qf_alloc zero203 rfl (fun b7 => ?_)
      skip
      refine qf_callv (val := .agg rulF.toArray) tabOk rfl rfl rfl rfl (fun w hs => ?_) ?_; exact rulesF_ca w
      (refine qf_pure tabOk rfl rfl rfl ?_; refine qf_loadBa tabOk rfl rfl rfl ?_)
      refine qf_ixG (v := .agg #[.func (.func 121) #[] #[], .func (.func 122) #[] #[], .func (.func 123) #[] #[]]) tabOk rul_arr rfl rfl rfl rfl (by omega) (by decide) rfl ?_
      (refine qf_setA tabOk rfl rfl rfl rfl rfl (by repeat constructor) rfl ?_; refine qf_nil ?_)
      skip
      exact hK1 _ _ (qt_nil (hK2 b7 _ _ ⟨rfl, rfl, rfl, rfl, rfl, trivial⟩ (by repeat constructor)))
  intro b7
  (refine q_seq (q_region (ql_pure tabOk rfl rfl ?_)); refine ql_loadBa tabOk rfl rfl rfl ?_; (iterate 2 refine ql_loadABa tabOk rfl rfl rfl ?_))
  refine ql_callFv rfl rfl rfl (fun w' hs => CaF.of tabOk rfl (ends0_ca w' bS a k c 0 u)) ?_
  (refine ql_pure tabOk rfl rfl (ql_ext tabOk rfl rfl rfl (ql_ext tabOk rfl rfl rfl ?_)); (iterate 2 refine ql_setA tabOk rfl rfl rfl rfl rfl (by repeat constructor) rfl ?_); refine q_nil (q_seq (q_region (ql_pure tabOk rfl rfl ?_))); refine ql_loadBa tabOk rfl rfl rfl ?_; (iterate 2 refine ql_loadABa tabOk rfl rfl rfl ?_))
  refine ql_callFv rfl rfl rfl (fun w' hs => CaF.of tabOk rfl (counts0_ca w' lo hi bS a k c 0 u (hS.keep hs.chg0))) ?_
  (refine ql_pure tabOk rfl rfl (ql_ext tabOk rfl rfl rfl (ql_ext tabOk rfl rfl rfl (ql_pure tabOk rfl rfl (ql_pure tabOk rfl rfl (q_nil (q_seq (q_seq (q_region (ql_pure tabOk rfl rfl ?_))))))))); refine ql_loadBa tabOk rfl rfl rfl ?_; refine ql_pure tabOk rfl rfl (q_nil ?_))
  cases u
  · (refine q_cond_true rfl (q_seq (q_region ?_)); (iterate 2 refine ql_loadABa tabOk rfl rfl rfl ?_); refine ql_pure tabOk rfl rfl ?_; (iterate 2 refine ql_setA tabOk rfl rfl rfl rfl rfl (by repeat constructor) rfl ?_); refine ql_pure tabOk rfl rfl (q_nil (q_ret ?_)))
    refine q_fin tabOk rfl (by repeat constructor) fun w hs => ?_
    exact ⟨rfl, hs.chg0⟩
  · (refine q_cond_false rfl (q_skip (q_seq ?_)))
    refine q_draw _ [] (Sp.refl _) (by kernel_rfl) (by kernel_rfl) ?_
    ((iterate 2 refine qf_loadABa tabOk rfl rfl rfl ?_); refine qf_pure tabOk rfl rfl rfl ?_)
    refine qf_stSame tabOk rfl rfl rfl rfl rfl (by repeat constructor) ?_
    skip
    refine qf_stSame tabOk rfl rfl rfl rfl rfl (by repeat constructor) ?_
    (refine qf_pure tabOk rfl rfl rfl (qf_nil (q_ret ?_)))
    refine q_fin tabOk rfl (by repeat constructor) fun w hs => ?_
    exact ⟨rfl, hs.chg0⟩
set_option maxHeartbeats 1000000 in
theorem leads1_ca (L : List Int) (hk : k = L.length) (hL : L.length ≤ 7) (hn : ∀ n ∈ L, 0 ≤ n ∧ n ≤ 100000) (i : Nat) (u : Bool) (hiL : i < L.length) (hP : RdS w lo hi (.slice a k c) (spL L)) : Ca Tryz.prog 105 [.agg (rcC bS a k c).toArray, .agg #[.int .i64 1, .int .i64 0, .int .i64 i, .bool u]] w fun v w' => v = (if u then .tuple #[.agg #[.int .i64 0, .int .i64 i], .agg #[.int .i64 0, .int .i64 (i + 1)], .int .i64 (2 * L[i])] else .tuple #[.agg #[.int .i64 0, .int .i64 (i + 1)], .agg #[.int .i64 0, .int .i64 i], .int .i64 (-L[i])]) ∧ Chg [] w w' := by
  refine q_of (Sat.nil w M0) Tryz.func105 rfl (by simp [Tryz.ntmps105]) ?_
  (refine q_seq (q_region ?_))
  refine ql_box rfl rfl (fun b2 => ?_)
  skip
  refine ql_box rfl rfl (fun b3 => ?_)
  skip
  refine ql_alloc zero106 rfl (fun b4 => ?_)
  skip
  refine ql_alloc zero106 rfl (fun b5 => ?_)
  (refine ql_pure tabOk rfl rfl (q_nil (q_seq ?_)))
  refine q_cut (σ := Nat) (fun b7 => [(2, .pointer (some ⟨b2, 0, none⟩)), (3, .pointer (some ⟨b3, 0, none⟩)), (4, .pointer (some ⟨b4, 0, none⟩)), (5, .pointer (some ⟨b5, 0, none⟩)), (7, .pointer (some ⟨b7, 0, none⟩))]) (fun b7 => [.pt b7 [.func (.func 124) #[] #[], .func (.func 125) #[] #[], .func (.func 126) #[] #[]] 203, .pt b5 [.int .i64 0, .int .i64 0] 106, .pt b4 [.int .i64 0, .int .i64 0] 106, .pt b3 [.int .i64 1, .int .i64 0, .int .i64 i, .bool u] 160, .pt b2 (rcC bS a k c) 59]) ?_ ?_
  rotate_left
  · intro K2 hK2
    refine q_drawT (tH2_ae6e63c) _ [] (Sp.refl _) (by kernel_rfl) (by kernel_rfl) ?_
    refine qt_alt ?_ ?_
    · skip
      refine qt_seg (by repeat (first | exact PickL.nil | (apply PickL.cons; rfl))) fun K1 hK1 => ?_
      skip
      refine qf_callv (val := .agg rulF.toArray) tabOk rfl rfl rfl rfl (fun w hs => ?_) ?_; exact rulesF_ca w
      skip
      refine qf_alloc zero203 rfl (fun b7 => ?_)
      (refine qf_pure tabOk rfl rfl rfl ?_; refine qf_loadBa tabOk rfl rfl rfl ?_)
      refine qf_ixG (v := .agg #[.func (.func 124) #[] #[], .func (.func 125) #[] #[], .func (.func 126) #[] #[]]) tabOk rul_arr rfl rfl rfl rfl (by omega) (by decide) rfl ?_
      (refine qf_setA tabOk rfl rfl rfl rfl rfl (by repeat constructor) rfl ?_; refine qf_nil ?_)
      skip
      exact hK1 _ _ (qt_nil (hK2 b7 _ _ ⟨rfl, rfl, rfl, rfl, rfl, trivial⟩ (by repeat constructor)))
    · skip
      refine qt_seg (by repeat (first | exact PickL.nil | (apply PickL.cons; rfl))) fun K1 hK1 => ?_
      skip
      refine qf_alloc zero203 rfl (fun b7 => ?_)
      skip
      refine qf_callv (val := .agg rulF.toArray) tabOk rfl rfl rfl rfl (fun w hs => ?_) ?_; exact rulesF_ca w
      (refine qf_pure tabOk rfl rfl rfl ?_; refine qf_loadBa tabOk rfl rfl rfl ?_)
      refine qf_ixG (v := .agg #[.func (.func 124) #[] #[], .func (.func 125) #[] #[], .func (.func 126) #[] #[]]) tabOk rul_arr rfl rfl rfl rfl (by omega) (by decide) rfl ?_
      (refine qf_setA tabOk rfl rfl rfl rfl rfl (by repeat constructor) rfl ?_; refine qf_nil ?_)
      skip
      exact hK1 _ _ (qt_nil (hK2 b7 _ _ ⟨rfl, rfl, rfl, rfl, rfl, trivial⟩ (by repeat constructor)))
  intro b7
  (refine q_seq (q_region (ql_pure tabOk rfl rfl ?_)); refine ql_loadBa tabOk rfl rfl rfl ?_; (iterate 2 refine ql_loadABa tabOk rfl rfl rfl ?_))
  refine ql_callFv rfl rfl rfl (fun w' hs => CaF.of tabOk rfl (ends1_ca w' bS a k c i u (by omega))) ?_
  (refine ql_pure tabOk rfl rfl (ql_ext tabOk rfl rfl rfl (ql_ext tabOk rfl rfl rfl ?_)); (iterate 2 refine ql_setA tabOk rfl rfl rfl rfl rfl (by repeat constructor) rfl ?_); refine q_nil (q_seq (q_region (ql_pure tabOk rfl rfl ?_))); refine ql_loadBa tabOk rfl rfl rfl ?_; (iterate 2 refine ql_loadABa tabOk rfl rfl rfl ?_))
  refine ql_callFv rfl rfl rfl (fun w' hs => CaF.of tabOk rfl (counts1_ca w' lo hi bS a k c L hk hL hn i u hiL (RdE.keep hP hs.chg0))) ?_
  (refine ql_pure tabOk rfl rfl (ql_ext tabOk rfl rfl rfl (ql_ext tabOk rfl rfl rfl (ql_pure tabOk rfl rfl (ql_pure tabOk rfl rfl (q_nil (q_seq (q_seq (q_region (ql_pure tabOk rfl rfl ?_))))))))); refine ql_loadBa tabOk rfl rfl rfl ?_; refine ql_pure tabOk rfl rfl (q_nil ?_))
  cases u
  · (refine q_cond_true rfl (q_seq (q_region ?_)); (iterate 2 refine ql_loadABa tabOk rfl rfl rfl ?_); refine ql_pure tabOk rfl rfl ?_; (iterate 2 refine ql_setA tabOk rfl rfl rfl rfl rfl (by repeat constructor) rfl ?_); refine ql_pure tabOk rfl rfl (q_nil (q_ret ?_)))
    refine q_fin tabOk rfl (by repeat constructor) fun w hs => ?_
    exact ⟨rfl, hs.chg0⟩
  · (refine q_cond_false rfl (q_skip (q_seq ?_)))
    refine q_draw _ [] (Sp.refl _) (by kernel_rfl) (by kernel_rfl) ?_
    ((iterate 2 refine qf_loadABa tabOk rfl rfl rfl ?_); refine qf_pure tabOk rfl rfl rfl ?_)
    refine qf_stSame tabOk rfl rfl rfl rfl rfl (by repeat constructor) ?_
    skip
    refine qf_stSame tabOk rfl rfl rfl rfl rfl (by repeat constructor) ?_
    (refine qf_pure tabOk rfl rfl rfl (qf_nil (q_ret ?_)))
    refine q_fin tabOk rfl (by repeat constructor) fun w hs => ?_
    exact ⟨rfl, hs.chg0⟩
end
theorem leads_ca (w : World) (lo hi bS : Nat) (a : Option Addr) (k c : Nat) (L : List Int) (hk : k = L.length) (hL : L.length ≤ 7) (hn : ∀ n ∈ L, 0 ≤ n ∧ n ≤ 100000) (x : Stp) (hx : x ∈ stL k) (hS : RdI w lo hi (.slice (some ⟨bS, 0, none⟩) 1 1) [300]) (hP : RdS w lo hi (.slice a k c) (spL L)) :
    Ca Tryz.prog 105 [.agg (rcC bS a k c).toArray, .agg (stC x).toArray] w fun v w' => v = .tuple #[.agg (ptC (frmN x)).toArray, .agg (ptC (towN x)).toArray, .int .i64 (cntV L x)] ∧ Chg [] w w' := by
  rcases List.mem_append.1 hx with h | h
  · obtain rfl | rfl : x = (0, 0, true) ∨ x = (0, 0, false) := by simpa using h
    · exact leads0_ca w lo hi bS a k c true hS
    · exact leads0_ca w lo hi bS a k c false hS
  · obtain ⟨i, hi', h⟩ := List.mem_flatMap.1 h
    have hiL : i < L.length := by rw [← hk]; exact List.mem_range.1 hi'
    have e : L.getD i 0 = L[i] := by simp [List.getD_eq_getElem?_getD, hiL]
    obtain rfl | rfl : x = (1, i, true) ∨ x = (1, i, false) := by simpa using h
    · refine (leads1_ca w lo hi bS a k c L hk hL hn i true hiL hP).mono fun v w' ⟨h1, h2⟩ => ⟨h1.trans ?_, h2⟩
      simp [frmN, towN, cntV, ptC, hiL]
      try omega
    · refine (leads1_ca w lo hi bS a k c L hk hL hn i false hiL hP).mono fun v w' ⟨h1, h2⟩ => ⟨h1.trans ?_, h2⟩
      simp [frmN, towN, cntV, ptC, hiL]
      try omega
/-! The iterator -/
def manL (k : Nat) : List Nat := [1, k, 0, 0]
def kndL (k kd j : Nat) : List Stp := (List.range j).flatMap fun i => [(kd, i, true), (kd, i, false)]
def preL (k : Nat) : Nat → List Stp
  | 0 => []
  | kd + 1 => preL k kd ++ kndL k kd ((manL k).getD kd 0)
theorem preL_all (k : Nat) : preL k 4 = stL k := by simp [preL, manL, kndL, stL]
theorem kndL_succ (k kd j : Nat) : kndL k kd (j + 1) = kndL k kd j ++ [(kd, j, true), (kd, j, false)] := by simp [kndL, List.range_succ]
theorem kndL_split (k kd j m : Nat) (h : j < m) : ∃ suf, kndL k kd m = kndL k kd j ++ (kd, j, true) :: (kd, j, false) :: suf := by
  refine ⟨((List.range' (j + 1) (m - (j + 1)))).flatMap fun i => [(kd, i, true), (kd, i, false)], ?_⟩
  have e : List.range m = List.range j ++ j :: List.range' (j + 1) (m - (j + 1)) := by
    rw [List.range_eq_range', List.range_eq_range', show m = j + (1 + (m - (j + 1))) by omega, List.range'_append_1.symm]
    simp
    rw [show j + (1 + (m - (j + 1))) - (j + 1) = m - (j + 1) by omega, show 1 + (m - (j + 1)) = (m - (j + 1)) + 1 by omega, List.range'_succ]
  unfold kndL
  rw [e, List.flatMap_append, List.flatMap_cons]
  rfl
theorem preL_split (k : Nat) : ∀ (m kd : Nat), kd < m → ∃ suf, preL k m = preL k kd ++ (kndL k kd ((manL k).getD kd 0) ++ suf)
  | 0, kd, h => by omega
  | m + 1, kd, h => by
    by_cases e : kd = m
    · subst e
      exact ⟨[], by simp [preL]⟩
    · obtain ⟨suf, hs⟩ := preL_split k m kd (by omega)
      exact ⟨suf ++ kndL k m ((manL k).getD m 0), by simp [preL, hs]⟩
theorem four_arr : arrB Tryz.prog 198 4 3 1 = true := by kernel_rfl
theorem stepsF_ca (w : World) (cs : List Value) (h4 : cs.length = 4) (bS : Nat) (a : Option Addr) (k c : Nat) (hcs : cs = rcC bS a k c) : Ca Tryz.prog 104 [.agg cs.toArray] w fun v w' => ∃ b : Nat, v = .func (.func 115) #[] #[.pointer (some ⟨b, 0, none⟩)] ∧ Sat w M0 [.pt b (rcC bS a k c) 59] w' := by
  subst hcs
  refine q_of (Sat.nil w M0) Tryz.func104 rfl (by simp [Tryz.ntmps104]) ?_
  (refine q_seq (q_region ?_))
  refine ql_box rfl rfl (fun b1 => ?_)
  (refine ql_pure tabOk rfl rfl (q_nil (q_seq (q_region (ql_pure tabOk rfl rfl (ql_pure tabOk rfl rfl (q_nil (q_ret ?_))))))))
  refine q_fin tabOk rfl (by repeat constructor) fun w hs => ?_
  exact ⟨b1, rfl, hs.sp (by repeat constructor)⟩
set_option maxHeartbeats 2000000 in
theorem steps_it (w : World) (D : Nat → Prop) (b1 bS : Nat) (a : Option Addr) (k c : Nat) (hk : k ≤ 7) {t1 : TypeId} (hb : Blk w b1 (rcC bS a k c) t1) (hD : ¬ D b1) :
    ItOk Tryz.prog 115 [.pointer (some ⟨b1, 0, none⟩)] (fun x : Stp => [.agg (stC x).toArray]) (stL k) w D := by
  intro fv σ L I E s0 hI0 hLD hsat hcb
  have hP1 : ∀ w', ChgP (DL (L s0)) w w' → Blk w' b1 (rcC bS a k c) t1 := fun w' hc => (hc.block b1 hb.lt (fun h => hD (hLD b1 h))).trans hb
  refine q_of (H := [un (L s0)]) (Sat.un1.2 hsat) Tryz.func115 rfl (by simp [Tryz.ntmps115]) ?_
  (refine q_seq (q_region (ql_pure tabOk rfl rfl ?_)); refine ql_loadG tabOk rfl rfl rfl (by assumption) (by rfl) ?_; refine ql_pure tabOk rfl rfl (ql_pure tabOk rfl rfl ?_); refine ql_loadG tabOk rfl rfl rfl (by assumption) (by rfl) ?_; refine ql_pure tabOk rfl rfl (ql_pure tabOk rfl rfl ?_); refine ql_loadG tabOk rfl rfl rfl (by assumption) (by rfl) ?_; refine ql_pure tabOk rfl rfl ?_)
  refine ql_mk #[.int .i64 1, .int .i64 k, .int .i64 0, .int .i64 0] rfl (by kernel_rfl) rfl ?_
  (refine ql_pure tabOk rfl rfl (q_nil (q_block ?_)))
  refine q_loop (σ := Nat × σ) (fun q => q.1 ≤ 4 ∧ I (preL k q.1) q.2) (fun q => 4 - q.1) (fun q => [(0, fv), (1, .pointer (some ⟨b1, 0, none⟩)), (17, .agg #[.int .i64 1, .int .i64 k, .int .i64 0, .int .i64 0]), (18, .int .i64 q.1)])
    (fun q => [un (L q.2)]) (0, s0) ⟨by omega, hI0⟩ ⟨rfl, rfl, rfl, rfl, trivial⟩ (Sp.refl _) ?_
  rintro ⟨kd, s⟩ ⟨hkd, hI⟩ K hK
  simp only at hkd hI
  dsimp only
  (refine q_seq (q_region (ql_pure tabOk rfl rfl (q_nil (q_seq ?_)))))
  refine q_if rfl (fun hc => ?_) (fun hc => ?_)
  · have hkd2 : kd < 4 := by omega
    clear hc
    obtain ⟨m, hm⟩ : ∃ m, m = (manL k).getD kd 0 := ⟨_, rfl⟩
    have hm7 : m ≤ 7 := by
      rw [hm]
      obtain rfl | rfl | rfl | rfl : kd = 0 ∨ kd = 1 ∨ kd = 2 ∨ kd = 3 := by omega
      all_goals simp [manL]
      exact hk
    have hmv : (#[Value.int .i64 1, .int .i64 k, .int .i64 0, .int .i64 0] : Array Value)[(kd : Int).toNat]? = some (.int .i64 m) := by
      rw [hm]
      obtain rfl | rfl | rfl | rfl : kd = 0 ∨ kd = 1 ∨ kd = 2 ∨ kd = 3 := by omega
      all_goals simp [manL]
    obtain ⟨suf, hsuf⟩ := preL_split k 4 kd hkd2
    rw [preL_all, ← hm] at hsuf
    (refine q_skip (q_seq (q_block (q_seq (q_region (ql_pure tabOk rfl rfl ?_))))))
    refine ql_ixA (v := .int .i64 m) tabOk four_arr rfl rfl rfl rfl (by omega) (by omega) hmv ?_
    by_cases h2 : kd = 2
    · skip
      (refine ql_pure tabOk rfl rfl (ql_pure tabOk rfl rfl (q_nil (q_seq (q_region (ql_pure tabOk rfl rfl ?_))))); refine ql_loadG tabOk rfl rfl rfl (by assumption) (by rfl) ?_; refine ql_pure tabOk rfl rfl (ql_pure tabOk rfl rfl (q_nil (q_seq (q_seq (q_region (ql_pure tabOk rfl rfl (ql_eqlT tabOk rfl rfl rfl (by omega) (ql_pure tabOk rfl rfl (ql_gno rfl rfl rfl (ql_gno rfl rfl rfl (ql_pure tabOk rfl rfl ?_))))))))))); refine q_nil (q_cond_true rfl (q_region (ql_pure tabOk rfl rfl (q_nil (q_seq (q_region (ql_pure tabOk rfl rfl (ql_pure tabOk rfl rfl (q_nil (q_block ?_)))))))))))
      refine q_loop (σ := Nat × σ) (fun q => q.1 ≤ 1 ∧ ((q.1 = 0 ∧ I (preL k kd) q.2) ∨ (q.1 = 1 ∧ I (preL k kd ++ kndL k kd m) q.2))) (fun q => 1 - q.1) (fun q => [(0, fv), (1, .pointer (some ⟨b1, 0, none⟩)), (3, .int .i64 kd), (4, .int .i64 m), (17, .agg #[.int .i64 1, .int .i64 k, .int .i64 0, .int .i64 0]), (18, .int .i64 kd), (31, .int .i64 1), (32, .int .i64 q.1)])
        (fun q => [un (L q.2)]) (0, s) ⟨by omega, .inl ⟨rfl, hI⟩⟩ ⟨rfl, rfl, rfl, rfl, rfl, rfl, rfl, rfl, trivial⟩ (Sp.refl _) ?_
      clear hI
      rintro ⟨j, s⟩ ⟨hj, hI⟩ K2 hK2
      simp only at hj hI
      dsimp only
      (refine q_seq (q_region (ql_pure tabOk rfl rfl (q_nil (q_seq ?_)))))
      refine q_if rfl (fun hc => ?_) (fun hc => ?_)
      · have hj0 : j = 0 := by omega
        clear hc
        subst hj0
        have hI0 := (hI.resolve_right (fun h => by omega)).2
        clear hI
        (refine q_skip (q_seq (q_block (q_seq (q_region (ql_pure tabOk rfl rfl (ql_pure tabOk rfl rfl (q_nil (q_seq (q_region (ql_pure tabOk rfl rfl (ql_pure tabOk rfl rfl ?_))))))))))); refine q_nil (q_block ?_))
        refine q_loop (σ := Nat × σ) (fun q => q.1 ≤ m ∧ I (preL k kd ++ kndL k kd q.1) q.2) (fun q => m - q.1) (fun q => [(0, fv), (1, .pointer (some ⟨b1, 0, none⟩)), (3, .int .i64 kd), (4, .int .i64 m), (6, .int .i64 0), (17, .agg #[.int .i64 1, .int .i64 k, .int .i64 0, .int .i64 0]), (18, .int .i64 kd), (31, .int .i64 1), (32, .int .i64 0), (35, .int .i64 m), (36, .int .i64 q.1)])
          (fun q => [un (L q.2)]) (0, s) ⟨by omega, by simpa [kndL] using hI0⟩ ⟨rfl, rfl, rfl, rfl, rfl, rfl, rfl, rfl, rfl, rfl, rfl, trivial⟩ (Sp.refl _) ?_
        clear hI0
        rintro ⟨i, s⟩ ⟨hi, hI⟩ K3 hK3
        simp only at hi hI
        dsimp only
        (refine q_seq (q_region (ql_pure tabOk rfl rfl (q_nil (q_seq ?_)))))
        refine q_if rfl (fun hc => ?_) (fun hc => ?_)
        · have hi2 : i < m := by omega
          clear hc
          obtain ⟨suf2, hsuf2⟩ := kndL_split k kd i m hi2
          have hx1 : stL k = (preL k kd ++ kndL k kd i) ++ (kd, i, true) :: ((kd, i, false) :: (suf2 ++ suf)) := by rw [hsuf, hsuf2]; simp
          have hx2 : stL k = (preL k kd ++ kndL k kd i ++ [(kd, i, true)]) ++ (kd, i, false) :: (suf2 ++ suf) := by rw [hsuf, hsuf2]; simp
          (refine q_skip (q_seq (q_block (q_seq (q_region (ql_pure tabOk rfl rfl (ql_pure tabOk rfl rfl (q_nil (q_seq (q_region ?_))))))))); (iterate 4 refine ql_pure tabOk rfl rfl ?_))
          refine ql_mk #[.int .i64 kd, .int .i64 0, .int .i64 i, .bool true] rfl (by kernel_rfl) rfl ?_
          skip
          refine ql_callF [un (L s)] [] (DL (L s)) rfl rfl rfl (Sp.refl _) (fun b hb => ⟨_, .head _, hb⟩) (yieldF hcb hx1 hI) ?_
          rintro s1 v (⟨rfl, hI1⟩ | ⟨rfl, hE⟩)
          · (refine ql_pure tabOk rfl rfl (ql_pure tabOk rfl rfl (ql_gyes rfl (ql_pure tabOk rfl rfl (ql_gyes rfl (ql_pure tabOk rfl rfl (ql_gyes rfl (ql_pure tabOk rfl rfl (ql_gyes rfl (ql_pure tabOk rfl rfl (ql_gyes rfl ?_)))))))))))
            refine ql_mk #[.int .i64 kd, .int .i64 0, .int .i64 i, .bool false] rfl (by kernel_rfl) rfl ?_
            (refine ql_gyes rfl ?_)
            refine ql_callF [un (L s1)] [] (DL (L s1)) rfl rfl rfl (by repeat constructor) (fun b hb => ⟨_, .head _, hb⟩) (yieldF hcb hx2 hI1) ?_
            rintro s2 v (⟨rfl, hI2⟩ | ⟨rfl, hE⟩)
            · (refine ql_gyes rfl (ql_pure tabOk rfl rfl (ql_pure tabOk rfl rfl (q_nil (q_cond_false rfl (q_skip (q_blk (q_region (ql_ar tabOk rfl rfl rfl rfl (by omega) (by omega) (ql_pure tabOk rfl rfl (q_nil ?_)))))))))))
              refine hK3 (i + 1, s2) _ _ ⟨by simp only; omega, ?_⟩ (by simp only; omega) ⟨rfl, rfl, rfl, rfl, rfl, rfl, rfl, rfl, rfl, rfl, rfl, trivial⟩ (by repeat constructor)
              rw [kndL_succ]
              simpa using hI2
            · (refine ql_gyes rfl (ql_pure tabOk rfl rfl (ql_pure tabOk rfl rfl (q_nil (q_cond_true rfl (q_ret ?_))))))
              refine q_fin tabOk rfl (by repeat constructor) fun w hs => ?_
              exact ⟨s2, .inr hE, Sat.un1.1 (hs.sp (by repeat constructor))⟩
          · (refine ql_pure tabOk rfl rfl (ql_pure tabOk rfl rfl ?_); (iterate 7 refine ql_gno rfl rfl rfl ?_); refine ql_pure tabOk rfl rfl (q_nil (q_cond_true rfl (q_ret ?_))))
            refine q_fin tabOk rfl (by repeat constructor) fun w hs => ?_
            exact ⟨s1, .inr hE, Sat.un1.1 (hs.sp (by repeat constructor))⟩
        · obtain rfl : i = m := by omega
          (refine q_exit _ rfl (q_blk (q_region (ql_ar tabOk rfl rfl rfl rfl (by omega) (by omega) (ql_pure tabOk rfl rfl (q_nil ?_))))))
          exact hK2 (1, s) _ _ ⟨by simp only; omega, .inr ⟨rfl, hI⟩⟩ (by simp only; omega) ⟨rfl, rfl, rfl, rfl, rfl, rfl, rfl, rfl, trivial⟩ (by repeat constructor)
      · have hI0 := (hI.resolve_left (fun h => by omega)).2
        clear hI
        (refine q_exit _ rfl (q_blk (q_region (ql_ar tabOk rfl rfl rfl rfl (by omega) (by omega) (ql_pure tabOk rfl rfl (q_nil ?_))))))
        exact hK (kd + 1, s) _ _ ⟨by simp only; omega, by rw [hm] at hI0; exact hI0⟩ (by simp only; omega) ⟨rfl, rfl, rfl, rfl, trivial⟩ (by repeat constructor)
    · by_cases h3 : kd = 3
      · skip
        (refine ql_pure tabOk rfl rfl (ql_pure tabOk rfl rfl (q_nil (q_seq (q_region (ql_pure tabOk rfl rfl ?_))))); refine ql_loadG tabOk rfl rfl rfl (by assumption) (by rfl) ?_; refine ql_pure tabOk rfl rfl (ql_pure tabOk rfl rfl (q_nil (q_seq (q_seq (q_region (ql_pure tabOk rfl rfl (ql_eqlF tabOk rfl rfl rfl (by omega) (ql_pure tabOk rfl rfl (ql_gyes rfl (ql_pure tabOk rfl rfl (ql_gyes rfl ?_))))))))))); refine ql_eqlT tabOk rfl rfl rfl (by omega) (ql_pure tabOk rfl rfl (q_nil (q_cond_true rfl (q_region (ql_pure tabOk rfl rfl (q_nil (q_seq (q_region (ql_pure tabOk rfl rfl (ql_pure tabOk rfl rfl (q_nil ?_))))))))))); refine q_block ?_)
        refine q_loop (σ := Nat × σ) (fun q => q.1 ≤ 1 ∧ ((q.1 = 0 ∧ I (preL k kd) q.2) ∨ (q.1 = 1 ∧ I (preL k kd ++ kndL k kd m) q.2))) (fun q => 1 - q.1) (fun q => [(0, fv), (1, .pointer (some ⟨b1, 0, none⟩)), (3, .int .i64 kd), (4, .int .i64 m), (17, .agg #[.int .i64 1, .int .i64 k, .int .i64 0, .int .i64 0]), (18, .int .i64 kd), (31, .int .i64 1), (32, .int .i64 q.1)])
          (fun q => [un (L q.2)]) (0, s) ⟨by omega, .inl ⟨rfl, hI⟩⟩ ⟨rfl, rfl, rfl, rfl, rfl, rfl, rfl, rfl, trivial⟩ (Sp.refl _) ?_
        clear hI
        rintro ⟨j, s⟩ ⟨hj, hI⟩ K2 hK2
        simp only at hj hI
        dsimp only
        (refine q_seq (q_region (ql_pure tabOk rfl rfl (q_nil (q_seq ?_)))))
        refine q_if rfl (fun hc => ?_) (fun hc => ?_)
        · have hj0 : j = 0 := by omega
          clear hc
          subst hj0
          have hI0 := (hI.resolve_right (fun h => by omega)).2
          clear hI
          (refine q_skip (q_seq (q_block (q_seq (q_region (ql_pure tabOk rfl rfl (ql_pure tabOk rfl rfl (q_nil (q_seq (q_region (ql_pure tabOk rfl rfl (ql_pure tabOk rfl rfl ?_))))))))))); refine q_nil (q_block ?_))
          refine q_loop (σ := Nat × σ) (fun q => q.1 ≤ m ∧ I (preL k kd ++ kndL k kd q.1) q.2) (fun q => m - q.1) (fun q => [(0, fv), (1, .pointer (some ⟨b1, 0, none⟩)), (3, .int .i64 kd), (4, .int .i64 m), (6, .int .i64 0), (17, .agg #[.int .i64 1, .int .i64 k, .int .i64 0, .int .i64 0]), (18, .int .i64 kd), (31, .int .i64 1), (32, .int .i64 0), (35, .int .i64 m), (36, .int .i64 q.1)])
            (fun q => [un (L q.2)]) (0, s) ⟨by omega, by simpa [kndL] using hI0⟩ ⟨rfl, rfl, rfl, rfl, rfl, rfl, rfl, rfl, rfl, rfl, rfl, trivial⟩ (Sp.refl _) ?_
          clear hI0
          rintro ⟨i, s⟩ ⟨hi, hI⟩ K3 hK3
          simp only at hi hI
          dsimp only
          (refine q_seq (q_region (ql_pure tabOk rfl rfl (q_nil (q_seq ?_)))))
          refine q_if rfl (fun hc => ?_) (fun hc => ?_)
          · have hi2 : i < m := by omega
            clear hc
            obtain ⟨suf2, hsuf2⟩ := kndL_split k kd i m hi2
            have hx1 : stL k = (preL k kd ++ kndL k kd i) ++ (kd, i, true) :: ((kd, i, false) :: (suf2 ++ suf)) := by rw [hsuf, hsuf2]; simp
            have hx2 : stL k = (preL k kd ++ kndL k kd i ++ [(kd, i, true)]) ++ (kd, i, false) :: (suf2 ++ suf) := by rw [hsuf, hsuf2]; simp
            (refine q_skip (q_seq (q_block (q_seq (q_region (ql_pure tabOk rfl rfl (ql_pure tabOk rfl rfl (q_nil (q_seq (q_region ?_))))))))); (iterate 4 refine ql_pure tabOk rfl rfl ?_))
            refine ql_mk #[.int .i64 kd, .int .i64 0, .int .i64 i, .bool true] rfl (by kernel_rfl) rfl ?_
            skip
            refine ql_callF [un (L s)] [] (DL (L s)) rfl rfl rfl (Sp.refl _) (fun b hb => ⟨_, .head _, hb⟩) (yieldF hcb hx1 hI) ?_
            rintro s1 v (⟨rfl, hI1⟩ | ⟨rfl, hE⟩)
            · (refine ql_pure tabOk rfl rfl (ql_pure tabOk rfl rfl (ql_gyes rfl (ql_pure tabOk rfl rfl (ql_gyes rfl (ql_pure tabOk rfl rfl (ql_gyes rfl (ql_pure tabOk rfl rfl (ql_gyes rfl (ql_pure tabOk rfl rfl (ql_gyes rfl ?_)))))))))))
              refine ql_mk #[.int .i64 kd, .int .i64 0, .int .i64 i, .bool false] rfl (by kernel_rfl) rfl ?_
              (refine ql_gyes rfl ?_)
              refine ql_callF [un (L s1)] [] (DL (L s1)) rfl rfl rfl (by repeat constructor) (fun b hb => ⟨_, .head _, hb⟩) (yieldF hcb hx2 hI1) ?_
              rintro s2 v (⟨rfl, hI2⟩ | ⟨rfl, hE⟩)
              · (refine ql_gyes rfl (ql_pure tabOk rfl rfl (ql_pure tabOk rfl rfl (q_nil (q_cond_false rfl (q_skip (q_blk (q_region (ql_ar tabOk rfl rfl rfl rfl (by omega) (by omega) (ql_pure tabOk rfl rfl (q_nil ?_)))))))))))
                refine hK3 (i + 1, s2) _ _ ⟨by simp only; omega, ?_⟩ (by simp only; omega) ⟨rfl, rfl, rfl, rfl, rfl, rfl, rfl, rfl, rfl, rfl, rfl, trivial⟩ (by repeat constructor)
                rw [kndL_succ]
                simpa using hI2
              · (refine ql_gyes rfl (ql_pure tabOk rfl rfl (ql_pure tabOk rfl rfl (q_nil (q_cond_true rfl (q_ret ?_))))))
                refine q_fin tabOk rfl (by repeat constructor) fun w hs => ?_
                exact ⟨s2, .inr hE, Sat.un1.1 (hs.sp (by repeat constructor))⟩
            · (refine ql_pure tabOk rfl rfl (ql_pure tabOk rfl rfl ?_); (iterate 7 refine ql_gno rfl rfl rfl ?_); refine ql_pure tabOk rfl rfl (q_nil (q_cond_true rfl (q_ret ?_))))
              refine q_fin tabOk rfl (by repeat constructor) fun w hs => ?_
              exact ⟨s1, .inr hE, Sat.un1.1 (hs.sp (by repeat constructor))⟩
          · obtain rfl : i = m := by omega
            (refine q_exit _ rfl (q_blk (q_region (ql_ar tabOk rfl rfl rfl rfl (by omega) (by omega) (ql_pure tabOk rfl rfl (q_nil ?_))))))
            exact hK2 (1, s) _ _ ⟨by simp only; omega, .inr ⟨rfl, hI⟩⟩ (by simp only; omega) ⟨rfl, rfl, rfl, rfl, rfl, rfl, rfl, rfl, trivial⟩ (by repeat constructor)
        · have hI0 := (hI.resolve_left (fun h => by omega)).2
          clear hI
          (refine q_exit _ rfl (q_blk (q_region (ql_ar tabOk rfl rfl rfl rfl (by omega) (by omega) (ql_pure tabOk rfl rfl (q_nil ?_))))))
          exact hK (kd + 1, s) _ _ ⟨by simp only; omega, by rw [hm] at hI0; exact hI0⟩ (by simp only; omega) ⟨rfl, rfl, rfl, rfl, trivial⟩ (by repeat constructor)
      · skip
        (refine ql_pure tabOk rfl rfl (ql_pure tabOk rfl rfl (q_nil (q_seq (q_region (ql_pure tabOk rfl rfl ?_))))); refine ql_loadG tabOk rfl rfl rfl (by assumption) (by rfl) ?_; refine ql_pure tabOk rfl rfl (ql_pure tabOk rfl rfl (q_nil (q_seq (q_seq (q_region (ql_pure tabOk rfl rfl (ql_eqlF tabOk rfl rfl rfl (by omega) (ql_pure tabOk rfl rfl (ql_gyes rfl (ql_pure tabOk rfl rfl (ql_gyes rfl ?_))))))))))); refine ql_eqlF tabOk rfl rfl rfl (by omega) (ql_pure tabOk rfl rfl (q_nil (q_cond_false rfl (q_skip (q_seq (q_region (ql_pure tabOk rfl rfl (ql_pure tabOk rfl rfl (q_nil (q_block ?_)))))))))))
        refine q_loop (σ := Nat × σ) (fun q => q.1 ≤ 1 ∧ ((q.1 = 0 ∧ I (preL k kd) q.2) ∨ (q.1 = 1 ∧ I (preL k kd ++ kndL k kd m) q.2))) (fun q => 1 - q.1) (fun q => [(0, fv), (1, .pointer (some ⟨b1, 0, none⟩)), (3, .int .i64 kd), (4, .int .i64 m), (17, .agg #[.int .i64 1, .int .i64 k, .int .i64 0, .int .i64 0]), (18, .int .i64 kd), (31, .int .i64 1), (32, .int .i64 q.1)])
          (fun q => [un (L q.2)]) (0, s) ⟨by omega, .inl ⟨rfl, hI⟩⟩ ⟨rfl, rfl, rfl, rfl, rfl, rfl, rfl, rfl, trivial⟩ (Sp.refl _) ?_
        clear hI
        rintro ⟨j, s⟩ ⟨hj, hI⟩ K2 hK2
        simp only at hj hI
        dsimp only
        (refine q_seq (q_region (ql_pure tabOk rfl rfl (q_nil (q_seq ?_)))))
        refine q_if rfl (fun hc => ?_) (fun hc => ?_)
        · have hj0 : j = 0 := by omega
          clear hc
          subst hj0
          have hI0 := (hI.resolve_right (fun h => by omega)).2
          clear hI
          (refine q_skip (q_seq (q_block (q_seq (q_region (ql_pure tabOk rfl rfl (ql_pure tabOk rfl rfl (q_nil (q_seq (q_region (ql_pure tabOk rfl rfl (ql_pure tabOk rfl rfl ?_))))))))))); refine q_nil (q_block ?_))
          refine q_loop (σ := Nat × σ) (fun q => q.1 ≤ m ∧ I (preL k kd ++ kndL k kd q.1) q.2) (fun q => m - q.1) (fun q => [(0, fv), (1, .pointer (some ⟨b1, 0, none⟩)), (3, .int .i64 kd), (4, .int .i64 m), (6, .int .i64 0), (17, .agg #[.int .i64 1, .int .i64 k, .int .i64 0, .int .i64 0]), (18, .int .i64 kd), (31, .int .i64 1), (32, .int .i64 0), (35, .int .i64 m), (36, .int .i64 q.1)])
            (fun q => [un (L q.2)]) (0, s) ⟨by omega, by simpa [kndL] using hI0⟩ ⟨rfl, rfl, rfl, rfl, rfl, rfl, rfl, rfl, rfl, rfl, rfl, trivial⟩ (Sp.refl _) ?_
          clear hI0
          rintro ⟨i, s⟩ ⟨hi, hI⟩ K3 hK3
          simp only at hi hI
          dsimp only
          (refine q_seq (q_region (ql_pure tabOk rfl rfl (q_nil (q_seq ?_)))))
          refine q_if rfl (fun hc => ?_) (fun hc => ?_)
          · have hi2 : i < m := by omega
            clear hc
            obtain ⟨suf2, hsuf2⟩ := kndL_split k kd i m hi2
            have hx1 : stL k = (preL k kd ++ kndL k kd i) ++ (kd, i, true) :: ((kd, i, false) :: (suf2 ++ suf)) := by rw [hsuf, hsuf2]; simp
            have hx2 : stL k = (preL k kd ++ kndL k kd i ++ [(kd, i, true)]) ++ (kd, i, false) :: (suf2 ++ suf) := by rw [hsuf, hsuf2]; simp
            (refine q_skip (q_seq (q_block (q_seq (q_region (ql_pure tabOk rfl rfl (ql_pure tabOk rfl rfl (q_nil (q_seq (q_region ?_))))))))); (iterate 4 refine ql_pure tabOk rfl rfl ?_))
            refine ql_mk #[.int .i64 kd, .int .i64 0, .int .i64 i, .bool true] rfl (by kernel_rfl) rfl ?_
            skip
            refine ql_callF [un (L s)] [] (DL (L s)) rfl rfl rfl (Sp.refl _) (fun b hb => ⟨_, .head _, hb⟩) (yieldF hcb hx1 hI) ?_
            rintro s1 v (⟨rfl, hI1⟩ | ⟨rfl, hE⟩)
            · (refine ql_pure tabOk rfl rfl (ql_pure tabOk rfl rfl (ql_gyes rfl (ql_pure tabOk rfl rfl (ql_gyes rfl (ql_pure tabOk rfl rfl (ql_gyes rfl (ql_pure tabOk rfl rfl (ql_gyes rfl (ql_pure tabOk rfl rfl (ql_gyes rfl ?_)))))))))))
              refine ql_mk #[.int .i64 kd, .int .i64 0, .int .i64 i, .bool false] rfl (by kernel_rfl) rfl ?_
              (refine ql_gyes rfl ?_)
              refine ql_callF [un (L s1)] [] (DL (L s1)) rfl rfl rfl (by repeat constructor) (fun b hb => ⟨_, .head _, hb⟩) (yieldF hcb hx2 hI1) ?_
              rintro s2 v (⟨rfl, hI2⟩ | ⟨rfl, hE⟩)
              · (refine ql_gyes rfl (ql_pure tabOk rfl rfl (ql_pure tabOk rfl rfl (q_nil (q_cond_false rfl (q_skip (q_blk (q_region (ql_ar tabOk rfl rfl rfl rfl (by omega) (by omega) (ql_pure tabOk rfl rfl (q_nil ?_)))))))))))
                refine hK3 (i + 1, s2) _ _ ⟨by simp only; omega, ?_⟩ (by simp only; omega) ⟨rfl, rfl, rfl, rfl, rfl, rfl, rfl, rfl, rfl, rfl, rfl, trivial⟩ (by repeat constructor)
                rw [kndL_succ]
                simpa using hI2
              · (refine ql_gyes rfl (ql_pure tabOk rfl rfl (ql_pure tabOk rfl rfl (q_nil (q_cond_true rfl (q_ret ?_))))))
                refine q_fin tabOk rfl (by repeat constructor) fun w hs => ?_
                exact ⟨s2, .inr hE, Sat.un1.1 (hs.sp (by repeat constructor))⟩
            · (refine ql_pure tabOk rfl rfl (ql_pure tabOk rfl rfl ?_); (iterate 7 refine ql_gno rfl rfl rfl ?_); refine ql_pure tabOk rfl rfl (q_nil (q_cond_true rfl (q_ret ?_))))
              refine q_fin tabOk rfl (by repeat constructor) fun w hs => ?_
              exact ⟨s1, .inr hE, Sat.un1.1 (hs.sp (by repeat constructor))⟩
          · obtain rfl : i = m := by omega
            (refine q_exit _ rfl (q_blk (q_region (ql_ar tabOk rfl rfl rfl rfl (by omega) (by omega) (ql_pure tabOk rfl rfl (q_nil ?_))))))
            exact hK2 (1, s) _ _ ⟨by simp only; omega, .inr ⟨rfl, hI⟩⟩ (by simp only; omega) ⟨rfl, rfl, rfl, rfl, rfl, rfl, rfl, rfl, trivial⟩ (by repeat constructor)
        · have hI0 := (hI.resolve_left (fun h => by omega)).2
          clear hI
          (refine q_exit _ rfl (q_blk (q_region (ql_ar tabOk rfl rfl rfl rfl (by omega) (by omega) (ql_pure tabOk rfl rfl (q_nil ?_))))))
          exact hK (kd + 1, s) _ _ ⟨by simp only; omega, by rw [hm] at hI0; exact hI0⟩ (by simp only; omega) ⟨rfl, rfl, rfl, rfl, trivial⟩ (by repeat constructor)
  · obtain rfl : kd = 4 := by omega
    rw [preL_all] at hI
    (refine q_exit _ rfl ?_)
    refine q_end tabOk rfl (by repeat constructor) fun w hs => ?_
    exact ⟨s, .inl hI, Sat.un1.1 (hs.sp (Sp.refl _))⟩
end Go.Proofs.YtpknmgafambmbaaGreat

/- Walk: a race at work: its points have numbers, its steps are edges. -/
namespace Go.Proofs.YtpknmgafambmbaaGreat
open Go Go.Eng

abbrev kPt : Value → Prop := keyF [some .i64, some .i64]
theorem pt_key : KeyT Tryz.prog 106 kPt eqV := keyT_flat (by kernel_rfl)
theorem pt_map : Tryz.prog.underlying 137 = some (.map 106 3) := by kernel_rfl
/-- The points that have numbers. -/
def fN : Nat → Value → Option Value
  | 0 => fun _ => none
  | m + 1 => fun x => if eqV x (.agg (ptC m).toArray) then some (.int .i64 (m : Nat)) else fN m x
theorem ptC_two (j : Nat) : ∃ p q : Int, ptC j = [.int .i64 p, .int .i64 q] := by
  unfold ptC
  split
  · exact ⟨_, _, rfl⟩
  · exact ⟨_, _, rfl⟩
theorem ptC_key (j : Nat) : kPt (.agg (ptC j).toArray) := by
  obtain ⟨p, q, h⟩ := ptC_two j
  exact ⟨_, rfl, by rw [h]; rfl⟩
theorem ptC_eq (i j : Nat) : eqV (.agg (ptC i).toArray) (.agg (ptC j).toArray) = decide (i = j) := by
  by_cases h : i = j
  · subst h
    rw [decide_eq_true rfl]
    exact pt_key.refl _ (ptC_key i)
  · rw [decide_eq_false h]
    unfold ptC
    by_cases hi : i = 0 <;> by_cases hj : j = 0
    · omega
    · rw [if_pos hi, if_neg hj]; simp [eqV, eqL]
    · rw [if_neg hi, if_pos hj]; simp [eqV, eqL]
    · rw [if_neg hi, if_neg hj]; simp [eqV, eqL]; omega
theorem fN_get {j : Nat} : ∀ {m : Nat}, j < m → fN m (.agg (ptC j).toArray) = some (.int .i64 j)
  | 0, h => by omega
  | m + 1, h => by
    unfold fN
    rw [ptC_eq]
    by_cases hj : j = m
    · subst hj; simp
    · rw [decide_eq_false hj]
      exact fN_get (by omega)
theorem fN_none {j : Nat} : ∀ {m : Nat}, m ≤ j → fN m (.agg (ptC j).toArray) = none
  | 0, _ => rfl
  | m + 1, h => by
    unfold fN
    rw [ptC_eq, decide_eq_false (by omega)]
    exact fN_none (by omega)
/-- An edge, the edges. -/
abbrev edC (L : List Int) (x : Stp) : List Value := [.int .i64 x.1, .int .i64 0, .int .i64 x.2.1, .bool x.2.2, .int .i64 (frmN x), .int .i64 (towN x), .int .i64 (cntV L x)]
def edsC (L : List Int) (l : List Stp) : List Value := l.flatMap (edC L)
theorem edsC_snoc (L : List Int) (l : List Stp) (x : Stp) : edsC L (l ++ [x]) = edsC L l ++ edC L x := by simp [edsC]
abbrev dsC (bS : Nat) (a : Option Addr) (k c bm : Nat) (ev : Value) : List Value := [.slice (some ⟨bS, 0, none⟩) 1 1, .slice a k c, .slice none 0 0, .slice none 0 0, .map (some bm), ev]
theorem slEd : SlT Tryz.prog 138 162 7 56 (.agg #[.int .i64 0, .int .i64 0, .int .i64 0, .bool false, .int .i64 0, .int .i64 0, .int .i64 0]) := ⟨by kernel_rfl, by kernel_rfl, by kernel_rfl, by decide⟩
theorem pp_arr : arrB Tryz.prog 187 2 106 2 = true := by kernel_rfl
def upC6 (l : List Stp) : Nat := 1 + (l.filter (fun x => x.2.2)).length
theorem stL_len (k : Nat) : (stL k).length = 2 * k + 2 := by
  have h : ((List.range k).flatMap fun i => [((1, i, true) : Stp), (1, i, false)]).length = 2 * k := by
    induction k with
    | zero => rfl
    | succ k ih => rw [List.range_succ, List.flatMap_append, List.length_append, ih]; simp; omega
  unfold stL
  rw [List.length_append, h]
  simp
  omega
theorem upC6_snoc (l : List Stp) (x : Stp) : upC6 (l ++ [x]) = if x.2.2 then upC6 l + 1 else upC6 l := by
  unfold upC6
  rw [List.filter_append, List.length_append]
  cases h : x.2.2 <;> simp [h]
  omega
/-- Where the numbers stand when a step is met. -/
theorem stL_split {k : Nat} (hk : k ≤ 3) {pre post : List Stp} {x : Stp} (h : stL k = pre ++ x :: post) : frmN x < upC6 pre ∧ (x.2.2 = true → towN x = upC6 pre) ∧ (x.2.2 = false → towN x < upC6 pre) ∧ upC6 pre ≤ 5 ∧ pre.length ≤ 7 ∧ x.1 ≤ 1 ∧ x.2.1 ≤ 3 := by
  have hl : pre.length < (stL k).length := by rw [h]; simp
  have hp : pre = (stL k).take pre.length := by rw [h]; simp
  have hx : (stL k)[pre.length]? = some x := by rw [h]; simp
  have h7 := stL_len k
  have h8 : pre.length ≤ 7 := by omega
  generalize pre.length = i at *
  subst hp
  clear h h7
  obtain rfl | rfl | rfl | rfl : k = 0 ∨ k = 1 ∨ k = 2 ∨ k = 3 := by omega
  all_goals
    obtain rfl | rfl | rfl | rfl | rfl | rfl | rfl | rfl : i = 0 ∨ i = 1 ∨ i = 2 ∨ i = 3 ∨ i = 4 ∨ i = 5 ∨ i = 6 ∨ i = 7 := by omega
  all_goals first
    | (exfalso; revert hl; decide)
    | (obtain rfl := Option.some.inj (show some _ = some x from hx); decide)
def tH4_4ba6b13 : OT := .alt (chainT [0, 4, 5, 6, 7, 8] (.nil)) (chainT [7, 0, 4, 5, 6, 8] (.nil))
def tH4_ead6c74 : OT := .alt (chainT [3] (tH4_4ba6b13)) (chainT [7, 3, 0, 4, 5, 6, 8] (.nil))
def tH4_863b9b6 : OT := .alt (chainT [2] (tH4_ead6c74)) (chainT [7, 2, 3, 0, 4, 5, 6, 8] (.nil))
def tH4_65d8bed : OT := .alt (chainT [1] (tH4_ead6c74)) (chainT [7, 1, 3, 0, 4, 5, 6, 8] (.nil))
def tH4_22938bd : OT := .alt (chainT [1, 2, 3, 0, 4, 5, 6, 8] (.nil)) (chainT [2, 1, 3, 0, 4, 5, 6, 8] (.nil))
def tH4_3485794 : OT := .alt (chainT [1] (tH4_863b9b6)) (.alt (chainT [2] (tH4_65d8bed)) (chainT [7] (tH4_22938bd)))
set_option maxHeartbeats 4000000 in
theorem opened_ca (w : World) (lo hi bS : Nat) (a : Option Addr) (k c : Nat) (L : List Int) (hk : k = L.length) (hL : L.length ≤ 3) (hn : ∀ n ∈ L, 0 ≤ n ∧ n ≤ 100000) (hS : RdI w lo hi (.slice (some ⟨bS, 0, none⟩) 1 1) [300]) (hP : RdS w lo hi (.slice a k c) (spL L)) :
    Ca Tryz.prog 79 [.agg (rcC bS a k c).toArray] w fun v w' => ∃ y : Nat × Nat × Option Addr × Nat, v = .pointer (some ⟨y.1, 0, none⟩) ∧ Sat w M0 [.pt y.1 (dsC bS a k c y.2.1 (.slice y.2.2.1 (stL k).length y.2.2.2)) 140, mnP kPt eqV y.2.1 (fN (upC6 (stL k))) (upC6 (stL k)), .ow (.slice y.2.2.1 (stL k).length y.2.2.2) 162 7 (stL k).length (edsC L (stL k))] w' := by
  refine q_ofM (Sat.nil w M0) Tryz.func79 rfl (by simp [Tryz.ntmps79]) ?_
  (refine q_seq (q_region ?_))
  refine ql_box rfl rfl (fun b1 => ?_)
  (refine ql_pure tabOk rfl rfl (q_nil (q_seq ?_)))
  refine q_cut (σ := Nat × Nat × Nat) (fun y => [(1, .pointer (some ⟨b1, 0, none⟩)), (3, .pointer (some ⟨y.2.2, 0, none⟩))]) (fun y => [mnP kPt eqV y.1 (fN 1) 1, .pt y.2.1 (dsC bS a k c y.1 (.slice none 0 0)) 140, .pt y.2.2 [.pointer (some ⟨y.2.1, 0, none⟩)] 101, .pt b1 (rcC bS a k c) 59]) ?_ ?_
  rotate_left
  · intro K2 hK2
    refine q_drawT (tH4_3485794) _ [] (Sp.refl _) (by kernel_rfl) (by kernel_rfl) ?_
    refine qt_alt ?_ (qt_alt ?_ ?_)
    · skip
      refine qt_seg (by repeat (first | exact PickL.nil | (apply PickL.cons; rfl))) fun K1 hK1 => ?_
      skip
      refine qf_makeMapN kPt eqV rfl (fun bm => ?_)
      (refine qf_nil ?_)
      refine hK1 _ _ ?_
      refine qt_alt ?_ ?_
      · skip
        refine qt_seg (by repeat (first | exact PickL.nil | (apply PickL.cons; rfl))) fun K1 hK1 => ?_
        skip
        refine qf_callv (val := .agg #[.int .i64 (-1), .int .i64 0]) tabOk rfl rfl rfl rfl (fun w hs => ?_) ?_; exact zeroP_ca w
        (refine qf_nil ?_)
        refine hK1 _ _ ?_
        refine qt_alt ?_ ?_
        · skip
          refine qt_seg (by repeat (first | exact PickL.nil | (apply PickL.cons; rfl))) fun K1 hK1 => ?_
          skip
          refine qf_insNew (f' := fN 1) pt_key pt_map rfl rfl rfl ⟨_, rfl, rfl⟩ rfl rfl (by repeat constructor) ?_
          (refine qf_nil ?_)
          refine hK1 _ _ ?_
          refine qt_alt ?_ ?_
          · skip
            refine qt_seg (by repeat (first | exact PickL.nil | (apply PickL.cons; rfl))) fun K1 hK1 => ?_
            (refine qf_loadABa tabOk rfl rfl rfl ?_; refine qf_pure tabOk rfl rfl rfl ?_)
            refine qf_mk #[.slice (some ⟨bS, 0, none⟩) 1 1, .slice a k c, .slice none 0 0, .slice none 0 0, .map (some bm), .slice none 0 0] rfl (by kernel_rfl) rfl ?_
            skip
            refine qf_box rfl rfl (fun bd => ?_)
            skip
            refine qf_alloc zero101 rfl (fun b3 => ?_)
            (refine qf_set tabOk rfl rfl rfl rfl (by repeat constructor) ?_; refine qf_nil ?_)
            skip
            skip
            exact hK1 _ _ (qt_nil (hK2 (bm, bd, b3) _ _ ⟨rfl, rfl, trivial⟩ (by repeat constructor)))
          · skip
            refine qt_seg (by repeat (first | exact PickL.nil | (apply PickL.cons; rfl))) fun K1 hK1 => ?_
            skip
            refine qf_alloc zero101 rfl (fun b3 => ?_)
            (refine qf_loadABa tabOk rfl rfl rfl ?_; refine qf_pure tabOk rfl rfl rfl ?_)
            refine qf_mk #[.slice (some ⟨bS, 0, none⟩) 1 1, .slice a k c, .slice none 0 0, .slice none 0 0, .map (some bm), .slice none 0 0] rfl (by kernel_rfl) rfl ?_
            skip
            refine qf_box rfl rfl (fun bd => ?_)
            (refine qf_set tabOk rfl rfl rfl rfl (by repeat constructor) ?_; refine qf_nil ?_)
            skip
            skip
            exact hK1 _ _ (qt_nil (hK2 (bm, bd, b3) _ _ ⟨rfl, rfl, trivial⟩ (by repeat constructor)))
        · skip
          refine qt_seg (by repeat (first | exact PickL.nil | (apply PickL.cons; rfl))) fun K1 hK1 => ?_
          skip
          refine qf_alloc zero101 rfl (fun b3 => ?_)
          skip
          refine qf_insNew (f' := fN 1) pt_key pt_map rfl rfl rfl ⟨_, rfl, rfl⟩ rfl rfl (by repeat constructor) ?_
          (refine qf_loadABa tabOk rfl rfl rfl ?_; refine qf_pure tabOk rfl rfl rfl ?_)
          refine qf_mk #[.slice (some ⟨bS, 0, none⟩) 1 1, .slice a k c, .slice none 0 0, .slice none 0 0, .map (some bm), .slice none 0 0] rfl (by kernel_rfl) rfl ?_
          skip
          refine qf_box rfl rfl (fun bd => ?_)
          (refine qf_set tabOk rfl rfl rfl rfl (by repeat constructor) ?_; refine qf_nil ?_)
          skip
          skip
          exact hK1 _ _ (qt_nil (hK2 (bm, bd, b3) _ _ ⟨rfl, rfl, trivial⟩ (by repeat constructor)))
      · skip
        refine qt_seg (by repeat (first | exact PickL.nil | (apply PickL.cons; rfl))) fun K1 hK1 => ?_
        skip
        refine qf_alloc zero101 rfl (fun b3 => ?_)
        skip
        refine qf_callv (val := .agg #[.int .i64 (-1), .int .i64 0]) tabOk rfl rfl rfl rfl (fun w hs => ?_) ?_; exact zeroP_ca w
        skip
        refine qf_insNew (f' := fN 1) pt_key pt_map rfl rfl rfl ⟨_, rfl, rfl⟩ rfl rfl (by repeat constructor) ?_
        (refine qf_loadABa tabOk rfl rfl rfl ?_; refine qf_pure tabOk rfl rfl rfl ?_)
        refine qf_mk #[.slice (some ⟨bS, 0, none⟩) 1 1, .slice a k c, .slice none 0 0, .slice none 0 0, .map (some bm), .slice none 0 0] rfl (by kernel_rfl) rfl ?_
        skip
        refine qf_box rfl rfl (fun bd => ?_)
        (refine qf_set tabOk rfl rfl rfl rfl (by repeat constructor) ?_; refine qf_nil ?_)
        skip
        skip
        exact hK1 _ _ (qt_nil (hK2 (bm, bd, b3) _ _ ⟨rfl, rfl, trivial⟩ (by repeat constructor)))
    · skip
      refine qt_seg (by repeat (first | exact PickL.nil | (apply PickL.cons; rfl))) fun K1 hK1 => ?_
      skip
      refine qf_callv (val := .agg #[.int .i64 (-1), .int .i64 0]) tabOk rfl rfl rfl rfl (fun w hs => ?_) ?_; exact zeroP_ca w
      (refine qf_nil ?_)
      refine hK1 _ _ ?_
      refine qt_alt ?_ ?_
      · skip
        refine qt_seg (by repeat (first | exact PickL.nil | (apply PickL.cons; rfl))) fun K1 hK1 => ?_
        skip
        refine qf_makeMapN kPt eqV rfl (fun bm => ?_)
        (refine qf_nil ?_)
        refine hK1 _ _ ?_
        refine qt_alt ?_ ?_
        · skip
          refine qt_seg (by repeat (first | exact PickL.nil | (apply PickL.cons; rfl))) fun K1 hK1 => ?_
          skip
          refine qf_insNew (f' := fN 1) pt_key pt_map rfl rfl rfl ⟨_, rfl, rfl⟩ rfl rfl (by repeat constructor) ?_
          (refine qf_nil ?_)
          refine hK1 _ _ ?_
          refine qt_alt ?_ ?_
          · skip
            refine qt_seg (by repeat (first | exact PickL.nil | (apply PickL.cons; rfl))) fun K1 hK1 => ?_
            (refine qf_loadABa tabOk rfl rfl rfl ?_; refine qf_pure tabOk rfl rfl rfl ?_)
            refine qf_mk #[.slice (some ⟨bS, 0, none⟩) 1 1, .slice a k c, .slice none 0 0, .slice none 0 0, .map (some bm), .slice none 0 0] rfl (by kernel_rfl) rfl ?_
            skip
            refine qf_box rfl rfl (fun bd => ?_)
            skip
            refine qf_alloc zero101 rfl (fun b3 => ?_)
            (refine qf_set tabOk rfl rfl rfl rfl (by repeat constructor) ?_; refine qf_nil ?_)
            skip
            skip
            exact hK1 _ _ (qt_nil (hK2 (bm, bd, b3) _ _ ⟨rfl, rfl, trivial⟩ (by repeat constructor)))
          · skip
            refine qt_seg (by repeat (first | exact PickL.nil | (apply PickL.cons; rfl))) fun K1 hK1 => ?_
            skip
            refine qf_alloc zero101 rfl (fun b3 => ?_)
            (refine qf_loadABa tabOk rfl rfl rfl ?_; refine qf_pure tabOk rfl rfl rfl ?_)
            refine qf_mk #[.slice (some ⟨bS, 0, none⟩) 1 1, .slice a k c, .slice none 0 0, .slice none 0 0, .map (some bm), .slice none 0 0] rfl (by kernel_rfl) rfl ?_
            skip
            refine qf_box rfl rfl (fun bd => ?_)
            (refine qf_set tabOk rfl rfl rfl rfl (by repeat constructor) ?_; refine qf_nil ?_)
            skip
            skip
            exact hK1 _ _ (qt_nil (hK2 (bm, bd, b3) _ _ ⟨rfl, rfl, trivial⟩ (by repeat constructor)))
        · skip
          refine qt_seg (by repeat (first | exact PickL.nil | (apply PickL.cons; rfl))) fun K1 hK1 => ?_
          skip
          refine qf_alloc zero101 rfl (fun b3 => ?_)
          skip
          refine qf_insNew (f' := fN 1) pt_key pt_map rfl rfl rfl ⟨_, rfl, rfl⟩ rfl rfl (by repeat constructor) ?_
          (refine qf_loadABa tabOk rfl rfl rfl ?_; refine qf_pure tabOk rfl rfl rfl ?_)
          refine qf_mk #[.slice (some ⟨bS, 0, none⟩) 1 1, .slice a k c, .slice none 0 0, .slice none 0 0, .map (some bm), .slice none 0 0] rfl (by kernel_rfl) rfl ?_
          skip
          refine qf_box rfl rfl (fun bd => ?_)
          (refine qf_set tabOk rfl rfl rfl rfl (by repeat constructor) ?_; refine qf_nil ?_)
          skip
          skip
          exact hK1 _ _ (qt_nil (hK2 (bm, bd, b3) _ _ ⟨rfl, rfl, trivial⟩ (by repeat constructor)))
      · skip
        refine qt_seg (by repeat (first | exact PickL.nil | (apply PickL.cons; rfl))) fun K1 hK1 => ?_
        skip
        refine qf_alloc zero101 rfl (fun b3 => ?_)
        skip
        refine qf_makeMapN kPt eqV rfl (fun bm => ?_)
        skip
        refine qf_insNew (f' := fN 1) pt_key pt_map rfl rfl rfl ⟨_, rfl, rfl⟩ rfl rfl (by repeat constructor) ?_
        (refine qf_loadABa tabOk rfl rfl rfl ?_; refine qf_pure tabOk rfl rfl rfl ?_)
        refine qf_mk #[.slice (some ⟨bS, 0, none⟩) 1 1, .slice a k c, .slice none 0 0, .slice none 0 0, .map (some bm), .slice none 0 0] rfl (by kernel_rfl) rfl ?_
        skip
        refine qf_box rfl rfl (fun bd => ?_)
        (refine qf_set tabOk rfl rfl rfl rfl (by repeat constructor) ?_; refine qf_nil ?_)
        skip
        skip
        exact hK1 _ _ (qt_nil (hK2 (bm, bd, b3) _ _ ⟨rfl, rfl, trivial⟩ (by repeat constructor)))
    · skip
      refine qt_seg (by repeat (first | exact PickL.nil | (apply PickL.cons; rfl))) fun K1 hK1 => ?_
      skip
      refine qf_alloc zero101 rfl (fun b3 => ?_)
      (refine qf_nil ?_)
      refine hK1 _ _ ?_
      refine qt_alt ?_ ?_
      · skip
        refine qt_seg (by repeat (first | exact PickL.nil | (apply PickL.cons; rfl))) fun K1 hK1 => ?_
        skip
        refine qf_makeMapN kPt eqV rfl (fun bm => ?_)
        skip
        refine qf_callv (val := .agg #[.int .i64 (-1), .int .i64 0]) tabOk rfl rfl rfl rfl (fun w hs => ?_) ?_; exact zeroP_ca w
        skip
        refine qf_insNew (f' := fN 1) pt_key pt_map rfl rfl rfl ⟨_, rfl, rfl⟩ rfl rfl (by repeat constructor) ?_
        (refine qf_loadABa tabOk rfl rfl rfl ?_; refine qf_pure tabOk rfl rfl rfl ?_)
        refine qf_mk #[.slice (some ⟨bS, 0, none⟩) 1 1, .slice a k c, .slice none 0 0, .slice none 0 0, .map (some bm), .slice none 0 0] rfl (by kernel_rfl) rfl ?_
        skip
        refine qf_box rfl rfl (fun bd => ?_)
        (refine qf_set tabOk rfl rfl rfl rfl (by repeat constructor) ?_; refine qf_nil ?_)
        skip
        skip
        exact hK1 _ _ (qt_nil (hK2 (bm, bd, b3) _ _ ⟨rfl, rfl, trivial⟩ (by repeat constructor)))
      · skip
        refine qt_seg (by repeat (first | exact PickL.nil | (apply PickL.cons; rfl))) fun K1 hK1 => ?_
        skip
        refine qf_callv (val := .agg #[.int .i64 (-1), .int .i64 0]) tabOk rfl rfl rfl rfl (fun w hs => ?_) ?_; exact zeroP_ca w
        skip
        refine qf_makeMapN kPt eqV rfl (fun bm => ?_)
        skip
        refine qf_insNew (f' := fN 1) pt_key pt_map rfl rfl rfl ⟨_, rfl, rfl⟩ rfl rfl (by repeat constructor) ?_
        (refine qf_loadABa tabOk rfl rfl rfl ?_; refine qf_pure tabOk rfl rfl rfl ?_)
        refine qf_mk #[.slice (some ⟨bS, 0, none⟩) 1 1, .slice a k c, .slice none 0 0, .slice none 0 0, .map (some bm), .slice none 0 0] rfl (by kernel_rfl) rfl ?_
        skip
        refine qf_box rfl rfl (fun bd => ?_)
        (refine qf_set tabOk rfl rfl rfl rfl (by repeat constructor) ?_; refine qf_nil ?_)
        skip
        skip
        exact hK1 _ _ (qt_nil (hK2 (bm, bd, b3) _ _ ⟨rfl, rfl, trivial⟩ (by repeat constructor)))
  rintro ⟨bm, bd, b3⟩
  dsimp only
  (refine q_seq (q_seq (q_region ?_)); refine ql_loadABa tabOk rfl rfl rfl ?_)
  refine ql_call (β := Nat) tabOk [] _ M0 rfl rfl rfl rfl (Sp.refl _) (fun _ h => h.elim) (fun w' hs => stepsF_ca w' _ rfl bS a k c rfl) ?_
  rintro bi _ rfl
  dsimp only [List.cons_append, List.nil_append]
  (refine q_nil (q_block ?_))
  refine q_conv (H' := [.ow (.slice none 0 0) 162 7 0 (edsC L []), .pt bi (rcC bS a k c) 59, mnP kPt eqV bm (fN 1) 1, .pt bd (dsC bS a k c bm (.slice none 0 0)) 140, .pt b3 [.pointer (some ⟨bd, 0, none⟩)] 101, .pt b1 (rcC bS a k c) 59]) (fun w' hs => Sat.ownil hs 162 7) ?_
  refine q_range (fun x : Stp => [.agg (stC x).toArray]) (Nat × (Option Addr × Nat) × List Stp) (stL k) (fun pre s => s.1 = upC6 pre ∧ s.2.2 = pre) (fun _ _ => False)
    (fun s => [mnP kPt eqV bm (fN s.1) s.1, .pt bd (dsC bS a k c bm (.slice s.2.1.1 s.2.2.length s.2.1.2)) 140, .ow (.slice s.2.1.1 s.2.2.length s.2.1.2) 162 7 s.2.2.length (edsC L s.2.2), .pt b3 [.pointer (some ⟨bd, 0, none⟩)] 101, .pt b1 (rcC bS a k c) 59]) [.pt bi (rcC bS a k c) 59] (1, (none, 0), [])
    rfl (by kernel_rfl) rfl (fun _ _ => rfl) ⟨rfl, rfl⟩ (by repeat constructor) ?_ ?_ ?_ (fun _ _ _ h => h.elim)
  · intro w1 D hs hD
    exact steps_it w1 D bi bS a k c (by omega) (hs.blk (b := bi) (by repeat constructor)) (fun h => (hD _ h).1 ⟨.pt bi (rcC bS a k c) _, (by repeat constructor), rfl⟩)
  · rintro pre x post ⟨m, ⟨ea, ec⟩, pl⟩ w1 l rdy bsy K F' hx ⟨hm, hpl⟩ hsat hR hbegin hend hret hexit
    dsimp only at hm hpl hsat hR hbegin hend ⊢
    subst hpl
    obtain ⟨f1, f2, f3, f4, f5, f6, f7⟩ := stL_split (by omega) hx
    have hxm : x ∈ stL k := by rw [hx]; simp
    rw [← hm] at f1 f2 f3 f4
    obtain ⟨p1, p2, hp⟩ := ptC_two (frmN x)
    obtain ⟨q1, q2, hq⟩ := ptC_two (towN x)
    have hkp : kPt (.agg #[.int .i64 p1, .int .i64 p2]) := by have := ptC_key (frmN x); rw [hp] at this; exact this
    have hkq : kPt (.agg #[.int .i64 q1, .int .i64 q2]) := by have := ptC_key (towN x); rw [hq] at this; exact this
    have hfp : ∀ n, frmN x < n → fN n (.agg #[.int .i64 p1, .int .i64 p2]) = some (.int .i64 (frmN x)) := fun n h => by have := fN_get h; rw [hp] at this; exact this
    have hfq : ∀ n, towN x < n → fN n (.agg #[.int .i64 q1, .int .i64 q2]) = some (.int .i64 (towN x)) := fun n h => by have := fN_get h; rw [hq] at this; exact this
    have hfn : ∀ n, n ≤ towN x → fN n (.agg #[.int .i64 q1, .int .i64 q2]) = none := fun n h => by have := fN_none h; rw [hq] at this; exact this
    have hf1 : x.2.2 = true → (fun z => if eqV z (.agg #[.int .i64 q1, .int .i64 q2]) then some (Value.int .i64 m) else fN m z) = fN (m + 1) := fun hu => by
      funext z
      show _ = if eqV z (.agg (ptC m).toArray) then some (Value.int .i64 (m : Nat)) else fN m z
      rw [← f2 hu, hq]
    have hus := upC6_snoc pl x
    rw [← hm] at hus
    (refine q_region ?_)
    refine ql_alloc zero160 rfl (fun b4 => ?_)
    (refine ql_setA tabOk rfl rfl rfl rfl rfl (by repeat constructor) rfl ?_; refine q_nil ?_)
    refine q_conv (H' := rdy :: [.pt b4 (stC x) 160, mnP kPt eqV bm (fN m) m, .pt bd (dsC bS a k c bm (.slice ea pl.length ec)) 140, .ow (.slice ea pl.length ec) 162 7 pl.length (edsC L pl), .pt b3 [.pointer (some ⟨bd, 0, none⟩)] 101, .pt b1 (rcC bS a k c) 59]) (fun w' hs => hs.sp (by repeat constructor)) ?_
    refine hbegin _ _ ?_
    (refine q_block (q_seq (q_region ?_)); (iterate 2 refine ql_loadABa tabOk rfl rfl rfl ?_))
    refine ql_callv (val := .tuple #[.agg #[.int .i64 p1, .int .i64 p2], .agg #[.int .i64 q1, .int .i64 q2], .int .i64 (cntV L x)]) tabOk rfl rfl rfl rfl (fun w hs => ?_) ?_; exact by have := leads_ca w lo hi bS a k c L hk (by omega) hn x hxm (hS.keep (hR w hs.chg).chg0) (RdE.keep hP (hR w hs.chg).chg0); rw [hp, hq] at this; exact this
    (refine ql_pure tabOk rfl rfl ?_; (iterate 3 refine ql_ext tabOk rfl rfl rfl ?_))
    refine ql_alloc zero106 rfl (fun b5 => ?_)
    skip
    refine ql_alloc zero106 rfl (fun b6 => ?_)
    ((iterate 2 refine ql_setA tabOk rfl rfl rfl rfl rfl (by repeat constructor) rfl ?_); refine ql_pure tabOk rfl rfl (q_nil (q_seq (q_seq (q_region ?_)))); (iterate 2 refine ql_loadABa tabOk rfl rfl rfl ?_))
    refine ql_mk #[.int .i64 p1, .int .i64 p2, .int .i64 q1, .int .i64 q2] rfl (by kernel_rfl) rfl ?_
    (refine ql_pure tabOk rfl rfl (q_nil (q_block ?_)))
    refine q_loop (σ := Nat × Nat) (fun q => (q.1 ≤ 1 ∧ q.2 = m) ∨ (q.1 = 2 ∧ q.2 = upC6 (pl ++ [x]))) (fun q => 2 - q.1) (fun q => [(1, .pointer (some ⟨b1, 0, none⟩)), (3, .pointer (some ⟨b3, 0, none⟩)), (4, .pointer (some ⟨b4, 0, none⟩)), (5, .pointer (some ⟨b5, 0, none⟩)), (6, .pointer (some ⟨b6, 0, none⟩)), (7, .int .i64 (cntV L x)), (30, .agg #[.int .i64 p1, .int .i64 p2, .int .i64 q1, .int .i64 q2]), (31, .int .i64 q.1)])
      (fun q => [mnP kPt eqV bm (fN q.2) q.2, .pt bd (dsC bS a k c bm (.slice ea pl.length ec)) 140, .ow (.slice ea pl.length ec) 162 7 pl.length (edsC L pl), .pt b3 [.pointer (some ⟨bd, 0, none⟩)] 101, .pt b1 (rcC bS a k c) 59, .pt b4 (stC x) 160, .pt b5 [.int .i64 p1, .int .i64 p2] 106, .pt b6 [.int .i64 q1, .int .i64 q2] 106, bsy]) (0, m) (.inl ⟨by omega, rfl⟩) ⟨rfl, rfl, rfl, rfl, rfl, rfl, rfl, rfl, trivial⟩ (by repeat constructor) ?_
    rintro ⟨i, mm⟩ hI K4 hK4
    simp only at hI
    dsimp only
    (refine q_seq (q_region (ql_pure tabOk rfl rfl (q_nil (q_seq ?_)))))
    refine q_if rfl (fun hc => ?_) (fun hc => ?_)
    · have hi2 : i < 2 := by omega
      clear hc
      have hI1 := hI.resolve_right (fun h => by omega)
      obtain ⟨_, rfl⟩ := hI1
      clear hI
      obtain rfl | rfl : i = 0 ∨ i = 1 := by omega
      · (refine q_skip (q_seq (q_block (q_seq (q_region ?_)))))
        refine ql_ixG (v := .agg #[.int .i64 p1, .int .i64 p2]) tabOk pp_arr rfl rfl rfl rfl (by omega) (by omega) rfl ?_
        skip
        refine ql_alloc zero106 rfl (fun b9 => ?_)
        (refine ql_setA tabOk rfl rfl rfl rfl rfl (by repeat constructor) rfl ?_; refine q_nil (q_seq ?_))
        refine q_draw _ [] (Sp.refl _) (by kernel_rfl) (by kernel_rfl) ?_
        (refine qf_loadBa tabOk rfl rfl rfl ?_; refine qf_pure tabOk rfl rfl rfl (qf_pure tabOk rfl rfl rfl ?_); refine qf_loadBa tabOk rfl rfl rfl ?_; refine qf_loadABa tabOk rfl rfl rfl ?_)
        refine qf_look2N (v := .int .i64 (frmN x)) (o := true) pt_key pt_map zero3 rfl rfl rfl (fun w' hs => hs.mem (c := mnP kPt eqV bm (fN mm) mm) (by repeat constructor)) hkp (congrArg (fun z : Option Value => z.getD (.int .i64 0)) (hfp _ f1)) (congrArg Option.isSome (hfp _ f1)) ?_
        (refine qf_pure tabOk rfl rfl rfl (qf_ext tabOk rfl rfl rfl (qf_ext tabOk rfl rfl rfl (qf_pure tabOk rfl rfl rfl (qf_pure tabOk rfl rfl rfl (qf_nil (q_seq (q_region (ql_pure tabOk rfl rfl (ql_pure tabOk rfl rfl (q_nil (q_cond_false rfl ?_))))))))))); refine q_skip (q_blk (q_region (ql_ar tabOk rfl rfl rfl rfl (by omega) (by omega) (ql_pure tabOk rfl rfl (q_nil ?_))))))
        exact hK4 (1, mm) _ _ (.inl ⟨by simp only; omega, rfl⟩) (by simp only; omega) ⟨rfl, rfl, rfl, rfl, rfl, rfl, rfl, rfl, trivial⟩ (by repeat constructor)
      · (refine q_skip (q_seq (q_block (q_seq (q_region ?_)))))
        refine ql_ixG (v := .agg #[.int .i64 q1, .int .i64 q2]) tabOk pp_arr rfl rfl rfl rfl (by omega) (by omega) rfl ?_
        skip
        refine ql_alloc zero106 rfl (fun b9 => ?_)
        (refine ql_setA tabOk rfl rfl rfl rfl rfl (by repeat constructor) rfl ?_; refine q_nil (q_seq ?_))
        by_cases hu : x.2.2 = true
        · rw [if_pos hu] at hus
          refine q_draw _ [] (Sp.refl _) (by kernel_rfl) (by kernel_rfl) ?_
          (refine qf_loadBa tabOk rfl rfl rfl ?_; refine qf_pure tabOk rfl rfl rfl (qf_pure tabOk rfl rfl rfl ?_); refine qf_loadBa tabOk rfl rfl rfl ?_; refine qf_loadABa tabOk rfl rfl rfl ?_)
          refine qf_look2N (v := .int .i64 0) (o := false) pt_key pt_map zero3 rfl rfl rfl (fun w' hs => hs.mem (c := mnP kPt eqV bm (fN mm) mm) (by repeat constructor)) hkq (congrArg (fun z : Option Value => z.getD (.int .i64 0)) (hfn _ (by rw [f2 hu]; exact Nat.le_refl _))) (congrArg Option.isSome (hfn _ (by rw [f2 hu]; exact Nat.le_refl _))) ?_
          (refine qf_pure tabOk rfl rfl rfl (qf_ext tabOk rfl rfl rfl (qf_ext tabOk rfl rfl rfl (qf_pure tabOk rfl rfl rfl (qf_pure tabOk rfl rfl rfl (qf_nil (q_seq (q_region (ql_pure tabOk rfl rfl (ql_pure tabOk rfl rfl (q_nil (q_cond_true rfl ?_))))))))))))
          refine q_drawS 10 _ [mnP kPt eqV bm (fN mm) mm] (Sp.cons (by repeat constructor) (Sp.refl _)) (by kernel_rfl) (by kernel_rfl) (by kernel_rfl) fun K1 hK1 => ?_
          (refine qf_loadBa tabOk rfl rfl rfl ?_; refine qf_pure tabOk rfl rfl rfl (qf_pure tabOk rfl rfl rfl ?_); refine qf_loadBa tabOk rfl rfl rfl ?_; refine qf_loadABa tabOk rfl rfl rfl ?_; refine qf_loadBa tabOk rfl rfl rfl ?_; refine qf_pure tabOk rfl rfl rfl (qf_pure tabOk rfl rfl rfl ?_); refine qf_loadBa tabOk rfl rfl rfl ?_)
          refine qf_lenN (m := mm) (f := fN mm) pt_map rfl rfl (fun w' hs => hs.mem (c := mnP kPt eqV bm (fN mm) mm) (by repeat constructor)) ?_
          (refine qf_nil ?_)
          refine hK1 _ _ [mnP kPt eqV bm (fN mm) mm] (Sp.cons (by repeat constructor) (by repeat constructor)) ?_
          skip
          refine qf_updNew (f' := fN (mm + 1)) pt_key pt_map rfl rfl rfl hkq (hfn _ (by rw [f2 hu]; exact Nat.le_refl _)) (hf1 hu) (by repeat constructor) ?_
          (refine qf_nil (q_blk (q_region (ql_ar tabOk rfl rfl rfl rfl (by omega) (by omega) (ql_pure tabOk rfl rfl (q_nil ?_))))))
          exact hK4 (2, mm + 1) _ _ (.inr ⟨rfl, hus.symm⟩) (by simp only; omega) ⟨rfl, rfl, rfl, rfl, rfl, rfl, rfl, rfl, trivial⟩ (by repeat constructor)
        · rw [if_neg hu] at hus
          have hu' : x.2.2 = false := by simpa using hu
          refine q_draw _ [] (Sp.refl _) (by kernel_rfl) (by kernel_rfl) ?_
          (refine qf_loadBa tabOk rfl rfl rfl ?_; refine qf_pure tabOk rfl rfl rfl (qf_pure tabOk rfl rfl rfl ?_); refine qf_loadBa tabOk rfl rfl rfl ?_; refine qf_loadABa tabOk rfl rfl rfl ?_)
          refine qf_look2N (v := .int .i64 (towN x)) (o := true) pt_key pt_map zero3 rfl rfl rfl (fun w' hs => hs.mem (c := mnP kPt eqV bm (fN mm) mm) (by repeat constructor)) hkq (congrArg (fun z : Option Value => z.getD (.int .i64 0)) (hfq _ (f3 hu'))) (congrArg Option.isSome (hfq _ (f3 hu'))) ?_
          (refine qf_pure tabOk rfl rfl rfl (qf_ext tabOk rfl rfl rfl (qf_ext tabOk rfl rfl rfl (qf_pure tabOk rfl rfl rfl (qf_pure tabOk rfl rfl rfl (qf_nil (q_seq (q_region (ql_pure tabOk rfl rfl (ql_pure tabOk rfl rfl (q_nil (q_cond_false rfl ?_))))))))))); refine q_skip (q_blk (q_region (ql_ar tabOk rfl rfl rfl rfl (by omega) (by omega) (ql_pure tabOk rfl rfl (q_nil ?_))))))
          exact hK4 (2, mm) _ _ (.inr ⟨rfl, hus.symm⟩) (by simp only; omega) ⟨rfl, rfl, rfl, rfl, rfl, rfl, rfl, rfl, trivial⟩ (by repeat constructor)
    · obtain ⟨_, hmm⟩ := hI.resolve_left (fun h => by omega)
      clear hI hc hK4
      have g1 : frmN x < mm := by rw [hmm, hus]; split <;> omega
      have g2 : towN x < mm := by
        rw [hmm, hus]
        cases hu : x.2.2
        · exact f3 hu
        · have := f2 hu; simp; omega
      have hkp2 := hfp _ g1
      have hkq2 := hfq _ g2
      (refine q_exit _ rfl ?_)
      refine q_drawB2 [false, true, true, true, true, true, true, true, true, true, true, true, true, true, true, true, true, true, true, true, true, false, false, false, false] [mnP kPt eqV bm (fN mm) mm, .pt bd (dsC bS a k c bm (.slice ea pl.length ec)) 140, .ow (.slice ea pl.length ec) 162 7 pl.length (edsC L pl), .pt b3 [.pointer (some ⟨bd, 0, none⟩)] 101, .pt b1 (rcC bS a k c) 59, .pt b4 (stC x) 160, .pt b5 [.int .i64 p1, .int .i64 p2] 106, .pt b6 [.int .i64 q1, .int .i64 q2] 106, bsy] [] [mnP kPt eqV bm (fN mm) mm, .pt b3 [.pointer (some ⟨bd, 0, none⟩)] 101, .pt b1 (rcC bS a k c) 59, .pt b4 (stC x) 160, .pt b5 [.int .i64 p1, .int .i64 p2] 106, .pt b6 [.int .i64 q1, .int .i64 q2] 106, bsy] [.pt bd (dsC bS a k c bm (.slice ea pl.length ec)) 140, .ow (.slice ea pl.length ec) 162 7 pl.length (edsC L pl)] (by repeat constructor) (by repeat constructor) (by kernel_rfl) (by kernel_rfl) (by kernel_rfl) ?_
      refine qb_F 1 [.pt bd (dsC bS a k c bm (.slice ea pl.length ec)) 140, .ow (.slice ea pl.length ec) 162 7 pl.length (edsC L pl)] rfl rfl (by repeat constructor) fun K2 hK2 => ?_
      (refine qf_loadBa tabOk rfl rfl rfl ?_; refine qf_nil ?_)
      refine hK2 _ _ (qb_T2 20 [] rfl rfl (by repeat constructor) fun K2 hK2 => ?_)
      (refine qf_loadBa tabOk rfl rfl rfl ?_; refine qf_pure tabOk rfl rfl rfl (qf_pure tabOk rfl rfl rfl ?_); refine qf_loadBa tabOk rfl rfl rfl ?_; refine qf_loadABa tabOk rfl rfl rfl ?_; refine qf_loadBa tabOk rfl rfl rfl ?_; refine qf_pure tabOk rfl rfl rfl (qf_pure tabOk rfl rfl rfl ?_); refine qf_loadBa tabOk rfl rfl rfl ?_; refine qf_loadABa tabOk rfl rfl rfl ?_)
      refine qf_lookN (v := .int .i64 (frmN x)) pt_key pt_map zero3 rfl rfl rfl (fun w' hs => hs.mem (c := mnP kPt eqV bm (fN mm) mm) (by repeat constructor)) hkp (congrArg (fun z : Option Value => z.getD (.int .i64 0)) hkp2) ?_
      (refine qf_loadBa tabOk rfl rfl rfl ?_; refine qf_pure tabOk rfl rfl rfl (qf_pure tabOk rfl rfl rfl ?_); refine qf_loadBa tabOk rfl rfl rfl ?_; refine qf_loadABa tabOk rfl rfl rfl ?_)
      refine qf_lookN (v := .int .i64 (towN x)) pt_key pt_map zero3 rfl rfl rfl (fun w' hs => hs.mem (c := mnP kPt eqV bm (fN mm) mm) (by repeat constructor)) hkq (congrArg (fun z : Option Value => z.getD (.int .i64 0)) hkq2) ?_
      (refine qf_pure tabOk rfl rfl rfl ?_)
      refine qf_mk #[.int .i64 x.1, .int .i64 0, .int .i64 x.2.1, .bool x.2.2, .int .i64 (frmN x), .int .i64 (towN x), .int .i64 (cntV L x)] rfl (by kernel_rfl) rfl ?_
      skip
      refine qf_mkS 162 (edC L x) rfl (by kernel_rfl) rfl (fun bn => ?_)
      (refine qf_nil ?_)
      refine hK2 _ _ (qb_F 4 [.pt bn (edC L x) 162, .pt bd (dsC bS a k c bm (.slice ea pl.length ec)) 140, .ow (.slice ea pl.length ec) 162 7 pl.length (edsC L pl)] rfl rfl (by repeat constructor) fun K2 hK2 => ?_)
      refine qf_append (q := 1) (news := edC L x) slEd rfl rfl rfl (fun v' => by repeat constructor) (fun w' hs => ⟨_, _, Blk.rdN (hs.blk (b := bn) (by repeat constructor)) rfl⟩) (by simp [oneV]) (by omega) (by omega) (fun u' => ?_)
      refine qf_fact (fun w hs => hs.slice2 (v := u') (by repeat constructor)) ?_
      rintro ⟨a1, c1, rfl⟩
      (refine qf_pure tabOk rfl rfl rfl (qf_pure tabOk rfl rfl rfl ?_); refine qf_st5 tabOk rfl rfl rfl rfl (by repeat constructor) ?_; refine qf_nil ?_)
      refine hK2 _ _ (qb_nil ?_)
      (refine q_blk ?_)
      refine hend _ _ (mm, (a1, c1), pl ++ [x]) ⟨hmm, rfl⟩ ?_
      dsimp only
      rw [edsC_snoc, show (pl ++ [x]).length = pl.length + 1 by simp]
      repeat constructor
  · rintro D ⟨m, ⟨ea, ec⟩, pl⟩ ⟨hm, hpl⟩
    dsimp only at hm hpl ⊢
    subst hm hpl
    (refine q_blk (q_seq (q_region ?_)); refine ql_loadBa tabOk rfl rfl rfl ?_; refine ql_pure tabOk rfl rfl (q_nil (q_ret ?_)))
    refine q_finMD tabOk (by repeat constructor) rfl (by repeat constructor) fun w hs => ?_
    exact ⟨(bd, bm, ea, ec), rfl, hs.sp (by repeat constructor)⟩
end Go.Proofs.YtpknmgafambmbaaGreat

/- Walks: slices.Repeat of one number, up to five times. -/
namespace Go.Proofs.YtpknmgafambmbaaGreat
open Go Go.Eng

theorem mul64_ca (w : World) (N : Int) (h : N = 3 ∨ N = 4 ∨ N = 5) : Ca Tryz.prog 118 [.int .u64 1, .int .u64 N] w fun v w' => v = .tuple #[.int .u64 0, .int .u64 N] ∧ Chg [] w w' := by
  rcases h with rfl | rfl | rfl
  · skip
    refine q_of (Sat.nil w M0) Tryz.func118 rfl (by simp [Tryz.ntmps118]) ?_
    (refine q_seq (q_region (ql_pure tabOk rfl rfl (ql_pure tabOk rfl rfl (q_nil (q_seq (q_region (ql_pure tabOk rfl rfl ?_))))))))
    refine ql_andC (r := 1) rfl rfl rfl (by decide) ?_
    (refine ql_pure tabOk rfl rfl (q_nil (q_seq (q_region (ql_pure tabOk rfl rfl ?_)))))
    refine ql_shrC (r := 0) rfl rfl rfl (by decide) ?_
    (refine ql_pure tabOk rfl rfl (q_nil (q_seq (q_region (ql_pure tabOk rfl rfl ?_)))))
    refine ql_andC (r := 3) rfl rfl rfl (by decide) ?_
    (refine ql_pure tabOk rfl rfl (q_nil (q_seq (q_region (ql_pure tabOk rfl rfl ?_)))))
    refine ql_shrC (r := 0) rfl rfl rfl (by decide) ?_
    (refine ql_pure tabOk rfl rfl (q_nil (q_seq (q_region ?_))); (iterate 4 refine ql_pure tabOk rfl rfl ?_); refine q_nil (q_seq (q_region ?_)); (iterate 4 refine ql_pure tabOk rfl rfl ?_))
    refine ql_shrC (r := 0) rfl rfl rfl (by decide) ?_
    (refine ql_pure tabOk rfl rfl (ql_pure tabOk rfl rfl (q_nil (q_seq (q_region (ql_pure tabOk rfl rfl ?_))))))
    refine ql_andC (r := 0) rfl rfl rfl (by decide) ?_
    (refine ql_pure tabOk rfl rfl (q_nil (q_seq (q_region (ql_pure tabOk rfl rfl ?_)))))
    refine ql_shrC (r := 0) rfl rfl rfl (by decide) ?_
    (refine ql_pure tabOk rfl rfl (q_nil (q_seq (q_region ?_))); (iterate 6 refine ql_pure tabOk rfl rfl ?_); refine q_nil (q_seq (q_region ?_)); (iterate 6 refine ql_pure tabOk rfl rfl ?_))
    refine ql_shrC (r := 0) rfl rfl rfl (by decide) ?_
    (refine ql_pure tabOk rfl rfl (ql_pure tabOk rfl rfl (q_nil (q_seq (q_region ?_)))); (iterate 4 refine ql_pure tabOk rfl rfl ?_); refine q_nil (q_ret ?_))
    refine q_fin tabOk rfl (by repeat constructor) fun w hs => ?_
    exact ⟨rfl, hs.chg0⟩
  · skip
    refine q_of (Sat.nil w M0) Tryz.func118 rfl (by simp [Tryz.ntmps118]) ?_
    (refine q_seq (q_region (ql_pure tabOk rfl rfl (ql_pure tabOk rfl rfl (q_nil (q_seq (q_region (ql_pure tabOk rfl rfl ?_))))))))
    refine ql_andC (r := 1) rfl rfl rfl (by decide) ?_
    (refine ql_pure tabOk rfl rfl (q_nil (q_seq (q_region (ql_pure tabOk rfl rfl ?_)))))
    refine ql_shrC (r := 0) rfl rfl rfl (by decide) ?_
    (refine ql_pure tabOk rfl rfl (q_nil (q_seq (q_region (ql_pure tabOk rfl rfl ?_)))))
    refine ql_andC (r := 4) rfl rfl rfl (by decide) ?_
    (refine ql_pure tabOk rfl rfl (q_nil (q_seq (q_region (ql_pure tabOk rfl rfl ?_)))))
    refine ql_shrC (r := 0) rfl rfl rfl (by decide) ?_
    (refine ql_pure tabOk rfl rfl (q_nil (q_seq (q_region ?_))); (iterate 4 refine ql_pure tabOk rfl rfl ?_); refine q_nil (q_seq (q_region ?_)); (iterate 4 refine ql_pure tabOk rfl rfl ?_))
    refine ql_shrC (r := 0) rfl rfl rfl (by decide) ?_
    (refine ql_pure tabOk rfl rfl (ql_pure tabOk rfl rfl (q_nil (q_seq (q_region (ql_pure tabOk rfl rfl ?_))))))
    refine ql_andC (r := 0) rfl rfl rfl (by decide) ?_
    (refine ql_pure tabOk rfl rfl (q_nil (q_seq (q_region (ql_pure tabOk rfl rfl ?_)))))
    refine ql_shrC (r := 0) rfl rfl rfl (by decide) ?_
    (refine ql_pure tabOk rfl rfl (q_nil (q_seq (q_region ?_))); (iterate 6 refine ql_pure tabOk rfl rfl ?_); refine q_nil (q_seq (q_region ?_)); (iterate 6 refine ql_pure tabOk rfl rfl ?_))
    refine ql_shrC (r := 0) rfl rfl rfl (by decide) ?_
    (refine ql_pure tabOk rfl rfl (ql_pure tabOk rfl rfl (q_nil (q_seq (q_region ?_)))); (iterate 4 refine ql_pure tabOk rfl rfl ?_); refine q_nil (q_ret ?_))
    refine q_fin tabOk rfl (by repeat constructor) fun w hs => ?_
    exact ⟨rfl, hs.chg0⟩
  · skip
    refine q_of (Sat.nil w M0) Tryz.func118 rfl (by simp [Tryz.ntmps118]) ?_
    (refine q_seq (q_region (ql_pure tabOk rfl rfl (ql_pure tabOk rfl rfl (q_nil (q_seq (q_region (ql_pure tabOk rfl rfl ?_))))))))
    refine ql_andC (r := 1) rfl rfl rfl (by decide) ?_
    (refine ql_pure tabOk rfl rfl (q_nil (q_seq (q_region (ql_pure tabOk rfl rfl ?_)))))
    refine ql_shrC (r := 0) rfl rfl rfl (by decide) ?_
    (refine ql_pure tabOk rfl rfl (q_nil (q_seq (q_region (ql_pure tabOk rfl rfl ?_)))))
    refine ql_andC (r := 5) rfl rfl rfl (by decide) ?_
    (refine ql_pure tabOk rfl rfl (q_nil (q_seq (q_region (ql_pure tabOk rfl rfl ?_)))))
    refine ql_shrC (r := 0) rfl rfl rfl (by decide) ?_
    (refine ql_pure tabOk rfl rfl (q_nil (q_seq (q_region ?_))); (iterate 4 refine ql_pure tabOk rfl rfl ?_); refine q_nil (q_seq (q_region ?_)); (iterate 4 refine ql_pure tabOk rfl rfl ?_))
    refine ql_shrC (r := 0) rfl rfl rfl (by decide) ?_
    (refine ql_pure tabOk rfl rfl (ql_pure tabOk rfl rfl (q_nil (q_seq (q_region (ql_pure tabOk rfl rfl ?_))))))
    refine ql_andC (r := 0) rfl rfl rfl (by decide) ?_
    (refine ql_pure tabOk rfl rfl (q_nil (q_seq (q_region (ql_pure tabOk rfl rfl ?_)))))
    refine ql_shrC (r := 0) rfl rfl rfl (by decide) ?_
    (refine ql_pure tabOk rfl rfl (q_nil (q_seq (q_region ?_))); (iterate 6 refine ql_pure tabOk rfl rfl ?_); refine q_nil (q_seq (q_region ?_)); (iterate 6 refine ql_pure tabOk rfl rfl ?_))
    refine ql_shrC (r := 0) rfl rfl rfl (by decide) ?_
    (refine ql_pure tabOk rfl rfl (ql_pure tabOk rfl rfl (q_nil (q_seq (q_region ?_)))); (iterate 4 refine ql_pure tabOk rfl rfl ?_); refine q_nil (q_ret ?_))
    refine q_fin tabOk rfl (by repeat constructor) fun w hs => ?_
    exact ⟨rfl, hs.chg0⟩
theorem mul_ca (w : World) (N : Int) (h : N = 3 ∨ N = 4 ∨ N = 5) : Ca Tryz.prog 106 [.int .u64 1, .int .u64 N] w fun v w' => v = .tuple #[.int .u64 0, .int .u64 N] ∧ Chg [] w w' := by
  refine q_of (Sat.nil w M0) Tryz.func106 rfl (by simp [Tryz.ntmps106]) ?_
  (refine q_seq (q_region (ql_pure tabOk rfl rfl (ql_pure tabOk rfl rfl (q_nil (q_seq (q_cond_false rfl (q_skip (q_seq (q_region (ql_pure tabOk rfl rfl (ql_pure tabOk rfl rfl ?_))))))))))))
  refine ql_callv (val := .tuple #[.int .u64 0, .int .u64 N]) tabOk rfl rfl rfl rfl (fun w hs => ?_) ?_; exact mul64_ca w N h
  (refine ql_pure tabOk rfl rfl (ql_ext tabOk rfl rfl rfl (ql_ext tabOk rfl rfl rfl (ql_pure tabOk rfl rfl (ql_pure tabOk rfl rfl (q_nil (q_seq (q_region ?_))))))); (iterate 4 refine ql_pure tabOk rfl rfl ?_); refine q_nil (q_ret ?_))
  refine q_fin tabOk rfl (by repeat constructor) fun w hs => ?_
  exact ⟨rfl, hs.chg0⟩
theorem rep_take {cs : List Value} {n l : Nat} {x : Value} (h : cs.take n = List.replicate n x) (hl : l ≤ n) (hn : n + l ≤ cs.length) : (cs.take n ++ cs.take l ++ cs.drop (n + (cs.take l).length)).take (n + l) = List.replicate (n + l) x := by
  have h1 : cs.take l = List.replicate l x := by
    have := congrArg (List.take l) h
    rw [List.take_take, List.take_replicate, Nat.min_eq_left hl] at this
    exact this
  rw [h, h1, List.replicate_append_replicate, List.take_left' (by simp)]
theorem slI_u : Tryz.prog.underlying 46 = some (.slice 3) := by kernel_rfl
theorem int_sz : (Tryz.prog.info? 3).map (·.size) = some 1 := by kernel_rfl
set_option maxHeartbeats 1000000 in
theorem rep_ca (w : World) (b : Nat) (x : Int) (N : Nat) (h : N = 3 ∨ N = 4 ∨ N = 5) {t1 : TypeId} (hb : Blk w b [.int .i64 x] t1) : Ca Tryz.prog 81 [.slice (some ⟨b, 0, none⟩) 1 1, .int .i64 N] w fun v w' => ∃ g : Nat, v = .slice (some ⟨g, 0, none⟩) N N ∧ Sat w M0 [.pt g (ints (List.replicate N x)) 3] w' := by
  refine q_of (Sat.nil w M0) Tryz.func81 rfl (by simp [Tryz.ntmps81]) ?_
  (refine q_seq (q_region (ql_pure tabOk rfl rfl (q_nil (q_seq (q_seq (q_region (ql_pure tabOk rfl rfl (ql_lssF tabOk rfl rfl rfl (by omega) (q_nil (q_cond_false rfl (q_skip ?_))))))))))); refine q_seq (q_region ?_); (iterate 5 refine ql_pure tabOk rfl rfl ?_))
  rw [show IntKind.u64.wrap (N : Int) = N by show (N : Int) % 18446744073709551616 = N; omega]
  refine ql_callv (val := .tuple #[.int .u64 0, .int .u64 N]) tabOk rfl rfl rfl rfl (fun w hs => ?_) ?_; exact mul_ca w N (by omega)
  (refine ql_pure tabOk rfl rfl (ql_ext tabOk rfl rfl rfl (ql_ext tabOk rfl rfl rfl (ql_pure tabOk rfl rfl (ql_pure tabOk rfl rfl (q_nil (q_seq (q_seq (q_region ?_)))))))); (iterate 3 refine ql_pure tabOk rfl rfl ?_); refine ql_gyes rfl (ql_pure tabOk rfl rfl (ql_gyes rfl (ql_pure tabOk rfl rfl (ql_pure tabOk rfl rfl (q_nil ?_))))))
  refine q_if rfl (fun hc => ?_) (fun hc => ?_)
  · exfalso
    omega
  clear hc
  (refine q_skip (q_seq (q_region (ql_pure tabOk rfl rfl (ql_pure tabOk rfl rfl ?_)))))
  rw [show IntKind.i64.wrap (N : Int) = N by simp only [IntKind.wrap, IntKind.signed, IntKind.bits]; simp [Int.bmod]; omega]
  refine ql_makeR (m := N) slI rfl rfl rfl (by omega) (by omega) (by omega) (fun g cs0 hcs0 => ?_)
  rw [Nat.mul_one] at hcs0
  (refine ql_pure tabOk rfl rfl (q_nil (q_seq (q_region (ql_pure tabOk rfl rfl (ql_pure tabOk rfl rfl ?_))))))
  refine ql_copyM (l := 1) (news := [.int .i64 x]) slI_u ⟨_, slI_u⟩ int_sz (cur' := .int .i64 x :: cs0.drop 1) rfl rfl rfl (by show min 1 N = 1; omega) rfl rfl (by repeat constructor) (by omega) (by simp [oneV]) (fun w' hs j y hj => by rw [Nat.zero_add]; exact (Blk.cell (hb.keep hs.chg0) j).trans hj) ?_
  (refine ql_pure tabOk rfl rfl (q_nil (q_seq (q_block ?_))))
  refine q_loop (σ := Nat × List Value) (fun q => 1 ≤ q.1 ∧ q.1 ≤ N ∧ q.2.length = N ∧ q.2.take q.1 = List.replicate q.1 (.int .i64 x)) (fun q => N - q.1) (fun q => [(7, .slice (some ⟨g, 0, none⟩) N N), (8, .int .i64 q.1)]) (fun q => [.pt g q.2 3]) (1, .int .i64 x :: cs0.drop 1) ⟨by omega, by omega, by simp [hcs0]; omega, by simp⟩ ⟨rfl, rfl, trivial⟩ (by repeat constructor) ?_
  rintro ⟨n, cs⟩ ⟨hn1, hn2, hn3, hn4⟩ K hK
  dsimp only at hn1 hn2 hn3 hn4 ⊢
  (refine q_seq (q_seq (q_region ?_)); (iterate 4 refine ql_pure tabOk rfl rfl ?_); refine q_nil ?_)
  refine q_if rfl (fun hc => ?_) (fun hc => ?_)
  · have hn5 : n < N := by omega
    clear hc
    (refine q_skip (q_block ?_))
    refine q_draw _ [.pt g _ _] (Sp.cons (by repeat constructor) (Sp.refl _)) (by kernel_rfl) (by kernel_rfl) ?_
    ((iterate 3 refine qf_pure tabOk rfl rfl rfl ?_))
    refine qf_sliceFrom slI_u int_sz rfl rfl rfl (by omega) (by omega) ?_
    (refine qf_pure tabOk rfl rfl rfl (qf_pure tabOk rfl rfl rfl ?_))
    refine qf_sliceTo slI_u int_sz rfl rfl rfl (by omega) (by omega) ?_
    skip
    rw [if_neg (show ¬ N = ((n : Nat) : Int).toNat by omega), if_neg (show ¬ N = 0 by omega)]
    simp only [Option.map_some, Addr.add_lit, Int.toNat_natCast, Nat.mul_one, Nat.zero_add]
    obtain ⟨l, hl, hl2, hl3⟩ : ∃ l, min n (N - n) = l ∧ l ≤ n ∧ n + l ≤ N := ⟨_, rfl, by omega, by omega⟩
    refine qf_copyM (l := l) (news := cs.take l) (cur' := cs.take n ++ cs.take l ++ cs.drop (n + (cs.take l).length)) slI_u ⟨_, slI_u⟩ int_sz rfl rfl rfl hl (by rw [List.length_take]; omega) rfl (by repeat constructor) (by omega) (fun y hy => ?_) (fun w' hs j y hj => ?_) ?_
    · have h1 : cs.take l = List.replicate l (.int .i64 x) := by
        have := congrArg (List.take l) hn4
        rw [List.take_take, List.take_replicate, Nat.min_eq_left hl2] at this
        exact this
      rw [h1] at hy
      rw [List.eq_of_mem_replicate hy]
      rfl
    · rw [Nat.zero_add]
      refine (Blk.cell (hs.blk (b := g) (by repeat constructor)) j).trans ?_
      rw [List.getElem?_take] at hj
      split at hj
      · exact hj
      · cases hj
    (refine qf_ar tabOk rfl rfl rfl rfl (by omega) (by omega) (qf_pure tabOk rfl rfl rfl (qf_nil (q_blk ?_))))
    refine hK (n + l, cs.take n ++ cs.take l ++ cs.drop (n + (cs.take l).length)) _ _ ⟨by dsimp only; omega, by dsimp only; omega, ?_, rep_take hn4 hl2 (by omega)⟩ (by dsimp only; omega) ⟨rfl, lookI rfl (by dsimp only; omega), trivial⟩ (by repeat constructor)
    dsimp only
    rw [List.length_append, List.length_append, List.length_drop, List.length_take, List.length_take]
    omega
  · obtain rfl : n = N := by omega
    have e : cs = ints (List.replicate n x) := by
      rw [← hn3, List.take_length] at hn4
      rw [hn4, hn3]
      simp [ints]
    subst e
    (refine q_exit _ rfl (q_seq (q_region (ql_pure tabOk rfl rfl (ql_pure tabOk rfl rfl (q_nil (q_ret ?_)))))))
    refine q_fin tabOk rfl (by repeat constructor) fun w hs => ?_
    exact ⟨g, rfl, hs.sp (by repeat constructor)⟩
end Go.Proofs.YtpknmgafambmbaaGreat

/- Walk: how far all points are from one. -/
namespace Go.Proofs.YtpknmgafambmbaaGreat
open Go Go.Eng

abbrev edV (L : List Int) (x : Stp) : Value := .agg #[.int .i64 x.1, .int .i64 0, .int .i64 x.2.1, .bool x.2.2, .int .i64 (frmN x), .int .i64 (towN x), .int .i64 (cntV L x)]
abbrev RdG (w : World) (lo hi : Nat) (v : Value) (L : List Int) (l : List Stp) : Prop := RdE w lo hi v 7 (l.map (edV L))
theorem cells_ed (L : List Int) (l : List Stp) : cellsOf (l.map (edV L)) = edsC L l := by simp [cellsOf, edsC, List.flatMap_map, Value.cells]
theorem RdG.of {w : World} {lo hi : Nat} {v : Value} {L : List Int} {l : List Stp} (h : Rd w lo hi v 7 l.length (edsC L l)) : RdG w lo hi v L l := ⟨by rw [cells_ed, List.length_map]; exact h, fun e he => by obtain ⟨x, _, rfl⟩ := List.mem_map.1 he; rfl⟩
theorem RdG.at {w : World} {lo hi b off len cap : Nat} {L : List Int} {l : List Stp} (h : RdG w lo hi (.slice (some ⟨b, off, none⟩) len cap) L l) (i : Nat) (hi' : i < l.length) (j : Nat) (hj : j < 7) : w.cell? ⟨b, off + i * 7 + j, none⟩ = (edC L l[i])[j]? := by
  have := RdE.cell h i j (by simpa using hi') hj
  rw [this]
  simp [Value.cells]
theorem RdG.outI {w : World} {lo hi : Nat} {v : Value} {L : List Int} {l : List Stp} (h : RdG w lo hi v L l) : ∃ a cap, v = .slice a l.length cap ∧ (0 < l.length → ∃ b off, a = some ⟨b, off, none⟩) := by
  have := RdE.out h
  simpa using this
def edN (L : List Int) (x : Stp) : Int × Int × Int := ((frmN x : Int), (towN x : Int), cntV L x)
theorem far_at {far : List Int} {a : Nat} (h : a < far.length) : far.getD ((a : Int)).toNat 0 = far[a] := by
  rw [Int.toNat_natCast, List.getD_eq_getElem?_getD, List.getElem?_eq_getElem h, Option.getD_some]
theorem rlx_hit {far : List Int} {l : Int} {L : List Int} {x : Stp} (h1 : frmN x < far.length) (h2 : towN x < far.length) (h : far[frmN x] < 1125899906842624 ∧ far[frmN x] + cntV L x < far[towN x]) : rlx (far, l) (edN L x) = (far.set (towN x) (far[frmN x] + cntV L x), (towN x : Int)) := by
  unfold edN
  rw [rlx_yes (far_at h1) (far_at h2) h, Int.toNat_natCast]
theorem rlx_mis {far : List Int} {l : Int} {L : List Int} {x : Stp} (h1 : frmN x < far.length) (h2 : towN x < far.length) (h : ¬ (far[frmN x] < 1125899906842624 ∧ far[frmN x] + cntV L x < far[towN x])) : rlx (far, l) (edN L x) = (far, l) := by
  unfold edN
  exact rlx_no (far_at h1) (far_at h2) h
theorem rlx_bd {far : List Int} {l T : Int} {L : List Int} {x : Stp} {N : Nat} (hN : far.length = N) (h1 : frmN x < N) (h2 : towN x < N) (hc : -10000 ≤ cntV L x ∧ cntV L x ≤ 10000) (hb : ∀ y ∈ far, -T ≤ y ∧ y ≤ 1125899906842624) :
    (rlx (far, l) (edN L x)).1.length = N ∧ ∀ y ∈ (rlx (far, l) (edN L x)).1, -(T + 10000) ≤ y ∧ y ≤ 1125899906842624 := by
  by_cases h : far[frmN x]'(by omega) < 1125899906842624 ∧ far[frmN x]'(by omega) + cntV L x < far[towN x]'(by omega)
  · rw [rlx_hit (by omega) (by omega) h]
    refine ⟨by simpa using hN, fun y hy => ?_⟩
    have a := hb _ (List.getElem_mem (show frmN x < far.length by omega))
    have b := hb _ (List.getElem_mem (show towN x < far.length by omega))
    rcases List.mem_or_eq_of_mem_set hy with hy | rfl
    · have := hb y hy; omega
    · omega
  · rw [rlx_mis (by omega) (by omega) h]
    exact ⟨hN, fun y hy => by have := hb y hy; omega⟩
theorem fold_take {α : Type} (g : List Int × Int → α → List Int × Int) (s : List Int × Int) (E : List α) (i : Nat) (h : i < E.length) : (E.take (i + 1)).foldl g s = g ((E.take i).foldl g s) E[i] := by
  rw [List.take_succ_eq_append_getElem h, List.foldl_append]
  rfl
def tH6_59d5f08 : OT := .alt (chainT [8, 9, 10, 11, 12, 13, 15, 14, 16] (.nil)) (chainT [15, 8, 9, 10, 11, 12, 13, 14, 16] (.nil))
def tH6_2628792 : OT := .alt (chainT [7] (tH6_59d5f08)) (chainT [15, 7, 8, 9, 10, 11, 12, 13, 14, 16] (.nil))
def tH6_5f994cc : OT := .alt (chainT [1, 2, 3, 4, 5, 6] (tH6_59d5f08)) (chainT [15, 1, 2, 3, 4, 5, 6, 8, 9, 10, 11, 12, 13, 14, 16] (.nil))
def tH6_0b56c13 : OT := .alt (chainT [1, 2, 3, 4, 5, 6, 7, 8, 9, 10, 11, 12, 13, 14, 16] (.nil)) (chainT [7, 1, 2, 3, 4, 5, 6, 8, 9, 10, 11, 12, 13, 14, 16] (.nil))
def tH6_e288874 : OT := .alt (chainT [1, 2, 3, 4, 5, 6] (tH6_2628792)) (.alt (chainT [7] (tH6_5f994cc)) (chainT [15] (tH6_0b56c13)))
def tH6_6b6b659 : OT := .alt (chainT [0] (tH6_5f994cc)) (chainT [15, 0, 1, 2, 3, 4, 5, 6, 8, 9, 10, 11, 12, 13, 14, 16] (.nil))
def tH6_5854473 : OT := .alt (chainT [0] (tH6_0b56c13)) (chainT [7, 0, 1, 2, 3, 4, 5, 6, 8, 9, 10, 11, 12, 13, 14, 16] (.nil))
def tH6_8142414 : OT := .alt (chainT [0] (tH6_e288874)) (.alt (chainT [7] (tH6_6b6b659)) (chainT [15] (tH6_5854473)))
set_option maxHeartbeats 8000000 in
theorem spread_ca (w : World) (bd bS : Nat) (a : Option Addr) (k c bm : Nat) (ea : Option Addr) (ec N : Nat) (L : List Int) (l : List Stp) (f : Value → Option Value) (fr : Int) (R : List Int) {td : TypeId} (hd : Blk w bd (dsC bS a k c bm (.slice ea l.length ec)) td) (hm : MapN w bm kPt eqV f N) (lo hi : Nat) (he : RdG w lo hi (.slice ea l.length ec) L l)
    (hN : N = 3 ∨ N = 4 ∨ N = 5) (hl8 : l.length ≤ 8) (hE : ∀ x ∈ l, frmN x < N ∧ towN x < N ∧ -10000 ≤ cntV L x ∧ cntV L x ≤ 10000) (hfr : -1 ≤ fr ∧ fr ≤ 10) (hR : spr (l.map (edN L)) (N + 1) (far0 N fr) = some R) :
    Ca Tryz.prog 58 [.pointer (some ⟨bd, 0, none⟩), .int .i64 fr, .bool false] w fun v w' => ∃ y : Nat × Nat, v = .tuple #[.agg #[.slice (some ⟨y.1, 0, none⟩) N N, .slice (some ⟨y.2, 0, none⟩) N N], .int .i64 0, .bool true] ∧ Sat w M0 [.pt y.1 (ints R) 3] w' := by
  refine q_of (Sat.nil w M0) Tryz.func58 rfl (by simp [Tryz.ntmps58]) ?_
  (refine q_seq (q_region ?_))
  refine ql_alloc zero134 rfl (fun b6 => ?_)
  (refine ql_pure tabOk rfl rfl (ql_pure tabOk rfl rfl (q_nil (q_seq ?_))))
  refine q_cut (σ := Nat × Nat × Nat) (fun y => [(0, .pointer (some ⟨bd, 0, none⟩)), (1, .int .i64 fr), (2, .bool false), (6, .pointer (some ⟨b6, 0, none⟩)), (9, .pointer (some ⟨y.2.2, 0, none⟩))]) (fun y => [.pt y.2.2 [.slice (some ⟨y.1, 0, none⟩) N N, .slice (some ⟨y.2.1, 0, none⟩) N N] 134, .pt y.1 (ints (List.replicate N 1125899906842624)) 3, .pt y.2.1 (ints (List.replicate N (-1))) 3, .pt b6 [.slice none 0 0, .slice none 0 0] 134]) ?_ ?_
  rotate_left
  · intro K2 hK2
    refine q_drawT (tH6_8142414) _ [] (Sp.refl _) (by kernel_rfl) (by kernel_rfl) ?_
    refine qt_alt ?_ (qt_alt ?_ ?_)
    · skip
      refine qt_seg (by repeat (first | exact PickL.nil | (apply PickL.cons; rfl))) fun K1 hK1 => ?_
      skip
      refine qf_mkS 3 [.int .i64 1125899906842624] rfl (by kernel_rfl) rfl (fun c1 => ?_)
      (refine qf_nil ?_)
      refine hK1 _ _ ?_
      refine qt_alt ?_ (qt_alt ?_ ?_)
      · skip
        refine qt_seg (by repeat (first | exact PickL.nil | (apply PickL.cons; rfl))) fun K1 hK1 => ?_
        ((iterate 3 refine qf_pure tabOk rfl rfl rfl ?_); refine qf_loadP tabOk rfl rfl rfl (by assumption) (by rfl) ?_)
        refine qf_lenN (m := N) pt_map rfl rfl (fun w' hs => hm.keep hs.chg0) ?_
        skip
        refine qf_call (β := Nat) tabOk [] _ M0 rfl rfl rfl rfl (Sp.refl _) (fun _ h => h.elim) (fun w' hs => rep_ca w' c1 1125899906842624 N hN (hs.blk (b := c1) (by repeat constructor))) ?_
        rintro g1 _ rfl
        dsimp only [List.cons_append, List.nil_append]
        (refine qf_nil ?_)
        refine hK1 _ _ ?_
        refine qt_alt ?_ ?_
        · skip
          refine qt_seg (by repeat (first | exact PickL.nil | (apply PickL.cons; rfl))) fun K1 hK1 => ?_
          skip
          refine qf_mkS 3 [.int .i64 (-1)] rfl (by kernel_rfl) rfl (fun c2 => ?_)
          (refine qf_nil ?_)
          refine hK1 _ _ ?_
          refine qt_alt ?_ ?_
          · skip
            refine qt_seg (by repeat (first | exact PickL.nil | (apply PickL.cons; rfl))) fun K1 hK1 => ?_
            ((iterate 3 refine qf_pure tabOk rfl rfl rfl ?_); refine qf_loadP tabOk rfl rfl rfl (by assumption) (by rfl) ?_)
            refine qf_lenN (m := N) pt_map rfl rfl (fun w' hs => hm.keep hs.chg0) ?_
            skip
            refine qf_call (β := Nat) tabOk [] _ M0 rfl rfl rfl rfl (Sp.refl _) (fun _ h => h.elim) (fun w' hs => rep_ca w' c2 (-1) N hN (hs.blk (b := c2) (by repeat constructor))) ?_
            rintro g2 _ rfl
            dsimp only [List.cons_append, List.nil_append]
            skip
            refine qf_alloc zero134 rfl (fun b9 => ?_)
            skip
            refine qf_mk #[.slice (some ⟨g1, 0, none⟩) N N, .slice (some ⟨g2, 0, none⟩) N N] rfl (by kernel_rfl) rfl ?_
            (refine qf_setA tabOk rfl rfl rfl rfl rfl (by repeat constructor) rfl ?_; refine qf_nil ?_)
            skip
            exact hK1 _ _ (qt_nil (hK2 (g1, g2, b9) _ _ ⟨rfl, rfl, rfl, rfl, rfl, trivial⟩ (by repeat constructor)))
          · skip
            refine qt_seg (by repeat (first | exact PickL.nil | (apply PickL.cons; rfl))) fun K1 hK1 => ?_
            skip
            refine qf_alloc zero134 rfl (fun b9 => ?_)
            ((iterate 3 refine qf_pure tabOk rfl rfl rfl ?_); refine qf_loadP tabOk rfl rfl rfl (by assumption) (by rfl) ?_)
            refine qf_lenN (m := N) pt_map rfl rfl (fun w' hs => hm.keep hs.chg0) ?_
            skip
            refine qf_call (β := Nat) tabOk [] _ M0 rfl rfl rfl rfl (Sp.refl _) (fun _ h => h.elim) (fun w' hs => rep_ca w' c2 (-1) N hN (hs.blk (b := c2) (by repeat constructor))) ?_
            rintro g2 _ rfl
            dsimp only [List.cons_append, List.nil_append]
            skip
            refine qf_mk #[.slice (some ⟨g1, 0, none⟩) N N, .slice (some ⟨g2, 0, none⟩) N N] rfl (by kernel_rfl) rfl ?_
            (refine qf_setA tabOk rfl rfl rfl rfl rfl (by repeat constructor) rfl ?_; refine qf_nil ?_)
            skip
            exact hK1 _ _ (qt_nil (hK2 (g1, g2, b9) _ _ ⟨rfl, rfl, rfl, rfl, rfl, trivial⟩ (by repeat constructor)))
        · skip
          refine qt_seg (by repeat (first | exact PickL.nil | (apply PickL.cons; rfl))) fun K1 hK1 => ?_
          skip
          refine qf_alloc zero134 rfl (fun b9 => ?_)
          skip
          refine qf_mkS 3 [.int .i64 (-1)] rfl (by kernel_rfl) rfl (fun c2 => ?_)
          ((iterate 3 refine qf_pure tabOk rfl rfl rfl ?_); refine qf_loadP tabOk rfl rfl rfl (by assumption) (by rfl) ?_)
          refine qf_lenN (m := N) pt_map rfl rfl (fun w' hs => hm.keep hs.chg0) ?_
          skip
          refine qf_call (β := Nat) tabOk [] _ M0 rfl rfl rfl rfl (Sp.refl _) (fun _ h => h.elim) (fun w' hs => rep_ca w' c2 (-1) N hN (hs.blk (b := c2) (by repeat constructor))) ?_
          rintro g2 _ rfl
          dsimp only [List.cons_append, List.nil_append]
          skip
          refine qf_mk #[.slice (some ⟨g1, 0, none⟩) N N, .slice (some ⟨g2, 0, none⟩) N N] rfl (by kernel_rfl) rfl ?_
          (refine qf_setA tabOk rfl rfl rfl rfl rfl (by repeat constructor) rfl ?_; refine qf_nil ?_)
          skip
          exact hK1 _ _ (qt_nil (hK2 (g1, g2, b9) _ _ ⟨rfl, rfl, rfl, rfl, rfl, trivial⟩ (by repeat constructor)))
      · skip
        refine qt_seg (by repeat (first | exact PickL.nil | (apply PickL.cons; rfl))) fun K1 hK1 => ?_
        skip
        refine qf_mkS 3 [.int .i64 (-1)] rfl (by kernel_rfl) rfl (fun c2 => ?_)
        (refine qf_nil ?_)
        refine hK1 _ _ ?_
        refine qt_alt ?_ ?_
        · skip
          refine qt_seg (by repeat (first | exact PickL.nil | (apply PickL.cons; rfl))) fun K1 hK1 => ?_
          ((iterate 3 refine qf_pure tabOk rfl rfl rfl ?_); refine qf_loadP tabOk rfl rfl rfl (by assumption) (by rfl) ?_)
          refine qf_lenN (m := N) pt_map rfl rfl (fun w' hs => hm.keep hs.chg0) ?_
          skip
          refine qf_call (β := Nat) tabOk [] _ M0 rfl rfl rfl rfl (Sp.refl _) (fun _ h => h.elim) (fun w' hs => rep_ca w' c1 1125899906842624 N hN (hs.blk (b := c1) (by repeat constructor))) ?_
          rintro g1 _ rfl
          dsimp only [List.cons_append, List.nil_append]
          (refine qf_nil ?_)
          refine hK1 _ _ ?_
          refine qt_alt ?_ ?_
          · skip
            refine qt_seg (by repeat (first | exact PickL.nil | (apply PickL.cons; rfl))) fun K1 hK1 => ?_
            ((iterate 3 refine qf_pure tabOk rfl rfl rfl ?_); refine qf_loadP tabOk rfl rfl rfl (by assumption) (by rfl) ?_)
            refine qf_lenN (m := N) pt_map rfl rfl (fun w' hs => hm.keep hs.chg0) ?_
            skip
            refine qf_call (β := Nat) tabOk [] _ M0 rfl rfl rfl rfl (Sp.refl _) (fun _ h => h.elim) (fun w' hs => rep_ca w' c2 (-1) N hN (hs.blk (b := c2) (by repeat constructor))) ?_
            rintro g2 _ rfl
            dsimp only [List.cons_append, List.nil_append]
            skip
            refine qf_alloc zero134 rfl (fun b9 => ?_)
            skip
            refine qf_mk #[.slice (some ⟨g1, 0, none⟩) N N, .slice (some ⟨g2, 0, none⟩) N N] rfl (by kernel_rfl) rfl ?_
            (refine qf_setA tabOk rfl rfl rfl rfl rfl (by repeat constructor) rfl ?_; refine qf_nil ?_)
            skip
            exact hK1 _ _ (qt_nil (hK2 (g1, g2, b9) _ _ ⟨rfl, rfl, rfl, rfl, rfl, trivial⟩ (by repeat constructor)))
          · skip
            refine qt_seg (by repeat (first | exact PickL.nil | (apply PickL.cons; rfl))) fun K1 hK1 => ?_
            skip
            refine qf_alloc zero134 rfl (fun b9 => ?_)
            ((iterate 3 refine qf_pure tabOk rfl rfl rfl ?_); refine qf_loadP tabOk rfl rfl rfl (by assumption) (by rfl) ?_)
            refine qf_lenN (m := N) pt_map rfl rfl (fun w' hs => hm.keep hs.chg0) ?_
            skip
            refine qf_call (β := Nat) tabOk [] _ M0 rfl rfl rfl rfl (Sp.refl _) (fun _ h => h.elim) (fun w' hs => rep_ca w' c2 (-1) N hN (hs.blk (b := c2) (by repeat constructor))) ?_
            rintro g2 _ rfl
            dsimp only [List.cons_append, List.nil_append]
            skip
            refine qf_mk #[.slice (some ⟨g1, 0, none⟩) N N, .slice (some ⟨g2, 0, none⟩) N N] rfl (by kernel_rfl) rfl ?_
            (refine qf_setA tabOk rfl rfl rfl rfl rfl (by repeat constructor) rfl ?_; refine qf_nil ?_)
            skip
            exact hK1 _ _ (qt_nil (hK2 (g1, g2, b9) _ _ ⟨rfl, rfl, rfl, rfl, rfl, trivial⟩ (by repeat constructor)))
        · skip
          refine qt_seg (by repeat (first | exact PickL.nil | (apply PickL.cons; rfl))) fun K1 hK1 => ?_
          skip
          refine qf_alloc zero134 rfl (fun b9 => ?_)
          ((iterate 3 refine qf_pure tabOk rfl rfl rfl ?_); refine qf_loadP tabOk rfl rfl rfl (by assumption) (by rfl) ?_)
          refine qf_lenN (m := N) pt_map rfl rfl (fun w' hs => hm.keep hs.chg0) ?_
          skip
          refine qf_call (β := Nat) tabOk [] _ M0 rfl rfl rfl rfl (Sp.refl _) (fun _ h => h.elim) (fun w' hs => rep_ca w' c1 1125899906842624 N hN (hs.blk (b := c1) (by repeat constructor))) ?_
          rintro g1 _ rfl
          dsimp only [List.cons_append, List.nil_append]
          ((iterate 3 refine qf_pure tabOk rfl rfl rfl ?_); refine qf_loadP tabOk rfl rfl rfl (by assumption) (by rfl) ?_)
          refine qf_lenN (m := N) pt_map rfl rfl (fun w' hs => hm.keep hs.chg0) ?_
          skip
          refine qf_call (β := Nat) tabOk [] _ M0 rfl rfl rfl rfl (Sp.refl _) (fun _ h => h.elim) (fun w' hs => rep_ca w' c2 (-1) N hN (hs.blk (b := c2) (by repeat constructor))) ?_
          rintro g2 _ rfl
          dsimp only [List.cons_append, List.nil_append]
          skip
          refine qf_mk #[.slice (some ⟨g1, 0, none⟩) N N, .slice (some ⟨g2, 0, none⟩) N N] rfl (by kernel_rfl) rfl ?_
          (refine qf_setA tabOk rfl rfl rfl rfl rfl (by repeat constructor) rfl ?_; refine qf_nil ?_)
          skip
          exact hK1 _ _ (qt_nil (hK2 (g1, g2, b9) _ _ ⟨rfl, rfl, rfl, rfl, rfl, trivial⟩ (by repeat constructor)))
      · skip
        refine qt_seg (by repeat (first | exact PickL.nil | (apply PickL.cons; rfl))) fun K1 hK1 => ?_
        skip
        refine qf_alloc zero134 rfl (fun b9 => ?_)
        (refine qf_nil ?_)
        refine hK1 _ _ ?_
        refine qt_alt ?_ ?_
        · skip
          refine qt_seg (by repeat (first | exact PickL.nil | (apply PickL.cons; rfl))) fun K1 hK1 => ?_
          ((iterate 3 refine qf_pure tabOk rfl rfl rfl ?_); refine qf_loadP tabOk rfl rfl rfl (by assumption) (by rfl) ?_)
          refine qf_lenN (m := N) pt_map rfl rfl (fun w' hs => hm.keep hs.chg0) ?_
          skip
          refine qf_call (β := Nat) tabOk [] _ M0 rfl rfl rfl rfl (Sp.refl _) (fun _ h => h.elim) (fun w' hs => rep_ca w' c1 1125899906842624 N hN (hs.blk (b := c1) (by repeat constructor))) ?_
          rintro g1 _ rfl
          dsimp only [List.cons_append, List.nil_append]
          skip
          refine qf_mkS 3 [.int .i64 (-1)] rfl (by kernel_rfl) rfl (fun c2 => ?_)
          ((iterate 3 refine qf_pure tabOk rfl rfl rfl ?_); refine qf_loadP tabOk rfl rfl rfl (by assumption) (by rfl) ?_)
          refine qf_lenN (m := N) pt_map rfl rfl (fun w' hs => hm.keep hs.chg0) ?_
          skip
          refine qf_call (β := Nat) tabOk [] _ M0 rfl rfl rfl rfl (Sp.refl _) (fun _ h => h.elim) (fun w' hs => rep_ca w' c2 (-1) N hN (hs.blk (b := c2) (by repeat constructor))) ?_
          rintro g2 _ rfl
          dsimp only [List.cons_append, List.nil_append]
          skip
          refine qf_mk #[.slice (some ⟨g1, 0, none⟩) N N, .slice (some ⟨g2, 0, none⟩) N N] rfl (by kernel_rfl) rfl ?_
          (refine qf_setA tabOk rfl rfl rfl rfl rfl (by repeat constructor) rfl ?_; refine qf_nil ?_)
          skip
          exact hK1 _ _ (qt_nil (hK2 (g1, g2, b9) _ _ ⟨rfl, rfl, rfl, rfl, rfl, trivial⟩ (by repeat constructor)))
        · skip
          refine qt_seg (by repeat (first | exact PickL.nil | (apply PickL.cons; rfl))) fun K1 hK1 => ?_
          skip
          refine qf_mkS 3 [.int .i64 (-1)] rfl (by kernel_rfl) rfl (fun c2 => ?_)
          ((iterate 3 refine qf_pure tabOk rfl rfl rfl ?_); refine qf_loadP tabOk rfl rfl rfl (by assumption) (by rfl) ?_)
          refine qf_lenN (m := N) pt_map rfl rfl (fun w' hs => hm.keep hs.chg0) ?_
          skip
          refine qf_call (β := Nat) tabOk [] _ M0 rfl rfl rfl rfl (Sp.refl _) (fun _ h => h.elim) (fun w' hs => rep_ca w' c1 1125899906842624 N hN (hs.blk (b := c1) (by repeat constructor))) ?_
          rintro g1 _ rfl
          dsimp only [List.cons_append, List.nil_append]
          ((iterate 3 refine qf_pure tabOk rfl rfl rfl ?_); refine qf_loadP tabOk rfl rfl rfl (by assumption) (by rfl) ?_)
          refine qf_lenN (m := N) pt_map rfl rfl (fun w' hs => hm.keep hs.chg0) ?_
          skip
          refine qf_call (β := Nat) tabOk [] _ M0 rfl rfl rfl rfl (Sp.refl _) (fun _ h => h.elim) (fun w' hs => rep_ca w' c2 (-1) N hN (hs.blk (b := c2) (by repeat constructor))) ?_
          rintro g2 _ rfl
          dsimp only [List.cons_append, List.nil_append]
          skip
          refine qf_mk #[.slice (some ⟨g1, 0, none⟩) N N, .slice (some ⟨g2, 0, none⟩) N N] rfl (by kernel_rfl) rfl ?_
          (refine qf_setA tabOk rfl rfl rfl rfl rfl (by repeat constructor) rfl ?_; refine qf_nil ?_)
          skip
          exact hK1 _ _ (qt_nil (hK2 (g1, g2, b9) _ _ ⟨rfl, rfl, rfl, rfl, rfl, trivial⟩ (by repeat constructor)))
    · skip
      refine qt_seg (by repeat (first | exact PickL.nil | (apply PickL.cons; rfl))) fun K1 hK1 => ?_
      skip
      refine qf_mkS 3 [.int .i64 (-1)] rfl (by kernel_rfl) rfl (fun c2 => ?_)
      (refine qf_nil ?_)
      refine hK1 _ _ ?_
      refine qt_alt ?_ ?_
      · skip
        refine qt_seg (by repeat (first | exact PickL.nil | (apply PickL.cons; rfl))) fun K1 hK1 => ?_
        skip
        refine qf_mkS 3 [.int .i64 1125899906842624] rfl (by kernel_rfl) rfl (fun c1 => ?_)
        (refine qf_nil ?_)
        refine hK1 _ _ ?_
        refine qt_alt ?_ ?_
        · skip
          refine qt_seg (by repeat (first | exact PickL.nil | (apply PickL.cons; rfl))) fun K1 hK1 => ?_
          ((iterate 3 refine qf_pure tabOk rfl rfl rfl ?_); refine qf_loadP tabOk rfl rfl rfl (by assumption) (by rfl) ?_)
          refine qf_lenN (m := N) pt_map rfl rfl (fun w' hs => hm.keep hs.chg0) ?_
          skip
          refine qf_call (β := Nat) tabOk [] _ M0 rfl rfl rfl rfl (Sp.refl _) (fun _ h => h.elim) (fun w' hs => rep_ca w' c1 1125899906842624 N hN (hs.blk (b := c1) (by repeat constructor))) ?_
          rintro g1 _ rfl
          dsimp only [List.cons_append, List.nil_append]
          (refine qf_nil ?_)
          refine hK1 _ _ ?_
          refine qt_alt ?_ ?_
          · skip
            refine qt_seg (by repeat (first | exact PickL.nil | (apply PickL.cons; rfl))) fun K1 hK1 => ?_
            ((iterate 3 refine qf_pure tabOk rfl rfl rfl ?_); refine qf_loadP tabOk rfl rfl rfl (by assumption) (by rfl) ?_)
            refine qf_lenN (m := N) pt_map rfl rfl (fun w' hs => hm.keep hs.chg0) ?_
            skip
            refine qf_call (β := Nat) tabOk [] _ M0 rfl rfl rfl rfl (Sp.refl _) (fun _ h => h.elim) (fun w' hs => rep_ca w' c2 (-1) N hN (hs.blk (b := c2) (by repeat constructor))) ?_
            rintro g2 _ rfl
            dsimp only [List.cons_append, List.nil_append]
            skip
            refine qf_alloc zero134 rfl (fun b9 => ?_)
            skip
            refine qf_mk #[.slice (some ⟨g1, 0, none⟩) N N, .slice (some ⟨g2, 0, none⟩) N N] rfl (by kernel_rfl) rfl ?_
            (refine qf_setA tabOk rfl rfl rfl rfl rfl (by repeat constructor) rfl ?_; refine qf_nil ?_)
            skip
            exact hK1 _ _ (qt_nil (hK2 (g1, g2, b9) _ _ ⟨rfl, rfl, rfl, rfl, rfl, trivial⟩ (by repeat constructor)))
          · skip
            refine qt_seg (by repeat (first | exact PickL.nil | (apply PickL.cons; rfl))) fun K1 hK1 => ?_
            skip
            refine qf_alloc zero134 rfl (fun b9 => ?_)
            ((iterate 3 refine qf_pure tabOk rfl rfl rfl ?_); refine qf_loadP tabOk rfl rfl rfl (by assumption) (by rfl) ?_)
            refine qf_lenN (m := N) pt_map rfl rfl (fun w' hs => hm.keep hs.chg0) ?_
            skip
            refine qf_call (β := Nat) tabOk [] _ M0 rfl rfl rfl rfl (Sp.refl _) (fun _ h => h.elim) (fun w' hs => rep_ca w' c2 (-1) N hN (hs.blk (b := c2) (by repeat constructor))) ?_
            rintro g2 _ rfl
            dsimp only [List.cons_append, List.nil_append]
            skip
            refine qf_mk #[.slice (some ⟨g1, 0, none⟩) N N, .slice (some ⟨g2, 0, none⟩) N N] rfl (by kernel_rfl) rfl ?_
            (refine qf_setA tabOk rfl rfl rfl rfl rfl (by repeat constructor) rfl ?_; refine qf_nil ?_)
            skip
            exact hK1 _ _ (qt_nil (hK2 (g1, g2, b9) _ _ ⟨rfl, rfl, rfl, rfl, rfl, trivial⟩ (by repeat constructor)))
        · skip
          refine qt_seg (by repeat (first | exact PickL.nil | (apply PickL.cons; rfl))) fun K1 hK1 => ?_
          skip
          refine qf_alloc zero134 rfl (fun b9 => ?_)
          ((iterate 3 refine qf_pure tabOk rfl rfl rfl ?_); refine qf_loadP tabOk rfl rfl rfl (by assumption) (by rfl) ?_)
          refine qf_lenN (m := N) pt_map rfl rfl (fun w' hs => hm.keep hs.chg0) ?_
          skip
          refine qf_call (β := Nat) tabOk [] _ M0 rfl rfl rfl rfl (Sp.refl _) (fun _ h => h.elim) (fun w' hs => rep_ca w' c1 1125899906842624 N hN (hs.blk (b := c1) (by repeat constructor))) ?_
          rintro g1 _ rfl
          dsimp only [List.cons_append, List.nil_append]
          ((iterate 3 refine qf_pure tabOk rfl rfl rfl ?_); refine qf_loadP tabOk rfl rfl rfl (by assumption) (by rfl) ?_)
          refine qf_lenN (m := N) pt_map rfl rfl (fun w' hs => hm.keep hs.chg0) ?_
          skip
          refine qf_call (β := Nat) tabOk [] _ M0 rfl rfl rfl rfl (Sp.refl _) (fun _ h => h.elim) (fun w' hs => rep_ca w' c2 (-1) N hN (hs.blk (b := c2) (by repeat constructor))) ?_
          rintro g2 _ rfl
          dsimp only [List.cons_append, List.nil_append]
          skip
          refine qf_mk #[.slice (some ⟨g1, 0, none⟩) N N, .slice (some ⟨g2, 0, none⟩) N N] rfl (by kernel_rfl) rfl ?_
          (refine qf_setA tabOk rfl rfl rfl rfl rfl (by repeat constructor) rfl ?_; refine qf_nil ?_)
          skip
          exact hK1 _ _ (qt_nil (hK2 (g1, g2, b9) _ _ ⟨rfl, rfl, rfl, rfl, rfl, trivial⟩ (by repeat constructor)))
      · skip
        refine qt_seg (by repeat (first | exact PickL.nil | (apply PickL.cons; rfl))) fun K1 hK1 => ?_
        skip
        refine qf_alloc zero134 rfl (fun b9 => ?_)
        skip
        refine qf_mkS 3 [.int .i64 1125899906842624] rfl (by kernel_rfl) rfl (fun c1 => ?_)
        ((iterate 3 refine qf_pure tabOk rfl rfl rfl ?_); refine qf_loadP tabOk rfl rfl rfl (by assumption) (by rfl) ?_)
        refine qf_lenN (m := N) pt_map rfl rfl (fun w' hs => hm.keep hs.chg0) ?_
        skip
        refine qf_call (β := Nat) tabOk [] _ M0 rfl rfl rfl rfl (Sp.refl _) (fun _ h => h.elim) (fun w' hs => rep_ca w' c1 1125899906842624 N hN (hs.blk (b := c1) (by repeat constructor))) ?_
        rintro g1 _ rfl
        dsimp only [List.cons_append, List.nil_append]
        ((iterate 3 refine qf_pure tabOk rfl rfl rfl ?_); refine qf_loadP tabOk rfl rfl rfl (by assumption) (by rfl) ?_)
        refine qf_lenN (m := N) pt_map rfl rfl (fun w' hs => hm.keep hs.chg0) ?_
        skip
        refine qf_call (β := Nat) tabOk [] _ M0 rfl rfl rfl rfl (Sp.refl _) (fun _ h => h.elim) (fun w' hs => rep_ca w' c2 (-1) N hN (hs.blk (b := c2) (by repeat constructor))) ?_
        rintro g2 _ rfl
        dsimp only [List.cons_append, List.nil_append]
        skip
        refine qf_mk #[.slice (some ⟨g1, 0, none⟩) N N, .slice (some ⟨g2, 0, none⟩) N N] rfl (by kernel_rfl) rfl ?_
        (refine qf_setA tabOk rfl rfl rfl rfl rfl (by repeat constructor) rfl ?_; refine qf_nil ?_)
        skip
        exact hK1 _ _ (qt_nil (hK2 (g1, g2, b9) _ _ ⟨rfl, rfl, rfl, rfl, rfl, trivial⟩ (by repeat constructor)))
    · skip
      refine qt_seg (by repeat (first | exact PickL.nil | (apply PickL.cons; rfl))) fun K1 hK1 => ?_
      skip
      refine qf_alloc zero134 rfl (fun b9 => ?_)
      (refine qf_nil ?_)
      refine hK1 _ _ ?_
      refine qt_alt ?_ ?_
      · skip
        refine qt_seg (by repeat (first | exact PickL.nil | (apply PickL.cons; rfl))) fun K1 hK1 => ?_
        skip
        refine qf_mkS 3 [.int .i64 1125899906842624] rfl (by kernel_rfl) rfl (fun c1 => ?_)
        (refine qf_nil ?_)
        refine hK1 _ _ ?_
        refine qt_alt ?_ ?_
        · skip
          refine qt_seg (by repeat (first | exact PickL.nil | (apply PickL.cons; rfl))) fun K1 hK1 => ?_
          ((iterate 3 refine qf_pure tabOk rfl rfl rfl ?_); refine qf_loadP tabOk rfl rfl rfl (by assumption) (by rfl) ?_)
          refine qf_lenN (m := N) pt_map rfl rfl (fun w' hs => hm.keep hs.chg0) ?_
          skip
          refine qf_call (β := Nat) tabOk [] _ M0 rfl rfl rfl rfl (Sp.refl _) (fun _ h => h.elim) (fun w' hs => rep_ca w' c1 1125899906842624 N hN (hs.blk (b := c1) (by repeat constructor))) ?_
          rintro g1 _ rfl
          dsimp only [List.cons_append, List.nil_append]
          skip
          refine qf_mkS 3 [.int .i64 (-1)] rfl (by kernel_rfl) rfl (fun c2 => ?_)
          ((iterate 3 refine qf_pure tabOk rfl rfl rfl ?_); refine qf_loadP tabOk rfl rfl rfl (by assumption) (by rfl) ?_)
          refine qf_lenN (m := N) pt_map rfl rfl (fun w' hs => hm.keep hs.chg0) ?_
          skip
          refine qf_call (β := Nat) tabOk [] _ M0 rfl rfl rfl rfl (Sp.refl _) (fun _ h => h.elim) (fun w' hs => rep_ca w' c2 (-1) N hN (hs.blk (b := c2) (by repeat constructor))) ?_
          rintro g2 _ rfl
          dsimp only [List.cons_append, List.nil_append]
          skip
          refine qf_mk #[.slice (some ⟨g1, 0, none⟩) N N, .slice (some ⟨g2, 0, none⟩) N N] rfl (by kernel_rfl) rfl ?_
          (refine qf_setA tabOk rfl rfl rfl rfl rfl (by repeat constructor) rfl ?_; refine qf_nil ?_)
          skip
          exact hK1 _ _ (qt_nil (hK2 (g1, g2, b9) _ _ ⟨rfl, rfl, rfl, rfl, rfl, trivial⟩ (by repeat constructor)))
        · skip
          refine qt_seg (by repeat (first | exact PickL.nil | (apply PickL.cons; rfl))) fun K1 hK1 => ?_
          skip
          refine qf_mkS 3 [.int .i64 (-1)] rfl (by kernel_rfl) rfl (fun c2 => ?_)
          ((iterate 3 refine qf_pure tabOk rfl rfl rfl ?_); refine qf_loadP tabOk rfl rfl rfl (by assumption) (by rfl) ?_)
          refine qf_lenN (m := N) pt_map rfl rfl (fun w' hs => hm.keep hs.chg0) ?_
          skip
          refine qf_call (β := Nat) tabOk [] _ M0 rfl rfl rfl rfl (Sp.refl _) (fun _ h => h.elim) (fun w' hs => rep_ca w' c1 1125899906842624 N hN (hs.blk (b := c1) (by repeat constructor))) ?_
          rintro g1 _ rfl
          dsimp only [List.cons_append, List.nil_append]
          ((iterate 3 refine qf_pure tabOk rfl rfl rfl ?_); refine qf_loadP tabOk rfl rfl rfl (by assumption) (by rfl) ?_)
          refine qf_lenN (m := N) pt_map rfl rfl (fun w' hs => hm.keep hs.chg0) ?_
          skip
          refine qf_call (β := Nat) tabOk [] _ M0 rfl rfl rfl rfl (Sp.refl _) (fun _ h => h.elim) (fun w' hs => rep_ca w' c2 (-1) N hN (hs.blk (b := c2) (by repeat constructor))) ?_
          rintro g2 _ rfl
          dsimp only [List.cons_append, List.nil_append]
          skip
          refine qf_mk #[.slice (some ⟨g1, 0, none⟩) N N, .slice (some ⟨g2, 0, none⟩) N N] rfl (by kernel_rfl) rfl ?_
          (refine qf_setA tabOk rfl rfl rfl rfl rfl (by repeat constructor) rfl ?_; refine qf_nil ?_)
          skip
          exact hK1 _ _ (qt_nil (hK2 (g1, g2, b9) _ _ ⟨rfl, rfl, rfl, rfl, rfl, trivial⟩ (by repeat constructor)))
      · skip
        refine qt_seg (by repeat (first | exact PickL.nil | (apply PickL.cons; rfl))) fun K1 hK1 => ?_
        skip
        refine qf_mkS 3 [.int .i64 (-1)] rfl (by kernel_rfl) rfl (fun c2 => ?_)
        skip
        refine qf_mkS 3 [.int .i64 1125899906842624] rfl (by kernel_rfl) rfl (fun c1 => ?_)
        ((iterate 3 refine qf_pure tabOk rfl rfl rfl ?_); refine qf_loadP tabOk rfl rfl rfl (by assumption) (by rfl) ?_)
        refine qf_lenN (m := N) pt_map rfl rfl (fun w' hs => hm.keep hs.chg0) ?_
        skip
        refine qf_call (β := Nat) tabOk [] _ M0 rfl rfl rfl rfl (Sp.refl _) (fun _ h => h.elim) (fun w' hs => rep_ca w' c1 1125899906842624 N hN (hs.blk (b := c1) (by repeat constructor))) ?_
        rintro g1 _ rfl
        dsimp only [List.cons_append, List.nil_append]
        ((iterate 3 refine qf_pure tabOk rfl rfl rfl ?_); refine qf_loadP tabOk rfl rfl rfl (by assumption) (by rfl) ?_)
        refine qf_lenN (m := N) pt_map rfl rfl (fun w' hs => hm.keep hs.chg0) ?_
        skip
        refine qf_call (β := Nat) tabOk [] _ M0 rfl rfl rfl rfl (Sp.refl _) (fun _ h => h.elim) (fun w' hs => rep_ca w' c2 (-1) N hN (hs.blk (b := c2) (by repeat constructor))) ?_
        rintro g2 _ rfl
        dsimp only [List.cons_append, List.nil_append]
        skip
        refine qf_mk #[.slice (some ⟨g1, 0, none⟩) N N, .slice (some ⟨g2, 0, none⟩) N N] rfl (by kernel_rfl) rfl ?_
        (refine qf_setA tabOk rfl rfl rfl rfl rfl (by repeat constructor) rfl ?_; refine qf_nil ?_)
        skip
        exact hK1 _ _ (qt_nil (hK2 (g1, g2, b9) _ _ ⟨rfl, rfl, rfl, rfl, rfl, trivial⟩ (by repeat constructor)))
  rintro ⟨g1, g2, b9⟩
  dsimp only
  (refine q_seq (q_seq (q_region (ql_pure tabOk rfl rfl ?_))); refine ql_loadBa tabOk rfl rfl rfl ?_; refine ql_pure tabOk rfl rfl (ql_pure tabOk rfl rfl (q_nil (q_block ?_))))
  refine q_loop (σ := Nat × List Int) (fun q => q.1 ≤ N ∧ q.2.length = N ∧ ∀ p, p < N → q.2[p]? = some (if p < q.1 ∧ (fr < 0 ∨ (p : Int) = fr) then 0 else 1125899906842624)) (fun q => N - q.1) (fun q => [(0, .pointer (some ⟨bd, 0, none⟩)), (1, .int .i64 fr), (2, .bool false), (6, .pointer (some ⟨b6, 0, none⟩)), (9, .pointer (some ⟨b9, 0, none⟩)), (33, .int .i64 N), (34, .int .i64 q.1)])
    (fun q => [.pt g1 (ints q.2) 3, .pt g2 (ints (List.replicate N (-1))) 3, .pt b9 [.slice (some ⟨g1, 0, none⟩) N N, .slice (some ⟨g2, 0, none⟩) N N] 134, .pt b6 [.slice none 0 0, .slice none 0 0] 134]) (0, List.replicate N 1125899906842624) ⟨by omega, by simp, fun p hp => by simp [hp]⟩ ⟨rfl, rfl, rfl, rfl, rfl, rfl, rfl, trivial⟩ (by repeat constructor) ?_
  rintro ⟨p, fl⟩ ⟨hp, hfl, hF⟩ K hK
  dsimp only at hp hfl hF ⊢
  (refine q_seq (q_region (ql_pure tabOk rfl rfl (q_nil (q_seq ?_)))))
  refine q_if rfl (fun hc => ?_) (fun hc => ?_)
  · have hp2 : p < N := by omega
    clear hc
    have hp3 : p < fl.length := by omega
    have hset : ∀ z : Int, (z = if fr < 0 ∨ (p : Int) = fr then 0 else fl[p]) → ∀ q, q < N → (fl.set p z)[q]? = some (if q < p + 1 ∧ (fr < 0 ∨ (q : Int) = fr) then 0 else 1125899906842624) := fun z hz q hq => by
      rw [List.getElem?_set]
      have h0 := hF q hq
      by_cases e : p = q
      · subst e
        rw [if_pos rfl, if_pos hp3, hz]
        have h1 : fl[p] = 1125899906842624 := by
          rw [List.getElem?_eq_getElem hp3, if_neg (by omega)] at h0
          exact Option.some.inj h0
        rw [h1]
        congr 1
        by_cases hx : fr < 0 ∨ (p : Int) = fr
        · rw [if_pos hx, if_pos ⟨by omega, hx⟩]
        · rw [if_neg hx, if_neg (fun h => hx h.2)]
      · rw [if_neg e, h0]
        congr 1
        by_cases hx : q < p ∧ (fr < 0 ∨ (q : Int) = fr)
        · rw [if_pos hx, if_pos ⟨by omega, hx.2⟩]
        · rw [if_neg hx, if_neg (fun h => hx ⟨by omega, h.2⟩)]
    by_cases h1 : fr < 0
    · (refine q_skip (q_seq (q_block (q_seq (q_region (ql_pure tabOk rfl rfl (ql_pure tabOk rfl rfl (q_nil (q_seq (q_region (ql_pure tabOk rfl rfl (ql_lssT tabOk rfl rfl rfl (by omega) ?_))))))))))); refine ql_pure tabOk rfl rfl ?_; (iterate 3 refine ql_gno rfl rfl rfl ?_); refine ql_pure tabOk rfl rfl (q_nil (q_cond_true rfl (q_region (ql_pure tabOk rfl rfl ?_)))); refine ql_loadBa tabOk rfl rfl rfl ?_; refine ql_pure tabOk rfl rfl ?_)
      refine ql_index tabOk rfl rfl rfl rfl rfl (by omega) (by omega) ?_
      skip
      refine ql_storeI tabOk (p) rfl rfl rfl (by repeat constructor) (by first | rfl | omega | simp) hp3 ?_
      (refine q_nil (q_blk (q_region (ql_ar tabOk rfl rfl rfl rfl (by omega) (by omega) (ql_pure tabOk rfl rfl (q_nil ?_))))))
      exact hK (p + 1, fl.set p 0) _ _ ⟨by dsimp only; omega, by simpa using hfl, hset 0 (by rw [if_pos (.inl h1)])⟩ (by dsimp only; omega) ⟨rfl, rfl, rfl, rfl, rfl, rfl, rfl, trivial⟩ (by repeat constructor)
    · by_cases h2 : (p : Int) = fr
      · (refine q_skip (q_seq (q_block (q_seq (q_region (ql_pure tabOk rfl rfl (ql_pure tabOk rfl rfl (q_nil (q_seq (q_region (ql_pure tabOk rfl rfl (ql_lssF tabOk rfl rfl rfl (by omega) ?_))))))))))); refine ql_pure tabOk rfl rfl (ql_gyes rfl (ql_pure tabOk rfl rfl (ql_gyes rfl (ql_pure tabOk rfl rfl (ql_gyes rfl (ql_eqlT tabOk rfl rfl rfl (by omega) (ql_pure tabOk rfl rfl (q_nil (q_cond_true rfl (q_region (ql_pure tabOk rfl rfl ?_))))))))))); refine ql_loadBa tabOk rfl rfl rfl ?_; refine ql_pure tabOk rfl rfl ?_)
        refine ql_index tabOk rfl rfl rfl rfl rfl (by omega) (by omega) ?_
        skip
        refine ql_storeI tabOk (p) rfl rfl rfl (by repeat constructor) (by first | rfl | omega | simp) hp3 ?_
        (refine q_nil (q_blk (q_region (ql_ar tabOk rfl rfl rfl rfl (by omega) (by omega) (ql_pure tabOk rfl rfl (q_nil ?_))))))
        exact hK (p + 1, fl.set p 0) _ _ ⟨by dsimp only; omega, by simpa using hfl, hset 0 (by rw [if_pos (.inr h2)])⟩ (by dsimp only; omega) ⟨rfl, rfl, rfl, rfl, rfl, rfl, rfl, trivial⟩ (by repeat constructor)
      · (refine q_skip (q_seq (q_block (q_seq (q_region (ql_pure tabOk rfl rfl (ql_pure tabOk rfl rfl (q_nil (q_seq (q_region (ql_pure tabOk rfl rfl (ql_lssF tabOk rfl rfl rfl (by omega) ?_))))))))))); refine ql_pure tabOk rfl rfl (ql_gyes rfl (ql_pure tabOk rfl rfl (ql_gyes rfl (ql_pure tabOk rfl rfl (ql_gyes rfl (ql_eqlF tabOk rfl rfl rfl (by omega) (ql_pure tabOk rfl rfl (q_nil (q_cond_false rfl (q_skip (q_blk ?_))))))))))); refine q_region (ql_ar tabOk rfl rfl rfl rfl (by omega) (by omega) (ql_pure tabOk rfl rfl (q_nil ?_))))
        have h3 := hset fl[p] (by rw [if_neg (by omega)])
        rw [List.set_getElem_self] at h3
        exact hK (p + 1, fl) _ _ ⟨by dsimp only; omega, hfl, h3⟩ (by dsimp only; omega) ⟨rfl, rfl, rfl, rfl, rfl, rfl, rfl, trivial⟩ (by repeat constructor)
  obtain rfl : p = N := by omega
  have hfl0 : fl = far0 p fr := by
    refine List.ext_getElem? fun q => ?_
    by_cases hq : q < p
    · rw [hF q hq]
      unfold far0
      rw [List.getElem?_map, List.getElem?_range hq]
      simp [hq]
    · rw [List.getElem?_eq_none (by omega), List.getElem?_eq_none (by simp [far0]; omega)]
  clear hF hK hc hp
  have hb0 : ∀ y ∈ fl, -((0 : Nat) * 100000 : Int) ≤ y ∧ y ≤ 1125899906842624 := fun y hy => by
    rw [hfl0] at hy
    obtain ⟨q, _, rfl⟩ := List.mem_map.1 hy
    split <;> omega
  rw [← hfl0] at hR
  clear hfl0
  obtain ⟨E, hEE⟩ : ∃ E, E = l.map (edN L) := ⟨_, rfl⟩
  have hEl : E.length = l.length := by rw [hEE, List.length_map]
  rw [← hEE] at hR
  obtain ⟨a', c', ha, hsa⟩ := RdG.outI he
  cases ha
  (refine q_exit _ rfl (q_seq (q_region (ql_pure tabOk rfl rfl (q_nil (q_seq (q_seq (q_region ?_))))))); (iterate 3 refine ql_pure tabOk rfl rfl ?_); refine ql_loadP tabOk rfl rfl rfl (by assumption) (by rfl) ?_)
  refine ql_lenN (m := p) pt_map rfl rfl (fun w' hs => hm.keep hs.chg0) ?_
  (refine ql_ar tabOk rfl rfl rfl rfl (by omega) (by omega) (ql_pure tabOk rfl rfl (q_nil (q_block ?_))))
  refine q_loop (σ := Nat × List Int × List Int) (fun q => q.1 ≤ p + 1 ∧ q.2.1.length = p ∧ q.2.2.length = p ∧ (∀ y ∈ q.2.1, -((q.1 : Int) * 100000) ≤ y ∧ y ≤ 1125899906842624) ∧ spr E (p + 1 - q.1) q.2.1 = some R) (fun q => p + 1 - q.1) (fun q => [(0, .pointer (some ⟨bd, 0, none⟩)), (2, .bool false), (6, .pointer (some ⟨b6, 0, none⟩)), (9, .pointer (some ⟨b9, 0, none⟩)), (54, .int .i64 (p + 1)), (55, .int .i64 q.1)])
    (fun q => [.pt g1 (ints q.2.1) 3, .pt g2 (ints q.2.2) 3, .pt b9 [.slice (some ⟨g1, 0, none⟩) p p, .slice (some ⟨g2, 0, none⟩) p p] 134, .pt b6 [.slice none 0 0, .slice none 0 0] 134]) (0, fl, List.replicate p (-1)) ⟨by omega, hfl, by simp, hb0, hR⟩ ⟨rfl, rfl, rfl, rfl, rfl, rfl, trivial⟩ (by repeat constructor) ?_
  clear hb0 hR hfl
  rintro ⟨r, far, byl⟩ ⟨hr, hfl, hby, hb, hR⟩ K hK
  dsimp only at hr hfl hby hb hR ⊢
  (refine q_seq (q_region (ql_pure tabOk rfl rfl (q_nil (q_seq ?_)))))
  refine q_if rfl (fun hc => ?_) (fun hc => ?_)
  · have hr2 : r < p + 1 := by omega
    clear hc
    obtain ⟨fu, hfu⟩ : ∃ fu, p + 1 - r = fu + 1 := ⟨p - r, by omega⟩
    rw [hfu] at hR
    (refine q_skip (q_seq (q_block (q_seq (q_region (ql_pure tabOk rfl rfl (q_nil (q_seq (q_seq (q_region ?_))))))))); (iterate 3 refine ql_pure tabOk rfl rfl ?_); refine ql_loadP tabOk rfl rfl rfl (by assumption) (by rfl) ?_; refine ql_pure tabOk rfl rfl (ql_pure tabOk rfl rfl (q_nil (q_block ?_))))
    refine q_loop (σ := Nat × List Int × List Int × Int) (fun q => q.1 ≤ l.length ∧ (E.take q.1).foldl rlx (far, -1) = (q.2.1, q.2.2.2) ∧ q.2.1.length = p ∧ q.2.2.1.length = p ∧ ∀ y ∈ q.2.1, -((r : Int) * 100000 + (q.1 : Int) * 10000) ≤ y ∧ y ≤ 1125899906842624) (fun q => l.length - q.1) (fun q => [(0, .pointer (some ⟨bd, 0, none⟩)), (2, .bool false), (6, .pointer (some ⟨b6, 0, none⟩)), (9, .pointer (some ⟨b9, 0, none⟩)), (11, .int .i64 q.2.2.2), (54, .int .i64 (p + 1)), (55, .int .i64 r), (60, .slice ea l.length ec), (61, .int .i64 l.length), (62, .int .i64 q.1)])
      (fun q => [.pt g1 (ints q.2.1) 3, .pt g2 (ints q.2.2.1) 3, .pt b9 [.slice (some ⟨g1, 0, none⟩) p p, .slice (some ⟨g2, 0, none⟩) p p] 134, .pt b6 [.slice none 0 0, .slice none 0 0] 134]) (0, far, byl, -1) ⟨by omega, rfl, hfl, hby, fun y hy => by have := hb y hy; omega⟩ ⟨rfl, rfl, rfl, rfl, rfl, rfl, rfl, rfl, rfl, rfl, trivial⟩ (by repeat constructor) ?_
    rintro ⟨i, fa, by2, la⟩ ⟨hi, hfo, hfa, hb2, hbd⟩ K2 hK2
    dsimp only at hi hfo hfa hb2 hbd ⊢
    (refine q_seq (q_region (ql_pure tabOk rfl rfl (q_nil (q_seq ?_)))))
    refine q_if rfl (fun hc => ?_) (fun hc => ?_)
    · have hi2 : i < l.length := by omega
      clear hc
      obtain ⟨b, off, rfl⟩ := hsa (by omega)
      have hst := fold_take rlx (far, -1) E i (by omega)
      rw [hfo, show E[i]'(by omega) = edN L l[i] by simp [hEE]] at hst
      obtain ⟨hE1, hE2, hE3⟩ := hE _ (List.getElem_mem hi2)
      have hbn := rlx_bd (l := la) hfa hE1 hE2 hE3 (T := (r : Int) * 100000 + (i : Int) * 10000) hbd
      (refine q_skip (q_seq (q_block (q_seq (q_region (ql_pure tabOk rfl rfl ?_))))))
      refine ql_index tabOk rfl rfl rfl rfl rfl (by omega) (by omega) ?_
      refine ql_loadA (cs := edC L l[i]) tabOk rfl rfl rfl rfl (fun w hs => RdG.at (RdE.keep he hs.chg0) i hi2) ?_
      generalize l[i] = x at *
      skip
      refine ql_alloc zero162 rfl (fun b13 => ?_)
      (refine ql_pure tabOk rfl rfl ?_; refine ql_setA tabOk rfl rfl rfl rfl rfl (by repeat constructor) rfl ?_; refine q_nil (q_seq ?_))
      refine q_draw _ [] (Sp.refl _) (by kernel_rfl) (by kernel_rfl) ?_
      (refine qf_pure tabOk rfl rfl rfl ?_; refine qf_loadBa tabOk rfl rfl rfl ?_; refine qf_pure tabOk rfl rfl rfl ?_; refine qf_loadBa tabOk rfl rfl rfl ?_; refine qf_pure tabOk rfl rfl rfl (qf_pure tabOk rfl rfl rfl (qf_nil (q_seq (q_seq (q_region (ql_pure tabOk rfl rfl (q_nil (q_cond_false rfl (q_skip (q_seq ?_)))))))))))
      refine q_draw _ [] (Sp.refl _) (by kernel_rfl) (by kernel_rfl) ?_
      (refine qf_pure tabOk rfl rfl rfl ?_; refine qf_loadBa tabOk rfl rfl rfl ?_; refine qf_pure tabOk rfl rfl rfl ?_)
      have k1 : frmN x < fa.length := by omega
      have k2 : towN x < fa.length := by omega
      have k3 : towN x < by2.length := by omega
      have hv1 := hbd _ (List.getElem_mem k1)
      refine qf_index tabOk rfl rfl rfl rfl rfl (by omega) (by omega) ?_
      refine qf_loadI tabOk (frmN x) rfl rfl rfl (by repeat constructor) (by first | rfl | omega | simp) k1 ?_
      by_cases hA : fa[frmN x] < 1125899906842624
      · (refine qf_lssT tabOk rfl rfl rfl (by omega) (qf_pure tabOk rfl rfl rfl (qf_gyes rfl (qf_pure tabOk rfl rfl rfl (qf_gyes rfl ?_)))); refine qf_loadBa tabOk rfl rfl rfl ?_; refine qf_gyes rfl (qf_pure tabOk rfl rfl rfl (qf_gyes rfl ?_)))
        refine qf_index tabOk rfl rfl rfl rfl rfl (by omega) (by omega) ?_
        (refine qf_gyes rfl ?_)
        refine qf_loadI tabOk (frmN x) rfl rfl rfl (by repeat constructor) (by first | rfl | omega | simp) k1 ?_
        (refine qf_gyes rfl (qf_pure tabOk rfl rfl rfl (qf_gyes rfl ?_)); refine qf_loadBa tabOk rfl rfl rfl ?_; refine qf_gyes rfl (qf_ar tabOk rfl rfl rfl rfl (by omega) (by omega) (qf_gyes rfl (qf_pure tabOk rfl rfl rfl (qf_gyes rfl ?_)))); refine qf_loadBa tabOk rfl rfl rfl ?_; refine qf_gyes rfl (qf_pure tabOk rfl rfl rfl (qf_gyes rfl ?_)))
        refine qf_index tabOk rfl rfl rfl rfl rfl (by omega) (by omega) ?_
        (refine qf_gyes rfl ?_)
        refine qf_loadI tabOk (towN x) rfl rfl rfl (by repeat constructor) (by first | rfl | omega | simp) k2 ?_
        by_cases hB : fa[frmN x] + cntV L x < fa[towN x]
        · rw [rlx_hit k1 k2 ⟨hA, hB⟩] at hst hbn
          (refine qf_gyes rfl (qf_lssT tabOk rfl rfl rfl (by omega) (qf_pure tabOk rfl rfl rfl (qf_nil (q_cond_true rfl (q_seq ?_))))))
          refine q_drawB2 [false, false, false, false, false, false, false, false, false, false, true, false, false, false, false, false, false, false, false] [.pt b13 (edC L x) 162, .pt g1 (ints fa) 3, .pt g2 (ints by2) 3, .pt b9 [.slice (some ⟨g1, 0, none⟩) p p, .slice (some ⟨g2, 0, none⟩) p p] 134, .pt b6 [.slice none 0 0, .slice none 0 0] 134] [] [.pt b13 (edC L x) 162, .pt b9 [.slice (some ⟨g1, 0, none⟩) p p, .slice (some ⟨g2, 0, none⟩) p p] 134, .pt b6 [.slice none 0 0, .slice none 0 0] 134] [.pt g1 (ints fa) 3, .pt g2 (ints by2) 3] (by repeat constructor) (by repeat constructor) (by kernel_rfl) (by kernel_rfl) (by kernel_rfl) ?_
          refine qb_F 10 [.pt g1 (ints fa) 3, .pt g2 (ints by2) 3] rfl rfl (by repeat constructor) fun K5 hK5 => ?_
          (refine qf_pure tabOk rfl rfl rfl ?_; refine qf_loadBa tabOk rfl rfl rfl ?_; refine qf_pure tabOk rfl rfl rfl (qf_pure tabOk rfl rfl rfl ?_); refine qf_loadBa tabOk rfl rfl rfl ?_; refine qf_pure tabOk rfl rfl rfl (qf_pure tabOk rfl rfl rfl ?_); refine qf_loadBa tabOk rfl rfl rfl ?_; refine qf_pure tabOk rfl rfl rfl ?_)
          refine qf_index tabOk rfl rfl rfl rfl rfl (by omega) (by omega) ?_
          (refine qf_nil ?_)
          refine hK5 _ _ (qb_T2 1 [] rfl rfl (by repeat constructor) fun K5 hK5 => ?_)
          refine qf_loadI tabOk (frmN x) rfl rfl rfl (by repeat constructor) (by first | rfl | omega | simp) k1 ?_
          (refine qf_nil ?_)
          refine hK5 _ _ (qb_F 8 [.pt g1 (ints fa) 3, .pt g2 (ints by2) 3] rfl rfl (by repeat constructor) fun K5 hK5 => ?_)
          (refine qf_pure tabOk rfl rfl rfl ?_; refine qf_loadBa tabOk rfl rfl rfl ?_; refine qf_ar tabOk rfl rfl rfl rfl (by omega) (by omega) (qf_pure tabOk rfl rfl rfl ?_))
          refine qf_index tabOk rfl rfl rfl rfl rfl (by omega) (by omega) ?_
          refine qf_storeI tabOk (towN x) rfl rfl rfl (by repeat constructor) (by first | rfl | omega | simp) k2 ?_
          skip
          refine qf_index tabOk rfl rfl rfl rfl rfl (by omega) (by omega) ?_
          refine qf_storeI tabOk (towN x) rfl rfl rfl (by repeat constructor) (by first | rfl | omega | simp) k3 ?_
          (refine qf_nil ?_)
          refine hK5 _ _ (qb_nil ?_)
          (refine q_region (ql_pure tabOk rfl rfl (ql_pure tabOk rfl rfl (q_nil (q_blk (q_region (ql_ar tabOk rfl rfl rfl rfl (by omega) (by omega) (ql_pure tabOk rfl rfl (q_nil ?_)))))))))
          exact hK2 (i + 1, fa.set (towN x) (fa[frmN x] + cntV L x), by2.set (towN x) i, towN x) _ _ ⟨by dsimp only; omega, hst, hbn.1, by simpa using hb2, fun y hy => by have := hbn.2 y hy; dsimp only; omega⟩ (by dsimp only; omega) ⟨rfl, rfl, rfl, rfl, rfl, rfl, rfl, rfl, rfl, rfl, trivial⟩ (by repeat constructor)
        · rw [rlx_mis k1 k2 (fun h => hB h.2)] at hst hbn
          (refine qf_gyes rfl (qf_lssF tabOk rfl rfl rfl (by omega) (qf_pure tabOk rfl rfl rfl (qf_nil (q_cond_false rfl (q_skip (q_blk (q_region (ql_ar tabOk rfl rfl rfl rfl (by omega) (by omega) (ql_pure tabOk rfl rfl (q_nil ?_)))))))))))
          exact hK2 (i + 1, fa, by2, la) _ _ ⟨by dsimp only; omega, hst, hbn.1, hb2, fun y hy => by have := hbn.2 y hy; dsimp only; omega⟩ (by dsimp only; omega) ⟨rfl, rfl, rfl, rfl, rfl, rfl, rfl, rfl, rfl, rfl, trivial⟩ (by repeat constructor)
      · rw [rlx_mis k1 k2 (fun h => hA h.1)] at hst hbn
        (refine qf_lssF tabOk rfl rfl rfl (by omega) (qf_pure tabOk rfl rfl rfl ?_); (iterate 14 refine qf_gno rfl rfl rfl ?_); refine qf_pure tabOk rfl rfl rfl (qf_nil (q_cond_false rfl (q_skip (q_blk (q_region (ql_ar tabOk rfl rfl rfl rfl (by omega) (by omega) (ql_pure tabOk rfl rfl (q_nil ?_)))))))))
        exact hK2 (i + 1, fa, by2, la) _ _ ⟨by dsimp only; omega, hst, hbn.1, hb2, fun y hy => by have := hbn.2 y hy; dsimp only; omega⟩ (by dsimp only; omega) ⟨rfl, rfl, rfl, rfl, rfl, rfl, rfl, rfl, rfl, rfl, trivial⟩ (by repeat constructor)
    · obtain rfl : i = l.length := by omega
      clear hc hK2
      rw [← hEl, List.take_length] at hfo
      have hrn : rnd E far = (fa, la) := hfo
      by_cases hla : la < 0
      · have hR2 : fa = R := by
          have h1 : spr E (fu + 1) far = if (rnd E far).2 < 0 then some (rnd E far).1 else spr E fu (rnd E far).1 := rfl
          rw [h1, hrn, if_pos hla] at hR
          exact Option.some.inj hR
        subst hR2
        (refine q_exit _ rfl (q_seq (q_region (ql_pure tabOk rfl rfl (ql_lssT tabOk rfl rfl rfl (by omega) (q_nil (q_cond_true rfl (q_seq (q_region ?_)))))))); refine ql_loadABa tabOk rfl rfl rfl ?_; refine ql_setA tabOk rfl rfl rfl rfl rfl (by repeat constructor) rfl ?_; refine ql_pure tabOk rfl rfl (ql_pure tabOk rfl rfl (q_nil (q_ret ?_))))
        refine q_fin tabOk rfl (by repeat constructor) fun w hs => ?_
        exact ⟨(g1, g2), rfl, hs.sp (by repeat constructor)⟩
      · rw [spr_on hrn (by omega)] at hR
        (refine q_exit _ rfl (q_seq (q_region (ql_pure tabOk rfl rfl (ql_lssF tabOk rfl rfl rfl (by omega) (q_nil (q_cond_false rfl (q_skip (q_blk (q_region (ql_ar tabOk rfl rfl rfl rfl (by omega) (by omega) (ql_pure tabOk rfl rfl ?_))))))))))); refine q_nil ?_)
        exact hK (r + 1, fa, by2) _ _ ⟨by dsimp only; omega, hfa, hb2, fun y hy => by have := hbd y hy; dsimp only; omega, by dsimp only; rw [show p + 1 - (r + 1) = fu by omega]; exact hR⟩ (by dsimp only; omega) ⟨rfl, rfl, rfl, rfl, rfl, rfl, trivial⟩ (by repeat constructor)
  · obtain rfl : r = p + 1 := by omega
    rw [Nat.sub_self] at hR
    cases hR
end Go.Proofs.YtpknmgafambmbaaGreat

/- A race of one skier: how far its points are from one another. Printed by gen_H3.py. -/
namespace Go.Proofs.YtpknmgafambmbaaGreat
set_option maxRecDepth 4000

theorem rnd_1 {a : Int} {far : List Int} : rnd (edgE [a]) far = (rlx (rlx (rlx (rlx (far, -1) (0, 1, 300)) (1, 0, -300)) (1, 1 + 1, 2 * a)) (1 + 1, 1, -a)) := by simp only [rnd, edgE, splE, List.foldl]
set_option maxHeartbeats 4000000 in
theorem sp1n (a : Int) (ha : 1 ≤ a ∧ a ≤ 5000) : spr (edgE [a]) 4 (far0 3 (-1)) = some [0 + (-a) + (-300), 0 + (-a), 0] := by
  have r0 : rnd (edgE [a]) [0, 0, 0] = ([0 + (-300), 0 + (-a), 0], 1) := by
    rw [rnd_1, show rlx ([0, 0, 0], -1) (0, 1, 300) = ([0, 0, 0], -1) from rlx_no (x := 0) (y := 0) rfl rfl (by omega), show rlx ([0, 0, 0], -1) (1, 0, -300) = ([0 + (-300), 0, 0], 0) from rlx_yes (x := 0) (y := 0) rfl rfl (by omega), show rlx ([0 + (-300), 0, 0], 0) (1, 1 + 1, 2 * a) = ([0 + (-300), 0, 0], 0) from rlx_no (x := 0) (y := 0) rfl rfl (by omega), show rlx ([0 + (-300), 0, 0], 0) (1 + 1, 1, -a) = ([0 + (-300), 0 + (-a), 0], 1) from rlx_yes (x := 0) (y := 0) rfl rfl (by omega)]
  have r1 : rnd (edgE [a]) [0 + (-300), 0 + (-a), 0] = ([0 + (-a) + (-300), 0 + (-a), 0], 0) := by
    rw [rnd_1, show rlx ([0 + (-300), 0 + (-a), 0], -1) (0, 1, 300) = ([0 + (-300), 0 + (-a), 0], -1) from rlx_no (x := 0 + (-300)) (y := 0 + (-a)) rfl rfl (by omega), show rlx ([0 + (-300), 0 + (-a), 0], -1) (1, 0, -300) = ([0 + (-a) + (-300), 0 + (-a), 0], 0) from rlx_yes (x := 0 + (-a)) (y := 0 + (-300)) rfl rfl (by omega), show rlx ([0 + (-a) + (-300), 0 + (-a), 0], 0) (1, 1 + 1, 2 * a) = ([0 + (-a) + (-300), 0 + (-a), 0], 0) from rlx_no (x := 0 + (-a)) (y := 0) rfl rfl (by omega), show rlx ([0 + (-a) + (-300), 0 + (-a), 0], 0) (1 + 1, 1, -a) = ([0 + (-a) + (-300), 0 + (-a), 0], 0) from rlx_no (x := 0) (y := 0 + (-a)) rfl rfl (by omega)]
  have r2 : rnd (edgE [a]) [0 + (-a) + (-300), 0 + (-a), 0] = ([0 + (-a) + (-300), 0 + (-a), 0], -1) := by
    rw [rnd_1, show rlx ([0 + (-a) + (-300), 0 + (-a), 0], -1) (0, 1, 300) = ([0 + (-a) + (-300), 0 + (-a), 0], -1) from rlx_no (x := 0 + (-a) + (-300)) (y := 0 + (-a)) rfl rfl (by omega), show rlx ([0 + (-a) + (-300), 0 + (-a), 0], -1) (1, 0, -300) = ([0 + (-a) + (-300), 0 + (-a), 0], -1) from rlx_no (x := 0 + (-a)) (y := 0 + (-a) + (-300)) rfl rfl (by omega), show rlx ([0 + (-a) + (-300), 0 + (-a), 0], -1) (1, 1 + 1, 2 * a) = ([0 + (-a) + (-300), 0 + (-a), 0], -1) from rlx_no (x := 0 + (-a)) (y := 0) rfl rfl (by omega), show rlx ([0 + (-a) + (-300), 0 + (-a), 0], -1) (1 + 1, 1, -a) = ([0 + (-a) + (-300), 0 + (-a), 0], -1) from rlx_no (x := 0) (y := 0 + (-a)) rfl rfl (by omega)]
  rw [show far0 3 (-1) = [0, 0, 0] from by decide, spr_on r0 (by decide), spr_on r1 (by decide)]
  exact spr_end r2
set_option maxHeartbeats 4000000 in
theorem sp1z (a : Int) (ha : 1 ≤ a ∧ a ≤ 5000) : spr (edgE [a]) 4 (far0 3 0) = some [0, 0 + 300, 0 + 300 + 2 * a] := by
  have r0 : rnd (edgE [a]) [0, 1125899906842624, 1125899906842624] = ([0, 0 + 300, 0 + 300 + 2 * a], 2) := by
    rw [rnd_1, show rlx ([0, 1125899906842624, 1125899906842624], -1) (0, 1, 300) = ([0, 0 + 300, 1125899906842624], 1) from rlx_yes (x := 0) (y := 1125899906842624) rfl rfl (by omega), show rlx ([0, 0 + 300, 1125899906842624], 1) (1, 0, -300) = ([0, 0 + 300, 1125899906842624], 1) from rlx_no (x := 0 + 300) (y := 0) rfl rfl (by omega), show rlx ([0, 0 + 300, 1125899906842624], 1) (1, 1 + 1, 2 * a) = ([0, 0 + 300, 0 + 300 + 2 * a], 2) from rlx_yes (x := 0 + 300) (y := 1125899906842624) rfl rfl (by omega), show rlx ([0, 0 + 300, 0 + 300 + 2 * a], 2) (1 + 1, 1, -a) = ([0, 0 + 300, 0 + 300 + 2 * a], 2) from rlx_no (x := 0 + 300 + 2 * a) (y := 0 + 300) rfl rfl (by omega)]
  have r1 : rnd (edgE [a]) [0, 0 + 300, 0 + 300 + 2 * a] = ([0, 0 + 300, 0 + 300 + 2 * a], -1) := by
    rw [rnd_1, show rlx ([0, 0 + 300, 0 + 300 + 2 * a], -1) (0, 1, 300) = ([0, 0 + 300, 0 + 300 + 2 * a], -1) from rlx_no (x := 0) (y := 0 + 300) rfl rfl (by omega), show rlx ([0, 0 + 300, 0 + 300 + 2 * a], -1) (1, 0, -300) = ([0, 0 + 300, 0 + 300 + 2 * a], -1) from rlx_no (x := 0 + 300) (y := 0) rfl rfl (by omega), show rlx ([0, 0 + 300, 0 + 300 + 2 * a], -1) (1, 1 + 1, 2 * a) = ([0, 0 + 300, 0 + 300 + 2 * a], -1) from rlx_no (x := 0 + 300) (y := 0 + 300 + 2 * a) rfl rfl (by omega), show rlx ([0, 0 + 300, 0 + 300 + 2 * a], -1) (1 + 1, 1, -a) = ([0, 0 + 300, 0 + 300 + 2 * a], -1) from rlx_no (x := 0 + 300 + 2 * a) (y := 0 + 300) rfl rfl (by omega)]
  rw [show far0 3 0 = [0, 1125899906842624, 1125899906842624] from by decide, spr_on r0 (by decide)]
  exact spr_end r1
set_option maxHeartbeats 4000000 in
theorem sp1e (a : Int) (ha : 1 ≤ a ∧ a ≤ 5000) : spr (edgE [a]) 4 (far0 3 2) = some [0 + (-a) + (-300), 0 + (-a), 0] := by
  have r0 : rnd (edgE [a]) [1125899906842624, 1125899906842624, 0] = ([1125899906842624, 0 + (-a), 0], 1) := by
    rw [rnd_1, show rlx ([1125899906842624, 1125899906842624, 0], -1) (0, 1, 300) = ([1125899906842624, 1125899906842624, 0], -1) from rlx_no (x := 1125899906842624) (y := 1125899906842624) rfl rfl (by omega), show rlx ([1125899906842624, 1125899906842624, 0], -1) (1, 0, -300) = ([1125899906842624, 1125899906842624, 0], -1) from rlx_no (x := 1125899906842624) (y := 1125899906842624) rfl rfl (by omega), show rlx ([1125899906842624, 1125899906842624, 0], -1) (1, 1 + 1, 2 * a) = ([1125899906842624, 1125899906842624, 0], -1) from rlx_no (x := 1125899906842624) (y := 0) rfl rfl (by omega), show rlx ([1125899906842624, 1125899906842624, 0], -1) (1 + 1, 1, -a) = ([1125899906842624, 0 + (-a), 0], 1) from rlx_yes (x := 0) (y := 1125899906842624) rfl rfl (by omega)]
  have r1 : rnd (edgE [a]) [1125899906842624, 0 + (-a), 0] = ([0 + (-a) + (-300), 0 + (-a), 0], 0) := by
    rw [rnd_1, show rlx ([1125899906842624, 0 + (-a), 0], -1) (0, 1, 300) = ([1125899906842624, 0 + (-a), 0], -1) from rlx_no (x := 1125899906842624) (y := 0 + (-a)) rfl rfl (by omega), show rlx ([1125899906842624, 0 + (-a), 0], -1) (1, 0, -300) = ([0 + (-a) + (-300), 0 + (-a), 0], 0) from rlx_yes (x := 0 + (-a)) (y := 1125899906842624) rfl rfl (by omega), show rlx ([0 + (-a) + (-300), 0 + (-a), 0], 0) (1, 1 + 1, 2 * a) = ([0 + (-a) + (-300), 0 + (-a), 0], 0) from rlx_no (x := 0 + (-a)) (y := 0) rfl rfl (by omega), show rlx ([0 + (-a) + (-300), 0 + (-a), 0], 0) (1 + 1, 1, -a) = ([0 + (-a) + (-300), 0 + (-a), 0], 0) from rlx_no (x := 0) (y := 0 + (-a)) rfl rfl (by omega)]
  have r2 : rnd (edgE [a]) [0 + (-a) + (-300), 0 + (-a), 0] = ([0 + (-a) + (-300), 0 + (-a), 0], -1) := by
    rw [rnd_1, show rlx ([0 + (-a) + (-300), 0 + (-a), 0], -1) (0, 1, 300) = ([0 + (-a) + (-300), 0 + (-a), 0], -1) from rlx_no (x := 0 + (-a) + (-300)) (y := 0 + (-a)) rfl rfl (by omega), show rlx ([0 + (-a) + (-300), 0 + (-a), 0], -1) (1, 0, -300) = ([0 + (-a) + (-300), 0 + (-a), 0], -1) from rlx_no (x := 0 + (-a)) (y := 0 + (-a) + (-300)) rfl rfl (by omega), show rlx ([0 + (-a) + (-300), 0 + (-a), 0], -1) (1, 1 + 1, 2 * a) = ([0 + (-a) + (-300), 0 + (-a), 0], -1) from rlx_no (x := 0 + (-a)) (y := 0) rfl rfl (by omega), show rlx ([0 + (-a) + (-300), 0 + (-a), 0], -1) (1 + 1, 1, -a) = ([0 + (-a) + (-300), 0 + (-a), 0], -1) from rlx_no (x := 0) (y := 0 + (-a)) rfl rfl (by omega)]
  rw [show far0 3 2 = [1125899906842624, 1125899906842624, 0] from by decide, spr_on r0 (by decide), spr_on r1 (by decide)]
  exact spr_end r2
theorem rnd_2 {a b : Int} {far : List Int} : rnd (edgE [a, b]) far = (rlx (rlx (rlx (rlx (rlx (rlx (far, -1) (0, 1, 300)) (1, 0, -300)) (1, 1 + 1, 2 * a)) (1 + 1, 1, -a)) (1 + 1, 1 + 1 + 1, 2 * b)) (1 + 1 + 1, 1 + 1, -b)) := by simp only [rnd, edgE, splE, List.foldl]
set_option maxHeartbeats 4000000 in
theorem sp2n (a b : Int) (ha : 1 ≤ a ∧ a ≤ 5000) (hb : 1 ≤ b ∧ b ≤ 5000) : spr (edgE [a, b]) 5 (far0 4 (-1)) = some [0 + (-b) + (-a) + (-300), 0 + (-b) + (-a), 0 + (-b), 0] := by
  have r0 : rnd (edgE [a, b]) [0, 0, 0, 0] = ([0 + (-300), 0 + (-a), 0 + (-b), 0], 2) := by
    rw [rnd_2, show rlx ([0, 0, 0, 0], -1) (0, 1, 300) = ([0, 0, 0, 0], -1) from rlx_no (x := 0) (y := 0) rfl rfl (by omega), show rlx ([0, 0, 0, 0], -1) (1, 0, -300) = ([0 + (-300), 0, 0, 0], 0) from rlx_yes (x := 0) (y := 0) rfl rfl (by omega), show rlx ([0 + (-300), 0, 0, 0], 0) (1, 1 + 1, 2 * a) = ([0 + (-300), 0, 0, 0], 0) from rlx_no (x := 0) (y := 0) rfl rfl (by omega), show rlx ([0 + (-300), 0, 0, 0], 0) (1 + 1, 1, -a) = ([0 + (-300), 0 + (-a), 0, 0], 1) from rlx_yes (x := 0) (y := 0) rfl rfl (by omega), show rlx ([0 + (-300), 0 + (-a), 0, 0], 1) (1 + 1, 1 + 1 + 1, 2 * b) = ([0 + (-300), 0 + (-a), 0, 0], 1) from rlx_no (x := 0) (y := 0) rfl rfl (by omega), show rlx ([0 + (-300), 0 + (-a), 0, 0], 1) (1 + 1 + 1, 1 + 1, -b) = ([0 + (-300), 0 + (-a), 0 + (-b), 0], 2) from rlx_yes (x := 0) (y := 0) rfl rfl (by omega)]
  have r1 : rnd (edgE [a, b]) [0 + (-300), 0 + (-a), 0 + (-b), 0] = ([0 + (-a) + (-300), 0 + (-b) + (-a), 0 + (-b), 0], 1) := by
    rw [rnd_2, show rlx ([0 + (-300), 0 + (-a), 0 + (-b), 0], -1) (0, 1, 300) = ([0 + (-300), 0 + (-a), 0 + (-b), 0], -1) from rlx_no (x := 0 + (-300)) (y := 0 + (-a)) rfl rfl (by omega), show rlx ([0 + (-300), 0 + (-a), 0 + (-b), 0], -1) (1, 0, -300) = ([0 + (-a) + (-300), 0 + (-a), 0 + (-b), 0], 0) from rlx_yes (x := 0 + (-a)) (y := 0 + (-300)) rfl rfl (by omega), show rlx ([0 + (-a) + (-300), 0 + (-a), 0 + (-b), 0], 0) (1, 1 + 1, 2 * a) = ([0 + (-a) + (-300), 0 + (-a), 0 + (-b), 0], 0) from rlx_no (x := 0 + (-a)) (y := 0 + (-b)) rfl rfl (by omega), show rlx ([0 + (-a) + (-300), 0 + (-a), 0 + (-b), 0], 0) (1 + 1, 1, -a) = ([0 + (-a) + (-300), 0 + (-b) + (-a), 0 + (-b), 0], 1) from rlx_yes (x := 0 + (-b)) (y := 0 + (-a)) rfl rfl (by omega), show rlx ([0 + (-a) + (-300), 0 + (-b) + (-a), 0 + (-b), 0], 1) (1 + 1, 1 + 1 + 1, 2 * b) = ([0 + (-a) + (-300), 0 + (-b) + (-a), 0 + (-b), 0], 1) from rlx_no (x := 0 + (-b)) (y := 0) rfl rfl (by omega), show rlx ([0 + (-a) + (-300), 0 + (-b) + (-a), 0 + (-b), 0], 1) (1 + 1 + 1, 1 + 1, -b) = ([0 + (-a) + (-300), 0 + (-b) + (-a), 0 + (-b), 0], 1) from rlx_no (x := 0) (y := 0 + (-b)) rfl rfl (by omega)]
  have r2 : rnd (edgE [a, b]) [0 + (-a) + (-300), 0 + (-b) + (-a), 0 + (-b), 0] = ([0 + (-b) + (-a) + (-300), 0 + (-b) + (-a), 0 + (-b), 0], 0) := by
    rw [rnd_2, show rlx ([0 + (-a) + (-300), 0 + (-b) + (-a), 0 + (-b), 0], -1) (0, 1, 300) = ([0 + (-a) + (-300), 0 + (-b) + (-a), 0 + (-b), 0], -1) from rlx_no (x := 0 + (-a) + (-300)) (y := 0 + (-b) + (-a)) rfl rfl (by omega), show rlx ([0 + (-a) + (-300), 0 + (-b) + (-a), 0 + (-b), 0], -1) (1, 0, -300) = ([0 + (-b) + (-a) + (-300), 0 + (-b) + (-a), 0 + (-b), 0], 0) from rlx_yes (x := 0 + (-b) + (-a)) (y := 0 + (-a) + (-300)) rfl rfl (by omega), show rlx ([0 + (-b) + (-a) + (-300), 0 + (-b) + (-a), 0 + (-b), 0], 0) (1, 1 + 1, 2 * a) = ([0 + (-b) + (-a) + (-300), 0 + (-b) + (-a), 0 + (-b), 0], 0) from rlx_no (x := 0 + (-b) + (-a)) (y := 0 + (-b)) rfl rfl (by omega), show rlx ([0 + (-b) + (-a) + (-300), 0 + (-b) + (-a), 0 + (-b), 0], 0) (1 + 1, 1, -a) = ([0 + (-b) + (-a) + (-300), 0 + (-b) + (-a), 0 + (-b), 0], 0) from rlx_no (x := 0 + (-b)) (y := 0 + (-b) + (-a)) rfl rfl (by omega), show rlx ([0 + (-b) + (-a) + (-300), 0 + (-b) + (-a), 0 + (-b), 0], 0) (1 + 1, 1 + 1 + 1, 2 * b) = ([0 + (-b) + (-a) + (-300), 0 + (-b) + (-a), 0 + (-b), 0], 0) from rlx_no (x := 0 + (-b)) (y := 0) rfl rfl (by omega), show rlx ([0 + (-b) + (-a) + (-300), 0 + (-b) + (-a), 0 + (-b), 0], 0) (1 + 1 + 1, 1 + 1, -b) = ([0 + (-b) + (-a) + (-300), 0 + (-b) + (-a), 0 + (-b), 0], 0) from rlx_no (x := 0) (y := 0 + (-b)) rfl rfl (by omega)]
  have r3 : rnd (edgE [a, b]) [0 + (-b) + (-a) + (-300), 0 + (-b) + (-a), 0 + (-b), 0] = ([0 + (-b) + (-a) + (-300), 0 + (-b) + (-a), 0 + (-b), 0], -1) := by
    rw [rnd_2, show rlx ([0 + (-b) + (-a) + (-300), 0 + (-b) + (-a), 0 + (-b), 0], -1) (0, 1, 300) = ([0 + (-b) + (-a) + (-300), 0 + (-b) + (-a), 0 + (-b), 0], -1) from rlx_no (x := 0 + (-b) + (-a) + (-300)) (y := 0 + (-b) + (-a)) rfl rfl (by omega), show rlx ([0 + (-b) + (-a) + (-300), 0 + (-b) + (-a), 0 + (-b), 0], -1) (1, 0, -300) = ([0 + (-b) + (-a) + (-300), 0 + (-b) + (-a), 0 + (-b), 0], -1) from rlx_no (x := 0 + (-b) + (-a)) (y := 0 + (-b) + (-a) + (-300)) rfl rfl (by omega), show rlx ([0 + (-b) + (-a) + (-300), 0 + (-b) + (-a), 0 + (-b), 0], -1) (1, 1 + 1, 2 * a) = ([0 + (-b) + (-a) + (-300), 0 + (-b) + (-a), 0 + (-b), 0], -1) from rlx_no (x := 0 + (-b) + (-a)) (y := 0 + (-b)) rfl rfl (by omega), show rlx ([0 + (-b) + (-a) + (-300), 0 + (-b) + (-a), 0 + (-b), 0], -1) (1 + 1, 1, -a) = ([0 + (-b) + (-a) + (-300), 0 + (-b) + (-a), 0 + (-b), 0], -1) from rlx_no (x := 0 + (-b)) (y := 0 + (-b) + (-a)) rfl rfl (by omega), show rlx ([0 + (-b) + (-a) + (-300), 0 + (-b) + (-a), 0 + (-b), 0], -1) (1 + 1, 1 + 1 + 1, 2 * b) = ([0 + (-b) + (-a) + (-300), 0 + (-b) + (-a), 0 + (-b), 0], -1) from rlx_no (x := 0 + (-b)) (y := 0) rfl rfl (by omega), show rlx ([0 + (-b) + (-a) + (-300), 0 + (-b) + (-a), 0 + (-b), 0], -1) (1 + 1 + 1, 1 + 1, -b) = ([0 + (-b) + (-a) + (-300), 0 + (-b) + (-a), 0 + (-b), 0], -1) from rlx_no (x := 0) (y := 0 + (-b)) rfl rfl (by omega)]
  rw [show far0 4 (-1) = [0, 0, 0, 0] from by decide, spr_on r0 (by decide), spr_on r1 (by decide), spr_on r2 (by decide)]
  exact spr_end r3
set_option maxHeartbeats 4000000 in
theorem sp2z (a b : Int) (ha : 1 ≤ a ∧ a ≤ 5000) (hb : 1 ≤ b ∧ b ≤ 5000) : spr (edgE [a, b]) 5 (far0 4 0) = some [0, 0 + 300, 0 + 300 + 2 * a, 0 + 300 + 2 * a + 2 * b] := by
  have r0 : rnd (edgE [a, b]) [0, 1125899906842624, 1125899906842624, 1125899906842624] = ([0, 0 + 300, 0 + 300 + 2 * a, 0 + 300 + 2 * a + 2 * b], 3) := by
    rw [rnd_2, show rlx ([0, 1125899906842624, 1125899906842624, 1125899906842624], -1) (0, 1, 300) = ([0, 0 + 300, 1125899906842624, 1125899906842624], 1) from rlx_yes (x := 0) (y := 1125899906842624) rfl rfl (by omega), show rlx ([0, 0 + 300, 1125899906842624, 1125899906842624], 1) (1, 0, -300) = ([0, 0 + 300, 1125899906842624, 1125899906842624], 1) from rlx_no (x := 0 + 300) (y := 0) rfl rfl (by omega), show rlx ([0, 0 + 300, 1125899906842624, 1125899906842624], 1) (1, 1 + 1, 2 * a) = ([0, 0 + 300, 0 + 300 + 2 * a, 1125899906842624], 2) from rlx_yes (x := 0 + 300) (y := 1125899906842624) rfl rfl (by omega), show rlx ([0, 0 + 300, 0 + 300 + 2 * a, 1125899906842624], 2) (1 + 1, 1, -a) = ([0, 0 + 300, 0 + 300 + 2 * a, 1125899906842624], 2) from rlx_no (x := 0 + 300 + 2 * a) (y := 0 + 300) rfl rfl (by omega), show rlx ([0, 0 + 300, 0 + 300 + 2 * a, 1125899906842624], 2) (1 + 1, 1 + 1 + 1, 2 * b) = ([0, 0 + 300, 0 + 300 + 2 * a, 0 + 300 + 2 * a + 2 * b], 3) from rlx_yes (x := 0 + 300 + 2 * a) (y := 1125899906842624) rfl rfl (by omega), show rlx ([0, 0 + 300, 0 + 300 + 2 * a, 0 + 300 + 2 * a + 2 * b], 3) (1 + 1 + 1, 1 + 1, -b) = ([0, 0 + 300, 0 + 300 + 2 * a, 0 + 300 + 2 * a + 2 * b], 3) from rlx_no (x := 0 + 300 + 2 * a + 2 * b) (y := 0 + 300 + 2 * a) rfl rfl (by omega)]
  have r1 : rnd (edgE [a, b]) [0, 0 + 300, 0 + 300 + 2 * a, 0 + 300 + 2 * a + 2 * b] = ([0, 0 + 300, 0 + 300 + 2 * a, 0 + 300 + 2 * a + 2 * b], -1) := by
    rw [rnd_2, show rlx ([0, 0 + 300, 0 + 300 + 2 * a, 0 + 300 + 2 * a + 2 * b], -1) (0, 1, 300) = ([0, 0 + 300, 0 + 300 + 2 * a, 0 + 300 + 2 * a + 2 * b], -1) from rlx_no (x := 0) (y := 0 + 300) rfl rfl (by omega), show rlx ([0, 0 + 300, 0 + 300 + 2 * a, 0 + 300 + 2 * a + 2 * b], -1) (1, 0, -300) = ([0, 0 + 300, 0 + 300 + 2 * a, 0 + 300 + 2 * a + 2 * b], -1) from rlx_no (x := 0 + 300) (y := 0) rfl rfl (by omega), show rlx ([0, 0 + 300, 0 + 300 + 2 * a, 0 + 300 + 2 * a + 2 * b], -1) (1, 1 + 1, 2 * a) = ([0, 0 + 300, 0 + 300 + 2 * a, 0 + 300 + 2 * a + 2 * b], -1) from rlx_no (x := 0 + 300) (y := 0 + 300 + 2 * a) rfl rfl (by omega), show rlx ([0, 0 + 300, 0 + 300 + 2 * a, 0 + 300 + 2 * a + 2 * b], -1) (1 + 1, 1, -a) = ([0, 0 + 300, 0 + 300 + 2 * a, 0 + 300 + 2 * a + 2 * b], -1) from rlx_no (x := 0 + 300 + 2 * a) (y := 0 + 300) rfl rfl (by omega), show rlx ([0, 0 + 300, 0 + 300 + 2 * a, 0 + 300 + 2 * a + 2 * b], -1) (1 + 1, 1 + 1 + 1, 2 * b) = ([0, 0 + 300, 0 + 300 + 2 * a, 0 + 300 + 2 * a + 2 * b], -1) from rlx_no (x := 0 + 300 + 2 * a) (y := 0 + 300 + 2 * a + 2 * b) rfl rfl (by omega), show rlx ([0, 0 + 300, 0 + 300 + 2 * a, 0 + 300 + 2 * a + 2 * b], -1) (1 + 1 + 1, 1 + 1, -b) = ([0, 0 + 300, 0 + 300 + 2 * a, 0 + 300 + 2 * a + 2 * b], -1) from rlx_no (x := 0 + 300 + 2 * a + 2 * b) (y := 0 + 300 + 2 * a) rfl rfl (by omega)]
  rw [show far0 4 0 = [0, 1125899906842624, 1125899906842624, 1125899906842624] from by decide, spr_on r0 (by decide)]
  exact spr_end r1
set_option maxHeartbeats 4000000 in
theorem sp2e (a b : Int) (ha : 1 ≤ a ∧ a ≤ 5000) (hb : 1 ≤ b ∧ b ≤ 5000) : spr (edgE [a, b]) 5 (far0 4 3) = some [0 + (-b) + (-a) + (-300), 0 + (-b) + (-a), 0 + (-b), 0] := by
  have r0 : rnd (edgE [a, b]) [1125899906842624, 1125899906842624, 1125899906842624, 0] = ([1125899906842624, 1125899906842624, 0 + (-b), 0], 2) := by
    rw [rnd_2, show rlx ([1125899906842624, 1125899906842624, 1125899906842624, 0], -1) (0, 1, 300) = ([1125899906842624, 1125899906842624, 1125899906842624, 0], -1) from rlx_no (x := 1125899906842624) (y := 1125899906842624) rfl rfl (by omega), show rlx ([1125899906842624, 1125899906842624, 1125899906842624, 0], -1) (1, 0, -300) = ([1125899906842624, 1125899906842624, 1125899906842624, 0], -1) from rlx_no (x := 1125899906842624) (y := 1125899906842624) rfl rfl (by omega), show rlx ([1125899906842624, 1125899906842624, 1125899906842624, 0], -1) (1, 1 + 1, 2 * a) = ([1125899906842624, 1125899906842624, 1125899906842624, 0], -1) from rlx_no (x := 1125899906842624) (y := 1125899906842624) rfl rfl (by omega), show rlx ([1125899906842624, 1125899906842624, 1125899906842624, 0], -1) (1 + 1, 1, -a) = ([1125899906842624, 1125899906842624, 1125899906842624, 0], -1) from rlx_no (x := 1125899906842624) (y := 1125899906842624) rfl rfl (by omega), show rlx ([1125899906842624, 1125899906842624, 1125899906842624, 0], -1) (1 + 1, 1 + 1 + 1, 2 * b) = ([1125899906842624, 1125899906842624, 1125899906842624, 0], -1) from rlx_no (x := 1125899906842624) (y := 0) rfl rfl (by omega), show rlx ([1125899906842624, 1125899906842624, 1125899906842624, 0], -1) (1 + 1 + 1, 1 + 1, -b) = ([1125899906842624, 1125899906842624, 0 + (-b), 0], 2) from rlx_yes (x := 0) (y := 1125899906842624) rfl rfl (by omega)]
  have r1 : rnd (edgE [a, b]) [1125899906842624, 1125899906842624, 0 + (-b), 0] = ([1125899906842624, 0 + (-b) + (-a), 0 + (-b), 0], 1) := by
    rw [rnd_2, show rlx ([1125899906842624, 1125899906842624, 0 + (-b), 0], -1) (0, 1, 300) = ([1125899906842624, 1125899906842624, 0 + (-b), 0], -1) from rlx_no (x := 1125899906842624) (y := 1125899906842624) rfl rfl (by omega), show rlx ([1125899906842624, 1125899906842624, 0 + (-b), 0], -1) (1, 0, -300) = ([1125899906842624, 1125899906842624, 0 + (-b), 0], -1) from rlx_no (x := 1125899906842624) (y := 1125899906842624) rfl rfl (by omega), show rlx ([1125899906842624, 1125899906842624, 0 + (-b), 0], -1) (1, 1 + 1, 2 * a) = ([1125899906842624, 1125899906842624, 0 + (-b), 0], -1) from rlx_no (x := 1125899906842624) (y := 0 + (-b)) rfl rfl (by omega), show rlx ([1125899906842624, 1125899906842624, 0 + (-b), 0], -1) (1 + 1, 1, -a) = ([1125899906842624, 0 + (-b) + (-a), 0 + (-b), 0], 1) from rlx_yes (x := 0 + (-b)) (y := 1125899906842624) rfl rfl (by omega), show rlx ([1125899906842624, 0 + (-b) + (-a), 0 + (-b), 0], 1) (1 + 1, 1 + 1 + 1, 2 * b) = ([1125899906842624, 0 + (-b) + (-a), 0 + (-b), 0], 1) from rlx_no (x := 0 + (-b)) (y := 0) rfl rfl (by omega), show rlx ([1125899906842624, 0 + (-b) + (-a), 0 + (-b), 0], 1) (1 + 1 + 1, 1 + 1, -b) = ([1125899906842624, 0 + (-b) + (-a), 0 + (-b), 0], 1) from rlx_no (x := 0) (y := 0 + (-b)) rfl rfl (by omega)]
  have r2 : rnd (edgE [a, b]) [1125899906842624, 0 + (-b) + (-a), 0 + (-b), 0] = ([0 + (-b) + (-a) + (-300), 0 + (-b) + (-a), 0 + (-b), 0], 0) := by
    rw [rnd_2, show rlx ([1125899906842624, 0 + (-b) + (-a), 0 + (-b), 0], -1) (0, 1, 300) = ([1125899906842624, 0 + (-b) + (-a), 0 + (-b), 0], -1) from rlx_no (x := 1125899906842624) (y := 0 + (-b) + (-a)) rfl rfl (by omega), show rlx ([1125899906842624, 0 + (-b) + (-a), 0 + (-b), 0], -1) (1, 0, -300) = ([0 + (-b) + (-a) + (-300), 0 + (-b) + (-a), 0 + (-b), 0], 0) from rlx_yes (x := 0 + (-b) + (-a)) (y := 1125899906842624) rfl rfl (by omega), show rlx ([0 + (-b) + (-a) + (-300), 0 + (-b) + (-a), 0 + (-b), 0], 0) (1, 1 + 1, 2 * a) = ([0 + (-b) + (-a) + (-300), 0 + (-b) + (-a), 0 + (-b), 0], 0) from rlx_no (x := 0 + (-b) + (-a)) (y := 0 + (-b)) rfl rfl (by omega), show rlx ([0 + (-b) + (-a) + (-300), 0 + (-b) + (-a), 0 + (-b), 0], 0) (1 + 1, 1, -a) = ([0 + (-b) + (-a) + (-300), 0 + (-b) + (-a), 0 + (-b), 0], 0) from rlx_no (x := 0 + (-b)) (y := 0 + (-b) + (-a)) rfl rfl (by omega), show rlx ([0 + (-b) + (-a) + (-300), 0 + (-b) + (-a), 0 + (-b), 0], 0) (1 + 1, 1 + 1 + 1, 2 * b) = ([0 + (-b) + (-a) + (-300), 0 + (-b) + (-a), 0 + (-b), 0], 0) from rlx_no (x := 0 + (-b)) (y := 0) rfl rfl (by omega), show rlx ([0 + (-b) + (-a) + (-300), 0 + (-b) + (-a), 0 + (-b), 0], 0) (1 + 1 + 1, 1 + 1, -b) = ([0 + (-b) + (-a) + (-300), 0 + (-b) + (-a), 0 + (-b), 0], 0) from rlx_no (x := 0) (y := 0 + (-b)) rfl rfl (by omega)]
  have r3 : rnd (edgE [a, b]) [0 + (-b) + (-a) + (-300), 0 + (-b) + (-a), 0 + (-b), 0] = ([0 + (-b) + (-a) + (-300), 0 + (-b) + (-a), 0 + (-b), 0], -1) := by
    rw [rnd_2, show rlx ([0 + (-b) + (-a) + (-300), 0 + (-b) + (-a), 0 + (-b), 0], -1) (0, 1, 300) = ([0 + (-b) + (-a) + (-300), 0 + (-b) + (-a), 0 + (-b), 0], -1) from rlx_no (x := 0 + (-b) + (-a) + (-300)) (y := 0 + (-b) + (-a)) rfl rfl (by omega), show rlx ([0 + (-b) + (-a) + (-300), 0 + (-b) + (-a), 0 + (-b), 0], -1) (1, 0, -300) = ([0 + (-b) + (-a) + (-300), 0 + (-b) + (-a), 0 + (-b), 0], -1) from rlx_no (x := 0 + (-b) + (-a)) (y := 0 + (-b) + (-a) + (-300)) rfl rfl (by omega), show rlx ([0 + (-b) + (-a) + (-300), 0 + (-b) + (-a), 0 + (-b), 0], -1) (1, 1 + 1, 2 * a) = ([0 + (-b) + (-a) + (-300), 0 + (-b) + (-a), 0 + (-b), 0], -1) from rlx_no (x := 0 + (-b) + (-a)) (y := 0 + (-b)) rfl rfl (by omega), show rlx ([0 + (-b) + (-a) + (-300), 0 + (-b) + (-a), 0 + (-b), 0], -1) (1 + 1, 1, -a) = ([0 + (-b) + (-a) + (-300), 0 + (-b) + (-a), 0 + (-b), 0], -1) from rlx_no (x := 0 + (-b)) (y := 0 + (-b) + (-a)) rfl rfl (by omega), show rlx ([0 + (-b) + (-a) + (-300), 0 + (-b) + (-a), 0 + (-b), 0], -1) (1 + 1, 1 + 1 + 1, 2 * b) = ([0 + (-b) + (-a) + (-300), 0 + (-b) + (-a), 0 + (-b), 0], -1) from rlx_no (x := 0 + (-b)) (y := 0) rfl rfl (by omega), show rlx ([0 + (-b) + (-a) + (-300), 0 + (-b) + (-a), 0 + (-b), 0], -1) (1 + 1 + 1, 1 + 1, -b) = ([0 + (-b) + (-a) + (-300), 0 + (-b) + (-a), 0 + (-b), 0], -1) from rlx_no (x := 0) (y := 0 + (-b)) rfl rfl (by omega)]
  rw [show far0 4 3 = [1125899906842624, 1125899906842624, 1125899906842624, 0] from by decide, spr_on r0 (by decide), spr_on r1 (by decide), spr_on r2 (by decide)]
  exact spr_end r3
theorem rnd_3 {a b c : Int} {far : List Int} : rnd (edgE [a, b, c]) far = (rlx (rlx (rlx (rlx (rlx (rlx (rlx (rlx (far, -1) (0, 1, 300)) (1, 0, -300)) (1, 1 + 1, 2 * a)) (1 + 1, 1, -a)) (1 + 1, 1 + 1 + 1, 2 * b)) (1 + 1 + 1, 1 + 1, -b)) (1 + 1 + 1, 1 + 1 + 1 + 1, 2 * c)) (1 + 1 + 1 + 1, 1 + 1 + 1, -c)) := by simp only [rnd, edgE, splE, List.foldl]
set_option maxHeartbeats 4000000 in
theorem sp3n (a b c : Int) (ha : 1 ≤ a ∧ a ≤ 5000) (hb : 1 ≤ b ∧ b ≤ 5000) (hc : 1 ≤ c ∧ c ≤ 5000) : spr (edgE [a, b, c]) 6 (far0 5 (-1)) = some [0 + (-c) + (-b) + (-a) + (-300), 0 + (-c) + (-b) + (-a), 0 + (-c) + (-b), 0 + (-c), 0] := by
  have r0 : rnd (edgE [a, b, c]) [0, 0, 0, 0, 0] = ([0 + (-300), 0 + (-a), 0 + (-b), 0 + (-c), 0], 3) := by
    rw [rnd_3, show rlx ([0, 0, 0, 0, 0], -1) (0, 1, 300) = ([0, 0, 0, 0, 0], -1) from rlx_no (x := 0) (y := 0) rfl rfl (by omega), show rlx ([0, 0, 0, 0, 0], -1) (1, 0, -300) = ([0 + (-300), 0, 0, 0, 0], 0) from rlx_yes (x := 0) (y := 0) rfl rfl (by omega), show rlx ([0 + (-300), 0, 0, 0, 0], 0) (1, 1 + 1, 2 * a) = ([0 + (-300), 0, 0, 0, 0], 0) from rlx_no (x := 0) (y := 0) rfl rfl (by omega), show rlx ([0 + (-300), 0, 0, 0, 0], 0) (1 + 1, 1, -a) = ([0 + (-300), 0 + (-a), 0, 0, 0], 1) from rlx_yes (x := 0) (y := 0) rfl rfl (by omega), show rlx ([0 + (-300), 0 + (-a), 0, 0, 0], 1) (1 + 1, 1 + 1 + 1, 2 * b) = ([0 + (-300), 0 + (-a), 0, 0, 0], 1) from rlx_no (x := 0) (y := 0) rfl rfl (by omega), show rlx ([0 + (-300), 0 + (-a), 0, 0, 0], 1) (1 + 1 + 1, 1 + 1, -b) = ([0 + (-300), 0 + (-a), 0 + (-b), 0, 0], 2) from rlx_yes (x := 0) (y := 0) rfl rfl (by omega), show rlx ([0 + (-300), 0 + (-a), 0 + (-b), 0, 0], 2) (1 + 1 + 1, 1 + 1 + 1 + 1, 2 * c) = ([0 + (-300), 0 + (-a), 0 + (-b), 0, 0], 2) from rlx_no (x := 0) (y := 0) rfl rfl (by omega), show rlx ([0 + (-300), 0 + (-a), 0 + (-b), 0, 0], 2) (1 + 1 + 1 + 1, 1 + 1 + 1, -c) = ([0 + (-300), 0 + (-a), 0 + (-b), 0 + (-c), 0], 3) from rlx_yes (x := 0) (y := 0) rfl rfl (by omega)]
  have r1 : rnd (edgE [a, b, c]) [0 + (-300), 0 + (-a), 0 + (-b), 0 + (-c), 0] = ([0 + (-a) + (-300), 0 + (-b) + (-a), 0 + (-c) + (-b), 0 + (-c), 0], 2) := by
    rw [rnd_3, show rlx ([0 + (-300), 0 + (-a), 0 + (-b), 0 + (-c), 0], -1) (0, 1, 300) = ([0 + (-300), 0 + (-a), 0 + (-b), 0 + (-c), 0], -1) from rlx_no (x := 0 + (-300)) (y := 0 + (-a)) rfl rfl (by omega), show rlx ([0 + (-300), 0 + (-a), 0 + (-b), 0 + (-c), 0], -1) (1, 0, -300) = ([0 + (-a) + (-300), 0 + (-a), 0 + (-b), 0 + (-c), 0], 0) from rlx_yes (x := 0 + (-a)) (y := 0 + (-300)) rfl rfl (by omega), show rlx ([0 + (-a) + (-300), 0 + (-a), 0 + (-b), 0 + (-c), 0], 0) (1, 1 + 1, 2 * a) = ([0 + (-a) + (-300), 0 + (-a), 0 + (-b), 0 + (-c), 0], 0) from rlx_no (x := 0 + (-a)) (y := 0 + (-b)) rfl rfl (by omega), show rlx ([0 + (-a) + (-300), 0 + (-a), 0 + (-b), 0 + (-c), 0], 0) (1 + 1, 1, -a) = ([0 + (-a) + (-300), 0 + (-b) + (-a), 0 + (-b), 0 + (-c), 0], 1) from rlx_yes (x := 0 + (-b)) (y := 0 + (-a)) rfl rfl (by omega), show rlx ([0 + (-a) + (-300), 0 + (-b) + (-a), 0 + (-b), 0 + (-c), 0], 1) (1 + 1, 1 + 1 + 1, 2 * b) = ([0 + (-a) + (-300), 0 + (-b) + (-a), 0 + (-b), 0 + (-c), 0], 1) from rlx_no (x := 0 + (-b)) (y := 0 + (-c)) rfl rfl (by omega), show rlx ([0 + (-a) + (-300), 0 + (-b) + (-a), 0 + (-b), 0 + (-c), 0], 1) (1 + 1 + 1, 1 + 1, -b) = ([0 + (-a) + (-300), 0 + (-b) + (-a), 0 + (-c) + (-b), 0 + (-c), 0], 2) from rlx_yes (x := 0 + (-c)) (y := 0 + (-b)) rfl rfl (by omega), show rlx ([0 + (-a) + (-300), 0 + (-b) + (-a), 0 + (-c) + (-b), 0 + (-c), 0], 2) (1 + 1 + 1, 1 + 1 + 1 + 1, 2 * c) = ([0 + (-a) + (-300), 0 + (-b) + (-a), 0 + (-c) + (-b), 0 + (-c), 0], 2) from rlx_no (x := 0 + (-c)) (y := 0) rfl rfl (by omega), show rlx ([0 + (-a) + (-300), 0 + (-b) + (-a), 0 + (-c) + (-b), 0 + (-c), 0], 2) (1 + 1 + 1 + 1, 1 + 1 + 1, -c) = ([0 + (-a) + (-300), 0 + (-b) + (-a), 0 + (-c) + (-b), 0 + (-c), 0], 2) from rlx_no (x := 0) (y := 0 + (-c)) rfl rfl (by omega)]
  have r2 : rnd (edgE [a, b, c]) [0 + (-a) + (-300), 0 + (-b) + (-a), 0 + (-c) + (-b), 0 + (-c), 0] = ([0 + (-b) + (-a) + (-300), 0 + (-c) + (-b) + (-a), 0 + (-c) + (-b), 0 + (-c), 0], 1) := by
    rw [rnd_3, show rlx ([0 + (-a) + (-300), 0 + (-b) + (-a), 0 + (-c) + (-b), 0 + (-c), 0], -1) (0, 1, 300) = ([0 + (-a) + (-300), 0 + (-b) + (-a), 0 + (-c) + (-b), 0 + (-c), 0], -1) from rlx_no (x := 0 + (-a) + (-300)) (y := 0 + (-b) + (-a)) rfl rfl (by omega), show rlx ([0 + (-a) + (-300), 0 + (-b) + (-a), 0 + (-c) + (-b), 0 + (-c), 0], -1) (1, 0, -300) = ([0 + (-b) + (-a) + (-300), 0 + (-b) + (-a), 0 + (-c) + (-b), 0 + (-c), 0], 0) from rlx_yes (x := 0 + (-b) + (-a)) (y := 0 + (-a) + (-300)) rfl rfl (by omega), show rlx ([0 + (-b) + (-a) + (-300), 0 + (-b) + (-a), 0 + (-c) + (-b), 0 + (-c), 0], 0) (1, 1 + 1, 2 * a) = ([0 + (-b) + (-a) + (-300), 0 + (-b) + (-a), 0 + (-c) + (-b), 0 + (-c), 0], 0) from rlx_no (x := 0 + (-b) + (-a)) (y := 0 + (-c) + (-b)) rfl rfl (by omega), show rlx ([0 + (-b) + (-a) + (-300), 0 + (-b) + (-a), 0 + (-c) + (-b), 0 + (-c), 0], 0) (1 + 1, 1, -a) = ([0 + (-b) + (-a) + (-300), 0 + (-c) + (-b) + (-a), 0 + (-c) + (-b), 0 + (-c), 0], 1) from rlx_yes (x := 0 + (-c) + (-b)) (y := 0 + (-b) + (-a)) rfl rfl (by omega), show rlx ([0 + (-b) + (-a) + (-300), 0 + (-c) + (-b) + (-a), 0 + (-c) + (-b), 0 + (-c), 0], 1) (1 + 1, 1 + 1 + 1, 2 * b) = ([0 + (-b) + (-a) + (-300), 0 + (-c) + (-b) + (-a), 0 + (-c) + (-b), 0 + (-c), 0], 1) from rlx_no (x := 0 + (-c) + (-b)) (y := 0 + (-c)) rfl rfl (by omega), show rlx ([0 + (-b) + (-a) + (-300), 0 + (-c) + (-b) + (-a), 0 + (-c) + (-b), 0 + (-c), 0], 1) (1 + 1 + 1, 1 + 1, -b) = ([0 + (-b) + (-a) + (-300), 0 + (-c) + (-b) + (-a), 0 + (-c) + (-b), 0 + (-c), 0], 1) from rlx_no (x := 0 + (-c)) (y := 0 + (-c) + (-b)) rfl rfl (by omega), show rlx ([0 + (-b) + (-a) + (-300), 0 + (-c) + (-b) + (-a), 0 + (-c) + (-b), 0 + (-c), 0], 1) (1 + 1 + 1, 1 + 1 + 1 + 1, 2 * c) = ([0 + (-b) + (-a) + (-300), 0 + (-c) + (-b) + (-a), 0 + (-c) + (-b), 0 + (-c), 0], 1) from rlx_no (x := 0 + (-c)) (y := 0) rfl rfl (by omega), show rlx ([0 + (-b) + (-a) + (-300), 0 + (-c) + (-b) + (-a), 0 + (-c) + (-b), 0 + (-c), 0], 1) (1 + 1 + 1 + 1, 1 + 1 + 1, -c) = ([0 + (-b) + (-a) + (-300), 0 + (-c) + (-b) + (-a), 0 + (-c) + (-b), 0 + (-c), 0], 1) from rlx_no (x := 0) (y := 0 + (-c)) rfl rfl (by omega)]
  have r3 : rnd (edgE [a, b, c]) [0 + (-b) + (-a) + (-300), 0 + (-c) + (-b) + (-a), 0 + (-c) + (-b), 0 + (-c), 0] = ([0 + (-c) + (-b) + (-a) + (-300), 0 + (-c) + (-b) + (-a), 0 + (-c) + (-b), 0 + (-c), 0], 0) := by
    rw [rnd_3, show rlx ([0 + (-b) + (-a) + (-300), 0 + (-c) + (-b) + (-a), 0 + (-c) + (-b), 0 + (-c), 0], -1) (0, 1, 300) = ([0 + (-b) + (-a) + (-300), 0 + (-c) + (-b) + (-a), 0 + (-c) + (-b), 0 + (-c), 0], -1) from rlx_no (x := 0 + (-b) + (-a) + (-300)) (y := 0 + (-c) + (-b) + (-a)) rfl rfl (by omega), show rlx ([0 + (-b) + (-a) + (-300), 0 + (-c) + (-b) + (-a), 0 + (-c) + (-b), 0 + (-c), 0], -1) (1, 0, -300) = ([0 + (-c) + (-b) + (-a) + (-300), 0 + (-c) + (-b) + (-a), 0 + (-c) + (-b), 0 + (-c), 0], 0) from rlx_yes (x := 0 + (-c) + (-b) + (-a)) (y := 0 + (-b) + (-a) + (-300)) rfl rfl (by omega), show rlx ([0 + (-c) + (-b) + (-a) + (-300), 0 + (-c) + (-b) + (-a), 0 + (-c) + (-b), 0 + (-c), 0], 0) (1, 1 + 1, 2 * a) = ([0 + (-c) + (-b) + (-a) + (-300), 0 + (-c) + (-b) + (-a), 0 + (-c) + (-b), 0 + (-c), 0], 0) from rlx_no (x := 0 + (-c) + (-b) + (-a)) (y := 0 + (-c) + (-b)) rfl rfl (by omega), show rlx ([0 + (-c) + (-b) + (-a) + (-300), 0 + (-c) + (-b) + (-a), 0 + (-c) + (-b), 0 + (-c), 0], 0) (1 + 1, 1, -a) = ([0 + (-c) + (-b) + (-a) + (-300), 0 + (-c) + (-b) + (-a), 0 + (-c) + (-b), 0 + (-c), 0], 0) from rlx_no (x := 0 + (-c) + (-b)) (y := 0 + (-c) + (-b) + (-a)) rfl rfl (by omega), show rlx ([0 + (-c) + (-b) + (-a) + (-300), 0 + (-c) + (-b) + (-a), 0 + (-c) + (-b), 0 + (-c), 0], 0) (1 + 1, 1 + 1 + 1, 2 * b) = ([0 + (-c) + (-b) + (-a) + (-300), 0 + (-c) + (-b) + (-a), 0 + (-c) + (-b), 0 + (-c), 0], 0) from rlx_no (x := 0 + (-c) + (-b)) (y := 0 + (-c)) rfl rfl (by omega), show rlx ([0 + (-c) + (-b) + (-a) + (-300), 0 + (-c) + (-b) + (-a), 0 + (-c) + (-b), 0 + (-c), 0], 0) (1 + 1 + 1, 1 + 1, -b) = ([0 + (-c) + (-b) + (-a) + (-300), 0 + (-c) + (-b) + (-a), 0 + (-c) + (-b), 0 + (-c), 0], 0) from rlx_no (x := 0 + (-c)) (y := 0 + (-c) + (-b)) rfl rfl (by omega), show rlx ([0 + (-c) + (-b) + (-a) + (-300), 0 + (-c) + (-b) + (-a), 0 + (-c) + (-b), 0 + (-c), 0], 0) (1 + 1 + 1, 1 + 1 + 1 + 1, 2 * c) = ([0 + (-c) + (-b) + (-a) + (-300), 0 + (-c) + (-b) + (-a), 0 + (-c) + (-b), 0 + (-c), 0], 0) from rlx_no (x := 0 + (-c)) (y := 0) rfl rfl (by omega), show rlx ([0 + (-c) + (-b) + (-a) + (-300), 0 + (-c) + (-b) + (-a), 0 + (-c) + (-b), 0 + (-c), 0], 0) (1 + 1 + 1 + 1, 1 + 1 + 1, -c) = ([0 + (-c) + (-b) + (-a) + (-300), 0 + (-c) + (-b) + (-a), 0 + (-c) + (-b), 0 + (-c), 0], 0) from rlx_no (x := 0) (y := 0 + (-c)) rfl rfl (by omega)]
  have r4 : rnd (edgE [a, b, c]) [0 + (-c) + (-b) + (-a) + (-300), 0 + (-c) + (-b) + (-a), 0 + (-c) + (-b), 0 + (-c), 0] = ([0 + (-c) + (-b) + (-a) + (-300), 0 + (-c) + (-b) + (-a), 0 + (-c) + (-b), 0 + (-c), 0], -1) := by
    rw [rnd_3, show rlx ([0 + (-c) + (-b) + (-a) + (-300), 0 + (-c) + (-b) + (-a), 0 + (-c) + (-b), 0 + (-c), 0], -1) (0, 1, 300) = ([0 + (-c) + (-b) + (-a) + (-300), 0 + (-c) + (-b) + (-a), 0 + (-c) + (-b), 0 + (-c), 0], -1) from rlx_no (x := 0 + (-c) + (-b) + (-a) + (-300)) (y := 0 + (-c) + (-b) + (-a)) rfl rfl (by omega), show rlx ([0 + (-c) + (-b) + (-a) + (-300), 0 + (-c) + (-b) + (-a), 0 + (-c) + (-b), 0 + (-c), 0], -1) (1, 0, -300) = ([0 + (-c) + (-b) + (-a) + (-300), 0 + (-c) + (-b) + (-a), 0 + (-c) + (-b), 0 + (-c), 0], -1) from rlx_no (x := 0 + (-c) + (-b) + (-a)) (y := 0 + (-c) + (-b) + (-a) + (-300)) rfl rfl (by omega), show rlx ([0 + (-c) + (-b) + (-a) + (-300), 0 + (-c) + (-b) + (-a), 0 + (-c) + (-b), 0 + (-c), 0], -1) (1, 1 + 1, 2 * a) = ([0 + (-c) + (-b) + (-a) + (-300), 0 + (-c) + (-b) + (-a), 0 + (-c) + (-b), 0 + (-c), 0], -1) from rlx_no (x := 0 + (-c) + (-b) + (-a)) (y := 0 + (-c) + (-b)) rfl rfl (by omega), show rlx ([0 + (-c) + (-b) + (-a) + (-300), 0 + (-c) + (-b) + (-a), 0 + (-c) + (-b), 0 + (-c), 0], -1) (1 + 1, 1, -a) = ([0 + (-c) + (-b) + (-a) + (-300), 0 + (-c) + (-b) + (-a), 0 + (-c) + (-b), 0 + (-c), 0], -1) from rlx_no (x := 0 + (-c) + (-b)) (y := 0 + (-c) + (-b) + (-a)) rfl rfl (by omega), show rlx ([0 + (-c) + (-b) + (-a) + (-300), 0 + (-c) + (-b) + (-a), 0 + (-c) + (-b), 0 + (-c), 0], -1) (1 + 1, 1 + 1 + 1, 2 * b) = ([0 + (-c) + (-b) + (-a) + (-300), 0 + (-c) + (-b) + (-a), 0 + (-c) + (-b), 0 + (-c), 0], -1) from rlx_no (x := 0 + (-c) + (-b)) (y := 0 + (-c)) rfl rfl (by omega), show rlx ([0 + (-c) + (-b) + (-a) + (-300), 0 + (-c) + (-b) + (-a), 0 + (-c) + (-b), 0 + (-c), 0], -1) (1 + 1 + 1, 1 + 1, -b) = ([0 + (-c) + (-b) + (-a) + (-300), 0 + (-c) + (-b) + (-a), 0 + (-c) + (-b), 0 + (-c), 0], -1) from rlx_no (x := 0 + (-c)) (y := 0 + (-c) + (-b)) rfl rfl (by omega), show rlx ([0 + (-c) + (-b) + (-a) + (-300), 0 + (-c) + (-b) + (-a), 0 + (-c) + (-b), 0 + (-c), 0], -1) (1 + 1 + 1, 1 + 1 + 1 + 1, 2 * c) = ([0 + (-c) + (-b) + (-a) + (-300), 0 + (-c) + (-b) + (-a), 0 + (-c) + (-b), 0 + (-c), 0], -1) from rlx_no (x := 0 + (-c)) (y := 0) rfl rfl (by omega), show rlx ([0 + (-c) + (-b) + (-a) + (-300), 0 + (-c) + (-b) + (-a), 0 + (-c) + (-b), 0 + (-c), 0], -1) (1 + 1 + 1 + 1, 1 + 1 + 1, -c) = ([0 + (-c) + (-b) + (-a) + (-300), 0 + (-c) + (-b) + (-a), 0 + (-c) + (-b), 0 + (-c), 0], -1) from rlx_no (x := 0) (y := 0 + (-c)) rfl rfl (by omega)]
  rw [show far0 5 (-1) = [0, 0, 0, 0, 0] from by decide, spr_on r0 (by decide), spr_on r1 (by decide), spr_on r2 (by decide), spr_on r3 (by decide)]
  exact spr_end r4
set_option maxHeartbeats 4000000 in
theorem sp3z (a b c : Int) (ha : 1 ≤ a ∧ a ≤ 5000) (hb : 1 ≤ b ∧ b ≤ 5000) (hc : 1 ≤ c ∧ c ≤ 5000) : spr (edgE [a, b, c]) 6 (far0 5 0) = some [0, 0 + 300, 0 + 300 + 2 * a, 0 + 300 + 2 * a + 2 * b, 0 + 300 + 2 * a + 2 * b + 2 * c] := by
  have r0 : rnd (edgE [a, b, c]) [0, 1125899906842624, 1125899906842624, 1125899906842624, 1125899906842624] = ([0, 0 + 300, 0 + 300 + 2 * a, 0 + 300 + 2 * a + 2 * b, 0 + 300 + 2 * a + 2 * b + 2 * c], 4) := by
    rw [rnd_3, show rlx ([0, 1125899906842624, 1125899906842624, 1125899906842624, 1125899906842624], -1) (0, 1, 300) = ([0, 0 + 300, 1125899906842624, 1125899906842624, 1125899906842624], 1) from rlx_yes (x := 0) (y := 1125899906842624) rfl rfl (by omega), show rlx ([0, 0 + 300, 1125899906842624, 1125899906842624, 1125899906842624], 1) (1, 0, -300) = ([0, 0 + 300, 1125899906842624, 1125899906842624, 1125899906842624], 1) from rlx_no (x := 0 + 300) (y := 0) rfl rfl (by omega), show rlx ([0, 0 + 300, 1125899906842624, 1125899906842624, 1125899906842624], 1) (1, 1 + 1, 2 * a) = ([0, 0 + 300, 0 + 300 + 2 * a, 1125899906842624, 1125899906842624], 2) from rlx_yes (x := 0 + 300) (y := 1125899906842624) rfl rfl (by omega), show rlx ([0, 0 + 300, 0 + 300 + 2 * a, 1125899906842624, 1125899906842624], 2) (1 + 1, 1, -a) = ([0, 0 + 300, 0 + 300 + 2 * a, 1125899906842624, 1125899906842624], 2) from rlx_no (x := 0 + 300 + 2 * a) (y := 0 + 300) rfl rfl (by omega), show rlx ([0, 0 + 300, 0 + 300 + 2 * a, 1125899906842624, 1125899906842624], 2) (1 + 1, 1 + 1 + 1, 2 * b) = ([0, 0 + 300, 0 + 300 + 2 * a, 0 + 300 + 2 * a + 2 * b, 1125899906842624], 3) from rlx_yes (x := 0 + 300 + 2 * a) (y := 1125899906842624) rfl rfl (by omega), show rlx ([0, 0 + 300, 0 + 300 + 2 * a, 0 + 300 + 2 * a + 2 * b, 1125899906842624], 3) (1 + 1 + 1, 1 + 1, -b) = ([0, 0 + 300, 0 + 300 + 2 * a, 0 + 300 + 2 * a + 2 * b, 1125899906842624], 3) from rlx_no (x := 0 + 300 + 2 * a + 2 * b) (y := 0 + 300 + 2 * a) rfl rfl (by omega), show rlx ([0, 0 + 300, 0 + 300 + 2 * a, 0 + 300 + 2 * a + 2 * b, 1125899906842624], 3) (1 + 1 + 1, 1 + 1 + 1 + 1, 2 * c) = ([0, 0 + 300, 0 + 300 + 2 * a, 0 + 300 + 2 * a + 2 * b, 0 + 300 + 2 * a + 2 * b + 2 * c], 4) from rlx_yes (x := 0 + 300 + 2 * a + 2 * b) (y := 1125899906842624) rfl rfl (by omega), show rlx ([0, 0 + 300, 0 + 300 + 2 * a, 0 + 300 + 2 * a + 2 * b, 0 + 300 + 2 * a + 2 * b + 2 * c], 4) (1 + 1 + 1 + 1, 1 + 1 + 1, -c) = ([0, 0 + 300, 0 + 300 + 2 * a, 0 + 300 + 2 * a + 2 * b, 0 + 300 + 2 * a + 2 * b + 2 * c], 4) from rlx_no (x := 0 + 300 + 2 * a + 2 * b + 2 * c) (y := 0 + 300 + 2 * a + 2 * b) rfl rfl (by omega)]
  have r1 : rnd (edgE [a, b, c]) [0, 0 + 300, 0 + 300 + 2 * a, 0 + 300 + 2 * a + 2 * b, 0 + 300 + 2 * a + 2 * b + 2 * c] = ([0, 0 + 300, 0 + 300 + 2 * a, 0 + 300 + 2 * a + 2 * b, 0 + 300 + 2 * a + 2 * b + 2 * c], -1) := by
    rw [rnd_3, show rlx ([0, 0 + 300, 0 + 300 + 2 * a, 0 + 300 + 2 * a + 2 * b, 0 + 300 + 2 * a + 2 * b + 2 * c], -1) (0, 1, 300) = ([0, 0 + 300, 0 + 300 + 2 * a, 0 + 300 + 2 * a + 2 * b, 0 + 300 + 2 * a + 2 * b + 2 * c], -1) from rlx_no (x := 0) (y := 0 + 300) rfl rfl (by omega), show rlx ([0, 0 + 300, 0 + 300 + 2 * a, 0 + 300 + 2 * a + 2 * b, 0 + 300 + 2 * a + 2 * b + 2 * c], -1) (1, 0, -300) = ([0, 0 + 300, 0 + 300 + 2 * a, 0 + 300 + 2 * a + 2 * b, 0 + 300 + 2 * a + 2 * b + 2 * c], -1) from rlx_no (x := 0 + 300) (y := 0) rfl rfl (by omega), show rlx ([0, 0 + 300, 0 + 300 + 2 * a, 0 + 300 + 2 * a + 2 * b, 0 + 300 + 2 * a + 2 * b + 2 * c], -1) (1, 1 + 1, 2 * a) = ([0, 0 + 300, 0 + 300 + 2 * a, 0 + 300 + 2 * a + 2 * b, 0 + 300 + 2 * a + 2 * b + 2 * c], -1) from rlx_no (x := 0 + 300) (y := 0 + 300 + 2 * a) rfl rfl (by omega), show rlx ([0, 0 + 300, 0 + 300 + 2 * a, 0 + 300 + 2 * a + 2 * b, 0 + 300 + 2 * a + 2 * b + 2 * c], -1) (1 + 1, 1, -a) = ([0, 0 + 300, 0 + 300 + 2 * a, 0 + 300 + 2 * a + 2 * b, 0 + 300 + 2 * a + 2 * b + 2 * c], -1) from rlx_no (x := 0 + 300 + 2 * a) (y := 0 + 300) rfl rfl (by omega), show rlx ([0, 0 + 300, 0 + 300 + 2 * a, 0 + 300 + 2 * a + 2 * b, 0 + 300 + 2 * a + 2 * b + 2 * c], -1) (1 + 1, 1 + 1 + 1, 2 * b) = ([0, 0 + 300, 0 + 300 + 2 * a, 0 + 300 + 2 * a + 2 * b, 0 + 300 + 2 * a + 2 * b + 2 * c], -1) from rlx_no (x := 0 + 300 + 2 * a) (y := 0 + 300 + 2 * a + 2 * b) rfl rfl (by omega), show rlx ([0, 0 + 300, 0 + 300 + 2 * a, 0 + 300 + 2 * a + 2 * b, 0 + 300 + 2 * a + 2 * b + 2 * c], -1) (1 + 1 + 1, 1 + 1, -b) = ([0, 0 + 300, 0 + 300 + 2 * a, 0 + 300 + 2 * a + 2 * b, 0 + 300 + 2 * a + 2 * b + 2 * c], -1) from rlx_no (x := 0 + 300 + 2 * a + 2 * b) (y := 0 + 300 + 2 * a) rfl rfl (by omega), show rlx ([0, 0 + 300, 0 + 300 + 2 * a, 0 + 300 + 2 * a + 2 * b, 0 + 300 + 2 * a + 2 * b + 2 * c], -1) (1 + 1 + 1, 1 + 1 + 1 + 1, 2 * c) = ([0, 0 + 300, 0 + 300 + 2 * a, 0 + 300 + 2 * a + 2 * b, 0 + 300 + 2 * a + 2 * b + 2 * c], -1) from rlx_no (x := 0 + 300 + 2 * a + 2 * b) (y := 0 + 300 + 2 * a + 2 * b + 2 * c) rfl rfl (by omega), show rlx ([0, 0 + 300, 0 + 300 + 2 * a, 0 + 300 + 2 * a + 2 * b, 0 + 300 + 2 * a + 2 * b + 2 * c], -1) (1 + 1 + 1 + 1, 1 + 1 + 1, -c) = ([0, 0 + 300, 0 + 300 + 2 * a, 0 + 300 + 2 * a + 2 * b, 0 + 300 + 2 * a + 2 * b + 2 * c], -1) from rlx_no (x := 0 + 300 + 2 * a + 2 * b + 2 * c) (y := 0 + 300 + 2 * a + 2 * b) rfl rfl (by omega)]
  rw [show far0 5 0 = [0, 1125899906842624, 1125899906842624, 1125899906842624, 1125899906842624] from by decide, spr_on r0 (by decide)]
  exact spr_end r1
set_option maxHeartbeats 4000000 in
theorem sp3e (a b c : Int) (ha : 1 ≤ a ∧ a ≤ 5000) (hb : 1 ≤ b ∧ b ≤ 5000) (hc : 1 ≤ c ∧ c ≤ 5000) : spr (edgE [a, b, c]) 6 (far0 5 4) = some [0 + (-c) + (-b) + (-a) + (-300), 0 + (-c) + (-b) + (-a), 0 + (-c) + (-b), 0 + (-c), 0] := by
  have r0 : rnd (edgE [a, b, c]) [1125899906842624, 1125899906842624, 1125899906842624, 1125899906842624, 0] = ([1125899906842624, 1125899906842624, 1125899906842624, 0 + (-c), 0], 3) := by
    rw [rnd_3, show rlx ([1125899906842624, 1125899906842624, 1125899906842624, 1125899906842624, 0], -1) (0, 1, 300) = ([1125899906842624, 1125899906842624, 1125899906842624, 1125899906842624, 0], -1) from rlx_no (x := 1125899906842624) (y := 1125899906842624) rfl rfl (by omega), show rlx ([1125899906842624, 1125899906842624, 1125899906842624, 1125899906842624, 0], -1) (1, 0, -300) = ([1125899906842624, 1125899906842624, 1125899906842624, 1125899906842624, 0], -1) from rlx_no (x := 1125899906842624) (y := 1125899906842624) rfl rfl (by omega), show rlx ([1125899906842624, 1125899906842624, 1125899906842624, 1125899906842624, 0], -1) (1, 1 + 1, 2 * a) = ([1125899906842624, 1125899906842624, 1125899906842624, 1125899906842624, 0], -1) from rlx_no (x := 1125899906842624) (y := 1125899906842624) rfl rfl (by omega), show rlx ([1125899906842624, 1125899906842624, 1125899906842624, 1125899906842624, 0], -1) (1 + 1, 1, -a) = ([1125899906842624, 1125899906842624, 1125899906842624, 1125899906842624, 0], -1) from rlx_no (x := 1125899906842624) (y := 1125899906842624) rfl rfl (by omega), show rlx ([1125899906842624, 1125899906842624, 1125899906842624, 1125899906842624, 0], -1) (1 + 1, 1 + 1 + 1, 2 * b) = ([1125899906842624, 1125899906842624, 1125899906842624, 1125899906842624, 0], -1) from rlx_no (x := 1125899906842624) (y := 1125899906842624) rfl rfl (by omega), show rlx ([1125899906842624, 1125899906842624, 1125899906842624, 1125899906842624, 0], -1) (1 + 1 + 1, 1 + 1, -b) = ([1125899906842624, 1125899906842624, 1125899906842624, 1125899906842624, 0], -1) from rlx_no (x := 1125899906842624) (y := 1125899906842624) rfl rfl (by omega), show rlx ([1125899906842624, 1125899906842624, 1125899906842624, 1125899906842624, 0], -1) (1 + 1 + 1, 1 + 1 + 1 + 1, 2 * c) = ([1125899906842624, 1125899906842624, 1125899906842624, 1125899906842624, 0], -1) from rlx_no (x := 1125899906842624) (y := 0) rfl rfl (by omega), show rlx ([1125899906842624, 1125899906842624, 1125899906842624, 1125899906842624, 0], -1) (1 + 1 + 1 + 1, 1 + 1 + 1, -c) = ([1125899906842624, 1125899906842624, 1125899906842624, 0 + (-c), 0], 3) from rlx_yes (x := 0) (y := 1125899906842624) rfl rfl (by omega)]
  have r1 : rnd (edgE [a, b, c]) [1125899906842624, 1125899906842624, 1125899906842624, 0 + (-c), 0] = ([1125899906842624, 1125899906842624, 0 + (-c) + (-b), 0 + (-c), 0], 2) := by
    rw [rnd_3, show rlx ([1125899906842624, 1125899906842624, 1125899906842624, 0 + (-c), 0], -1) (0, 1, 300) = ([1125899906842624, 1125899906842624, 1125899906842624, 0 + (-c), 0], -1) from rlx_no (x := 1125899906842624) (y := 1125899906842624) rfl rfl (by omega), show rlx ([1125899906842624, 1125899906842624, 1125899906842624, 0 + (-c), 0], -1) (1, 0, -300) = ([1125899906842624, 1125899906842624, 1125899906842624, 0 + (-c), 0], -1) from rlx_no (x := 1125899906842624) (y := 1125899906842624) rfl rfl (by omega), show rlx ([1125899906842624, 1125899906842624, 1125899906842624, 0 + (-c), 0], -1) (1, 1 + 1, 2 * a) = ([1125899906842624, 1125899906842624, 1125899906842624, 0 + (-c), 0], -1) from rlx_no (x := 1125899906842624) (y := 1125899906842624) rfl rfl (by omega), show rlx ([1125899906842624, 1125899906842624, 1125899906842624, 0 + (-c), 0], -1) (1 + 1, 1, -a) = ([1125899906842624, 1125899906842624, 1125899906842624, 0 + (-c), 0], -1) from rlx_no (x := 1125899906842624) (y := 1125899906842624) rfl rfl (by omega), show rlx ([1125899906842624, 1125899906842624, 1125899906842624, 0 + (-c), 0], -1) (1 + 1, 1 + 1 + 1, 2 * b) = ([1125899906842624, 1125899906842624, 1125899906842624, 0 + (-c), 0], -1) from rlx_no (x := 1125899906842624) (y := 0 + (-c)) rfl rfl (by omega), show rlx ([1125899906842624, 1125899906842624, 1125899906842624, 0 + (-c), 0], -1) (1 + 1 + 1, 1 + 1, -b) = ([1125899906842624, 1125899906842624, 0 + (-c) + (-b), 0 + (-c), 0], 2) from rlx_yes (x := 0 + (-c)) (y := 1125899906842624) rfl rfl (by omega), show rlx ([1125899906842624, 1125899906842624, 0 + (-c) + (-b), 0 + (-c), 0], 2) (1 + 1 + 1, 1 + 1 + 1 + 1, 2 * c) = ([1125899906842624, 1125899906842624, 0 + (-c) + (-b), 0 + (-c), 0], 2) from rlx_no (x := 0 + (-c)) (y := 0) rfl rfl (by omega), show rlx ([1125899906842624, 1125899906842624, 0 + (-c) + (-b), 0 + (-c), 0], 2) (1 + 1 + 1 + 1, 1 + 1 + 1, -c) = ([1125899906842624, 1125899906842624, 0 + (-c) + (-b), 0 + (-c), 0], 2) from rlx_no (x := 0) (y := 0 + (-c)) rfl rfl (by omega)]
  have r2 : rnd (edgE [a, b, c]) [1125899906842624, 1125899906842624, 0 + (-c) + (-b), 0 + (-c), 0] = ([1125899906842624, 0 + (-c) + (-b) + (-a), 0 + (-c) + (-b), 0 + (-c), 0], 1) := by
    rw [rnd_3, show rlx ([1125899906842624, 1125899906842624, 0 + (-c) + (-b), 0 + (-c), 0], -1) (0, 1, 300) = ([1125899906842624, 1125899906842624, 0 + (-c) + (-b), 0 + (-c), 0], -1) from rlx_no (x := 1125899906842624) (y := 1125899906842624) rfl rfl (by omega), show rlx ([1125899906842624, 1125899906842624, 0 + (-c) + (-b), 0 + (-c), 0], -1) (1, 0, -300) = ([1125899906842624, 1125899906842624, 0 + (-c) + (-b), 0 + (-c), 0], -1) from rlx_no (x := 1125899906842624) (y := 1125899906842624) rfl rfl (by omega), show rlx ([1125899906842624, 1125899906842624, 0 + (-c) + (-b), 0 + (-c), 0], -1) (1, 1 + 1, 2 * a) = ([1125899906842624, 1125899906842624, 0 + (-c) + (-b), 0 + (-c), 0], -1) from rlx_no (x := 1125899906842624) (y := 0 + (-c) + (-b)) rfl rfl (by omega), show rlx ([1125899906842624, 1125899906842624, 0 + (-c) + (-b), 0 + (-c), 0], -1) (1 + 1, 1, -a) = ([1125899906842624, 0 + (-c) + (-b) + (-a), 0 + (-c) + (-b), 0 + (-c), 0], 1) from rlx_yes (x := 0 + (-c) + (-b)) (y := 1125899906842624) rfl rfl (by omega), show rlx ([1125899906842624, 0 + (-c) + (-b) + (-a), 0 + (-c) + (-b), 0 + (-c), 0], 1) (1 + 1, 1 + 1 + 1, 2 * b) = ([1125899906842624, 0 + (-c) + (-b) + (-a), 0 + (-c) + (-b), 0 + (-c), 0], 1) from rlx_no (x := 0 + (-c) + (-b)) (y := 0 + (-c)) rfl rfl (by omega), show rlx ([1125899906842624, 0 + (-c) + (-b) + (-a), 0 + (-c) + (-b), 0 + (-c), 0], 1) (1 + 1 + 1, 1 + 1, -b) = ([1125899906842624, 0 + (-c) + (-b) + (-a), 0 + (-c) + (-b), 0 + (-c), 0], 1) from rlx_no (x := 0 + (-c)) (y := 0 + (-c) + (-b)) rfl rfl (by omega), show rlx ([1125899906842624, 0 + (-c) + (-b) + (-a), 0 + (-c) + (-b), 0 + (-c), 0], 1) (1 + 1 + 1, 1 + 1 + 1 + 1, 2 * c) = ([1125899906842624, 0 + (-c) + (-b) + (-a), 0 + (-c) + (-b), 0 + (-c), 0], 1) from rlx_no (x := 0 + (-c)) (y := 0) rfl rfl (by omega), show rlx ([1125899906842624, 0 + (-c) + (-b) + (-a), 0 + (-c) + (-b), 0 + (-c), 0], 1) (1 + 1 + 1 + 1, 1 + 1 + 1, -c) = ([1125899906842624, 0 + (-c) + (-b) + (-a), 0 + (-c) + (-b), 0 + (-c), 0], 1) from rlx_no (x := 0) (y := 0 + (-c)) rfl rfl (by omega)]
  have r3 : rnd (edgE [a, b, c]) [1125899906842624, 0 + (-c) + (-b) + (-a), 0 + (-c) + (-b), 0 + (-c), 0] = ([0 + (-c) + (-b) + (-a) + (-300), 0 + (-c) + (-b) + (-a), 0 + (-c) + (-b), 0 + (-c), 0], 0) := by
    rw [rnd_3, show rlx ([1125899906842624, 0 + (-c) + (-b) + (-a), 0 + (-c) + (-b), 0 + (-c), 0], -1) (0, 1, 300) = ([1125899906842624, 0 + (-c) + (-b) + (-a), 0 + (-c) + (-b), 0 + (-c), 0], -1) from rlx_no (x := 1125899906842624) (y := 0 + (-c) + (-b) + (-a)) rfl rfl (by omega), show rlx ([1125899906842624, 0 + (-c) + (-b) + (-a), 0 + (-c) + (-b), 0 + (-c), 0], -1) (1, 0, -300) = ([0 + (-c) + (-b) + (-a) + (-300), 0 + (-c) + (-b) + (-a), 0 + (-c) + (-b), 0 + (-c), 0], 0) from rlx_yes (x := 0 + (-c) + (-b) + (-a)) (y := 1125899906842624) rfl rfl (by omega), show rlx ([0 + (-c) + (-b) + (-a) + (-300), 0 + (-c) + (-b) + (-a), 0 + (-c) + (-b), 0 + (-c), 0], 0) (1, 1 + 1, 2 * a) = ([0 + (-c) + (-b) + (-a) + (-300), 0 + (-c) + (-b) + (-a), 0 + (-c) + (-b), 0 + (-c), 0], 0) from rlx_no (x := 0 + (-c) + (-b) + (-a)) (y := 0 + (-c) + (-b)) rfl rfl (by omega), show rlx ([0 + (-c) + (-b) + (-a) + (-300), 0 + (-c) + (-b) + (-a), 0 + (-c) + (-b), 0 + (-c), 0], 0) (1 + 1, 1, -a) = ([0 + (-c) + (-b) + (-a) + (-300), 0 + (-c) + (-b) + (-a), 0 + (-c) + (-b), 0 + (-c), 0], 0) from rlx_no (x := 0 + (-c) + (-b)) (y := 0 + (-c) + (-b) + (-a)) rfl rfl (by omega), show rlx ([0 + (-c) + (-b) + (-a) + (-300), 0 + (-c) + (-b) + (-a), 0 + (-c) + (-b), 0 + (-c), 0], 0) (1 + 1, 1 + 1 + 1, 2 * b) = ([0 + (-c) + (-b) + (-a) + (-300), 0 + (-c) + (-b) + (-a), 0 + (-c) + (-b), 0 + (-c), 0], 0) from rlx_no (x := 0 + (-c) + (-b)) (y := 0 + (-c)) rfl rfl (by omega), show rlx ([0 + (-c) + (-b) + (-a) + (-300), 0 + (-c) + (-b) + (-a), 0 + (-c) + (-b), 0 + (-c), 0], 0) (1 + 1 + 1, 1 + 1, -b) = ([0 + (-c) + (-b) + (-a) + (-300), 0 + (-c) + (-b) + (-a), 0 + (-c) + (-b), 0 + (-c), 0], 0) from rlx_no (x := 0 + (-c)) (y := 0 + (-c) + (-b)) rfl rfl (by omega), show rlx ([0 + (-c) + (-b) + (-a) + (-300), 0 + (-c) + (-b) + (-a), 0 + (-c) + (-b), 0 + (-c), 0], 0) (1 + 1 + 1, 1 + 1 + 1 + 1, 2 * c) = ([0 + (-c) + (-b) + (-a) + (-300), 0 + (-c) + (-b) + (-a), 0 + (-c) + (-b), 0 + (-c), 0], 0) from rlx_no (x := 0 + (-c)) (y := 0) rfl rfl (by omega), show rlx ([0 + (-c) + (-b) + (-a) + (-300), 0 + (-c) + (-b) + (-a), 0 + (-c) + (-b), 0 + (-c), 0], 0) (1 + 1 + 1 + 1, 1 + 1 + 1, -c) = ([0 + (-c) + (-b) + (-a) + (-300), 0 + (-c) + (-b) + (-a), 0 + (-c) + (-b), 0 + (-c), 0], 0) from rlx_no (x := 0) (y := 0 + (-c)) rfl rfl (by omega)]
  have r4 : rnd (edgE [a, b, c]) [0 + (-c) + (-b) + (-a) + (-300), 0 + (-c) + (-b) + (-a), 0 + (-c) + (-b), 0 + (-c), 0] = ([0 + (-c) + (-b) + (-a) + (-300), 0 + (-c) + (-b) + (-a), 0 + (-c) + (-b), 0 + (-c), 0], -1) := by
    rw [rnd_3, show rlx ([0 + (-c) + (-b) + (-a) + (-300), 0 + (-c) + (-b) + (-a), 0 + (-c) + (-b), 0 + (-c), 0], -1) (0, 1, 300) = ([0 + (-c) + (-b) + (-a) + (-300), 0 + (-c) + (-b) + (-a), 0 + (-c) + (-b), 0 + (-c), 0], -1) from rlx_no (x := 0 + (-c) + (-b) + (-a) + (-300)) (y := 0 + (-c) + (-b) + (-a)) rfl rfl (by omega), show rlx ([0 + (-c) + (-b) + (-a) + (-300), 0 + (-c) + (-b) + (-a), 0 + (-c) + (-b), 0 + (-c), 0], -1) (1, 0, -300) = ([0 + (-c) + (-b) + (-a) + (-300), 0 + (-c) + (-b) + (-a), 0 + (-c) + (-b), 0 + (-c), 0], -1) from rlx_no (x := 0 + (-c) + (-b) + (-a)) (y := 0 + (-c) + (-b) + (-a) + (-300)) rfl rfl (by omega), show rlx ([0 + (-c) + (-b) + (-a) + (-300), 0 + (-c) + (-b) + (-a), 0 + (-c) + (-b), 0 + (-c), 0], -1) (1, 1 + 1, 2 * a) = ([0 + (-c) + (-b) + (-a) + (-300), 0 + (-c) + (-b) + (-a), 0 + (-c) + (-b), 0 + (-c), 0], -1) from rlx_no (x := 0 + (-c) + (-b) + (-a)) (y := 0 + (-c) + (-b)) rfl rfl (by omega), show rlx ([0 + (-c) + (-b) + (-a) + (-300), 0 + (-c) + (-b) + (-a), 0 + (-c) + (-b), 0 + (-c), 0], -1) (1 + 1, 1, -a) = ([0 + (-c) + (-b) + (-a) + (-300), 0 + (-c) + (-b) + (-a), 0 + (-c) + (-b), 0 + (-c), 0], -1) from rlx_no (x := 0 + (-c) + (-b)) (y := 0 + (-c) + (-b) + (-a)) rfl rfl (by omega), show rlx ([0 + (-c) + (-b) + (-a) + (-300), 0 + (-c) + (-b) + (-a), 0 + (-c) + (-b), 0 + (-c), 0], -1) (1 + 1, 1 + 1 + 1, 2 * b) = ([0 + (-c) + (-b) + (-a) + (-300), 0 + (-c) + (-b) + (-a), 0 + (-c) + (-b), 0 + (-c), 0], -1) from rlx_no (x := 0 + (-c) + (-b)) (y := 0 + (-c)) rfl rfl (by omega), show rlx ([0 + (-c) + (-b) + (-a) + (-300), 0 + (-c) + (-b) + (-a), 0 + (-c) + (-b), 0 + (-c), 0], -1) (1 + 1 + 1, 1 + 1, -b) = ([0 + (-c) + (-b) + (-a) + (-300), 0 + (-c) + (-b) + (-a), 0 + (-c) + (-b), 0 + (-c), 0], -1) from rlx_no (x := 0 + (-c)) (y := 0 + (-c) + (-b)) rfl rfl (by omega), show rlx ([0 + (-c) + (-b) + (-a) + (-300), 0 + (-c) + (-b) + (-a), 0 + (-c) + (-b), 0 + (-c), 0], -1) (1 + 1 + 1, 1 + 1 + 1 + 1, 2 * c) = ([0 + (-c) + (-b) + (-a) + (-300), 0 + (-c) + (-b) + (-a), 0 + (-c) + (-b), 0 + (-c), 0], -1) from rlx_no (x := 0 + (-c)) (y := 0) rfl rfl (by omega), show rlx ([0 + (-c) + (-b) + (-a) + (-300), 0 + (-c) + (-b) + (-a), 0 + (-c) + (-b), 0 + (-c), 0], -1) (1 + 1 + 1 + 1, 1 + 1 + 1, -c) = ([0 + (-c) + (-b) + (-a) + (-300), 0 + (-c) + (-b) + (-a), 0 + (-c) + (-b), 0 + (-c), 0], -1) from rlx_no (x := 0) (y := 0 + (-c)) rfl rfl (by omega)]
  rw [show far0 5 4 = [1125899906842624, 1125899906842624, 1125899906842624, 1125899906842624, 0] from by decide, spr_on r0 (by decide), spr_on r1 (by decide), spr_on r2 (by decide), spr_on r3 (by decide)]
  exact spr_end r4
theorem far_no {L : List Int} (h : 1 ≤ L.length ∧ L.length ≤ 3) (hL : ∀ n ∈ L, 1 ≤ n ∧ n ≤ 5000) : ∃ R, spr (edgE L) (L.length + 3) (far0 (L.length + 2) (-1)) = some R := by
  rcases len3 h with ⟨a, rfl⟩ | ⟨a, b, rfl⟩ | ⟨a, b, c, rfl⟩
  · exact ⟨_, sp1n a (hL a (by simp))⟩
  · exact ⟨_, sp2n a b (hL a (by simp)) (hL b (by simp))⟩
  · exact ⟨_, sp3n a b c (hL a (by simp)) (hL b (by simp)) (hL c (by simp))⟩
theorem far_zero {L : List Int} (h : 1 ≤ L.length ∧ L.length ≤ 3) (hL : ∀ n ∈ L, 1 ≤ n ∧ n ≤ 5000) : ∃ R, spr (edgE L) (L.length + 3) (far0 (L.length + 2) 0) = some R ∧ R.getD (L.length + 1) 0 = 300 + 2 * L.sum := by
  rcases len3 h with ⟨a, rfl⟩ | ⟨a, b, rfl⟩ | ⟨a, b, c, rfl⟩
  · exact ⟨_, sp1z a (hL a (by simp)), by simp⟩
  · exact ⟨_, sp2z a b (hL a (by simp)) (hL b (by simp)), by simp; omega⟩
  · exact ⟨_, sp3z a b c (hL a (by simp)) (hL b (by simp)) (hL c (by simp)), by simp; omega⟩
theorem far_last {L : List Int} (h : 1 ≤ L.length ∧ L.length ≤ 3) (hL : ∀ n ∈ L, 1 ≤ n ∧ n ≤ 5000) : ∃ R, spr (edgE L) (L.length + 3) (far0 (L.length + 2) ((L.length + 1 : Nat) : Int)) = some R ∧ R.getD 0 0 = -(300 + L.sum) := by
  rcases len3 h with ⟨a, rfl⟩ | ⟨a, b, rfl⟩ | ⟨a, b, c, rfl⟩
  · exact ⟨_, sp1e a (hL a (by simp)), by simp; omega⟩
  · exact ⟨_, sp2e a b (hL a (by simp)) (hL b (by simp)), by simp; omega⟩
  · exact ⟨_, sp3e a b c (hL a (by simp)) (hL b (by simp)) (hL c (by simp)), by simp; omega⟩
end Go.Proofs.YtpknmgafambmbaaGreat

/- Walk: the range of a spot of a race of one skier, without chips. -/
namespace Go.Proofs.YtpknmgafambmbaaGreat
open Go Go.Eng

theorem upC6_all {k : Nat} (h : k ≤ 3) : upC6 (stL k) = k + 2 := by
  obtain rfl | rfl | rfl | rfl : k = 0 ∨ k = 1 ∨ k = 2 ∨ k = 3 := by omega
  all_goals rfl
theorem stL_edges {L : List Int} (h : 1 ≤ L.length ∧ L.length ≤ 3) : (stL L.length).map (edN L) = edgE L := by
  rcases len3 h with ⟨a, rfl⟩ | ⟨a, b, rfl⟩ | ⟨a, b, c, rfl⟩
  · rfl
  · rfl
  · rfl
theorem stL_in {L : List Int} (h : 1 ≤ L.length ∧ L.length ≤ 3) (hL : ∀ n ∈ L, 1 ≤ n ∧ n ≤ 5000) : ∀ x ∈ stL L.length, frmN x < L.length + 2 ∧ towN x < L.length + 2 ∧ -10000 ≤ cntV L x ∧ cntV L x ≤ 10000 := by
  intro x hx
  rcases List.mem_append.1 hx with h1 | h1
  · obtain rfl | rfl : x = (0, 0, true) ∨ x = (0, 0, false) := by simpa using h1
    · simp [frmN, towN, cntV]
    · simp [frmN, towN, cntV]
  · obtain ⟨i, hi', h1⟩ := List.mem_flatMap.1 h1
    have hiL : i < L.length := List.mem_range.1 hi'
    have e : L.getD i 0 = L[i] := by simp [List.getD_eq_getElem?_getD, hiL]
    have hn := hL _ (List.getElem_mem hiL)
    obtain rfl | rfl : x = (1, i, true) ∨ x = (1, i, false) := by simpa using h1
    · simp only [frmN, towN, cntV, e]; simp; omega
    · simp only [frmN, towN, cntV, e]; simp; omega
/-- A race at work that lies at bd. -/
def DeskW (w : World) (bd bS : Nat) (a : Option Addr) (c : Nat) (L : List Int) : Prop :=
  ∃ bm ea ec td lo hi, Blk w bd (dsC bS a L.length c bm (.slice ea (stL L.length).length ec)) td ∧ MapN w bm kPt eqV (fN (L.length + 2)) (L.length + 2) ∧ RdG w lo hi (.slice ea (stL L.length).length ec) L (stL L.length)
theorem DeskW.keep {w w' : World} {bd bS c : Nat} {a : Option Addr} {L : List Int} (h : DeskW w bd bS a c L) (hc : Chg [] w w') : DeskW w' bd bS a c L := by
  obtain ⟨bm, ea, ec, td, lo, hi, h1, h2, h3⟩ := h
  exact ⟨bm, ea, ec, td, lo, hi, h1.keep hc, h2.keep hc, RdE.keep h3 hc⟩
abbrev dskK (bd bS : Nat) (a : Option Addr) (c : Nat) (L : List Int) (bm : Nat) (ea : Option Addr) (ec : Nat) : List Ck := [.pt bd (dsC bS a L.length c bm (.slice ea (stL L.length).length ec)) 140, mnP kPt eqV bm (fN (L.length + 2)) (L.length + 2), .ow (.slice ea (stL L.length).length ec) 162 7 (stL L.length).length (edsC L (stL L.length))]
theorem DeskW.of {w0 w : World} {M : Nat → Prop} {H : List Ck} {bd bS c bm ec : Nat} {a ea : Option Addr} {L : List Int} (hs : Sat w0 M H w) (h1 : .pt bd (dsC bS a L.length c bm (.slice ea (stL L.length).length ec)) 140 ∈ H) (h2 : mnP kPt eqV bm (fN (L.length + 2)) (L.length + 2) ∈ H) (h3 : .ow (.slice ea (stL L.length).length ec) 162 7 (stL L.length).length (edsC L (stL L.length)) ∈ H) : DeskW w bd bS a c L :=
  ⟨bm, ea, ec, _, _, _, hs.blk h1, hs.mem h2, RdG.of (own_rd (hs.all _ h3))⟩
section
variable (w : World) (bd bS : Nat) (a : Option Addr) (c : Nat) (L : List Int)
theorem sprd_ca (hd : DeskW w bd bS a c L) (h : 1 ≤ L.length ∧ L.length ≤ 3) (hL : ∀ n ∈ L, 1 ≤ n ∧ n ≤ 5000) (fr : Int) (hfr : -1 ≤ fr ∧ fr ≤ 10) (R : List Int) (hR : spr (edgE L) (L.length + 3) (far0 (L.length + 2) fr) = some R) :
    Ca Tryz.prog 58 [.pointer (some ⟨bd, 0, none⟩), .int .i64 fr, .bool false] w fun v w' => ∃ y : Nat × Nat, v = .tuple #[.agg #[.slice (some ⟨y.1, 0, none⟩) (L.length + 2) (L.length + 2), .slice (some ⟨y.2, 0, none⟩) (L.length + 2) (L.length + 2)], .int .i64 0, .bool true] ∧ Sat w M0 [.pt y.1 (ints R) 3] w' := by
  obtain ⟨bm, ea, ec, td, lo, hi, h1, h2, h3⟩ := hd
  exact spread_ca w bd bS a L.length c bm ea ec (L.length + 2) L (stL L.length) _ fr R h1 h2 lo hi h3 (by omega) (by rw [stL_len]; omega) (stL_in h hL) hfr (by rw [stL_edges h]; exact hR)
theorem holds_ca (hd : DeskW w bd bS a c L) (h : 1 ≤ L.length ∧ L.length ≤ 3) (hL : ∀ n ∈ L, 1 ≤ n ∧ n ≤ 5000) : Ca Tryz.prog 57 [.pointer (some ⟨bd, 0, none⟩)] w fun v w' => v = .bool true ∧ Chg [] w w' := by
  obtain ⟨R, hR⟩ := far_no h hL
  refine q_of (Sat.nil w M0) Tryz.func57 rfl (by simp [Tryz.ntmps57]) ?_
  (refine q_seq (q_region (ql_pure tabOk rfl rfl (q_nil (q_seq (q_region (ql_pure tabOk rfl rfl ?_)))))))
  refine ql_call (β := Nat × Nat) tabOk [] _ M0 rfl rfl rfl rfl (Sp.refl _) (fun _ h => h.elim) (fun w' hs => sprd_ca w' bd bS a c L (hd.keep hs.chg0) h hL (-1) (by omega) R hR) ?_
  rintro ⟨g1, g2⟩ _ rfl
  dsimp only [List.cons_append, List.nil_append]
  (refine ql_pure tabOk rfl rfl ?_; (iterate 3 refine ql_ext tabOk rfl rfl rfl ?_))
  refine ql_alloc zero134 rfl (fun b3 => ?_)
  (refine ql_setA tabOk rfl rfl rfl rfl rfl (by repeat constructor) rfl ?_; refine ql_pure tabOk rfl rfl (ql_pure tabOk rfl rfl (q_nil (q_seq (q_region (ql_pure tabOk rfl rfl (ql_pure tabOk rfl rfl (q_nil (q_ret ?_)))))))))
  refine q_fin tabOk rfl (by repeat constructor) fun w hs => ?_
  exact ⟨rfl, hs.chg0⟩
theorem getD_lt {R : List Int} {i : Nat} {x : Int} (h : R.getD i 0 = x) (hx : x ≠ 0) : ∃ h' : i < R.length, R[i] = x := by
  by_cases hi : i < R.length
  · rw [List.getD_eq_getElem?_getD, List.getElem?_eq_getElem hi] at h
    exact ⟨hi, h⟩
  · rw [List.getD_eq_getElem?_getD, List.getElem?_eq_none (by omega)] at h
    exact absurd h.symm hx
theorem sum_bd {L : List Int} (h : 1 ≤ L.length ∧ L.length ≤ 3) (hL : ∀ n ∈ L, 1 ≤ n ∧ n ≤ 5000) : 1 ≤ L.sum ∧ L.sum ≤ 15000 := by
  rcases len3 h with ⟨a, rfl⟩ | ⟨a, b, rfl⟩ | ⟨a, b, c, rfl⟩
  · have := hL a (by simp); simp; omega
  · have := hL a (by simp); have := hL b (by simp); simp; omega
  · have := hL a (by simp); have := hL b (by simp); have := hL c (by simp); simp; omega
def tH7_59261e0 : OT := .alt (chainT [0, 1, 2, 3, 4, 5, 6, 7, 12, 8, 9, 13, 10, 11, 14, 15] (.nil)) (chainT [12, 0, 1, 2, 3, 4, 5, 6, 7, 8, 9, 13, 10, 11, 14, 15] (.nil))
set_option maxHeartbeats 4000000 in
theorem between_ca6 (hd : DeskW w bd bS a c L) (h : 1 ≤ L.length ∧ L.length ≤ 3) (hL : ∀ n ∈ L, 1 ≤ n ∧ n ≤ 5000) : Ca Tryz.prog 36 [.pointer (some ⟨bd, 0, none⟩), .agg #[.int .i64 (-1), .int .i64 0], .agg #[.int .i64 0, .int .i64 L.length]] w fun v w' => v = .agg #[.int .i64 (300 + L.sum), .int .i64 (300 + 2 * L.sum)] ∧ Chg [] w w' := by
  obtain ⟨R1, hR1, hv1⟩ := far_zero h hL
  obtain ⟨R2, hR2, hv2⟩ := far_last h hL
  have hsb := sum_bd h hL
  obtain ⟨i1, e1⟩ := getD_lt hv1 (by omega)
  obtain ⟨i2, e2⟩ := getD_lt hv2 (by omega)
  have f0 : fN (L.length + 2) (.agg #[.int .i64 (-1), .int .i64 0]) = some (.int .i64 (0 : Nat)) := fN_get (j := 0) (by omega)
  have f1 : fN (L.length + 2) (.agg #[.int .i64 0, .int .i64 L.length]) = some (.int .i64 (L.length + 1 : Nat)) := fN_get (j := L.length + 1) (by omega)
  have kp0 : kPt (.agg #[.int .i64 (-1), .int .i64 0]) := ptC_key 0
  have kp1 : kPt (.agg #[.int .i64 0, .int .i64 L.length]) := ptC_key (L.length + 1)
  have hd0 := hd
  obtain ⟨bm, ea, ec, td, lo, hi, h1, h2, h3⟩ := hd
  refine q_of (Sat.nil w M0) Tryz.func36 rfl (by simp [Tryz.ntmps36]) ?_
  (refine q_seq (q_region ?_))
  refine ql_box rfl rfl (fun b4 => ?_)
  skip
  refine ql_box rfl rfl (fun b5 => ?_)
  skip
  refine ql_alloc zero27 rfl (fun b6 => ?_)
  (refine q_nil (q_seq ?_))
  refine q_cut (σ := Nat × Nat × Nat) (fun y => [(0, .pointer (some ⟨bd, 0, none⟩)), (4, .pointer (some ⟨b4, 0, none⟩)), (5, .pointer (some ⟨b5, 0, none⟩)), (6, .pointer (some ⟨b6, 0, none⟩)), (7, .pointer (some ⟨y.2.2, 0, none⟩))]) (fun y => [.pt y.2.2 [.slice (some ⟨y.1, 0, none⟩) (L.length + 2) (L.length + 2), .slice (some ⟨y.2.1, 0, none⟩) (L.length + 2) (L.length + 2)] 134, .pt y.1 (ints R1) 3, .pt b4 [.int .i64 (-1), .int .i64 0] 106, .pt b5 [.int .i64 0, .int .i64 L.length] 106, .pt b6 [.int .i64 0, .int .i64 0] 27]) ?_ ?_
  rotate_left
  · intro K2 hK2
    refine q_drawT (tH7_59261e0) _ [] (Sp.refl _) (by kernel_rfl) (by kernel_rfl) ?_
    refine qt_alt ?_ ?_
    · skip
      refine qt_seg (by repeat (first | exact PickL.nil | (apply PickL.cons; rfl))) fun K1 hK1 => ?_
      ((iterate 4 refine qf_pure tabOk rfl rfl rfl ?_); refine qf_loadP tabOk rfl rfl rfl (by assumption) (by rfl) ?_; refine qf_loadABa tabOk rfl rfl rfl ?_)
      refine qf_lookN (m := L.length + 2) (v := .int .i64 0) pt_key pt_map zero3 rfl rfl rfl (fun w' hs => h2.keep hs.chg0) kp0 (congrArg (fun z : Option Value => z.getD (.int .i64 0)) f0) ?_
      skip
      refine qf_call (β := Nat × Nat) tabOk [] _ M0 rfl rfl rfl rfl (Sp.refl _) (fun _ h => h.elim) (fun w' hs => sprd_ca w' bd bS a c L (hd0.keep hs.chg0) h hL 0 (by omega) R1 hR1) ?_
      rintro ⟨g1, g2⟩ _ rfl
      dsimp only [List.cons_append, List.nil_append]
      skip
      refine qf_alloc zero134 rfl (fun b7 => ?_)
      (refine qf_pure tabOk rfl rfl rfl (qf_ext tabOk rfl rfl rfl ?_); refine qf_setA tabOk rfl rfl rfl rfl rfl (by repeat constructor) rfl ?_; refine qf_ext tabOk rfl rfl rfl (qf_ext tabOk rfl rfl rfl (qf_pure tabOk rfl rfl rfl (qf_pure tabOk rfl rfl rfl (qf_nil ?_)))))
      skip
      skip
      exact hK1 _ _ (qt_nil (hK2 (g1, g2, b7) _ _ ⟨rfl, rfl, rfl, rfl, rfl, trivial⟩ (by repeat constructor)))
    · skip
      refine qt_seg (by repeat (first | exact PickL.nil | (apply PickL.cons; rfl))) fun K1 hK1 => ?_
      skip
      refine qf_alloc zero134 rfl (fun b7 => ?_)
      ((iterate 4 refine qf_pure tabOk rfl rfl rfl ?_); refine qf_loadP tabOk rfl rfl rfl (by assumption) (by rfl) ?_; refine qf_loadABa tabOk rfl rfl rfl ?_)
      refine qf_lookN (m := L.length + 2) (v := .int .i64 0) pt_key pt_map zero3 rfl rfl rfl (fun w' hs => h2.keep hs.chg0) kp0 (congrArg (fun z : Option Value => z.getD (.int .i64 0)) f0) ?_
      skip
      refine qf_call (β := Nat × Nat) tabOk [] _ M0 rfl rfl rfl rfl (Sp.refl _) (fun _ h => h.elim) (fun w' hs => sprd_ca w' bd bS a c L (hd0.keep hs.chg0) h hL 0 (by omega) R1 hR1) ?_
      rintro ⟨g1, g2⟩ _ rfl
      dsimp only [List.cons_append, List.nil_append]
      (refine qf_pure tabOk rfl rfl rfl (qf_ext tabOk rfl rfl rfl ?_); refine qf_setA tabOk rfl rfl rfl rfl rfl (by repeat constructor) rfl ?_; refine qf_ext tabOk rfl rfl rfl (qf_ext tabOk rfl rfl rfl (qf_pure tabOk rfl rfl rfl (qf_pure tabOk rfl rfl rfl (qf_nil ?_)))))
      skip
      skip
      exact hK1 _ _ (qt_nil (hK2 (g1, g2, b7) _ _ ⟨rfl, rfl, rfl, rfl, rfl, trivial⟩ (by repeat constructor)))
  rintro ⟨g1, g2, b7⟩
  dsimp only
  (refine q_seq ?_)
  refine q_cut (σ := Nat × Nat × Nat) (fun y => [(0, .pointer (some ⟨bd, 0, none⟩)), (4, .pointer (some ⟨b4, 0, none⟩)), (5, .pointer (some ⟨b5, 0, none⟩)), (6, .pointer (some ⟨b6, 0, none⟩)), (7, .pointer (some ⟨b7, 0, none⟩)), (10, .pointer (some ⟨y.2.2, 0, none⟩))]) (fun y => [.pt y.2.2 [.slice (some ⟨y.1, 0, none⟩) (L.length + 2) (L.length + 2), .slice (some ⟨y.2.1, 0, none⟩) (L.length + 2) (L.length + 2)] 134, .pt y.1 (ints R2) 3, .pt b7 [.slice (some ⟨g1, 0, none⟩) (L.length + 2) (L.length + 2), .slice (some ⟨g2, 0, none⟩) (L.length + 2) (L.length + 2)] 134, .pt g1 (ints R1) 3, .pt b4 [.int .i64 (-1), .int .i64 0] 106, .pt b5 [.int .i64 0, .int .i64 L.length] 106, .pt b6 [.int .i64 0, .int .i64 0] 27]) ?_ ?_
  rotate_left
  · intro K2 hK2
    refine q_drawT (tH7_59261e0) _ [] (Sp.refl _) (by kernel_rfl) (by kernel_rfl) ?_
    refine qt_alt ?_ ?_
    · skip
      refine qt_seg (by repeat (first | exact PickL.nil | (apply PickL.cons; rfl))) fun K1 hK1 => ?_
      ((iterate 4 refine qf_pure tabOk rfl rfl rfl ?_); refine qf_loadP tabOk rfl rfl rfl (by assumption) (by rfl) ?_; refine qf_loadABa tabOk rfl rfl rfl ?_)
      refine qf_lookN (m := L.length + 2) (v := .int .i64 (L.length + 1 : Nat)) pt_key pt_map zero3 rfl rfl rfl (fun w' hs => h2.keep hs.chg0) kp1 (congrArg (fun z : Option Value => z.getD (.int .i64 0)) f1) ?_
      skip
      refine qf_call (β := Nat × Nat) tabOk [] _ M0 rfl rfl rfl rfl (Sp.refl _) (fun _ h => h.elim) (fun w' hs => sprd_ca w' bd bS a c L (hd0.keep hs.chg0) h hL ((L.length + 1 : Nat) : Int) (by omega) R2 hR2) ?_
      rintro ⟨g3, g4⟩ _ rfl
      dsimp only [List.cons_append, List.nil_append]
      skip
      refine qf_alloc zero134 rfl (fun b10 => ?_)
      (refine qf_pure tabOk rfl rfl rfl (qf_ext tabOk rfl rfl rfl ?_); refine qf_setA tabOk rfl rfl rfl rfl rfl (by repeat constructor) rfl ?_; refine qf_ext tabOk rfl rfl rfl (qf_ext tabOk rfl rfl rfl (qf_pure tabOk rfl rfl rfl (qf_pure tabOk rfl rfl rfl (qf_nil ?_)))))
      skip
      skip
      exact hK1 _ _ (qt_nil (hK2 (g3, g4, b10) _ _ ⟨rfl, rfl, rfl, rfl, rfl, rfl, trivial⟩ (by repeat constructor)))
    · skip
      refine qt_seg (by repeat (first | exact PickL.nil | (apply PickL.cons; rfl))) fun K1 hK1 => ?_
      skip
      refine qf_alloc zero134 rfl (fun b10 => ?_)
      ((iterate 4 refine qf_pure tabOk rfl rfl rfl ?_); refine qf_loadP tabOk rfl rfl rfl (by assumption) (by rfl) ?_; refine qf_loadABa tabOk rfl rfl rfl ?_)
      refine qf_lookN (m := L.length + 2) (v := .int .i64 (L.length + 1 : Nat)) pt_key pt_map zero3 rfl rfl rfl (fun w' hs => h2.keep hs.chg0) kp1 (congrArg (fun z : Option Value => z.getD (.int .i64 0)) f1) ?_
      skip
      refine qf_call (β := Nat × Nat) tabOk [] _ M0 rfl rfl rfl rfl (Sp.refl _) (fun _ h => h.elim) (fun w' hs => sprd_ca w' bd bS a c L (hd0.keep hs.chg0) h hL ((L.length + 1 : Nat) : Int) (by omega) R2 hR2) ?_
      rintro ⟨g3, g4⟩ _ rfl
      dsimp only [List.cons_append, List.nil_append]
      (refine qf_pure tabOk rfl rfl rfl (qf_ext tabOk rfl rfl rfl ?_); refine qf_setA tabOk rfl rfl rfl rfl rfl (by repeat constructor) rfl ?_; refine qf_ext tabOk rfl rfl rfl (qf_ext tabOk rfl rfl rfl (qf_pure tabOk rfl rfl rfl (qf_pure tabOk rfl rfl rfl (qf_nil ?_)))))
      skip
      skip
      exact hK1 _ _ (qt_nil (hK2 (g3, g4, b10) _ _ ⟨rfl, rfl, rfl, rfl, rfl, rfl, trivial⟩ (by repeat constructor)))
  rintro ⟨g3, g4, b10⟩
  dsimp only
  (refine q_seq ?_)
  refine q_draw _ [.pt b6 _ _] (Sp.cons (by repeat constructor) (Sp.refl _)) (by kernel_rfl) (by kernel_rfl) ?_
  (refine qf_pure tabOk rfl rfl rfl ?_; refine qf_loadBa tabOk rfl rfl rfl ?_; (iterate 3 refine qf_pure tabOk rfl rfl rfl ?_); refine qf_loadP tabOk rfl rfl rfl (by assumption) (by rfl) ?_; refine qf_loadABa tabOk rfl rfl rfl ?_)
  refine qf_lookN (m := L.length + 2) (v := .int .i64 0) pt_key pt_map zero3 rfl rfl rfl (fun w' hs => h2.keep hs.chg0) kp0 (congrArg (fun z : Option Value => z.getD (.int .i64 0)) f0) ?_
  skip
  refine qf_index tabOk rfl rfl rfl rfl rfl (by omega) (by omega) ?_
  refine qf_loadI tabOk (0) rfl rfl rfl (by repeat constructor) (by first | rfl | omega | simp) i2 ?_
  rw [e2]
  (refine qf_neg tabOk rfl rfl (by omega) (by omega) (qf_pure tabOk rfl rfl rfl ?_); refine qf_loadBa tabOk rfl rfl rfl ?_; (iterate 3 refine qf_pure tabOk rfl rfl rfl ?_); refine qf_loadP tabOk rfl rfl rfl (by assumption) (by rfl) ?_; refine qf_loadABa tabOk rfl rfl rfl ?_)
  rw [Int.neg_neg]
  refine qf_lookN (m := L.length + 2) (v := .int .i64 (L.length + 1 : Nat)) pt_key pt_map zero3 rfl rfl rfl (fun w' hs => h2.keep hs.chg0) kp1 (congrArg (fun z : Option Value => z.getD (.int .i64 0)) f1) ?_
  skip
  refine qf_index tabOk rfl rfl rfl rfl rfl (by omega) (by omega) ?_
  refine qf_loadI tabOk (L.length + 1) rfl rfl rfl (by repeat constructor) (by first | rfl | omega | simp) i1 ?_
  rw [e1]
  skip
  refine qf_mk #[.int .i64 (300 + L.sum), .int .i64 (300 + 2 * L.sum)] rfl (by kernel_rfl) rfl ?_
  (refine qf_setA tabOk rfl rfl rfl rfl rfl (by repeat constructor) rfl ?_; refine qf_nil (q_ret ?_))
  refine q_fin tabOk rfl (by repeat constructor) fun w hs => ?_
  exact ⟨rfl, hs.chg0⟩
end
theorem begun_ca6 (w : World) (lo hi bS : Nat) (a : Option Addr) (c : Nat) (L : List Int) (h : 1 ≤ L.length ∧ L.length ≤ 3) (hL : ∀ n ∈ L, 1 ≤ n ∧ n ≤ 5000) (hS : RdI w lo hi (.slice (some ⟨bS, 0, none⟩) 1 1) [300]) (hP : RdS w lo hi (.slice a L.length c) (spL L)) :
    Ca Tryz.prog 54 [.agg (rcC bS a L.length c).toArray] w fun v w' => ∃ y : Nat × Nat × Option Addr × Nat, v = .tuple #[.pointer (some ⟨y.1, 0, none⟩), .int .i64 0] ∧ Sat w M0 (dskK y.1 bS a c L y.2.1 y.2.2.1 y.2.2.2) w' := by
  refine q_of (Sat.nil w M0) Tryz.func54 rfl (by simp [Tryz.ntmps54]) ?_
  (refine q_seq (q_region ?_))
  refine ql_box rfl rfl (fun b1 => ?_)
  (refine ql_pure tabOk rfl rfl (ql_pure tabOk rfl rfl (q_nil (q_seq (q_seq (q_region ?_))))); refine ql_loadABa tabOk rfl rfl rfl ?_)
  refine ql_callv (val := .int .i64 0) tabOk rfl rfl rfl rfl (fun w hs => ?_) ?_; exact chkR_ca w lo hi bS a L.length c L rfl (by omega) (fun n hn => by have := hL n hn; omega) (hS.keep hs.chg0) (RdE.keep hP hs.chg0)
  (refine ql_pure tabOk rfl rfl (q_nil (q_seq (q_region (ql_pure tabOk rfl rfl (ql_neqF tabOk rfl rfl rfl (by omega) (q_nil (q_cond_false rfl (q_skip (q_seq (q_region ?_)))))))))); refine ql_loadABa tabOk rfl rfl rfl ?_)
  refine ql_call (β := Nat × Nat × Option Addr × Nat) (ψ := fun y v => v = .pointer (some ⟨y.1, 0, none⟩)) (L' := fun y => dskK y.1 bS a c L y.2.1 y.2.2.1 y.2.2.2) tabOk [] _ M0 rfl rfl rfl rfl (Sp.refl _) (fun _ h => h.elim) (fun w' hs => by
    have := opened_ca w' lo hi bS a L.length c L rfl h.2 (fun n hn => by have := hL n hn; omega) (hS.keep hs.chg0) (RdE.keep hP hs.chg0)
    rw [upC6_all h.2] at this
    exact this) ?_
  rintro ⟨bd, bm, ea, ec⟩ _ rfl
  dsimp only [dskK, List.cons_append, List.nil_append]
  (refine ql_pure tabOk rfl rfl (ql_pure tabOk rfl rfl (q_nil (q_ret ?_))))
  refine q_fin tabOk rfl (by repeat constructor) fun w hs => ?_
  exact ⟨(bd, bm, ea, ec), rfl, hs.sp (by dsimp only [dskK]; repeat constructor)⟩
theorem asked_ca6 (w : World) (lo hi bS : Nat) (a : Option Addr) (c : Nat) (L : List Int) (h : 1 ≤ L.length ∧ L.length ≤ 3) (hL : ∀ n ∈ L, 1 ≤ n ∧ n ≤ 5000) (hS : RdI w lo hi (.slice (some ⟨bS, 0, none⟩) 1 1) [300]) (hP : RdS w lo hi (.slice a L.length c) (spL L)) (lo2 hi2 : Nat) (v : Value) (hq : RdS w lo2 hi2 v [(0, (L.length : Int))]) :
    Ca Tryz.prog 35 [.agg (rcC bS a L.length c).toArray, v] w fun v w' => ∃ y : Nat × Nat × Option Addr × Nat, v = .tuple #[.pointer (some ⟨y.1, 0, none⟩), .int .i64 0] ∧ Sat w M0 (dskK y.1 bS a c L y.2.1 y.2.2.1 y.2.2.2) w' := by
  obtain ⟨qa, qc, rfl, _⟩ := RdS.outI hq
  refine q_of (Sat.nil w M0) Tryz.func35 rfl (by simp [Tryz.ntmps35]) ?_
  (refine q_seq (q_region ?_))
  refine ql_box rfl rfl (fun b2 => ?_)
  (refine ql_pure tabOk rfl rfl (ql_pure tabOk rfl rfl (q_nil (q_seq (q_region ?_)))); refine ql_loadABa tabOk rfl rfl rfl ?_)
  refine ql_call (β := Nat × Nat × Option Addr × Nat) (ψ := fun y v => v = .tuple #[.pointer (some ⟨y.1, 0, none⟩), .int .i64 0]) (L' := fun y => dskK y.1 bS a c L y.2.1 y.2.2.1 y.2.2.2) tabOk [] _ M0 rfl rfl rfl rfl (Sp.refl _) (fun _ h => h.elim) (fun w' hs => begun_ca6 w' lo hi bS a c L h hL (hS.keep hs.chg0) (RdE.keep hP hs.chg0)) ?_
  rintro ⟨bd, bm, ea, ec⟩ _ rfl
  dsimp only [dskK, List.cons_append, List.nil_append]
  (refine ql_pure tabOk rfl rfl (ql_ext tabOk rfl rfl rfl (ql_ext tabOk rfl rfl rfl (ql_pure tabOk rfl rfl (ql_pure tabOk rfl rfl (q_nil (q_seq (q_block (q_seq (q_region (ql_pure tabOk rfl rfl (ql_neqF tabOk rfl rfl rfl (by omega) ?_))))))))))); refine ql_pure tabOk rfl rfl (q_nil (q_cond_false rfl (q_seq (q_region (ql_pure tabOk rfl rfl ?_))))); refine ql_loadABa tabOk rfl rfl rfl ?_; refine ql_pure tabOk rfl rfl ?_)
  refine ql_callv (val := .bool true) tabOk rfl rfl rfl rfl (fun w hs => ?_) ?_; exact alwT _ w lo2 hi2 _ [(0, (L.length : Int))] (RdE.keep hq hs.chg0) (by simp) (fun w' _ x hx => CaF.of tabOk rfl (by rw [List.mem_singleton.1 hx]; exact spotY w' bS a L.length c L.length (Nat.le_refl _) (by omega)))
  (refine ql_pure tabOk rfl rfl (ql_pure tabOk rfl rfl (q_nil (q_cond_false rfl (q_seq (q_region (ql_pure tabOk rfl rfl ?_)))))))
  refine ql_callv (val := .bool true) tabOk rfl rfl rfl rfl (fun w hs => ?_) ?_; exact holds_ca w bd bS a c L (DeskW.of hs (by repeat constructor) (by repeat constructor) (by repeat constructor)) h hL
  (refine ql_pure tabOk rfl rfl (ql_pure tabOk rfl rfl (q_nil (q_cond_false rfl (q_skip (q_blk (q_seq (q_region ?_))))))); (iterate 3 refine ql_pure tabOk rfl rfl ?_); refine q_nil (q_ret ?_))
  refine q_fin tabOk rfl (by repeat constructor) fun w hs => ?_
  exact ⟨(bd, bm, ea, ec), rfl, hs.sp (by dsimp only [dskK]; repeat constructor)⟩
theorem range_ca6 (w : World) (lo hi bS : Nat) (a : Option Addr) (c : Nat) (L : List Int) (h : 1 ≤ L.length ∧ L.length ≤ 3) (hL : ∀ n ∈ L, 1 ≤ n ∧ n ≤ 5000) (hS : RdI w lo hi (.slice (some ⟨bS, 0, none⟩) 1 1) [300]) (hP : RdS w lo hi (.slice a L.length c) (spL L)) :
    Ca Tryz.prog 17 [.agg (rcC bS a L.length c).toArray, .agg #[.int .i64 0, .int .i64 L.length]] w fun v w' => v = .tuple #[.agg #[.int .i64 (300 + L.sum), .int .i64 (300 + 2 * L.sum)], .int .i64 0] ∧ Chg [] w w' := by
  refine q_of (Sat.nil w M0) Tryz.func17 rfl (by simp [Tryz.ntmps17]) ?_
  (refine q_seq (q_region ?_))
  refine ql_box rfl rfl (fun b2 => ?_)
  skip
  refine ql_box rfl rfl (fun b3 => ?_)
  skip
  refine ql_alloc zero27 rfl (fun b4 => ?_)
  (refine ql_pure tabOk rfl rfl (q_nil (q_seq (q_region ?_))); (iterate 2 refine ql_loadABa tabOk rfl rfl rfl ?_))
  refine ql_mkS 65 [.int .i64 0, .int .i64 L.length] rfl (by kernel_rfl) rfl (fun bn => ?_)
  skip
  refine ql_call (β := Nat × Nat × Option Addr × Nat) (ψ := fun y v => v = .tuple #[.pointer (some ⟨y.1, 0, none⟩), .int .i64 0]) (L' := fun y => dskK y.1 bS a c L y.2.1 y.2.2.1 y.2.2.2) tabOk [] _ M0 rfl rfl rfl rfl (Sp.refl _) (fun _ h => h.elim) (fun w' hs => asked_ca6 w' lo hi bS a c L h hL (hS.keep hs.chg0) (RdE.keep hP hs.chg0) 0 w'.heap.size _ (RdS.of (l := [(0, (L.length : Int))]) (Blk.rdN (hs.blk (b := bn) (by repeat constructor)) rfl))) ?_
  rintro ⟨bd, bm, ea, ec⟩ _ rfl
  dsimp only [dskK, List.cons_append, List.nil_append]
  (refine ql_pure tabOk rfl rfl (ql_ext tabOk rfl rfl rfl (ql_ext tabOk rfl rfl rfl (ql_pure tabOk rfl rfl (ql_pure tabOk rfl rfl (q_nil (q_seq (q_seq (q_region (ql_pure tabOk rfl rfl (ql_neqF tabOk rfl rfl rfl (by omega) (q_nil ?_))))))))))); refine q_cond_false rfl (q_skip (q_seq ?_)))
  refine q_draw _ [.pt b4 _ _] (Sp.cons (by repeat constructor) (Sp.refl _)) (by kernel_rfl) (by kernel_rfl) ?_
  (refine qf_pure tabOk rfl rfl rfl ?_)
  refine qf_callv (val := .agg #[.int .i64 (-1), .int .i64 0]) tabOk rfl rfl rfl rfl (fun w hs => ?_) ?_; exact zeroP_ca w
  (refine qf_loadABa tabOk rfl rfl rfl ?_)
  refine qf_callv (val := .agg #[.int .i64 0, .int .i64 L.length]) tabOk rfl rfl rfl rfl (fun w hs => ?_) ?_; exact atP_ca w 0 L.length
  skip
  refine qf_callv (val := .agg #[.int .i64 (300 + L.sum), .int .i64 (300 + 2 * L.sum)]) tabOk rfl rfl rfl rfl (fun w hs => ?_) ?_; exact between_ca6 w bd bS a c L (DeskW.of hs (by repeat constructor) (by repeat constructor) (by repeat constructor)) h hL
  (refine qf_setA tabOk rfl rfl rfl rfl rfl (by repeat constructor) rfl ?_; refine qf_pure tabOk rfl rfl rfl (qf_nil (q_ret ?_)))
  refine q_fin tabOk rfl (by repeat constructor) fun w hs => ?_
  exact ⟨rfl, hs.chg0⟩
end Go.Proofs.YtpknmgafambmbaaGreat

/- Walks: a list is sorted; a course is dealt. -/
namespace Go.Proofs.YtpknmgafambmbaaGreat
open Go Go.Eng

theorem getD_set (L : List Int) (i p : Nat) (v : Int) (hi : i < L.length) : (L.set i v).getD p 0 = if p = i then v else L.getD p 0 := by
  simp only [List.getD_eq_getElem?_getD, List.getElem?_set]
  by_cases h : i = p
  · rw [if_pos h, if_pos h.symm, if_pos hi]
    rfl
  · rw [if_neg h, if_neg (fun hh => h hh.symm)]
structure InsI (l L : List Int) (i : Nat) : Prop where
  perm : L.Perm l
  srt : ∀ p q, p < q → q < i → L.getD p 0 ≤ L.getD q 0
structure InsJ (l L : List Int) (i j : Nat) : Prop where
  perm : L.Perm l
  ji : j ≤ i
  srt : ∀ p q, p < q → q ≤ i → p ≠ j → q ≠ j → L.getD p 0 ≤ L.getD q 0
  low : ∀ q, j < q → q ≤ i → L.getD j 0 ≤ L.getD q 0
theorem InsI.open {l L : List Int} {i : Nat} (h : InsI l L i) : InsJ l L i i := ⟨h.perm, Nat.le_refl _, fun p q h1 h2 _ h3 => h.srt p q h1 (by omega), fun q h1 h2 => by omega⟩
theorem InsJ.close {l L : List Int} {i j : Nat} (h : InsJ l L i j) (hj : j = 0 ∨ L.getD (j - 1) 0 ≤ L.getD j 0) : InsI l L (i + 1) := by
  refine ⟨h.perm, fun p q h1 h2 => ?_⟩
  by_cases hp : p = j
  · subst hp
    exact h.low q h1 (by omega)
  by_cases hq : q = j
  · subst hq
    rcases hj with hj | hj
    · omega
    · by_cases hp2 : p = q - 1
      · subst hp2; exact hj
      · have := h.srt p (q - 1) (by omega) (by have := h.ji; omega) hp (by omega)
        omega
  · exact h.srt p q h1 (by omega) hp hq
theorem InsJ.swap {l L : List Int} {i j : Nat} (h : InsJ l L i j) (hj : 0 < j) (hi : i < L.length) (hlt : L.getD j 0 < L.getD (j - 1) 0) {x y : Int} (hx : L.getD (j - 1) 0 = x) (hy : L.getD j 0 = y) : InsJ l ((L.set j x).set (j - 1) y) i (j - 1) := by
  have hji := h.ji
  have e : ∀ p, ((L.set j x).set (j - 1) y).getD p 0 = if p = j - 1 then y else if p = j then x else L.getD p 0 := fun p => by
    rw [getD_set _ _ _ _ (by simp; omega), getD_set _ _ _ _ (by omega)]
  refine ⟨List.Perm.trans ?_ h.perm, by omega, fun p q h1 h2 h3 h4 => ?_, fun q h1 h2 => ?_⟩
  · have h1 : j < L.length := by omega
    have h2 : j - 1 < L.length := by omega
    have ex : x = L[j - 1] := by rw [← hx, getD_at h2]
    have ey : y = L[j] := by rw [← hy, getD_at h1]
    subst ex ey
    exact List.set_set_perm h1 h2
  · rw [e, e, if_neg h3, if_neg h4]
    by_cases hp : p = j
    · rw [if_pos hp, if_neg (by omega), ← hx]
      exact h.srt (j - 1) q (by omega) h2 (by omega) (by omega)
    · rw [if_neg hp]
      by_cases hq : q = j
      · rw [if_pos hq, ← hx]
        exact h.srt p (j - 1) (by omega) (by omega) hp (by omega)
      · rw [if_neg hq]
        exact h.srt p q h1 h2 hp hq
  · rw [e, e, if_pos rfl, if_neg (by omega), ← hy]
    by_cases hq : q = j
    · rw [if_pos hq]
      omega
    · rw [if_neg hq]
      exact h.low q (by omega) h2
theorem InsI.all {l L : List Int} (h : InsI l L L.length) : srtB L = true := by
  rw [ordB_srt]
  refine List.all_eq_true.2 fun i hi => ?_
  have hi := List.mem_range.1 hi
  have := h.srt i (i + 1) (by omega) (by omega)
  simpa using this
end Go.Proofs.YtpknmgafambmbaaGreat

/- Walks: short lists are sorted; a course is dealt. -/
namespace Go.Proofs.YtpknmgafambmbaaGreat
open Go Go.Eng

end Go.Proofs.YtpknmgafambmbaaGreat

/- Walk: numbers are shuffled. -/
namespace Go.Proofs.YtpknmgafambmbaaGreat
open Go Go.Eng

abbrev upN (l : List Nat) : List Int := l.map fun (s : Nat) => (s : Int)
end Go.Proofs.YtpknmgafambmbaaGreat

/- The plain laws of CourseYielded: rules that are made wider. -/
namespace Go.Proofs.YtpknmgafambmbaaGreat

/-- Which rule is broken. -/
def mkJ (s : List Lp) (r : Rl) (c : List Int) (j : Nat) : Bool := (marksV s r c).getD j false
/-- A rule is made as wide as it can be. -/
def wdn (r : Rl) (x : Int) : Rl := if x = 0 then { r with g0 := 0, g1 := 200000 } else if x = 1 then { r with c0 := 0, c1 := 200000 } else if x = 2 then { r with p0 := 0, p1 := 200000 } else if x = 3 then { r with wide := 1 } else { r with uses := 6 }
/-- .. all but one of the first rules. -/
def wdP (r : Rl) (l : List Int) (skip : Int) : Nat → Rl
  | 0 => r
  | t + 1 => if (t : Int) = skip then wdP r l skip t else wdn (wdP r l skip t) (l.getD t 0)
def Wd (l : List Int) (skip : Int) (t : Nat) (j : Nat) : Prop := ∃ i : Nat, i < t ∧ (i : Int) ≠ skip ∧ l.getD i 0 = (j : Int)
structure WdI (s : List Lp) (r R : Rl) (W : Nat → Prop) : Prop where
  laps : R.laps = r.laps
  g : (W 0 ∧ R.g0 = 0 ∧ R.g1 = 200000) ∨ (¬ W 0 ∧ R.g0 = r.g0 ∧ R.g1 = r.g1)
  c : (W 1 ∧ R.c0 = 0 ∧ R.c1 = 200000) ∨ (¬ W 1 ∧ R.c0 = r.c0 ∧ R.c1 = r.c1)
  p : (W 2 ∧ R.p0 = 0 ∧ R.p1 = 200000) ∨ (¬ W 2 ∧ R.p0 = r.p0 ∧ R.p1 = r.p1)
  w : (W 3 ∧ R.wide = 1) ∨ (¬ W 3 ∧ R.wide = r.wide)
  u : (W 4 ∧ R.uses = 6) ∨ (¬ W 4 ∧ R.uses = r.uses)
/-- There are no more courses than may be listed. -/
theorem count_ok : ((List.range 7).all fun n => (List.range 6).all fun k => decide ((sortL n k 0).length ≤ 300)) = true := by decide +kernel
theorem courses_300 {n k : Nat} (hn : n ≤ 6) (hk : k ≤ 5) : (coursesL n k).length ≤ 300 := by
  have h := List.all_eq_true.1 (List.all_eq_true.1 count_ok n (List.mem_range.2 (by omega))) k (List.mem_range.2 (by omega))
  simpa [coursesL] using h
theorem allC_300 {s : List Lp} {r : Rl} (hn : s.length ≤ 6) (hk : nL r ≤ 5) : (allC s r).length ≤ 300 := Nat.le_trans (List.length_filter_le _ _) (courses_300 hn hk)
end Go.Proofs.YtpknmgafambmbaaGreat

/- Walks: lists compared, lists of lists searched. -/
namespace Go.Proofs.YtpknmgafambmbaaGreat
open Go Go.Eng

end Go.Proofs.YtpknmgafambmbaaGreat

/- The walk of CourseYielded. -/
namespace Go.Proofs.YtpknmgafambmbaaGreat
open Go Go.Eng

section
variable {K b : Nat} {bs : Value} {w0 w : World} {R : List Ck}
theorem madeS0 {most laps : Nat} (h1 : 1 ≤ most) (h2 : most ≤ 12) (h3 : 1 ≤ laps) (h4 : laps ≤ 6) (hby : DkB w0 0 w0.heap.size bs) (hs : Sat w0 M0 (dkP bs b K :: R) w) (hK : K < 100000) :
    Ca Tryz.prog 5 [.pointer (some ⟨b, 0, none⟩), .int .i64 most, .int .i64 laps] w fun v w' => ∃ y : Nat × Nat × List Lp × Rl, (v = .tuple #[.slice (some ⟨y.1, 0, none⟩) y.2.2.1.length y.2.1, .agg (rlC y.2.2.2).toArray] ∧ MadeS most laps y.2.2.1 y.2.2.2) ∧ Sat w (fun x => x = b) [.ow (.slice (some ⟨y.1, 0, none⟩) y.2.2.1.length y.2.1) 61 3 y.2.2.1.length (lpC y.2.2.1), dkP bs b (K + 100)] w' :=
  madeS_ca most laps h1 h2 h3 h4 K hK w b 0 w0.heap.size bs (hby.keep hs.chg0) (dk_new hs) (hs.all _ (.head _))
end
end Go.Proofs.YtpknmgafambmbaaGreat

/- The walk of CourseSpread (seat Great). -/
namespace Go.Proofs.YtpknmgafambmbaaGreat
open Go Go.Eng

theorem meas_in {s : List Lp} {c : List Int} (hs : StadR s) (h1 : 1 ≤ c.length ∧ c.length ≤ 6) (h2 : ∀ x ∈ c, 0 ≤ x ∧ x < s.length) (h3 : srtB c = true) (depth : Int) (hd : 1 ≤ depth ∧ depth ≤ 200) : areaE s c = (areaV s c, 0) ∧ snowE s c depth = (snowV s c depth, 0) := by
  have h0 := stadV_iff.2 hs
  have h4 := listedV_iff.2 ⟨⟨by omega, by omega⟩, h2, h3⟩
  have h5 : wiB depth 1 200 = true := by unfold wiB; simp; omega
  have h6 : measV s c = 0 := by unfold measV; rw [if_neg (by omega)]; exact h4
  unfold areaE snowE
  rw [if_neg (by omega), if_neg (by omega), if_neg (by simp [h5])]
  exact ⟨rfl, rfl⟩
theorem covered0 {s : List Lp} {r : Rl} (hcr : CR s r) {d v : Int} (hd : 1 ≤ d ∧ d ≤ 200) (hv : 0 ≤ v ∧ v ≤ 10000000) (hA : (allC s r).length ≤ 300) : (coveredV s r d v).2 = 0 := by
  have h0 := checkS_iff.2 hcr
  have h5 : wiB d 1 200 = true := by unfold wiB; simp; omega
  have h6 : wiB v 0 10000000 = true := by unfold wiB; simp; omega
  have h7 := (cov_mono s r d (Int.le_refl v)).2
  unfold coveredV
  rw [if_neg (by omega), if_neg (by simp [h5, h6]), if_neg (by omega)]
theorem cheap6 {s : List Lp} {r : Rl} (hcr : CR s r) {d : Int} (hd : 1 ≤ d ∧ d ≤ 200) (ho : cheapO s r d (coursesL s.length (nL r)) = none) : (cheapV s r d).2.2 = 6 := by
  have h0 := checkS_iff.2 hcr
  have h5 : wiB d 1 200 = true := by unfold wiB; simp; omega
  unfold cheapV
  rw [if_neg (by omega), if_neg (by simp [h5]), ho]
theorem snow_pos {s : List Lp} (hs : StadR s) {c : List Int} {y d : Int} (hy : y ∈ c) (hr : 0 ≤ y ∧ y < s.length) (hd : 1 ≤ d) : 1 ≤ snowV s c d := by
  have h1 : 1 ≤ areaV s c := areaP_pos hs (y := y.toNat) (by rwa [Int.toNat_of_nonneg hr.1]) _ (Nat.le_refl _) (by omega)
  have h2 : 0 < areaV s c * d := Int.mul_pos (by omega) (by omega)
  unfold snowV
  generalize areaV s c * d = z at *
  omega
end Go.Proofs.YtpknmgafambmbaaGreat

/- The engine, part B47: halves of numbers without a sign. -/
namespace Go.Eng
open Go Go.RowKit
section
variable {P : Program} {ro : Cx} {n : Nat} {F : Fin} {w0 : World} {M : Nat → Prop} {k : List It} {ops : Array Oper} {rest : List Oper} {e : Env} {H Hq : List Ck}
theorem wu64 {a : Int} (h0 : 0 ≤ a) (h1 : a < 18446744073709551616) : IntKind.u64.wrap a = a := by
  show a % 18446744073709551616 = a
  omega
theorem run_shrU {a : Int} (w : World) : (Op.shift .shr .u64 a .u64 1).run P w = .ok (.int .u64 (a / 2)) w := by
  have e : Int.fdiv a (2 ^ 1) = a / 2 := by rw [Int.fdiv_eq_ediv_of_nonneg _ (by decide)]; rfl
  show (pure (Value.int IntKind.u64 (Int.fdiv a (2 ^ 1))) : Sem Value).run P w = _
  rw [e]
  rfl
theorem ql_shrU {d t t' : Nat} {x : Operand} {a : Int} {ty : TypeId} {pos : String} {af : Array Edge} (hx : opv e x = some (.int .u64 a)) (hd : Nat.blt d n = true)
    (h : QL P ro n F w0 M k ops rest ((d, .int .u64 (a / 2)) :: e) H) : QL P ro n F w0 M k ops (⟨some d, .binOp .shr t x (.const (.int .u64 1)) t', ty, pos, af, none⟩ :: rest) e H := .mk fun w hw =>
  yl_val (by simp) hd (fun a' hf => by
    have e1 := hf.op hx
    have e2 : a'.eval (.const (.int .u64 1)) = .int .u64 1 := rfl
    simp only [execOp, e1, e2]
    have := run_shrU (P := P) (a := a) w
    simp [eqGuard, binOp, this]) (h.h w hw)
end
end Go.Eng
