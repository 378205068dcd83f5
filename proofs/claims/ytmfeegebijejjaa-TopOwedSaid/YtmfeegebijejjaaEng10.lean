/- The engine, part 10: comparing structs of numbers. -/
import Derived.Test.YtmfeegebijejjaaEng9
import Derived.Test.YtmfeegebijejjaaLib2
import Derived.Laws.StructEq
namespace Go.Eng
open Go Go.RowKit
variable {P : Program} {T : Tab}

def fieldsIntB (P : Program) : Nat → List Field → Bool
  | _, [] => true
  | k, f :: fs => (!(f.name == "_")) && Nat.beq f.offset k && (match P.underlying f.type with | some (.int _) => true | _ => false) && fieldsIntB P (k + 1) fs

def structIntB (P : Program) (t m : Nat) : Bool :=
  (match P.underlying t with | some (.struct fs) => Nat.beq fs.size m && fieldsIntB P 0 fs.toList | _ => false) && !(P.stoodInHeld t) && !(P.eqGuardType P.depth t)

theorem ints_at (l : List Int) (k : Nat) (hk : k < l.length) : (ints l).toArray[k]? = some (.int .i64 l[k]) := by simp [hk]

theorem run_eqFields_int (d : Nat) (as bs : List Int) (hl : as.length = bs.length) (w : World) : ∀ (fs : List Field) (k : Nat), fieldsIntB P k fs = true → k + fs.length = as.length →
    (Op.eqFields (d + 1) (ints as).toArray (ints bs).toArray fs).run P w = .ok (decide (as.drop k = bs.drop k)) w
  | [], k, _, h => by
    simp at h
    simp [Op.eqFields, List.drop_of_length_le (show as.length ≤ k by omega), List.drop_of_length_le (show bs.length ≤ k by omega)]
  | f :: fs, k, hB, h => by
    simp only [fieldsIntB, Bool.and_eq_true, Bool.not_eq_true', beq_eq_false_iff_ne] at hB
    obtain ⟨⟨⟨h1, h2⟩, h3⟩, h4⟩ := hB
    have h2 := Nat.eq_of_beq_eq_true h2
    simp at h
    have hka : k < as.length := by omega
    have hkb : k < bs.length := by omega
    split at h3
    · rename_i kd hu
      have ea : (part f.type (ints as).toArray k).run P w = .ok (.int .i64 as[k]) w := by
        simp [part, isAgg, run_underlying hu, hka]
      have eb : (part f.type (ints bs).toArray k).run P w = .ok (.int .i64 bs[k]) w := by
        simp [part, isAgg, run_underlying hu, hkb]
      have ih := run_eqFields_int d as bs hl w fs (k + 1) h4 (by omega)
      simp only [Op.eqFields, h1, ne_eq, not_false_eq_true, if_true, Sem.run_bind, h2, ea, eb, Result.andThen_ok, run_equalIn_int w d f.type .i64 kd _ _ hu, Sem.run_ite]
      have hd : (as.drop k = bs.drop k) ↔ (as[k] = bs[k] ∧ as.drop (k + 1) = bs.drop (k + 1)) := by
        rw [List.drop_eq_getElem_cons hka, List.drop_eq_getElem_cons hkb, List.cons.injEq]
      have hd' : decide (as.drop k = bs.drop k) = decide (as[k] = bs[k] ∧ as.drop (k + 1) = bs.drop (k + 1)) := decide_eq_decide.2 hd
      rw [hd']
      by_cases he : as[k] = bs[k]
      · simp [he, ih]
      · simp [he]
    · cases h3

theorem run_eqS {t m : Nat} (h : structIntB P t m = true) (as bs : List Int) (ha : as.length = m) (hb : bs.length = m) (w : World) :
    (binOp .eql t (.agg (ints as).toArray) (.agg (ints bs).toArray)).run P w = .ok (.bool (decide (as = bs))) w ∧ ∀ x y, (eqGuard .eql t x y (.agg (ints as).toArray) (.agg (ints bs).toArray)).run P w = .ok () w := by
  simp only [structIntB, Bool.and_eq_true, Bool.not_eq_true'] at h
  obtain ⟨⟨h1, h2⟩, h3⟩ := h
  split at h1
  · rename_i fs hu
    simp only [Bool.and_eq_true] at h1
    have hf : P.fieldsOf t = fs := by simp [Program.fieldsOf, hu]
    have hsz := Nat.eq_of_beq_eq_true h1.1
    refine ⟨?_, fun x y => run_eqGuard_agg w .eql t x y _ _ h3⟩
    rw [run_eql_struct, run_equalIn_agg w 9999 t _ _ (by rw [hf]; exact hu) h2, hf, run_eqFields_int 9998 as bs (by omega) w fs.toList 0 h1.2 (by simp; omega)]
    simp
  · cases h1

variable {ro : Option Nat} {n : Nat} {F : Fin} {k : List It} {ops : Array Oper} {l rest : List Oper} {e : Env} {w : World}

theorem yl_eqS {d t t' m : Nat} {x y : Operand} (as bs : List Int) {ty : TypeId} {pos : String} {af : Array Edge} (h : structIntB P t m = true)
    (hx : opv e x = some (.agg (ints as).toArray)) (hy : opv e y = some (.agg (ints bs).toArray)) (ha : as.length = m) (hb : bs.length = m) (hd : Nat.blt d n = true)
    (hk : YL P ro n F k ops rest ((d, .bool (decide (as = bs))) :: e) w) : YL P ro n F k ops (⟨some d, .binOp .eql t x y t', ty, pos, af, none⟩ :: rest) e w :=
  yl_val (by simp) hd (fun ac hf => by
    obtain ⟨r1, r2⟩ := run_eqS h as bs ha hb w
    simp only [execOp, hf.op hx, hf.op hy]
    simp [r1, r2]) hk

end Go.Eng
