/- My texts B27, K23, K24, K25, K1, K26, K27, L0, E0, E16, E17, E18, E19, C2, E20, E21, E22, E1, E2, E3, joined: a claim takes at most 60 files. -/
import Derived.Test.YtgeajgmefokifaaGreatJ3

/- The engine, part B27: structs of flat structs compared. -/
namespace Go.Eng
open Go Go.RowKit

section
variable {P : Program}
def nestF (P : Program) : Nat → List Field → List (List (Option IntKind)) → Bool
 | _, [], [] => true
 | o, f :: fs, k :: ks => !(f.name == "_") && Nat.beq f.offset o && flatB P f.type k && Nat.beq (P.cellsOf f.type) k.length && (P.info? f.type).isSome && nestF P (o + k.length) fs ks
 | _, _, _ => false
def nestB (P : Program) (t : Nat) (ks : List (List (Option IntKind))) : Bool :=
 !(P.stoodInHeld t) && !(P.eqGuardType P.depth t) && (match P.underlying t with | some (.struct fs) => nestF P 0 fs.toList ks | _ => false)
theorem fitV_len : ∀ (ks : List (Option IntKind)) (l : List Value), hZ ks l = true → l.length = ks.length
 | [], [], _ => rfl
 | [], _ :: _, h => by simp [hZ] at h
 | k :: ks, l, h => by
  obtain ⟨v, m, rfl, h1, _⟩ := iL h
  simp [fitV_len ks m h1]
theorem fitV_app : ∀ (ks js : List (Option IntKind)) (l : List Value), hZ (ks ++ js) l = true → ∃ l1 l2, l = l1 ++ l2 ∧ hZ ks l1 = true ∧ hZ js l2 = true
 | [], js, l, h => ⟨[], l, rfl, rfl, h⟩
 | k :: ks, js, l, h => by
  obtain ⟨v, m, rfl, h1, h2⟩ := iL (show hZ (k :: (ks ++ js)) l = true from h)
  obtain ⟨l1, l2, rfl, h3, h4⟩ := fitV_app ks js m h1
  refine ⟨v :: l1, l2, rfl, ?_, h4⟩
  rcases h2 with ⟨q, a, rfl, rfl⟩ | ⟨b, rfl, rfl⟩
  ·simp only [List.cons_append, hZ, Bool.and_eq_true] at h
   simp [hZ, h3, h.1]
  ·simp [hZ, h3]
theorem eqL_app : ∀ (ks : List (Option IntKind)) (l1 m1 l2 m2 : List Value), hZ ks l1 = true → hZ ks m1 = true → eqL (l1 ++ l2) (m1 ++ m2) = (eqL l1 m1 && eqL l2 m2)
 | [], l1, m1, l2, m2, h1, h2 => by
  cases l1 <;> simp [hZ] at h1
  cases m1 <;> simp [hZ] at h2
  simp [eqL]
 | k :: ks, l1, m1, l2, m2, h1, h2 => by
  obtain ⟨v, l, rfl, g1, e1⟩ := iL h1
  obtain ⟨u, m, rfl, g2, e2⟩ := iL h2
  have ih := eqL_app ks l m l2 m2 g1 g2
  rcases e1 with ⟨q, a, rfl, rfl⟩ | ⟨a, rfl, rfl⟩
  ·rcases e2 with ⟨q', b, hq, rfl⟩ | ⟨b, hq, _⟩
   ·simp only [List.cons_append, eqL, ih, Bool.and_assoc]
   ·cases hq
  ·rcases e2 with ⟨q', b, hq, _⟩ | ⟨b, _, rfl⟩
   ·cases hq
   ·simp only [List.cons_append, eqL, ih, Bool.and_assoc]
theorem run_partA {t n : Nat} {ks : List (Option IntKind)} (h : flatB P t ks = true) (hc : P.cellsOf t = n) (hi : (P.info? t).isSome = true) (xs : List Value) (o : Nat) (w : World) : (part t xs.toArray o).run P w = .ok (.agg ((xs.drop o).take n).toArray) w := by
 obtain ⟨h1, h2, h3, h4⟩ := flat_under h
 obtain ⟨i, hi⟩ := Option.isSome_iff_exists.1 hi
 have e : xs.toArray.extract o (o + n) = ((xs.drop o).take n).toArray := by
  apply Array.ext'
  simp [List.extract_eq_take_drop]
 simp [part, isAgg, run_underlying h3, run_sizeOf w hi, hc, e]
theorem lS (d : Nat) (w : World) : ∀ (fs : List Field) (kss : List (List (Option IntKind))) (o : Nat) (xs ys : List Value) (l m : List Value), nestF P o fs kss = true → hZ kss.flatten l = true → hZ kss.flatten m = true → xs.drop o = l → ys.drop o = m →
  (Go.Op.eqFields (d + 2) xs.toArray ys.toArray fs).run P w = .ok (eqL l m) w
 | [], [], o, xs, ys, l, m, _, hl, hm, _, _ => by
  cases l <;> simp [hZ] at hl
  cases m <;> simp [hZ] at hm
  rfl
 | [], _ :: _, _, _, _, _, _, h, _, _, _, _ => by simp [nestF] at h
 | _ :: _, [], _, _, _, _, _, h, _, _, _, _ => by simp [nestF] at h
 | f :: fs, k :: ks, o, xs, ys, l, m, h, hl, hm, ex, ey => by
  simp only [nestF, Bool.and_eq_true] at h
  obtain ⟨⟨⟨⟨⟨hn, ho⟩, hf⟩, hc⟩, hi⟩, hr⟩ := h
  have ho := Nat.eq_of_beq_eq_true ho
  have hc := Nat.eq_of_beq_eq_true hc
  have hn : f.name ≠ "_" := by simpa using hn
  rw [List.flatten_cons] at hl hm
  obtain ⟨l1, l2, rfl, f1, f2⟩ := fitV_app _ _ _ hl
  obtain ⟨m1, m2, rfl, g1, g2⟩ := fitV_app _ _ _ hm
  have n1 := fitV_len _ _ f1
  have n2 := fitV_len _ _ g1
  have dx : xs.drop (o + k.length) = l2 := by rw [← List.drop_drop, ex, ← n1]; simp
  have dy : ys.drop (o + k.length) = m2 := by rw [← List.drop_drop, ey, ← n2]; simp
  have ih := lS d w fs ks (o + k.length) xs ys l2 m2 hr f2 g2 dx dy
  have px := run_partA (P := P) hf hc hi xs f.offset w
  have py := run_partA (P := P) hf hc hi ys f.offset w
  rw [ho, ex, List.take_append_of_le_length (by omega), List.take_of_length_le (by omega)] at px
  rw [ho, ey, List.take_append_of_le_length (by omega), List.take_of_length_le (by omega)] at py
  have he := run_eqFlat hf f1 g1 d w
  rw [← ho] at px py
  simp only [Go.Op.eqFields, if_pos hn, Sem.run_bind, px, py, Result.andThen_ok, he]
  rw [eqL_app k l1 m1 l2 m2 f1 g1]
  cases eqL l1 m1
  ·simp
  ·simpa using ih
theorem nest_under {t : Nat} {ks : List (List (Option IntKind))} (h : nestB P t ks = true) : P.stoodInHeld t = false ∧ P.eqGuardType P.depth t = false ∧ P.underlying t = some (.struct (P.fieldsOf t)) ∧ nestF P 0 (P.fieldsOf t).toList ks = true := by
 simp only [nestB, Bool.and_eq_true, Bool.not_eq_true'] at h
 obtain ⟨⟨h1, h2⟩, h3⟩ := h
 split at h3
 ·rename_i fs hu
  refine ⟨h1, h2, ?_, ?_⟩
  ·simp [Program.fieldsOf, hu]
  ·simpa [Program.fieldsOf, hu] using h3
 ·cases h3
theorem run_eqNest {t : Nat} {ks : List (List (Option IntKind))} (h : nestB P t ks = true) {xs ys : List Value} (hx : hZ ks.flatten xs = true) (hy : hZ ks.flatten ys = true) (d : Nat) (w : World) : (Go.Op.equalIn (d + 3) t (.agg xs.toArray) (.agg ys.toArray)).run P w = .ok (eqL xs ys) w := by
 obtain ⟨h1, h2, h3, h4⟩ := nest_under h
 rw [run_equalIn_agg w (d + 2) t _ _ h3 h1]
 exact lS d w _ ks 0 xs ys xs ys h4 hx hy rfl rfl
variable {ro : Cx} {n : Nat} {F : Fin} {w0 : World} {M : Nat → Prop} {k : List It} {ops : Array Oper} {rest : List Oper} {e : Env} {H Hq : List Ck}
theorem exec_eqNest {a : Act} {d t t' : Nat} {x y : Operand} {xs ys : List Value} {ks : List (List (Option IntKind))} {ty : TypeId} {pos : String} {af : Array Edge} (hf : Fits n e a) (hx : opv e x = some (.agg xs.toArray)) (hy : opv e y = some (.agg ys.toArray)) (hF : nestB P t ks = true) (h1 : hZ ks.flatten xs = true) (h2 : hZ ks.flatten ys = true) (w : World) :
  (execOp a.eval ⟨some d, .binOp .eql t x y t', ty, pos, af, none⟩).run P w = .ok (.value (.bool (eqL xs ys))) w ∧ (execOp a.eval ⟨some d, .binOp .neq t x y t', ty, pos, af, none⟩).run P w = .ok (.value (.bool (!(eqL xs ys)))) w := by
 have e1 := hf.op hx
 have e2 := hf.op hy
 have h3 := run_eqNest hF h1 h2 9997 w
 have hg := (nest_under hF).2.1
 constructor <;> simp [execOp, e1, e2, run_eqGuard_agg, hg, run_eql_struct, run_neq_struct, h3]
theorem qf_neN (ks : List (List (Option IntKind))) {d t t' : Nat} {x y : Operand} {xs ys : List Value} {ty : TypeId} {pos : String} {af : Array Edge} (hF : nestB P t ks = true) (hx : opv e x = some (.agg xs.toArray)) (hy : opv e y = some (.agg ys.toArray)) (h1 : hZ ks.flatten xs = true) (h2 : hZ ks.flatten ys = true) (hd : Nat.blt d n = true)
  (h : QF P ro n F w0 M k ops Hq rest ((d, .bool (!(eqL xs ys))) :: e) H) : QF P ro n F w0 M k ops Hq (⟨some d, .binOp .neq t x y t', ty, pos, af, none⟩ :: rest) e H := .mk fun w hw =>
 fI rfl hd (fun _ hf w' _ => (exec_eqNest hf hx hy hF h1 h2 w').2) (h.h w hw)
end
end Go.Eng

/- Walks: lists compared. -/
namespace Go.Proofs.YtgeajgmefokifaaGreat
open Go Go.Eng

def eqIB (a b : List Int) : Bool := decide (a = b) && true
theorem eqIB_iff {a b : List Int} : eqIB a b = true ↔ a = b := by simp [eqIB]
set_option maxHeartbeats 1000000 in
theorem eqIF_ca (w : World) (lo hi lo2 hi2 : Nat) (v u : Value) (l m : List Int) (h1 : RdI w lo hi v l) (h2 : RdI w lo2 hi2 u m) (hlen : l.length ≤ 1000000) (hlen2 : m.length ≤ 1000000) :
  Ca Tryz.prog 25 [v, u] w fun r w' => r = .bool (eqIB l m) ∧ Chg [] w w' := by
 obtain ⟨a, ca, rfl, hsa⟩ := RdI.outI h1
 obtain ⟨b, cb, rfl, hsb⟩ := RdI.outI h2
 refine cS (Sat.nil w M0) Tryz.func25 rfl (by simp [Tryz.ntmps25]) ?_
 (refine aD (aB (aA V Z Z (aF (aD (aD (aB ?_)))))); (iterate 5 refine aA V Z Z ?_); refine aF ?_)
 by_cases hll : l.length = m.length
 ·rw [decide_eq_true (show (l.length : Int) = m.length by omega)]
  (refine aH Z (aM (aD (aD (aB ?_)))); (iterate 3 refine aA V Z Z ?_); refine aF (aQ ?_))
  refine cB (σ := Nat) (fun s => s ≤ l.length ∧ l.take s = m.take s) (fun s => l.length - s) (fun s => [(0, .slice a l.length ca), (1, .slice b m.length cb), (12, .int .i64 l.length), (13, .int .i64 s)]) (fun _ => []) 0 (by simp) ⟨rfl, rfl, rfl, rfl, trivial⟩ (by repeat constructor) ?_
  rintro i ⟨hi, ht⟩ K hK
  (refine aD (aB (aA V Z Z (aF (aD ?_)))))
  refine dL Z (fun hc => ?_) (fun hc => ?_)
  ·have hi2 : i < l.length := by omega
   have hi3 : i < m.length := by omega
   clear hc
   obtain ⟨ba, oa, rfl⟩ := hsa (by omega)
   obtain ⟨bb, ob, rfl⟩ := hsb (by omega)
   (refine aM (aD (aQ (aD (aB (aA V Z Z (aA V Z Z (aF (aD ?_)))))))))
   refine cQ _ [] (Sp.refl _) (by kernel_rfl) (by kernel_rfl) ?_
   (refine aG V Z Z Z (aG V Z Z Z ?_))
   (refine bR V Z Z Z Z Z (by omega) (by omega) ?_; refine cC V Z Z Z (fun w hs => RdI.at (RdE.keep h1 hs.chg0) i hi2) ?_)
   (refine aG V Z Z Z (aG V Z Z Z ?_))
   (refine bR V Z Z Z Z Z (by omega) (by omega) ?_; refine cC V Z Z Z (fun w hs => RdI.at (RdE.keep h2 hs.chg0) i hi3) ?_)
   (refine aG V Z Z Z (aO ?_))
   by_cases he : l[i] = m[i]
   ·skip
    rw [decide_eq_true he]
    (refine aH Z (aM (bJ (aB (bA V Z Z Z Z (by omega) (by omega) (aA V Z Z (aF ?_)))))))
    exact hK (i + 1) _ _ ⟨by omega, by rw [List.take_succ_eq_append_getElem hi2, List.take_succ_eq_append_getElem hi3, ht, he]⟩ (by omega) ⟨rfl, rfl, rfl, rfl, trivial⟩ (by repeat constructor)
   ·have e : eqIB l m = false := Bool.eq_false_iff.2 fun hh => he (by have := eqIB_iff.1 hh; subst this; rfl)
    rw [e, decide_eq_false he]
    (refine aL Z (aD (aB (aA V Z Z (aF (aS ?_))))))
    refine aU V Z (by repeat constructor) fun w hs => ?_
    exact ⟨rfl, hs.chg0⟩
  ·obtain rfl : i = l.length := by omega
   have e : eqIB l m = true := eqIB_iff.2 (by rw [List.take_length] at ht; rw [hll, List.take_length] at ht; exact ht)
   rw [e]
   (refine bO _ rfl (aD (aB (aA V Z Z (aF (aS ?_))))))
   refine aU V Z (by repeat constructor) fun w hs => ?_
   exact ⟨rfl, hs.chg0⟩
 ·have e : eqIB l m = false := Bool.eq_false_iff.2 fun hh => hll (by rw [eqIB_iff.1 hh])
  rw [e, decide_eq_false (show ¬ (l.length : Int) = m.length by omega)]
  (refine aL Z (aD (aB (aA V Z Z (aF (aS ?_))))))
  refine aU V Z (by repeat constructor) fun w hs => ?_
  exact ⟨rfl, hs.chg0⟩
theorem hJ (w : World) (lo hi lo2 hi2 : Nat) (v u : Value) (l : List Int) (h1 : RdI w lo hi v l) (h2 : RdI w lo2 hi2 u l) (hlen : l.length ≤ 1000000) :
  Ca Tryz.prog 25 [v, u] w fun r w' => r = .bool true ∧ Chg [] w w' := by
 have h := eqIF_ca w lo hi lo2 hi2 v u l l h1 h2 hlen hlen
 rwa [eqIB_iff.2 rfl] at h

set_option maxHeartbeats 1000000 in
theorem eqII_ca (w : World) (lo hi lo2 hi2 : Nat) (v u : Value) (ll : List (List Int)) (h1 : RdII w lo hi v ll) (h2 : RdII w lo2 hi2 u ll) (hlen : ll.length ≤ 1000000) (hrow : ∀ l ∈ ll, l.length ≤ 1000000) :
  Ca Tryz.prog 44 [v, u] w fun r w' => r = .bool true ∧ Chg [] w w' := by
 obtain ⟨a, ca, rfl, hsa⟩ := RdII.outI h1
 obtain ⟨b, cb, rfl, hsb⟩ := RdII.outI h2
 refine cS (Sat.nil w M0) Tryz.func44 rfl (by simp [Tryz.ntmps44]) ?_
 (refine aD (aB (aA V Z Z (aF (aD (aD (aB ?_)))))); (iterate 4 refine aA V Z Z ?_); refine aW V Z Z Z (by omega) (aF (aH Z (aM (aD (aD (aB ?_)))))); (iterate 3 refine aA V Z Z ?_); refine aF (aQ ?_))
 refine cB (σ := Nat) (fun s => s ≤ ll.length) (fun s => ll.length - s) (fun s => [(0, .slice a ll.length ca), (1, .slice b ll.length cb), (12, .int .i64 ll.length), (13, .int .i64 s)]) (fun _ => []) 0 (by omega) ⟨rfl, rfl, rfl, rfl, trivial⟩ (by repeat constructor) ?_
 intro i hi K hK
 (refine aD (aB (aA V Z Z (aF (aD ?_)))))
 refine dL Z (fun hc => ?_) (fun hc => ?_)
 ·have hi2 : i < ll.length := by omega
  clear hc
  obtain ⟨ba, oa, rfl⟩ := hsa (by omega)
  obtain ⟨bb, ob, rfl⟩ := hsb (by omega)
  obtain ⟨ar, cr, hr1, hc1⟩ := h1.row i hi2
  obtain ⟨br, dr, hr2, hc2⟩ := h2.row i hi2
  have hrl := hrow _ (List.getElem_mem hi2)
  (refine aM (aD (aQ (aD (aB (aA V Z Z (aA V Z Z (aF (aD ?_)))))))))
  refine cQ _ [] (Sp.refl _) (by kernel_rfl) (by kernel_rfl) ?_
  (refine aG V Z Z Z (aG V Z Z Z ?_))
  refine bR V Z Z Z Z Z (by omega) (by omega) ?_
  refine cC (v := .slice ar ll[i].length cr) V rfl rfl rfl (fun w' hs => hc1 w' hs.chg0) ?_
  (refine aG V Z Z Z (aG V Z Z Z ?_))
  refine bR V Z Z Z Z Z (by omega) (by omega) ?_
  refine cC (v := .slice br ll[i].length dr) V rfl rfl rfl (fun w' hs => hc2 w' hs.chg0) ?_
  skip
  refine bT (val := .bool true) V rfl rfl rfl rfl (fun w hs => ?_) ?_; exact hJ w _ _ _ _ _ _ ll[i] (RdE.keep hr1 hs.chg0) (RdE.keep hr2 hs.chg0) hrl
  (refine aG V Z Z Z (aO (aH Z (aM (bJ (aB (bA V Z Z Z Z (by omega) (by omega) (aA V Z Z (aF ?_)))))))))
  exact hK (i + 1) _ _ (by omega) (by omega) ⟨rfl, rfl, rfl, rfl, trivial⟩ (by repeat constructor)
 ·(refine bO _ rfl (aD (aB (aA V Z Z (aF (aS ?_))))))
  refine aU V Z (by repeat constructor) fun w hs => ?_
  exact ⟨rfl, hs.chg0⟩

set_option maxHeartbeats 1000000 in
theorem eqR_ca (w : World) (lo hi lo2 hi2 : Nat) (v u : Value) (l : List Int) (h1 : RdI w lo hi v l) (h2 : RdI w lo2 hi2 u l) (hlen : l.length ≤ 1000000) :
  Ca Tryz.prog 87 [v, u] w fun r w' => r = .bool true ∧ Chg [] w w' := by
 obtain ⟨a, ca, rfl, hsa⟩ := RdI.outI h1
 obtain ⟨b, cb, rfl, hsb⟩ := RdI.outI h2
 refine cS (Sat.nil w M0) Tryz.func87 rfl (by simp [Tryz.ntmps87]) ?_
 (refine aD (aB (aA V Z Z (aF (aD (aD (aB ?_)))))); (iterate 4 refine aA V Z Z ?_); refine aW V Z Z Z (by omega) (aF (aH Z (aM (aD (aD (aB ?_)))))); (iterate 3 refine aA V Z Z ?_); refine aF (aQ ?_))
 refine cB (σ := Nat) (fun s => s ≤ l.length) (fun s => l.length - s) (fun s => [(0, .slice a l.length ca), (1, .slice b l.length cb), (12, .int .i64 l.length), (13, .int .i64 s)]) (fun _ => []) 0 (by omega) ⟨rfl, rfl, rfl, rfl, trivial⟩ (by repeat constructor) ?_
 intro i hi K hK
 (refine aD (aB (aA V Z Z (aF (aD ?_)))))
 refine dL Z (fun hc => ?_) (fun hc => ?_)
 ·have hi2 : i < l.length := by omega
  clear hc
  obtain ⟨ba, oa, rfl⟩ := hsa (by omega)
  obtain ⟨bb, ob, rfl⟩ := hsb (by omega)
  (refine aM (aD (aQ (aD (aB (aA V Z Z (aA V Z Z (aF (aD ?_)))))))))
  refine cQ _ [] (Sp.refl _) (by kernel_rfl) (by kernel_rfl) ?_
  (refine aG V Z Z Z (aG V Z Z Z ?_))
  (refine bR V Z Z Z Z Z (by omega) (by omega) ?_; refine cC V Z Z Z (fun w hs => RdI.at (RdE.keep h1 hs.chg0) i hi2) ?_)
  (refine aG V Z Z Z (aG V Z Z Z ?_))
  (refine bR V Z Z Z Z Z (by omega) (by omega) ?_; refine cC V Z Z Z (fun w hs => RdI.at (RdE.keep h2 hs.chg0) i hi2) ?_)
  (refine qf_neqF V Z Z Z (by omega) (aO (aH Z (aM (bJ (aB (bA V Z Z Z Z (by omega) (by omega) (aA V Z Z (aF ?_)))))))))
  skip
  exact hK (i + 1) _ _ (by omega) (by omega) ⟨rfl, rfl, rfl, rfl, trivial⟩ (by repeat constructor)
 ·(refine bO _ rfl (aD (aB (aA V Z Z (aF (aS ?_))))))
  refine aU V Z (by repeat constructor) fun w hs => ?_
  exact ⟨rfl, hs.chg0⟩

theorem spn_flat : flatB Tryz.prog 25 [some .i64, some .i64] = true := by kernel_rfl
set_option maxHeartbeats 1000000 in
theorem eqS_ca (w : World) (lo hi lo2 hi2 : Nat) (v u : Value) (l : List (Int × Int)) (h1 : RdS w lo hi v l) (h2 : RdS w lo2 hi2 u l) (hlen : l.length ≤ 1000000) :
  Ca Tryz.prog 79 [v, u] w fun r w' => r = .bool true ∧ Chg [] w w' := by
 obtain ⟨a, ca, rfl, hsa⟩ := RdS.outI h1
 obtain ⟨b, cb, rfl, hsb⟩ := RdS.outI h2
 refine cS (Sat.nil w M0) Tryz.func79 rfl (by simp [Tryz.ntmps79]) ?_
 (refine aD (aB (aA V Z Z (aF (aD (aD (aB ?_)))))); (iterate 4 refine aA V Z Z ?_); refine aW V Z Z Z (by omega) (aF (aH Z (aM (aD (aD (aB ?_)))))); (iterate 3 refine aA V Z Z ?_); refine aF (aQ ?_))
 refine cB (σ := Nat) (fun s => s ≤ l.length) (fun s => l.length - s) (fun s => [(0, .slice a l.length ca), (1, .slice b l.length cb), (12, .int .i64 l.length), (13, .int .i64 s)]) (fun _ => []) 0 (by omega) ⟨rfl, rfl, rfl, rfl, trivial⟩ (by repeat constructor) ?_
 intro i hi K hK
 (refine aD (aB (aA V Z Z (aF (aD ?_)))))
 refine dL Z (fun hc => ?_) (fun hc => ?_)
 ·have hi2 : i < l.length := by omega
  clear hc
  obtain ⟨ba, oa, rfl⟩ := hsa (by omega)
  obtain ⟨bb, ob, rfl⟩ := hsb (by omega)
  (refine aM (aD (aQ (aD (aB (aA V Z Z (aA V Z Z (aF (aD ?_)))))))))
  refine cQ _ [] (Sp.refl _) (by kernel_rfl) (by kernel_rfl) ?_
  (refine aG V Z Z Z (aG V Z Z Z ?_))
  refine bR V Z Z Z Z Z (by omega) (by omega) ?_
  refine fW V Z Z Z Z (fun w hs => RdS.at (RdE.keep h1 hs.chg0) i hi2) ?_
  (refine aG V Z Z Z (aG V Z Z Z ?_))
  refine bR V Z Z Z Z Z (by omega) (by omega) ?_
  refine fW V Z Z Z Z (fun w hs => RdS.at (RdE.keep h2 hs.chg0) i hi2) ?_
  skip
  refine qf_neF [some .i64, some .i64] spn_flat rfl rfl rfl rfl rfl ?_
  rw [iP]
  (refine aO (aH Z (aM (bJ (aB (bA V Z Z Z Z (by omega) (by omega) (aA V Z Z (aF ?_))))))))
  exact hK (i + 1) _ _ (by omega) (by omega) ⟨rfl, rfl, rfl, rfl, trivial⟩ (by repeat constructor)
 ·(refine bO _ rfl (aD (aB (aA V Z Z (aF (aS ?_))))))
  refine aU V Z (by repeat constructor) fun w hs => ?_
  exact ⟨rfl, hs.chg0⟩

theorem pil_flat : flatB Tryz.prog 127 [some .i64, some .i64] = true := by kernel_rfl
set_option maxHeartbeats 1000000 in
theorem eqP_ca (w : World) (lo hi lo2 hi2 : Nat) (v u : Value) (l : List (Int × Int)) (h1 : RdS w lo hi v l) (h2 : RdS w lo2 hi2 u l) (hlen : l.length ≤ 1000000) :
  Ca Tryz.prog 67 [v, u] w fun r w' => r = .bool true ∧ Chg [] w w' := by
 obtain ⟨a, ca, rfl, hsa⟩ := RdS.outI h1
 obtain ⟨b, cb, rfl, hsb⟩ := RdS.outI h2
 refine cS (Sat.nil w M0) Tryz.func67 rfl (by simp [Tryz.ntmps67]) ?_
 (refine aD (aB (aA V Z Z (aF (aD (aD (aB ?_)))))); (iterate 4 refine aA V Z Z ?_); refine aW V Z Z Z (by omega) (aF (aH Z (aM (aD (aD (aB ?_)))))); (iterate 3 refine aA V Z Z ?_); refine aF (aQ ?_))
 refine cB (σ := Nat) (fun s => s ≤ l.length) (fun s => l.length - s) (fun s => [(0, .slice a l.length ca), (1, .slice b l.length cb), (12, .int .i64 l.length), (13, .int .i64 s)]) (fun _ => []) 0 (by omega) ⟨rfl, rfl, rfl, rfl, trivial⟩ (by repeat constructor) ?_
 intro i hi K hK
 (refine aD (aB (aA V Z Z (aF (aD ?_)))))
 refine dL Z (fun hc => ?_) (fun hc => ?_)
 ·have hi2 : i < l.length := by omega
  clear hc
  obtain ⟨ba, oa, rfl⟩ := hsa (by omega)
  obtain ⟨bb, ob, rfl⟩ := hsb (by omega)
  (refine aM (aD (aQ (aD (aB (aA V Z Z (aA V Z Z (aF (aD ?_)))))))))
  refine cQ _ [] (Sp.refl _) (by kernel_rfl) (by kernel_rfl) ?_
  (refine aG V Z Z Z (aG V Z Z Z ?_))
  refine bR V Z Z Z Z Z (by omega) (by omega) ?_
  refine fW V Z Z Z Z (fun w hs => RdS.at (RdE.keep h1 hs.chg0) i hi2) ?_
  (refine aG V Z Z Z (aG V Z Z Z ?_))
  refine bR V Z Z Z Z Z (by omega) (by omega) ?_
  refine fW V Z Z Z Z (fun w hs => RdS.at (RdE.keep h2 hs.chg0) i hi2) ?_
  skip
  refine qf_neF [some .i64, some .i64] pil_flat rfl rfl rfl rfl rfl ?_
  rw [iP]
  (refine aO (aH Z (aM (bJ (aB (bA V Z Z Z Z (by omega) (by omega) (aA V Z Z (aF ?_))))))))
  exact hK (i + 1) _ _ (by omega) (by omega) ⟨rfl, rfl, rfl, rfl, trivial⟩ (by repeat constructor)
 ·(refine bO _ rfl (aD (aB (aA V Z Z (aF (aS ?_))))))
  refine aU V Z (by repeat constructor) fun w hs => ?_
  exact ⟨rfl, hs.chg0⟩

theorem lp_flat : flatB Tryz.prog 32 [some .i64, some .i64, some .i64] = true := by kernel_rfl
set_option maxHeartbeats 1000000 in
theorem eqL_ca (w : World) (lo hi lo2 hi2 : Nat) (v u : Value) (l : List Lp) (h1 : RdL w lo hi v l) (h2 : RdL w lo2 hi2 u l) (hlen : l.length ≤ 1000000) :
  Ca Tryz.prog 41 [v, u] w fun r w' => r = .bool true ∧ Chg [] w w' := by
 obtain ⟨a, ca, rfl, hsa⟩ := RdL.outI h1
 obtain ⟨b, cb, rfl, hsb⟩ := RdL.outI h2
 refine cS (Sat.nil w M0) Tryz.func41 rfl (by simp [Tryz.ntmps41]) ?_
 (refine aD (aB (aA V Z Z (aF (aD (aD (aB ?_)))))); (iterate 4 refine aA V Z Z ?_); refine aW V Z Z Z (by omega) (aF (aH Z (aM (aD (aD (aB ?_)))))); (iterate 3 refine aA V Z Z ?_); refine aF (aQ ?_))
 refine cB (σ := Nat) (fun s => s ≤ l.length) (fun s => l.length - s) (fun s => [(0, .slice a l.length ca), (1, .slice b l.length cb), (12, .int .i64 l.length), (13, .int .i64 s)]) (fun _ => []) 0 (by omega) ⟨rfl, rfl, rfl, rfl, trivial⟩ (by repeat constructor) ?_
 intro i hi K hK
 (refine aD (aB (aA V Z Z (aF (aD ?_)))))
 refine dL Z (fun hc => ?_) (fun hc => ?_)
 ·have hi2 : i < l.length := by omega
  clear hc
  obtain ⟨ba, oa, rfl⟩ := hsa (by omega)
  obtain ⟨bb, ob, rfl⟩ := hsb (by omega)
  (refine aM (aD (aQ (aD (aB (aA V Z Z (aA V Z Z (aF (aD ?_)))))))))
  refine cQ _ [] (Sp.refl _) (by kernel_rfl) (by kernel_rfl) ?_
  (refine aG V Z Z Z (aG V Z Z Z ?_))
  refine bR V Z Z Z Z Z (by omega) (by omega) ?_
  refine fW V Z Z Z Z (fun w hs => RdL.at (RdE.keep h1 hs.chg0) i hi2) ?_
  (refine aG V Z Z Z (aG V Z Z Z ?_))
  refine bR V Z Z Z Z Z (by omega) (by omega) ?_
  refine fW V Z Z Z Z (fun w hs => RdL.at (RdE.keep h2 hs.chg0) i hi2) ?_
  skip
  refine qf_neF [some .i64, some .i64, some .i64] lp_flat rfl rfl rfl rfl rfl ?_
  rw [iP]
  (refine aO (aH Z (aM (bJ (aB (bA V Z Z Z Z (by omega) (by omega) (aA V Z Z (aF ?_))))))))
  exact hK (i + 1) _ _ (by omega) (by omega) ⟨rfl, rfl, rfl, rfl, trivial⟩ (by repeat constructor)
 ·(refine bO _ rfl (aD (aB (aA V Z Z (aF (aS ?_))))))
  refine aU V Z (by repeat constructor) fun w hs => ?_
  exact ⟨rfl, hs.chg0⟩

theorem dy_nest : nestB Tryz.prog 46 [[some .i64, some .i64], [some .i64, some .i64], [some .i64, some .i64]] = true := by kernel_rfl
set_option maxHeartbeats 1000000 in
theorem eqD_ca (w : World) (lo hi lo2 hi2 : Nat) (v u : Value) (l : List Dy) (h1 : RdD w lo hi v l) (h2 : RdD w lo2 hi2 u l) (hlen : l.length ≤ 1000000) :
  Ca Tryz.prog 110 [v, u] w fun r w' => r = .bool true ∧ Chg [] w w' := by
 obtain ⟨a, ca, rfl, hsa⟩ := RdD.outI h1
 obtain ⟨b, cb, rfl, hsb⟩ := RdD.outI h2
 refine cS (Sat.nil w M0) Tryz.func110 rfl (by simp [Tryz.ntmps110]) ?_
 (refine aD (aB (aA V Z Z (aF (aD (aD (aB ?_)))))); (iterate 4 refine aA V Z Z ?_); refine aW V Z Z Z (by omega) (aF (aH Z (aM (aD (aD (aB ?_)))))); (iterate 3 refine aA V Z Z ?_); refine aF (aQ ?_))
 refine cB (σ := Nat) (fun s => s ≤ l.length) (fun s => l.length - s) (fun s => [(0, .slice a l.length ca), (1, .slice b l.length cb), (12, .int .i64 l.length), (13, .int .i64 s)]) (fun _ => []) 0 (by omega) ⟨rfl, rfl, rfl, rfl, trivial⟩ (by repeat constructor) ?_
 intro i hi K hK
 (refine aD (aB (aA V Z Z (aF (aD ?_)))))
 refine dL Z (fun hc => ?_) (fun hc => ?_)
 ·have hi2 : i < l.length := by omega
  clear hc
  obtain ⟨ba, oa, rfl⟩ := hsa (by omega)
  obtain ⟨bb, ob, rfl⟩ := hsb (by omega)
  (refine aM (aD (aQ (aD (aB (aA V Z Z (aA V Z Z (aF (aD ?_)))))))))
  refine cQ _ [] (Sp.refl _) (by kernel_rfl) (by kernel_rfl) ?_
  (refine aG V Z Z Z (aG V Z Z Z ?_))
  refine bR V Z Z Z Z Z (by omega) (by omega) ?_
  refine fW V Z Z Z Z (fun w hs => RdD.at (RdE.keep h1 hs.chg0) i hi2) ?_
  (refine aG V Z Z Z (aG V Z Z Z ?_))
  refine bR V Z Z Z Z Z (by omega) (by omega) ?_
  refine fW V Z Z Z Z (fun w hs => RdD.at (RdE.keep h2 hs.chg0) i hi2) ?_
  skip
  refine qf_neN [[some .i64, some .i64], [some .i64, some .i64], [some .i64, some .i64]] dy_nest rfl rfl rfl rfl rfl ?_
  rw [iP]
  (refine aO (aH Z (aM (bJ (aB (bA V Z Z Z Z (by omega) (by omega) (aA V Z Z (aF ?_))))))))
  exact hK (i + 1) _ _ (by omega) (by omega) ⟨rfl, rfl, rfl, rfl, trivial⟩ (by repeat constructor)
 ·(refine bO _ rfl (aD (aB (aA V Z Z (aF (aS ?_))))))
  refine aU V Z (by repeat constructor) fun w hs => ?_
  exact ⟨rfl, hs.chg0⟩
end Go.Proofs.YtgeajgmefokifaaGreat

/- Walks: the examples; awake. -/
namespace Go.Proofs.YtgeajgmefokifaaGreat
open Go Go.Eng

theorem Blk.rdS {w : World} {b : Nat} {l : List (Int × Int)} {cs : List Value} {t : TypeId} {c : Nat} (h : Blk w b cs t) (hc : cs = spC l) : RdS w 0 w.heap.size (.slice (some ⟨b, 0, none⟩) l.length c) l := by
 subst hc
 exact RdS.of ⟨jW l, .inr ⟨b, 0, c, rfl, fun _ => ⟨Nat.zero_le _, h.lt, h.lt⟩, fun j _ => by rw [Blk.cell h]; simp⟩⟩
theorem Blk.rdL {w : World} {b : Nat} {l : List Lp} {cs : List Value} {t : TypeId} {c : Nat} (h : Blk w b cs t) (hc : cs = lpC l) : RdL w 0 w.heap.size (.slice (some ⟨b, 0, none⟩) l.length c) l := by
 subst hc
 exact RdL.of ⟨lpC_length l, .inr ⟨b, 0, c, rfl, fun _ => ⟨Nat.zero_le _, h.lt, h.lt⟩, fun j _ => by rw [Blk.cell h]; simp⟩⟩
theorem Blk.rdD {w : World} {b : Nat} {l : List Dy} {cs : List Value} {t : TypeId} {c : Nat} (h : Blk w b cs t) (hc : cs = dyC l) : RdD w 0 w.heap.size (.slice (some ⟨b, 0, none⟩) l.length c) l := by
 subst hc
 exact RdD.of ⟨dyC_length l, .inr ⟨b, 0, c, rfl, fun _ => ⟨Nat.zero_le _, h.lt, h.lt⟩, fun j _ => by rw [Blk.cell h]; simp⟩⟩
theorem RdII.of {w : World} {lo hi : Nat} {v : Value} {ll : List (List Int)} {vs : List Value} (h : Rd w lo hi v 1 vs.length vs) (h1 : vs.length = ll.length) (h2 : ∀ i (h : i < vs.length) (h' : i < ll.length), RdI w lo hi vs[i] ll[i]) (h3 : ∀ e ∈ vs, cU e = true) : RdII w lo hi v ll :=
 ⟨vs, RdE.one h h3, h1, h2⟩
theorem cG (a b : Int) (w : World) : Ca Tryz.prog 13 [.int .i64 a, .int .i64 b] w fun v w' => v = .agg #[.int .i64 a, .int .i64 b] ∧ Chg [] w w' := by
 refine cS (Sat.nil w M0) Tryz.func13 rfl (by simp [Tryz.ntmps13]) ?_
 (refine aD (aB ?_))
 refine bI zero25 rfl (fun b2 => ?_)
 (refine aF (aD (aB (aA V Z Z (aA V Z Z ?_)))))
 refine dJ #[.int .i64 a, .int .i64 b] rfl (by kernel_rfl) rfl ?_
 (refine bS V Z Z Z Z Z (by repeat constructor) rfl ?_; refine aF (aS ?_))
 refine aU V Z (by repeat constructor) fun w hs => ?_
 exact ⟨rfl, hs.chg0⟩
def fB : List Lp := [⟨2000, 60, 6⟩, ⟨2500, 90, 6⟩, ⟨3000, 100, 6⟩]
def iU : Rl := ⟨3, 7000, 7500, 200, 270, 2000, 3000, 6, 2⟩
def threeQ : Rl := ⟨3, 7000, 7000, 200, 270, 2000, 3000, 6, 1⟩
def fY (n : Int) : Wn := ⟨500, 800, [⟨300, 300, 100, 200, 10, 20⟩, ⟨200, 400, 300, 600, 10, 20⟩, ⟨min n 500, n, 0, 100, 10, 20⟩]⟩
theorem three_ca (w : World) : Ca Tryz.prog 6 [] w fun v w' => ∃ b : Nat, v = .tuple #[.slice (some ⟨b, 0, none⟩) 3 3, .agg (rlC iU).toArray] ∧ Sat w M0 [.pt b (lpC fB) 32] w' := by
 refine cS (Sat.nil w M0) Tryz.func6 rfl (by simp [Tryz.ntmps6]) ?_
 (refine aD (aB (aA V Z Z ?_)))
 refine bI zero27 rfl (fun b1 => ?_)
 (refine aF (aD (aB ?_)))
 refine dJ #[.int .i64 2000, .int .i64 60, .int .i64 6] rfl (by kernel_rfl) rfl ?_
 refine dJ #[.int .i64 2500, .int .i64 90, .int .i64 6] rfl (by kernel_rfl) rfl ?_
 refine dJ #[.int .i64 3000, .int .i64 100, .int .i64 6] rfl (by kernel_rfl) rfl ?_
 refine cJ 32 (lpC fB) rfl (by kernel_rfl) rfl (fun bn => ?_)
 refine aK V Z Z Z Z (fun w hs => cG _ _ w) ?_
 refine aK V Z Z Z Z (fun w hs => cG _ _ w) ?_
 refine aK V Z Z Z Z (fun w hs => cG _ _ w) ?_
 refine dJ #[.int .i64 3, .int .i64 7000, .int .i64 7500, .int .i64 200, .int .i64 270, .int .i64 2000, .int .i64 3000, .int .i64 6, .int .i64 2] rfl (by kernel_rfl) rfl ?_
 (refine aA V Z Z ?_; refine bS V Z Z Z Z Z (by repeat constructor) rfl ?_; refine aF (aS ?_))
 refine aU V Z (by repeat constructor) fun w hs => ?_
 exact ⟨bn, rfl, hs.sp (by repeat constructor)⟩
theorem kA (w : World) (n : Int) : Ca Tryz.prog 10 [.int .i64 n] w fun v w' => ∃ b : Nat, v = .agg #[.int .i64 500, .int .i64 800, .slice (some ⟨b, 0, none⟩) 3 3] ∧ Sat w M0 [.pt b (dyC (fY n).days) 46] w' := by
 refine cS (Sat.nil w M0) Tryz.func10 rfl (by simp [Tryz.ntmps10]) ?_
 (refine aD (aB ?_))
 refine bI dQ rfl (fun b2 => ?_)
 (refine aF (aD (aB ?_)))
 refine aK V Z Z Z Z (fun w hs => cG _ _ w) ?_
 refine aK V Z Z Z Z (fun w hs => cG _ _ w) ?_
 refine aK V Z Z Z Z (fun w hs => cG _ _ w) ?_
 refine dJ #[.int .i64 300, .int .i64 300, .int .i64 100, .int .i64 200, .int .i64 10, .int .i64 20] rfl (by kernel_rfl) rfl ?_
 refine aK V Z Z Z Z (fun w hs => cG _ _ w) ?_
 refine aK V Z Z Z Z (fun w hs => cG _ _ w) ?_
 refine aK V Z Z Z Z (fun w hs => cG _ _ w) ?_
 refine dJ #[.int .i64 200, .int .i64 400, .int .i64 300, .int .i64 600, .int .i64 10, .int .i64 20] rfl (by kernel_rfl) rfl ?_
 ((iterate 3 refine aA V Z Z ?_))
 refine aK V Z Z Z Z (fun w hs => cG _ _ w) ?_
 refine aK V Z Z Z Z (fun w hs => cG _ _ w) ?_
 refine aK V Z Z Z Z (fun w hs => cG _ _ w) ?_
 refine dJ #[.int .i64 (min n 500), .int .i64 n, .int .i64 0, .int .i64 100, .int .i64 10, .int .i64 20] rfl (by kernel_rfl) rfl ?_
 refine cJ 46 (dyC (fY n).days) rfl (by kernel_rfl) rfl (fun bn => ?_)
 refine dJ #[.int .i64 500, .int .i64 800, .slice (some ⟨bn, 0, none⟩) 3 3] rfl (by kernel_rfl) rfl ?_
 (refine bS V Z Z Z Z Z (by repeat constructor) rfl ?_; refine aF (aS ?_))
 refine aU V Z (by repeat constructor) fun w hs => ?_
 exact ⟨bn, rfl, hs.sp (by repeat constructor)⟩
theorem aw_all : jY fB iU = [[0, 0, 2], [0, 1, 1], [0, 1, 2]] := by decide +kernel
theorem aw_cr : CR fB iU := cA.1 (by decide +kernel)
theorem aw_cr2 : CR fB threeQ := cA.1 (by decide +kernel)
theorem aw_brk : (brokenV fB iU [1, 1, 1]).2 = 0 := by decide +kernel
theorem aw_brk2 : eZ fB iU [1, 1, 1] = [4] := by decide +kernel
theorem aw_cheap : eQ fB iU 40 (coursesL fB.length (nL iU)) = some [0, 1, 1] := by decide +kernel
theorem aw_snow : snowV fB [0, 1, 1] 40 = 10800 := by decide +kernel
theorem aw_yield : fN fB threeQ (coursesL fB.length (nL threeQ)) = some [0, 1, 2] := by decide +kernel
theorem aw_yield2 : eZ fB threeQ [0, 1, 2] = [0] := by decide +kernel
theorem aw_first : firstV (fY 500) = (2, 0) := by decide +kernel
theorem aw_proves : cF (fY 500) (-1) 2 = (360, 0) := by decide +kernel
theorem aw_ranges : gD (fY 500) = [(280, 390), (160, 600)] := by decide +kernel
theorem aw_right : (fY 500).Right := bU.1 (by decide +kernel)
theorem aw_least : eN (fY 100) = (460, 0) := by decide +kernel
theorem aw_room : gE (fY 100) = (540, 0) := by decide +kernel
end Go.Proofs.YtgeajgmefokifaaGreat

/- Walks: awake. -/
namespace Go.Proofs.YtgeajgmefokifaaGreat
open Go Go.Eng

theorem blk_II {w : World} {c1 c2 c3 c4 : Nat} {t1 t2 t3 t4 : TypeId} {l1 l2 l3 : List Int} (h1 : Blk w c1 (aP l1) t1) (h2 : Blk w c2 (aP l2) t2) (h3 : Blk w c3 (aP l3) t3)
  (h4 : Blk w c4 [.slice (some ⟨c1, 0, none⟩) l1.length l1.length, .slice (some ⟨c2, 0, none⟩) l2.length l2.length, .slice (some ⟨c3, 0, none⟩) l3.length l3.length] t4) : RdII w 0 w.heap.size (.slice (some ⟨c4, 0, none⟩) 3 3) [l1, l2, l3] := by
 refine RdII.of (vs := [.slice (some ⟨c1, 0, none⟩) l1.length l1.length, .slice (some ⟨c2, 0, none⟩) l2.length l2.length, .slice (some ⟨c3, 0, none⟩) l3.length l3.length]) ((Blk.rd h4 (by simp [cU]) 3).wide (Nat.zero_le _) h4.lt) rfl (fun i hi hi' => ?_) (by simp [cU])
 obtain rfl | rfl | rfl : i = 0 ∨ i = 1 ∨ i = 2 := by simp at hi; omega
 ·exact Blk.rdI h1
 ·exact Blk.rdI h2
 ·exact Blk.rdI h3

theorem lsK_rd {w0 w : World} {M : Nat → Prop} {H : List Ck} {v : Value} {xs : List (Value × List Int)} (h : Sat w0 M H w) (h1 : Ck.ow v 22 1 xs.length (xs.map (·.1)) ∈ H) (h2 : un (gC 3 xs) ∈ H) : RdII w 0 w.heap.size v (xs.map (·.2)) :=
 rowsO_rd (h.mem h2) (h.mem h1)
set_option maxHeartbeats 4000000 in
set_option maxRecDepth 4000 in
theorem dS (w : World) : Ca Tryz.prog 17 [] w fun v w' => v = .bool true ∧ Chg [] w w' := by
 refine cS (Sat.nil w M0) Tryz.func17 rfl (by simp [Tryz.ntmps17]) ?_
 (refine aD (aB (aA V Z Z (aF (aD (aB ?_))))))
 refine bG (β := Nat) V [] _ M0 rfl rfl rfl rfl (Sp.refl _) (fun _ h => h.elim) (fun w' hs => three_ca w') ?_
 rintro bs _ rfl
 (refine aA V Z Z (aT V Z Z Z (aT V Z Z Z ?_)))
 refine bI zero27 rfl (fun b2 => ?_)
 (refine aA V Z Z ?_; refine bS V Z Z Z Z Z (by repeat constructor) rfl ?_; refine aF (aD (aB (aA V Z Z (aJ V Z Z Z ?_)))))
 have hS : ∀ w', Blk w' bs (lpC fB) 32 → RdL w' 0 w'.heap.size (.slice (some ⟨bs, 0, none⟩) fB.length 3) fB := fun w' hb => Blk.rdL hb rfl
 refine bG (β := Value × List (Value × List Int)) (ψ := fun y x => x = .tuple #[y.1, .int .i64 0] ∧ y.2.map (·.2) = jY fB iU) V [] _ M0 rfl rfl rfl rfl (Sp.refl _) (fun _ h => h.elim) (fun w' hs => all_ok w' 0 w'.heap.size (some ⟨bs, 0, none⟩) 3 fB iU (hS w' (hs.blk (by repeat constructor))) aw_cr (by rw [aw_all]; decide)) ?_
 rintro ⟨va, xs⟩ _ ⟨rfl, hxs⟩
 rw [aw_all] at hxs
 dsimp only at hxs
 dsimp only [lsK, List.cons_append, List.nil_append]
 refine bL (fun w hs => hs.slice (v := va) (by repeat constructor)) ?_
 rintro ⟨va1, va2, va3, rfl⟩
 (refine aA V Z Z (aT V Z Z Z (aT V Z Z Z (aA V Z Z (aA V Z Z (aF (aD (aB (aA V Z Z (aJ V Z Z Z ?_))))))))))
 refine cJ 3 (aP [1, 1, 1]) rfl (by kernel_rfl) rfl (fun b3 => ?_)
 refine bG (β := Value) V [] _ M0 rfl rfl rfl rfl (Sp.refl _) (fun _ h => h.elim) (fun w' hs => brok_ok w' 0 w'.heap.size 0 w'.heap.size (some ⟨bs, 0, none⟩) 3 _ fB iU [1, 1, 1] (hS w' (hs.blk (by repeat constructor))) (by decide) (Blk.rdI (l := [1, 1, 1]) (c := 3) (hs.blk (b := b3) (by repeat constructor))) (by decide) aw_brk) ?_
 rintro vb _ rfl
 rw [aw_brk2]
 dsimp only [List.cons_append, List.nil_append]
 refine bL (fun w hs => hs.slice (v := vb) (by repeat constructor)) ?_
 rintro ⟨vb1, vb2, vb3, rfl⟩
 (refine aA V Z Z (aT V Z Z Z (aT V Z Z Z (aA V Z Z (aA V Z Z (aF (aD (aB (aA V Z Z (aJ V Z Z Z ?_))))))))))
 refine bG (β := Value) V [] _ M0 rfl rfl rfl rfl (Sp.refl _) (fun _ h => h.elim) (fun w' hs => cheap_ok w' 0 w'.heap.size (some ⟨bs, 0, none⟩) 3 fB iU 40 [0, 1, 1] (hS w' (hs.blk (by repeat constructor))) aw_cr (by decide) aw_cheap) ?_
 rintro vc _ rfl
 rw [aw_snow]
 dsimp only [List.cons_append, List.nil_append]
 refine bL (fun w hs => hs.slice (v := vc) (by repeat constructor)) ?_
 rintro ⟨vc1, vc2, vc3, rfl⟩
 (refine aA V Z Z ?_; (iterate 3 refine aT V Z Z Z ?_); (iterate 3 refine aA V Z Z ?_); refine aF (aD (aD (aB (aA V Z Z (aW V Z Z Z (by omega) (aA V Z Z (aE Z (aA V Z Z (aE Z (aW V Z Z Z (by omega) (aA V Z Z ?_))))))))))); refine aA V Z Z (aE Z (aA V Z Z (aE Z (aW V Z Z Z (by omega) (aA V Z Z (aA V Z Z (aE Z (aA V Z Z (aE Z ?_))))))))))
 refine cJ 3 (aP [0, 0, 2]) rfl (by kernel_rfl) rfl (fun c1 => ?_)
 refine aE Z ?_
 refine cJ 3 (aP [0, 1, 1]) rfl (by kernel_rfl) rfl (fun c2 => ?_)
 refine aE Z ?_
 refine cJ 3 (aP [0, 1, 2]) rfl (by kernel_rfl) rfl (fun c3 => ?_)
 refine aE Z ?_
 refine cJ 22 [.slice (some ⟨c1, 0, none⟩) 3 3, .slice (some ⟨c2, 0, none⟩) 3 3, .slice (some ⟨c3, 0, none⟩) 3 3] rfl (by kernel_rfl) rfl (fun c4 => ?_)
 (refine aE Z ?_)
 refine aK (val := .bool true) V rfl rfl rfl rfl (fun w hs => ?_) ?_; exact eqII_ca w 0 w.heap.size 0 w.heap.size _ _ [[0, 0, 2], [0, 1, 1], [0, 1, 2]] (hxs ▸ lsK_rd (v := .slice va1 va2 va3) (xs := xs) hs (by repeat constructor) (by repeat constructor)) (blk_II (l1 := [0, 0, 2]) (l2 := [0, 1, 1]) (l3 := [0, 1, 2]) (hs.blk (b := c1) (by repeat constructor)) (hs.blk (b := c2) (by repeat constructor)) (hs.blk (b := c3) (by repeat constructor)) (hs.blk (b := c4) (by repeat constructor))) (by decide) (by decide)
 (refine aE Z ?_; (iterate 3 refine aA V Z Z ?_); refine aE Z (aA V Z Z (aE Z ?_)))
 refine cJ 154 (aP [4]) rfl (by kernel_rfl) rfl (fun c5 => ?_)
 refine aE Z ?_
 refine aK (val := .bool true) V rfl rfl rfl rfl (fun w hs => ?_) ?_; exact eqR_ca w 0 w.heap.size 0 w.heap.size _ _ [4] (hs.rdI (v := .slice vb1 vb2 vb3) (l := [4]) (by repeat constructor) rfl) (Blk.rdI (l := [4]) (c := 1) (hs.blk (b := c5) (by repeat constructor))) (by decide)
 (refine aE Z ?_; (iterate 3 refine aA V Z Z ?_); refine aE Z (aA V Z Z (aE Z ?_)))
 refine cJ 3 (aP [0, 1, 1]) rfl (by kernel_rfl) rfl (fun c6 => ?_)
 refine aE Z ?_
 refine aK (val := .bool true) V rfl rfl rfl rfl (fun w hs => ?_) ?_; exact hJ w 0 w.heap.size 0 w.heap.size _ _ [0, 1, 1] (hs.rdI (v := .slice vc1 vc2 vc3) (l := [0, 1, 1]) (by repeat constructor) rfl) (Blk.rdI (l := [0, 1, 1]) (c := 3) (hs.blk (b := c6) (by repeat constructor))) (by decide)
 (refine aE Z ?_; (iterate 3 refine aA V Z Z ?_); refine aE Z (aA V Z Z (aE Z (aW V Z Z Z (by omega) (aA V Z Z (aF (aH Z (aM (aD (aB ?_))))))))))
 refine aK V Z Z Z Z (fun w hs => cG _ _ w) ?_
 (refine aA V Z Z ?_; refine ql_st8 V Z Z Z Z (by repeat constructor) ?_; refine aA V Z Z ?_)
 refine ql_stA (rlC threeQ) V rfl rfl rfl rfl rfl (by repeat constructor) rfl rfl ?_
 (refine aF (aD (aB (aA V Z Z (aJ V Z Z Z ?_)))))
 refine bG (β := Value × Value) V [] _ M0 rfl rfl rfl rfl (Sp.refl _) (fun _ h => h.elim) (fun w' hs => yield_ok w' 0 w'.heap.size (some ⟨bs, 0, none⟩) 3 fB threeQ [0, 1, 2] (hS w' (hs.blk (by repeat constructor))) aw_cr2 aw_yield) ?_
 rintro ⟨vy, vz⟩ _ rfl
 rw [aw_yield2]
 dsimp only [List.cons_append, List.nil_append]
 refine bL (fun w hs => hs.slice (v := vy) (by repeat constructor)) ?_
 rintro ⟨vy1, vy2, vy3, rfl⟩
 refine bL (fun w hs => hs.slice (v := vz) (by repeat constructor)) ?_
 rintro ⟨vz1, vz2, vz3, rfl⟩
 (refine aA V Z Z ?_; (iterate 3 refine aT V Z Z Z ?_); (iterate 3 refine aA V Z Z ?_); refine aF (aD (aB ?_)))
 have hD : ∀ n w' b, Blk w' b (dyC (fY n).days) 46 → RdD w' 0 w'.heap.size (.slice (some ⟨b, 0, none⟩) (fY n).days.length 3) (fY n).days := fun n w' b hb => Blk.rdD hb rfl
 refine bG (β := Nat) V [] _ M0 rfl rfl rfl rfl (Sp.refl _) (fun _ h => h.elim) (fun w' hs => kA w' 500) ?_
 rintro d1 _ rfl
 refine aK (val := .tuple #[.int .i64 2, .int .i64 0]) V rfl rfl rfl rfl (fun w hs => ?_) ?_; exact by have := first_ca w 0 w.heap.size (fY 500) (some ⟨d1, 0, none⟩) 3 (hD 500 w d1 (hs.blk (by repeat constructor))) (by decide); rw [aw_first] at this; exact this
 (refine aA V Z Z (aT V Z Z Z (aT V Z Z Z (aA V Z Z (aA V Z Z (aF (aD (aB ?_))))))))
 refine bG (β := Nat) V [] _ M0 rfl rfl rfl rfl (Sp.refl _) (fun _ h => h.elim) (fun w' hs => kA w' 500) ?_
 rintro d2 _ rfl
 refine dJ #[.int .i64 (-1), .int .i64 2] rfl (by kernel_rfl) rfl ?_
 refine aK (val := .tuple #[.int .i64 360, .int .i64 0]) V rfl rfl rfl rfl (fun w hs => ?_) ?_; exact by have := lO w 0 w.heap.size (fY 500) (some ⟨d2, 0, none⟩) 3 (-1) 2 (hD 500 w d2 (hs.blk (by repeat constructor))) (by decide); rw [aw_proves] at this; exact this
 (refine aA V Z Z (aT V Z Z Z (aT V Z Z Z (aA V Z Z (aA V Z Z (aF (aD (aB ?_))))))))
 refine bG (β := Nat) V [] _ M0 rfl rfl rfl rfl (Sp.refl _) (fun _ h => h.elim) (fun w' hs => kA w' 500) ?_
 rintro d3 _ rfl
 refine bG (β := Value) V [] _ M0 rfl rfl rfl rfl (Sp.refl _) (fun _ h => h.elim) (fun w' hs => ranges_ok w' 0 w'.heap.size (fY 500) (some ⟨d3, 0, none⟩) 3 (hD 500 w' d3 (hs.blk (by repeat constructor))) aw_right) ?_
 rintro vx _ rfl
 rw [aw_ranges]
 dsimp only [List.cons_append, List.nil_append]
 refine bL (fun w hs => hs.slice (v := vx) (by repeat constructor)) ?_
 rintro ⟨vx1, vx2, vx3, rfl⟩
 (refine aA V Z Z (aT V Z Z Z (aT V Z Z Z (aA V Z Z (aA V Z Z (aF (aD (aD (aB (aA V Z Z (aW V Z Z Z (by omega) (aA V Z Z ?_))))))))))); refine aE Z (aA V Z Z (aE Z (aW V Z Z Z (by omega) (aA V Z Z (aA V Z Z (aE Z (aA V Z Z (aE Z (aW V Z Z Z (by omega) (aA V Z Z (aA V Z Z ?_))))))))))); refine aE Z (aA V Z Z (aE Z (aW V Z Z Z (by omega) (aA V Z Z (aA V Z Z (aE Z (aA V Z Z (aE Z ?_)))))))))
 refine cJ 154 (aP [0]) rfl (by kernel_rfl) rfl (fun c7 => ?_)
 refine aE Z ?_
 refine aK (val := .bool true) V rfl rfl rfl rfl (fun w hs => ?_) ?_; exact eqR_ca w 0 w.heap.size 0 w.heap.size _ _ [0] (hs.rdI (v := .slice vy1 vy2 vy3) (l := [0]) (by repeat constructor) rfl) (Blk.rdI (l := [0]) (c := 1) (hs.blk (b := c7) (by repeat constructor))) (by decide)
 (refine aE Z ?_; (iterate 3 refine aA V Z Z ?_); refine aE Z (aA V Z Z (aE Z ?_)))
 refine cJ 3 (aP [0, 1, 2]) rfl (by kernel_rfl) rfl (fun c8 => ?_)
 refine aE Z ?_
 refine aK (val := .bool true) V rfl rfl rfl rfl (fun w hs => ?_) ?_; exact hJ w 0 w.heap.size 0 w.heap.size _ _ [0, 1, 2] (hs.rdI (v := .slice vz1 vz2 vz3) (l := [0, 1, 2]) (by repeat constructor) rfl) (Blk.rdI (l := [0, 1, 2]) (c := 3) (hs.blk (b := c8) (by repeat constructor))) (by decide)
 (refine aE Z ?_; (iterate 3 refine aA V Z Z ?_); refine aE Z (aA V Z Z (aE Z (aW V Z Z Z (by omega) (aA V Z Z (aA V Z Z (aE Z (aA V Z Z (aE Z (aW V Z Z Z (by omega) (aA V Z Z (aA V Z Z ?_))))))))))); refine aE Z (aA V Z Z (aE Z ?_)))
 refine dJ #[.int .i64 280, .int .i64 390] rfl (by kernel_rfl) rfl ?_
 refine aE Z ?_
 refine dJ #[.int .i64 160, .int .i64 600] rfl (by kernel_rfl) rfl ?_
 refine aE Z ?_
 refine cJ 25 (spC [(280, 390), (160, 600)]) rfl (by kernel_rfl) rfl (fun c9 => ?_)
 refine aE Z ?_
 refine aK (val := .bool true) V rfl rfl rfl rfl (fun w hs => ?_) ?_; exact eqS_ca w 0 w.heap.size 0 w.heap.size _ _ [(280, 390), (160, 600)] (own_rdS (t := 25) (hs.mem (c := .ow (.slice vx1 vx2 vx3) 25 2 2 (spC [(280, 390), (160, 600)])) (by repeat constructor)) rfl) (Blk.rdS (l := [(280, 390), (160, 600)]) (c := 2) (hs.blk (b := c9) (by repeat constructor)) rfl) (by decide)
 (refine aE Z (aA V Z Z (aA V Z Z (aF (aH Z (aM (aD (aB ?_))))))))
 refine bG (β := Nat) V [] _ M0 rfl rfl rfl rfl (Sp.refl _) (fun _ h => h.elim) (fun w' hs => kA w' 100) ?_
 rintro d4 _ rfl
 refine aK (val := .tuple #[.int .i64 460, .int .i64 0]) V rfl rfl rfl rfl (fun w hs => ?_) ?_; exact by have := least_ca w 0 w.heap.size (fY 100) (some ⟨d4, 0, none⟩) 3 (hD 100 w d4 (hs.blk (by repeat constructor))) (by decide); rw [aw_least] at this; exact this
 (refine aA V Z Z (aT V Z Z Z (aT V Z Z Z (aA V Z Z (aA V Z Z (aF (aD (aB ?_))))))))
 refine bG (β := Nat) V [] _ M0 rfl rfl rfl rfl (Sp.refl _) (fun _ h => h.elim) (fun w' hs => kA w' 100) ?_
 rintro d5 _ rfl
 refine aK (val := .tuple #[.int .i64 540, .int .i64 0]) V rfl rfl rfl rfl (fun w hs => ?_) ?_; exact by have := room_ca w 0 w.heap.size (fY 100) (some ⟨d5, 0, none⟩) 3 (hD 100 w d5 (hs.blk (by repeat constructor))) (by decide); rw [aw_room] at this; exact this
 (refine aA V Z Z (aT V Z Z Z (aT V Z Z Z (aA V Z Z (aA V Z Z (aF (aD (aB (aA V Z Z (cO V Z Z Z (by omega) (aA V Z Z (aE Z ?_))))))))))); refine aA V Z Z (aE Z (cO V Z Z Z (by omega) (aA V Z Z (aA V Z Z (aE Z (aA V Z Z (aE Z (cO V Z Z Z (by omega) (aA V Z Z (aA V Z Z (aE Z ?_))))))))))); refine aA V Z Z (aE Z (cO V Z Z Z (by omega) (aA V Z Z (aA V Z Z (aF (aS ?_)))))))
 refine aU V Z (by repeat constructor) fun w hs => ?_
 exact ⟨rfl, hs.chg0⟩
end Go.Proofs.YtgeajgmefokifaaGreat

/- Walks: klisterkit's deck. Only the ranges of what it deals are told. -/
namespace Go.Proofs.YtgeajgmefokifaaGreat
open Go Go.Eng

section
attribute [local irreducible] IntKind.wrap Int.tmod Int.tdiv

/-- The deck's own variable, after at most K cards. -/
def DkS (w : World) (b : Nat) (bs : Value) (K : Nat) : Prop :=
 ∃ next st, Blk w b [bs, .int .i64 next, .int .u32 st] 157 ∧ 0 ≤ next ∧ next ≤ K ∧ 0 ≤ st ∧ st < 4294967296
/-- Its bytes. -/
def DkB (w : World) (lo hi : Nat) (bs : Value) : Prop := ∃ nb cs, Rd w lo hi bs 1 nb cs ∧ (∀ c ∈ cs, ∃ x, c = .int .u8 x ∧ 0 ≤ x ∧ x < 256)
theorem DkB.keep {w w' : World} {lo hi : Nat} {bs : Value} (h : DkB w lo hi bs) (c : Chg [] w w') : DkB w' lo hi bs := by
 obtain ⟨nb, cs, h1, h2⟩ := h
 exact ⟨nb, cs, h1.keep c, h2⟩

end
/-- A deck, after at most K cards. -/
def dkP (bs : Value) (b K : Nat) : Ck := .gn (fun x => x = b) (fun w => DkS w b bs K) (fun w w' N h hc hN => by
 obtain ⟨next, st, h1, h2⟩ := h
 exact ⟨next, st, (hc.block b h1.lt (hN b rfl)).trans h1, h2⟩)

theorem DkS.mono {w : World} {b K K' : Nat} {bs : Value} (h : DkS w b bs K) (hk : K ≤ K') : DkS w b bs K' := by
 obtain ⟨next, st, h1, h2, h3, h4⟩ := h
 exact ⟨next, st, h1, h2, by omega, h4⟩
section
variable {K b : Nat} {bs : Value} {w0 w : World} {R : List Ck}
end
end Go.Proofs.YtgeajgmefokifaaGreat

/- Walks: a winter is made of numbers. -/
namespace Go.Proofs.YtgeajgmefokifaaGreat
open Go Go.Eng

structure DayB (d : Dy) : Prop where
 n : 0 ≤ d.n0 ∧ d.n0 ≤ 29 ∧ d.n0 ≤ d.n1 ∧ d.n1 ≤ d.n0 + 11
 m : 0 ≤ d.m0 ∧ d.m0 ≤ 39 ∧ d.m0 ≤ d.m1 ∧ d.m1 ≤ d.m0 + 19
 l : 0 ≤ d.l0 ∧ d.l0 ≤ 5 ∧ d.l0 ≤ d.l1 ∧ d.l1 ≤ d.l0 + 3
/-- What MadeWinter makes. -/
structure WinB (days : Nat) (x : Wn) : Prop where
 store : 20 ≤ x.store ∧ x.store ≤ 200
 stock : 0 ≤ x.stock ∧ x.stock ≤ x.store
 d1 : 1 ≤ x.days.length
 d2 : x.days.length ≤ days
 days : ∀ d ∈ x.days, DayB d
theorem WinB.right {days : Nat} {x : Wn} (h : WinB days x) (hd : days ≤ 60) : x.Right := by
 have h1 := h.store
 have h2 := h.d2
 refine ⟨by omega, h.stock, h.d1, by omega, fun d hdm => ?_⟩
 have := h.days d hdm
 have a := this.n
 have b := this.m
 have c := this.l
 exact ⟨by omega, by omega, by omega⟩
theorem dyC_snoc (l : List Dy) (d : Dy) : dyC (l ++ [d]) = dyC l ++ dyC [d] := by simp [dyC]
theorem dyC_one (l : List Dy) : ∀ c ∈ dyC l, cU c = true := fun c hc => by obtain ⟨y, _, hy⟩ := List.mem_flatMap.1 hc; simp at hy; rcases hy with rfl | rfl | rfl | rfl | rfl | rfl <;> rfl
theorem slD : SlT Tryz.prog 37 46 6 48 (.agg #[.int .i64 0, .int .i64 0, .int .i64 0, .int .i64 0, .int .i64 0, .int .i64 0]) := ⟨by kernel_rfl, by kernel_rfl, by kernel_rfl, by decide⟩
theorem Blk.rdDy {w : World} {b : Nat} {d : Dy} {t : TypeId} (h : Blk w b (dyC [d]) t) : Rd w b (b + 1) (.slice (some ⟨b, 0, none⟩) 1 1) 6 1 (dyC [d]) :=
 ⟨rfl, .inr ⟨b, 0, 1, rfl, fun _ => ⟨Nat.le_refl _, Nat.lt_succ_self _, h.lt⟩, fun j _ => by rw [Blk.cell h]; simp⟩⟩
/-- The spans made so far. -/
structure DayI (i : Nat) (d : Dy) : Prop where
 n : 1 ≤ i → 0 ≤ d.n0 ∧ d.n0 ≤ 29 ∧ d.n0 ≤ d.n1 ∧ d.n1 ≤ d.n0 + 11
 m : 2 ≤ i → 0 ≤ d.m0 ∧ d.m0 ≤ 39 ∧ d.m0 ≤ d.m1 ∧ d.m1 ≤ d.m0 + 19
 l : 3 ≤ i → 0 ≤ d.l0 ∧ d.l0 ≤ 5 ∧ d.l0 ≤ d.l1 ∧ d.l1 ≤ d.l0 + 3

end Go.Proofs.YtgeajgmefokifaaGreat

/- Walks: a weather is drawn. -/
namespace Go.Proofs.YtgeajgmefokifaaGreat
open Go Go.Eng

theorem getD_snoc (l : List Int) (x : Int) (i : Nat) : (l ++ [x]).getD i 0 = if i < l.length then l.getD i 0 else if i = l.length then x else 0 := by
 simp only [List.getD_eq_getElem?_getD, List.getElem?_append]
 by_cases h : i < l.length
 ·simp [h]
 ·rw [if_neg h, if_neg h]
  by_cases h2 : i = l.length
  ·subst h2; simp
  ·rw [if_neg h2, List.getElem?_eq_none (by simp; omega)]
   rfl
/-- A weather of the first days. -/
structure WtP (days : List Dy) (k : Nat) (t : Wt) : Prop where
 ln : t.need.length = k
 lm : t.make.length = k
 ll : t.loss.length = k
 n : ∀ i, i < k → ∀ (h : i < days.length), days[i].n0 ≤ t.need.getD i 0 ∧ t.need.getD i 0 ≤ days[i].n1
 m : ∀ i, i < k → ∀ (h : i < days.length), days[i].m0 ≤ t.make.getD i 0 ∧ t.make.getD i 0 ≤ days[i].m1
 l : ∀ i, i < k → ∀ (h : i < days.length), days[i].l0 ≤ t.loss.getD i 0 ∧ t.loss.getD i 0 ≤ days[i].l1
theorem WtP.step {days : List Dy} {k : Nat} {t : Wt} (h : WtP days k t) (hk : k < days.length) {x y z : Int} (hx : days[k].n0 ≤ x ∧ x ≤ days[k].n1) (hy : days[k].m0 ≤ y ∧ y ≤ days[k].m1) (hz : days[k].l0 ≤ z ∧ z ≤ days[k].l1) : WtP days (k + 1) ⟨t.need ++ [x], t.make ++ [y], t.loss ++ [z]⟩ := by
 refine ⟨by simp [h.ln], by simp [h.lm], by simp [h.ll], fun i hi hd => ?_, fun i hi hd => ?_, fun i hi hd => ?_⟩
 ·rw [getD_snoc, h.ln]
  split
  ·exact h.n i (by assumption) hd
  ·obtain rfl : i = k := by omega
   simpa using hx
 ·rw [getD_snoc, h.lm]
  split
  ·exact h.m i (by assumption) hd
  ·obtain rfl : i = k := by omega
   simpa using hy
 ·rw [getD_snoc, h.ll]
  split
  ·exact h.l i (by assumption) hd
  ·obtain rfl : i = k := by omega
   simpa using hz
theorem WtP.in {x : Wn} {t : Wt} (h : WtP x.days x.days.length t) : t.In x := ⟨h.ln, h.lm, h.ll, fun i hi => h.n i hi hi, fun i hi => h.m i hi hi, fun i hi => h.l i hi hi⟩
/-- The deck, and the days. -/
abbrev drL (bs : Value) (b K g c : Nat) (l : List Dy) : List Ck := [dkP bs b K, .ow (.slice (some ⟨g, 0, none⟩) l.length c) 46 6 l.length (dyC l)]

end Go.Proofs.YtgeajgmefokifaaGreat

/- What the laws of winters share. -/
namespace Go.Proofs.YtgeajgmefokifaaGreat
open Go Go.Eng

section
variable {K b g c : Nat} {bs : Value} {w0 w : World} {R : List Ck}
end
theorem bool_b : boolB Tryz.prog 4 = true := by kernel_rfl
theorem fails_in {x : Wn} {t : Wt} (hx : x.Right) (ht : t.In x) (w : World) (lo hi : Nat) (a : Option Addr) (c : Nat) (v1 v2 v3 : Value) (h : RdD w lo hi (.slice a x.days.length c) x.days) (hw : WtR w t v1 v2 v3) :
  Ca Tryz.prog 60 [.agg (wnC x a c).toArray, .agg #[v1, v2, v3]] w fun r w' => r = .tuple #[.int .i64 (hapV x t).fails, .int .i64 0] ∧ Chg [] w w' := by
 have h2 := hx.d2
 have h3 := ht.need
 have h4 := ht.make
 have h5 := ht.loss
 exact (fails_ok w lo hi x a c t v1 v2 v3 h (by omega) hw (by omega) (by omega) (by omega) (weatV_iff.2 ⟨hx, ht⟩)).mono fun r w' ⟨_, h1, h2⟩ => ⟨h1, h2.chg0⟩
theorem first_cases {x : Wn} (hx : x.Right) : (firstV x = (0, 6) ∧ whyV x = ((0, 0), 6) ∧ (hapV x (aR x)).fails = -1) ∨ ∃ f : Nat, f < x.days.length ∧ (hapV x (aR x)).fails = f ∧ firstV x = ((f : Int), 0) ∧ whyV x = (((hapV x (aR x)).full, (f : Int)), 0) := by
 have h0 := bU.2 hx
 rcases jH x (aR x) hx.stock (bN hx).need0 x.days.length with h | ⟨f, hf, h⟩
 ·left
  have h : (hapV x (aR x)).fails = -1 := h
  refine ⟨?_, ?_, h⟩
  ·unfold firstV; rw [if_neg (by omega), if_pos h]
  ·unfold whyV; rw [if_neg (by omega), if_pos h]
 ·right
  have h' : (hapV x (aR x)).fails = f := h
  refine ⟨f, hf, h, ?_, ?_⟩
  ·unfold firstV; rw [if_neg (by omega), if_neg (by omega), h']
  ·unfold whyV; rw [if_neg (by omega), if_neg (by omega), h']
end Go.Proofs.YtgeajgmefokifaaGreat

/- Walks of the reference: the error of a winter. -/
namespace Go.Proofs.YtgeajgmefokifaaGreat
open Go Go.Eng

theorem eO (n lo hi : Int) (w : World) : Ca Tryz.prog 98 [.int .i64 n, .int .i64 lo, .int .i64 hi] w fun v w' => v = .bool (!(wiB n lo hi)) ∧ Chg [] w w' := by
 refine cS (Sat.nil w M0) Tryz.func98 rfl (by simp [Tryz.ntmps98]) ?_
 by_cases h1 : n < lo
 ·(refine aD (aB (aA V Z Z (aF (aD (aB (aA V Z Z (aA V Z Z (cL V Z Z Z (by omega) (aA V Z Z ?_))))))))); (iterate 3 refine bE Z Z Z ?_); refine aA V Z Z (aA V Z Z (aF (aS ?_))))
  refine aU V Z (by repeat constructor) fun w hs => ?_
  exact ⟨by simp [wiB, fC]; omega, hs.chg0⟩
 ·by_cases h2 : n > hi
  ·(refine aD (aB (aA V Z Z (aF (aD (aB (aA V Z Z (aA V Z Z (cI V Z Z Z (by omega) (aA V Z Z (aE Z (aA V Z Z ?_))))))))))); refine aE Z (aA V Z Z (aE Z (cP V Z Z Z (by omega) (aA V Z Z (aA V Z Z (aF (aS ?_))))))))
   refine aU V Z (by repeat constructor) fun w hs => ?_
   exact ⟨by simp [wiB, fC]; omega, hs.chg0⟩
  ·(refine aD (aB (aA V Z Z (aF (aD (aB (aA V Z Z (aA V Z Z (cI V Z Z Z (by omega) (aA V Z Z (aE Z (aA V Z Z ?_))))))))))); refine aE Z (aA V Z Z (aE Z (cT V Z Z Z (by omega) (aA V Z Z (aA V Z Z (aF (aS ?_))))))))
   refine aU V Z (by repeat constructor) fun w hs => ?_
   exact ⟨by simp [wiB, fC]; omega, hs.chg0⟩
theorem kG (a b g : Int) (w : World) : Ca Tryz.prog 99 [.agg #[.int .i64 a, .int .i64 b], .int .i64 g] w fun v w' => v = .bool (!(iC a b g)) ∧ Chg [] w w' := by
 refine cS (Sat.nil w M0) Tryz.func99 rfl (by simp [Tryz.ntmps99]) ?_
 (refine aD (aB ?_))
 refine bD Z Z (fun b2 => ?_)
 by_cases h1 : a < 0
 ·(refine aA V Z Z (aF (aD (aB (aA V Z Z ?_)))); refine aI V Z Z Z ?_; refine cL V Z Z Z (by omega) (aA V Z Z ?_); (iterate 4 refine bE Z Z Z ?_); refine aA V Z Z (aA V Z Z ?_); (iterate 5 refine bE Z Z Z ?_); refine aA V Z Z (aA V Z Z (aF (aS ?_))))
  refine aU V Z (by repeat constructor) fun w hs => ?_
  exact ⟨by simp [iC, fC]; omega, hs.chg0⟩
 ·by_cases h2 : b > g
  ·(refine aA V Z Z (aF (aD (aB (aA V Z Z ?_)))); refine aI V Z Z Z ?_; refine cI V Z Z Z (by omega) (aA V Z Z (aE Z (aA V Z Z (aE Z ?_)))); refine aI V Z Z Z ?_; refine aE Z (aA V Z Z (aE Z (cP V Z Z Z (by omega) (aA V Z Z (aA V Z Z ?_))))); (iterate 5 refine bE Z Z Z ?_); refine aA V Z Z (aA V Z Z (aF (aS ?_))))
   refine aU V Z (by repeat constructor) fun w hs => ?_
   exact ⟨by simp [iC, fC]; omega, hs.chg0⟩
  ·by_cases h3 : a > b
   ·(refine aA V Z Z (aF (aD (aB (aA V Z Z ?_)))); refine aI V Z Z Z ?_; refine cI V Z Z Z (by omega) (aA V Z Z (aE Z (aA V Z Z (aE Z ?_)))); refine aI V Z Z Z ?_; refine aE Z (aA V Z Z (aE Z (cT V Z Z Z (by omega) (aA V Z Z (aA V Z Z (aE Z (aA V Z Z (aE Z ?_)))))))); refine aI V Z Z Z ?_; refine aE Z (aA V Z Z (aE Z ?_)); refine aI V Z Z Z ?_; refine aE Z (cP V Z Z Z (by omega) (aA V Z Z (aA V Z Z (aF (aS ?_))))))
    refine aU V Z (by repeat constructor) fun w hs => ?_
    exact ⟨by simp [iC, fC]; omega, hs.chg0⟩
   ·(refine aA V Z Z (aF (aD (aB (aA V Z Z ?_)))); refine aI V Z Z Z ?_; refine cI V Z Z Z (by omega) (aA V Z Z (aE Z (aA V Z Z (aE Z ?_)))); refine aI V Z Z Z ?_; refine aE Z (aA V Z Z (aE Z (cT V Z Z Z (by omega) (aA V Z Z (aA V Z Z (aE Z (aA V Z Z (aE Z ?_)))))))); refine aI V Z Z Z ?_; refine aE Z (aA V Z Z (aE Z ?_)); refine aI V Z Z Z ?_; refine aE Z (cT V Z Z Z (by omega) (aA V Z Z (aA V Z Z (aF (aS ?_))))))
    refine aU V Z (by repeat constructor) fun w hs => ?_
    exact ⟨by simp [iC, fC]; omega, hs.chg0⟩
section
variable {w : World} {lo hi b off len cap : Nat} {l : List Dy}
theorem RdD.need (h : RdD w lo hi (.slice (some ⟨b, off, none⟩) len cap) l) (i : Nat) (hi : i < l.length) (j : Nat) (hj : j < 2) : w.cell? ⟨b, off + i * 6 + 0 + j, none⟩ = [Value.int .i64 l[i].n0, Value.int .i64 l[i].n1][j]? := by
 have := RdD.at h i hi (0 + j) (by omega)
 rw [← Nat.add_assoc] at this
 rw [this]
 match j, hj with
 | 0, _ => rfl
 | 1, _ => rfl
theorem RdD.make (h : RdD w lo hi (.slice (some ⟨b, off, none⟩) len cap) l) (i : Nat) (hi : i < l.length) (j : Nat) (hj : j < 2) : w.cell? ⟨b, off + i * 6 + 2 + j, none⟩ = [Value.int .i64 l[i].m0, Value.int .i64 l[i].m1][j]? := by
 have := RdD.at h i hi (2 + j) (by omega)
 rw [← Nat.add_assoc] at this
 rw [this]
 match j, hj with
 | 0, _ => rfl
 | 1, _ => rfl
theorem RdD.loss (h : RdD w lo hi (.slice (some ⟨b, off, none⟩) len cap) l) (i : Nat) (hi : i < l.length) (j : Nat) (hj : j < 2) : w.cell? ⟨b, off + i * 6 + 4 + j, none⟩ = [Value.int .i64 l[i].l0, Value.int .i64 l[i].l1][j]? := by
 have := RdD.at h i hi (4 + j) (by omega)
 rw [← Nat.add_assoc] at this
 rw [this]
 match j, hj with
 | 0, _ => rfl
 | 1, _ => rfl
end
set_option maxHeartbeats 1000000 in
theorem fM (w : World) (lo hi : Nat) (x : Wn) (a : Option Addr) (c : Nat) (h : RdD w lo hi (.slice a x.days.length c) x.days) (hlen : x.days.length ≤ 1000000) : Ca Tryz.prog 55 [.agg (wnC x a c).toArray] w fun r w' => r = .int .i64 (checkW x) ∧ Chg [] w w' := by
 obtain ⟨a', c', he, hsa⟩ := RdD.outI h
 cases he
 refine cS (Sat.nil w M0) Tryz.func55 rfl (by simp [Tryz.ntmps55]) ?_
 (refine aD (aB ?_))
 refine bD Z Z (fun b1 => ?_)
 (refine aA V Z Z (aF (aD (aD (aB (aA V Z Z ?_))))); refine aI V Z Z Z ?_)
 refine aK (val := .bool (!(wiB x.store 1 1000000))) V rfl rfl rfl rfl (fun w hs => ?_) ?_; exact eO x.store 1 1000000 w
 cases h1 : wiB x.store 1 1000000 with
 | false =>
  (refine aA V Z Z ?_; (iterate 5 refine bE Z Z Z ?_); refine aA V Z Z (aF (aL Z (aD (aB (aA V Z Z (aF (aS ?_))))))))
  refine aU V Z (by repeat constructor) fun w hs => ?_
  exact ⟨by simp [wiB] at h1; simp only [fC, checkW]; rw [if_pos (by omega)], hs.chg0⟩
 | true =>
 have h1' := cD.1 h1
 (refine aA V Z Z (aE Z (aA V Z Z (aE Z ?_))); refine aI V Z Z Z ?_; refine aE Z (aA V Z Z (aE Z ?_)); refine aI V Z Z Z ?_; refine aE Z ?_)
 refine aK (val := .bool (!(wiB x.stock 0 x.store))) V rfl rfl rfl rfl (fun w hs => ?_) ?_; exact eO x.stock 0 x.store w
 cases h2 : wiB x.stock 0 x.store with
 | false =>
  (refine aA V Z Z (aF (aL Z (aD (aB (aA V Z Z (aF (aS ?_))))))))
  refine aU V Z (by repeat constructor) fun w hs => ?_
  exact ⟨by simp [wiB] at h2; simp only [fC, checkW]; rw [if_pos (by omega)], hs.chg0⟩
 | true =>
 have h2' := cD.1 h2
 by_cases h3 : x.days.length < 1
 ·(refine aA V Z Z (aF (aH Z (aM (aD (aD (aB (aA V Z Z ?_))))))); refine aI V Z Z Z ?_; refine aA V Z Z (cL V Z Z Z (by omega) (aA V Z Z ?_)); (iterate 4 refine bE Z Z Z ?_); refine aA V Z Z (aF (aL Z (aD (aB (aA V Z Z (aF (aS ?_))))))))
  refine aU V Z (by repeat constructor) fun w hs => ?_
  exact ⟨by simp only [fC, checkW]; rw [if_neg (by omega), if_pos (by omega)], hs.chg0⟩
 by_cases h4 : x.days.length > 60
 ·(refine aA V Z Z (aF (aH Z (aM (aD (aD (aB (aA V Z Z ?_))))))); refine aI V Z Z Z ?_; refine aA V Z Z (cI V Z Z Z (by omega) (aA V Z Z (aE Z (aA V Z Z (aE Z ?_))))); refine aI V Z Z Z ?_; refine aE Z (aA V Z Z (aE Z (cP V Z Z Z (by omega) (aA V Z Z (aF (aL Z (aD (aB (aA V Z Z (aF (aS ?_))))))))))))
  refine aU V Z (by repeat constructor) fun w hs => ?_
  exact ⟨by simp only [fC, checkW]; rw [if_neg (by omega), if_pos (by omega)], hs.chg0⟩
 have eC : checkW x = if x.days.all dayB = true then 0 else 3 := by
  unfold checkW
  rw [if_neg (by omega), if_neg (by omega)]
 obtain ⟨b, off, rfl⟩ := hsa (by omega)
 (refine aA V Z Z (aF (aH Z (aM (aD (aD (aB (aA V Z Z ?_))))))); refine aI V Z Z Z ?_; refine aA V Z Z (cI V Z Z Z (by omega) (aA V Z Z (aE Z (aA V Z Z (aE Z ?_))))); refine aI V Z Z Z ?_; refine aE Z (aA V Z Z (aE Z (cT V Z Z Z (by omega) (aA V Z Z (aF (aH Z (aM (aD (aD (aB (aA V Z Z ?_))))))))))); refine aF (aQ ?_))
 refine cB (σ := Nat) (fun k => k ≤ x.days.length ∧ (x.days.take k).all dayB = true) (fun k => x.days.length - k) (fun k => [(1, .pointer (some ⟨b1, 0, none⟩)), (3, .int .i64 k)]) (fun _ => [.pt b1 (wnC x (some ⟨b, off, none⟩) c) 108]) 0 ⟨by omega, rfl⟩ ⟨rfl, rfl, trivial⟩ (by repeat constructor) ?_
 rintro k ⟨hk, hall⟩ K hK
 (refine aD (aD (aB (aA V Z Z (aA V Z Z ?_)))); refine aI V Z Z Z ?_; refine aA V Z Z (aA V Z Z (aF ?_)))
 refine dL Z (fun hc => ?_) (fun hc => ?_)
 ·have hk2 : k < x.days.length := by omega
  clear hc
  have e : (x.days.take (k + 1)).all dayB = dayB x.days[k] := by rw [List.take_succ_eq_append_getElem hk2, List.all_append, hall]; simp
  have e2 : dayB x.days[k] = false → x.days.all dayB = false := fun hh => List.all_eq_false.2 ⟨x.days[k], List.getElem_mem hk2, by simp [hh]⟩
  have e3 : dayB x.days[k] = (iC x.days[k].n0 x.days[k].n1 100000 && iC x.days[k].m0 x.days[k].m1 100000 && iC x.days[k].l0 x.days[k].l1 100000) := rfl
  (refine aM (aD (aQ (aD (aB (aA V Z Z ?_))))); refine aI V Z Z Z ?_; refine aA V Z Z ?_)
  refine aV V Z Z Z Z Z (by omega) (by omega) ?_
  (refine aA V Z Z ?_)
  refine dU V Z Z Z Z (fun w hs => RdD.need (RdE.keep h hs.chg0) k hk2) ?_
  skip
  refine aK (val := .bool (!(iC x.days[k].n0 x.days[k].n1 100000))) V rfl rfl rfl rfl (fun w hs => ?_) ?_; exact kG x.days[k].n0 x.days[k].n1 100000 w
  cases g1 : iC x.days[k].n0 x.days[k].n1 100000 with
  | false =>
   (refine aA V Z Z ?_; (iterate 7 refine bE Z Z Z ?_); refine aA V Z Z (aA V Z Z ?_); (iterate 7 refine bE Z Z Z ?_); refine aA V Z Z (aF (aL Z (aD (aB (aA V Z Z (aF (aS ?_))))))))
   refine aU V Z (by repeat constructor) fun w hs => ?_
   exact ⟨by rw [eC, e2 (by rw [e3, g1]; rfl)]; rfl, hs.chg0⟩
  | true =>
  (refine aA V Z Z (aE Z (aA V Z Z (aE Z ?_))); refine aI V Z Z Z ?_; refine aE Z (aA V Z Z (aE Z ?_)))
  refine aV V Z Z Z Z Z (by omega) (by omega) ?_
  (refine aE Z (aA V Z Z (aE Z ?_)))
  refine dU V Z Z Z Z (fun w hs => RdD.make (RdE.keep h hs.chg0) k hk2) ?_
  (refine aE Z ?_)
  refine aK (val := .bool (!(iC x.days[k].m0 x.days[k].m1 100000))) V rfl rfl rfl rfl (fun w hs => ?_) ?_; exact kG x.days[k].m0 x.days[k].m1 100000 w
  cases g2 : iC x.days[k].m0 x.days[k].m1 100000 with
  | false =>
   (refine aA V Z Z (aA V Z Z ?_); (iterate 7 refine bE Z Z Z ?_); refine aA V Z Z (aF (aL Z (aD (aB (aA V Z Z (aF (aS ?_))))))))
   refine aU V Z (by repeat constructor) fun w hs => ?_
   exact ⟨by rw [eC, e2 (by rw [e3, g1, g2]; rfl)]; rfl, hs.chg0⟩
  | true =>
  (refine aA V Z Z (aA V Z Z (aE Z (aA V Z Z (aE Z ?_)))); refine aI V Z Z Z ?_; refine aE Z (aA V Z Z (aE Z ?_)))
  refine aV V Z Z Z Z Z (by omega) (by omega) ?_
  (refine aE Z (aA V Z Z (aE Z ?_)))
  refine dU V Z Z Z Z (fun w hs => RdD.loss (RdE.keep h hs.chg0) k hk2) ?_
  (refine aE Z ?_)
  refine aK (val := .bool (!(iC x.days[k].l0 x.days[k].l1 100000))) V rfl rfl rfl rfl (fun w hs => ?_) ?_; exact kG x.days[k].l0 x.days[k].l1 100000 w
  cases g3 : iC x.days[k].l0 x.days[k].l1 100000 with
  | false =>
   (refine aA V Z Z (aF (aL Z (aD (aB (aA V Z Z (aF (aS ?_))))))))
   refine aU V Z (by repeat constructor) fun w hs => ?_
   exact ⟨by rw [eC, e2 (by rw [e3, g1, g2, g3]; rfl)]; rfl, hs.chg0⟩
  | true =>
  (refine aA V Z Z (aF (aH Z (aM (bJ (aB (aA V Z Z (bA V Z Z Z Z (by omega) (by omega) (aA V Z Z (aF ?_))))))))))
  exact hK (k + 1) _ _ ⟨by omega, by rw [e, e3, g1, g2, g3]; rfl⟩ (by omega) ⟨rfl, rfl, trivial⟩ (by repeat constructor)
 ·obtain rfl : k = x.days.length := by omega
  rw [List.take_length] at hall
  (refine bO _ rfl (aD (aB (aA V Z Z (aF (aS ?_))))))
  refine aU V Z (by repeat constructor) fun w hs => ?_
  exact ⟨by rw [eC, hall]; rfl, hs.chg0⟩
end Go.Proofs.YtgeajgmefokifaaGreat

/- Walks of the reference: the errors of a stadium, of rules, and of a course. -/
namespace Go.Proofs.YtgeajgmefokifaaGreat
open Go Go.Eng

section
variable {w : World} {lo hi b off len cap : Nat} {l : List Lp}
theorem RdL.a0 (h : RdL w lo hi (.slice (some ⟨b, off, none⟩) len cap) l) (i : Nat) (hi : i < l.length) : w.cell? ⟨b, off + i * 3 + 0, none⟩ = some (.int .i64 l[i].len) := RdL.at0 h i hi
end
set_option maxHeartbeats 1000000 in
theorem rstad_ca (w : World) (lo hi : Nat) (a : Option Addr) (c : Nat) (s : List Lp) (h : RdL w lo hi (.slice a s.length c) s) (hlen : s.length ≤ 1000000) :
  Ca Tryz.prog 97 [.slice a s.length c] w fun r w' => r = .int .i64 (stadV s) ∧ Chg [] w w' := by
 obtain ⟨a', c', he, hsa⟩ := RdL.outI h
 cases he
 refine cS (Sat.nil w M0) Tryz.func97 rfl (by simp [Tryz.ntmps97]) ?_
 by_cases h1 : s.length < 1
 ·(refine aD (aB (aA V Z Z (aF (aD (aD (aB (aA V Z Z (aA V Z Z (cL V Z Z Z (by omega) (aA V Z Z ?_)))))))))); (iterate 3 refine bE Z Z Z ?_); refine aA V Z Z (aF (aL Z (aD (aB (aA V Z Z (aF (aS ?_))))))))
  refine aU V Z (by repeat constructor) fun w hs => ?_
  exact ⟨by unfold stadV; rw [if_pos (by omega)]; rfl, hs.chg0⟩
 by_cases h2 : s.length > 12
 ·(refine aD (aB (aA V Z Z (aF (aD (aD (aB (aA V Z Z (aA V Z Z (cI V Z Z Z (by omega) (aA V Z Z (aE Z ?_))))))))))); refine aA V Z Z (aE Z (aA V Z Z (aE Z (cP V Z Z Z (by omega) (aA V Z Z (aF (aL Z (aD (aB (aA V Z Z (aF ?_))))))))))); refine aS ?_)
  refine aU V Z (by repeat constructor) fun w hs => ?_
  exact ⟨by unfold stadV; rw [if_pos (by omega)]; rfl, hs.chg0⟩
 have eC : stadV s = if s.all jL = true then 0 else 3 := by
  unfold stadV
  rw [if_neg (by omega)]
 obtain ⟨b, off, rfl⟩ := hsa (by omega)
 (refine aD (aB (aA V Z Z (aF (aD (aD (aB (aA V Z Z (aA V Z Z (cI V Z Z Z (by omega) (aA V Z Z (aE Z ?_))))))))))); refine aA V Z Z (aE Z (aA V Z Z (aE Z (cT V Z Z Z (by omega) (aA V Z Z (aF (aH Z (aM (aD (aD (aB ?_))))))))))); refine aA V Z Z (aF (aQ ?_)))
 refine cB (σ := Nat) (fun k => k ≤ s.length ∧ (s.take k).all jL = true) (fun k => s.length - k) (fun k => [(0, .slice (some ⟨b, off, none⟩) s.length c), (3, .int .i64 k)]) (fun _ => []) 0 ⟨by omega, rfl⟩ ⟨rfl, rfl, trivial⟩ (by repeat constructor) ?_
 rintro k ⟨hk, hall⟩ K hK
 (refine aD (aD (aB ?_)); (iterate 4 refine aA V Z Z ?_); refine aF ?_)
 refine dL Z (fun hc => ?_) (fun hc => ?_)
 ·have hk2 : k < s.length := by omega
  clear hc
  have e : (s.take (k + 1)).all jL = jL s[k] := by rw [List.take_succ_eq_append_getElem hk2, List.all_append, hall]; simp
  have e2 : jL s[k] = false → s.all jL = false := fun hh => List.all_eq_false.2 ⟨s[k], List.getElem_mem hk2, by simp [hh]⟩
  have e3 : jL s[k] = (wiB s[k].len 1 20000 && wiB s[k].climb 0 2000 && wiB s[k].wide 1 20) := rfl
  (refine aM (aD (aQ (aD (aB (aA V Z Z (aA V Z Z ?_)))))))
  refine aV V Z Z Z Z Z (by omega) (by omega) ?_
  (refine aA V Z Z ?_)
  refine bB V Z Z Z (fun w hs => RdL.at0 (RdE.keep h hs.chg0) k hk2) ?_
  refine aK (val := .bool (!(wiB s[k].len 1 20000))) V rfl rfl rfl rfl (fun w hs => ?_) ?_; exact eO s[k].len 1 20000 w
  cases g1 : wiB s[k].len 1 20000 with
  | false =>
   (refine aA V Z Z ?_; (iterate 6 refine bE Z Z Z ?_); refine aA V Z Z (aA V Z Z ?_); (iterate 6 refine bE Z Z Z ?_); refine aA V Z Z (aF (aL Z (aD (aB (aA V Z Z (aF (aS ?_))))))))
   refine aU V Z (by repeat constructor) fun w hs => ?_
   exact ⟨by rw [eC, e2 (by rw [e3, g1]; rfl)]; rfl, hs.chg0⟩
  | true =>
  (refine aA V Z Z (aE Z (aA V Z Z (aE Z (aA V Z Z (aE Z ?_))))))
  refine aV V Z Z Z Z Z (by omega) (by omega) ?_
  (refine aE Z (aA V Z Z (aE Z ?_)))
  refine bB V Z Z Z (fun w hs => RdL.at1 (RdE.keep h hs.chg0) k hk2) ?_
  (refine aE Z ?_)
  refine aK (val := .bool (!(wiB s[k].climb 0 2000))) V rfl rfl rfl rfl (fun w hs => ?_) ?_; exact eO s[k].climb 0 2000 w
  cases g2 : wiB s[k].climb 0 2000 with
  | false =>
   (refine aA V Z Z (aA V Z Z ?_); (iterate 6 refine bE Z Z Z ?_); refine aA V Z Z (aF (aL Z (aD (aB (aA V Z Z (aF (aS ?_))))))))
   refine aU V Z (by repeat constructor) fun w hs => ?_
   exact ⟨by rw [eC, e2 (by rw [e3, g1, g2]; rfl)]; rfl, hs.chg0⟩
  | true =>
  (refine aA V Z Z (aA V Z Z (aE Z (aA V Z Z (aE Z (aA V Z Z (aE Z ?_)))))))
  refine aV V Z Z Z Z Z (by omega) (by omega) ?_
  (refine aE Z (aA V Z Z (aE Z ?_)))
  refine bB V Z Z Z (fun w hs => RdL.at2 (RdE.keep h hs.chg0) k hk2) ?_
  (refine aE Z ?_)
  refine aK (val := .bool (!(wiB s[k].wide 1 20))) V rfl rfl rfl rfl (fun w hs => ?_) ?_; exact eO s[k].wide 1 20 w
  cases g3 : wiB s[k].wide 1 20 with
  | false =>
   (refine aA V Z Z (aF (aL Z (aD (aB (aA V Z Z (aF (aS ?_))))))))
   refine aU V Z (by repeat constructor) fun w hs => ?_
   exact ⟨by rw [eC, e2 (by rw [e3, g1, g2, g3]; rfl)]; rfl, hs.chg0⟩
  | true =>
  (refine aA V Z Z (aF (aH Z (aM (bJ (aB (aA V Z Z (bA V Z Z Z Z (by omega) (by omega) (aA V Z Z (aF ?_))))))))))
  exact hK (k + 1) _ _ ⟨by omega, by rw [e, e3, g1, g2, g3]; rfl⟩ (by omega) ⟨rfl, rfl, trivial⟩ (by repeat constructor)
 ·obtain rfl : k = s.length := by omega
  rw [List.take_length] at hall
  (refine bO _ rfl (aD (aB (aA V Z Z (aF (aS ?_))))))
  refine aU V Z (by repeat constructor) fun w hs => ?_
  exact ⟨by rw [eC, hall]; rfl, hs.chg0⟩
theorem stadV_or (s : List Lp) : stadV s = 0 ∨ stadV s = 2 ∨ stadV s = 3 := by
 unfold stadV
 split
 ·simp
 ·split <;> simp
set_option maxHeartbeats 2000000 in
theorem dK (w : World) (lo hi : Nat) (a : Option Addr) (c : Nat) (s : List Lp) (r : Rl) (h : RdL w lo hi (.slice a s.length c) s) (hlen : s.length ≤ 1000000) :
  Ca Tryz.prog 37 [.slice a s.length c, .agg (rlC r).toArray] w fun v w' => v = .int .i64 (checkS s r) ∧ Chg [] w w' := by
 refine cS (Sat.nil w M0) Tryz.func37 rfl (by simp [Tryz.ntmps37]) ?_
 (refine aD (aB ?_))
 refine bD Z Z (fun b3 => ?_)
 (refine aA V Z Z (aF (aD (aD (aB (aA V Z Z ?_))))))
 refine aK (val := .int .i64 (stadV s)) V rfl rfl rfl rfl (fun w hs => ?_) ?_; exact rstad_ca w lo hi a c s (RdE.keep h hs.chg0) hlen
 by_cases h0 : stadV s ≠ 0
 ·have e : checkS s r = stadV s := by unfold checkS; rw [if_pos h0]
  rw [e]
  rcases stadV_or s with h1 | h1 | h1
  ·exact absurd h1 h0
  all_goals
   rw [h1]
   (refine aA V Z Z (aF (aD (aB (aA V Z Z (bW V Z Z Z (by omega) (aF (aL Z (aD (aB (aA V Z Z (aA V Z Z ?_))))))))))); refine aF (aS ?_))
   refine aU V Z (by repeat constructor) fun w hs => ?_
   exact ⟨rfl, hs.chg0⟩
 have h0 : stadV s = 0 := by omega
 have e : checkS s r = if iX r = true then 0 else 3 := by unfold checkS; rw [if_neg (by omega)]
 rw [h0]
 have eB : iX r = (wiB r.laps 1 6 && iC r.g0 r.g1 200000 && iC r.c0 r.c1 200000 && iC r.p0 r.p1 200000 && wiB r.wide 1 20 && wiB r.uses 1 6) := rfl
 (refine aA V Z Z (aF (aD (aB (aA V Z Z (aW V Z Z Z (by omega) (aF (aH Z (aM (aD (aD (aB ?_))))))))))); refine aA V Z Z (aI V Z Z Z ?_))
 refine aK (val := .bool (!(wiB r.laps 1 6))) V rfl rfl rfl rfl (fun w hs => ?_) ?_; exact eO r.laps 1 6 w
 cases g1 : wiB r.laps 1 6 with
 | false =>
  (refine aA V Z Z ?_; (iterate 3 refine bE Z Z Z ?_); refine aA V Z Z (aA V Z Z ?_); (iterate 3 refine bE Z Z Z ?_); refine aA V Z Z (aA V Z Z ?_); (iterate 3 refine bE Z Z Z ?_); refine aA V Z Z (aA V Z Z ?_); (iterate 3 refine bE Z Z Z ?_); refine aA V Z Z (aA V Z Z ?_); (iterate 3 refine bE Z Z Z ?_); refine aA V Z Z (aF (aL Z (aD (aB (aA V Z Z (aF (aS ?_))))))))
  refine aU V Z (by repeat constructor) fun w hs => ?_
  exact ⟨by rw [e, eB]; simp [*, fC], hs.chg0⟩
 | true =>
 (refine aA V Z Z (aE Z (aA V Z Z (aE Z (aJ V Z Z Z (aE Z ?_))))))
 refine aK (val := .bool (!(iC r.g0 r.g1 200000))) V rfl rfl rfl rfl (fun w hs => ?_) ?_; exact kG r.g0 r.g1 200000 w
 cases g2 : iC r.g0 r.g1 200000 with
 | false =>
  (refine aA V Z Z (aA V Z Z ?_); (iterate 3 refine bE Z Z Z ?_); refine aA V Z Z (aA V Z Z ?_); (iterate 3 refine bE Z Z Z ?_); refine aA V Z Z (aA V Z Z ?_); (iterate 3 refine bE Z Z Z ?_); refine aA V Z Z (aA V Z Z ?_); (iterate 3 refine bE Z Z Z ?_); refine aA V Z Z (aF (aL Z (aD (aB (aA V Z Z (aF (aS ?_))))))))
  refine aU V Z (by repeat constructor) fun w hs => ?_
  exact ⟨by rw [e, eB]; simp [*, fC], hs.chg0⟩
 | true =>
 (refine aA V Z Z (aA V Z Z (aE Z (aA V Z Z (aE Z (aJ V Z Z Z (aE Z ?_)))))))
 refine aK (val := .bool (!(iC r.c0 r.c1 200000))) V rfl rfl rfl rfl (fun w hs => ?_) ?_; exact kG r.c0 r.c1 200000 w
 cases g3 : iC r.c0 r.c1 200000 with
 | false =>
  (refine aA V Z Z (aA V Z Z ?_); (iterate 3 refine bE Z Z Z ?_); refine aA V Z Z (aA V Z Z ?_); (iterate 3 refine bE Z Z Z ?_); refine aA V Z Z (aA V Z Z ?_); (iterate 3 refine bE Z Z Z ?_); refine aA V Z Z (aF (aL Z (aD (aB (aA V Z Z (aF (aS ?_))))))))
  refine aU V Z (by repeat constructor) fun w hs => ?_
  exact ⟨by rw [e, eB]; simp [*, fC], hs.chg0⟩
 | true =>
 (refine aA V Z Z (aA V Z Z (aE Z (aA V Z Z (aE Z (aJ V Z Z Z (aE Z ?_)))))))
 refine aK (val := .bool (!(iC r.p0 r.p1 200000))) V rfl rfl rfl rfl (fun w hs => ?_) ?_; exact kG r.p0 r.p1 200000 w
 cases g4 : iC r.p0 r.p1 200000 with
 | false =>
  (refine aA V Z Z (aA V Z Z ?_); (iterate 3 refine bE Z Z Z ?_); refine aA V Z Z (aA V Z Z ?_); (iterate 3 refine bE Z Z Z ?_); refine aA V Z Z (aF (aL Z (aD (aB (aA V Z Z (aF (aS ?_))))))))
  refine aU V Z (by repeat constructor) fun w hs => ?_
  exact ⟨by rw [e, eB]; simp [*, fC], hs.chg0⟩
 | true =>
 (refine aA V Z Z (aA V Z Z (aE Z (aA V Z Z (aE Z (aI V Z Z Z (aE Z ?_)))))))
 refine aK (val := .bool (!(wiB r.wide 1 20))) V rfl rfl rfl rfl (fun w hs => ?_) ?_; exact eO r.wide 1 20 w
 cases g5 : wiB r.wide 1 20 with
 | false =>
  (refine aA V Z Z (aA V Z Z ?_); (iterate 3 refine bE Z Z Z ?_); refine aA V Z Z (aF (aL Z (aD (aB (aA V Z Z (aF (aS ?_))))))))
  refine aU V Z (by repeat constructor) fun w hs => ?_
  exact ⟨by rw [e, eB]; simp [*, fC], hs.chg0⟩
 | true =>
 (refine aA V Z Z (aA V Z Z (aE Z (aA V Z Z (aE Z (aI V Z Z Z (aE Z ?_)))))))
 refine aK (val := .bool (!(wiB r.uses 1 6))) V rfl rfl rfl rfl (fun w hs => ?_) ?_; exact eO r.uses 1 6 w
 cases g6 : wiB r.uses 1 6 with
 | false =>
  (refine aA V Z Z (aF (aL Z (aD (aB (aA V Z Z (aF (aS ?_))))))))
  refine aU V Z (by repeat constructor) fun w hs => ?_
  exact ⟨by rw [e, eB]; simp [*, fC], hs.chg0⟩
 | true =>
 (refine aA V Z Z (aF (aH Z (aM (aD (aB (aA V Z Z (aF (aS ?_)))))))))
 refine aU V Z (by repeat constructor) fun w hs => ?_
 exact ⟨by rw [e, eB]; simp [*, fC], hs.chg0⟩
/-- In order, as far as they are looked at. -/
def ordB (c : List Int) (k : Nat) : Bool := (List.range k).all fun i => decide (c.getD i 0 ≤ c.getD (i + 1) 0) && true
theorem ordB_srt : ∀ (c : List Int), srtB c = ordB c (c.length - 1)
 | [] => rfl
 | [_] => rfl
 | a :: b :: l => by
  rw [srtB, ordB_srt (b :: l)]
  simp only [ordB, List.length_cons, Nat.add_sub_cancel]
  rw [List.range_succ_eq_map, List.all_cons, List.all_map]
  simp only [Bool.and_true]
  rfl
theorem ordB_succ (c : List Int) (k : Nat) : ordB c (k + 1) = (ordB c k && decide (c.getD k 0 ≤ c.getD (k + 1) 0)) := by simp [ordB, List.range_succ]
theorem ordB_no {c : List Int} {k n : Nat} (hk : k < n) (h : c.getD (k + 1) 0 < c.getD k 0) : ordB c n = false := List.all_eq_false.2 ⟨k, List.mem_range.2 hk, by simp only [Bool.and_true, decide_eq_true_eq]; omega⟩
set_option maxHeartbeats 2000000 in
theorem jX (w : World) (lo hi : Nat) (sa : Option Addr) (n sc : Nat) (v : Value) (c : List Int) (h : RdI w lo hi v c) (hlen : c.length ≤ 1000000) (hn : n ≤ 1000000) :
  Ca Tryz.prog 100 [.slice sa n sc, v] w fun r w' => r = .int .i64 (listedV n c) ∧ Chg [] w w' := by
 obtain ⟨a, cc, rfl, hsa⟩ := RdI.outI h
 refine cS (Sat.nil w M0) Tryz.func100 rfl (by simp [Tryz.ntmps100]) ?_
 by_cases h1 : c.length < 1
 ·(refine aD (aB (aA V Z Z (aF (aD (aD (aB (aA V Z Z (aA V Z Z (cL V Z Z Z (by omega) (aA V Z Z ?_)))))))))); (iterate 3 refine bE Z Z Z ?_); refine aA V Z Z (aF (aL Z (aD (aB (aA V Z Z (aF (aS ?_))))))))
  refine aU V Z (by repeat constructor) fun w hs => ?_
  exact ⟨by unfold listedV; rw [if_pos (by omega)]; rfl, hs.chg0⟩
 by_cases h2 : c.length > 6
 ·(refine aD (aB (aA V Z Z (aF (aD (aD (aB (aA V Z Z (aA V Z Z (cI V Z Z Z (by omega) (aA V Z Z (aE Z ?_))))))))))); refine aA V Z Z (aE Z (aA V Z Z (aE Z (cP V Z Z Z (by omega) (aA V Z Z (aF (aL Z (aD (aB (aA V Z Z (aF ?_))))))))))); refine aS ?_)
  refine aU V Z (by repeat constructor) fun w hs => ?_
  exact ⟨by unfold listedV; rw [if_pos (by omega)]; rfl, hs.chg0⟩
 have eC : listedV n c = if inL n c = false then 1 else if srtB c = true then 0 else 4 := by
  unfold listedV
  rw [if_neg (by omega)]
 obtain ⟨b, off, rfl⟩ := hsa (by omega)
 (refine aD (aB (aA V Z Z (aF (aD (aD (aB (aA V Z Z (aA V Z Z (cI V Z Z Z (by omega) (aA V Z Z (aE Z ?_))))))))))); refine aA V Z Z (aE Z (aA V Z Z (aE Z (cT V Z Z Z (by omega) (aA V Z Z (aF (aH Z (aM (aD (aD (aB ?_))))))))))); refine aA V Z Z (aF (aQ ?_)))
 refine cB (σ := Nat) (fun k => k ≤ c.length ∧ inL n (c.take k) = true) (fun k => c.length - k) (fun k => [(0, .slice sa n sc), (1, .slice (some ⟨b, off, none⟩) c.length cc), (5, .int .i64 k)]) (fun _ => []) 0 ⟨by omega, rfl⟩ ⟨rfl, rfl, rfl, trivial⟩ (by repeat constructor) ?_
 rintro k ⟨hk, hall⟩ K hK
 (refine aD (aD (aB ?_)); (iterate 4 refine aA V Z Z ?_); refine aF ?_)
 refine dL Z (fun hc => ?_) (fun hc => ?_)
 ·have hk2 : k < c.length := by omega
  clear hc
  have e : inL n (c.take (k + 1)) = wiB c[k] 0 ((n : Int) - 1) := by
   unfold inL at hall ⊢
   rw [List.take_succ_eq_append_getElem hk2, List.all_append, hall]
   simp
  have e2 : wiB c[k] 0 ((n : Int) - 1) = false → inL n c = false := fun hh => List.all_eq_false.2 ⟨c[k], List.getElem_mem hk2, by simp [hh]⟩
  (refine aM (aD (aQ (aD (aB (aA V Z Z (aA V Z Z ?_)))))))
  (refine aV V Z Z Z Z Z (by omega) (by omega) ?_; refine bB V Z Z Z (fun w hs => RdI.at (RdE.keep h hs.chg0) k hk2) ?_)
  (refine aA V Z Z (aA V Z Z (bA V Z Z Z Z (by omega) (by omega) ?_)))
  refine aK (val := .bool (!(wiB c[k] 0 ((n : Int) - 1)))) V rfl rfl rfl rfl (fun w hs => ?_) ?_; exact eO c[k] 0 ((n : Int) - 1) w
  cases g1 : wiB c[k] 0 ((n : Int) - 1) with
  | false =>
   (refine aF (aL Z (aD (aB (aA V Z Z (aF (aS ?_)))))))
   refine aU V Z (by repeat constructor) fun w hs => ?_
   exact ⟨by rw [eC, e2 g1]; rfl, hs.chg0⟩
  | true =>
  (refine aF (aH Z (aM (bJ (aB (aA V Z Z (bA V Z Z Z Z (by omega) (by omega) (aA V Z Z (aF ?_)))))))))
  exact hK (k + 1) _ _ ⟨by omega, by rw [e, g1]⟩ (by omega) ⟨rfl, rfl, rfl, trivial⟩ (by repeat constructor)
 ·obtain rfl : k = c.length := by omega
  rw [List.take_length] at hall
  clear hc hK
  rw [hall] at eC
  (refine bO _ rfl (aD (aD (aB (aA V Z Z (aF (aQ ?_)))))))
  refine cB (σ := Nat) (fun k => k + 1 ≤ c.length ∧ ordB c k = true) (fun k => c.length - k) (fun k => [(1, .slice (some ⟨b, off, none⟩) c.length cc), (6, .int .i64 ((k : Int) + 1))]) (fun _ => []) 0 ⟨by omega, rfl⟩ ⟨rfl, rfl, trivial⟩ (by repeat constructor) ?_
  rintro k ⟨hk, hall⟩ K hK
  (refine aD (aD (aB ?_)); (iterate 4 refine aA V Z Z ?_); refine aF ?_)
  refine dL Z (fun hc => ?_) (fun hc => ?_)
  ·have hk2 : k + 1 < c.length := by omega
   have hk3 : k < c.length := by omega
   clear hc
   have es := ordB_succ c k
   have en := ordB_no (c := c) (k := k) (n := c.length - 1) (by omega)
   rw [← ordB_srt] at en
   rw [cR hk2, cR hk3] at es en
   (refine aM (aD (aQ (aD ?_))))
   refine cQ _ [] (Sp.refl _) (by kernel_rfl) (by kernel_rfl) ?_
   (refine aG V Z Z Z (aG V Z Z Z ?_))
   refine bR V Z Z Z Z Z (by omega) (by omega) ?_
   refine cC (v := .int .i64 c[k + 1]) V rfl rfl rfl (fun w hs => RdI.at (RdE.keep h hs.chg0) (k + 1) hk2) ?_
   (refine aG V Z Z Z (aG V Z Z Z (dA V Z Z Z Z (by omega) (by omega) ?_)))
   refine bR V Z Z Z Z Z (by omega) (by omega) ?_
   refine cC (v := .int .i64 c[k]) V rfl rfl rfl (fun w hs => by have := RdI.at (RdE.keep h hs.chg0) k hk3; rwa [show ((k : Int) + 1 - 1).toNat = (k : Int).toNat by omega]) ?_
   generalize c[k + 1] = p at *
   generalize c[k] = q at *
   by_cases hpq : p < q
   ·(refine qf_lssT V Z Z Z (by omega) (aO (aL Z (aD (aB (aA V Z Z (aF (aS ?_))))))))
    refine aU V Z (by repeat constructor) fun w hs => ?_
    exact ⟨by rw [eC, en hpq]; rfl, hs.chg0⟩
   ·(refine qf_lssF V Z Z Z (by omega) (aO (aH Z (aM (bJ (aB (aA V Z Z (bA V Z Z Z Z (by omega) (by omega) (aA V Z Z (aF ?_))))))))))
    exact hK (k + 1) _ _ ⟨by omega, by rw [es, hall]; simp; omega⟩ (by omega) ⟨rfl, rfl, trivial⟩ (by repeat constructor)
  ·obtain rfl : k = c.length - 1 := by omega
   rw [← ordB_srt] at hall
   rw [hall] at eC
   (refine bO _ rfl (aD (aB (aA V Z Z (aF (aS ?_))))))
   refine aU V Z (by repeat constructor) fun w hs => ?_
   exact ⟨by rw [eC]; rfl, hs.chg0⟩
end Go.Proofs.YtgeajgmefokifaaGreat

/- Walks of the reference: how often a loop occurs; which rules a course breaks. -/
namespace Go.Proofs.YtgeajgmefokifaaGreat
open Go Go.Eng

theorem gG {e : Env} {t : Nat} {v u : Value} (h : Eng.look e t = some v) (hv : v = u) : Eng.look e t = some u := hv ▸ h
set_option maxHeartbeats 1000000 in
theorem ruses_ca (w : World) (lo hi : Nat) (v : Value) (c : List Int) (x : Int) (h : RdI w lo hi v c) (hlen : c.length ≤ 1000000) :
  Ca Tryz.prog 106 [v, .int .i64 x] w fun r w' => r = .int .i64 (cntI c x) ∧ Chg [] w w' := by
 obtain ⟨a, cc, rfl, hsa⟩ := RdI.outI h
 refine cS (Sat.nil w M0) Tryz.func106 rfl (by simp [Tryz.ntmps106]) ?_
 (refine aD (aB (aA V Z Z (aF (aD (aB (aA V Z Z (aF (aD (aD (aB (aA V Z Z ?_))))))))))); refine aF (aQ ?_))
 refine cB (σ := Nat) (fun k => k ≤ c.length) (fun k => c.length - k) (fun k => [(0, .slice a c.length cc), (1, .int .i64 x), (5, .int .i64 (cntI (c.take k) x)), (6, .int .i64 k)]) (fun _ => []) 0 (by omega) ⟨rfl, rfl, rfl, rfl, trivial⟩ (by repeat constructor) ?_
 rintro k hk K hK
 (refine aD (aD (aB ?_)); (iterate 4 refine aA V Z Z ?_); refine aF ?_)
 refine dL Z (fun hc => ?_) (fun hc => ?_)
 ·have hk2 : k < c.length := by omega
  clear hc
  obtain ⟨b, off, rfl⟩ := hsa (by omega)
  have e := fQ c x k hk2
  have hb := cnt_le (c := c.take k) (i := x)
  rw [List.length_take] at hb
  (refine aM (aD (aQ (aD (aB (aA V Z Z (aA V Z Z ?_)))))))
  (refine aV V Z Z Z Z Z (by omega) (by omega) ?_; refine bB V Z Z Z (fun w hs => RdI.at (RdE.keep h hs.chg0) k hk2) ?_)
  generalize c[k] = q at *
  by_cases hq : q = x
  ·rw [if_pos hq] at e
   (refine aA V Z Z (cO V Z Z Z (by omega) (aF (aL Z (aB (aA V Z Z (bA V Z Z Z Z (by omega) (by omega) (aA V Z Z (aF (bJ (aB (aA V Z Z ?_))))))))))); refine bA V Z Z Z Z (by omega) (by omega) (aA V Z Z (aF ?_)))
   exact hK (k + 1) _ _ (by omega) (by omega) ⟨rfl, rfl, cM rfl (by omega), rfl, trivial⟩ (by repeat constructor)
  ·rw [if_neg hq] at e
   (refine aA V Z Z (fP V Z Z Z (by omega) (aF (aH Z (aM (bJ (aB (aA V Z Z (bA V Z Z Z Z (by omega) (by omega) (aA V Z Z (aF ?_)))))))))))
   exact hK (k + 1) _ _ (by omega) (by omega) ⟨rfl, rfl, cM rfl (by omega), rfl, trivial⟩ (by repeat constructor)
 ·obtain rfl : k = c.length := by omega
  rw [List.take_length]
  (refine bO _ rfl (aD (aB (aA V Z Z (aA V Z Z (aF (aS ?_)))))))
  refine aU V Z (by repeat constructor) fun w hs => ?_
  exact ⟨rfl, hs.chg0⟩
def oftP (r : Rl) (c : List Int) (k : Nat) : Bool := (c.take k).any fun i => decide (r.uses < cntI c i) && true
set_option maxHeartbeats 8000000 in
theorem iK (w : World) (lo hi lo2 hi9 : Nat) (a : Option Addr) (cp : Nat) (v : Value) (s : List Lp) (r : Rl) (c : List Int) (h : RdL w lo hi (.slice a s.length cp) s) (hcr : CR s r) (hv : RdI w lo2 hi9 v c) (hc1 : ∀ x ∈ c, 0 ≤ x ∧ x < s.length) (h6 : c.length ≤ 6) :
  Ca Tryz.prog 101 [.slice a s.length cp, .agg (rlC r).toArray, v] w fun x w' => ∃ u : Value, x = u ∧ Sat w M0 [.ow u 3 1 (eZ s r c).length (aP (eZ s r c))] w' := by
 obtain ⟨av, cv, rfl, hsv⟩ := RdI.outI hv
 obtain ⟨_, _, e0, hsa⟩ := RdL.outI h
 cases e0
 have hn2 := hcr.s.n2
 have hu := hcr.r.uses
 refine cS (Sat.nil w M0) Tryz.func101 rfl (by simp [Tryz.ntmps101]) ?_
 (refine aD (aB ?_))
 refine bD Z Z (fun b4 => ?_)
 (refine aA V Z Z (aF (aD (aB (aA V Z Z (aA V Z Z (aF (aD (aB ?_)))))))); (iterate 3 refine aA V Z Z ?_); refine aF (aD (aD (aB (aA V Z Z (aF (aQ ?_)))))))
 refine cB (σ := Nat) (fun k => k ≤ c.length) (fun k => c.length - k) (fun k => [(0, .slice a s.length cp), (2, .slice av c.length cv), (4, .pointer (some ⟨b4, 0, none⟩)), (7, .int .i64 (lenP s c k)), (8, .int .i64 (clbP s c k)), (9, .bool (lapP s r c k)), (10, .bool (widP s r c k)), (11, .bool (oftP r c k)), (12, .int .i64 k)]) (fun _ => [.pt b4 (rlC r) 88]) 0 (by omega) ⟨rfl, rfl, rfl, rfl, rfl, rfl, rfl, rfl, rfl, trivial⟩ (by repeat constructor) ?_
 rintro k hk K hK
 (refine aD (aD (aB ?_)); (iterate 4 refine aA V Z Z ?_); refine aF ?_)
 refine dL Z (fun hc => ?_) (fun hc => ?_)
 ·have hk2 : k < c.length := by omega
  clear hc
  obtain ⟨bv, ov, rfl⟩ := hsv (by omega)
  have hi := mem_at hc1 hk2
  obtain ⟨ba, oa, rfl⟩ := hsa (by omega)
  have el : lenP s c (k + 1) = lenP s c k + (iY s c[k]).len := gZ (fun i => (iY s i).len) c k hk2
  have ec : clbP s c (k + 1) = clbP s c k + (iY s c[k]).climb := gZ (fun i => (iY s i).climb) c k hk2
  have ep : lapP s r c (k + 1) = (lapP s r c k || !wiB (iY s c[k]).len r.p0 r.p1) := lH (fun i => !wiB (iY s i).len r.p0 r.p1) c k hk2
  have ew : widP s r c (k + 1) = (widP s r c k || (decide ((iY s c[k]).wide < r.wide) && true)) := lH (fun i => decide ((iY s i).wide < r.wide) && true) c k hk2
  have eo : oftP r c (k + 1) = (oftP r c k || (decide (r.uses < cntI c c[k]) && true)) := lH (fun i => decide (r.uses < cntI c i) && true) c k hk2
  have eat := lpAt_at (s := s) hi
  have hR := gJ hcr.s hi
  have hR1 := hR.len
  have hR2 := hR.climb
  have hR3 := hR.wide
  have hb := lenP_bd hcr.s hc1 k hk h6
  have hcn := cnt_le (c := c) (i := c[k])
  have hca := fun (w' : World) (hc : Chg [] w w') => RdI.at (RdE.keep hv hc) k hk2
  (refine aM (aD (aQ (aD (aB ?_)))); (iterate 3 refine aA V Z Z ?_))
  (refine aV V Z Z Z Z Z (by omega) (by omega) ?_; refine bB V Z Z Z (fun w hs => RdI.at (RdE.keep hv hs.chg0) k hk2) ?_)
  generalize c[k] = ck at *
  obtain ⟨i, rfl⟩ := Int.eq_ofNat_of_zero_le hi.1
  have hi2 : i < s.length := by omega
  replace eat : iY s (i : Int) = s[i] := eat
  rw [eat] at hR1 hR2 hR3 el ec ep ew
  have hck := fun (w' : World) (hc : Chg [] w w') => ruses_ca w' lo2 hi9 _ c i (RdE.keep hv hc) (by omega)
  clear eat hR
  skip
  refine aV V Z Z Z Z Z (by omega) (by omega) ?_
  skip
  refine dU V Z Z Z Z (fun w hs => RdL.at (RdE.keep h hs.chg0) i hi2) ?_
  skip
  refine bI zero167 rfl (fun b13 => ?_)
  generalize s[i] = lp at *
  obtain ⟨ln, cl, wd⟩ := lp
  dsimp only at hR1 hR2 hR3 el ec ep ew ⊢
  generalize lenP s c k = LL at *
  generalize clbP s c k = CC at *
  generalize lapP s r c k = pP at *
  cases pP with
  | true =>
   generalize widP s r c k = wP at *
   cases wP with
   | true =>
    generalize oftP r c k = oP at *
    cases oP with
    | true =>
     (refine bS V Z Z Z Z Z (by repeat constructor) rfl ?_; refine aF (aD (aB (aA V Z Z (aA V Z Z ?_)))); refine aI V Z Z Z ?_; refine bA V Z Z Z Z (by omega) (by omega) (aA V Z Z (aF (aD (aB (aA V Z Z (aA V Z Z ?_)))))); refine aI V Z Z Z ?_; refine bA V Z Z Z Z (by omega) (by omega) (aA V Z Z (aF (aD (aB (aA V Z Z (aA V Z Z ?_)))))); (iterate 9 refine bE Z Z Z ?_); refine aA V Z Z (aA V Z Z (aF (aD (aB (aA V Z Z (aA V Z Z ?_)))))); (iterate 5 refine bE Z Z Z ?_); refine aA V Z Z (aA V Z Z (aF ?_)))
     refine cQ _ [] (Sp.refl _) (by kernel_rfl) (by kernel_rfl) ?_
     (refine aG V Z Z Z (aG V Z Z Z ?_); (iterate 9 refine hG Z Z Z ?_); refine aG V Z Z Z (aG V Z Z Z (aO (bJ (aB (aA V Z Z (bA V Z Z Z Z (by omega) (by omega) (aA V Z Z (aF ?_)))))))))
     exact hK (k + 1) _ _ (by omega) (by omega) ⟨rfl, rfl, rfl, cM rfl (by omega), cM rfl (by omega), gG rfl (by rw [ep]; simp), gG rfl (by rw [ew]; simp), gG rfl (by rw [eo]; simp), rfl, trivial⟩ (by repeat constructor)
    | false =>
     (refine bS V Z Z Z Z Z (by repeat constructor) rfl ?_; refine aF (aD (aB (aA V Z Z (aA V Z Z ?_)))); refine aI V Z Z Z ?_; refine bA V Z Z Z Z (by omega) (by omega) (aA V Z Z (aF (aD (aB (aA V Z Z (aA V Z Z ?_)))))); refine aI V Z Z Z ?_; refine bA V Z Z Z Z (by omega) (by omega) (aA V Z Z (aF (aD (aB (aA V Z Z (aA V Z Z ?_)))))); (iterate 9 refine bE Z Z Z ?_); refine aA V Z Z (aA V Z Z (aF (aD (aB (aA V Z Z (aA V Z Z ?_)))))); (iterate 5 refine bE Z Z Z ?_); refine aA V Z Z (aA V Z Z (aF ?_)))
     refine cQ _ [] (Sp.refl _) (by kernel_rfl) (by kernel_rfl) ?_
     (refine aG V Z Z Z (aG V Z Z Z (aX Z (aG V Z Z Z (aX Z (aG V Z Z Z (aX Z (aG V Z Z Z (aX Z ?_)))))))))
     refine bR V Z Z Z Z Z (by omega) (by omega) ?_
     (refine aX Z ?_)
     refine cC (v := .int .i64 i) V rfl rfl rfl (fun w hs => hca w hs.chg0) ?_
     (refine aX Z ?_)
     refine bT (val := .int .i64 (cntI c i)) V rfl rfl rfl rfl (fun w hs => ?_) ?_; exact hck w hs.chg0
     (refine aX Z (aG V Z Z Z (aX Z ?_)); refine aN V Z Z Z ?_; refine aX Z ?_; (iterate 3 refine aG V Z Z Z ?_); refine aO (bJ (aB (aA V Z Z (bA V Z Z Z Z (by omega) (by omega) (aA V Z Z (aF ?_)))))))
     exact hK (k + 1) _ _ (by omega) (by omega) ⟨rfl, rfl, rfl, cM rfl (by omega), cM rfl (by omega), gG rfl (by rw [ep]; simp), gG rfl (by rw [ew]; simp), gG rfl (by rw [eo]; simp), rfl, trivial⟩ (by repeat constructor)
   | false =>
    generalize oftP r c k = oP at *
    cases oP with
    | true =>
     (refine bS V Z Z Z Z Z (by repeat constructor) rfl ?_; refine aF (aD (aB (aA V Z Z (aA V Z Z ?_)))); refine aI V Z Z Z ?_; refine bA V Z Z Z Z (by omega) (by omega) (aA V Z Z (aF (aD (aB (aA V Z Z (aA V Z Z ?_)))))); refine aI V Z Z Z ?_; refine bA V Z Z Z Z (by omega) (by omega) (aA V Z Z (aF (aD (aB (aA V Z Z (aA V Z Z ?_)))))); (iterate 9 refine bE Z Z Z ?_); refine aA V Z Z (aA V Z Z (aF (aD (aB (aA V Z Z (aA V Z Z (aE Z (aA V Z Z (aE Z ?_))))))))); refine aI V Z Z Z ?_; refine aE Z (aA V Z Z (aE Z ?_)); refine aI V Z Z Z ?_; refine aE Z ?_; (iterate 3 refine aA V Z Z ?_); refine aF ?_)
     refine cQ _ [] (Sp.refl _) (by kernel_rfl) (by kernel_rfl) ?_
     (refine aG V Z Z Z (aG V Z Z Z ?_); (iterate 9 refine hG Z Z Z ?_); refine aG V Z Z Z (aG V Z Z Z (aO (bJ (aB (aA V Z Z (bA V Z Z Z Z (by omega) (by omega) (aA V Z Z (aF ?_)))))))))
     exact hK (k + 1) _ _ (by omega) (by omega) ⟨rfl, rfl, rfl, cM rfl (by omega), cM rfl (by omega), gG rfl (by rw [ep]; simp), gG rfl (by rw [ew]; simp), gG rfl (by rw [eo]; simp), rfl, trivial⟩ (by repeat constructor)
    | false =>
     (refine bS V Z Z Z Z Z (by repeat constructor) rfl ?_; refine aF (aD (aB (aA V Z Z (aA V Z Z ?_)))); refine aI V Z Z Z ?_; refine bA V Z Z Z Z (by omega) (by omega) (aA V Z Z (aF (aD (aB (aA V Z Z (aA V Z Z ?_)))))); refine aI V Z Z Z ?_; refine bA V Z Z Z Z (by omega) (by omega) (aA V Z Z (aF (aD (aB (aA V Z Z (aA V Z Z ?_)))))); (iterate 9 refine bE Z Z Z ?_); refine aA V Z Z (aA V Z Z (aF (aD (aB (aA V Z Z (aA V Z Z (aE Z (aA V Z Z (aE Z ?_))))))))); refine aI V Z Z Z ?_; refine aE Z (aA V Z Z (aE Z ?_)); refine aI V Z Z Z ?_; refine aE Z ?_; (iterate 3 refine aA V Z Z ?_); refine aF ?_)
     refine cQ _ [] (Sp.refl _) (by kernel_rfl) (by kernel_rfl) ?_
     (refine aG V Z Z Z (aG V Z Z Z (aX Z (aG V Z Z Z (aX Z (aG V Z Z Z (aX Z (aG V Z Z Z (aX Z ?_)))))))))
     refine bR V Z Z Z Z Z (by omega) (by omega) ?_
     (refine aX Z ?_)
     refine cC (v := .int .i64 i) V rfl rfl rfl (fun w hs => hca w hs.chg0) ?_
     (refine aX Z ?_)
     refine bT (val := .int .i64 (cntI c i)) V rfl rfl rfl rfl (fun w hs => ?_) ?_; exact hck w hs.chg0
     (refine aX Z (aG V Z Z Z (aX Z ?_)); refine aN V Z Z Z ?_; refine aX Z ?_; (iterate 3 refine aG V Z Z Z ?_); refine aO (bJ (aB (aA V Z Z (bA V Z Z Z Z (by omega) (by omega) (aA V Z Z (aF ?_)))))))
     exact hK (k + 1) _ _ (by omega) (by omega) ⟨rfl, rfl, rfl, cM rfl (by omega), cM rfl (by omega), gG rfl (by rw [ep]; simp), gG rfl (by rw [ew]; simp), gG rfl (by rw [eo]; simp), rfl, trivial⟩ (by repeat constructor)
  | false =>
   (refine bS V Z Z Z Z Z (by repeat constructor) rfl ?_; refine aF (aD (aB (aA V Z Z (aA V Z Z ?_)))); refine aI V Z Z Z ?_; refine bA V Z Z Z Z (by omega) (by omega) (aA V Z Z (aF (aD (aB (aA V Z Z (aA V Z Z ?_)))))); refine aI V Z Z Z ?_; refine bA V Z Z Z Z (by omega) (by omega) (aA V Z Z (aF (aD (aB (aA V Z Z (aA V Z Z (aE Z (aA V Z Z (aE Z ?_))))))))); refine aI V Z Z Z ?_; refine aE Z (aA V Z Z (aE Z (aA V Z Z (aE Z ?_)))); refine aI V Z Z Z ?_; refine aE Z (aA V Z Z (aE Z (aA V Z Z (aE Z ?_)))); refine aI V Z Z Z ?_; refine aE Z ?_)
   refine aK (val := .bool (!(wiB ln r.p0 r.p1))) V rfl rfl rfl rfl (fun w hs => ?_) ?_; exact eO ln r.p0 r.p1 w
   generalize widP s r c k = wP at *
   cases wP with
   | true =>
    generalize oftP r c k = oP at *
    cases oP with
    | true =>
     (refine aA V Z Z (aA V Z Z (aF (aD (aB (aA V Z Z (aA V Z Z ?_)))))); (iterate 5 refine bE Z Z Z ?_); refine aA V Z Z (aA V Z Z (aF ?_)))
     refine cQ _ [] (Sp.refl _) (by kernel_rfl) (by kernel_rfl) ?_
     (refine aG V Z Z Z (aG V Z Z Z ?_); (iterate 9 refine hG Z Z Z ?_); refine aG V Z Z Z (aG V Z Z Z (aO (bJ (aB (aA V Z Z (bA V Z Z Z Z (by omega) (by omega) (aA V Z Z (aF ?_)))))))))
     exact hK (k + 1) _ _ (by omega) (by omega) ⟨rfl, rfl, rfl, cM rfl (by omega), cM rfl (by omega), gG rfl (by rw [ep]; simp), gG rfl (by rw [ew]; simp), gG rfl (by rw [eo]; simp), rfl, trivial⟩ (by repeat constructor)
    | false =>
     (refine aA V Z Z (aA V Z Z (aF (aD (aB (aA V Z Z (aA V Z Z ?_)))))); (iterate 5 refine bE Z Z Z ?_); refine aA V Z Z (aA V Z Z (aF ?_)))
     refine cQ _ [] (Sp.refl _) (by kernel_rfl) (by kernel_rfl) ?_
     (refine aG V Z Z Z (aG V Z Z Z (aX Z (aG V Z Z Z (aX Z (aG V Z Z Z (aX Z (aG V Z Z Z (aX Z ?_)))))))))
     refine bR V Z Z Z Z Z (by omega) (by omega) ?_
     (refine aX Z ?_)
     refine cC (v := .int .i64 i) V rfl rfl rfl (fun w hs => hca w hs.chg0) ?_
     (refine aX Z ?_)
     refine bT (val := .int .i64 (cntI c i)) V rfl rfl rfl rfl (fun w hs => ?_) ?_; exact hck w hs.chg0
     (refine aX Z (aG V Z Z Z (aX Z ?_)); refine aN V Z Z Z ?_; refine aX Z ?_; (iterate 3 refine aG V Z Z Z ?_); refine aO (bJ (aB (aA V Z Z (bA V Z Z Z Z (by omega) (by omega) (aA V Z Z (aF ?_)))))))
     exact hK (k + 1) _ _ (by omega) (by omega) ⟨rfl, rfl, rfl, cM rfl (by omega), cM rfl (by omega), gG rfl (by rw [ep]; simp), gG rfl (by rw [ew]; simp), gG rfl (by rw [eo]; simp), rfl, trivial⟩ (by repeat constructor)
   | false =>
    generalize oftP r c k = oP at *
    cases oP with
    | true =>
     (refine aA V Z Z (aA V Z Z (aF (aD (aB (aA V Z Z (aA V Z Z (aE Z (aA V Z Z (aE Z ?_))))))))); refine aI V Z Z Z ?_; refine aE Z (aA V Z Z (aE Z ?_)); refine aI V Z Z Z ?_; refine aE Z ?_; (iterate 3 refine aA V Z Z ?_); refine aF ?_)
     refine cQ _ [] (Sp.refl _) (by kernel_rfl) (by kernel_rfl) ?_
     (refine aG V Z Z Z (aG V Z Z Z ?_); (iterate 9 refine hG Z Z Z ?_); refine aG V Z Z Z (aG V Z Z Z (aO (bJ (aB (aA V Z Z (bA V Z Z Z Z (by omega) (by omega) (aA V Z Z (aF ?_)))))))))
     exact hK (k + 1) _ _ (by omega) (by omega) ⟨rfl, rfl, rfl, cM rfl (by omega), cM rfl (by omega), gG rfl (by rw [ep]; simp), gG rfl (by rw [ew]; simp), gG rfl (by rw [eo]; simp), rfl, trivial⟩ (by repeat constructor)
    | false =>
     (refine aA V Z Z (aA V Z Z (aF (aD (aB (aA V Z Z (aA V Z Z (aE Z (aA V Z Z (aE Z ?_))))))))); refine aI V Z Z Z ?_; refine aE Z (aA V Z Z (aE Z ?_)); refine aI V Z Z Z ?_; refine aE Z ?_; (iterate 3 refine aA V Z Z ?_); refine aF ?_)
     refine cQ _ [] (Sp.refl _) (by kernel_rfl) (by kernel_rfl) ?_
     (refine aG V Z Z Z (aG V Z Z Z (aX Z (aG V Z Z Z (aX Z (aG V Z Z Z (aX Z (aG V Z Z Z (aX Z ?_)))))))))
     refine bR V Z Z Z Z Z (by omega) (by omega) ?_
     (refine aX Z ?_)
     refine cC (v := .int .i64 i) V rfl rfl rfl (fun w hs => hca w hs.chg0) ?_
     (refine aX Z ?_)
     refine bT (val := .int .i64 (cntI c i)) V rfl rfl rfl rfl (fun w hs => ?_) ?_; exact hck w hs.chg0
     (refine aX Z (aG V Z Z Z (aX Z ?_)); refine aN V Z Z Z ?_; refine aX Z ?_; (iterate 3 refine aG V Z Z Z ?_); refine aO (bJ (aB (aA V Z Z (bA V Z Z Z Z (by omega) (by omega) (aA V Z Z (aF ?_)))))))
     exact hK (k + 1) _ _ (by omega) (by omega) ⟨rfl, rfl, rfl, cM rfl (by omega), cM rfl (by omega), gG rfl (by rw [ep]; simp), gG rfl (by rw [ew]; simp), gG rfl (by rw [eo]; simp), rfl, trivial⟩ (by repeat constructor)
 ·obtain rfl : k = c.length := by omega
  clear hc hK
  have e1 : lenP s c c.length = lenS s c := by unfold lenP; rw [List.take_length]; rfl
  have e2 : clbP s c c.length = clbS s c := by unfold clbP; rw [List.take_length]; rfl
  have e3 : lapP s r c c.length = lapB s r c := by unfold lapP; rw [List.take_length]; rfl
  have e4 : widP s r c c.length = widB s r c := by unfold widP; rw [List.take_length]; rfl
  have e5 : oftP r c c.length = oftB r c := by unfold oftP; rw [List.take_length, oftB_eq r c (by omega)]
  rw [e1, e2, e3, e4, e5]
  have eB : eZ s r c = cW [!wiB (lenS s c) r.g0 r.g1, !wiB (clbS s c) r.c0 r.c1, lapB s r c, widB s r c, oftB r c] 0 := rfl
  rw [eB]
  refine eD (H' := [.ow (.slice none 0 0) 3 1 (cW [] 0).length (aP (cW [] 0)), .pt b4 (rlC r) 88]) (fun w' hs => Sat.ownil hs 3 1) ?_
  generalize hB2 : lapB s r c = B2
  generalize hB3 : widB s r c = B3
  generalize hB4 : oftB r c = B4
  clear hB2 hB3 hB4
  (refine bO _ rfl (aD (aB (aA V Z Z (aF (aD (aD (aB ?_))))))); (iterate 3 refine aA V Z Z ?_); refine aI V Z Z Z ?_; refine aA V Z Z (aA V Z Z ?_); refine aI V Z Z Z ?_)
  refine aK (val := .bool (!(wiB (lenS s c) r.g0 r.g1))) V rfl rfl rfl rfl (fun w hs => ?_) ?_; exact eO (lenS s c) r.g0 r.g1 w
  generalize (!wiB (lenS s c) r.g0 r.g1) = B0
  (refine aF ?_)
  refine jP (σ := Value) (fun u => [(4, .pointer (some ⟨b4, 0, none⟩)), (7, .int .i64 (lenS s c)), (8, .int .i64 (clbS s c)), (9, .bool B2), (10, .bool B3), (11, .bool B4), (14, u)]) (fun u => [.ow u 3 1 (cW [B0] 0).length (aP (cW [B0] 0)), .pt b4 (rlC r) 88]) ?_ (fun K2 hK2 => ?_)
  rotate_left
  ·have hml := gU [] 0
   simp only [List.length_cons, List.length_nil] at hml
   cases B0 with
   | true =>
    (refine aL Z (aB (aA V Z Z ?_)))
    refine cJ 3 [.int .i64 0] rfl (by kernel_rfl) rfl (fun c0 => ?_)
    refine bZ (q := 1) slI rfl rfl rfl (fun v' => by repeat constructor) (fun w' hs => ⟨_, _, Blk.rd (hs.blk (b := c0) (by repeat constructor)) rfl 1⟩) (by simp [cU]) (by omega) (by omega) (fun u0 => ?_)
    rw [show aP (cW [] 0) ++ [.int .i64 0] = aP (cW [true] 0) by rw [show [true] = [] ++ [true] from rfl, cV]; simp [aP], show (cW [] 0).length + 1 = (cW [true] 0).length by rw [show [true] = [] ++ [true] from rfl, cV]; simp]
    (refine aA V Z Z (aF ?_))
    exact hK2 u0 _ _ ⟨rfl, rfl, rfl, rfl, rfl, rfl, rfl, trivial⟩ (by repeat constructor)
   | false =>
    have e : cW [false] 0 = cW [] 0 := by rw [show [false] = [] ++ [false] from rfl, cV]; simp
    (refine aH Z (aM ?_))
    exact hK2 (.slice none 0 0) _ _ ⟨rfl, rfl, rfl, rfl, rfl, rfl, rfl, trivial⟩ (by rw [e]; repeat constructor)
  rintro u0
  (refine aD (aD (aB ?_)); (iterate 3 refine aA V Z Z ?_); refine aI V Z Z Z ?_; refine aA V Z Z (aA V Z Z ?_); refine aI V Z Z Z ?_)
  refine aK (val := .bool (!(wiB (clbS s c) r.c0 r.c1))) V rfl rfl rfl rfl (fun w hs => ?_) ?_; exact eO (clbS s c) r.c0 r.c1 w
  generalize (!wiB (clbS s c) r.c0 r.c1) = B1
  (refine aF ?_)
  refine jP (σ := Value) (fun u => [(4, .pointer (some ⟨b4, 0, none⟩)), (7, .int .i64 (lenS s c)), (8, .int .i64 (clbS s c)), (9, .bool B2), (10, .bool B3), (11, .bool B4), (14, u)]) (fun u => [.ow u 3 1 (cW [B0, B1] 0).length (aP (cW [B0, B1] 0)), .pt b4 (rlC r) 88]) ?_ (fun K2 hK2 => ?_)
  rotate_left
  ·have hml := gU [B0] 0
   simp only [List.length_cons, List.length_nil] at hml
   cases B1 with
   | true =>
    (refine aL Z (aB (aA V Z Z ?_)))
    refine cJ 3 [.int .i64 1] rfl (by kernel_rfl) rfl (fun c0 => ?_)
    refine bZ (q := 1) slI rfl rfl rfl (fun v' => by repeat constructor) (fun w' hs => ⟨_, _, Blk.rd (hs.blk (b := c0) (by repeat constructor)) rfl 1⟩) (by simp [cU]) (by omega) (by omega) (fun u0 => ?_)
    rw [show aP (cW [B0] 0) ++ [.int .i64 1] = aP (cW [B0, true] 0) by rw [show [B0, true] = [B0] ++ [true] from rfl, cV]; simp [aP], show (cW [B0] 0).length + 1 = (cW [B0, true] 0).length by rw [show [B0, true] = [B0] ++ [true] from rfl, cV]; simp]
    (refine aA V Z Z (aF ?_))
    exact hK2 u0 _ _ ⟨rfl, rfl, rfl, rfl, rfl, rfl, rfl, trivial⟩ (by repeat constructor)
   | false =>
    have e : cW [B0, false] 0 = cW [B0] 0 := by rw [show [B0, false] = [B0] ++ [false] from rfl, cV]; simp
    (refine aH Z (aM ?_))
    exact hK2 (u0) _ _ ⟨rfl, rfl, rfl, rfl, rfl, rfl, rfl, trivial⟩ (by rw [e]; repeat constructor)
  rintro u1
  (refine aD (aD (aB (aA V Z Z (aF ?_)))))
  refine jP (σ := Value) (fun u => [(4, .pointer (some ⟨b4, 0, none⟩)), (7, .int .i64 (lenS s c)), (8, .int .i64 (clbS s c)), (9, .bool B2), (10, .bool B3), (11, .bool B4), (14, u)]) (fun u => [.ow u 3 1 (cW [B0, B1, B2] 0).length (aP (cW [B0, B1, B2] 0)), .pt b4 (rlC r) 88]) ?_ (fun K2 hK2 => ?_)
  rotate_left
  ·have hml := gU [B0, B1] 0
   simp only [List.length_cons, List.length_nil] at hml
   cases B2 with
   | true =>
    (refine aL Z (aB (aA V Z Z ?_)))
    refine cJ 3 [.int .i64 2] rfl (by kernel_rfl) rfl (fun c0 => ?_)
    refine bZ (q := 1) slI rfl rfl rfl (fun v' => by repeat constructor) (fun w' hs => ⟨_, _, Blk.rd (hs.blk (b := c0) (by repeat constructor)) rfl 1⟩) (by simp [cU]) (by omega) (by omega) (fun u0 => ?_)
    rw [show aP (cW [B0, B1] 0) ++ [.int .i64 2] = aP (cW [B0, B1, true] 0) by rw [show [B0, B1, true] = [B0, B1] ++ [true] from rfl, cV]; simp [aP], show (cW [B0, B1] 0).length + 1 = (cW [B0, B1, true] 0).length by rw [show [B0, B1, true] = [B0, B1] ++ [true] from rfl, cV]; simp]
    (refine aA V Z Z (aF ?_))
    exact hK2 u0 _ _ ⟨rfl, rfl, rfl, rfl, rfl, rfl, rfl, trivial⟩ (by repeat constructor)
   | false =>
    have e : cW [B0, B1, false] 0 = cW [B0, B1] 0 := by rw [show [B0, B1, false] = [B0, B1] ++ [false] from rfl, cV]; simp
    (refine aH Z (aM ?_))
    exact hK2 (u1) _ _ ⟨rfl, rfl, rfl, rfl, rfl, rfl, rfl, trivial⟩ (by rw [e]; repeat constructor)
  rintro u2
  (refine aD (aD (aB (aA V Z Z (aF ?_)))))
  refine jP (σ := Value) (fun u => [(4, .pointer (some ⟨b4, 0, none⟩)), (7, .int .i64 (lenS s c)), (8, .int .i64 (clbS s c)), (9, .bool B2), (10, .bool B3), (11, .bool B4), (14, u)]) (fun u => [.ow u 3 1 (cW [B0, B1, B2, B3] 0).length (aP (cW [B0, B1, B2, B3] 0)), .pt b4 (rlC r) 88]) ?_ (fun K2 hK2 => ?_)
  rotate_left
  ·have hml := gU [B0, B1, B2] 0
   simp only [List.length_cons, List.length_nil] at hml
   cases B3 with
   | true =>
    (refine aL Z (aB (aA V Z Z ?_)))
    refine cJ 3 [.int .i64 3] rfl (by kernel_rfl) rfl (fun c0 => ?_)
    refine bZ (q := 1) slI rfl rfl rfl (fun v' => by repeat constructor) (fun w' hs => ⟨_, _, Blk.rd (hs.blk (b := c0) (by repeat constructor)) rfl 1⟩) (by simp [cU]) (by omega) (by omega) (fun u0 => ?_)
    rw [show aP (cW [B0, B1, B2] 0) ++ [.int .i64 3] = aP (cW [B0, B1, B2, true] 0) by rw [show [B0, B1, B2, true] = [B0, B1, B2] ++ [true] from rfl, cV]; simp [aP], show (cW [B0, B1, B2] 0).length + 1 = (cW [B0, B1, B2, true] 0).length by rw [show [B0, B1, B2, true] = [B0, B1, B2] ++ [true] from rfl, cV]; simp]
    (refine aA V Z Z (aF ?_))
    exact hK2 u0 _ _ ⟨rfl, rfl, rfl, rfl, rfl, rfl, rfl, trivial⟩ (by repeat constructor)
   | false =>
    have e : cW [B0, B1, B2, false] 0 = cW [B0, B1, B2] 0 := by rw [show [B0, B1, B2, false] = [B0, B1, B2] ++ [false] from rfl, cV]; simp
    (refine aH Z (aM ?_))
    exact hK2 (u2) _ _ ⟨rfl, rfl, rfl, rfl, rfl, rfl, rfl, trivial⟩ (by rw [e]; repeat constructor)
  rintro u3
  (refine aD (aD (aB (aA V Z Z (aF ?_)))))
  refine jP (σ := Value) (fun u => [(4, .pointer (some ⟨b4, 0, none⟩)), (7, .int .i64 (lenS s c)), (8, .int .i64 (clbS s c)), (9, .bool B2), (10, .bool B3), (11, .bool B4), (14, u)]) (fun u => [.ow u 3 1 (cW [B0, B1, B2, B3, B4] 0).length (aP (cW [B0, B1, B2, B3, B4] 0)), .pt b4 (rlC r) 88]) ?_ (fun K2 hK2 => ?_)
  rotate_left
  ·have hml := gU [B0, B1, B2, B3] 0
   simp only [List.length_cons, List.length_nil] at hml
   cases B4 with
   | true =>
    (refine aL Z (aB (aA V Z Z ?_)))
    refine cJ 3 [.int .i64 4] rfl (by kernel_rfl) rfl (fun c0 => ?_)
    refine bZ (q := 1) slI rfl rfl rfl (fun v' => by repeat constructor) (fun w' hs => ⟨_, _, Blk.rd (hs.blk (b := c0) (by repeat constructor)) rfl 1⟩) (by simp [cU]) (by omega) (by omega) (fun u0 => ?_)
    rw [show aP (cW [B0, B1, B2, B3] 0) ++ [.int .i64 4] = aP (cW [B0, B1, B2, B3, true] 0) by rw [show [B0, B1, B2, B3, true] = [B0, B1, B2, B3] ++ [true] from rfl, cV]; simp [aP], show (cW [B0, B1, B2, B3] 0).length + 1 = (cW [B0, B1, B2, B3, true] 0).length by rw [show [B0, B1, B2, B3, true] = [B0, B1, B2, B3] ++ [true] from rfl, cV]; simp]
    (refine aA V Z Z (aF ?_))
    exact hK2 u0 _ _ ⟨rfl, rfl, rfl, rfl, rfl, rfl, rfl, trivial⟩ (by repeat constructor)
   | false =>
    have e : cW [B0, B1, B2, B3, false] 0 = cW [B0, B1, B2, B3] 0 := by rw [show [B0, B1, B2, B3, false] = [B0, B1, B2, B3] ++ [false] from rfl, cV]; simp
    (refine aH Z (aM ?_))
    exact hK2 (u3) _ _ ⟨rfl, rfl, rfl, rfl, rfl, rfl, rfl, trivial⟩ (by rw [e]; repeat constructor)
  rintro u4
  (refine aD (aB (aA V Z Z (aA V Z Z (aF (aS ?_))))))
  refine aU V Z (by repeat constructor) fun w hs => ?_
  exact ⟨_, rfl, hs.sp (by repeat constructor)⟩
end Go.Proofs.YtgeajgmefokifaaGreat

/- Walk of the reference: all lists of laps. -/
namespace Go.Proofs.YtgeajgmefokifaaGreat
open Go Go.Eng

theorem set_pre {pre L : List Value} {i : Nat} {v : Value} (h : pre.length = i + 1) : (pre ++ L).set i v = pre.take i ++ (v :: L) := by
 rw [List.set_append_left _ _ (by omega), List.set_eq_take_append_cons_drop, if_pos (by omega), List.drop_eq_nil_of_le (by omega)]
 simp
/-- The lists that are found among the first numbers. -/
def foundL (n laps m : Nat) : List (List Int) := ((List.range m).map (digL n laps)).filter (fun c => decide (listedV n c = 0))
theorem foundL_succ (n laps m : Nat) : foundL n laps (m + 1) = foundL n laps m ++ if listedV n (digL n laps m) = 0 then [digL n laps m] else [] := by
 unfold foundL
 rw [List.range_succ, List.map_append, List.filter_append]
 congr 1
 simp only [List.map_cons, List.map_nil, List.filter_cons, List.filter_nil, decide_eq_true_eq]
theorem foundL_le (n laps m : Nat) : (foundL n laps m).length ≤ m := by
 have := List.length_filter_le (fun c => decide (listedV n c = 0)) ((List.range m).map (digL n laps))
 simpa [foundL] using this
theorem pow_le {n laps : Nat} (hn : n ≤ 12) (hl : laps ≤ 6) : n ^ laps ≤ 2985984 :=
 Nat.le_trans (Nat.pow_le_pow_left hn laps) (Nat.pow_le_pow_right (by omega) hl)
set_option maxHeartbeats 8000000 in
theorem rcourses_ca (w : World) (a : Option Addr) (n cp laps : Nat) (hn1 : 1 ≤ n) (hn : n ≤ 12) (hl1 : 1 ≤ laps) (hl : laps ≤ 6) :
  Ca Tryz.prog 104 [.slice a n cp, .int .i64 laps] w fun x w' => ∃ y : Value × List (Value × List Int), (x = y.1 ∧ y.2.map (·.2) = coursesL n laps) ∧ Sat w M0 (lsK y.1 y.2) w' := by
 refine cS (Sat.nil w M0) Tryz.func104 rfl (by simp [Tryz.ntmps104]) ?_
 have hN := pow_le hn hl
 (refine aD (aB (aA V Z Z (aF (aD (aB (aA V Z Z (aF (aD (aD (aB (aA V Z Z ?_))))))))))); refine aF (aQ ?_))
 refine cB (σ := Nat × Nat) (fun s => s.1 ≤ laps ∧ s.2 = n ^ s.1) (fun s => laps - s.1) (fun s => [(0, .slice a n cp), (1, .int .i64 laps), (5, .int .i64 s.2), (6, .int .i64 s.1)]) (fun _ => []) (0, 1) ⟨by simp, by simp⟩ ⟨rfl, rfl, rfl, rfl, trivial⟩ (by repeat constructor) ?_
 rintro ⟨j, A⟩ ⟨hj, hA⟩ K hK
 simp only at hj hA
 dsimp only
 (refine aD (aD (aB ?_)); (iterate 3 refine aA V Z Z ?_); refine aF ?_)
 refine dL Z (fun hc => ?_) (fun hc => ?_)
 ·have hj2 : j < laps := by first | omega | (simp at hc; omega)
  clear hc
  have hA2 : A * n = n ^ (j + 1) := by rw [hA, Nat.pow_succ]
  have hle := pow_le (laps := j + 1) hn (by omega)
  have hm : (A : Int) * (n : Int) = ((n ^ (j + 1) : Nat) : Int) := by rw [← hA2]; simp
  rw [← hA2] at hle
  have hm2 : 0 ≤ (A : Int) * (n : Int) ∧ (A : Int) * (n : Int) ≤ 2985984 := by rw [hm, ← hA2]; omega
  (refine aM (aD (aQ (aB ?_))); (iterate 3 refine aA V Z Z ?_); refine bA V Z Z Z Z (by omega) (by omega) (aA V Z Z (aF (bJ (aB (aA V Z Z (bA V Z Z Z Z (by omega) (by omega) (aA V Z Z (aF ?_)))))))))
  exact hK (j + 1, n ^ (j + 1)) _ _ ⟨by simp only; omega, rfl⟩ (by simp only; omega) ⟨rfl, rfl, cM rfl hm, rfl, trivial⟩ (by repeat constructor)
 obtain rfl : j = laps := by first | omega | (simp at hc; omega)
 clear hK hc
 rw [← hA] at hN
 (refine bO _ rfl (aD (aB (aA V Z Z (aF (aD (aD (aB (aA V Z Z (aF (aQ ?_)))))))))))
 refine eD (H' := lsK (.slice none 0 0) []) (fun w' hs => (Sat.un_nil (Sat.ownil hs 22 1)).sp (by repeat constructor)) ?_
 refine cB (σ := Nat × Value × List (Value × List Int)) (fun s => s.1 ≤ A ∧ s.2.2.map (·.2) = foundL n j s.1) (fun s => A - s.1) (fun s => [(0, .slice a n cp), (1, .int .i64 j), (5, .int .i64 A), (7, s.2.1), (8, .int .i64 s.1)])
  (fun s => lsK s.2.1 s.2.2) (0, .slice none 0 0, []) ⟨by simp, by simp [foundL]⟩ ⟨rfl, rfl, rfl, rfl, rfl, trivial⟩ (by repeat constructor) ?_
 rintro ⟨m, v, xs⟩ ⟨hm, hI⟩ K hK
 simp only at hm hI
 dsimp only
 have hxl : xs.length ≤ m := by have := congrArg List.length hI; rw [List.length_map] at this; have h2 := foundL_le n j m; omega
 (refine aD (aD (aB ?_)); (iterate 3 refine aA V Z Z ?_); refine aF ?_)
 refine dL Z (fun hc => ?_) (fun hc => ?_)
 ·have hm2 : m < A := by first | omega | (simp at hc; omega)
  clear hc
  have eF := foundL_succ n j m
  (refine aM (aD (aQ (aD (aB (aA V Z Z ?_))))))
  refine ql_makeR (m := j) slI rfl rfl rfl (by omega) (by omega) (by omega) (fun b cs hcs => ?_)
  refine lD (H' := .ow (.slice (some ⟨b, 0, none⟩) j j) 3 1 j cs :: lsK v xs) (fun w' hs => Sat.pt_ow (t := 3) (sz := 1) (m := j) (by omega) (by omega) hs) ?_
  (refine aA V Z Z (aF (aD (aB (aA V Z Z (aA V Z Z (aF (aD (aD (aB (aA V Z Z (bA V Z Z Z Z (by omega) (by omega) ?_))))))))))); refine aA V Z Z (aF (aQ ?_)))
  refine cB (σ := Nat × Nat × List Value) (fun s => s.1 ≤ j ∧ s.2.1 = m / n ^ s.1 ∧ s.2.2.length + s.1 = j) (fun s => j - s.1) (fun s => [(0, .slice a n cp), (1, .int .i64 j), (5, .int .i64 A), (7, v), (8, .int .i64 m), (9, .slice (some ⟨b, 0, none⟩) j j), (10, .int .i64 s.2.1), (11, .int .i64 ((j : Int) - 1 - s.1))])
   (fun s => .ow (.slice (some ⟨b, 0, none⟩) j j) 3 1 j (s.2.2 ++ aP (digL n s.1 m)) :: lsK v xs) (0, m, cs) ⟨by simp, by simp, by simp only; omega⟩ ⟨rfl, rfl, rfl, rfl, rfl, rfl, rfl, cM rfl (by simp), trivial⟩ (by simp only [digL, aP, List.map_nil, List.append_nil]; repeat constructor) ?_
  rintro ⟨i, R, pre⟩ ⟨hi, hR, hp⟩ K2 hK2
  simp only at hi hR hp
  dsimp only
  have hR1 : R ≤ m := by rw [hR]; exact Nat.div_le_self _ _
  (refine aD (aD (aB (aA V Z Z (aA V Z Z (aF ?_))))))
  refine dL Z (fun hc => ?_) (fun hc => ?_)
  ·have hi2 : i < j := by first | omega | (simp at hc; omega)
   clear hc
   have er : (R : Int) % (n : Int) = ((m / n ^ i % n : Nat) : Int) := by rw [← hR]; simp
   have eq : (R : Int) / (n : Int) = ((m / n ^ (i + 1) : Nat) : Int) := by rw [Nat.pow_succ, ← Nat.div_div_eq_div_mul, ← hR]; simp
   have hdl := kT n i m
   (refine aM (aD (aQ (aD (aB ?_)))); (iterate 5 refine aA V Z Z ?_); refine dD Z Z Z (by omega) (by omega) ?_)
   refine aV V Z Z Z Z Z (by omega) (by omega) ?_
   refine dX V (j - 1 - i) rfl rfl rfl rfl (by repeat constructor) (by omega) (by rw [List.length_append, List.length_map]; omega) ?_
   rw [set_pre (by omega), er]
   (refine aF (aB ?_); (iterate 3 refine aA V Z Z ?_); refine fS Z Z Z (by omega) (by omega) (by omega) (aA V Z Z (aF (bJ (aB (aA V Z Z (bA V Z Z Z Z (by omega) (by omega) (aA V Z Z (aF ?_)))))))))
   exact hK2 (i + 1, m / n ^ (i + 1), pre.take (j - 1 - i)) _ _ ⟨by simp only; omega, rfl, by simp only [List.length_take]; omega⟩ (by simp only; omega) ⟨rfl, rfl, rfl, rfl, rfl, rfl, cM rfl eq, cM rfl (by simp only; omega), trivial⟩ (by dsimp only; rw [show aP (digL n (i + 1) m) = .int .i64 ((m / n ^ i % n : Nat) : Int) :: aP (digL n i m) from rfl]; repeat constructor)
  ·obtain rfl : i = j := by first | omega | (simp at hc; omega)
   obtain rfl : pre = [] := List.eq_nil_of_length_eq_zero (by omega)
   clear hc hK2
   rw [List.nil_append]
   have hdl := kT n i m
   generalize digL n i m = c at *
   (refine bO _ rfl (aD (aB (aA V Z Z (aA V Z Z ?_)))))
   refine aK (val := .int .i64 (listedV n c)) V rfl rfl rfl rfl (fun w hs => ?_) ?_; exact jX w 0 w.heap.size a n cp _ c (hs.rdI (by repeat constructor) hdl.symm) (by omega) (by omega)
   by_cases h0 : listedV n c = 0
   ·rw [if_pos h0] at eF
    (refine cO V Z Z Z (by omega) (aF (aL Z (aB (aA V Z Z (aA V Z Z ?_))))))
    refine cJ 22 [.slice (some ⟨b, 0, none⟩) i i] rfl (by kernel_rfl) rfl (fun bn => ?_)
    refine bZ (q := 1) slII rfl rfl rfl (fun v' => by repeat constructor) (fun w' hs => ⟨_, _, Blk.rd (hs.blk (b := bn) (by repeat constructor)) rfl 1⟩) (by simp [cU]) (by omega) (by omega) (fun v2 => ?_)
    (refine aA V Z Z (aF (bJ (aB (aA V Z Z (bA V Z Z Z Z (by omega) (by omega) (aA V Z Z (aF ?_))))))))
    refine eD (H' := lsK v2 (xs ++ [(.slice (some ⟨b, 0, none⟩) i i, c)])) (fun w' hs => by
     have h1 : Sat _ _ (lsK v2 (xs ++ [(.slice (some ⟨b, 0, none⟩) i i, c)]) ++ []) w' := rows_add (by rw [hdl]; exact hs.sp (by repeat constructor))
     exact h1.sp (by repeat constructor)) ?_
    exact hK (m + 1, v2, xs ++ [(.slice (some ⟨b, 0, none⟩) i i, c)]) _ _ ⟨by simp only; omega, by simp only; rw [List.map_append, hI, eF]; rfl⟩ (by simp only; omega) ⟨rfl, rfl, rfl, rfl, rfl, trivial⟩ (by repeat constructor)
   ·rw [if_neg h0, List.append_nil] at eF
    (refine fP V Z Z Z (by omega) (aF (aH Z (aM (bJ (aB (aA V Z Z (bA V Z Z Z Z (by omega) (by omega) (aA V Z Z (aF ?_))))))))))
    exact hK (m + 1, v, xs) _ _ ⟨by simp only; omega, by simp only; rw [eF]; exact hI⟩ (by simp only; omega) ⟨rfl, rfl, rfl, rfl, rfl, trivial⟩ (by repeat constructor)
 ·obtain rfl : m = A := by first | omega | (simp at hc; omega)
  clear hc hK
  (refine bO _ rfl (aD (aB (aA V Z Z (aA V Z Z (aF (aS ?_)))))))
  refine aU V Z (by repeat constructor) fun w hs => ?_
  exact ⟨(v, xs), ⟨rfl, by simp only; rw [hI, hA]; exact ref_courses (by omega) (by omega)⟩, hs⟩
end Go.Proofs.YtgeajgmefokifaaGreat

/- Walks of the reference: all right courses. -/
namespace Go.Proofs.YtgeajgmefokifaaGreat
open Go Go.Eng

section
variable {w0 w : World} {M : Nat → Prop} {H : List Ck} {t t2 : TypeId} {xs : List (Value × List Int)} {u : Value} {c : List Int}
theorem sat_sub {H' : List Ck} (h : Sat w0 M H w) (hs : H'.Sublist H) : Sat w0 M H' w := ⟨h.chg, fun x hx => h.all x (hs.subset hx), h.sep.sublist hs, fun x hx => h.bd x (hs.subset hx)⟩
theorem un_sub {L L' R : List Ck} (h : Sat w0 M (un L :: R) w) (hs : L'.Sublist L) : Sat w0 M (un L' :: R) w := Sat.un_iff.2 (sat_sub (Sat.un_iff.1 h) (hs.append_right R))
theorem ls_mem (hs : Sat w0 M H w) (hu : un (gC t xs) ∈ H) (hm : (u, c) ∈ xs) : w.ownsRow 0 t 1 u c.length (aP c) := hs.un_mem (c := .ow u t 1 c.length (aP c)) hu (List.mem_map.2 ⟨_, hm, rfl⟩)
theorem ls_rd (hs : Sat w0 M H w) (hu : un (gC t xs) ∈ H) (hm : (u, c) ∈ xs) : RdI w 0 w.heap.size u c := own_rdI (ls_mem hs hu hm) rfl
theorem own_slice2 {e sz n : Nat} {v : Value} {ys : List Value} (h1 : w.ownsRow 0 e sz v n ys) : ∃ a d, v = .slice a n d := by
 rcases h1.2 with ⟨rfl, rfl, _⟩ | ⟨g, cap, cur, rfl, _⟩
 ·exact ⟨_, _, rfl⟩
 ·exact ⟨_, _, rfl⟩
theorem kK (hs : Sat w0 M H w) (hu : un (gC t xs) ∈ H) (hm : (u, c) ∈ xs) : ∃ a d, u = .slice a c.length d := own_slice2 (ls_mem hs hu hm)
theorem gO {g n cp : Nat} (hs : Sat w0 M H w) (hv : .ow (.slice (some ⟨g, 0, none⟩) n cp) t2 1 n (xs.map (·.1)) ∈ H) {i : Nat} (hi : i < xs.length) (hx : xs[i] = (u, c)) : w.cell? ⟨g, 0 + i * 1, none⟩ = some u := by
 have := own_cell (hs.mem hv) i (by simpa using hi)
 rw [show 0 + i * 1 = i by omega]
 simpa [hx] using this
theorem ls_rdII (hs : Sat w0 M H w) {v : Value} {n : Nat} (hu : un (gC t xs) ∈ H) (hv : .ow v t2 1 n (xs.map (·.1)) ∈ H) : RdII w 0 w.heap.size v (xs.map (·.2)) := rowsO_rd (hs.mem hu) (hs.mem hv)
end
theorem filter_take (p : Value × List Int → Bool) (xs : List (Value × List Int)) {i : Nat} (hi : i < xs.length) : (xs.take (i + 1)).filter p = (xs.take i).filter p ++ if p xs[i] then [xs[i]] else [] := by
 rw [List.take_succ_eq_append_getElem hi, List.filter_append]
 congr 1
 simp [List.filter_cons]
theorem filter_map2 (p : List Int → Bool) (xs : List (Value × List Int)) : (xs.filter (fun q => p q.2)).map (·.2) = (xs.map (·.2)).filter p := by
 rw [List.filter_map]
 rfl
theorem kX {w0 w : World} {M : Nat → Prop} {v : Value} {xs : List (Value × List Int)} {R : List Ck} {t : TypeId} (p : Value × List Int → Bool) (h : Sat w0 M (.ow v t 1 (xs.filter p).length ((xs.filter p).map (·.1)) :: un (gC 3 xs) :: R) w) :
  Sat w0 M (.ow v t 1 (xs.filter p).length ((xs.filter p).map (·.1)) :: un (gC 3 (xs.filter p)) :: R) w := by
 have h1 : Sat w0 M (un (gC 3 xs) :: .ow v t 1 (xs.filter p).length ((xs.filter p).map (·.1)) :: R) w := h.perm (.swap _ _ _)
 exact (un_sub h1 (List.filter_sublist.map _)).perm (.swap _ _ _)
set_option maxHeartbeats 8000000 in
theorem mJ (w : World) (lo hi : Nat) (a : Option Addr) (cp : Nat) (s : List Lp) (r : Rl) (h : RdL w lo hi (.slice a s.length cp) s) (hcr : CR s r) :
  Ca Tryz.prog 102 [.slice a s.length cp, .agg (rlC r).toArray] w fun x w' => ∃ y : Value × List (Value × List Int), (x = y.1 ∧ y.2.map (·.2) = jY s r) ∧ Sat w M0 (lsK y.1 y.2) w' := by
 have hn1 := hcr.s.n1
 have hn2 := hcr.s.n2
 have hla := hcr.r.laps
 obtain ⟨L, hL⟩ : ∃ L : Nat, (L : Int) = r.laps := ⟨r.laps.toNat, by omega⟩
 have hnl : nL r = L := by unfold nL; omega
 have hcl := iG s.length L hn2 (by omega)
 refine cS (Sat.nil w M0) Tryz.func102 rfl (by simp [Tryz.ntmps102]) ?_
 (refine aD (aB ?_))
 refine bD Z Z (fun b3 => ?_)
 (refine aA V Z Z (aF (aD (aB (aA V Z Z (aA V Z Z (aI V Z Z Z ?_)))))))
 refine bG (β := Value × List (Value × List Int)) V [] _ M0 rfl rfl rfl rfl (Sp.refl _) (fun _ h => h.elim) (fun w' hs => by rw [← hL]; exact rcourses_ca w' a s.length cp L (by omega) (by omega) (by omega) (by omega)) ?_
 rintro ⟨_, xs⟩ v0 ⟨rfl, hI⟩
 dsimp only [lsK, List.cons_append, List.nil_append] at hI ⊢
 have hxl : xs.length ≤ 2985984 := by have := congrArg List.length hI; rw [List.length_map] at this; omega
 have eA : (xs.filter (fun q => dZ s r q.2)).map (·.2) = jY s r := by rw [filter_map2, hI, jY, hnl]
 refine bL (fun w hs => hs.slice2 (v := v0) (by repeat constructor)) ?_
 rintro ⟨va, vc, rfl⟩
 (refine aA V Z Z (aF (aD (aB (aA V Z Z (aF (aD (aD (aB (aA V Z Z (aF (aQ ?_))))))))))))
 refine eD (H' := [.ow (.slice none 0 0) 22 1 0 [], .ow (.slice va xs.length vc) 22 1 xs.length (xs.map (·.1)), un (gC 3 xs), .pt b3 (rlC r) 88]) (fun w' hs => Sat.ownil hs 22 1) ?_
 refine cB (σ := Nat × Value) (fun s => s.1 ≤ xs.length) (fun s => xs.length - s.1) (fun q => [(0, .slice a s.length cp), (3, .pointer (some ⟨b3, 0, none⟩)), (5, .slice va xs.length vc), (6, q.2), (7, .int .i64 q.1)])
  (fun q => [.ow q.2 22 1 ((xs.take q.1).filter (fun q => dZ s r q.2)).length (((xs.take q.1).filter (fun q => dZ s r q.2)).map (·.1)), .ow (.slice va xs.length vc) 22 1 xs.length (xs.map (·.1)), un (gC 3 xs), .pt b3 (rlC r) 88]) (0, .slice none 0 0) (by simp) ⟨rfl, rfl, rfl, rfl, rfl, trivial⟩ (by repeat constructor) ?_
 rintro ⟨i, v⟩ hik K hK
 simp only at hik
 dsimp only
 (refine aD (aD (aB ?_)); (iterate 4 refine aA V Z Z ?_); refine aF ?_)
 refine dL Z (fun hc => ?_) (fun hc => ?_)
 ·have hi2 : i < xs.length := by omega
  clear hc
  have eF := filter_take (fun q => dZ s r q.2) xs hi2
  have hmem : xs[i] ∈ xs := List.getElem_mem hi2
  have hfl : ((xs.take i).filter (fun q => dZ s r q.2)).length ≤ i := by have h1 := List.length_filter_le (fun q : Value × List Int => dZ s r q.2) (xs.take i); rw [List.length_take] at h1; omega
  generalize hx : xs[i] = p at *
  obtain ⟨u, c⟩ := p
  dsimp only at eF
  have hcm : c ∈ coursesL s.length L := by rw [← hI]; exact List.mem_map.2 ⟨_, hmem, rfl⟩
  obtain ⟨m1, m2, m3⟩ := eU.1 hcm
  refine cX (fun w hs => hs.ownSome (v := .slice va xs.length vc) (by repeat constructor) (by omega)) ?_
  rintro ⟨g0, d0, e⟩
  cases e
  refine cX (fun w hs => kK hs (xs := xs) (t := 3) (by repeat constructor) hmem) ?_
  rintro ⟨ua, uc, rfl⟩
  (refine aM (aD (aQ (aD ?_))))
  refine cQ _ [] (Sp.refl _) (by kernel_rfl) (by kernel_rfl) ?_
  (refine aG V Z Z Z (aZ V Z Z Z (aG V Z Z Z (aG V Z Z Z ?_))))
  refine bR V Z Z Z Z Z (by omega) (by omega) ?_
  refine cC (v := .slice ua c.length uc) V rfl rfl rfl (fun w hs => gO hs (by repeat constructor) hi2 hx) ?_
  skip
  refine bH (β := Value) V [] _ M0 rfl rfl rfl rfl (Sp.refl _) (fun _ h => h.elim) (fun w' hs => iK w' lo hi 0 w'.heap.size a cp _ s r c (RdE.keep h hs.chg0) hcr (ls_rd hs (xs := xs) (t := 3) (by repeat constructor) hmem) m2 (by omega)) ?_
  rintro _ u0 rfl
  dsimp only [List.cons_append, List.nil_append]
  refine bX (fun w hs => hs.slice2 (v := u0) (by repeat constructor)) ?_
  rintro ⟨za, zc, rfl⟩
  have hrb := rightB_iff s r c
  by_cases hz : eZ s r c = []
  ·rw [if_pos (hrb.2 hz)] at eF
   rw [hz]
   (refine aG V Z Z Z (aG V Z Z Z (aO (aL Z (aB ?_)))); (iterate 3 refine aA V Z Z ?_))
   refine aV V Z Z Z Z Z (by omega) (by omega) ?_
   refine bB (v := .slice ua c.length uc) V rfl rfl rfl (fun w hs => gO hs (by repeat constructor) hi2 hx) ?_
   refine cJ 22 [.slice ua c.length uc] rfl (by kernel_rfl) rfl (fun bn => ?_)
   refine bZ (q := 1) slII rfl rfl rfl (fun v' => by repeat constructor) (fun w' hs => ⟨_, _, Blk.rd (hs.blk (b := bn) (by repeat constructor)) rfl 1⟩) (by simp [cU]) (by omega) (by omega) (fun v2 => ?_)
   (refine aA V Z Z (aF (bJ (aB (aA V Z Z (bA V Z Z Z Z (by omega) (by omega) (aA V Z Z (aF ?_))))))))
   exact hK (i + 1, v2) _ _ (by simp only; omega) (by simp only; omega) ⟨rfl, rfl, rfl, rfl, rfl, trivial⟩ (by dsimp only; rw [eF, List.map_append, List.length_append]; repeat constructor)
  ·have hz2 : dZ s r c = false := by
    cases hb : dZ s r c with
    | false => rfl
    | true => exact absurd (hrb.1 hb) hz
   have hz3 : (eZ s r c).length ≠ 0 := fun hh => hz (List.eq_nil_of_length_eq_zero hh)
   rw [hz2] at eF
   simp only [Bool.false_eq_true, if_false, List.append_nil] at eF
   (refine aG V Z Z Z (qf_eqlF V Z Z Z (by omega) (aO (aH Z (aM (bJ (aB (aA V Z Z (bA V Z Z Z Z (by omega) (by omega) (aA V Z Z (aF ?_)))))))))))
   exact hK (i + 1, v) _ _ (by simp only; omega) (by simp only; omega) ⟨rfl, rfl, rfl, rfl, rfl, trivial⟩ (by dsimp only; rw [eF]; repeat constructor)
 ·obtain rfl : i = xs.length := by omega
  rw [List.take_length]
  (refine bO _ rfl (aD (aB (aA V Z Z (aA V Z Z (aF (aS ?_)))))))
  refine aU V Z (by repeat constructor) fun w hs => ?_
  exact ⟨(v, xs.filter (fun q => dZ s r q.2)), ⟨rfl, eA⟩, (kX (R := [.ow (.slice va xs.length vc) 22 1 xs.length (xs.map (·.1)), .pt b3 (rlC r) 88]) _ (hs.sp (by repeat constructor))).sp (by repeat constructor)⟩
theorem checkS_or (s : List Lp) (r : Rl) : checkS s r = 0 ∨ checkS s r = 2 ∨ checkS s r = 3 := by
 unfold checkS
 split
 ·exact stadV_or s
 ·split <;> simp
set_option maxHeartbeats 4000000 in
theorem rall_ok (w : World) (lo hi : Nat) (a : Option Addr) (cp : Nat) (s : List Lp) (r : Rl) (h : RdL w lo hi (.slice a s.length cp) s) (hcr : CR s r) (h300 : (jY s r).length ≤ 300) :
  Ca Tryz.prog 43 [.slice a s.length cp, .agg (rlC r).toArray] w fun x w' => ∃ y : Value × List (Value × List Int), (x = .tuple #[y.1, .int .i64 0] ∧ y.2.map (·.2) = jY s r) ∧ Sat w M0 (lsK y.1 y.2) w' := by
 have hn2 := hcr.s.n2
 refine cS (Sat.nil w M0) Tryz.func43 rfl (by simp [Tryz.ntmps43]) ?_
 (refine aD (aB ?_))
 refine bD Z Z (fun b3 => ?_)
 (refine aA V Z Z (aA V Z Z (aF (aD (aD (aB (aA V Z Z (aJ V Z Z Z ?_))))))))
 refine aK (val := .int .i64 0) V rfl rfl rfl rfl (fun w hs => ?_) ?_; exact by have := dK w lo hi a cp s r (RdE.keep h hs.chg0) (by omega); rw [cA.2 hcr] at this; exact this
 (refine aA V Z Z (aF (aD (aB (aA V Z Z (aW V Z Z Z (by omega) (aF (aH Z (aM (aD (aB (aA V Z Z ?_))))))))))); refine aJ V Z Z Z ?_)
 refine bG (β := Value × List (Value × List Int)) V [] _ M0 rfl rfl rfl rfl (Sp.refl _) (fun _ h => h.elim) (fun w' hs => mJ w' lo hi a cp s r (RdE.keep h hs.chg0) hcr) ?_
 rintro ⟨_, xs⟩ v0 ⟨rfl, hI⟩
 dsimp only [lsK, List.cons_append, List.nil_append] at hI ⊢
 have hxl : xs.length ≤ 300 := by have := congrArg List.length hI; rw [List.length_map] at this; omega
 refine bL (fun w hs => hs.slice2 (v := v0) (by repeat constructor)) ?_
 rintro ⟨va, vc, rfl⟩
 (refine aA V Z Z (aF (aD (aD (aB (aA V Z Z (aA V Z Z (cT V Z Z Z (by omega) (aF (aH Z (aM (aD ?_))))))))))); refine aB ?_; (iterate 3 refine aA V Z Z ?_); refine aF (aS ?_))
 refine aU V Z (by repeat constructor) fun w hs => ?_
 exact ⟨(_, xs), ⟨rfl, hI⟩, hs.sp (by repeat constructor)⟩
set_option maxHeartbeats 4000000 in
theorem rall_no (w : World) (lo hi : Nat) (a : Option Addr) (cp : Nat) (s : List Lp) (r : Rl) (h : RdL w lo hi (.slice a s.length cp) s) (hlen : s.length ≤ 1000000) (e : (allV s r).2 ≠ 0) :
  Ca Tryz.prog 43 [.slice a s.length cp, .agg (rlC r).toArray] w fun x w' => x = .tuple #[.slice none 0 0, .int .i64 (allV s r).2] ∧ Chg [] w w' := by
 refine cS (Sat.nil w M0) Tryz.func43 rfl (by simp [Tryz.ntmps43]) ?_
 (refine aD (aB ?_))
 refine bD Z Z (fun b3 => ?_)
 (refine aA V Z Z (aA V Z Z (aF (aD (aD (aB (aA V Z Z (aJ V Z Z Z ?_))))))))
 refine aK (val := .int .i64 (checkS s r)) V rfl rfl rfl rfl (fun w hs => ?_) ?_; exact dK w lo hi a cp s r (RdE.keep h hs.chg0) hlen
 by_cases h0 : checkS s r = 0
 ·have hcr := cA.1 h0
  have h3 : 300 < (jY s r).length := by
   refine Classical.byContradiction fun hh => e ?_
   unfold allV
   rw [if_neg (by omega), if_neg hh]
  have ev : (allV s r).2 = 10 := by unfold allV; rw [if_neg (by omega), if_pos h3]
  rw [ev, h0]
  (refine aA V Z Z (aF (aD (aB (aA V Z Z (aW V Z Z Z (by omega) (aF (aH Z (aM (aD (aB (aA V Z Z ?_))))))))))); refine aJ V Z Z Z ?_)
  refine bG (β := Value × List (Value × List Int)) V [] _ M0 rfl rfl rfl rfl (Sp.refl _) (fun _ h => h.elim) (fun w' hs => mJ w' lo hi a cp s r (RdE.keep h hs.chg0) hcr) ?_
  rintro ⟨_, xs⟩ v0 ⟨rfl, hI⟩
  dsimp only [lsK, List.cons_append, List.nil_append] at hI ⊢
  have hxl : 300 < xs.length := by have := congrArg List.length hI; rw [List.length_map] at this; omega
  refine bL (fun w hs => hs.slice2 (v := v0) (by repeat constructor)) ?_
  rintro ⟨va, vc, rfl⟩
  (refine aA V Z Z (aF (aD (aD (aB (aA V Z Z (aA V Z Z (cP V Z Z Z (by omega) (aF (aL Z (aD (aB ?_))))))))))); refine aA V Z Z (aA V Z Z (aF (aS ?_))))
  refine aU V Z (by repeat constructor) fun w hs => ?_
  exact ⟨rfl, hs.chg0⟩
 ·have ev : (allV s r).2 = checkS s r := by unfold allV; rw [if_pos h0]
  rw [ev]
  rcases checkS_or s r with h1 | h1 | h1
  ·exact absurd h1 h0
  all_goals
   rw [h1]
   (refine aA V Z Z (aF (aD (aB (aA V Z Z (bW V Z Z Z (by omega) (aF (aL Z (aD (aB ?_))))))))); (iterate 3 refine aA V Z Z ?_); refine aF (aS ?_))
   refine aU V Z (by repeat constructor) fun w hs => ?_
   exact ⟨rfl, hs.chg0⟩
end Go.Proofs.YtgeajgmefokifaaGreat

/- The plain laws of courses: their order, the fewest rules, the least snow. -/
namespace Go.Proofs.YtgeajgmefokifaaGreat

/-! Lexicographic order -/
theorem cmpB_trans : ∀ {a b c : List Int}, kO a b = true → kO b c = true → kO a c = true
 | [], [], _, h, _ => by simp [kO] at h
 | [], _ :: _, [], _, h => by simp [kO] at h
 | [], _ :: _, _ :: _, _, _ => rfl
 | _ :: _, [], _, h, _ => by simp [kO] at h
 | _ :: _, _ :: _, [], _, h => by simp [kO] at h
 | x :: a, y :: b, z :: c, h1, h2 => by
  simp only [kO] at h1 h2 ⊢
  split at h1 <;> split at h2
  ·rename_i e1 e2
   rw [if_pos (e1.trans e2)]
   exact cmpB_trans h1 h2
  ·rename_i e1 e2
   subst e1
   rw [if_neg e2]
   exact h2
  ·rename_i e1 e2
   subst e2
   rw [if_neg e1]
   exact h1
  ·rename_i e1 e2
   simp only [Bool.and_true, decide_eq_true_eq] at h1 h2
   rw [if_neg (by omega)]
   simp
   omega
theorem cmpB_irr : ∀ (a : List Int), kO a a = false
 | [] => rfl
 | x :: a => by simp [kO, cmpB_irr a]
theorem cmpB_tri : ∀ (a b : List Int), kO a b = false → kO b a = false → a = b
 | [], [], _, _ => rfl
 | [], _ :: _, h, _ => by simp [kO] at h
 | _ :: _, [], _, h => by simp [kO] at h
 | x :: a, y :: b, h1, h2 => by
  simp only [kO] at h1 h2
  by_cases e : x = y
  ·subst e
   simp only [if_true] at h1 h2
   rw [cmpB_tri a b h1 h2]
  ·rw [if_neg e] at h1
   rw [if_neg (fun h => e h.symm)] at h2
   simp at h1 h2
   omega
theorem coursesL_ne {n laps : Nat} (hn : 0 < n) : coursesL n laps ≠ [] := by
 have : List.replicate laps (0 : Int) ∈ coursesL n laps := eU.2 ⟨by simp, fun x hx => by rw [List.eq_of_mem_replicate hx]; omega, by
  induction laps with
  | zero => rfl
  | succ k ih =>
   cases k with
   | zero => rfl
   | succ k => rw [List.replicate_succ, List.replicate_succ, srtB, ← List.replicate_succ, ih]; simp⟩
 intro h
 rw [h] at this
 cases this

/-! The fewest rules -/
theorem fewB_irr (a : List Int) : lX a a = false := by simp [lX, cmpB_irr]
theorem fewB_trans {a b c : List Int} (h1 : lX a b = true) (h2 : lX b c = true) : lX a c = true := by
 simp only [lX, Bool.and_true, Bool.or_eq_true, Bool.and_eq_true, decide_eq_true_eq] at h1 h2 ⊢
 rcases h1 with h1 | ⟨h1, h3⟩ <;> rcases h2 with h2 | ⟨h2, h4⟩
 ·left; omega
 ·left; omega
 ·left; omega
 ·right; exact ⟨by omega, cmpB_trans h3 h4⟩
theorem fewB_tri {a b : List Int} (h1 : lX a b = false) (h2 : lX b a = false) : a = b := by
 simp only [lX, Bool.and_true, Bool.or_eq_false_iff, Bool.and_eq_false_imp, decide_eq_true_eq, decide_eq_false_iff_not] at h1 h2
 have : a.length = b.length := by omega
 exact cmpB_tri a b (h1.2 this) (h2.2 this.symm)
/-- The first of the best ones, by a strict order of keys. -/
theorem mE {α : Type} (lt : α → α → Bool) (irr : ∀ a, lt a a = false) (tr : ∀ {a b c}, lt a b = true → lt b c = true → lt a c = true) (neg : ∀ {a b c}, lt a b = false → lt b c = false → lt a c = false) :
  ∀ (l : List α) (m : α), ∃ R, l.foldl (iI lt) (some m) = some R ∧ (R = m ∨ R ∈ l) ∧ lt m R = false ∧ ∀ c ∈ l, lt c R = false
 | [], m => ⟨m, rfl, .inl rfl, irr m, by simp⟩
 | c :: l, m => by
  rw [List.foldl_cons]
  by_cases h : lt c m = true
  ·simp only [iI, h, if_true]
   obtain ⟨R, h1, h2, h3, h4⟩ := mE lt irr tr neg l c
   refine ⟨R, h1, .inr (List.mem_cons.2 h2), ?_, fun d hd => ?_⟩
   ·cases hm : lt m R with
    | false => rfl
    | true => rw [tr h hm] at h3; cases h3
   ·rcases List.mem_cons.1 hd with rfl | hd
    ·exact h3
    ·exact h4 d hd
  ·have h : lt c m = false := by simpa using h
   simp only [iI, h]
   obtain ⟨R, h1, h2, h3, h4⟩ := mE lt irr tr neg l m
   refine ⟨R, h1, h2.imp_right (List.mem_cons_of_mem _), h3, fun d hd => ?_⟩
   rcases List.mem_cons.1 hd with rfl | hd
   ·exact neg h h3
   ·exact h4 d hd
theorem fewB_neg {a b c : List Int} (h1 : lX a b = false) (h2 : lX b c = false) : lX a c = false := by
 cases h : lX a c with
 | false => rfl
 | true =>
  cases h3 : lX b a with
  | true => rw [fewB_trans h3 h] at h2; cases h2
  | false =>
   obtain rfl := fewB_tri h1 h3
   rw [h] at h2; cases h2
theorem yield_best {s : List Lp} (r : Rl) (hs : 0 < s.length) : ∃ R, fN s r (coursesL s.length (nL r)) = some R ∧ R ∈ coursesL s.length (nL r) ∧ ∀ c ∈ coursesL s.length (nL r), lX (eZ s r c) (eZ s r R) = false := by
 have hne := coursesL_ne (laps := nL r) hs
 generalize coursesL s.length (nL r) = l at *
 cases l with
 | nil => exact absurd rfl hne
 | cons m l =>
  obtain ⟨R, h1, h2, h3, h4⟩ := mE (fun a b => lX (eZ s r a) (eZ s r b)) (fun a => fewB_irr _) fewB_trans fewB_neg l m
  refine ⟨R, (by rw [fN, List.foldl_cons]; exact h1), List.mem_cons.2 h2, fun c hc => ?_⟩
  rcases List.mem_cons.1 hc with rfl | hc
  ·exact h3
  ·exact h4 c hc
theorem jQ (s : List Lp) (r : Rl) (depth : Int) : ∀ (l : List (List Int)) (o : Option (List Int)), l.foldl (jD s r depth) o = (l.filter (dZ s r)).foldl (iI fun a b => decide (snowV s a depth < snowV s b depth) && true) o
 | [], _ => rfl
 | c :: l, o => by
  rw [List.foldl_cons, jQ s r depth l, List.filter_cons]
  cases h : dZ s r c with
  | false => simp [jD, h]
  | true => simp only [if_true, List.foldl_cons, jD, h]
theorem cheap_best (s : List Lp) (r : Rl) (depth : Int) : (eQ s r depth (coursesL s.length (nL r)) = none ∧ jY s r = []) ∨
  ∃ R, eQ s r depth (coursesL s.length (nL r)) = some R ∧ R ∈ jY s r ∧ ∀ c ∈ jY s r, snowV s R depth ≤ snowV s c depth := by
 unfold eQ
 rw [jQ]
 show _ ∨ _
 unfold jY
 generalize (coursesL s.length (nL r)).filter (dZ s r) = l
 cases l with
 | nil => exact .inl ⟨rfl, rfl⟩
 | cons m l =>
  obtain ⟨R, h1, h2, h3, h4⟩ := mE (fun a b => decide (snowV s a depth < snowV s b depth) && true) (fun a => by simp) (fun {a b c} h1 h2 => by simp at h1 h2 ⊢; omega) (fun {a b c} h1 h2 => by simp at h1 h2 ⊢; omega) l m
  refine .inr ⟨R, (by rw [List.foldl_cons]; exact h1), List.mem_cons.2 h2, fun c hc => ?_⟩
  rcases List.mem_cons.1 hc with rfl | hc
  ·simpa using h3
  ·simpa using h4 c hc
end Go.Proofs.YtgeajgmefokifaaGreat

/- Walks of the reference: Broken, earlier, Yield. -/
namespace Go.Proofs.YtgeajgmefokifaaGreat
open Go Go.Eng

set_option maxHeartbeats 4000000 in
theorem rbrok_ok (w : World) (lo hi lo2 hi9 : Nat) (a : Option Addr) (cp : Nat) (v : Value) (s : List Lp) (r : Rl) (c : List Int) (h : RdL w lo hi (.slice a s.length cp) s) (hlen : s.length ≤ 1000000) (hv : RdI w lo2 hi9 v c) (hlc : c.length ≤ 1000000) (e : (brokenV s r c).2 = 0) :
  Ca Tryz.prog 39 [.slice a s.length cp, .agg (rlC r).toArray, v] w fun x w' => ∃ u : Value, x = .tuple #[u, .int .i64 0] ∧ Sat w M0 [.ow u 3 1 (eZ s r c).length (aP (eZ s r c))] w' := by
 have h1 : checkS s r = 0 ∧ listedV s.length c = 0 ∧ (c.length : Int) = r.laps := by
  unfold brokenV at e
  split at e
  ·rename_i hh; exact absurd e hh
  ·rename_i hh
   split at e
   ·rename_i h2; exact absurd e h2
   ·rename_i h2
    split at e
    ·cases e
    ·rename_i h3
     exact ⟨by omega, by omega, by omega⟩
 obtain ⟨h1, h2, h3⟩ := h1
 have hcr := cA.1 h1
 have hl := iT.1 h2
 obtain ⟨av, cv, rfl, hsv⟩ := RdI.outI hv
 refine cS (Sat.nil w M0) Tryz.func39 rfl (by simp [Tryz.ntmps39]) ?_
 (refine aD (aB ?_))
 refine bD Z Z (fun b4 => ?_)
 (refine aA V Z Z (aA V Z Z (aF (aD (aD (aB (aA V Z Z (aJ V Z Z Z ?_))))))))
 refine aK (val := .int .i64 0) V rfl rfl rfl rfl (fun w hs => ?_) ?_; exact by have := dK w lo hi a cp s r (RdE.keep h hs.chg0) hlen; rw [h1] at this; exact this
 (refine aA V Z Z (aF (aD (aB (aA V Z Z (aW V Z Z Z (by omega) (aF (aH Z (aM (aD (aD (aB ?_))))))))))); refine aA V Z Z (aA V Z Z ?_))
 refine aK (val := .int .i64 0) V rfl rfl rfl rfl (fun w hs => ?_) ?_; exact by have := jX w lo2 hi9 a s.length cp _ c (hv.keep hs.chg0) hlc hlen; rw [h2] at this; exact this
 (refine aA V Z Z (aF (aD (aB (aA V Z Z (aW V Z Z Z (by omega) (aF (aH Z (aM (aD (aD (aB ?_))))))))))); (iterate 3 refine aA V Z Z ?_); refine aI V Z Z Z (aW V Z Z Z (by omega) (aF (aH Z (aM (aD (aB (aA V Z Z (aJ V Z Z Z (aA V Z Z ?_))))))))))
 refine bG (β := Value) V [] _ M0 rfl rfl rfl rfl (Sp.refl _) (fun _ h => h.elim) (fun w' hs => iK w' lo hi lo2 hi9 a cp _ s r c (RdE.keep h hs.chg0) hcr (hv.keep hs.chg0) hl.2.1 hl.1.2) ?_
 rintro _ u rfl
 refine bL (fun w hs => hs.slice (v := u) (by repeat constructor)) ?_
 rintro ⟨a1, g1, d1, rfl⟩
 (refine aA V Z Z (aA V Z Z (aF (aS ?_))))
 refine aU V Z (by repeat constructor) fun w hs => ?_
 exact ⟨_, rfl, hs.sp (by repeat constructor)⟩
set_option maxHeartbeats 4000000 in
theorem rbrok_no (w : World) (lo hi lo2 hi9 : Nat) (a : Option Addr) (cp : Nat) (v : Value) (s : List Lp) (r : Rl) (c : List Int) (h : RdL w lo hi (.slice a s.length cp) s) (hlen : s.length ≤ 1000000) (hv : RdI w lo2 hi9 v c) (hlc : c.length ≤ 1000000) (e : (brokenV s r c).2 ≠ 0) :
  Ca Tryz.prog 39 [.slice a s.length cp, .agg (rlC r).toArray, v] w fun x w' => x = .tuple #[.slice none 0 0, .int .i64 (brokenV s r c).2] ∧ Chg [] w w' := by
 obtain ⟨av, cv, rfl, hsv⟩ := RdI.outI hv
 refine cS (Sat.nil w M0) Tryz.func39 rfl (by simp [Tryz.ntmps39]) ?_
 (refine aD (aB ?_))
 refine bD Z Z (fun b4 => ?_)
 (refine aA V Z Z (aA V Z Z (aF (aD (aD (aB (aA V Z Z (aJ V Z Z Z ?_))))))))
 refine aK (val := .int .i64 (checkS s r)) V rfl rfl rfl rfl (fun w hs => ?_) ?_; exact dK w lo hi a cp s r (RdE.keep h hs.chg0) hlen
 by_cases h1 : checkS s r = 0
 ·rw [h1]
  (refine aA V Z Z (aF (aD (aB (aA V Z Z (aW V Z Z Z (by omega) (aF (aH Z (aM (aD (aD (aB ?_))))))))))); refine aA V Z Z (aA V Z Z ?_))
  refine aK (val := .int .i64 (listedV s.length c)) V rfl rfl rfl rfl (fun w hs => ?_) ?_; exact jX w lo2 hi9 a s.length cp _ c (hv.keep hs.chg0) hlc hlen
  by_cases h2 : listedV s.length c = 0
  ·rw [h2]
   by_cases h3 : (c.length : Int) = r.laps
   ·exact absurd (by unfold brokenV; rw [if_neg (by omega), if_neg (by omega), if_neg (by omega)]) e
   ·have ev : (brokenV s r c).2 = 2 := by unfold brokenV; rw [if_neg (by omega), if_neg (by omega), if_pos h3]
    rw [ev]
    (refine aA V Z Z (aF (aD (aB (aA V Z Z (aW V Z Z Z (by omega) (aF (aH Z (aM (aD (aD (aB ?_))))))))))); (iterate 3 refine aA V Z Z ?_); refine aI V Z Z Z (bW V Z Z Z (by omega) (aF (aL Z (aD (aB (aA V Z Z (aA V Z Z (aF (aS ?_))))))))))
    refine aU V Z (by repeat constructor) fun w hs => ?_
    exact ⟨rfl, hs.chg0⟩
  ·have ev : (brokenV s r c).2 = listedV s.length c := by unfold brokenV; rw [if_neg (by omega), if_pos h2]
   rw [ev]
   generalize listedV s.length c = z at *
   (refine aA V Z Z (aF (aD (aB (aA V Z Z (bW V Z Z Z (by omega) (aF (aL Z (aD (aB ?_))))))))); (iterate 3 refine aA V Z Z ?_); refine aF (aS ?_))
   refine aU V Z (by repeat constructor) fun w hs => ?_
   exact ⟨rfl, hs.chg0⟩
 ·have ev : (brokenV s r c).2 = checkS s r := by unfold brokenV; rw [if_pos h1]
  rw [ev]
  generalize checkS s r = z at *
  (refine aA V Z Z (aF (aD (aB (aA V Z Z (bW V Z Z Z (by omega) (aF (aL Z (aD (aB ?_))))))))); (iterate 3 refine aA V Z Z ?_); refine aF (aS ?_))
  refine aU V Z (by repeat constructor) fun w hs => ?_
  exact ⟨rfl, hs.chg0⟩
set_option maxHeartbeats 4000000 in
theorem rearlier_ca (w : World) (lo hi lo2 hi9 : Nat) (v u : Value) (a b : List Int) (h : RdI w lo hi v a) (g : RdI w lo2 hi9 u b) (hl : a.length ≤ 1000000) (hl2 : b.length ≤ 1000000) :
  Ca Tryz.prog 105 [v, u] w fun r w' => r = .bool (lX a b) ∧ Chg [] w w' := by
 obtain ⟨va, vc, rfl, hsa⟩ := RdI.outI h
 obtain ⟨ua, uc, rfl, hsb⟩ := RdI.outI g
 refine cS (Sat.nil w M0) Tryz.func105 rfl (by simp [Tryz.ntmps105]) ?_
 by_cases hn : a.length ≠ b.length
 ·have e : lX a b = decide (a.length < b.length) := by unfold lX; rw [decide_eq_false hn]; simp
  rw [e]
  by_cases hlt : a.length < b.length
  ·(refine aD (aB (aA V Z Z (aF (aD (aD (aB ?_)))))); (iterate 4 refine aA V Z Z ?_); refine bW V Z Z Z (by omega) (aF (aL Z (aD (aB ?_)))); (iterate 4 refine aA V Z Z ?_); refine cL V Z Z Z (by omega) (aA V Z Z (aF (aS ?_))))
   refine aU V Z (by repeat constructor) fun w hs => ?_
   exact ⟨by simp [hlt, fC], hs.chg0⟩
  ·(refine aD (aB (aA V Z Z (aF (aD (aD (aB ?_)))))); (iterate 4 refine aA V Z Z ?_); refine bW V Z Z Z (by omega) (aF (aL Z (aD (aB ?_)))); (iterate 4 refine aA V Z Z ?_); refine cI V Z Z Z (by omega) (aA V Z Z (aF (aS ?_))))
   refine aU V Z (by repeat constructor) fun w hs => ?_
   exact ⟨by simp [hlt, fC], hs.chg0⟩
 have hn : a.length = b.length := by omega
 have e : lX a b = kO a b := by unfold lX; rw [decide_eq_false (by omega), decide_eq_true hn]; simp
 rw [e]
 (refine aD (aB (aA V Z Z (aF (aD (aD (aB ?_)))))); (iterate 4 refine aA V Z Z ?_); refine aW V Z Z Z (by omega) (aF (aH Z (aM (aD (aD (aB (aA V Z Z (aF (aQ ?_))))))))))
 refine cB (σ := Nat) (fun k => k ≤ a.length ∧ kO a b = kO (a.drop k) (b.drop k)) (fun k => a.length - k) (fun k => [(0, .slice va a.length vc), (1, .slice ua b.length uc), (5, .int .i64 k)]) (fun _ => []) 0 ⟨by omega, rfl⟩ ⟨rfl, rfl, rfl, trivial⟩ (by repeat constructor) ?_
 rintro k ⟨hk, hI⟩ K hK
 (refine aD (aD (aB ?_)); (iterate 4 refine aA V Z Z ?_); refine aF ?_)
 refine dL Z (fun hc => ?_) (fun hc => ?_)
 ·have hk2 : k < a.length := by omega
  have hk3 : k < b.length := by omega
  clear hc
  obtain ⟨ba, oa, rfl⟩ := hsa (by omega)
  obtain ⟨bb, ob, rfl⟩ := hsb (by omega)
  rw [cmpB_drop hk2 hk3] at hI
  have q1 := fun (w' : World) (hc : Chg [] w w') => RdI.at (RdE.keep h hc) k hk2
  have q2 := fun (w' : World) (hc : Chg [] w w') => RdI.at (RdE.keep g hc) k hk3
  generalize a[k] = x at *
  generalize b[k] = y at *
  (refine aM (aD (aQ (aD ?_))))
  refine cQ _ [] (Sp.refl _) (by kernel_rfl) (by kernel_rfl) ?_
  (refine aG V Z Z Z (aG V Z Z Z ?_))
  refine bR V Z Z Z Z Z (by omega) (by omega) ?_
  refine cC (v := .int .i64 x) V rfl rfl rfl (fun w hs => q1 w hs.chg0) ?_
  (refine aG V Z Z Z (aG V Z Z Z ?_))
  refine bR V Z Z Z Z Z (by omega) (by omega) ?_
  refine cC (v := .int .i64 y) V rfl rfl rfl (fun w hs => q2 w hs.chg0) ?_
  by_cases hxy : x = y
  ·rw [if_pos hxy] at hI
   (refine qf_neqF V Z Z Z (by omega) (aO (aH Z (aM (bJ (aB (aA V Z Z (bA V Z Z Z Z (by omega) (by omega) (aA V Z Z (aF ?_))))))))))
   exact hK (k + 1) _ _ ⟨by omega, hI⟩ (by omega) ⟨rfl, rfl, rfl, trivial⟩ (by repeat constructor)
  ·rw [if_neg hxy, Bool.and_true] at hI
   rw [hI]
   (refine qf_neqT V Z Z Z (by omega) (aO (aL Z (aD ?_))))
   refine cQ _ [] (Sp.refl _) (by kernel_rfl) (by kernel_rfl) ?_
   (refine aG V Z Z Z (aG V Z Z Z ?_))
   refine bR V Z Z Z Z Z (by omega) (by omega) ?_
   refine cC (v := .int .i64 x) V rfl rfl rfl (fun w hs => q1 w hs.chg0) ?_
   (refine aG V Z Z Z (aG V Z Z Z ?_))
   refine bR V Z Z Z Z Z (by omega) (by omega) ?_
   refine cC (v := .int .i64 y) V rfl rfl rfl (fun w hs => q2 w hs.chg0) ?_
   (refine aG V Z Z Z (aG V Z Z Z (aO (aS ?_))))
   refine aU V Z (by repeat constructor) fun w hs => ?_
   exact ⟨rfl, hs.chg0⟩
 ·obtain rfl : k = a.length := by omega
  rw [List.drop_length, hn, List.drop_length] at hI
  (refine bO _ rfl (aD (aB (aA V Z Z (aF (aS ?_))))))
  refine aU V Z (by repeat constructor) fun w hs => ?_
  exact ⟨by rw [hI]; rfl, hs.chg0⟩
set_option maxHeartbeats 8000000 in
theorem ryield_ok (w : World) (lo hi : Nat) (a : Option Addr) (cp : Nat) (s : List Lp) (r : Rl) (b : List Int) (h : RdL w lo hi (.slice a s.length cp) s) (hcr : CR s r) (ho : fN s r (coursesL s.length (nL r)) = some b) :
  Ca Tryz.prog 46 [.slice a s.length cp, .agg (rlC r).toArray] w fun x w' => ∃ y : Value × Value, x = .tuple #[y.1, y.2, .int .i64 0] ∧ Sat w M0 [.ow y.1 3 1 (eZ s r b).length (aP (eZ s r b)), .ow y.2 3 1 b.length (aP b)] w' := by
 have hn1 := hcr.s.n1
 have hn2 := hcr.s.n2
 have hla := hcr.r.laps
 obtain ⟨L, hL⟩ : ∃ L : Nat, (L : Int) = r.laps := ⟨r.laps.toNat, by omega⟩
 have hnl : nL r = L := by unfold nL; omega
 rw [hnl] at ho
 have hcl := iG s.length L hn2 (by omega)
 have hne := coursesL_ne (n := s.length) (laps := L) (by omega)
 refine cS (Sat.nil w M0) Tryz.func46 rfl (by simp [Tryz.ntmps46]) ?_
 (refine aD (aB ?_))
 refine bD Z Z (fun b3 => ?_)
 ((iterate 3 refine aA V Z Z ?_); refine aF (aD (aD (aB (aA V Z Z (aJ V Z Z Z ?_))))))
 refine aK (val := .int .i64 0) V rfl rfl rfl rfl (fun w hs => ?_) ?_; exact by have := dK w lo hi a cp s r (RdE.keep h hs.chg0) (by omega); rw [cA.2 hcr] at this; exact this
 (refine aA V Z Z (aF (aD (aB (aA V Z Z (aW V Z Z Z (by omega) (aF (aH Z (aM (aD (aB (aA V Z Z ?_))))))))))); refine aA V Z Z (aI V Z Z Z ?_))
 refine bG (β := Value × List (Value × List Int)) V [] _ M0 rfl rfl rfl rfl (Sp.refl _) (fun _ h => h.elim) (fun w' hs => by rw [← hL]; exact rcourses_ca w' a s.length cp L (by omega) (by omega) (by omega) (by omega)) ?_
 rintro ⟨_, xs⟩ v0 ⟨rfl, hI⟩
 dsimp only [lsK, List.cons_append, List.nil_append] at hI ⊢
 have hxe := congrArg List.length hI
 rw [List.length_map] at hxe
 have hx0 : 0 < xs.length := by have := List.length_pos_iff.2 hne; omega
 rw [← hI] at ho
 have hmm : ∀ u c, (u, c) ∈ xs → (∀ x ∈ c, 0 ≤ x ∧ x < s.length) ∧ c.length ≤ 6 := fun u c hm => by
  have : c ∈ coursesL s.length L := by rw [← hI]; exact List.mem_map.2 ⟨_, hm, rfl⟩
  obtain ⟨m1, m2, m3⟩ := eU.1 this
  exact ⟨m2, by omega⟩
 have hstep : ∀ i, (hi : i < xs.length) → fN s r ((xs.map (·.2)).take (i + 1)) = kQ s r (fN s r ((xs.map (·.2)).take i)) xs[i].2 := fun i hi => by
  rw [List.take_succ_eq_append_getElem (by simpa using hi), yieldO_snoc, List.getElem_map]
 clear hI
 refine bL (fun w hs => hs.ownSome (v := v0) (by repeat constructor) (by omega)) ?_
 rintro ⟨g0, d0, rfl⟩
 have h00 := hstep 0 hx0
 have hmem0 : xs[0] ∈ xs := List.getElem_mem hx0
 generalize hx : xs[0] = p at *
 obtain ⟨u0, b0⟩ := p
 refine bL (fun w hs => kK hs (xs := xs) (t := 3) (by repeat constructor) hmem0) ?_
 rintro ⟨ua, uc, rfl⟩
 (refine aA V Z Z (aF (aD (aB (aA V Z Z ?_)))))
 refine aV V Z Z Z Z Z (by omega) (by omega) ?_
 refine bB (v := .slice ua b0.length uc) V rfl rfl rfl (fun w hs => gO hs (by repeat constructor) hx0 hx) ?_
 (refine aA V Z Z (aF (aD (aD (aB (aA V Z Z (aF (aQ ?_))))))))
 refine cB (σ := Nat × (Option Addr × Nat) × List Int) (fun q => q.1 + 1 ≤ xs.length ∧ (.slice q.2.1.1 q.2.2.length q.2.1.2, q.2.2) ∈ xs ∧ fN s r ((xs.map (·.2)).take (q.1 + 1)) = some q.2.2) (fun q => xs.length - q.1) (fun q => [(0, .slice a s.length cp), (3, .pointer (some ⟨b3, 0, none⟩)), (8, .slice (some ⟨g0, 0, none⟩) xs.length d0), (9, .slice q.2.1.1 q.2.2.length q.2.1.2), (10, .int .i64 ((q.1 : Int) + 1))])
  (fun q => [.ow (.slice (some ⟨g0, 0, none⟩) xs.length d0) 22 1 xs.length (xs.map (·.1)), un (gC 3 xs), .pt b3 (rlC r) 88]) (0, (ua, uc), b0) ⟨by simp only; omega, hmem0, h00⟩ ⟨rfl, rfl, rfl, rfl, rfl, trivial⟩ (by repeat constructor) ?_
 rintro ⟨i, ⟨pa, pc⟩, bb⟩ ⟨hik, hmb, hY⟩ K hK
 simp only at hik hmb hY
 dsimp only
 obtain ⟨mb1, mb2⟩ := hmm _ _ hmb
 (refine aD (aD (aB ?_)); (iterate 4 refine aA V Z Z ?_); refine aF ?_)
 refine dL Z (fun hc => ?_) (fun hc => ?_)
 ·have hi2 : i + 1 < xs.length := by omega
  clear hc
  have hst := hstep (i + 1) hi2
  have hmem : xs[i + 1] ∈ xs := List.getElem_mem hi2
  generalize hxi : xs[i + 1] = p at *
  obtain ⟨u, c⟩ := p
  rw [hY] at hst
  obtain ⟨mc1, mc2⟩ := hmm _ _ hmem
  have hlc := brk_len s r c
  have hlb := brk_len s r bb
  refine cX (fun w hs => kK hs (xs := xs) (t := 3) (by repeat constructor) hmem) ?_
  rintro ⟨wa, wc, rfl⟩
  (refine aM (aD (aQ (aD ?_))))
  refine cQ _ [] (Sp.refl _) (by kernel_rfl) (by kernel_rfl) ?_
  (refine aG V Z Z Z (aZ V Z Z Z (aG V Z Z Z (aG V Z Z Z ?_))))
  refine bR V Z Z Z Z Z (by omega) (by omega) ?_
  refine cC (v := .slice wa c.length wc) V rfl rfl rfl (fun w hs => gO hs (i := i + 1) (by repeat constructor) hi2 hxi) ?_
  skip
  refine bH (β := Value) V [] _ M0 rfl rfl rfl rfl (Sp.refl _) (fun _ h => h.elim) (fun w' hs => iK w' lo hi 0 w'.heap.size a cp _ s r c (RdE.keep h hs.chg0) hcr (ls_rd hs (xs := xs) (t := 3) (by repeat constructor) hmem) mc1 mc2) ?_
  rintro _ z1 rfl
  dsimp only [List.cons_append, List.nil_append]
  (refine aG V Z Z Z (aZ V Z Z Z (aG V Z Z Z ?_)))
  refine bH (β := Value) V [] _ M0 rfl rfl rfl rfl (Sp.refl _) (fun _ h => h.elim) (fun w' hs => iK w' lo hi 0 w'.heap.size a cp _ s r bb (RdE.keep h hs.chg0) hcr (ls_rd hs (xs := xs) (t := 3) (by repeat constructor) hmb) mb1 mb2) ?_
  rintro _ z2 rfl
  dsimp only [List.cons_append, List.nil_append]
  skip
  refine bT (val := .bool (lX (eZ s r c) (eZ s r bb))) V rfl rfl rfl rfl (fun w hs => ?_) ?_; exact rearlier_ca w 0 w.heap.size 0 w.heap.size z1 z2 _ _ (hs.rdI (by repeat constructor) rfl) (hs.rdI (by repeat constructor) rfl) (by omega) (by omega)
  have hst2 : fN s r ((xs.map (·.2)).take (i + 1 + 1)) = if lX (eZ s r c) (eZ s r bb) then some c else some bb := hst
  cases hfw : lX (eZ s r c) (eZ s r bb) with
  | true =>
   rw [hfw, if_pos rfl] at hst2
   (refine aO (aL Z (aB (aA V Z Z (aA V Z Z ?_)))))
   refine aV V Z Z Z Z Z (by omega) (by omega) ?_
   refine bB (v := .slice wa c.length wc) V rfl rfl rfl (fun w hs => gO hs (i := i + 1) (by repeat constructor) hi2 hxi) ?_
   (refine aA V Z Z (aF (bJ (aB (aA V Z Z (bA V Z Z Z Z (by omega) (by omega) (aA V Z Z (aF ?_))))))))
   exact hK (i + 1, (wa, wc), c) _ _ ⟨by simp only; omega, hmem, hst2⟩ (by simp only; omega) ⟨rfl, rfl, rfl, rfl, rfl, trivial⟩ (by repeat constructor)
  | false =>
   rw [hfw, if_neg (by simp)] at hst2
   (refine aO (aH Z (aM (bJ (aB (aA V Z Z (bA V Z Z Z Z (by omega) (by omega) (aA V Z Z (aF ?_)))))))))
   exact hK (i + 1, (pa, pc), bb) _ _ ⟨by simp only; omega, hmb, hst2⟩ (by simp only; omega) ⟨rfl, rfl, rfl, rfl, rfl, trivial⟩ (by repeat constructor)
 ·have hie : i + 1 = xs.length := by omega
  rw [hie, List.take_of_length_le (by simp), ho] at hY
  cases hY
  (refine bO _ rfl (aD (aB (aA V Z Z (aJ V Z Z Z (aA V Z Z ?_))))))
  refine bG (β := Value) V [] _ M0 rfl rfl rfl rfl (Sp.refl _) (fun _ h => h.elim) (fun w' hs => iK w' lo hi 0 w'.heap.size a cp _ s r b (RdE.keep h hs.chg0) hcr (ls_rd hs (xs := xs) (t := 3) (by repeat constructor) hmb) mb1 mb2) ?_
  rintro _ z1 rfl
  dsimp only [List.cons_append, List.nil_append]
  refine bL (fun w hs => hs.slice2 (v := z1) (by repeat constructor)) ?_
  rintro ⟨za, zc, rfl⟩
  ((iterate 4 refine aA V Z Z ?_); refine aF (aS ?_))
  refine aU V Z (by repeat constructor) fun w hs => ?_
  refine ⟨(_, _), rfl, ?_⟩
  have h1 : Sat _ _ (un (gC 3 xs) :: [.ow (.slice za (eZ s r b).length zc) 3 1 (eZ s r b).length (aP (eZ s r b))]) w := hs.sp (by repeat constructor)
  have h2 := un_sub (L' := [.ow (.slice pa b.length pc) 3 1 b.length (aP b)]) h1 (List.singleton_sublist.2 (List.mem_map.2 ⟨_, hmb, rfl⟩))
  exact (Sat.un_iff.1 h2).sp (by repeat constructor)
set_option maxHeartbeats 4000000 in
theorem ryield_no (w : World) (lo hi : Nat) (a : Option Addr) (cp : Nat) (s : List Lp) (r : Rl) (h : RdL w lo hi (.slice a s.length cp) s) (hlen : s.length ≤ 1000000) (e : checkS s r ≠ 0) :
  Ca Tryz.prog 46 [.slice a s.length cp, .agg (rlC r).toArray] w fun x w' => x = .tuple #[.slice none 0 0, .slice none 0 0, .int .i64 (checkS s r)] ∧ Chg [] w w' := by
 refine cS (Sat.nil w M0) Tryz.func46 rfl (by simp [Tryz.ntmps46]) ?_
 (refine aD (aB ?_))
 refine bD Z Z (fun b3 => ?_)
 ((iterate 3 refine aA V Z Z ?_); refine aF (aD (aD (aB (aA V Z Z (aJ V Z Z Z ?_))))))
 refine aK (val := .int .i64 (checkS s r)) V rfl rfl rfl rfl (fun w hs => ?_) ?_; exact dK w lo hi a cp s r (RdE.keep h hs.chg0) hlen
 generalize checkS s r = z at *
 (refine aA V Z Z (aF (aD (aB (aA V Z Z (bW V Z Z Z (by omega) (aF (aL Z (aD (aB ?_))))))))); (iterate 4 refine aA V Z Z ?_); refine aF (aS ?_))
 refine aU V Z (by repeat constructor) fun w hs => ?_
 exact ⟨rfl, hs.chg0⟩
end Go.Proofs.YtgeajgmefokifaaGreat

/- Walks of the reference: area, snow, what a volume covers, and the cheapest course. -/
namespace Go.Proofs.YtgeajgmefokifaaGreat
open Go Go.Eng

theorem has_cnt (c : List Int) (i : Int) : c.any (fun x => decide (x = i) && true) = (decide (0 < cntI c i) && true) := by
 rw [Bool.eq_iff_iff]
 simp only [Bool.and_true, List.any_eq_true, decide_eq_true_eq, cntI, List.countP_pos_iff]
set_option maxHeartbeats 4000000 in
theorem rarea_ca (w : World) (lo hi lo2 hi9 : Nat) (a : Option Addr) (cp : Nat) (v : Value) (s : List Lp) (c : List Int) (h : RdL w lo hi (.slice a s.length cp) s) (hlen : s.length ≤ 1000000) (hv : RdI w lo2 hi9 v c) (hlc : c.length ≤ 1000000) :
  Ca Tryz.prog 47 [.slice a s.length cp, v] w fun x w' => x = .tuple #[.int .i64 (gH s c).1, .int .i64 (gH s c).2] ∧ Chg [] w w' := by
 obtain ⟨_, _, e0, hsa⟩ := RdL.outI h
 cases e0
 refine cS (Sat.nil w M0) Tryz.func47 rfl (by simp [Tryz.ntmps47]) ?_
 (refine aD (aB (aA V Z Z (aA V Z Z (aF (aD (aD (aB (aA V Z Z ?_)))))))))
 refine aK (val := .int .i64 (stadV s)) V rfl rfl rfl rfl (fun w hs => ?_) ?_; exact rstad_ca w lo hi a cp s (RdE.keep h hs.chg0) hlen
 by_cases h0 : stadV s ≠ 0
 ·have e : gH s c = (0, stadV s) := by unfold gH measV; rw [if_pos h0, if_pos h0]
  rw [e]
  generalize stadV s = z at *
  (refine aA V Z Z (aF (aD (aB (aA V Z Z (bW V Z Z Z (by omega) (aF (aL Z (aD (aB ?_))))))))); (iterate 3 refine aA V Z Z ?_); refine aF (aS ?_))
  refine aU V Z (by repeat constructor) fun w hs => ?_
  exact ⟨rfl, hs.chg0⟩
 have h0 : stadV s = 0 := by omega
 have hst := lY.1 h0
 have hn2 := hst.n2
 have hn1 := hst.n1
 rw [h0]
 (refine aA V Z Z (aF (aD (aB (aA V Z Z (aW V Z Z Z (by omega) (aF (aH Z (aM (aD (aD (aB ?_))))))))))); refine aA V Z Z (aA V Z Z ?_))
 refine aK (val := .int .i64 (listedV s.length c)) V rfl rfl rfl rfl (fun w hs => ?_) ?_; exact jX w lo2 hi9 a s.length cp _ c (hv.keep hs.chg0) hlc hlen
 have hme : measV s c = listedV s.length c := by unfold measV; rw [if_neg (by omega)]
 by_cases h1 : listedV s.length c ≠ 0
 ·have e : gH s c = (0, listedV s.length c) := by unfold gH; rw [hme, if_pos h1]
  rw [e]
  generalize listedV s.length c = z at *
  (refine aA V Z Z (aF (aD (aB (aA V Z Z (bW V Z Z Z (by omega) (aF (aL Z (aD (aB ?_))))))))); (iterate 3 refine aA V Z Z ?_); refine aF (aS ?_))
  refine aU V Z (by repeat constructor) fun w hs => ?_
  exact ⟨rfl, hs.chg0⟩
 have h1 : listedV s.length c = 0 := by omega
 have e : gH s c = (gY s c, 0) := by unfold gH; rw [hme, h1, if_neg (by omega)]
 rw [e, h1]
 obtain ⟨ba, oa, rfl⟩ := hsa (by omega)
 (refine aA V Z Z (aF (aD (aB (aA V Z Z (aW V Z Z Z (by omega) (aF (aH Z (aM (aD (aB (aA V Z Z ?_))))))))))); refine aF (aD (aD (aB (aA V Z Z (aF (aQ ?_)))))))
 refine cB (σ := Nat) (fun k => k ≤ s.length) (fun k => s.length - k) (fun k => [(0, .slice (some ⟨ba, oa, none⟩) s.length cp), (1, v), (8, .int .i64 (areaP s c k)), (9, .int .i64 k)]) (fun _ => []) 0 (by omega) ⟨rfl, rfl, rfl, rfl, trivial⟩ (by repeat constructor) ?_
 rintro k hk K hK
 have hbd := lK hst c k hk
 (refine aD (aD (aB ?_)); (iterate 4 refine aA V Z Z ?_); refine aF ?_)
 refine dL Z (fun hc => ?_) (fun hc => ?_)
 ·have hk2 : k < s.length := by omega
  clear hc
  have eS := areaP_succ s c k
  rw [has_cnt] at eS
  have hR := hst.all _ (List.getElem_mem hk2)
  have eat : iY s (k : Int) = s[k] := lpAt_at (by omega)
  rw [eat] at eS
  have hm1 : 0 ≤ s[k].len * s[k].wide := Int.mul_nonneg (by have := hR.len; omega) (by have := hR.wide; omega)
  have hm2 : s[k].len * s[k].wide ≤ 20000 * 20 := Int.mul_le_mul hR.len.2 hR.wide.2 (by have := hR.wide; omega) (by omega)
  (refine aM (aD (aQ (aD (aB (aA V Z Z (aA V Z Z ?_)))))))
  refine aK (val := .int .i64 (cntI c k)) V rfl rfl rfl rfl (fun w hs => ?_) ?_; exact ruses_ca w lo2 hi9 v c k (hv.keep hs.chg0) hlc
  generalize cntI c k = q at *
  by_cases hq : 0 < q
  ·rw [decide_eq_true hq, if_pos (by simp)] at eS
   (refine cP V Z Z Z (by omega) (aF (aL Z ?_)))
   refine cQ _ [] (Sp.refl _) (by kernel_rfl) (by kernel_rfl) ?_
   ((iterate 3 refine aG V Z Z Z ?_))
   refine bR V Z Z Z Z Z (by omega) (by omega) ?_
   (refine aG V Z Z Z ?_)
   refine cC V Z Z Z (fun w hs => RdL.at0 (RdE.keep h hs.chg0) k hk2) ?_
   (refine aG V Z Z Z (aG V Z Z Z ?_))
   refine bR V Z Z Z Z Z (by omega) (by omega) ?_
   (refine aG V Z Z Z ?_)
   refine cC V Z Z Z (fun w hs => RdL.at2 (RdE.keep h hs.chg0) k hk2) ?_
   (refine dA V Z Z Z Z (by omega) (by omega) (dA V Z Z Z Z (by omega) (by omega) (aG V Z Z Z (aO (bJ (aB (aA V Z Z (bA V Z Z Z Z (by omega) (by omega) (aA V Z Z (aF ?_))))))))))
   exact hK (k + 1) _ _ (by omega) (by omega) ⟨rfl, rfl, cM rfl (by omega), rfl, trivial⟩ (by repeat constructor)
  ·rw [decide_eq_false hq, if_neg (by simp)] at eS
   (refine cT V Z Z Z (by omega) (aF (aH Z (aM (bJ (aB (aA V Z Z (bA V Z Z Z Z (by omega) (by omega) (aA V Z Z (aF ?_))))))))))
   exact hK (k + 1) _ _ (by omega) (by omega) ⟨rfl, rfl, cM rfl (by omega), rfl, trivial⟩ (by repeat constructor)
 ·obtain rfl : k = s.length := by omega
  (refine bO _ rfl (aD (aB ?_)); (iterate 3 refine aA V Z Z ?_); refine aF (aS ?_))
  refine aU V Z (by repeat constructor) fun w hs => ?_
  exact ⟨rfl, hs.chg0⟩
set_option maxHeartbeats 4000000 in
theorem lN (w : World) (lo hi lo2 hi9 : Nat) (a : Option Addr) (cp : Nat) (v : Value) (s : List Lp) (c : List Int) (depth : Int) (h : RdL w lo hi (.slice a s.length cp) s) (hlen : s.length ≤ 1000000) (hv : RdI w lo2 hi9 v c) (hlc : c.length ≤ 1000000) :
  Ca Tryz.prog 48 [.slice a s.length cp, v, .int .i64 depth] w fun x w' => x = .tuple #[.int .i64 (gN s c depth).1, .int .i64 (gN s c depth).2] ∧ Chg [] w w' := by
 refine cS (Sat.nil w M0) Tryz.func48 rfl (by simp [Tryz.ntmps48]) ?_
 (refine aD (aB (aA V Z Z (aA V Z Z (aF (aD (aB (aA V Z Z (aA V Z Z ?_)))))))))
 refine aK (val := .tuple #[.int .i64 (gH s c).1, .int .i64 (gH s c).2]) V rfl rfl rfl rfl (fun w hs => ?_) ?_; exact rarea_ca w lo hi lo2 hi9 a cp v s c (RdE.keep h hs.chg0) hlen (hv.keep hs.chg0) hlc
 by_cases h0 : measV s c ≠ 0
 ·have e : gH s c = (0, measV s c) := by unfold gH; rw [if_pos h0]
  have e2 : gN s c depth = (0, measV s c) := by unfold gN; rw [if_pos h0]
  rw [e, e2]
  generalize measV s c = z at *
  dsimp only
  (refine aA V Z Z (aT V Z Z Z (aT V Z Z Z (aA V Z Z (aA V Z Z (aF (aD (aD (aB (aA V Z Z (bW V Z Z Z (by omega) (aF ?_))))))))))); refine aL Z (aD (aB ?_)); (iterate 3 refine aA V Z Z ?_); refine aF (aS ?_))
  refine aU V Z (by repeat constructor) fun w hs => ?_
  exact ⟨rfl, hs.chg0⟩
 have h0 : measV s c = 0 := by omega
 have e : gH s c = (gY s c, 0) := by unfold gH; rw [if_neg (by omega)]
 have hst := (meas_iff.1 h0).1
 rw [e]
 dsimp only
 (refine aA V Z Z (aT V Z Z Z (aT V Z Z Z (aA V Z Z (aA V Z Z (aF (aD (aD (aB (aA V Z Z (aW V Z Z Z (by omega) (aF ?_))))))))))); refine aH Z (aM (aD (aD (aB (aA V Z Z ?_))))))
 refine aK (val := .bool (!(wiB depth 1 200))) V rfl rfl rfl rfl (fun w hs => ?_) ?_; exact eO depth 1 200 w
 cases g1 : wiB depth 1 200 with
 | false =>
  have e2 : gN s c depth = (0, 3) := by unfold gN; rw [if_neg (by omega), if_pos g1]
  rw [e2]
  (refine aF (aL Z (aD (aB (aA V Z Z (aA V Z Z (aF (aS ?_))))))))
  refine aU V Z (by repeat constructor) fun w hs => ?_
  exact ⟨rfl, hs.chg0⟩
 | true =>
 have hd := cD.1 g1
 have e2 : gN s c depth = (snowV s c depth, 0) := by unfold gN; rw [if_neg (by omega), if_neg (by simp [g1])]
 rw [e2]
 have hb := snowV_bd hst c hd
 unfold snowV at hb ⊢
 obtain ⟨ha, hm, hn⟩ := hb
 by_cases hz : gY s c * depth % 100 > 0
 ·have e3 : gY s c * depth / 100 + 1 = (gY s c * depth + 99) / 100 := by omega
  (refine aF (aH Z (aM (aD (aB (aA V Z Z (aA V Z Z (bA V Z Z Z Z (by omega) (by omega) (aA V Z Z (aF (aD (aD ?_))))))))))); refine aB (aA V Z Z (dD Z Z Z (by omega) (by omega) (cP V Z Z Z (by omega) (aF (aL Z (aD (aB (aA V Z Z (fS Z Z Z (by omega) (by omega) (by omega) (bA V Z Z Z Z (by omega) (by omega) (aA V Z Z ?_))))))))))); refine aA V Z Z (aF (aS ?_)))
  refine aU V Z (by repeat constructor) fun w hs => ?_
  exact ⟨by rw [← e3]; rfl, hs.chg0⟩
 ·have e3 : gY s c * depth / 100 = (gY s c * depth + 99) / 100 := by omega
  (refine aF (aH Z (aM (aD (aB (aA V Z Z (aA V Z Z (bA V Z Z Z Z (by omega) (by omega) (aA V Z Z (aF (aD (aD ?_))))))))))); refine aB (aA V Z Z (dD Z Z Z (by omega) (by omega) (cT V Z Z Z (by omega) (aF (aH Z (aM (aD (aB (aA V Z Z (fS Z Z Z (by omega) (by omega) (by omega) (aA V Z Z ?_))))))))))); refine aA V Z Z (aF (aS ?_)))
  refine aU V Z (by repeat constructor) fun w hs => ?_
  exact ⟨by rw [← e3]; rfl, hs.chg0⟩
theorem snowE_in {s : List Lp} {r : Rl} {c : List Int} {depth : Int} (hcr : CR s r) (hd : 1 ≤ depth ∧ depth ≤ 200) (hc : c ∈ jY s r) : gN s c depth = (snowV s c depth, 0) := by
 have hm := eU.1 (List.mem_filter.1 hc).1
 have hla := hcr.r.laps
 have h1 : measV s c = 0 := meas_iff.2 ⟨hcr.s, iT.2 ⟨by rw [hm.1]; unfold nL; omega, hm.2.1, hm.2.2⟩⟩
 unfold gN
 rw [if_neg (by omega), if_neg (by simp [cD.2 hd])]
def volB (s : List Lp) (depth volume : Int) (c : List Int) : Bool := decide (snowV s c depth ≤ volume) && true
theorem cov_vol (s : List Lp) (r : Rl) (depth volume : Int) : (jY s r).filter (volB s depth volume) = covL s r depth volume := by
 unfold jY covL
 rw [List.filter_filter]
 refine List.filter_congr fun c _ => ?_
 rw [Bool.and_comm]
 rfl
theorem allC_le {s : List Lp} {r : Rl} (hcr : CR s r) : (jY s r).length ≤ 2985984 := by
 have hla := hcr.r.laps
 have h1 := iG s.length (nL r) hcr.s.n2 (by unfold nL; omega)
 have h2 := List.length_filter_le (dZ s r) (coursesL s.length (nL r))
 exact Nat.le_trans h2 h1
theorem mG {s : List Lp} {r : Rl} (hcr : CR s r) {c : List Int} (hc : c ∈ jY s r) : c.length ≤ 6 := by
 have hla := hcr.r.laps
 have hm := eU.1 (List.mem_filter.1 hc).1
 rw [hm.1]
 unfold nL
 omega
set_option maxHeartbeats 8000000 in
theorem rcov_main (w : World) (lo hi : Nat) (a : Option Addr) (cp : Nat) (s : List Lp) (r : Rl) (depth volume : Int) (h : RdL w lo hi (.slice a s.length cp) s) (hcr : CR s r) (hdp : 1 ≤ depth ∧ depth ≤ 200) (hvo : 0 ≤ volume ∧ volume ≤ 10000000) :
  Ca Tryz.prog 49 [.slice a s.length cp, .agg (rlC r).toArray, .int .i64 depth, .int .i64 volume] w fun x w' => ∃ y : Value × List (Value × List Int), (((x = .tuple #[y.1, .int .i64 0] ∧ (covL s r depth volume).length ≤ 300) ∨ (x = .tuple #[.slice none 0 0, .int .i64 10] ∧ 300 < (covL s r depth volume).length)) ∧ y.2.map (·.2) = covL s r depth volume) ∧ Sat w M0 (lsK y.1 y.2) w' := by
 have hn2 := hcr.s.n2
 refine cS (Sat.nil w M0) Tryz.func49 rfl (by simp [Tryz.ntmps49]) ?_
 (refine aD (aB ?_))
 refine bD Z Z (fun b5 => ?_)
 (refine aA V Z Z (aA V Z Z (aF (aD (aD (aB (aA V Z Z (aJ V Z Z Z ?_))))))))
 refine aK (val := .int .i64 0) V rfl rfl rfl rfl (fun w hs => ?_) ?_; exact by have := dK w lo hi a cp s r (RdE.keep h hs.chg0) (by omega); rw [cA.2 hcr] at this; exact this
 (refine aA V Z Z (aF (aD (aB (aA V Z Z (aW V Z Z Z (by omega) (aF (aH Z (aM (aD (aD (aB ?_))))))))))); refine aA V Z Z ?_)
 refine aK (val := .bool false) V rfl rfl rfl rfl (fun w hs => ?_) ?_; exact by have := eO depth 1 200 w; rw [cD.2 hdp] at this; exact this
 (refine aA V Z Z (aE Z (aA V Z Z (aE Z ?_))))
 refine aK (val := .bool false) V rfl rfl rfl rfl (fun w hs => ?_) ?_; exact by have := eO volume 0 10000000 w; rw [cD.2 hvo] at this; exact this
 (refine aA V Z Z (aF (aH Z (aM (aD (aB (aA V Z Z (aJ V Z Z Z ?_))))))))
 refine bG (β := Value × List (Value × List Int)) V [] _ M0 rfl rfl rfl rfl (Sp.refl _) (fun _ h => h.elim) (fun w' hs => mJ w' lo hi a cp s r (RdE.keep h hs.chg0) hcr) ?_
 rintro ⟨_, xs⟩ v0 ⟨rfl, hI⟩
 dsimp only [lsK, List.cons_append, List.nil_append] at hI ⊢
 have hxl : xs.length ≤ 2985984 := by have := congrArg List.length hI; rw [List.length_map] at this; have := allC_le hcr; omega
 have eA : (xs.filter (fun q => volB s depth volume q.2)).map (·.2) = covL s r depth volume := by rw [filter_map2, hI, cov_vol]
 refine bL (fun w hs => hs.slice2 (v := v0) (by repeat constructor)) ?_
 rintro ⟨va, vc, rfl⟩
 (refine aA V Z Z (aF (aD (aB (aA V Z Z (aF (aD (aD (aB (aA V Z Z (aF (aQ ?_))))))))))))
 refine eD (H' := [.ow (.slice none 0 0) 22 1 0 [], .ow (.slice va xs.length vc) 22 1 xs.length (xs.map (·.1)), un (gC 3 xs)]) (fun w' hs => (Sat.ownil hs 22 1).sp (by repeat constructor)) ?_
 refine cB (σ := Nat × Value) (fun s => s.1 ≤ xs.length) (fun s => xs.length - s.1) (fun q => [(0, .slice a s.length cp), (2, .int .i64 depth), (3, .int .i64 volume), (11, .slice va xs.length vc), (12, q.2), (13, .int .i64 q.1)])
  (fun q => [.ow q.2 22 1 ((xs.take q.1).filter (fun q => volB s depth volume q.2)).length (((xs.take q.1).filter (fun q => volB s depth volume q.2)).map (·.1)), .ow (.slice va xs.length vc) 22 1 xs.length (xs.map (·.1)), un (gC 3 xs)]) (0, .slice none 0 0) (by simp) ⟨rfl, rfl, rfl, rfl, rfl, rfl, trivial⟩ (by repeat constructor) ?_
 rintro ⟨i, v⟩ hik K hK
 simp only at hik
 dsimp only
 (refine aD (aD (aB ?_)); (iterate 4 refine aA V Z Z ?_); refine aF ?_)
 refine dL Z (fun hc => ?_) (fun hc => ?_)
 ·have hi2 : i < xs.length := by omega
  clear hc
  have eF := filter_take (fun q => volB s depth volume q.2) xs hi2
  have hmem : xs[i] ∈ xs := List.getElem_mem hi2
  have hfl : ((xs.take i).filter (fun q => volB s depth volume q.2)).length ≤ i := by have h1 := List.length_filter_le (fun q : Value × List Int => volB s depth volume q.2) (xs.take i); rw [List.length_take] at h1; omega
  generalize hx : xs[i] = p at *
  obtain ⟨u, c⟩ := p
  dsimp only at eF
  have hcm : c ∈ jY s r := by rw [← hI]; exact List.mem_map.2 ⟨_, hmem, rfl⟩
  have hc6 := mG hcr hcm
  have hsn := snowE_in hcr hdp hcm
  refine cX (fun w hs => hs.ownSome (v := .slice va xs.length vc) (by repeat constructor) (by omega)) ?_
  rintro ⟨g0, d0, e⟩
  cases e
  refine cX (fun w hs => kK hs (xs := xs) (t := 3) (by repeat constructor) hmem) ?_
  rintro ⟨ua, uc, rfl⟩
  have hvb : volB s depth volume c = (decide (snowV s c depth ≤ volume) && true) := rfl
  (refine aM (aD (aQ (aD (aB ?_)))); (iterate 3 refine aA V Z Z ?_))
  refine aV V Z Z Z Z Z (by omega) (by omega) ?_
  refine bB (v := .slice ua c.length uc) V rfl rfl rfl (fun w hs => gO hs (by repeat constructor) hi2 hx) ?_
  (refine aA V Z Z ?_)
  refine aK (val := .tuple #[.int .i64 (snowV s c depth), .int .i64 0]) V rfl rfl rfl rfl (fun w hs => ?_) ?_; exact by have := lN w lo hi 0 w.heap.size a cp (.slice ua c.length uc) s c depth (RdE.keep h hs.chg0) (by omega) (ls_rd hs (xs := xs) (t := 3) (by repeat constructor) hmem) (by omega); rw [hsn] at this; exact this
  generalize snowV s c depth = z at *
  by_cases hz : z ≤ volume
  ·rw [hvb, decide_eq_true hz, if_pos (by simp)] at eF
   (refine aA V Z Z (aT V Z Z Z (aT V Z Z Z (aA V Z Z (aA V Z Z (aF (aD (aB (aA V Z Z (aA V Z Z (ql_leqT V Z Z Z (by omega) (aF ?_))))))))))); refine aL Z (aB ?_); (iterate 3 refine aA V Z Z ?_))
   refine aV V Z Z Z Z Z (by omega) (by omega) ?_
   refine bB (v := .slice ua c.length uc) V rfl rfl rfl (fun w hs => gO hs (by repeat constructor) hi2 hx) ?_
   refine cJ 22 [.slice ua c.length uc] rfl (by kernel_rfl) rfl (fun bn => ?_)
   refine bZ (q := 1) slII rfl rfl rfl (fun v' => by repeat constructor) (fun w' hs => ⟨_, _, Blk.rd (hs.blk (b := bn) (by repeat constructor)) rfl 1⟩) (by simp [cU]) (by omega) (by omega) (fun v2 => ?_)
   (refine aA V Z Z (aF (bJ (aB (aA V Z Z (bA V Z Z Z Z (by omega) (by omega) (aA V Z Z (aF ?_))))))))
   exact hK (i + 1, v2) _ _ (by simp only; omega) (by simp only; omega) ⟨rfl, rfl, rfl, rfl, rfl, rfl, trivial⟩ (by dsimp only; rw [eF, List.map_append, List.length_append]; repeat constructor)
  ·rw [hvb, decide_eq_false hz, if_neg (by simp), List.append_nil] at eF
   (refine aA V Z Z (aT V Z Z Z (aT V Z Z Z (aA V Z Z (aA V Z Z (aF (aD (aB (aA V Z Z (aA V Z Z (ql_leqF V Z Z Z (by omega) (aF ?_))))))))))); refine aH Z (aM (bJ (aB (aA V Z Z (bA V Z Z Z Z (by omega) (by omega) (aA V Z Z (aF ?_))))))))
   exact hK (i + 1, v) _ _ (by simp only; omega) (by simp only; omega) ⟨rfl, rfl, rfl, rfl, rfl, rfl, trivial⟩ (by dsimp only; rw [eF]; repeat constructor)
 ·obtain rfl : i = xs.length := by omega
  rw [List.take_length]
  have hel := congrArg List.length eA
  rw [List.length_map] at hel
  clear hK hc
  generalize hF : (xs.filter (fun q => volB s depth volume q.2)) = F at *
  have hfl : F.length ≤ xs.length := by rw [← hF]; exact List.length_filter_le _ _
  refine cX (fun w hs => hs.slice2 (v := v) (by repeat constructor)) ?_
  rintro ⟨ya, yc, rfl⟩
  by_cases h3 : F.length ≤ 300
  ·(refine bO _ rfl (aD (aD (aB (aA V Z Z (aA V Z Z (cT V Z Z Z (by omega) (aF (aH Z (aM (aD (aB ?_))))))))))); (iterate 3 refine aA V Z Z ?_); refine aF (aS ?_))
   refine aU V Z (by repeat constructor) fun w hs => ?_
   refine ⟨(_, F), ⟨.inl ⟨rfl, by omega⟩, eA⟩, ?_⟩
   subst hF
   exact (kX (R := [.ow (.slice va xs.length vc) 22 1 xs.length (xs.map (·.1))]) _ (hs.sp (by repeat constructor))).sp (by repeat constructor)
  ·(refine bO _ rfl (aD (aD (aB (aA V Z Z (aA V Z Z (cP V Z Z Z (by omega) (aF (aL Z (aD (aB (aA V Z Z ?_))))))))))); refine aA V Z Z (aF (aS ?_)))
   refine aU V Z (by repeat constructor) fun w hs => ?_
   refine ⟨(.slice ya F.length yc, F), ⟨.inr ⟨rfl, by omega⟩, eA⟩, ?_⟩
   subst hF
   exact (kX (R := [.ow (.slice va xs.length vc) 22 1 xs.length (xs.map (·.1))]) _ (hs.sp (by repeat constructor))).sp (by repeat constructor)
end Go.Proofs.YtgeajgmefokifaaGreat

/- Walks of the reference: what a volume covers; the cheapest course. -/
namespace Go.Proofs.YtgeajgmefokifaaGreat
open Go Go.Eng

theorem rcov_ok (w : World) (lo hi : Nat) (a : Option Addr) (cp : Nat) (s : List Lp) (r : Rl) (depth volume : Int) (h : RdL w lo hi (.slice a s.length cp) s) (hlen : s.length ≤ 1000000) (e : (coveredV s r depth volume).2 = 0) :
  Ca Tryz.prog 49 [.slice a s.length cp, .agg (rlC r).toArray, .int .i64 depth, .int .i64 volume] w fun x w' => ∃ y : Value × List (Value × List Int), (x = .tuple #[y.1, .int .i64 0] ∧ y.2.map (·.2) = covL s r depth volume) ∧ Sat w M0 (lsK y.1 y.2) w' := by
 unfold coveredV at e
 split at e
 ·rename_i hh; exact absurd e hh
 rename_i h0
 split at e
 ·cases e
 rename_i h1
 split at e
 ·cases e
 rename_i h2
 have h1' : wiB depth 1 200 = true ∧ wiB volume 0 10000000 = true := by simpa using h1
 exact (rcov_main w lo hi a cp s r depth volume h (cA.1 (by omega)) (cD.1 h1'.1) (cD.1 h1'.2)).mono fun v w' ⟨y, ⟨h1, h4⟩, h3⟩ => by
  rcases h1 with ⟨h1, _⟩ | ⟨_, h1⟩
  ·exact ⟨y, ⟨h1, h4⟩, h3⟩
  ·omega
set_option maxHeartbeats 2000000 in
theorem rcov_no (w : World) (lo hi : Nat) (a : Option Addr) (cp : Nat) (s : List Lp) (r : Rl) (depth volume : Int) (h : RdL w lo hi (.slice a s.length cp) s) (hlen : s.length ≤ 1000000) (e : (coveredV s r depth volume).2 ≠ 0) :
  Ca Tryz.prog 49 [.slice a s.length cp, .agg (rlC r).toArray, .int .i64 depth, .int .i64 volume] w fun x w' => x = .tuple #[.slice none 0 0, .int .i64 (coveredV s r depth volume).2] ∧ Chg [] w w' := by
 by_cases h0 : checkS s r = 0
 ·by_cases h1 : (wiB depth 1 200 && wiB volume 0 10000000) = true
  ·have h1' : wiB depth 1 200 = true ∧ wiB volume 0 10000000 = true := by simpa using h1
   by_cases h3 : 300 < (covL s r depth volume).length
   ·have ev : (coveredV s r depth volume).2 = 10 := by unfold coveredV; rw [if_neg (by omega), if_neg (by simp [h1]), if_pos h3]
    rw [ev]
    exact (rcov_main w lo hi a cp s r depth volume h (cA.1 (by omega)) (cD.1 h1'.1) (cD.1 h1'.2)).mono fun v w' ⟨y, ⟨h1, h2⟩, h4⟩ => by
     rcases h1 with ⟨_, h1⟩ | ⟨h1, _⟩
     ·omega
     ·exact ⟨h1, h4.chg0⟩
   ·exact absurd (by unfold coveredV; rw [if_neg (by omega), if_neg (by simp [h1]), if_neg h3]) e
  ·have ev : (coveredV s r depth volume).2 = 3 := by unfold coveredV; rw [if_neg (by omega), if_pos (Bool.eq_false_iff.2 h1)]
   rw [ev]
   refine cS (Sat.nil w M0) Tryz.func49 rfl (by simp [Tryz.ntmps49]) ?_
   (refine aD (aB ?_))
   refine bD Z Z (fun b5 => ?_)
   (refine aA V Z Z (aA V Z Z (aF (aD (aD (aB (aA V Z Z (aJ V Z Z Z ?_))))))))
   refine aK (val := .int .i64 0) V rfl rfl rfl rfl (fun w hs => ?_) ?_; exact by have := dK w lo hi a cp s r (RdE.keep h hs.chg0) hlen; rw [h0] at this; exact this
   (refine aA V Z Z (aF (aD (aB (aA V Z Z (aW V Z Z Z (by omega) (aF (aH Z (aM (aD (aD (aB ?_))))))))))); refine aA V Z Z ?_)
   refine aK (val := .bool (!(wiB depth 1 200))) V rfl rfl rfl rfl (fun w hs => ?_) ?_; exact eO depth 1 200 w
   cases h2 : wiB depth 1 200 with
   | false =>
    (refine aA V Z Z (bE Z Z Z (bE Z Z Z (aA V Z Z (aF (aL Z (aD (aB (aA V Z Z (aA V Z Z (aF (aS ?_))))))))))))
    refine aU V Z (by repeat constructor) fun w hs => ?_
    exact ⟨rfl, hs.chg0⟩
   | true =>
    rw [h2, Bool.true_and] at h1
    (refine aA V Z Z (aE Z (aA V Z Z (aE Z ?_))))
    refine aK (val := .bool (!(wiB volume 0 10000000))) V rfl rfl rfl rfl (fun w hs => ?_) ?_; exact eO volume 0 10000000 w
    rw [Bool.eq_false_iff.2 h1]
    (refine aA V Z Z (aF (aL Z (aD (aB (aA V Z Z (aA V Z Z (aF (aS ?_)))))))))
    refine aU V Z (by repeat constructor) fun w hs => ?_
    exact ⟨rfl, hs.chg0⟩
 ·have ev : (coveredV s r depth volume).2 = checkS s r := by unfold coveredV; rw [if_pos h0]
  rw [ev]
  refine cS (Sat.nil w M0) Tryz.func49 rfl (by simp [Tryz.ntmps49]) ?_
  (refine aD (aB ?_))
  refine bD Z Z (fun b5 => ?_)
  (refine aA V Z Z (aA V Z Z (aF (aD (aD (aB (aA V Z Z (aJ V Z Z Z ?_))))))))
  refine aK (val := .int .i64 (checkS s r)) V rfl rfl rfl rfl (fun w hs => ?_) ?_; exact dK w lo hi a cp s r (RdE.keep h hs.chg0) hlen
  generalize checkS s r = z at *
  (refine aA V Z Z (aF (aD (aB (aA V Z Z (bW V Z Z Z (by omega) (aF (aL Z (aD (aB ?_))))))))); (iterate 3 refine aA V Z Z ?_); refine aF (aS ?_))
  refine aU V Z (by repeat constructor) fun w hs => ?_
  exact ⟨rfl, hs.chg0⟩
def ltS (s : List Lp) (depth : Int) (a b : List Int) : Bool := decide (snowV s a depth < snowV s b depth) && true
theorem cheapO_eq (s : List Lp) (r : Rl) (depth : Int) : eQ s r depth (coursesL s.length (nL r)) = (jY s r).foldl (iI (ltS s depth)) none := jQ s r depth _ none
set_option maxHeartbeats 8000000 in
theorem rcheap_main (w : World) (lo hi : Nat) (a : Option Addr) (cp : Nat) (s : List Lp) (r : Rl) (depth : Int) (h : RdL w lo hi (.slice a s.length cp) s) (hcr : CR s r) (hdp : 1 ≤ depth ∧ depth ≤ 200) :
  Ca Tryz.prog 50 [.slice a s.length cp, .agg (rlC r).toArray, .int .i64 depth] w fun x w' => ∃ y : Value × List Int, ((x = .tuple #[y.1, .int .i64 (snowV s y.2 depth), .int .i64 0] ∧ eQ s r depth (coursesL s.length (nL r)) = some y.2) ∨ (x = .tuple #[.slice none 0 0, .int .i64 0, .int .i64 6] ∧ eQ s r depth (coursesL s.length (nL r)) = none ∧ y = (.slice none 0 0, []))) ∧ Sat w M0 [.ow y.1 3 1 y.2.length (aP y.2)] w' := by
 have hn2 := hcr.s.n2
 have hO := cheapO_eq s r depth
 refine cS (Sat.nil w M0) Tryz.func50 rfl (by simp [Tryz.ntmps50]) ?_
 (refine aD (aB ?_))
 refine bD Z Z (fun b4 => ?_)
 ((iterate 3 refine aA V Z Z ?_); refine aF (aD (aD (aB (aA V Z Z (aJ V Z Z Z ?_))))))
 refine aK (val := .int .i64 0) V rfl rfl rfl rfl (fun w hs => ?_) ?_; exact by have := dK w lo hi a cp s r (RdE.keep h hs.chg0) (by omega); rw [cA.2 hcr] at this; exact this
 (refine aA V Z Z (aF (aD (aB (aA V Z Z (aW V Z Z Z (by omega) (aF (aH Z (aM (aD (aD (aB ?_))))))))))); refine aA V Z Z ?_)
 refine aK (val := .bool false) V rfl rfl rfl rfl (fun w hs => ?_) ?_; exact by have := eO depth 1 200 w; rw [cD.2 hdp] at this; exact this
 (refine aF (aH Z (aM (aD (aB (aA V Z Z (aJ V Z Z Z ?_)))))))
 refine bG (β := Value × List (Value × List Int)) V [] _ M0 rfl rfl rfl rfl (Sp.refl _) (fun _ h => h.elim) (fun w' hs => mJ w' lo hi a cp s r (RdE.keep h hs.chg0) hcr) ?_
 rintro ⟨_, xs⟩ v0 ⟨rfl, hI⟩
 dsimp only [lsK, List.cons_append, List.nil_append] at hI ⊢
 have hxl : xs.length ≤ 2985984 := by have := congrArg List.length hI; rw [List.length_map] at this; have := allC_le hcr; omega
 have hmm : ∀ u c, (u, c) ∈ xs → c ∈ jY s r ∧ c.length ≤ 6 ∧ gN s c depth = (snowV s c depth, 0) := fun u c hm => by
  have : c ∈ jY s r := by rw [← hI]; exact List.mem_map.2 ⟨_, hm, rfl⟩
  exact ⟨this, mG hcr this, snowE_in hcr hdp this⟩
 rw [← hI] at hO
 have hstep : ∀ i, (hi : i < xs.length) → ((xs.map (·.2)).take (i + 1)).foldl (iI (ltS s depth)) none = iI (ltS s depth) (((xs.map (·.2)).take i).foldl (iI (ltS s depth)) none) xs[i].2 := fun i hi => by
  rw [List.take_succ_eq_append_getElem (by simpa using hi), List.foldl_append, List.getElem_map]
  rfl
 clear hI
 refine bL (fun w hs => hs.slice2 (v := v0) (by repeat constructor)) ?_
 rintro ⟨va, vc, rfl⟩
 by_cases h0 : xs.length = 0
 ·obtain rfl := List.eq_nil_of_length_eq_zero h0
  (refine aA V Z Z (aF (aD (aD (aB (aA V Z Z (aA V Z Z (cO V Z Z Z (by omega) (aF (aL Z (aD (aB ?_))))))))))); (iterate 3 refine aA V Z Z ?_); refine aF (aS ?_))
  refine aU V Z (by repeat constructor) fun w hs => ?_
  exact ⟨(.slice none 0 0, []), .inr ⟨rfl, hO, rfl⟩, (Sat.ownil (t := 3) (sz := 1) hs).sp (by repeat constructor)⟩
 refine bL (fun w hs => hs.ownSome (v := .slice va xs.length vc) (by repeat constructor) (by omega)) ?_
 rintro ⟨g0, d0, e⟩
 cases e
 have h00 := hstep 0 (by omega)
 (refine aA V Z Z (aF (aD (aD (aB (aA V Z Z (aA V Z Z (fP V Z Z Z (by omega) (aF (aH Z (aM (aD ?_))))))))))); refine aB (aA V Z Z (aF (aD (aD (aB (aA V Z Z (aF (aQ ?_)))))))))
 refine cB (σ := Nat × Nat) (fun q => q.1 + 1 ≤ xs.length ∧ ∃ hj : q.2 < xs.length, ((xs.map (·.2)).take (q.1 + 1)).foldl (iI (ltS s depth)) none = some xs[q.2].2) (fun q => xs.length - q.1) (fun q => [(0, .slice a s.length cp), (2, .int .i64 depth), (10, .slice (some ⟨g0, 0, none⟩) xs.length vc), (11, .int .i64 q.2), (12, .int .i64 ((q.1 : Int) + 1))])
  (fun q => [.ow (.slice (some ⟨g0, 0, none⟩) xs.length vc) 22 1 xs.length (xs.map (·.1)), un (gC 3 xs)]) (0, 0) ⟨by simp only; omega, by simp only; omega, h00⟩ ⟨rfl, rfl, rfl, rfl, rfl, trivial⟩ (by repeat constructor) ?_
 rintro ⟨i, j⟩ ⟨hik, hj, hY⟩ K hK
 simp only at hik hj hY
 dsimp only
 have hmemj : xs[j] ∈ xs := List.getElem_mem hj
 generalize hxj : xs[j] = p at *
 obtain ⟨uj, cj⟩ := p
 obtain ⟨mj1, mj2, mj3⟩ := hmm _ _ hmemj
 refine cX (fun w hs => kK hs (xs := xs) (t := 3) (by repeat constructor) hmemj) ?_
 rintro ⟨pa, pc, rfl⟩
 (refine aD (aD (aB ?_)); (iterate 4 refine aA V Z Z ?_); refine aF ?_)
 refine dL Z (fun hc => ?_) (fun hc => ?_)
 ·have hi2 : i + 1 < xs.length := by omega
  clear hc
  have hst := hstep (i + 1) hi2
  have hmem : xs[i + 1] ∈ xs := List.getElem_mem hi2
  generalize hxi : xs[i + 1] = p at *
  obtain ⟨u, c⟩ := p
  rw [hY] at hst
  obtain ⟨mc1, mc2, mc3⟩ := hmm _ _ hmem
  refine cX (fun w hs => kK hs (xs := xs) (t := 3) (by repeat constructor) hmem) ?_
  rintro ⟨wa, wc, rfl⟩
  (refine aM (aD (aQ (aD (aB ?_)))); (iterate 3 refine aA V Z Z ?_))
  refine aV V Z Z Z Z Z (by omega) (by omega) ?_
  refine bB (v := .slice wa c.length wc) V rfl rfl rfl (fun w hs => gO hs (i := i + 1) (by repeat constructor) hi2 hxi) ?_
  (refine aA V Z Z ?_)
  refine aK (val := .tuple #[.int .i64 (snowV s c depth), .int .i64 0]) V rfl rfl rfl rfl (fun w hs => ?_) ?_; exact by have := lN w lo hi 0 w.heap.size a cp (.slice wa c.length wc) s c depth (RdE.keep h hs.chg0) (by omega) (ls_rd hs (xs := xs) (t := 3) (by repeat constructor) hmem) (by omega); rw [mc3] at this; exact this
  (refine aA V Z Z (aT V Z Z Z (aT V Z Z Z (aA V Z Z (aA V Z Z (aF (aD (aB ?_))))))); (iterate 3 refine aA V Z Z ?_))
  refine aV V Z Z Z Z Z (by omega) (by omega) ?_
  refine bB (v := .slice pa cj.length pc) V rfl rfl rfl (fun w hs => gO hs (i := j) (by repeat constructor) hj hxj) ?_
  (refine aA V Z Z ?_)
  refine aK (val := .tuple #[.int .i64 (snowV s cj depth), .int .i64 0]) V rfl rfl rfl rfl (fun w hs => ?_) ?_; exact by have := lN w lo hi 0 w.heap.size a cp (.slice pa cj.length pc) s cj depth (RdE.keep h hs.chg0) (by omega) (ls_rd hs (xs := xs) (t := 3) (by repeat constructor) hmemj) (by omega); rw [mj3] at this; exact this
  have hst2 : ((xs.map (·.2)).take (i + 1 + 1)).foldl (iI (ltS s depth)) none = if decide (snowV s c depth < snowV s cj depth) && true then some c else some cj := hst
  generalize snowV s c depth = z1 at *
  generalize snowV s cj depth = z2 at *
  by_cases hz : z1 < z2
  ·rw [decide_eq_true hz, if_pos (by simp)] at hst2
   (refine aA V Z Z (aT V Z Z Z (aT V Z Z Z (aA V Z Z (aA V Z Z (aF (aD (aB (aA V Z Z (aA V Z Z (cL V Z Z Z (by omega) (aF ?_))))))))))); refine aL Z (aB (aA V Z Z (aA V Z Z (aF (bJ (aB (aA V Z Z (bA V Z Z Z Z (by omega) (by omega) (aA V Z Z (aF ?_)))))))))))
   exact hK (i + 1, i + 1) _ _ ⟨by simp only; omega, hi2, by rw [hst2, hxi]⟩ (by simp only; omega) ⟨rfl, rfl, rfl, rfl, rfl, trivial⟩ (by repeat constructor)
  ·rw [decide_eq_false hz, if_neg (by simp)] at hst2
   (refine aA V Z Z (aT V Z Z Z (aT V Z Z Z (aA V Z Z (aA V Z Z (aF (aD (aB (aA V Z Z (aA V Z Z (cI V Z Z Z (by omega) (aF ?_))))))))))); refine aH Z (aM (bJ (aB (aA V Z Z (bA V Z Z Z Z (by omega) (by omega) (aA V Z Z (aF ?_))))))))
   exact hK (i + 1, j) _ _ ⟨by simp only; omega, hj, by rw [hst2, hxj]⟩ (by simp only; omega) ⟨rfl, rfl, rfl, rfl, rfl, trivial⟩ (by repeat constructor)
 ·have hie : i + 1 = xs.length := by omega
  rw [hie, List.take_of_length_le (by simp)] at hY
  have hO2 := hO.trans hY
  (refine bO _ rfl (aD (aB ?_)); (iterate 3 refine aA V Z Z ?_))
  refine aV V Z Z Z Z Z (by omega) (by omega) ?_
  refine bB (v := .slice pa cj.length pc) V rfl rfl rfl (fun w hs => gO hs (i := j) (by repeat constructor) hj hxj) ?_
  (refine aA V Z Z ?_)
  refine aK (val := .tuple #[.int .i64 (snowV s cj depth), .int .i64 0]) V rfl rfl rfl rfl (fun w hs => ?_) ?_; exact by have := lN w lo hi 0 w.heap.size a cp (.slice pa cj.length pc) s cj depth (RdE.keep h hs.chg0) (by omega) (ls_rd hs (xs := xs) (t := 3) (by repeat constructor) hmemj) (by omega); rw [mj3] at this; exact this
  (refine aA V Z Z (aT V Z Z Z (aT V Z Z Z (aA V Z Z (aA V Z Z (aF (aD (aB (aA V Z Z (aA V Z Z ?_))))))))))
  refine aV V Z Z Z Z Z (by omega) (by omega) ?_
  refine bB (v := .slice pa cj.length pc) V rfl rfl rfl (fun w hs => gO hs (i := j) (by repeat constructor) hj hxj) ?_
  ((iterate 4 refine aA V Z Z ?_); refine aF (aS ?_))
  refine aU V Z (by repeat constructor) fun w hs => ?_
  refine ⟨(_, cj), .inl ⟨rfl, hO2⟩, ?_⟩
  have h1 : Sat _ _ (un (gC 3 xs) :: []) w := hs.sp (by repeat constructor)
  have h2 := un_sub (L' := [.ow (.slice pa cj.length pc) 3 1 cj.length (aP cj)]) h1 (List.singleton_sublist.2 (List.mem_map.2 ⟨_, hmemj, rfl⟩))
  exact (Sat.un_iff.1 h2).sp (by repeat constructor)
theorem rcheap_ok (w : World) (lo hi : Nat) (a : Option Addr) (cp : Nat) (s : List Lp) (r : Rl) (depth : Int) (c : List Int) (h : RdL w lo hi (.slice a s.length cp) s) (hcr : CR s r) (hdp : 1 ≤ depth ∧ depth ≤ 200) (ho : eQ s r depth (coursesL s.length (nL r)) = some c) :
  Ca Tryz.prog 50 [.slice a s.length cp, .agg (rlC r).toArray, .int .i64 depth] w fun x w' => ∃ v : Value, x = .tuple #[v, .int .i64 (snowV s c depth), .int .i64 0] ∧ Sat w M0 [.ow v 3 1 c.length (aP c)] w' :=
 (rcheap_main w lo hi a cp s r depth h hcr hdp).mono fun x w' ⟨y, h1, h2⟩ => by
  rcases h1 with ⟨h1, h3⟩ | ⟨_, h3, _⟩
  ·rw [ho] at h3
   cases h3
   exact ⟨y.1, h1, h2⟩
  ·rw [ho] at h3
   cases h3
set_option maxHeartbeats 2000000 in
theorem rcheap_no (w : World) (lo hi : Nat) (a : Option Addr) (cp : Nat) (s : List Lp) (r : Rl) (depth : Int) (h : RdL w lo hi (.slice a s.length cp) s) (hlen : s.length ≤ 1000000) (e : (cheapV s r depth).2.2 ≠ 0) :
  Ca Tryz.prog 50 [.slice a s.length cp, .agg (rlC r).toArray, .int .i64 depth] w fun x w' => x = .tuple #[.slice none 0 0, .int .i64 0, .int .i64 (cheapV s r depth).2.2] ∧ Chg [] w w' := by
 by_cases h0 : checkS s r = 0
 ·by_cases h1 : wiB depth 1 200 = true
  ·cases ho : eQ s r depth (coursesL s.length (nL r)) with
   | none =>
    have ev : (cheapV s r depth).2.2 = 6 := by unfold cheapV; rw [if_neg (by omega), if_neg (by simp [h1]), ho]
    rw [ev]
    exact (rcheap_main w lo hi a cp s r depth h (cA.1 h0) (cD.1 h1)).mono fun v w' ⟨y, h1, h4⟩ => by
     rcases h1 with ⟨_, h1⟩ | ⟨h1, _⟩
     ·rw [ho] at h1; cases h1
     ·exact ⟨h1, h4.chg0⟩
   | some c => exact absurd (by unfold cheapV; rw [if_neg (by omega), if_neg (by simp [h1]), ho]) e
  ·have ev : (cheapV s r depth).2.2 = 3 := by unfold cheapV; rw [if_neg (by omega), if_pos (Bool.eq_false_iff.2 h1)]
   rw [ev]
   refine cS (Sat.nil w M0) Tryz.func50 rfl (by simp [Tryz.ntmps50]) ?_
   (refine aD (aB ?_))
   refine bD Z Z (fun b4 => ?_)
   ((iterate 3 refine aA V Z Z ?_); refine aF (aD (aD (aB (aA V Z Z (aJ V Z Z Z ?_))))))
   refine aK (val := .int .i64 0) V rfl rfl rfl rfl (fun w hs => ?_) ?_; exact by have := dK w lo hi a cp s r (RdE.keep h hs.chg0) hlen; rw [h0] at this; exact this
   (refine aA V Z Z (aF (aD (aB (aA V Z Z (aW V Z Z Z (by omega) (aF (aH Z (aM (aD (aD (aB ?_))))))))))); refine aA V Z Z ?_)
   refine aK (val := .bool (!(wiB depth 1 200))) V rfl rfl rfl rfl (fun w hs => ?_) ?_; exact eO depth 1 200 w
   rw [Bool.eq_false_iff.2 h1]
   (refine aF (aL Z (aD (aB ?_))); (iterate 3 refine aA V Z Z ?_); refine aF (aS ?_))
   refine aU V Z (by repeat constructor) fun w hs => ?_
   exact ⟨rfl, hs.chg0⟩
 ·have ev : (cheapV s r depth).2.2 = checkS s r := by unfold cheapV; rw [if_pos h0]
  rw [ev]
  refine cS (Sat.nil w M0) Tryz.func50 rfl (by simp [Tryz.ntmps50]) ?_
  (refine aD (aB ?_))
  refine bD Z Z (fun b4 => ?_)
  ((iterate 3 refine aA V Z Z ?_); refine aF (aD (aD (aB (aA V Z Z (aJ V Z Z Z ?_))))))
  refine aK (val := .int .i64 (checkS s r)) V rfl rfl rfl rfl (fun w hs => ?_) ?_; exact dK w lo hi a cp s r (RdE.keep h hs.chg0) hlen
  generalize checkS s r = z at *
  (refine aA V Z Z (aF (aD (aB (aA V Z Z (bW V Z Z Z (by omega) (aF (aL Z (aD (aB ?_))))))))); (iterate 4 refine aA V Z Z ?_); refine aF (aS ?_))
  refine aU V Z (by repeat constructor) fun w hs => ?_
  exact ⟨rfl, hs.chg0⟩
end Go.Proofs.YtgeajgmefokifaaGreat

/- Walks of the reference: the error of a weather. -/
namespace Go.Proofs.YtgeajgmefokifaaGreat
open Go Go.Eng

set_option maxHeartbeats 2000000 in
theorem rweath_ca (w : World) (lo hi : Nat) (x : Wn) (a : Option Addr) (c : Nat) (t : Wt) (v1 v2 v3 : Value) (h : RdD w lo hi (.slice a x.days.length c) x.days) (hlen : x.days.length ≤ 1000000) (hw : WtR w t v1 v2 v3) (hl1 : t.need.length ≤ 1000000) (hl2 : t.make.length ≤ 1000000) (hl3 : t.loss.length ≤ 1000000) :
  Ca Tryz.prog 59 [.agg (wnC x a c).toArray, v1, v2, v3] w fun r w' => r = .int .i64 (weatV x t) ∧ Chg [] w w' := by
 obtain ⟨lo1, hi1, r1⟩ := hw.n
 obtain ⟨lo2, hi2, r2⟩ := hw.m
 obtain ⟨lo3, hi3, r3⟩ := hw.l
 obtain ⟨a1, c1, rfl, hs1⟩ := RdI.outI r1
 obtain ⟨a2, c2, rfl, hs2⟩ := RdI.outI r2
 obtain ⟨a3, c3, rfl, hs3⟩ := RdI.outI r3
 obtain ⟨a', c', he, hsa⟩ := RdD.outI h
 cases he
 refine cS (Sat.nil w M0) Tryz.func59 rfl (by simp [Tryz.ntmps59]) ?_
 (refine aD (aB ?_))
 refine bD Z Z (fun b4 => ?_)
 (refine aA V Z Z (aF (aD (aD (aB (aJ V Z Z Z ?_))))))
 refine aK (val := .int .i64 (checkW x)) V rfl rfl rfl rfl (fun w hs => ?_) ?_; exact fM w lo hi x a c (RdE.keep h hs.chg0) hlen
 by_cases h0 : checkW x ≠ 0
 ·have e : weatV x t = checkW x := by unfold weatV; rw [if_pos h0]
  rw [e]
  rcases gT x with h1 | h1 | h1
  ·exact absurd h1 h0
  ·rw [h1]
   (refine aA V Z Z (aF (aD (aB (aA V Z Z (bW V Z Z Z (by omega) (aF (aL Z (aD (aB (aA V Z Z (aA V Z Z ?_))))))))))); refine aF (aS ?_))
   refine aU V Z (by repeat constructor) fun w hs => ?_
   exact ⟨rfl, hs.chg0⟩
  ·rw [h1]
   (refine aA V Z Z (aF (aD (aB (aA V Z Z (bW V Z Z Z (by omega) (aF (aL Z (aD (aB (aA V Z Z (aA V Z Z ?_))))))))))); refine aF (aS ?_))
   refine aU V Z (by repeat constructor) fun w hs => ?_
   exact ⟨rfl, hs.chg0⟩
 have h0 : checkW x = 0 := by omega
 rw [h0]
 have hx := bU.1 h0
 have hn := hx.d2
 have hn1 := hx.d1
 by_cases k1 : t.need.length ≠ x.days.length
 ·have e : weatV x t = 2 := by unfold weatV; rw [if_neg (by omega), if_pos (by omega)]
  (refine aA V Z Z (aF (aD (aB (aA V Z Z (aW V Z Z Z (by omega) (aF (aH Z (aM (aD (aB (aA V Z Z ?_))))))))))); refine aI V Z Z Z (aA V Z Z (aA V Z Z (aF (aD (aD (aB ?_)))))); (iterate 3 refine aA V Z Z ?_); refine bW V Z Z Z (by omega) (aA V Z Z ?_); (iterate 4 refine bE Z Z Z ?_); refine aA V Z Z (aA V Z Z ?_); (iterate 4 refine bE Z Z Z ?_); refine aA V Z Z (aF (aL Z (aD (aB (aA V Z Z (aF (aS ?_))))))))
  refine aU V Z (by repeat constructor) fun w hs => ?_
  exact ⟨by rw [e]; rfl, hs.chg0⟩
 by_cases k2 : t.make.length ≠ x.days.length
 ·have e : weatV x t = 2 := by unfold weatV; rw [if_neg (by omega), if_pos (by omega)]
  (refine aA V Z Z (aF (aD (aB (aA V Z Z (aW V Z Z Z (by omega) (aF (aH Z (aM (aD (aB (aA V Z Z ?_))))))))))); refine aI V Z Z Z (aA V Z Z (aA V Z Z (aF (aD (aD (aB ?_)))))); (iterate 3 refine aA V Z Z ?_); refine aW V Z Z Z (by omega) (aA V Z Z (aE Z (aA V Z Z (aE Z (aA V Z Z (aE Z (aA V Z Z (aE Z (bW V Z Z Z (by omega) (aA V Z Z (aA V Z Z ?_))))))))))); (iterate 4 refine bE Z Z Z ?_); refine aA V Z Z (aF (aL Z (aD (aB (aA V Z Z (aF (aS ?_))))))))
  refine aU V Z (by repeat constructor) fun w hs => ?_
  exact ⟨by rw [e]; rfl, hs.chg0⟩
 by_cases k3 : t.loss.length ≠ x.days.length
 ·have e : weatV x t = 2 := by unfold weatV; rw [if_neg (by omega), if_pos (by omega)]
  (refine aA V Z Z (aF (aD (aB (aA V Z Z (aW V Z Z Z (by omega) (aF (aH Z (aM (aD (aB (aA V Z Z ?_))))))))))); refine aI V Z Z Z (aA V Z Z (aA V Z Z (aF (aD (aD (aB ?_)))))); (iterate 3 refine aA V Z Z ?_); refine aW V Z Z Z (by omega) (aA V Z Z (aE Z (aA V Z Z (aE Z (aA V Z Z (aE Z (aA V Z Z (aE Z (aW V Z Z Z (by omega) (aA V Z Z (aA V Z Z ?_))))))))))); refine aE Z (aA V Z Z (aE Z (aA V Z Z (aE Z (aA V Z Z (aE Z (bW V Z Z Z (by omega) (aA V Z Z (aF (aL Z (aD ?_))))))))))); refine aB (aA V Z Z (aF (aS ?_))))
  refine aU V Z (by repeat constructor) fun w hs => ?_
  exact ⟨by rw [e]; rfl, hs.chg0⟩
 have k1 : t.need.length = x.days.length := by omega
 have k2 : t.make.length = x.days.length := by omega
 have k3 : t.loss.length = x.days.length := by omega
 have eC : weatV x t = if (List.range x.days.length).all (inB x t) = true then 0 else 3 := by
  unfold weatV
  rw [if_neg (by omega), if_neg (by omega)]
 obtain ⟨b, off, rfl⟩ := hsa (by omega)
 obtain ⟨g1, f1, rfl⟩ := hs1 (by omega)
 obtain ⟨g2, f2, rfl⟩ := hs2 (by omega)
 obtain ⟨g3, f3, rfl⟩ := hs3 (by omega)
 (refine aA V Z Z (aF (aD (aB (aA V Z Z (aW V Z Z Z (by omega) (aF (aH Z (aM (aD (aB (aA V Z Z ?_))))))))))); refine aI V Z Z Z (aA V Z Z (aA V Z Z (aF (aD (aD (aB ?_)))))); (iterate 3 refine aA V Z Z ?_); refine aW V Z Z Z (by omega) (aA V Z Z (aE Z (aA V Z Z (aE Z (aA V Z Z (aE Z (aA V Z Z (aE Z (aW V Z Z Z (by omega) (aA V Z Z (aA V Z Z ?_))))))))))); refine aE Z (aA V Z Z (aE Z (aA V Z Z (aE Z (aA V Z Z (aE Z (aW V Z Z Z (by omega) (aA V Z Z (aF (aH Z (aM ?_))))))))))); refine aD (aD (aB (aA V Z Z (aF (aQ ?_))))))
 refine cB (σ := Nat) (fun k => k ≤ x.days.length ∧ (List.range k).all (inB x t) = true) (fun k => x.days.length - k) (fun k => [(1, .slice (some ⟨g1, f1, none⟩) t.need.length c1), (2, .slice (some ⟨g2, f2, none⟩) t.make.length c2), (3, .slice (some ⟨g3, f3, none⟩) t.loss.length c3), (4, .pointer (some ⟨b4, 0, none⟩)), (10, .int .i64 x.days.length), (11, .int .i64 k)]) (fun _ => [.pt b4 (wnC x (some ⟨b, off, none⟩) c) 108]) 0 ⟨by omega, rfl⟩ ⟨rfl, rfl, rfl, rfl, rfl, rfl, trivial⟩ (by repeat constructor) ?_
 rintro k ⟨hk, hall⟩ K hK
 (refine aD (aD (aB ?_)); (iterate 3 refine aA V Z Z ?_); refine aF ?_)
 refine dL Z (fun hc => ?_) (fun hc => ?_)
 ·have hk2 : k < x.days.length := by first | omega | (simp at hc; omega)
  clear hc
  have y1 : k < t.need.length := by omega
  have y2 : k < t.make.length := by omega
  have y3 : k < t.loss.length := by omega
  have e : (List.range (k + 1)).all (inB x t) = inB x t k := by rw [List.range_succ, List.all_append, hall]; simp
  have e2 : inB x t k = false → (List.range x.days.length).all (inB x t) = false := fun hh => List.all_eq_false.2 ⟨k, List.mem_range.2 hk2, by simp [hh]⟩
  have e3 : inB x t k = (wiB t.need[k] x.days[k].n0 x.days[k].n1 && wiB t.make[k] x.days[k].m0 x.days[k].m1 && wiB t.loss[k] x.days[k].l0 x.days[k].l1) := by
   have e : x.days.getD k ⟨0, 0, 0, 0, 0, 0⟩ = x.days[k] := by rw [List.getD_eq_getElem?_getD, List.getElem?_eq_getElem hk2]; rfl
   simp only [inB, e, cR y1, cR y2, cR y3, wiB]
  (refine aM (aD (aQ (aD (aB (aA V Z Z (aI V Z Z Z (aA V Z Z ?_))))))))
  refine aV V Z Z Z Z Z (by omega) (by omega) ?_
  skip
  refine dU V Z Z Z Z (fun w hs => RdD.at (RdE.keep h hs.chg0) k hk2) ?_
  skip
  refine bI zero175 rfl (fun b12 => ?_)
  (refine bS V Z Z Z Z Z (by repeat constructor) rfl ?_; refine aF (aD ?_))
  refine cQ _ [] (Sp.refl _) (by kernel_rfl) (by kernel_rfl) ?_
  (refine aG V Z Z Z (aG V Z Z Z ?_))
  (refine bR V Z Z Z Z Z (by omega) (by omega) ?_; refine cC V Z Z Z (fun w hs => RdI.at (RdE.keep r1 hs.chg0) k y1) ?_)
  (refine aG V Z Z Z (aG V Z Z Z (aN V Z Z Z (aG V Z Z Z (aG V Z Z Z (aN V Z Z Z ?_))))))
  refine bT (val := .bool (!(wiB t.need[k] x.days[k].n0 x.days[k].n1))) V rfl rfl rfl rfl (fun w hs => ?_) ?_; exact eO t.need[k] x.days[k].n0 x.days[k].n1 w
  cases g1 : wiB t.need[k] x.days[k].n0 x.days[k].n1 with
  | false =>
   (refine aG V Z Z Z ?_; (iterate 11 refine hG Z Z Z ?_); refine aG V Z Z Z (aG V Z Z Z ?_); (iterate 11 refine hG Z Z Z ?_); refine aG V Z Z Z (aO (aL Z (aD (aB (aA V Z Z (aF (aS ?_))))))))
   refine aU V Z (by repeat constructor) fun w hs => ?_
   exact ⟨by rw [eC, e2 (by rw [e3, g1]; rfl)]; rfl, hs.chg0⟩
  | true =>
  (refine aG V Z Z Z (aX Z (aG V Z Z Z (aX Z (aG V Z Z Z (aX Z ?_))))))
  refine bR V Z Z Z Z Z (by omega) (by omega) ?_
  (refine aX Z ?_)
  refine cC (v := .int .i64 t.make[k]) V rfl rfl rfl (fun w hs => RdI.at (RdE.keep r2 hs.chg0) k y2) ?_
  (refine aX Z (aG V Z Z Z (aX Z (aG V Z Z Z (aX Z (aN V Z Z Z (aX Z (aG V Z Z Z (aX Z (aG V Z Z Z (aX Z (aN V Z Z Z ?_))))))))))); refine aX Z ?_)
  refine bT (val := .bool (!(wiB t.make[k] x.days[k].m0 x.days[k].m1))) V rfl rfl rfl rfl (fun w hs => ?_) ?_; exact eO t.make[k] x.days[k].m0 x.days[k].m1 w
  cases g2 : wiB t.make[k] x.days[k].m0 x.days[k].m1 with
  | false =>
   (refine aG V Z Z Z (aG V Z Z Z ?_); (iterate 11 refine hG Z Z Z ?_); refine aG V Z Z Z (aO (aL Z (aD (aB (aA V Z Z (aF (aS ?_))))))))
   refine aU V Z (by repeat constructor) fun w hs => ?_
   exact ⟨by rw [eC, e2 (by rw [e3, g1, g2]; rfl)]; rfl, hs.chg0⟩
  | true =>
  (refine aG V Z Z Z (aG V Z Z Z (aX Z (aG V Z Z Z (aX Z (aG V Z Z Z (aX Z ?_)))))))
  refine bR V Z Z Z Z Z (by omega) (by omega) ?_
  (refine aX Z ?_)
  refine cC (v := .int .i64 t.loss[k]) V rfl rfl rfl (fun w hs => RdI.at (RdE.keep r3 hs.chg0) k y3) ?_
  (refine aX Z (aG V Z Z Z (aX Z (aG V Z Z Z (aX Z (aN V Z Z Z (aX Z (aG V Z Z Z (aX Z (aG V Z Z Z (aX Z (aN V Z Z Z ?_))))))))))); refine aX Z ?_)
  refine bT (val := .bool (!(wiB t.loss[k] x.days[k].l0 x.days[k].l1))) V rfl rfl rfl rfl (fun w hs => ?_) ?_; exact eO t.loss[k] x.days[k].l0 x.days[k].l1 w
  cases g3 : wiB t.loss[k] x.days[k].l0 x.days[k].l1 with
  | false =>
   (refine aG V Z Z Z (aO (aL Z (aD (aB (aA V Z Z (aF (aS ?_))))))))
   refine aU V Z (by repeat constructor) fun w hs => ?_
   exact ⟨by rw [eC, e2 (by rw [e3, g1, g2, g3]; rfl)]; rfl, hs.chg0⟩
  | true =>
  (refine aG V Z Z Z (aO (aH Z (aM (bJ (aB (aA V Z Z (bA V Z Z Z Z (by omega) (by omega) (aA V Z Z (aF ?_))))))))))
  exact hK (k + 1) _ _ ⟨by omega, by rw [e, e3, g1, g2, g3]; rfl⟩ (by omega) ⟨rfl, rfl, rfl, rfl, rfl, rfl, trivial⟩ (by repeat constructor)
 ·obtain rfl : k = x.days.length := by omega
  (refine bO _ rfl (aD (aB (aA V Z Z (aF (aS ?_))))))
  refine aU V Z (by repeat constructor) fun w hs => ?_
  exact ⟨by rw [eC, hall]; rfl, hs.chg0⟩
end Go.Proofs.YtgeajgmefokifaaGreat

/- Plain laws of what happens, step by step. -/
namespace Go.Proofs.YtgeajgmefokifaaGreat
open Go Go.Eng

theorem hap_next (x : Wn) (t : Wt) {k : Nat} (hf : (hapP x t k).fails = -1) : hapP x t (k + 1) = dayS x.store k (t.need.getD k 0) (t.make.getD k 0) (t.loss.getD k 0) (hapP x t k) := by
 rw [hapP, if_pos hf]
theorem hap_stop (x : Wn) (t : Wt) {k : Nat} (hk : k < x.days.length) (hf : (hapP x t k).fails = -1) (h : kU x.store (hapP x t k).stock (t.make.getD k 0) (t.loss.getD k 0) < t.need.getD k 0) : (hapV x t).fails = (k : Int) ∧ (hapV x t).stocks = (hapP x t k).stocks ∧ (hapV x t).made = (hapP x t k).made := by
 have e := hap_next x t hf
 unfold dayS at e
 rw [if_pos h] at e
 have e2 : hapV x t = hapP x t (k + 1) := mH x t (k := k + 1) (by rw [e]; show ¬((k : Int) = -1); omega) _ hk
 rw [e2, e]
 exact ⟨rfl, rfl, rfl⟩
theorem hap_go (x : Wn) (t : Wt) {k : Nat} (hf : (hapP x t k).fails = -1) (h : ¬ kU x.store (hapP x t k).stock (t.make.getD k 0) (t.loss.getD k 0) < t.need.getD k 0) :
  (hapP x t (k + 1)).fails = -1 ∧ (hapP x t (k + 1)).stock = kU x.store (hapP x t k).stock (t.make.getD k 0) (t.loss.getD k 0) - t.need.getD k 0 ∧ aP (hapP x t (k + 1)).stocks = aP (hapP x t k).stocks ++ [.int .i64 (kU x.store (hapP x t k).stock (t.make.getD k 0) (t.loss.getD k 0) - t.need.getD k 0)] ∧
   aP (hapP x t (k + 1)).made = aP (hapP x t k).made ++ [.int .i64 (eE x.store (hapP x t k).stock (t.make.getD k 0) (t.loss.getD k 0))] := by
 have e := hap_next x t hf
 unfold dayS at e
 rw [if_neg h] at e
 rw [e]
 exact ⟨rfl, rfl, by simp [aP], by simp [aP]⟩
end Go.Proofs.YtgeajgmefokifaaGreat

/- Walk of the reference: what happens in a weather. -/
namespace Go.Proofs.YtgeajgmefokifaaGreat
open Go Go.Eng

set_option maxHeartbeats 4000000 in
theorem rhap_ca (w : World) (lo hi : Nat) (x : Wn) (a : Option Addr) (c : Nat) (t : Wt) (v1 v2 v3 : Value) (h : RdD w lo hi (.slice a x.days.length c) x.days) (hx : x.Right) (ht : t.Fine x.days.length) (hw : WtR w t v1 v2 v3) :
  Ca Tryz.prog 65 [.agg (wnC x a c).toArray, v1, v2, v3] w fun r w' => ∃ y : Value × Value, r = .tuple #[y.1, y.2, .int .i64 (hapV x t).fails] ∧ Sat w M0 [.ow y.1 3 1 (hapV x t).stocks.length (aP (hapV x t).stocks), .ow y.2 3 1 (hapV x t).made.length (aP (hapV x t).made)] w' := by
 have hd2 := hx.d2
 have hd1 := hx.d1
 have hst := hx.store
 have hsk := hx.stock
 have k1 := ht.need
 have k2 := ht.make
 have k3 := ht.loss
 obtain ⟨lo1, hi1, r1⟩ := hw.n
 obtain ⟨lo2, hi2, r2⟩ := hw.m
 obtain ⟨lo3, hi3, r3⟩ := hw.l
 obtain ⟨a1, c1, rfl, hs1⟩ := RdI.outI r1
 obtain ⟨a2, c2, rfl, hs2⟩ := RdI.outI r2
 obtain ⟨a3, c3, rfl, hs3⟩ := RdI.outI r3
 obtain ⟨g1, f1, rfl⟩ := hs1 (by omega)
 obtain ⟨g2, f2, rfl⟩ := hs2 (by omega)
 obtain ⟨g3, f3, rfl⟩ := hs3 (by omega)
 refine cS (Sat.nil w M0) Tryz.func65 rfl (by simp [Tryz.ntmps65]) ?_
 (refine aD (aB ?_))
 refine bD Z Z (fun b4 => ?_)
 ((iterate 3 refine aA V Z Z ?_); refine aF (aD (aB (aA V Z Z (aA V Z Z (aF (aD (aB (aA V Z Z ?_)))))))); refine aI V Z Z Z ?_; refine aA V Z Z (aF (aD (aD (aB (aA V Z Z (aF (aQ ?_))))))))
 refine eD (H' := [.ow (.slice none 0 0) 3 1 0 (aP []), .ow (.slice none 0 0) 3 1 0 (aP []), .pt b4 (wnC x a c) 108]) (fun w' hs => (Sat.ownil (Sat.ownil hs 3 1) 3 1).sp (by repeat constructor)) ?_
 refine cB (σ := Nat × Value × Value) (fun s => s.1 ≤ x.days.length ∧ (hapP x t s.1).fails = -1) (fun s => x.days.length - s.1) (fun s => [(1, .slice (some ⟨g1, f1, none⟩) t.need.length c1), (2, .slice (some ⟨g2, f2, none⟩) t.make.length c2), (3, .slice (some ⟨g3, f3, none⟩) t.loss.length c3), (4, .pointer (some ⟨b4, 0, none⟩)), (11, s.2.1), (12, s.2.2), (13, .int .i64 (hapP x t s.1).stock), (14, .int .i64 s.1)])
  (fun s => [.ow s.2.1 3 1 s.1 (aP (hapP x t s.1).stocks), .ow s.2.2 3 1 s.1 (aP (hapP x t s.1).made), .pt b4 (wnC x a c) 108]) (0, .slice none 0 0, .slice none 0 0) ⟨by simp, rfl⟩ ⟨rfl, rfl, rfl, rfl, rfl, rfl, rfl, rfl, trivial⟩ (by repeat constructor) ?_
 rintro ⟨k, v, u⟩ ⟨hk, hf⟩ K hK
 simp only at hk hf
 dsimp only
 have hok := jM x t hx.stock ht.need0 k hf
 have hs0 := hok.nn k (Nat.le_refl _)
 have hs1 := hok.top
 rw [← hok.stock] at hs0 hs1
 have hL1 : (hapP x t k).stocks.length = k := by rw [hok.stocks]; simp
 have hL2 : (hapP x t k).made.length = k := by rw [hok.made]; simp
 clear hok
 (refine aD (aD (aB (aA V Z Z (aA V Z Z ?_)))); refine aI V Z Z Z ?_; refine aA V Z Z (aA V Z Z (aF ?_)))
 refine dL Z (fun hc => ?_) (fun hc => ?_)
 ·have hk2 : k < x.days.length := by first | omega | (simp at hc; omega)
  clear hc
  have y1 : k < t.need.length := by omega
  have y2 : k < t.make.length := by omega
  have y3 : k < t.loss.length := by omega
  have z1 := ht.need0 _ (List.getElem_mem y1)
  have z2 := ht.make0 _ (List.getElem_mem y2)
  have z3 := ht.loss0 _ (List.getElem_mem y3)
  have hstop := hap_stop x t hk2 hf
  have hgo := hap_go x t hf
  rw [cR y1, cR y2, cR y3] at hstop hgo
  have hF := lQ (store := x.store) (mk := t.make[k]) (ls := t.loss[k]) hs0
  have hM : eE x.store (hapP x t k).stock t.make[k] t.loss[k] = min t.make[k] (x.store - max 0 ((hapP x t k).stock - t.loss[k])) := by unfold eE fE; omega
  rw [hF] at hstop hgo
  rw [hM] at hgo
  clear hF hM
  generalize (hapP x t k).stock = s at *
  (refine aM (aD (aQ (aD (aB ?_)))); (iterate 3 refine aA V Z Z ?_))
  (refine aV V Z Z Z Z Z (by omega) (by omega) ?_; refine bB V Z Z Z (fun w hs => RdI.at (RdE.keep r3 hs.chg0) k y3) ?_)
  (refine bA V Z Z Z Z (by omega) (by omega) (aA V Z Z (aF (aD (aD (aB (aA V Z Z (aA V Z Z (aF ?_)))))))))
  refine dL Z (fun hc => ?_) (fun hc => ?_)
  ·skip
   (refine aB (aA V Z Z (aF (aD (aB (aA V Z Z (aA V Z Z ?_)))))))
   (refine aV V Z Z Z Z Z (by omega) (by omega) ?_; refine bB V Z Z Z (fun w hs => RdI.at (RdE.keep r2 hs.chg0) k y2) ?_)
   (refine aA V Z Z (aF (aD (aD (aB (aA V Z Z (aA V Z Z (bA V Z Z Z Z (by omega) (by omega) (aA V Z Z ?_)))))))); refine aI V Z Z Z ?_; refine aA V Z Z (aF ?_))
   refine dL Z (fun hc => ?_) (fun hc => ?_)
   ·skip
    (refine aB (aA V Z Z ?_); refine aI V Z Z Z ?_; refine aA V Z Z (bA V Z Z Z Z (by omega) (by omega) (aA V Z Z (aF (aD (aB (aA V Z Z (aA V Z Z (bA V Z Z Z Z (by omega) (by omega) (aA V Z Z (aA V Z Z ?_)))))))))))
    (refine aV V Z Z Z Z Z (by omega) (by omega) ?_; refine bB V Z Z Z (fun w hs => RdI.at (RdE.keep r1 hs.chg0) k y1) ?_)
    (refine bA V Z Z Z Z (by omega) (by omega) (aA V Z Z (aF (aD (aD (aB (aA V Z Z (aA V Z Z (aF ?_)))))))))
    refine dL Z (fun hc => ?_) (fun hc => ?_)
    ·obtain ⟨p1, p2, p3⟩ := hstop (by omega)
     (refine aD (aB ?_); (iterate 6 refine aA V Z Z ?_); refine aF (aS ?_))
     refine aU V Z (by repeat constructor) fun w hs => ?_
     exact ⟨(v, u), by rw [p1]; rfl, by rw [p2, p3, hL1, hL2]; exact hs.sp (by repeat constructor)⟩
    ·obtain ⟨p1, p2, p3, p4⟩ := hgo (by omega)
     (refine aM (aB (aA V Z Z (aA V Z Z ?_))))
     refine cJ 3 [.int .i64 (0 + (x.store - 0) - t.need[k])] rfl (by kernel_rfl) rfl (fun c0 => ?_)
     refine bZ (q := 1) slI rfl rfl rfl (fun v' => by repeat constructor) (fun w' hs => ⟨_, _, Blk.rd (hs.blk (b := c0) (by repeat constructor)) rfl 1⟩) (by simp [cU]) (by omega) (by omega) (fun u0 => ?_)
     (refine aA V Z Z (aA V Z Z ?_))
     refine cJ 3 [.int .i64 ((x.store - 0))] rfl (by kernel_rfl) rfl (fun c1 => ?_)
     refine bZ (q := 1) slI rfl rfl rfl (fun v' => by repeat constructor) (fun w' hs => ⟨_, _, Blk.rd (hs.blk (b := c1) (by repeat constructor)) rfl 1⟩) (by simp [cU]) (by omega) (by omega) (fun u1 => ?_)
     (refine aA V Z Z (aA V Z Z (aF (bJ (aB (aA V Z Z (bA V Z Z Z Z (by omega) (by omega) (aA V Z Z (aF ?_)))))))))
     refine hK (k + 1, u0, u1) _ _ ⟨by dsimp only; omega, p1⟩ (by dsimp only; omega) ⟨rfl, rfl, rfl, rfl, rfl, rfl, cM rfl (by rw [p2]; omega), rfl, trivial⟩ (by dsimp only; rw [p3, p4, show min (max 0 (s - t.loss[k]) + t.make[k]) x.store - t.need[k] = 0 + (x.store - 0) - t.need[k] by omega, show min t.make[k] (x.store - max 0 (s - t.loss[k])) = (x.store - 0) by omega]; repeat constructor)
   ·skip
    (refine aM (aD (aB (aA V Z Z (aA V Z Z (bA V Z Z Z Z (by omega) (by omega) (aA V Z Z (aA V Z Z ?_))))))))
    (refine aV V Z Z Z Z Z (by omega) (by omega) ?_; refine bB V Z Z Z (fun w hs => RdI.at (RdE.keep r1 hs.chg0) k y1) ?_)
    (refine bA V Z Z Z Z (by omega) (by omega) (aA V Z Z (aF (aD (aD (aB (aA V Z Z (aA V Z Z (aF ?_)))))))))
    refine dL Z (fun hc => ?_) (fun hc => ?_)
    ·obtain ⟨p1, p2, p3⟩ := hstop (by omega)
     (refine aD (aB ?_); (iterate 6 refine aA V Z Z ?_); refine aF (aS ?_))
     refine aU V Z (by repeat constructor) fun w hs => ?_
     exact ⟨(v, u), by rw [p1]; rfl, by rw [p2, p3, hL1, hL2]; exact hs.sp (by repeat constructor)⟩
    ·obtain ⟨p1, p2, p3, p4⟩ := hgo (by omega)
     (refine aM (aB (aA V Z Z (aA V Z Z ?_))))
     refine cJ 3 [.int .i64 (0 + t.make[k] - t.need[k])] rfl (by kernel_rfl) rfl (fun c0 => ?_)
     refine bZ (q := 1) slI rfl rfl rfl (fun v' => by repeat constructor) (fun w' hs => ⟨_, _, Blk.rd (hs.blk (b := c0) (by repeat constructor)) rfl 1⟩) (by simp [cU]) (by omega) (by omega) (fun u0 => ?_)
     (refine aA V Z Z (aA V Z Z ?_))
     refine cJ 3 [.int .i64 (t.make[k])] rfl (by kernel_rfl) rfl (fun c1 => ?_)
     refine bZ (q := 1) slI rfl rfl rfl (fun v' => by repeat constructor) (fun w' hs => ⟨_, _, Blk.rd (hs.blk (b := c1) (by repeat constructor)) rfl 1⟩) (by simp [cU]) (by omega) (by omega) (fun u1 => ?_)
     (refine aA V Z Z (aA V Z Z (aF (bJ (aB (aA V Z Z (bA V Z Z Z Z (by omega) (by omega) (aA V Z Z (aF ?_)))))))))
     refine hK (k + 1, u0, u1) _ _ ⟨by dsimp only; omega, p1⟩ (by dsimp only; omega) ⟨rfl, rfl, rfl, rfl, rfl, rfl, cM rfl (by rw [p2]; omega), rfl, trivial⟩ (by dsimp only; rw [p3, p4, show min (max 0 (s - t.loss[k]) + t.make[k]) x.store - t.need[k] = 0 + t.make[k] - t.need[k] by omega, show min t.make[k] (x.store - max 0 (s - t.loss[k])) = t.make[k] by omega]; repeat constructor)
  ·skip
   (refine aM (aD (aB (aA V Z Z (aA V Z Z ?_)))))
   (refine aV V Z Z Z Z Z (by omega) (by omega) ?_; refine bB V Z Z Z (fun w hs => RdI.at (RdE.keep r2 hs.chg0) k y2) ?_)
   (refine aA V Z Z (aF (aD (aD (aB (aA V Z Z (aA V Z Z (bA V Z Z Z Z (by omega) (by omega) (aA V Z Z ?_)))))))); refine aI V Z Z Z ?_; refine aA V Z Z (aF ?_))
   refine dL Z (fun hc => ?_) (fun hc => ?_)
   ·skip
    (refine aB (aA V Z Z ?_); refine aI V Z Z Z ?_; refine aA V Z Z (bA V Z Z Z Z (by omega) (by omega) (aA V Z Z (aF (aD (aB (aA V Z Z (aA V Z Z (bA V Z Z Z Z (by omega) (by omega) (aA V Z Z (aA V Z Z ?_)))))))))))
    (refine aV V Z Z Z Z Z (by omega) (by omega) ?_; refine bB V Z Z Z (fun w hs => RdI.at (RdE.keep r1 hs.chg0) k y1) ?_)
    (refine bA V Z Z Z Z (by omega) (by omega) (aA V Z Z (aF (aD (aD (aB (aA V Z Z (aA V Z Z (aF ?_)))))))))
    refine dL Z (fun hc => ?_) (fun hc => ?_)
    ·obtain ⟨p1, p2, p3⟩ := hstop (by omega)
     (refine aD (aB ?_); (iterate 6 refine aA V Z Z ?_); refine aF (aS ?_))
     refine aU V Z (by repeat constructor) fun w hs => ?_
     exact ⟨(v, u), by rw [p1]; rfl, by rw [p2, p3, hL1, hL2]; exact hs.sp (by repeat constructor)⟩
    ·obtain ⟨p1, p2, p3, p4⟩ := hgo (by omega)
     (refine aM (aB (aA V Z Z (aA V Z Z ?_))))
     refine cJ 3 [.int .i64 ((s - t.loss[k]) + (x.store - (s - t.loss[k])) - t.need[k])] rfl (by kernel_rfl) rfl (fun c0 => ?_)
     refine bZ (q := 1) slI rfl rfl rfl (fun v' => by repeat constructor) (fun w' hs => ⟨_, _, Blk.rd (hs.blk (b := c0) (by repeat constructor)) rfl 1⟩) (by simp [cU]) (by omega) (by omega) (fun u0 => ?_)
     (refine aA V Z Z (aA V Z Z ?_))
     refine cJ 3 [.int .i64 ((x.store - (s - t.loss[k])))] rfl (by kernel_rfl) rfl (fun c1 => ?_)
     refine bZ (q := 1) slI rfl rfl rfl (fun v' => by repeat constructor) (fun w' hs => ⟨_, _, Blk.rd (hs.blk (b := c1) (by repeat constructor)) rfl 1⟩) (by simp [cU]) (by omega) (by omega) (fun u1 => ?_)
     (refine aA V Z Z (aA V Z Z (aF (bJ (aB (aA V Z Z (bA V Z Z Z Z (by omega) (by omega) (aA V Z Z (aF ?_)))))))))
     refine hK (k + 1, u0, u1) _ _ ⟨by dsimp only; omega, p1⟩ (by dsimp only; omega) ⟨rfl, rfl, rfl, rfl, rfl, rfl, cM rfl (by rw [p2]; omega), rfl, trivial⟩ (by dsimp only; rw [p3, p4, show min (max 0 (s - t.loss[k]) + t.make[k]) x.store - t.need[k] = (s - t.loss[k]) + (x.store - (s - t.loss[k])) - t.need[k] by omega, show min t.make[k] (x.store - max 0 (s - t.loss[k])) = (x.store - (s - t.loss[k])) by omega]; repeat constructor)
   ·skip
    (refine aM (aD (aB (aA V Z Z (aA V Z Z (bA V Z Z Z Z (by omega) (by omega) (aA V Z Z (aA V Z Z ?_))))))))
    (refine aV V Z Z Z Z Z (by omega) (by omega) ?_; refine bB V Z Z Z (fun w hs => RdI.at (RdE.keep r1 hs.chg0) k y1) ?_)
    (refine bA V Z Z Z Z (by omega) (by omega) (aA V Z Z (aF (aD (aD (aB (aA V Z Z (aA V Z Z (aF ?_)))))))))
    refine dL Z (fun hc => ?_) (fun hc => ?_)
    ·obtain ⟨p1, p2, p3⟩ := hstop (by omega)
     (refine aD (aB ?_); (iterate 6 refine aA V Z Z ?_); refine aF (aS ?_))
     refine aU V Z (by repeat constructor) fun w hs => ?_
     exact ⟨(v, u), by rw [p1]; rfl, by rw [p2, p3, hL1, hL2]; exact hs.sp (by repeat constructor)⟩
    ·obtain ⟨p1, p2, p3, p4⟩ := hgo (by omega)
     (refine aM (aB (aA V Z Z (aA V Z Z ?_))))
     refine cJ 3 [.int .i64 ((s - t.loss[k]) + t.make[k] - t.need[k])] rfl (by kernel_rfl) rfl (fun c0 => ?_)
     refine bZ (q := 1) slI rfl rfl rfl (fun v' => by repeat constructor) (fun w' hs => ⟨_, _, Blk.rd (hs.blk (b := c0) (by repeat constructor)) rfl 1⟩) (by simp [cU]) (by omega) (by omega) (fun u0 => ?_)
     (refine aA V Z Z (aA V Z Z ?_))
     refine cJ 3 [.int .i64 (t.make[k])] rfl (by kernel_rfl) rfl (fun c1 => ?_)
     refine bZ (q := 1) slI rfl rfl rfl (fun v' => by repeat constructor) (fun w' hs => ⟨_, _, Blk.rd (hs.blk (b := c1) (by repeat constructor)) rfl 1⟩) (by simp [cU]) (by omega) (by omega) (fun u1 => ?_)
     (refine aA V Z Z (aA V Z Z (aF (bJ (aB (aA V Z Z (bA V Z Z Z Z (by omega) (by omega) (aA V Z Z (aF ?_)))))))))
     refine hK (k + 1, u0, u1) _ _ ⟨by dsimp only; omega, p1⟩ (by dsimp only; omega) ⟨rfl, rfl, rfl, rfl, rfl, rfl, cM rfl (by rw [p2]; omega), rfl, trivial⟩ (by dsimp only; rw [p3, p4, show min (max 0 (s - t.loss[k]) + t.make[k]) x.store - t.need[k] = (s - t.loss[k]) + t.make[k] - t.need[k] by omega, show min t.make[k] (x.store - max 0 (s - t.loss[k])) = t.make[k] by omega]; repeat constructor)
 ·obtain rfl : k = x.days.length := by omega
  (refine bO _ rfl (aD (aB ?_)); (iterate 5 refine aA V Z Z ?_); refine aF (aS ?_))
  refine aU V Z (by repeat constructor) fun w hs => ?_
  exact ⟨(v, u), by rw [hapV, hf]; rfl, by rw [hapV, hL1, hL2]; exact hs.sp (by repeat constructor)⟩
end Go.Proofs.YtgeajgmefokifaaGreat
