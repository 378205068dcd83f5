/- My texts, joined: lemmas for RifleSmall. -/
import Derived.Test.YtopdmadgkjdgcaaGreatJ2
import Derived.Shelf.Sort.Plain
import Derived.Shelf.Slices.In.SortNone
set_option linter.unusedVariables false
set_option maxHeartbeats 16000000
namespace Go.Proofs.YtopdmadgkjdgcaaGreat
open Go Go.Eng
set_option maxRecDepth 4000
theorem getD_set (L : List Int) (i p : Nat) (v : Int) (hi : i < L.length) : (L.set i v).getD p 0 = if p = i then v else L.getD p 0 := by
 simp only [List.getD_eq_getElem?_getD, List.getElem?_set];by_cases h : i = p
 ·rw [if_pos h, if_pos h.symm, if_pos hi]
  rfl
 ·rw [if_neg h, if_neg (fun hh => h hh.symm)]
def LtK (key : Int → Int) (a b : Int) : Prop := key a < key b ∨ (key a = key b ∧ a < b)
theorem LtK.trans {key : Int → Int} {a b c : Int} (h1 : LtK key a b) (h2 : LtK key b c) : LtK key a c := by
 unfold LtK at *;omega
structure SrI (key : Int → Int) (l L : List Int) (i : Nat) : Prop where
 perm : L.Perm l
 srt : ∀ p q, p < q → q < i → LtK key (L.getD p 0) (L.getD q 0)
 ord : ∀ p q, p < i → i ≤ q → q < l.length → L.getD p 0 < L.getD q 0
 tail : ∀ p q, i ≤ p → p < q → q < l.length → L.getD p 0 < L.getD q 0
structure SrJ (key : Int → Int) (l L : List Int) (i j : Nat) : Prop where
 perm : L.Perm l
 ji : j ≤ i
 srt : ∀ p q, p < q → q ≤ i → p ≠ j → q ≠ j → LtK key (L.getD p 0) (L.getD q 0)
 low : ∀ q, j < q → q ≤ i → LtK key (L.getD j 0) (L.getD q 0)
 big : ∀ q, q ≤ i → q ≠ j → L.getD q 0 < L.getD j 0
 ord : ∀ p q, p ≤ i → i < q → q < l.length → L.getD p 0 < L.getD q 0
 tail : ∀ p q, i < p → p < q → q < l.length → L.getD p 0 < L.getD q 0
variable {key : Int → Int} {l L : List Int} {i j : Nat}
theorem SrI.open (h : SrI key l L i) (hi : i < l.length) : SrJ key l L i i where
 perm := h.perm
 ji := Nat.le_refl _
 srt := fun p q h1 h2 _ h3 => h.srt p q h1 J
 low := fun q h1 h2 => by omega
 big := fun q h1 h2 => h.ord q i J (Nat.le_refl _) hi
 ord := fun p q h1 h2 h3 => by
  by_cases e : p = i
  ·exact h.tail p q J J h3
  ·exact h.ord p q J J h3
 tail := fun p q h1 h2 h3 => h.tail p q J h2 h3
theorem SrJ.close (h : SrJ key l L i j) (hj : j = 0 ∨ ¬ key (L.getD j 0) < key (L.getD (j - 1) 0)) : SrI key l L (i + 1) where
 perm := h.perm
 srt := fun p q h1 h2 => by
  by_cases hp : p = j
  ·subst hp;exact h.low q h1 J
  by_cases hq : q = j
  ·subst hq;rcases hj with hj | hj
   ·omega
   ·have h4 := h.big (q - 1) J J;have h5 : LtK key (L.getD (q - 1) 0) (L.getD q 0) := by unfold LtK; omega
    by_cases hp2 : p = q - 1
    ·rw [hp2]; exact h5
    ·exact (h.srt p (q - 1) J (by have := h.ji; omega) hp J).trans h5
  ·exact h.srt p q h1 J hp hq
 ord := fun p q h1 h2 h3 => h.ord p q J J h3
 tail := fun p q h1 h2 h3 => h.tail p q J h2 h3
theorem SrJ.swap (h : SrJ key l L i j) (hj : 0 < j) (hi : i < L.length) (hlt : key (L.getD j 0) < key (L.getD (j - 1) 0)) {x y : Int} (hx : L.getD (j - 1) 0 = x) (hy : L.getD j 0 = y) : SrJ key l ((L.set j x).set (j - 1) y) i (j - 1) := by
 have hji := h.ji
 have e : ∀ p, ((L.set j x).set (j - 1) y).getD p 0 = if p = j - 1 then y else if p = j then x else L.getD p 0 := fun p => by
  rw [getD_set _ _ _ _ (by simp; omega), getD_set _ _ _ _ J]
 refine ⟨List.Perm.trans ?_ h.perm, by omega, fun p q h1 h2 h3 h4 => ?_, fun q h1 h2 => ?_, fun q h1 h2 => ?_, fun p q h1 h2 h3 => ?_, fun p q h1 h2 h3 => ?_⟩
 ·have h1 : j < L.length := by omega
  have h2 : j - 1 < L.length := by omega
  have ex : x = L[j - 1] := by rw [← hx, getD_row h2]
  have ey : y = L[j] := by rw [← hy, getD_row h1]
  subst ex ey;exact List.set_set_perm h1 h2
 ·rw [e, e, if_neg h3, if_neg h4];by_cases hp : p = j
  ·rw [if_pos hp, if_neg J, ← hx];exact h.srt (j - 1) q J h2 J J
  ·rw [if_neg hp];by_cases hq : q = j
   ·rw [if_pos hq, ← hx];exact h.srt p (j - 1) J J hp J
   ·rw [if_neg hq];exact h.srt p q h1 h2 hp hq
 ·rw [e, e, if_pos rfl, if_neg J, ← hy];by_cases hq : q = j
  ·rw [if_pos hq, ← hx];exact .inl hlt
  ·rw [if_neg hq];exact h.low q J h2
 ·rw [e, e, if_pos rfl, if_neg h2, ← hy];by_cases hq : q = j
  ·rw [if_pos hq, ← hx];exact h.big (j - 1) J J
  ·rw [if_neg hq];exact h.big q h1 hq
 ·rw [e p, e q, if_neg (show ¬ q = j - 1 by omega), if_neg (show ¬ q = j by omega)];split
  ·rw [← hy]; exact h.ord j q J h2 h3
  ·split
   ·rw [← hx]; exact h.ord (j - 1) q J h2 h3
   ·exact h.ord p q h1 h2 h3
 ·rw [e, e, if_neg J, if_neg J, if_neg J, if_neg J];exact h.tail p q h1 h2 h3
def SrtK (key : Int → Int) (L : List Int) : Prop := ∀ p q, p < q → q < L.length → LtK key (L.getD p 0) (L.getD q 0)
def gJ (n : Nat) : List Int := (List.range n).map fun (i : Nat) => (i : Int)
theorem jF (n : Nat) : (gJ n).length = n := by simp [gJ]
theorem iota_get {n i : Nat} (h : i < n) : (gJ n).getD i 0 = i := by
 unfold gJ;rw [List.getD_eq_getElem?_getD, List.getElem?_map, List.getElem?_range h]
 rfl
theorem SrI.start (n : Nat) : SrI key (gJ n) (gJ n) 1 where
 perm := .refl _
 srt := fun p q h1 h2 => by omega
 ord := fun p q h1 h2 h3 => by
  rw [jF] at h3;rw [iota_get J, iota_get h3];omega
 tail := fun p q h1 h2 h3 => by
  rw [jF] at h3;rw [iota_get J, iota_get h3];omega
theorem SrI.all (h : SrI key l L l.length) : SrtK key L := fun p q h1 h2 => h.srt p q h1 (by rw [← h.perm.length_eq]; exact h2)
end Go.Proofs.YtopdmadgkjdgcaaGreat
namespace Go.Proofs.YtopdmadgkjdgcaaGreat
open Go Go.Eng
set_option maxRecDepth 4000
open Go Go.Eng
theorem iY (l : List Int) (k : Nat) (v : Int) : (aX l).set k (.int .i64 v) = aX (l.set k v) := by simp [aX, List.map_set]
def CmpAt (w : World) (g : Nat) (cmp : Value) (key : Int → Int) (l : List Int) : Prop := ∀ w', ChgP (fun x => x = g) w w' → ∀ a ∈ l, ∀ b ∈ l, CaF Tryz.prog cmp [.int .i64 a, .int .i64 b] w' fun v w2 => v = .int .i64 (key a - key b) ∧ Chg [] w' w2
theorem CmpAt.sub {w w' : World} {g : Nat} {cmp : Value} {key : Int → Int} {l : List Int} (h : CmpAt w g cmp key l) (hc : ChgP (fun x => x = g) w w') : CmpAt w' g cmp key l := fun w2 hc2 => h w2 (hc.upP hc2 fun _ h => .inl h)
def singlesV (st : List Int) : Int := if (inB st.length 2 16 && (!decide (st.length % 2 = 1) && true)) = false then 2 else if (st.all fun n => inB n 0 100000) = false then 3 else 0
structure SingOk (st : List Int) : Prop where
 l1 : 2 ≤ st.length
 l2 : st.length ≤ 16
 ev : st.length % 2 = 0
 num : ∀ x ∈ st, 0 ≤ x ∧ x ≤ 100000
def insK (key : Int → Int) (x : Int) : List Int → List Int
 | [] => [x]
 | y :: l => if key x < key y then x :: y :: l else y :: insK key x l
def isortF (key : Int → Int) : List Int → List Int → List Int
 | acc, [] => acc
 | acc, x :: l => isortF key (insK key x acc) l
def ordK (key : Int → Int) (n : Nat) : List Int := isortF key [] (gJ n)
theorem iota_mem {n : Nat} {x : Int} : x ∈ gJ n ↔ 0 ≤ x ∧ x < n := by
 unfold gJ;rw [List.mem_map];constructor
 ·rintro ⟨i, hi, rfl⟩;have := List.mem_range.1 hi;omega
 ·intro h;exact ⟨x.toNat, List.mem_range.2 J, by omega⟩
def costF (st : List Int) : List Int → Int
 | a :: b :: l => costF st l + (st.getD b.toNat 0 - st.getD a.toNat 0)
 | _ => 0
def stK (st : List Int) (x : Int) : Int := st.getD x.toNat 0
def softL (st : List Int) : List Int := ordK (stK st) st.length
def lowC (st : List Int) (x : Int) : Nat := st.countP fun n => decide (n ≤ x)
def highC (st : List Int) (x : Int) : Nat := st.countP fun n => decide (x ≤ n)
def gapBad (st : List Int) (p : Option Int) (g : Int × Int) : Bool := decide (g.2 ≤ g.1) || ((match p with | some x => decide (g.1 < x) | none => false) || (decide (lowC st g.1 % 2 = 0) || decide (lowC st g.1 + highC st g.2 ≠ st.length)))
def gapsF (st : List Int) : Option Int → List (Int × Int) → Option Int
 | _, [] => some 0
 | p, g :: l => if gapBad st p g = true then none else (gapsF st (some g.2) l).map fun s => s + (g.2 - g.1)
def gapsV (st : List Int) (gs : List (Int × Int)) : Int × Int := if singlesV st ≠ 0 then (0, singlesV st) else if 16 < gs.length then (0, 2) else match gapsF st none gs with | some s => (s, 0) | none => (0, 8)
def sixL : List Int := [50, 20, 41, 23, 60, 38]
def tK23_8fecd85 : OT := bE [1, 2, 3, 4, 5, 6, 7, 8, 9, 10, 11, 0, 12, 13] (.nil)
def prevH (gs : List (Int × Int)) (k : Nat) : Option Int := if k = 0 then none else some (gs.getD (k - 1) (0, 0)).2
def eqIB (a b : List Int) : Bool := decide (a = b) && true
theorem eqIB_iff {a b : List Int} : eqIB a b = true ↔ a = b := by simp [eqIB]
theorem eqIF_ca (w : World) (lo hi lo2 hi2 : Nat) (v u : Value) (l m : List Int) (h1 : RdI w lo hi v l) (h2 : RdI w lo2 hi2 u m) (hlen : l.length ≤ 1000000) (hlen2 : m.length ≤ 1000000) :
  Ca Tryz.prog 44 [v, u] w fun r w' => r = .bool (eqIB l m) ∧ Chg [] w w' := by
 obtain ⟨a, ca, rfl, hsa⟩ := RdI.outI h1;obtain ⟨b, cb, rfl, hsb⟩ := RdI.outI h2;refine cN (Sat.nil w M0) Tryz.func44 Z (by simp [Tryz.ntmps44]) ?_;(refine aC (aB (aA1 zq (aD (aC (aC (aB ?_)))))); (iterate 5 refine aA1 zq ?_); refine aD ?_);by_cases hll : l.length = m.length
 ·rw [decide_eq_true (show (l.length : Int) = m.length by omega)];(refine aG Z (aK (aC (aC (aB ?_)))); (iterate 3 refine aA1 zq ?_); refine aD (aM ?_));refine bM (σ := Nat) (fun s => s ≤ l.length ∧ l.take s = m.take s) (fun s => l.length - s) (fun s => [(0, .slice a l.length ca), (1, .slice b m.length cb), (12, .int .i64 l.length), (13, .int .i64 s)]) (fun _ => []) 0 (by simp) ⟨Z, Z, Z, Z, trivial⟩ O ?_;rintro i ⟨hi, ht⟩ K hK;(refine aC (aB (aA1 zq (aD (aC ?_)))));refine dN Z (fun hc => ?_) (fun hc => ?_)
  ·have hi2 : i < l.length := by omega
   have hi3 : i < m.length := by omega
   clear hc;obtain ⟨ba, oa, rfl⟩ := hsa J;obtain ⟨bb, ob, rfl⟩ := hsb J;(refine aK (aC (aM (aC (aB (aA1 zq (aA1 zq (aD (aC ?_)))))))));refine bZ _ [] (Sp.refl _) qB qB ?_;(refine aA2 xq (aA2 xq ?_));(refine aA3 Wa J J ?_; refine aR U Z Z Z (fun w hs => RdI.at (RdE.keep h1 hs.chg0) i hi2) ?_);(refine aA2 xq (aA2 xq ?_));(refine aA3 Wa J J ?_; refine aR U Z Z Z (fun w hs => RdI.at (RdE.keep h2 hs.chg0) i hi3) ?_);(refine aA2 xq (aN ?_));by_cases he : l[i] = m[i]
   ·rw [decide_eq_true he];(refine aG Z (aK (bK (aB (aA4 uq J J (aA1 zq (aD ?_)))))));exact hK (i + 1) _ _ ⟨by omega, by rw [List.take_succ_eq_append_getElem hi2, List.take_succ_eq_append_getElem hi3, ht, he]⟩ J ⟨Z, Z, Z, Z, trivial⟩ O
   ·have e : eqIB l m = false := Bool.eq_false_iff.2 fun hh => he (by have := eqIB_iff.1 hh; subst this; rfl)
    rw [e, decide_eq_false he];(refine aH Z (aC (aB (aA1 zq (aD (aS ?_))))));refine aA5 wq O fun w hs => ?_
    exact ⟨Z, hs.chg0⟩
  ·obtain rfl : i = l.length := by omega
   have e : eqIB l m = true := eqIB_iff.2 (by rw [List.take_length] at ht; rw [hll, List.take_length] at ht; exact ht);rw [e];(refine bH _ Z (aC (aB (aA1 zq (aD (aS ?_))))));refine aA5 wq O fun w hs => ?_
   exact ⟨Z, hs.chg0⟩
 ·have e : eqIB l m = false := Bool.eq_false_iff.2 fun hh => hll (by rw [eqIB_iff.1 hh])
  rw [e, decide_eq_false (show ¬ (l.length : Int) = m.length by omega)];(refine aH Z (aC (aB (aA1 zq (aD (aS ?_))))));refine aA5 wq O fun w hs => ?_
  exact ⟨Z, hs.chg0⟩
theorem gR (w : World) (lo hi lo2 hi2 : Nat) (v u : Value) (l : List Int) (h1 : RdI w lo hi v l) (h2 : RdI w lo2 hi2 u l) (hlen : l.length ≤ 1000000) :
  Ca Tryz.prog 44 [v, u] w fun r w' => r = .bool true ∧ Chg [] w w' := by
 have h := eqIF_ca w lo hi lo2 hi2 v u l l h1 h2 hlen hlen
 rwa [eqIB_iff.2 rfl] at h
theorem eqII_ca (w : World) (lo hi lo2 hi2 : Nat) (v u : Value) (ll : List (List Int)) (h1 : RdII w lo hi v ll) (h2 : RdII w lo2 hi2 u ll) (hlen : ll.length ≤ 1000000) (hrow : ∀ l ∈ ll, l.length ≤ 1000000) :
  Ca Tryz.prog 90 [v, u] w fun r w' => r = .bool true ∧ Chg [] w w' := by
 obtain ⟨a, ca, rfl, hsa⟩ := RdII.outI h1;obtain ⟨b, cb, rfl, hsb⟩ := RdII.outI h2;refine cN (Sat.nil w M0) Tryz.func90 Z (by simp [Tryz.ntmps90]) ?_;(refine aC (aB (aA1 zq (aD (aC (aC (aB ?_)))))); (iterate 4 refine aA1 zq ?_); refine aA6 xq J (aD (aG Z (aK (aC (aC (aB ?_)))))); (iterate 3 refine aA1 zq ?_); refine aD (aM ?_));refine bM (σ := Nat) (fun s => s ≤ ll.length) (fun s => ll.length - s) (fun s => [(0, .slice a ll.length ca), (1, .slice b ll.length cb), (12, .int .i64 ll.length), (13, .int .i64 s)]) (fun _ => []) 0 J ⟨Z, Z, Z, Z, trivial⟩ O ?_;intro i hi K hK;(refine aC (aB (aA1 zq (aD (aC ?_)))));refine dN Z (fun hc => ?_) (fun hc => ?_)
 ·have hi2 : i < ll.length := by omega
  clear hc;obtain ⟨ba, oa, rfl⟩ := hsa J;obtain ⟨bb, ob, rfl⟩ := hsb J;obtain ⟨ar, cr, hr1, hc1⟩ := h1.row i hi2;obtain ⟨br, dr, hr2, hc2⟩ := h2.row i hi2;have hrl := hrow _ (List.getElem_mem hi2);(refine aK (aC (aM (aC (aB (aA1 zq (aA1 zq (aD (aC ?_)))))))));refine bZ _ [] (Sp.refl _) qB qB ?_;(refine aA2 xq (aA2 xq ?_));refine aA3 Wa J J ?_;refine aR (v := .slice ar ll[i].length cr) U Z Z Z (fun w' hs => hc1 w' hs.chg0) ?_;(refine aA2 xq (aA2 xq ?_));refine aA3 Wa J J ?_;refine aR (v := .slice br ll[i].length dr) U Z Z Z (fun w' hs => hc2 w' hs.chg0) ?_;refine bN (val := .bool true) U Z Z Z Z (fun w hs => ?_) ?_; exact gR w _ _ _ _ _ _ ll[i] (RdE.keep hr1 hs.chg0) (RdE.keep hr2 hs.chg0) hrl;(refine aA2 xq (aN (aG Z (aK (bK (aB (aA4 uq J J (aA1 zq (aD ?_)))))))));exact hK (i + 1) _ _ J J ⟨Z, Z, Z, Z, trivial⟩ O
 ·(refine bH _ Z (aC (aB (aA1 zq (aD (aS ?_))))))
  refine aA5 wq O fun w hs => ?_;exact ⟨Z, hs.chg0⟩
theorem spn_flat : nQ Tryz.prog 56 [some .i64, some .i64] = true := by kernel_rfl
theorem eqS_ca (w : World) (lo hi lo2 hi2 : Nat) (v u : Value) (l : List (Int × Int)) (h1 : RdS w lo hi v l) (h2 : RdS w lo2 hi2 u l) (hlen : l.length ≤ 1000000) :
  Ca Tryz.prog 40 [v, u] w fun r w' => r = .bool true ∧ Chg [] w w' := by
 obtain ⟨a, ca, rfl, hsa⟩ := RdS.outI h1;obtain ⟨b, cb, rfl, hsb⟩ := RdS.outI h2;refine cN (Sat.nil w M0) Tryz.func40 Z (by simp [Tryz.ntmps40]) ?_;(refine aC (aB (aA1 zq (aD (aC (aC (aB ?_)))))); (iterate 4 refine aA1 zq ?_); refine aA6 xq J (aD (aG Z (aK (aC (aC (aB ?_)))))); (iterate 3 refine aA1 zq ?_); refine aD (aM ?_));refine bM (σ := Nat) (fun s => s ≤ l.length) (fun s => l.length - s) (fun s => [(0, .slice a l.length ca), (1, .slice b l.length cb), (12, .int .i64 l.length), (13, .int .i64 s)]) (fun _ => []) 0 J ⟨Z, Z, Z, Z, trivial⟩ O ?_;intro i hi K hK;(refine aC (aB (aA1 zq (aD (aC ?_)))));refine dN Z (fun hc => ?_) (fun hc => ?_)
 ·have hi2 : i < l.length := by omega
  clear hc;obtain ⟨ba, oa, rfl⟩ := hsa J;obtain ⟨bb, ob, rfl⟩ := hsb J;(refine aK (aC (aM (aC (aB (aA1 zq (aA1 zq (aD (aC ?_)))))))));refine bZ _ [] (Sp.refl _) qB qB ?_;(refine aA2 xq (aA2 xq ?_));refine aA3 Wa J J ?_;refine cV U Z Z Z Z (fun w hs => RdS.at (RdE.keep h1 hs.chg0) i hi2) ?_;(refine aA2 xq (aA2 xq ?_));refine aA3 Wa J J ?_;refine cV U Z Z Z Z (fun w hs => RdS.at (RdE.keep h2 hs.chg0) i hi2) ?_;refine qf_neF [some .i64, some .i64] spn_flat Z Z Z Z Z ?_;rw [kK];(refine aN (aG Z (aK (bK (aB (aA4 uq J J (aA1 zq (aD ?_))))))));exact hK (i + 1) _ _ J J ⟨Z, Z, Z, Z, trivial⟩ O
 ·(refine bH _ Z (aC (aB (aA1 zq (aD (aS ?_))))))
  refine aA5 wq O fun w hs => ?_;exact ⟨Z, hs.chg0⟩
theorem Blk.rdS' {w : World} {b c n : Nat} {l : List (Int × Int)} {t : TypeId} (h : Blk w b (spC l) t) (hn : n = l.length) : RdS w 0 w.heap.size (aB9 b n c) l := by
 subst hn;exact RdS.of (Blk.rdN (sz := 2) h (spC_length l))
section
attribute [local irreducible] IntKind.wrap Int.tmod Int.tdiv
def DkS (w : World) (b : Nat) (bs : Value) (K : Nat) : Prop :=
 ∃ next st, Blk w b [bs, .int .i64 next, .int .u32 st] 163 ∧ 0 ≤ next ∧ next ≤ K ∧ 0 ≤ st ∧ st < 4294967296
def DkB (w : World) (lo hi : Nat) (bs : Value) : Prop := ∃ nb cs, Rd w lo hi bs 1 nb cs ∧ (∀ c ∈ cs, ∃ x, c = .int .u8 x ∧ 0 ≤ x ∧ x < 256)
theorem DkB.keep {w w' : World} {lo hi : Nat} {bs : Value} (h : DkB w lo hi bs) (c : Chg [] w w') : DkB w' lo hi bs := by
 obtain ⟨nb, cs, h1, h2⟩ := h;exact ⟨nb, cs, h1.keep c, h2⟩
end
def dkP (bs : Value) (b K : Nat) : Ck := .gn (fun x => x = b) (fun w => DkS w b bs K) (fun w w' N h hc hN => by
 obtain ⟨next, st, h1, h2⟩ := h;exact ⟨next, st, (hc.block b h1.lt (hN b Z)).trans h1, h2⟩)
theorem DkS.mono {w : World} {b K K' : Nat} {bs : Value} (h : DkS w b bs K) (hk : K ≤ K') : DkS w b bs K' := by
 obtain ⟨next, st, h1, h2, h3, h4⟩ := h;exact ⟨next, st, h1, h2, by omega, h4⟩
section
variable {K b : Nat} {bs : Value} {w0 w : World} {R : List Ck}
end
structure MadeL (most runs : Nat) (l : Lb) (real : List Int) : Prop where
 ok : l.Ok
 s2 : 2 ≤ l.skis
 sm : l.skis ≤ most
 e12 : l.err ≤ 11
 len : l.runs.length ≤ runs
 tr : l.True real
 rl : real.length = l.n
 rb : ∀ x ∈ real, 0 ≤ x ∧ x ≤ 96
structure Told (k : Nat) (l : Lb) : Prop where
 ok : l.Ok
 noC : NoC l.ord l.n
theorem run_ok {s x y ld : Int} (hx : 0 ≤ x ∧ x < s) (hy : 0 ≤ y ∧ y < s) (hne : x ≠ y) (hl : -10000 ≤ ld ∧ ld ≤ 10000) : (⟨x, y, ld⟩ : Rn).Ok s := ⟨hx.1, hx.2, hy.1, hy.2, hne, hl.1, hl.2⟩
theorem Lb.Ok.loose {l : Lb} (h : l.Ok) {d : Int} (hd : 0 ≤ d) (h2 : l.err + d ≤ 1000) : (l.loose d).Ok := ⟨h.s0, h.s1, by have := h.e0; show 0 ≤ l.err + d; omega, h2, h.len, h.run⟩
def spanP (l : Lb) (s : Nat) : Int × Int := ((1 + upN l.ord s l.n : Nat), l.skis - dnN l.ord s l.n)
structure LosL (W S : Nat) (l : List (List Int)) (n : Nat) : Prop where
 l1 : 1 ≤ l.length
 l2 : l.length ≤ W
 n1 : 1 ≤ n
 n2 : n ≤ S
 len : ∀ row ∈ l, row.length = n
 num : ∀ row ∈ l, ∀ x ∈ row, 0 ≤ x ∧ x ≤ 200
theorem LosL.tab {W S n : Nat} {l : List (List Int)} (h : LosL W S l n) (hW : W ≤ 12) (hS : S ≤ 20) : TabOk l n :=
 ⟨h.l1, by have := h.l2; omega, h.n1, by have := h.n2; omega, h.len, fun r hr x hx => by have := h.num r hr x hx; omega⟩
theorem TabOk.v {l : List (List Int)} {n : Nat} (h : TabOk l n) : tableV l = 0 ∧ (l.headD []).length = n := by
 have e : (l.headD []).length = n := by
  have h1 := h.l1
  match l, h1 with
  | r :: l, _ => exact h.len r List.mem_cons_self
 exact ⟨table_iff.2 (e ▸ h), e⟩
theorem TabOk.low {l : List (List Int)} {n s : Nat} (h : TabOk l n) (hs : s < n) : 0 ≤ lowV l s ∧ lowV l s ≤ 10000 := by
 obtain ⟨r, hr, e⟩ := low_mem (l := l) (by intro e; have := h.l1; rw [e] at this; simp at this) s;rw [e];exact h.num r hr _ (getD_mem (by rw [h.len r hr]; exact hs))
theorem slII : SlT Tryz.prog 37 29 1 24 (.slice none 0 0) := ⟨by kernel_rfl, by kernel_rfl, by kernel_rfl, by decide⟩
theorem rows_add {w0 w : World} {M : Nat → Prop} {R : List Ck} {t : Nat} {xs : List (Value × List Int)} {u : Value} {r : List Int} (h : Sat w0 M (.ow u t 1 r.length (aX r) :: un (dM t xs) :: R) w) : Sat w0 M (un (dM t (xs ++ [(u, r)])) :: R) w :=
 (Sat.un_in h).un_perm (L' := dM t (xs ++ [(u, r)])) (by unfold dM; rw [List.map_append]; exact (List.perm_append_comm (l₁ := [_])))
theorem lY (w : World) (lo hi : Nat) (v : Value) (l : List Int) (h : RdI w lo hi v l) (hlen : l.length ≤ 1000000) : Ca Tryz.prog 68 [v] w fun r w' => ∃ u : Value, r = u ∧ Sat w M0 [.ow u 3 1 l.length (aX l)] w' := by
 obtain ⟨a, ca, rfl, _⟩ := RdI.outI h
 have hrow : ∀ w', Chg [] w w' → Rd w' lo hi (.slice a l.length ca) 1 l.length (aX l) := fun w' hc => by
  have := (RdE.keep h hc).rd;rw [mM] at this;simpa using this
 refine cN (Sat.nil w M0) Tryz.func68 Z (by simp [Tryz.ntmps68]) ?_;(refine aC (aB (aA1 zq (aD (aC (aB (aA1 zq ?_)))))));refine ql_conv (H' := [.ow (.slice none 0 0) 3 1 0 []]) (fun w' hs => Sat.ownil hs 3 1) ?_;refine cW (q := l.length) slI Z Z Z (fun v' => by repeat constructor) (fun w' hs => ⟨lo, hi, hrow w' hs.chg0⟩) (by simp [dJ]) J J (fun u => ?_);(refine aA1 zq (aD (aS ?_)));refine aA5 wq O fun w hs => ?_;exact ⟨u, Z, by simpa using hs⟩
theorem cloneAll_ca (w : World) (lo hi : Nat) (v : Value) (ll : List (List Int)) (h : RdII w lo hi v ll) (hlen : ll.length ≤ 1000) (hl : ∀ l ∈ ll, l.length ≤ 1000000) :
  Ca Tryz.prog 25 [v] w fun r w' => ∃ x : Value × List (Value × List Int), (r = x.1 ∧ x.2.map (·.2) = ll) ∧ Sat w M0 [un (dM 3 x.2), .ow x.1 29 1 ll.length (x.2.map (·.1))] w' := by
 obtain ⟨a, cap, rfl, hs0⟩ := h.outI;refine cN (Sat.nil w M0) Tryz.func25 Z (by simp [Tryz.ntmps25]) ?_;(refine aC (aB (aA1 zq (aD (aC (aB (aA1 zq (aD (aC (aC (aB ?_)))))))))); (iterate 3 refine aA1 zq ?_); refine aD (aM ?_));refine dG (H' := [un (dM 3 []), .ow (.slice none 0 0) 29 1 0 (([] : List (Value × List Int)).map (·.1))]) (fun w' hs => Sat.un_nil (Sat.ownil hs _ _)) ?_
 refine bM (σ := Value × List (Value × List Int)) (fun s => s.2.length ≤ ll.length ∧ s.2.map (·.2) = ll.take s.2.length) (fun s => ll.length - s.2.length) (fun s => [(3, s.1), (6, .slice a ll.length cap), (7, .int .i64 ll.length), (8, .int .i64 s.2.length)])
  (fun s => [un (dM 3 s.2), .ow s.1 29 1 s.2.length (s.2.map (·.1))]) (.slice none 0 0, []) ⟨by simp, by simp⟩ ⟨rfl, rfl, rfl, rfl, trivial⟩ (Sp.refl _) ?_
 rintro ⟨va, xs⟩ ⟨hk, hxs⟩ K hK;simp only at hk hxs;dsimp only;(refine aC (aB (aA1 zq (aD (aC ?_)))));refine dN Z (fun hc => ?_) (fun hc => ?_)
 ·have hk2 : xs.length < ll.length := by omega
  clear hc;obtain ⟨b, off, rfl⟩ := hs0 J;obtain ⟨ar, cr, hr1, hr2⟩ := h.row xs.length hk2;(refine aK (aC (aM (aC (aB ?_)))));refine aA7 Wa J J ?_;refine bI U Z Z Z (fun w hs => hr2 w hs.chg0) ?_;(refine aA1 zq (aD (aB (aA1 zq (aA1 zq ?_)))));refine bC (β := Value) (ψ := fun x v => v = x) (L' := fun x => [.ow x 3 1 ll[xs.length].length (aX ll[xs.length])]) U [] _ M0 Z Z Z Z (Sp.refl _) qC (fun w' hs => lY w' lo hi _ ll[xs.length] (RdE.keep hr1 hs.chg0) (hl _ (List.getElem_mem hk2))) ?_;rintro _ y rfl;refine cU (fun w hs => hs.slice2 (v := y) O) ?_;rintro ⟨ay, cy, rfl⟩;refine cT 29 [.slice ay ll[xs.length].length cy] Z qB Z (fun bn => ?_);refine cW (q := 1) slII Z Z Z (fun v' => by repeat constructor) (fun w' hs => ⟨_, _, Blk.rdN (hs.blk (b := bn) O) Z⟩) (by simp [dJ]) J J (fun va' => ?_);(refine aA1 zq (aD (bK (aB (aA4 uq J J (aA1 zq (aD ?_)))))))
  refine dG (H' := [un (dM 3 (xs ++ [(Value.slice ay ll[xs.length].length cy, ll[xs.length])])), .ow va' 29 1 (xs ++ [(Value.slice ay ll[xs.length].length cy, ll[xs.length])]).length ((xs ++ [(Value.slice ay ll[xs.length].length cy, ll[xs.length])]).map (·.1))]) (fun w' hs => by
   refine rows_add ?_;rw [List.length_append, List.map_append];exact hs.sp O) ?_
  have e1 : ll.take (xs.length + 1) = ll.take xs.length ++ [ll[xs.length]] := List.take_succ_eq_append_getElem hk2;have hlen1 : (xs ++ [(Value.slice ay ll[xs.length].length cy, ll[xs.length])]).length = xs.length + 1 := by simp
  refine hK (va', xs ++ [(Value.slice ay ll[xs.length].length cy, ll[xs.length])]) _ _ ⟨by simp only [hlen1]; omega, by simp only [hlen1, e1, List.map_append, hxs]; rfl⟩ (by simp only [hlen1]; omega) ⟨Z, Z, Z, fM Z (by simp only [hlen1]; omega), trivial⟩ (Sp.refl _)
 ·have hkl : xs.length = ll.length := by omega
  (refine bH _ Z (aC (aB (aA1 zq (aA1 zq (aD (aS ?_)))))))
  refine aA5 wq O fun w hs => ?_;refine ⟨(va, xs), ⟨Z, by simp only; rw [hxs, hkl, List.take_length]⟩, ?_⟩
  rw [← hkl];exact hs
def CmpS (w : World) (g : Nat) (cmp : Value) (cf : Int → Int → Int) (l : List Int) : Prop := ∀ w', ChgP (fun x => x = g) w w' → ∀ a ∈ l, ∀ b ∈ l, CaF Tryz.prog cmp [.int .i64 a, .int .i64 b] w' fun v w2 => v = .int .i64 (cf a b) ∧ Chg [] w' w2
theorem CmpS.sub {w w' : World} {g : Nat} {cmp : Value} {cf : Int → Int → Int} {l : List Int} (h : CmpS w g cmp cf l) (hc : ChgP (fun x => x = g) w w') : CmpS w' g cmp cf l := fun w2 hc2 => h w2 (hc.upP hc2 fun _ h => .inl h)
def cmpV (a b : Int) : Int := if a < b then -1 else if b < a then 1 else 0
end Go.Proofs.YtopdmadgkjdgcaaGreat
namespace Go.Eng
set_option maxRecDepth 4000
open Go Go.RowKit
section
variable {P : Program} {n : Nat} {F : Fin} {k : List It} {e : Env} {w : World}
end
section
variable {P : Program} {n : Nat} {F : Fin} {w0 : World} {M : Nat → Prop} {k : List It} {e : Env} {H : List Ck}
end
section
variable {P : Program} {T : Tab} {ro : Cx} {n : Nat} {F : Fin} {w0 : World} {M : Nat → Prop} {k : List It} {ops : Array Oper} {rest : List Oper} {e : Env} {H Hq : List Ck}
theorem ql_makeZ {d t et m bytes : Nat} {z : Value} {x y : Operand} {ty : TypeId} {pos : String} {af : Array Edge} (hS : SlT P t et 1 bytes z) (hz1 : z.cells = #[z]) (hx : opv e x = some (.int .i64 m)) (hy : opv e y = some (.int .i64 m)) (hd : Nat.blt d n = true) (hm : m ≤ 1000000) (hb8 : bytes ≤ 8)
  (h : ∀ b, QL P ro n F w0 M k ops rest ((d, aB9 b m m) :: e) (.pt b (List.replicate m z) et :: H)) :
  QL P ro n F w0 M k ops (⟨some d, .makeSlice t x y, ty, pos, af, none⟩ :: rest) e H := .mk fun w hs => by
 obtain ⟨ht, hi', hzs, hsz⟩ := hS;cases hinf : P.info? et with
 | none => simp [hinf] at hi'
 | some i =>
  simp [hinf] at hi';obtain ⟨hz, hsize, hby⟩ := hi';subst hby;have hm8 : m * i.bytes ≤ 1000000 * 8 := Nat.mul_le_mul hm hb8;have hr := run_makeSlice (P := P) w t et i _ ht hinf hz .i64 .i64 m m J (Int.le_refl _) (by rw [hsize]; simp; omega) (by rw [Int.mul_comm]; omega) J
  have hcells : (madeCells z.cells ((m : Int).toNat * i.size)) = (List.replicate m z).toArray := by
   apply Array.ext';rw [hsize, hz1, toList_madeCells_one];simp
  rw [hcells] at hr;refine eV (w' := w.alloc (.cells (List.replicate m z).toArray et)) (by simp) hd (fun ac hf => ?_) ((h w.heap.size).h _ (hs.addPt (eA _ _) (by simp) (fX w _ _)));simp only [execOp, hf.op hx, hf.op hy];simp [hr]
theorem ql_storeBo (hT : T.Ok P) {t : Nat} {x y : Operand} {b off : Nat} {l : List Bool} {z : Bool} {bt : TypeId} {H' : List Ck} {ty : TypeId} {pos : String} {af : Array Edge} (i : Nat)
  (hx : opv e x = some (.pointer (some ⟨b, off, none⟩))) (hy : opv e y = some (.bool z)) (h1 : has T.one t = true) (hr : Rp H (.pt b (cK l) bt) (.pt b (cK (l.set i z)) bt) H') (ho : off = i) (hi : i < l.length)
  (h : QL P ro n F w0 M k ops rest e H') : QL P ro n F w0 M k ops (⟨none, .store t x y, ty, pos, af, none⟩ :: rest) e H :=
 fG hT hx hy h1 rfl (by subst ho; rw [← List.map_set]; exact hr) (by subst ho; simpa using hi) h
end
section
variable {P : Program} {ro : Cx} {n : Nat} {F : Fin} {w0 : World} {M : Nat → Prop} {k : List It} {ops : Array Oper} {rest : List Oper} {e : Env} {H Hq : List Ck}
def delB (a s : Nat) : Nat := if a.testBit s = true then a ^^^ 2 ^ s else a
end
section
variable {P : Program} {ro : Cx} {n : Nat} {F : Fin} {w0 : World} {M : Nat → Prop} {k : List It} {ops : Array Oper} {rest : List Oper} {e : Env} {H Hq : List Ck}
theorem iJ {d t et m : Nat} {x y : Operand} {ty : TypeId} {pos : String} {af : Array Edge} (hS : SlT P t et 1 8 (.int .i64 0)) (hx : opv e x = some (.int .i64 m)) (hy : opv e y = some (.int .i64 m)) (hd : Nat.blt d n = true) (hm : m ≤ 1000000)
  (h : ∀ b, QF P ro n F w0 M k ops Hq rest ((d, aB9 b m m) :: e) (.pt b (aX (List.replicate m 0)) et :: H)) :
  QF P ro n F w0 M k ops Hq (⟨some d, .makeSlice t x y, ty, pos, af, none⟩ :: rest) e H := .mk fun w hs => by
 obtain ⟨ht, hi', hzs, hsz⟩ := hS;cases hinf : P.info? et with
 | none => simp [hinf] at hi'
 | some i =>
  simp [hinf] at hi';obtain ⟨hz, hsize, hby⟩ := hi';have hr := run_makeSlice (P := P) w t et i _ ht hinf hz .i64 .i64 m m J (Int.le_refl _) (by rw [hsize]; simp; omega) (by rw [hby]; omega) J
  have hcells : (madeCells (Value.int .i64 0).cells ((m : Int).toNat * i.size)) = (aX (List.replicate m 0)).toArray := by
   apply Array.ext';rw [hsize, show (Value.int .i64 0).cells = #[Value.int .i64 0] from rfl, toList_madeCells_one];simp
  rw [hcells] at hr;have hs' : Sat w0 M ((.pt w.heap.size (aX (List.replicate m 0)) et :: H) ++ Hq) (w.alloc (.cells (aX (List.replicate m 0)).toArray et)) := hs.addPt (eA _ _) (by simp) (fX w _ _);refine yf_eff (w' := w.alloc (.cells (aX (List.replicate m 0)).toArray et)) Z hd (fun ac hf => ?_) hs'.right ((h w.heap.size).h _ hs');simp only [execOp, hf.op hx, hf.op hy];simp [hr]
end
section
variable {P : Program} {T : Tab} {ro : Cx} {n : Nat} {F : Fin} {w0 : World} {M : Nat → Prop} {k : List It} {ops : Array Oper} {rest : List Oper} {e : Env} {H Hq : List Ck}
theorem ql_makeC {d t et m size bytes : Nat} {z : Value} {x y : Operand} {ty : TypeId} {pos : String} {af : Array Edge} (hS : SlT P t et size bytes z) (hx : opv e x = some (.int .i64 m)) (hy : opv e y = some (.int .i64 m)) (hd : Nat.blt d n = true) (hm : m * size ≤ 1000000) (hm2 : m * bytes ≤ 1000000000) (hm3 : m ≤ 1000000)
  (h : ∀ b, QL P ro n F w0 M k ops rest ((d, aB9 b m m) :: e) (.pt b (madeCells z.cells (m * size)).toList et :: H)) :
  QL P ro n F w0 M k ops (⟨some d, .makeSlice t x y, ty, pos, af, none⟩ :: rest) e H := .mk fun w hs => by
 obtain ⟨ht, hi', hzs, hsz⟩ := hS;cases hinf : P.info? et with
 | none => simp [hinf] at hi'
 | some i =>
  simp [hinf] at hi';obtain ⟨hz, hsize, hby⟩ := hi';subst hsize;subst hby;have hr := run_makeSlice (P := P) w t et i _ ht hinf hz .i64 .i64 m m J (Int.le_refl _) (by simp; omega) (by rw [Int.mul_comm]; omega) J;refine eV (w' := w.alloc (.cells (madeCells z.cells (m * i.size)) et)) (by simp) hd (fun ac hf => ?_) ((h w.heap.size).h _ (hs.addPt (eA _ _) (by simp) (by have := fX w (madeCells z.cells (m * i.size)) et; simpa using this)));simp only [execOp, hf.op hx, hf.op hy];simp at hr;simp [hr]
end
end Go.Eng
namespace Go.Proofs.YtopdmadgkjdgcaaGreat
open Go Go.Eng
set_option maxRecDepth 4000
open Go Go.Eng
theorem eZ (n lo hi : Int) (w : World) : Ca Tryz.prog 109 [.int .i64 n, .int .i64 lo, .int .i64 hi] w fun v w' => v = .bool (inB n lo hi) ∧ Chg [] w w' := by
 refine cN (Sat.nil w M0) Tryz.func109 Z (by simp [Tryz.ntmps109]) ?_;(refine aC (aB (aA1 zq (aD (aC (aB ?_))))); (iterate 4 refine aA1 zq ?_));refine pL Z Z (fun hc => ?_) (fun hc => ?_)
 ·(refine aE Z (aA1 zq (aE Z (aA1 zq (aE Z ?_)))); (iterate 3 refine aA1 zq ?_); refine aD (aS ?_))
  refine aA5 wq O fun w hs => ?_;exact ⟨by simp at hc; simp [inB, hc, retV], hs.chg0⟩
 ·((iterate 3 refine aA8 yq ?_); refine aA1 zq (aA1 zq (aD (aS ?_))))
  refine aA5 wq O fun w hs => ?_;exact ⟨by simp at hc; simp [inB, retV]; omega, hs.chg0⟩
def hdB (h : Hd) : Bool := (inB h.who 0 99 && inB h.f 0 h.t) && decide (h.t ≤ 10000)
theorem hdB_iff {h : Hd} : hdB h = true ↔ (0 ≤ h.who ∧ h.who ≤ 99) ∧ (0 ≤ h.f ∧ h.f ≤ h.t) ∧ h.t ≤ 10000 := by
 unfold hdB;rw [Bool.and_eq_true, Bool.and_eq_true, bV, bV, decide_eq_true_iff, and_assoc]
def pHd : Value → Bool
 | .agg cs => match cs.toList with
  | [.int _ a, .int _ b, .int _ c] => hdB ⟨a, b, c⟩
  | _ => false
 | _ => false
theorem pHd_all (l : List Hd) : (l.map hdV).all pHd = l.all hdB := by
 rw [List.all_map]
 rfl
def chkG (L : List Hd) : Int := if L.length < 1 ∨ 30 < L.length then 2 else if L.all hdB = true then 0 else 3
structure GOk (L : List Hd) : Prop where
 n1 : 1 ≤ L.length
 n30 : L.length ≤ 30
 all : ∀ h ∈ L, (0 ≤ h.who ∧ h.who ≤ 99) ∧ (0 ≤ h.f ∧ h.f ≤ h.t) ∧ h.t ≤ 10000
theorem chkG_zero {L : List Hd} : chkG L = 0 ↔ GOk L := by
 unfold chkG;constructor
 ·intro h;split at h
  ·omega
  split at h
  ·rename_i h1 h2
   exact ⟨by omega, by omega, fun x hx => hdB_iff.1 (List.all_eq_true.1 h2 x hx)⟩
  ·omega
 ·intro h;have h1 := h.n1;have h2 := h.n30;rw [if_neg J, if_pos (List.all_eq_true.2 fun x hx => hdB_iff.2 (h.all x hx))]
theorem checkG1_p (w : World) (l : List Hd) : PredAt Tryz.prog tab w (.func (.func 138) #[] #[]) (l.map hdV) pHd := by
 refine ⟨_, _, _, Z, Z, fun w' hw' x hx => ?_⟩;obtain ⟨⟨x, y, z⟩, hy, rfl⟩ := List.mem_map.1 hx;refine cN (Sat.nil w' M0) Tryz.func138 Z (by simp [Tryz.ntmps138]) ?_;(refine aC (aB ?_));refine bR Z Z (fun b1 => ?_);(refine aA1 zq (aD (aC (aB (aA1 zq ?_)))); refine aJ U Z Z Z ?_);refine aI (val := .bool (inB x 0 99)) U Z Z Z Z (fun w hs => ?_) ?_; exact eZ x 0 99 w;(refine aA1 zq ?_);refine pL Z Z (fun hc => ?_) (fun hc => ?_)
 ·(refine aE Z (aA1 zq (aE Z ?_)); refine aJ U Z Z Z ?_; refine aE Z (aA1 zq (aE Z ?_)); refine aJ U Z Z Z ?_; refine aE Z ?_)
  refine aI (val := .bool (inB y 0 z)) U Z Z Z Z (fun w hs => ?_) ?_; exact eZ y 0 z w;(refine aA1 zq (aA1 zq ?_));refine pL Z Z (fun hc => ?_) (fun hc => ?_)
  ·(refine aE Z (aA1 zq (aE Z ?_)); refine aJ U Z Z Z ?_; refine aE Z ?_; (iterate 3 refine aA1 zq ?_); refine aD (aS ?_))
   refine aA5 wq O fun w hs => ?_;exact ⟨by simp [retV, pHd, hdB, *], hs.chg0⟩
  ·((iterate 3 refine aA8 yq ?_); refine aA1 zq (aA1 zq (aD (aS ?_))))
   refine aA5 wq O fun w hs => ?_;exact ⟨by simp [retV, pHd, hdB, *], hs.chg0⟩
 ·((iterate 5 refine aA8 yq ?_); refine aA1 zq (aA1 zq ?_); (iterate 3 refine aA8 yq ?_); refine aA1 zq (aA1 zq (aD (aS ?_))))
  refine aA5 wq O fun w hs => ?_;exact ⟨by simp [retV, pHd, hdB, *], hs.chg0⟩
theorem checkG_ca (w : World) (lo hi : Nat) (L : List Hd) (v : Value) (h : RdH w lo hi v L) (hlen : L.length ≤ maxLen) : Ca Tryz.prog 70 [v] w fun x w' => x = .int .i64 (chkG L) ∧ Chg [] w w' := by
 obtain ⟨a, ca, rfl, hsa⟩ := RdH.outI h;simp only [maxLen] at hlen;refine cN (Sat.nil w M0) Tryz.func70 Z (by simp [Tryz.ntmps70]) ?_;(refine aC (aB (aA1 zq (aD (aC (aM (aC (aB (aA1 zq (aA1 zq ?_))))))))));refine aI (val := .bool (inB L.length 1 30)) U Z Z Z Z (fun w hs => ?_) ?_; exact eZ L.length 1 30 w;(refine aA1 zq (aA1 zq (aD ?_)));refine q_cond Z (fun hc => ?_) (fun hc => ?_)
 ·have hn : ¬ ((1 : Int) ≤ L.length ∧ (L.length : Int) ≤ 30) := by rw [← bV]; simpa using hc
  (refine aC (aB (aA1 zq (aD (aS ?_)))))
  refine aA5 wq O fun w hs => ?_;exact ⟨by simp only [retV, chkG]; rw [if_pos J], hs.chg0⟩
 ·have hn := bV.1 (show inB (L.length : Int) 1 30 = true by simpa using hc);(refine aC (aB (aA1 zq ?_)));refine aI (val := .bool (L.all hdB)) U Z Z Z Z (fun w hs => ?_) ?_; exact by have := all_hold w lo hi _ _ (L.map hdV) pHd (RdE.keep h hs.chg0) (hdV_agg L) (by rw [List.length_map]; omega) (checkG1_p w L); rw [pHd_all] at this; exact this
  (refine aA1 zq (aA1 zq (aD ?_)))
  refine q_cond Z (fun hc => ?_) (fun hc => ?_)
  ·(refine aC (aB (aA1 zq (aD (aS ?_)))))
   refine aA5 wq O fun w hs => ?_;exact ⟨by simp only [retV, chkG]; rw [if_neg J, if_neg (by simpa using hc)], hs.chg0⟩
  ·(refine aK (bK (aC (aB (aA1 zq (aD (aS ?_)))))))
   refine aA5 wq O fun w hs => ?_;exact ⟨by simp only [retV, chkG]; rw [if_neg J, if_pos (by simpa using hc)], hs.chg0⟩
theorem covers_ca (h : Hd) (m : Int) (w : World) : Ca Tryz.prog 145 [hdV h, .int .i64 m] w fun x w' => x = .bool (h.cov m) ∧ Chg [] w w' := by
 refine cN (Sat.nil w M0) Tryz.func145 Z (by simp [Tryz.ntmps145]) ?_;(refine aC (aB ?_));refine bR Z Z (fun b2 => ?_);(refine aA1 zq (aD (aC (aB (aA1 zq ?_)))); refine aJ U Z Z Z ?_; (iterate 3 refine aA1 zq ?_));refine pL Z Z (fun hc => ?_) (fun hc => ?_)
 ·have h1 : h.f ≤ m := by simpa using hc
  (refine aE Z (aA1 zq (aE Z ?_)); refine aJ U Z Z Z ?_; refine aE Z (aA1 zq (aE Z ?_)); (iterate 3 refine aA1 zq ?_); refine aD (aS ?_))
  refine aA5 wq O fun w hs => ?_;exact ⟨by simp [retV, Hd.cov, h1, gt_iff_lt], hs.chg0⟩
 ·have h1 : ¬ h.f ≤ m := by simpa using hc
  ((iterate 4 refine aA8 yq ?_); refine aA1 zq (aA1 zq (aD (aS ?_))))
  refine aA5 wq O fun w hs => ?_;exact ⟨by simp [retV, Hd.cov]; omega, hs.chg0⟩
def endK (L : List Hd) (i : Int) : Int := (hdL L i.toNat).t
theorem links1_ca (w : World) (lo hi b n c : Nat) (a : Option Addr) (L : List Hd) (h : RdH w lo hi (.slice a n c) L) (hb : Blk w b [.slice a n c] 23) (hL : ∀ h ∈ L, 0 ≤ h.t ∧ h.t ≤ 10000) (i j : Nat) (hi' : i < L.length) (hj : j < L.length) : Ca Tryz.prog 174 [.int .i64 i, .int .i64 j, aC0 b] w fun x w' => x = .int .i64 (endK L j - endK L i) ∧ Chg [] w w' := by
 obtain ⟨a', c', e0, hsa⟩ := RdH.outI h;cases e0
 obtain ⟨ab, ao, rfl⟩ := hsa J
 have e1 : endK L i = L[i].t := by
  unfold endK hdL;rw [Int.toNat_natCast, List.getD_eq_getElem?_getD, List.getElem?_eq_getElem hi', Option.getD_some]
 have e2 : endK L j = L[j].t := by
  unfold endK hdL;rw [Int.toNat_natCast, List.getD_eq_getElem?_getD, List.getElem?_eq_getElem hj, Option.getD_some]
 have b1 := hL _ (List.getElem_mem hi');have b2 := hL _ (List.getElem_mem hj);rw [e1, e2];refine cN (Sat.nil w M0) Tryz.func174 Z (by simp [Tryz.ntmps174]) ?_;(refine aC (aB (aA1 zq (aD (aC ?_)))));refine bZ _ [] (Sp.refl _) qB qB ?_;(refine dV U Z Z Z (by assumption) (by rfl) ?_; refine aA2 xq ?_);refine aA3 Wa J J ?_;(refine aA2 xq ?_);refine aR (v := .int .i64 L[j].t) U Z Z Z (fun w hs => RdH.at2 (RdE.keep h hs.chg0) j hj) ?_;(refine dV U Z Z Z (by assumption) (by rfl) ?_; refine aA2 xq ?_);refine aA3 Wa J J ?_;(refine aA2 xq ?_);refine aR (v := .int .i64 L[i].t) U Z Z Z (fun w hs => RdH.at2 (RdE.keep h hs.chg0) i hi') ?_;(refine aA9 uq J J (aA2 xq (aN (aS ?_))));refine aA5 wq O fun w hs => ?_
 exact ⟨Z, hs.chg0⟩
end Go.Proofs.YtopdmadgkjdgcaaGreat
namespace Go.Proofs.YtopdmadgkjdgcaaGreat
open Go Go.Eng
set_option maxRecDepth 4000
open Go Go.Shelf
def lays189_ren : Go.Shelf.Ren := ⟨fun | 189 => 102 | 125 => 160 | 257 => 159 | 128 => 195 | 129 => 196 | 294 => 186 | 295 => 187 | 296 => 188 | 297 => 189 | 298 => 190 | 299 => 191 | 216 => 192 | 300 => 193 | 301 => 194 | 328 => 215 | 329 => 216 | 330 => 217 | 331 => 218 | 332 => 219 | 215 => 220 | 343 => 234 | n => n, fun | 28 => 29 | 3 => 3 | 46 => 241 | 0 => 0 | 51 => 161 | 53 => 265 | 4 => 4 | 183 => 256 | 182 => 255 | 131 => 261 | 5 => 5 | 9 => 9 | 218 => 281 | 222 => 157 | 228 => 293 | 229 => 168 | n => n, fun | n => n⟩
theorem lays189 : Go.Proofs.Lays.n189 Tryz.prog lays189_ren := {
 mixed := by kernel_rfl
 f125 := Tryz.func160.trans (congrArg some qB)
 f128 := Tryz.func195.trans (congrArg some qB)
 f129 := Tryz.func196.trans (congrArg some qB)
 f189 := Tryz.func102.trans (congrArg some qB)
 f215 := Tryz.func220.trans (congrArg some qB)
 f216 := Tryz.func192.trans (congrArg some qB)
 f257 := Tryz.func159.trans (congrArg some qB)
 f294 := Tryz.func186.trans (congrArg some qB)
 f295 := Tryz.func187.trans (congrArg some qB)
 f296 := Tryz.func188.trans (congrArg some qB)
 f297 := Tryz.func189.trans (congrArg some qB)
 f298 := Tryz.func190.trans (congrArg some qB)
 f299 := Tryz.func191.trans (congrArg some qB)
 f300 := Tryz.func193.trans (congrArg some qB)
 f301 := Tryz.func194.trans (congrArg some qB)
 f328 := Tryz.func215.trans (congrArg some qB)
 f329 := Tryz.func216.trans (congrArg some qB)
 f330 := Tryz.func217.trans (congrArg some qB)
 f331 := Tryz.func218.trans (congrArg some qB)
 f332 := Tryz.func219.trans (congrArg some qB)
 f343 := Tryz.func234.trans (congrArg some qB)
 t0 := Tryz.underlying0
 a0 := Tryz.isAgg0
 z0 := Tryz.sizeOf0
 v0 := Tryz.zeroValue0
 t3 := Tryz.underlying3
 a3 := Tryz.isAgg3
 z3 := Tryz.sizeOf3
 v3 := Tryz.zeroValue3
 t4 := Tryz.underlying4
 a4 := Tryz.isAgg4
 z4 := Tryz.sizeOf4
 v4 := Tryz.zeroValue4
 t5 := Tryz.underlying5
 a5 := Tryz.isAgg5
 z5 := Tryz.sizeOf5
 v5 := Tryz.zeroValue5
 t9 := Tryz.underlying9
 a9 := Tryz.isAgg9
 z9 := Tryz.sizeOf9
 v9 := Tryz.zeroValue9
 t28 := Tryz.underlying29
 a28 := Tryz.isAgg29
 z28 := Tryz.sizeOf29
 v28 := Tryz.zeroValue29
 t46 := Tryz.underlying241
 a46 := Tryz.isAgg241
 z46 := Tryz.sizeOf241
 v46 := Tryz.zeroValue241
 t51 := Tryz.underlying161
 a51 := Tryz.isAgg161
 z51 := Tryz.sizeOf161
 v51 := Tryz.zeroValue161
 t53 := Tryz.underlying265
 a53 := Tryz.isAgg265
 z53 := Tryz.sizeOf265
 v53 := Tryz.zeroValue265
 t131 := Tryz.underlying261
 a131 := Tryz.isAgg261
 z131 := Tryz.sizeOf261
 v131 := Tryz.zeroValue261
 t182 := Tryz.underlying255
 a182 := Tryz.isAgg255
 z182 := Tryz.sizeOf255
 v182 := Tryz.zeroValue255
 t183 := Tryz.underlying256
 a183 := Tryz.isAgg256
 z183 := Tryz.sizeOf256
 v183 := Tryz.zeroValue256
 t218 := Tryz.underlying281
 a218 := Tryz.isAgg281
 z218 := Tryz.sizeOf281
 v218 := Tryz.zeroValue281
 t222 := Tryz.underlying157
 a222 := Tryz.isAgg157
 z222 := Tryz.sizeOf157
 v222 := Tryz.zeroValue157
 t228 := Tryz.underlying293
 a228 := Tryz.isAgg293
 z228 := Tryz.sizeOf293
 v228 := Tryz.zeroValue293
 t229 := Tryz.underlying168
 a229 := Tryz.isAgg168
 z229 := Tryz.sizeOf168
 v229 := Tryz.zeroValue168 }
end Go.Proofs.YtopdmadgkjdgcaaGreat
namespace Go.Proofs.YtopdmadgkjdgcaaGreat
open Go Go.Eng
set_option maxRecDepth 4000
open Go Go.Eng
theorem sort_ca (w : World) (g c : Nat) (l : List Int) (hl : l.length ≤ 1000000) (hb : w.ownsRow 0 3 1 (aB9 g l.length c) l.length (aX l)) :
  Ca Tryz.prog 102 [aB9 g l.length c] w fun v w' => ∃ L : List Int, (v = .tuple #[] ∧ L.Perm l ∧ L.Pairwise (· ≤ ·)) ∧ Sat w (fun x => x = g) [.ow (aB9 g l.length c) 3 1 l.length (aX L)] w' := by
 have hs0 := Sat.own0 hb;obtain ⟨hlen, h2⟩ := hb;rcases h2 with ⟨h3, _⟩ | ⟨g', cap, cur, h3, h4, h5, h6, h7, h8, h9⟩
 ·injection h3 with h3 _ _
  cases h3
 ·injection h3 with e1 _ e3
  injection e1 with e1
  injection e1 with e1 _ _
  subst e1 e3;have hg : g < w.heap.size := (Array.getElem?_eq_some_iff.1 h5).1
  have hcell : ∀ j (hj : j < l.length), cur[j]? = some (.int .i64 l[j]) := fun j hj => by
   have h10 : (cur.toList.take (l.length * 1))[j]? = (aX l)[j]? := by rw [h9]
   rw [List.getElem?_take_of_lt J] at h10;rw [← Array.getElem?_toList, h10];simp [aX, hj]
  have hH : Go.Sort.Holds (Value.int .i64) w g 0 l.toArray := fun j hj => by
   have hj2 : j < l.length := by simpa using hj
   refine ⟨?_, ?_⟩
   ·have h11 : l.toArray[j]! = l[j] := by
     rw [getElem!_pos l.toArray j hj];simp
    rw [h11];have h12 := hcell j hj2;simp only [World.cell?, h5, Nat.zero_add];simpa using h12
   ·simp [World.frozen?, h5]
  have hc := Any.slices_Sort_int lays189 g 0 c l w hH hg J;refine Calls.mono (show Calls Tryz.prog 102 _ w _ from hc) ?_;rintro e w' ⟨rfl, n, os, rfl⟩;refine ⟨_, Z, l.mergeSort (fun x y => decide (x ≤ y)), ⟨Z, List.mergeSort_perm _ _, ?_⟩, ?_⟩
  ·have := List.pairwise_mergeSort (le := fun x y : Int => decide (x ≤ y)) (by intro a b c h1 h2; simp at *; omega) (by intro a b; simp; omega) l;exact this.imp (by intro a b h; simpa using h)
  ·have hL : (l.mergeSort (fun x y => decide (x ≤ y))).length = l.length := List.length_mergeSort _;generalize l.mergeSort (fun x y => decide (x ≤ y)) = L at hL
   have hhp : ∀ k, k < w.heap.size → (Go.Sort.grow (Go.Sort.putRow (Value.int .i64) (Go.Sort.ahead w n) g 0 L.toArray) os).heap[k]? = (w.heap.modify g (Go.Sort.onCells (Go.Sort.putCells (Value.int .i64) 0 L.toArray)))[k]? := fun k hk => by
    show ((w.heap.modify g (Go.Sort.onCells (Go.Sort.putCells (Value.int .i64) 0 L.toArray))) ++ os)[k]? = _
    rw [Array.getElem?_append_left (by simpa using hk)]
   have hgc : (Go.Sort.grow (Go.Sort.putRow (Value.int .i64) (Go.Sort.ahead w n) g 0 L.toArray) os).heap[g]? = some (.cells (Go.Sort.putCells (Value.int .i64) 0 L.toArray cur) 3 (0, 0)) := by
    rw [hhp g hg, Array.getElem?_modify, if_pos rfl, h5]
    rfl
   refine hs0.app (v := aB9 g l.length c) (v' := aB9 g l.length c) (et := 3) (sz := 1) (m := l.length) (q := l.length) (xs := aX l) (ys := aX L) O ⟨Z, Z, Z, ?_, fun k hk hn => ?_⟩ ⟨by simp [aX, hL], .inr ⟨g, c, _, Z, h4, hgc, h6, h7, ?_, ?_⟩⟩ (fun x hx => .inl hx)
   ·show w.heap.size ≤ ((w.heap.modify g _) ++ os).size
    simp
   ·rw [hhp k hk, Array.getElem?_modify, if_neg (fun e => hn (by simp [Value.ownBlock, e]))]
   ·rw [← h8];simp [Go.Sort.putCells]
   ·refine List.ext_getElem? fun j => ?_;by_cases hj : j < l.length
    ·have hjL : j < L.length := by omega
     have hjc : j < cur.size := by omega
     rw [List.getElem?_take_of_lt J, Array.getElem?_toList];simp [Go.Sort.putCells, aX, hjL, hjc]
    ·rw [List.getElem?_eq_none (by rw [List.length_take]; omega), List.getElem?_eq_none (by simp [aX]; omega)]
theorem sort0_ca (w : World) (a : Option Addr) (c : Nat) : Ca Tryz.prog 102 [.slice a 0 c] w fun v w' => v = .tuple #[] ∧ Chg [] w w' :=
 Calls.mono (show Calls Tryz.prog 102 _ w _ from Any.slices_Sort_int_none lays189 a c w) fun e w' ⟨h1, h2⟩ => ⟨_, h1, rfl, by rw [h2]; exact Chg.refl _ _⟩
def addK (l : List Int) (x : Int) : List Int := if x ∈ l then l else l ++ [x]
def kdL (l : List Int) : List Int := l.foldl addK []
def kdK (s : Sc) (k : Kn) : List Int := kdL ((dO s k).map s.rif)
theorem gD_set {l : List Int} {i k : Nat} {x : Int} (hi : i < l.length) : (l.set i x).getD k 0 = if i = k then x else l.getD k 0 := by
 rw [List.getD_eq_getElem?_getD, List.getElem?_set, List.getD_eq_getElem?_getD];by_cases e : i = k
 ·subst e;simp [hi]
 ·simp [e]
def swL (l : List Int) (i j : Nat) : List Int := (l.set i (l.getD j 0)).set j (l.getD i 0)
theorem swL_at {l : List Int} {i j : Nat} (hi : i < l.length) (hj : j < l.length) (k : Nat) : (swL l i j).getD k 0 = if j = k then l.getD i 0 else if i = k then l.getD j 0 else l.getD k 0 := by
 unfold swL;rw [gD_set (by simpa using hj), gD_set hi]
theorem swL_perm {l : List Int} {i j : Nat} (hi : i < l.length) (hj : j < l.length) : (swL l i j).Perm l := by
 unfold swL;have e1 : l.getD j 0 = l[j] := by rw [List.getD_eq_getElem?_getD, List.getElem?_eq_getElem hj]; rfl
 have e2 : l.getD i 0 = l[i] := by rw [List.getD_eq_getElem?_getD, List.getElem?_eq_getElem hi]; rfl
 rw [e1, e2];exact List.set_set_perm hi hj
structure Seg (l L : List Int) (a b : Nat) : Prop where
 perm : L.Perm l
 out : ∀ k, k < a ∨ b ≤ k → L.getD k 0 = l.getD k 0
 mem : ∀ k, a ≤ k → k < b → ∃ j, (a ≤ j ∧ j < b) ∧ L.getD k 0 = l.getD j 0
theorem Seg.refl (l : List Int) (a b : Nat) : Seg l l a b := ⟨.refl _, fun _ _ => rfl, fun k h1 h2 => ⟨k, ⟨h1, h2⟩, rfl⟩⟩
theorem Seg.trans {l L M : List Int} {a b : Nat} (h : Seg l L a b) (g : Seg L M a b) : Seg l M a b :=
 ⟨g.perm.trans h.perm, fun k hk => (g.out k hk).trans (h.out k hk), fun k h1 h2 => by
  obtain ⟨j, ⟨h3, h4⟩, e⟩ := g.mem k h1 h2;obtain ⟨i, h5, e2⟩ := h.mem j h3 h4;exact ⟨i, h5, e.trans e2⟩⟩
theorem Seg.wide {l L : List Int} {a b a' b' : Nat} (h : Seg l L a b) (ha : a' ≤ a) (hb : b ≤ b') : Seg l L a' b' :=
 ⟨h.perm, fun k hk => h.out k J, fun k h1 h2 => by
  by_cases c : a ≤ k ∧ k < b
  ·obtain ⟨j, h3, e⟩ := h.mem k c.1 c.2;exact ⟨j, by omega, e⟩
  ·exact ⟨k, ⟨h1, h2⟩, h.out k J⟩⟩
theorem Seg.len {l L : List Int} {a b : Nat} (h : Seg l L a b) : L.length = l.length := h.perm.length_eq
theorem Seg.sw {l : List Int} {a b i j : Nat} (hi : a ≤ i ∧ i < b) (hj : a ≤ j ∧ j < b) (hb : b ≤ l.length) : Seg l (swL l i j) a b :=
 ⟨swL_perm J J, fun k hk => by rw [swL_at J J, if_neg J, if_neg J], fun k h1 h2 => by
  rw [swL_at J J];by_cases c1 : j = k
  ·rw [if_pos c1]; exact ⟨i, hi, rfl⟩
  ·rw [if_neg c1];by_cases c2 : i = k
   ·rw [if_pos c2]; exact ⟨j, hj, rfl⟩
   ·rw [if_neg c2]; exact ⟨k, ⟨h1, h2⟩, rfl⟩⟩
def swP (a b n k : Nat) : Nat := if a ≤ k ∧ k < a + n then k + (b - a) else if b ≤ k ∧ k < b + n then k - (b - a) else k
theorem swP_zero (a b k : Nat) : swP a b 0 k = k := by
 unfold swP;rw [if_neg J, if_neg J]
theorem swP_next {l L : List Int} {a b n : Nat} (hab : a + (n + 1) ≤ b) (hb : b + n < L.length) (h : ∀ k, L.getD k 0 = l.getD (swP a b n k) 0) (k : Nat) : (swL L (a + n) (b + n)).getD k 0 = l.getD (swP a b (n + 1) k) 0 := by
 rw [swL_at J J, h, h, h];by_cases c1 : b + n = k
 ·rw [if_pos c1]
  congr 1
  unfold swP;rw [if_neg J, if_neg J, if_neg J, if_pos J];omega
 ·rw [if_neg c1];by_cases c2 : a + n = k
  ·rw [if_pos c2]
   congr 1
   unfold swP;rw [if_neg J, if_neg J, if_pos J];omega
  ·rw [if_neg c2]
   congr 1
   unfold swP;by_cases c3 : a ≤ k ∧ k < a + n
   ·rw [if_pos c3, if_pos J]
   ·rw [if_neg c3, if_neg (show ¬ (a ≤ k ∧ k < a + (n + 1)) by omega)];by_cases c4 : b ≤ k ∧ k < b + n
    ·rw [if_pos c4, if_pos J]
    ·rw [if_neg c4, if_neg J]
def roP (a m b k : Nat) : Nat := if a ≤ k ∧ k < a + (b - m) then k + (m - a) else if a + (b - m) ≤ k ∧ k < b then k - (b - m) else k
theorem ro_gt {m i j : Nat} (hi : i ≤ m) (hj : 0 < j) (h : j < i) (k : Nat) : swP (m - i) m j (roP (m - (i - j)) m (m + j) k) = roP (m - i) m (m + j) k := by
 unfold roP;by_cases c1 : m - i ≤ k ∧ k < m - i + (m + j - m)
 ·rw [if_pos c1, if_neg J, if_neg J];unfold swP;rw [if_pos J]
 ·rw [if_neg c1];by_cases c2 : m - i + (m + j - m) ≤ k ∧ k < m + j
  ·rw [if_pos c2];by_cases c3 : m - (i - j) ≤ k ∧ k < m - (i - j) + (m + j - m)
   ·rw [if_pos c3];unfold swP;rw [if_neg J, if_pos J];omega
   ·rw [if_neg c3, if_pos J];unfold swP;rw [if_neg J, if_neg J]
  ·rw [if_neg c2, if_neg J, if_neg J];unfold swP;rw [if_neg J, if_neg J]
theorem ro_lt {m i j : Nat} (hi : i ≤ m) (h0 : 0 < i) (h : i < j) (k : Nat) : swP (m - i) (m + j - i) i (roP (m - i) m (m + (j - i)) k) = roP (m - i) m (m + j) k := by
 unfold roP;by_cases c1 : m - i ≤ k ∧ k < m - i + (m + j - m)
 ·rw [if_pos c1];by_cases c3 : m - i ≤ k ∧ k < m - i + (m + (j - i) - m)
  ·rw [if_pos c3];unfold swP;rw [if_neg J, if_neg J]
  ·rw [if_neg c3, if_pos J];unfold swP;rw [if_pos J];omega
 ·rw [if_neg c1];by_cases c2 : m - i + (m + j - m) ≤ k ∧ k < m + j
  ·rw [if_pos c2, if_neg J, if_neg J];unfold swP;rw [if_neg J, if_pos J];omega
  ·rw [if_neg c2, if_neg J, if_neg J];unfold swP;rw [if_neg J, if_neg J]
theorem ro_eq {m i : Nat} (hi : i ≤ m) (k : Nat) : swP (m - i) m i k = roP (m - i) m (m + i) k := by
 unfold swP;by_cases c1 : m - i ≤ k ∧ k < m - i + i
 ·rw [if_pos c1];unfold roP;rw [if_pos J]
 ·rw [if_neg c1];by_cases c2 : m ≤ k ∧ k < m + i
  ·rw [if_pos c2];unfold roP;rw [if_neg J, if_pos J];omega
  ·rw [if_neg c2];unfold roP;rw [if_neg J, if_neg J]
theorem ro_id {s m e k : Nat} (h : s ≤ m ∧ m ≤ e) (h2 : s = m ∨ m = e) : roP s m e k = k := by
 unfold roP;by_cases c1 : s ≤ k ∧ k < s + (e - m)
 ·rw [if_pos c1]; omega
 ·rw [if_neg c1];by_cases c2 : s + (e - m) ≤ k ∧ k < e
  ·rw [if_pos c2]; omega
  ·rw [if_neg c2]
def SrW (key : Int → Int) (L : List Int) (a b : Nat) : Prop := ∀ p q, a ≤ p → p ≤ q → q < b → key (L.getD p 0) ≤ key (L.getD q 0)
section
variable {key : Int → Int} {l L : List Int} {a s m e b : Nat}
theorem SrW.sub (h : SrW key L a b) {a' b' : Nat} (ha : a ≤ a') (hb : b' ≤ b) : SrW key L a' b' := fun p q h1 h2 h3 => h p q J h2 J
theorem SrW.out (h : SrW key l a b) {x y : Nat} (hs : Seg l L x y) (hxy : b ≤ x ∨ y ≤ a) : SrW key L a b := fun p q h1 h2 h3 => by
 rw [hs.out p J, hs.out q J];exact h p q h1 h2 h3
theorem SrW.one (h : b ≤ a + 1) : SrW key L a b := fun p q h1 h2 h3 => by
 obtain rfl : p = q := by omega
 exact Int.le_refl _
structure Rot (l L : List Int) (a s m e b : Nat) : Prop where
 le1 : a ≤ s
 le2 : s ≤ m
 le3 : m ≤ e
 le4 : e ≤ b
 at_ : ∀ k, L.getD k 0 = l.getD (roP s m e k) 0
theorem Rot.r1 (h : Rot l L a s m e b) {k : Nat} (hk : k < s) : L.getD k 0 = l.getD k 0 := by
 rw [h.at_]; unfold roP; rw [if_neg J, if_neg J]
theorem Rot.r2 (h : Rot l L a s m e b) {k : Nat} (h1 : s ≤ k) (h2 : k < s + (e - m)) : L.getD k 0 = l.getD (k + (m - s)) 0 := by
 rw [h.at_]; unfold roP; rw [if_pos ⟨h1, h2⟩]
theorem Rot.r3 (h : Rot l L a s m e b) {k : Nat} (h1 : s + (e - m) ≤ k) (h2 : k < e) : L.getD k 0 = l.getD (k - (e - m)) 0 := by
 rw [h.at_]; unfold roP; rw [if_neg J, if_pos ⟨h1, h2⟩]
theorem Rot.r4 (h : Rot l L a s m e b) {k : Nat} (h1 : e ≤ k) : L.getD k 0 = l.getD k 0 := by
 have := h.le2;have := h.le3;rw [h.at_]; unfold roP; rw [if_neg J, if_neg J]
theorem Rot.s1 (h : Rot l L a s m e b) (h1 : SrW key l a m) : SrW key L a s := fun p q g1 g2 g3 => by
 have := h.le2;rw [h.r1 J, h.r1 g3];exact h1 p q g1 g2 J
theorem Rot.s2 (h : Rot l L a s m e b) (h2 : SrW key l m b) : SrW key L s (s + (e - m)) := fun p q g1 g2 g3 => by
 have := h.le1;have := h.le2;have := h.le3;have := h.le4;rw [h.r2 g1 J, h.r2 J g3];exact h2 _ _ J J J
theorem Rot.s3 (h : Rot l L a s m e b) (h1 : SrW key l a m) : SrW key L (s + (e - m)) e := fun p q g1 g2 g3 => by
 have := h.le1;have := h.le2;have := h.le3;rw [h.r3 g1 J, h.r3 J g3];exact h1 _ _ J J J
theorem Rot.s4 (h : Rot l L a s m e b) (h2 : SrW key l m b) : SrW key L e b := fun p q g1 g2 g3 => by
 have := h.le3;rw [h.r4 g1, h.r4 J];exact h2 _ _ J J J
theorem Rot.cross (h : Rot l L a s m e b) (h1 : SrW key l a m) (h2 : SrW key l m b) (c1 : s = a ∨ e = b ∨ key (l.getD (s - 1) 0) ≤ key (l.getD e 0)) (c2 : s = m ∨ e = m ∨ key (l.getD (e - 1) 0) < key (l.getD s 0)) {p q : Nat} (hp : a ≤ p ∧ p < s + (e - m)) (hq : s + (e - m) ≤ q ∧ q < b) : key (L.getD p 0) ≤ key (L.getD q 0) := by
 have g1 := h.le1;have g2 := h.le2;have g3 := h.le3;have g4 := h.le4;by_cases cp : p < s
 ·rw [h.r1 cp];by_cases cq : q < e
  ·rw [h.r3 hq.1 cq];exact h1 _ _ hp.1 J J
  ·rw [h.r4 J]
   have d : key (l.getD (s - 1) 0) ≤ key (l.getD e 0) := by
    rcases c1 with c | c | c
    ·omega
    ·omega
    ·exact c
   have d1 := h1 p (s - 1) hp.1 J J;have d2 := h2 e q J J hq.2;omega
 ·rw [h.r2 J hp.2];by_cases cq : q < e
  ·rw [h.r3 hq.1 cq]
   have d : key (l.getD (e - 1) 0) < key (l.getD s 0) := by
    rcases c2 with c | c | c
    ·omega
    ·omega
    ·exact c
   have d1 := h2 (p + (m - s)) (e - 1) J J J;have d2 := h1 s (q - (e - m)) J J J;omega
  ·rw [h.r4 J];exact h2 _ _ J J hq.2
theorem oT {mid : Nat} (hl : SrW key L a mid) (hr : SrW key L mid b) (hx : ∀ p q, a ≤ p → p < mid → mid ≤ q → q < b → key (L.getD p 0) ≤ key (L.getD q 0)) : SrW key L a b := fun p q h1 h2 h3 => by
 by_cases c1 : q < mid
 ·exact hl p q h1 h2 c1
 ·by_cases c2 : p < mid
  ·exact hx p q h1 c2 J h3
  ·exact hr p q J h2 h3
theorem seg_join {M N : List Int} {mid : Nat} (hx : ∀ p q, a ≤ p → p < mid → mid ≤ q → q < b → key (L.getD p 0) ≤ key (L.getD q 0)) (h1 : Seg L M a mid) (h2 : Seg M N mid b) (s1 : SrW key M a mid) (s2 : SrW key N mid b) : SrW key N a b :=
 oT (s1.out h2 (.inl (Nat.le_refl _))) s2 fun p q g1 g2 g3 g4 => by
  rw [h2.out p (.inl g2)];obtain ⟨p', hp', e1⟩ := h1.mem p g1 g2;obtain ⟨q', hq', e2⟩ := h2.mem q g3 g4;rw [e1, e2, h1.out q' (.inr hq'.1)];exact hx p' q' hp'.1 hp'.2 hq'.1 hq'.2
theorem Rot.first {i : Nat} (h : Rot l L a a (a + 1) i b) (h2 : SrW key l (a + 1) b) (c1 : i = a + 1 ∨ key (l.getD (i - 1) 0) < key (l.getD a 0)) (c2 : i = b ∨ key (l.getD a 0) ≤ key (l.getD i 0)) : SrW key L a b := by
 have g3 := h.le3;have g4 := h.le4;have h1 : SrW key l a (a + 1) := .one (Nat.le_refl _);refine oT (mid := i) (oT (mid := a + (i - (a + 1))) (h.s2 h2) (h.s3 h1) fun p q x1 x2 x3 x4 => ?_) (h.s4 h2) fun p q x1 x2 x3 x4 => ?_
 ·rw [h.r2 x1 x2, h.r3 x3 x4];have d1 := h2 (p + (a + 1 - a)) (i - 1) J J J;have e : q - (i - (a + 1)) = a := by omega
  rw [e];rcases c1 with c | c
  ·omega
  ·omega
 ·rw [h.r4 x3];have hi : ¬ i = b := by omega
  have d2 := h2 i q g3 x3 x4;have c2 := c2.resolve_left hi;by_cases c : p < a + (i - (a + 1))
  ·rw [h.r2 x1 c];exact h2 _ _ J J x4
  ·rw [h.r3 J x2];have e : p - (i - (a + 1)) = a := by omega
   rw [e];omega
theorem Rot.last {i : Nat} (h : Rot l L a i m (m + 1) (m + 1)) (h1 : SrW key l a m) (c1 : i = a ∨ key (l.getD (i - 1) 0) ≤ key (l.getD m 0)) (c2 : i = m ∨ key (l.getD m 0) < key (l.getD i 0)) : SrW key L a (m + 1) := by
 have g1 := h.le1;have g2 := h.le2;have h2 : SrW key l m (m + 1) := .one (Nat.le_refl _);refine oT (mid := i) (h.s1 h1) (oT (mid := i + (m + 1 - m)) (h.s2 h2) (h.s3 h1) fun p q x1 x2 x3 x4 => ?_) fun p q x1 x2 x3 x4 => ?_
 ·rw [h.r2 x1 x2, h.r3 x3 x4];have e : p + (m - i) = m := by omega
  rw [e];have d := h1 i (q - (m + 1 - m)) J J J;rcases c2 with c | c
  ·omega
  ·omega
 ·rw [h.r1 x2];have hi : ¬ i = a := by omega
  have c1 := c1.resolve_left hi;have d := h1 p (i - 1) x1 J J;by_cases c : q < i + (m + 1 - m)
  ·rw [h.r2 x3 c];have e : q + (m - i) = m := by omega
   rw [e];omega
  ·rw [h.r3 J x4];exact h1 _ _ x1 J J
end
theorem mv_first {l L : List Int} {a k : Nat} (ha : a ≤ k) (hk : k + 1 < L.length) (h : ∀ x, L.getD x 0 = l.getD (roP a (a + 1) (k + 1) x) 0) (x : Nat) : (swL L k (k + 1)).getD x 0 = l.getD (roP a (a + 1) (k + 1 + 1) x) 0 := by
 rw [swL_at J J, h, h, h];unfold roP;by_cases c1 : k + 1 = x
 ·rw [if_pos c1, if_neg J, if_pos J, if_neg J, if_pos J]
  congr 1; omega
 ·rw [if_neg c1];by_cases c2 : k = x
  ·rw [if_pos c2, if_neg J, if_neg J, if_pos J]
   congr 1; omega
  ·rw [if_neg c2];by_cases c3 : a ≤ x ∧ x < a + (k + 1 - (a + 1))
   ·rw [if_pos c3, if_pos J]
   ·rw [if_neg c3, if_neg J, if_neg J, if_neg J]
theorem mv_last {l L : List Int} {m k : Nat} (hk : k + 1 ≤ m) (hm : m < L.length) (h : ∀ x, L.getD x 0 = l.getD (roP (k + 1) m (m + 1) x) 0) (x : Nat) : (swL L (k + 1) k).getD x 0 = l.getD (roP k m (m + 1) x) 0 := by
 rw [swL_at J J, h, h, h];unfold roP;by_cases c1 : k = x
 ·rw [if_pos c1, if_pos J, if_pos J]
  congr 1; omega
 ·rw [if_neg c1];by_cases c2 : k + 1 = x
  ·rw [if_pos c2, if_neg J, if_neg J, if_neg J, if_pos J]
   congr 1; omega
  ·rw [if_neg c2];by_cases c3 : k + 1 ≤ x ∧ x < k + 1 + (m + 1 - m)
   ·omega
   ·rw [if_neg c3, if_neg (show ¬ (k ≤ x ∧ x < k + (m + 1 - m)) by omega)];by_cases c4 : k + 1 + (m + 1 - m) ≤ x ∧ x < m + 1
    ·rw [if_pos c4, if_pos J]
    ·rw [if_neg c4, if_neg J]
structure InsJ (key : Int → Int) (C : List Int) (a i j : Nat) : Prop where
 ji : a ≤ j ∧ j ≤ i
 srt : ∀ p q, a ≤ p → p ≤ q → q ≤ i → p ≠ j → q ≠ j → key (C.getD p 0) ≤ key (C.getD q 0)
 low : ∀ q, j < q → q ≤ i → key (C.getD j 0) ≤ key (C.getD q 0)
theorem InsJ.start {key : Int → Int} {C : List Int} {a i : Nat} (h : SrW key C a i) (ha : a ≤ i) : InsJ key C a i i :=
 ⟨⟨ha, Nat.le_refl _⟩, fun p q h1 h2 h3 h4 h5 => h p q h1 h2 J, fun q h1 h2 => by omega⟩
theorem InsJ.close {key : Int → Int} {C : List Int} {a i j : Nat} (h : InsJ key C a i j) (hj : j = a ∨ key (C.getD (j - 1) 0) ≤ key (C.getD j 0)) : SrW key C a (i + 1) := fun p q h1 h2 h3 => by
 have hji := h.ji;by_cases c1 : q = j
 ·by_cases c2 : p = q
  ·rw [c2]; exact Int.le_refl _
  ·have hj := hj.resolve_left J;by_cases c3 : p = j - 1
   ·rw [c3, c1]; exact hj
   ·have := h.srt p (j - 1) h1 J J J J;rw [c1]; omega
 ·by_cases c2 : p = j
  ·rw [c2]; exact h.low q J J
  ·exact h.srt p q h1 h2 J c2 c1
theorem InsJ.swap {key : Int → Int} {C : List Int} {a i j : Nat} (h : InsJ key C a i (j + 1)) (ha : a ≤ j) (hi : i < C.length) (hlt : key (C.getD (j + 1) 0) < key (C.getD j 0)) : InsJ key (swL C (j + 1) j) a i j := by
 have hji := h.ji;have at_ := fun k => swL_at (l := C) (i := j + 1) (j := j) J J k
 refine ⟨by omega, fun p q h1 h2 h3 h4 h5 => ?_, fun q h1 h2 => ?_⟩
 ·rw [at_, at_, if_neg (Ne.symm h4), if_neg (Ne.symm h5)];by_cases c1 : j + 1 = p
  ·rw [if_pos c1];by_cases c2 : j + 1 = q
   ·rw [if_pos c2]; exact Int.le_refl _
   ·rw [if_neg c2]; exact h.srt j q ha J h3 J J
  ·rw [if_neg c1];by_cases c2 : j + 1 = q
   ·rw [if_pos c2]; exact h.srt p j h1 J J J J
   ·rw [if_neg c2]; exact h.srt p q h1 h2 h3 J J
 ·rw [at_, at_, if_pos rfl, if_neg J];by_cases c2 : j + 1 = q
  ·rw [if_pos c2]; omega
  ·rw [if_neg c2]; exact h.low q J h2
end Go.Proofs.YtopdmadgkjdgcaaGreat
namespace Go.Eng
set_option maxRecDepth 4000
open Go Go.RowKit
section
variable {P : Program}
inductive PK where
 | fl : List (Option IntKind) → PK
 | ar : Nat → Nat → PK
def PK.ks : PK → List (Option IntKind)
 | .fl ks => ks
 | .ar n _ => List.replicate n none
def PK.b (P : Program) (t : Nat) : PK → Bool
 | .fl ks => nQ P t ks && Nat.beq (P.cellsOf t) ks.length && (P.info? t).isSome
 | .ar n e => arrQB P t n e && Nat.beq (P.cellsOf t) n && (P.info? t).isSome
theorem PK.part {t : Nat} {p : PK} (h : p.b P t = true) (xs : List Value) (o : Nat) (w : World) : (part t xs.toArray o).run P w = .ok (.agg ((xs.drop o).take p.ks.length).toArray) w := by
 cases p with
 | fl ks =>
  simp only [PK.b, Bool.and_eq_true] at h;obtain ⟨⟨h1, h2⟩, h3⟩ := h;exact run_partA h1 (Nat.eq_of_beq_eq_true h2) h3 xs o w
 | ar n e =>
  simp only [PK.b, Bool.and_eq_true] at h;obtain ⟨⟨h1, h2⟩, h3⟩ := h;simp only [arrQB, Bool.and_eq_true, Bool.not_eq_true'] at h1;obtain ⟨⟨_, h5⟩, _⟩ := h1;split at h5
  ·rename_i n' e' hu
   have := run_partArr (P := P) hu (Nat.eq_of_beq_eq_true h2) h3 xs o w;rw [this];simp [PK.ks]
  ·cases h5
theorem PK.eq {t : Nat} {p : PK} (h : p.b P t = true) {xs ys : List Value} (hx : gE p.ks xs = true) (hy : gE p.ks ys = true) (d : Nat) (w : World) : (Go.Op.equalIn (d + 2) t (.agg xs.toArray) (.agg ys.toArray)).run P w = .ok (eqL xs ys) w := by
 cases p with
 | fl ks =>
  simp only [PK.b, Bool.and_eq_true] at h;exact run_eqFlat h.1.1 hx hy d w
 | ar n e =>
  simp only [PK.b, Bool.and_eq_true] at h;obtain ⟨l, rfl, hl⟩ := pQ _ _ hx;obtain ⟨m, rfl, hm⟩ := pQ _ _ hy;rw [eqL_bools];exact run_eqArr h.1.1 hl hm d w
theorem PK.chk {t : Nat} {p : PK} (h : p.b P t = true) {xs : List Value} (hx : gE p.ks xs = true) (empty : Bool) (d : Nat) (w : World) : (Instr.checkKey empty (d + 2) t (.agg xs.toArray)).run P w = .ok () w := by
 cases p with
 | fl ks =>
  simp only [PK.b, Bool.and_eq_true] at h;exact chk_agg h.1.1 hx empty d w
 | ar n e =>
  simp only [PK.b, Bool.and_eq_true] at h;obtain ⟨l, rfl, hl⟩ := pQ _ _ hx;exact chk_row h.1.1 empty d w l hl
def mixF (P : Program) : Nat → List Field → List PK → Bool
 | _, [], [] => true
 | o, f :: fs, p :: ps => !(f.name == "_") && Nat.beq f.offset o && p.b P f.type && mixF P (o + p.ks.length) fs ps
 | _, _, _ => false
def mixB (P : Program) (t : Nat) (ps : List PK) : Bool :=
 !(P.stoodInHeld t) && !(P.eqGuardType P.depth t) && (match P.underlying t with | some (.struct fs) => mixF P 0 fs.toList ps | _ => false)
def mixK (ps : List PK) : List (Option IntKind) := ps.flatMap PK.ks
theorem mix_under {t : Nat} {ps : List PK} (h : mixB P t ps = true) : P.stoodInHeld t = false ∧ P.eqGuardType P.depth t = false ∧ P.underlying t = some (.struct (P.fieldsOf t)) ∧ mixF P 0 (P.fieldsOf t).toList ps = true := by
 simp only [mixB, Bool.and_eq_true, Bool.not_eq_true'] at h;obtain ⟨⟨h1, h2⟩, h3⟩ := h;split at h3
 ·rename_i fs hu
  refine ⟨h1, h2, ?_, ?_⟩
  ·simp [Program.fieldsOf, hu]
  ·simpa [Program.fieldsOf, hu] using h3
 ·cases h3
theorem eqFields_mix (d : Nat) (w : World) : ∀ (fs : List Field) (ps : List PK) (o : Nat) (xs ys : List Value) (l m : List Value), mixF P o fs ps = true → gE (mixK ps) l = true → gE (mixK ps) m = true → xs.drop o = l → ys.drop o = m →
  (Go.Op.eqFields (d + 2) xs.toArray ys.toArray fs).run P w = .ok (eqL l m) w
 | [], [], o, xs, ys, l, m, _, hl, hm, _, _ => by
  cases l <;> simp [mixK, gE] at hl
  cases m <;> simp [mixK, gE] at hm
  rfl
 | [], _ :: _, _, _, _, _, _, h, _, _, _, _ => by simp [mixF] at h
 | _ :: _, [], _, _, _, _, _, h, _, _, _, _ => by simp [mixF] at h
 | f :: fs, p :: ps, o, xs, ys, l, m, h, hl, hm, ex, ey => by
  simp only [mixF, Bool.and_eq_true] at h;obtain ⟨⟨⟨hn, ho⟩, hf⟩, hr⟩ := h;have ho := Nat.eq_of_beq_eq_true ho;have hn : f.name ≠ "_" := by simpa using hn
  rw [mixK, List.flatMap_cons] at hl hm;obtain ⟨l1, l2, rfl, f1, f2⟩ := fitV_app _ _ _ hl;obtain ⟨m1, m2, rfl, g1, g2⟩ := fitV_app _ _ _ hm;have n1 := fitV_len _ _ f1;have n2 := fitV_len _ _ g1;have dx : xs.drop (o + p.ks.length) = l2 := by rw [← List.drop_drop, ex, ← n1]; simp
  have dy : ys.drop (o + p.ks.length) = m2 := by rw [← List.drop_drop, ey, ← n2]; simp
  have ih := eqFields_mix d w fs ps (o + p.ks.length) xs ys l2 m2 hr f2 g2 dx dy;have px := PK.part (P := P) hf xs f.offset w;have py := PK.part (P := P) hf ys f.offset w;rw [ho, ex, List.take_append_of_le_length J, List.take_of_length_le J] at px;rw [ho, ey, List.take_append_of_le_length J, List.take_of_length_le J] at py;have he := PK.eq hf f1 g1 d w;rw [← ho] at px py;simp only [Go.Op.eqFields, if_pos hn, Sem.run_bind, px, py, Result.andThen_ok, he];rw [eqL_app p.ks l1 m1 l2 m2 f1 g1];cases eqL l1 m1
  ·simp
  ·simpa using ih
theorem run_eqMix {t : Nat} {ps : List PK} (h : mixB P t ps = true) {xs ys : List Value} (hx : gE (mixK ps) xs = true) (hy : gE (mixK ps) ys = true) (d : Nat) (w : World) : (Go.Op.equalIn (d + 3) t (.agg xs.toArray) (.agg ys.toArray)).run P w = .ok (eqL xs ys) w := by
 obtain ⟨h1, h2, h3, h4⟩ := mix_under h;rw [run_equalIn_agg w (d + 2) t _ _ h3 h1];exact eqFields_mix d w _ ps 0 xs ys xs ys h4 hx hy Z Z
theorem chk_mixF (empty : Bool) (d : Nat) (w : World) : ∀ (fs : List Field) (ps : List PK) (o : Nat) (xs : List Value) (l : List Value), mixF P o fs ps = true → gE (mixK ps) l = true → xs.drop o = l →
  (forIn (m := Sem) fs PUnit.unit fun f _ => if f.name ≠ "_" then (do
    let v ← part f.type xs.toArray f.offset
    Instr.checkKey empty (d + 2) f.type v
    pure (ForInStep.yield PUnit.unit)) else pure (ForInStep.yield PUnit.unit)).run P w = .ok PUnit.unit w
 | [], [], o, xs, l, _, _, _ => by simp
 | [], _ :: _, _, _, _, h, _, _ => by simp [mixF] at h
 | _ :: _, [], _, _, _, h, _, _ => by simp [mixF] at h
 | f :: fs, p :: ps, o, xs, l, h, hl, ex => by
  simp only [mixF, Bool.and_eq_true] at h;obtain ⟨⟨⟨hn, ho⟩, hf⟩, hr⟩ := h;have ho := Nat.eq_of_beq_eq_true ho;have hn : f.name ≠ "_" := by simpa using hn
  rw [mixK, List.flatMap_cons] at hl;obtain ⟨l1, l2, rfl, f1, f2⟩ := fitV_app _ _ _ hl;have n1 := fitV_len _ _ f1;have dx : xs.drop (o + p.ks.length) = l2 := by rw [← List.drop_drop, ex, ← n1]; simp
  have ih := chk_mixF empty d w fs ps (o + p.ks.length) xs l2 hr f2 dx;have px := PK.part (P := P) hf xs f.offset w;rw [ho, ex, List.take_append_of_le_length J, List.take_of_length_le J] at px;rw [← ho] at px;have hc := PK.chk hf f1 empty d w;simp only [List.forIn_cons, Sem.run_bind, if_pos hn, px, Result.andThen_ok, hc, Sem.run_pure];exact ih
theorem chk_mix {kt : TypeId} {ps : List PK} (hF : mixB P kt ps = true) {xs : List Value} (h : gE (mixK ps) xs = true) (empty : Bool) (d : Nat) (w : World) : (Instr.checkKey empty (d + 3) kt (.agg xs.toArray)).run P w = .ok () w := by
 obtain ⟨h1, h2, h3, h4⟩ := mix_under hF;rw [Instr.checkKey];simp only [Sem.run_bind, run_underlying h3, Result.andThen_ok];rw [← Array.forIn_toList];rw [chk_mixF empty d w _ ps 0 xs xs h4 h rfl]
 rfl
theorem keyT_mix {kt : TypeId} {ps : List PK} (hF : mixB P kt ps = true) : KeyT P kt (keyF (mixK ps)) eqV where
 chk empty k w := by
  rintro ⟨xs, rfl, h⟩;exact chk_mix hF h empty 9997 w
 find k es w hk hes := by
  have he : ∀ a b, keyF (mixK ps) a → keyF (mixK ps) b → (Op.equal kt a b).run P w = .ok (eqV a b) w := by
   rintro _ _ ⟨xs, rfl, hx⟩ ⟨ys, rfl, hy⟩;exact run_eqMix hF hx hy 9997 w
  obtain ⟨h1, h2, h3, h4⟩ := mix_under hF;have h5 := ask_find w he hk es 0 hes;simp only [Instr.findKey, Sem.run_bind, run_underlying h3, Result.andThen_ok];cases es with
  | nil => simp [Instr.findNow]
  | cons x es =>
   simp only [Instr.findNow, Instr.sameNow];exact h5
 eq := by
  rintro _ _ ⟨xs, rfl, hx⟩ ⟨ys, rfl, hy⟩ h;rw [eqL_eq _ xs ys hx hy h]
 refl := by
  rintro _ ⟨xs, rfl, _⟩;exact kK xs
 bits := by
  rintro _ ⟨xs, rfl, h⟩;exact (bits_agg 9999 xs.toArray xs.toArray).trans (by simpa using bits_flat 9999 _ xs h)
end
section
variable {P : Program}
variable {ro : Cx} {n : Nat} {F : Fin} {k : List It} {ops : Array Oper} {rest : List Oper} {e : Env} {w0 : World} {M : Nat → Prop} {H Hq : List Ck}
theorem qf_eqb {d t t' : Nat} {x y : Operand} {p q : Bool} {ty : TypeId} {pos : String} {af : Array Edge} (hB : boolB P t = true) (hx : opv e x = some (.bool p)) (hy : opv e y = some (.bool q)) (hd : Nat.blt d n = true)
  (h : QF P ro n F w0 M k ops Hq rest ((d, .bool (p == q)) :: e) H) : QF P ro n F w0 M k ops Hq (⟨some d, .binOp .eql t x y t', ty, pos, af, none⟩ :: rest) e H := .mk fun w hw =>
 gM rfl hd (fun _ hf w' _ => (exec_eqb hf hx hy hB w').1) (h.h w hw)
theorem ql_stN {T : Tab} (cs' : List Value) (hT : T.Ok P) {t : Nat} {x y : Operand} {b i : Nat} {cs : List Value} {bt : TypeId} {v : Value} {H' : List Ck} {ty : TypeId} {pos : String} {af : Array Edge}
  (hx : opv e x = some (.pointer (some ⟨b, i, none⟩))) (hy : opv e y = some v) (h1 : has T.one t = true) (hv : dJ v = true) (hr : Rp H (.pt b cs bt) (.pt b cs' bt) H') (he : cs.set i v = cs') (hi : Nat.blt i cs.length = true)
  (h : QL P ro n F w0 M k ops rest e H') : QL P ro n F w0 M k ops (⟨none, .store t x y, ty, pos, af, none⟩ :: rest) e H := by
 subst he;exact fG hT hx hy h1 hv hr (Nat.le_of_ble_eq_true hi) h
end
def fldB (P : Program) (t i off ft : Nat) : Bool :=
 match P.underlying t with
 | some (.struct fs) => (match fs[i]? with | some f => Nat.beq f.offset off && Nat.beq f.type ft | none => false)
 | _ => false
section
variable {P : Program} {T : Tab} {ro : Cx} {n : Nat} {F : Fin} {w0 : World} {M : Nat → Prop} {k : List It} {ops : Array Oper} {rest : List Oper} {e : Env} {H Hq : List Ck}
theorem run_fld (hT : T.Ok P) {t i off ft : Nat} {cs : Array Value} {v : Value} (hA : fldB P t i off ft = true) (h1 : has T.one ft = true) (hv : cs.toList[off]? = some v) (w : World) :
  (Instr.field t (.agg cs) i).run P w = .ok v w := by
 obtain ⟨r1, r2⟩ := one_run hT h1 w;have hv' : cs[off]? = some v := by rw [← hv]; simp
 unfold fldB at hA;split at hA
 ·rename_i fs hu
  split at hA
  ·rename_i f hf
   simp only [Bool.and_eq_true] at hA;have e1 := Nat.eq_of_beq_eq_true hA.1;have e2 := Nat.eq_of_beq_eq_true hA.2;subst e1; subst e2;simp [Instr.field, asAgg, run_underlying hu, hf, part, r1, hv']
  ·cases hA
 ·cases hA
theorem qf_fld (hT : T.Ok P) {d t i : Nat} (off ft : Nat) {x : Operand} {cs : Array Value} {v : Value} {ty : TypeId} {pos : String} {af : Array Edge} (hA : fldB P t i off ft = true) (h1 : has T.one ft = true)
  (hx : opv e x = some (.agg cs)) (hd : Nat.blt d n = true) (hv : cs.toList[off]? = some v)
  (h : QF P ro n F w0 M k ops Hq rest ((d, v) :: e) H) : QF P ro n F w0 M k ops Hq (⟨some d, .field t x i, ty, pos, af, none⟩ :: rest) e H := .mk fun w hw =>
 gM rfl hd (fun a hf w' _ => by
  simp only [execOp, hf.op hx];simp [run_fld hT hA h1 hv w']) (h.h w hw)
end
section
variable {P : Program} {T : Tab} {ro : Cx} {n : Nat} {F : Fin} {w0 : World} {M : Nat → Prop} {k : List It} {ops : Array Oper} {rest : List Oper} {e : Env} {H Hq : List Ck}
end
section
variable {P : Program} {ro : Cx} {n : Nat} {F : Fin} {w0 : World} {M : Nat → Prop} {k : List It} {ops : Array Oper} {rest : List Oper} {e : Env} {H Hq : List Ck}
end
section
variable {P : Program} {T : Tab} {ro : Cx} {n : Nat} {F : Fin} {w0 : World} {M : Nat → Prop} {k : List It} {ops : Array Oper} {rest : List Oper} {e : Env} {H Hq : List Ck}
end
section
variable {P : Program} {T : Tab} {ro : Cx} {n : Nat} {F : Fin} {w0 : World} {M : Nat → Prop} {k : List It} {ops : Array Oper} {rest : List Oper} {e : Env} {H H' Hq : List Ck}
end
section
variable {P : Program} {T : Tab} {ro : Cx} {n : Nat} {F : Fin} {w0 : World} {M : Nat → Prop} {k : List It} {ops : Array Oper} {rest : List Oper} {e : Env} {H H' Hq : List Ck}
theorem jR (et sz : Nat) {d t : Nat} {ty : TypeId} {pos : String} {af : Array Edge} (hu : P.underlying t = some (.slice et)) (hi : (P.info? et).isSome = true) (hd : Nat.blt d n = true)
  (h : ∀ b, QF P ro n F w0 M k ops Hq rest ((d, aB9 b 0 0) :: e) (.ow (aB9 b 0 0) et sz 0 [] :: H)) : QF P ro n F w0 M k ops Hq (⟨some d, .buildSlice t 0 #[], ty, pos, af, none⟩ :: rest) e H := .mk fun w hs => by
 have hs' : Sat w0 M (.ow (aB9 w.heap.size 0 0) et sz 0 [] :: (H ++ Hq)) (w.alloc (.cells #[] et)) := Sat.pt_ow (m := 0) (by simp) J (hs.addPt (eA _ _) (by simp) (fX w _ _));refine yf_eff (w' := w.alloc (.cells #[] et)) Z hd (fun a hf => ?_) (hs'.tail).right ((h w.heap.size).h _ hs');simp only [execOp];simp [run_mkS0 hu hi]
end
section
variable {P : Program} {T : Tab} {ro : Cx} {n : Nat} {F : Fin} {w0 : World} {M : Nat → Prop} {k : List It} {ops : Array Oper} {rest : List Oper} {e : Env} {H H' Hq : List Ck}
def KeysAt (w : World) (b : Nat) (l : List Int) : Prop := ∃ es clock, w.heap[b]? = some (.map es clock) ∧ es.toList.map (·.key) = aX l
def ksP (b : Nat) (l : List Int) : Ck := .gn (· = b) (fun w => KeysAt w b l)
 (fun _ _ _ ⟨es, clock, h1, h2⟩ hc hn => ⟨es, clock, (hc.block b (Array.getElem?_eq_some_iff.1 h1).1 (hn b rfl)).trans h1, h2⟩)
def insK (l : List Int) (x : Int) : List Int := if x ∈ l then l else l ++ [x]
end
section
variable {P : Program} {ro : Cx} {n : Nat} {F : Fin} {w0 : World} {M : Nat → Prop} {k : List It} {ops : Array Oper} {rest : List Oper} {e : Env} {H Hq : List Ck}
theorem wu64 {a : Int} (h0 : 0 ≤ a) (h1 : a < 18446744073709551616) : IntKind.u64.wrap a = a := by
 show a % 18446744073709551616 = a
 omega
theorem run_shrU {a : Int} (w : World) : (Op.shift .shr .u64 a .u64 1).run P w = .ok (.int .u64 (a / 2)) w := by
 have e : Int.fdiv a (2 ^ 1) = a / 2 := by rw [Int.fdiv_eq_ediv_of_nonneg _ (by decide)]; rfl
 show (pure (Value.int IntKind.u64 (Int.fdiv a (2 ^ 1))) : Sem Value).run P w = _
 rw [e]
 rfl
theorem ql_shrU {d t t' : Nat} {x : Operand} {a : Int} {ty : TypeId} {pos : String} {af : Array Edge} (hx : opv e x = some (.int .u64 a)) (hd : Nat.blt d n = true)
  (h : QL P ro n F w0 M k ops rest ((d, .int .u64 (a / 2)) :: e) H) : QL P ro n F w0 M k ops (⟨some d, .binOp .shr t x (.const (.int .u64 1)) t', ty, pos, af, none⟩ :: rest) e H := .mk fun w hw =>
 eV (by simp) hd (fun a' hf => by
  have e1 := hf.op hx;have e2 : a'.eval (.const (.int .u64 1)) = .int .u64 1 := rfl;simp only [execOp, e1, e2];have := run_shrU (P := P) (a := a) w;simp [eqGuard, binOp, this]) (h.h w hw)
end
end Go.Eng
namespace Go.Proofs.YtopdmadgkjdgcaaGreat
open Go Go.Eng
set_option maxRecDepth 4000
open Go Go.Eng
theorem swr_ca (w : World) (g c : Nat) (l : List Int) (a b n lo hi : Nat) (cmp : Value) (h1 : lo ≤ a) (h2 : a + n ≤ b) (h3 : b + n ≤ hi) (h4 : hi ≤ l.length) (hl : l.length ≤ 1000) (hb : w.ownsRow 0 3 1 (aB9 g l.length c) l.length (aX l)) :
  Ca Tryz.prog 238 [aB9 g l.length c, .int .i64 a, .int .i64 b, .int .i64 n, cmp] w fun v w' => ∃ L : List Int, (v = .tuple #[] ∧ Seg l L lo hi ∧ ∀ k, L.getD k 0 = l.getD (swP a b n k) 0) ∧ Sat w (fun x => x = g) [.ow (aB9 g l.length c) 3 1 l.length (aX L)] w' := by
 refine cN (Sat.own0 hb) Tryz.func238 Z (by simp [Tryz.ntmps238]) ?_;(refine aC (aB (aA1 zq (aD (aM ?_)))))
 refine bM (σ := Nat × List Int) (fun s => s.1 ≤ n ∧ Seg l s.2 lo hi ∧ ∀ k, s.2.getD k 0 = l.getD (swP a b s.1 k) 0) (fun s => n - s.1) (fun s => [(0, aB9 g l.length c), (1, .int .i64 a), (2, .int .i64 b), (3, .int .i64 n), (10, .int .i64 s.1)])
  (fun s => [.ow (aB9 g l.length c) 3 1 l.length (aX s.2)]) (0, l) ⟨by simp, .refl _ _ _, fun k => by rw [swP_zero]⟩ ⟨rfl, rfl, rfl, rfl, rfl, trivial⟩ O ?_
 rintro ⟨i, L⟩ ⟨hi1, hS, hA⟩ K hK;simp only at hi1 hS hA;dsimp only;have hlen : L.length = l.length := hS.len;(refine aC (aC (aB ?_)); (iterate 3 refine aA1 zq ?_); refine aD ?_);refine dN Z (fun hc => ?_) (fun hc => ?_)
 ·have hi2 : i < n := by omega
  clear hc;have y1 : a + i < L.length := by omega
  have y2 : b + i < L.length := by omega
  (refine aK (aC (aM ?_)))
  refine q_drawB [true, true, true, true, false, false, false, false, true, true, true, true, true, true, true, true, true, true, true, true, false, false, false, false] [] [.ow (aB9 g l.length c) 3 1 l.length (aX L)] O qB qB qB ?_;refine qb_T 4 Z Z (Sp.refl _) fun K1 hK1 => ?_
  ((iterate 3 refine aA2 xq ?_); refine aA9 uq J J (aN ?_))
  refine hK1 _ _ (qb_F 4 [.ow (aB9 g l.length c) 3 1 l.length (aX L)] Z Z O fun K1 hK1 => ?_)
  ((iterate 3 refine aA2 xq ?_); refine aA9 uq J J (aN ?_))
  refine hK1 _ _ (qb_T 12 Z Z O fun K1 hK1 => ?_)
  ((iterate 3 refine aA2 xq ?_); refine aA9 uq J J ?_)
  rw [show (b : Int) + i = (b + i : Nat) from by omega];(refine aA3 Wa J J ?_; refine aR U Z Z Z (fun w hs => RdI.at (hs.rdI (l := L) (t := 3) (n := l.length) O hlen.symm) (b + i) y2) ?_)
  ((iterate 3 refine aA2 xq ?_); refine aA9 uq J J ?_)
  rw [show (a : Int) + i = (a + i : Nat) from by omega];(refine aA3 Wa J J ?_; refine aR U Z Z Z (fun w hs => RdI.at (hs.rdI (l := L) (t := 3) (n := l.length) O hlen.symm) (a + i) y1) ?_);(refine aN ?_);refine hK1 _ _ (qb_F 4 [.ow (aB9 g l.length c) 3 1 l.length (aX L)] Z Z O fun K1 hK1 => ?_);refine aA3 Wa J J ?_;refine iB U (a + i) Z Z Z Z O J (by simpa using y1) ?_;refine aA3 Wa J J ?_;refine iB U (b + i) Z Z Z Z O J (by simpa using y2) ?_;rw [iY, iY];(refine aN ?_);refine hK1 _ _ (qb_nil ?_)
  have e : (L.set (a + i) L[b + i]).set (b + i) L[a + i] = swL L (a + i) (b + i) := by
   unfold swL;rw [dQ y1, dQ y2]
  rw [e];(refine bK (aB (aA1 zq (aA4 uq J J (aA1 zq (aD ?_))))));exact hK (i + 1, _) _ _ ⟨by simp only; omega, hS.trans (.sw J J J), swP_next J y2 hA⟩ (by simp only; omega) ⟨Z, Z, Z, Z, Z, trivial⟩ O
 ·obtain rfl : i = n := by omega
  (refine bH _ Z ?_)
  refine q_end U Z O fun w hs => ?_;exact ⟨L, ⟨Z, hS, hA⟩, hs⟩
theorem rot_ca (w : World) (g c : Nat) (l : List Int) (a m b lo hi : Nat) (cmp : Value) (h0 : lo ≤ a) (h1 : a < m) (h2 : m < b) (h3 : b ≤ hi) (h4 : hi ≤ l.length) (hl : l.length ≤ 1000) (hb : w.ownsRow 0 3 1 (aB9 g l.length c) l.length (aX l)) :
  Ca Tryz.prog 235 [aB9 g l.length c, .int .i64 a, .int .i64 m, .int .i64 b, cmp] w fun v w' => ∃ L : List Int, (v = .tuple #[] ∧ Seg l L lo hi ∧ ∀ k, L.getD k 0 = l.getD (roP a m b k) 0) ∧ Sat w (fun x => x = g) [.ow (aB9 g l.length c) 3 1 l.length (aX L)] w' := by
 refine cN (Sat.own0 hb) Tryz.func235 Z (by simp [Tryz.ntmps235]) ?_;(refine aC (aB (aA1 zq (aA1 zq (aA4 uq J J (aA1 zq (aD (aC (aB (aA1 zq (aA1 zq (aA4 uq J J ?_))))))))))); refine aA1 zq (aD (aC (aM ?_))))
 refine bM (σ := Nat × Nat × List Int) (fun ⟨i, j, C⟩ => (0 < i ∧ 0 < j ∧ a + i ≤ m ∧ m + j ≤ b) ∧ Seg l C lo hi ∧ ∀ k, C.getD (roP (m - i) m (m + j) k) 0 = l.getD (roP a m b k) 0) (fun ⟨i, j, _⟩ => i + j) (fun ⟨i, j, C⟩ => [(0, aB9 g l.length c), (2, .int .i64 m), (4, cmp), (10, .int .i64 i), (11, .int .i64 j)])
  (fun ⟨i, j, C⟩ => [.ow (aB9 g l.length c) 3 1 l.length (aX C)]) (m - a, b - m, l) ⟨by omega, .refl _ _ _, fun k => by rw [show m - (m - a) = a from by omega, show m + (b - m) = b from by omega]⟩ ⟨rfl, rfl, rfl, fM rfl J, fM rfl J, trivial⟩ O ?_
 rintro ⟨i, j, C⟩ ⟨⟨p1, p2, p3, p4⟩, hS, hA⟩ K hK;dsimp only at p1 p2 p3 p4 hS hA hK ⊢;have hlen : C.length = l.length := hS.len;have hmi : (m : Int) - i = (m - i : Nat) := by omega
 by_cases cij : i = j
 ·subst cij;(refine aC (aC (aB (aA1 zq (aA1 zq (aA6 xq J (aD (aG Z (bH _ Z (aB ?_))))))))); (iterate 3 refine aA1 zq ?_); refine aA4 uq J J ?_; (iterate 3 refine aA1 zq ?_));rw [hmi];refine bC (β := List Int) (ψ := fun D v => v = .tuple #[] ∧ Seg C D lo hi ∧ ∀ k, D.getD k 0 = C.getD (swP (m - i) (m) (i) k) 0) (L' := fun D => [.ow (aB9 g l.length c) 3 1 l.length (aX D)]) U [.ow (aB9 g l.length c) 3 1 l.length (aX C)] _ (fun x => x = g) rfl rfl rfl rfl (Sp.cons O (Sp.refl _)) (fun x hx => ⟨_, .head _, by subst hx; rfl⟩) (fun w' hs => by have := swr_ca w' g c C (m - i) (m) (i) lo hi cmp J J J J J (by rw [hlen]; exact hs.all _ (.head _)); rw [hlen] at this; exact this) ?_;rintro D _ ⟨rfl, hD, hDA⟩;dsimp only [List.cons_append, List.nil_append];(refine aD ?_);refine q_end U Z O fun w hs => ?_
  exact ⟨D, ⟨Z, hS.trans hD, fun k => by rw [hDA, ro_eq J, hA]⟩, hs⟩
 ·by_cases cg : j < i
  ·(refine aC (aC (aB (aA1 zq (aA1 zq (aB0 xq J (aD (aH Z (aK (aM (aC (aB ?_))))))))))); refine aA1 zq (aA1 zq (cR U Z Z Z J (aD (aH Z (aC (aB ?_)))))); (iterate 3 refine aA1 zq ?_); refine aA4 uq J J ?_; (iterate 3 refine aA1 zq ?_))
   rw [hmi];refine bC (β := List Int) (ψ := fun D v => v = .tuple #[] ∧ Seg C D lo hi ∧ ∀ k, D.getD k 0 = C.getD (swP (m - i) (m) (j) k) 0) (L' := fun D => [.ow (aB9 g l.length c) 3 1 l.length (aX D)]) U [.ow (aB9 g l.length c) 3 1 l.length (aX C)] _ (fun x => x = g) rfl rfl rfl rfl (Sp.cons O (Sp.refl _)) (fun x hx => ⟨_, .head _, by subst hx; rfl⟩) (fun w' hs => by have := swr_ca w' g c C (m - i) (m) (j) lo hi cmp J J J J J (by rw [hlen]; exact hs.all _ (.head _)); rw [hlen] at this; exact this) ?_;rintro D _ ⟨rfl, hD, hDA⟩;dsimp only [List.cons_append, List.nil_append];(refine aD (aB (aA1 zq (aA1 zq (aA4 uq J J (aA1 zq (aD (bK ?_))))))));exact hK (i - j, j, D) _ _ ⟨by dsimp only; omega, hS.trans hD, fun k => by rw [hDA, ro_gt J p2 cg, hA]⟩ (by dsimp only; omega) ⟨Z, Z, Z, fM Z (by dsimp only; omega), Z, trivial⟩ O
  ·have hmj : (m : Int) + j - i = (m + j - i : Nat) := by omega
   (refine aC (aC (aB (aA1 zq (aA1 zq (aB0 xq J (aD (aH Z (aK (aM (aC (aB ?_))))))))))); refine aA1 zq (aA1 zq (aB1 xq J (aD (aG Z (aC (aB ?_)))))); (iterate 3 refine aA1 zq ?_); refine aA4 uq J J (aA1 zq (aA1 zq (aA4 uq J J (aA1 zq (aA4 uq J J (aA1 zq (aA1 zq ?_))))))))
   rw [hmi, hmj];refine bC (β := List Int) (ψ := fun D v => v = .tuple #[] ∧ Seg C D lo hi ∧ ∀ k, D.getD k 0 = C.getD (swP (m - i) (m + j - i) (i) k) 0) (L' := fun D => [.ow (aB9 g l.length c) 3 1 l.length (aX D)]) U [.ow (aB9 g l.length c) 3 1 l.length (aX C)] _ (fun x => x = g) rfl rfl rfl rfl (Sp.cons O (Sp.refl _)) (fun x hx => ⟨_, .head _, by subst hx; rfl⟩) (fun w' hs => by have := swr_ca w' g c C (m - i) (m + j - i) (i) lo hi cmp J J J J J (by rw [hlen]; exact hs.all _ (.head _)); rw [hlen] at this; exact this) ?_;rintro D _ ⟨rfl, hD, hDA⟩;dsimp only [List.cons_append, List.nil_append];(refine aD (aB (aA1 zq (aA1 zq (aA4 uq J J (aA1 zq (aD (bK ?_))))))));exact hK (i, j - i, D) _ _ ⟨by dsimp only; omega, hS.trans hD, fun k => by rw [hDA, ro_lt J p1 J, hA]⟩ (by dsimp only; omega) ⟨Z, Z, Z, Z, fM Z (by dsimp only; omega), trivial⟩ O
theorem symM_ca (g c0 N : Nat) (B : List Int) (key : Int → Int) (cmp : Value) (cf : Int → Int → Int) (hcf : ∀ x ∈ B, ∀ y ∈ B, (cf x y < 0 ↔ key x < key y)) (hN : N ≤ 1000) :
  ∀ (d : Nat) (w : World) (l : List Int) (a m b : Nat), b - a ≤ d → a < m → m < b → b ≤ N → l.length = N → (∀ x ∈ l, x ∈ B) → CmpS w g cmp cf B → SrW key l a m → SrW key l m b → w.ownsRow 0 3 1 (aB9 g N c0) N (aX l) →
  Ca Tryz.prog 222 [(aB9 g N c0), .int .i64 a, .int .i64 m, .int .i64 b, cmp] w fun v w' => ∃ L : List Int, (v = .tuple #[] ∧ Seg l L a b ∧ SrW key L a b) ∧ Sat w (fun x => x = g) [.ow (aB9 g N c0) 3 1 N (aX L)] w' := by
 intro d
 induction d with
 | zero => intro w l a m b h1 h2 h3; omega
 | succ d ih =>
  intro w l a m b hd ham hmb hbN hln hB hcmp hs1 hs2 hb;refine cN (Sat.own0 hb) Tryz.func222 Z (by simp [Tryz.ntmps222]) ?_;by_cases hm1 : m = a + 1
  ·subst hm1;(refine aC (aC (aB (aA1 zq (aA1 zq (aA4 uq J J (aB2 xq J (aD (aH Z (aC (aB (aA1 zq ?_))))))))))); refine aA1 zq (aD (aC (aB (aA1 zq (aA1 zq (aD (aC (aM ?_)))))))));refine bM (σ := Nat × Nat) (fun ⟨i, j⟩ => (a + 1 ≤ i ∧ i ≤ j ∧ j ≤ b) ∧ (i = a + 1 ∨ key (l.getD (i - 1) 0) < key (l.getD a 0)) ∧ (j = b ∨ key (l.getD a 0) ≤ key (l.getD j 0))) (fun ⟨i, j⟩ => j - i) (fun ⟨i, j⟩ => [(0, (aB9 g N c0)), (1, .int .i64 a), (4, cmp), (10, .int .i64 i), (11, .int .i64 j)]) (fun _ => [.ow (aB9 g N c0) 3 1 N (aX l)]) (a + 1, b) ⟨by omega, .inl rfl, .inl Z⟩ ⟨Z, Z, Z, fM Z J, Z, trivial⟩ O ?_;rintro ⟨i, j⟩ ⟨⟨p1, p2, p3⟩, c1, c2⟩ K hK;dsimp only at p1 p2 p3 c1 c2 hK ⊢;(refine aC (aC (aB ?_)); (iterate 3 refine aA1 zq ?_); refine aD ?_);refine dN Z (fun hc => ?_) (fun hc => ?_)
   ·have hij : i < j := by omega
    clear hc;obtain ⟨h, hh⟩ : ∃ h : Nat, (h : Int) = ((i : Int) + j) / 2 := ⟨(i + j) / 2, by omega⟩;(refine aK (aM (aC (aB (aA1 zq (aA1 zq (aA4 uq J J (aA1 zq ?_))))))));rw [wu64 J J];refine ql_shrU Z Z ?_;rw [← hh];(refine aA1 zq (aA1 zq (aD (aC ?_))));rw [w64 J J];have y1 : h < l.length := by omega
    have y2 : a < l.length := by omega
    refine bZ _ [] (Sp.refl _) qB qB ?_
    ((iterate 3 refine aA2 xq ?_))
    refine aA3 Wa J J ?_;refine aR (v := .int .i64 l[h]) U Z Z Z (fun w hs => RdI.at (hs.rdI (v := (aB9 g N c0)) (l := l) (t := 3) (n := N) O hln.symm) (h) y1) ?_;(refine aA2 xq (aA2 xq ?_));refine aA3 Wa J J ?_;refine aR (v := .int .i64 l[a]) U Z Z Z (fun w hs => RdI.at (hs.rdI (v := (aB9 g N c0)) (l := l) (t := 3) (n := N) O hln.symm) (a) y2) ?_;refine kD Z Z Z (fun w' hs => hcmp w' hs.chg _ (hB _ (List.getElem_mem y1)) _ (hB _ (List.getElem_mem y2))) ?_
    have hcj : cf l[h] l[a] < 0 ↔ key (l.getD (h) 0) < key (l.getD (a) 0) := by
     rw [dQ y1, dQ y2];exact hcf _ (hB _ (List.getElem_mem y1)) _ (hB _ (List.getElem_mem y2))
    by_cases hlt : cf l[h] l[a] < 0
    ·(refine kX U Z Z Z J (aN (aH Z (aB (aA1 zq (aA4 uq J J (aA1 zq (aD (bK ?_)))))))))
     exact hK (h + 1, j) _ _ ⟨by dsimp only; omega, .inr (hcj.1 hlt), c2⟩ (by dsimp only; omega) ⟨Z, Z, Z, fM Z (by dsimp only; omega), Z, trivial⟩ O
    ·(refine kO U Z Z Z J (aN (aG Z (aB (aA1 zq (aA1 zq (aD (bK ?_))))))))
     exact hK (i, h) _ _ ⟨by dsimp only; omega, c1, .inr (Int.not_lt.1 fun e => hlt (hcj.2 e))⟩ (by dsimp only; omega) ⟨Z, Z, Z, Z, Z, trivial⟩ O
   ·obtain rfl : i = j := by omega
    clear hc hK;(refine bH _ Z (aC (aC (aB (aA1 zq (aA1 zq (aD (aM ?_))))))));refine bM (σ := Nat × List Int) (fun ⟨k, C⟩ => (a ≤ k ∧ k + 1 ≤ i) ∧ Seg l C a b ∧ ∀ x, C.getD x 0 = l.getD (roP a (a + 1) (k + 1) x) 0) (fun ⟨k, _⟩ => i - k) (fun ⟨k, C⟩ => [(0, (aB9 g N c0)), (10, .int .i64 i), (13, .int .i64 k)]) (fun ⟨k, C⟩ => [.ow (aB9 g N c0) 3 1 N (aX C)]) (a, l) ⟨by omega, .refl _ _ _, fun x => by rw [ro_id ⟨by omega, Nat.le_refl _⟩ (.inr Z)]⟩ ⟨Z, Z, Z, trivial⟩ O ?_;rintro ⟨k, C⟩ ⟨⟨q1, q2⟩, hS, hA⟩ K hK;dsimp only at q1 q2 hS hA hK ⊢;have hlen : C.length = N := by rw [hS.len, hln]
    (refine aC (aC (aB (aA1 zq (aA1 zq (aA4 uq J J (aA1 zq (aD ?_))))))))
    refine dN Z (fun hc => ?_) (fun hc => ?_)
    ·have hki : k + 1 < i := by omega
     clear hc;have y1 : k < C.length := by omega
     have y2 : k + 1 < C.length := by omega
     have hk1 : (k : Int) + 1 = (k + 1 : Nat) := by omega
     (refine aK (aC (aM ?_)))
     refine q_drawB [true, true, false, false, false, true, true, true, true, true, true, true, true, true, false, false, false, false] [] [.ow (aB9 g N c0) 3 1 N (aX C)] O qB qB qB ?_;refine qb_T 2 Z Z (Sp.refl _) fun K1 hK1 => ?_;(refine aA2 xq (aA2 xq (aN ?_)))
     refine hK1 _ _ (qb_F 3 [.ow (aB9 g N c0) 3 1 N (aX C)] Z Z O fun K1 hK1 => ?_);(refine aA2 xq (aA2 xq (aA9 uq J J (aN ?_))));refine hK1 _ _ (qb_T 9 Z Z O fun K1 hK1 => ?_);(refine aA2 xq (aA2 xq (aA9 uq J J ?_)));rw [hk1];(refine aA3 Wa J J ?_; refine aR U Z Z Z (fun w hs => RdI.at (hs.rdI (l := C) (t := 3) (n := N) O hlen.symm) (k + 1) y2) ?_);(refine aA2 xq (aA2 xq ?_));(refine aA3 Wa J J ?_; refine aR U Z Z Z (fun w hs => RdI.at (hs.rdI (l := C) (t := 3) (n := N) O hlen.symm) (k) y1) ?_);(refine aN ?_);refine hK1 _ _ (qb_F 4 [.ow (aB9 g N c0) 3 1 N (aX C)] Z Z O fun K1 hK1 => ?_);refine aA3 Wa J J ?_;refine iB U (k) Z Z Z Z O J (by simpa using y1) ?_;refine aA3 Wa J J ?_;refine iB U (k + 1) Z Z Z Z O J (by simpa using y2) ?_;rw [iY, iY];(refine aN ?_);refine hK1 _ _ (qb_nil ?_)
     have e : (C.set (k) C[k + 1]).set (k + 1) C[k] = swL C (k) (k + 1) := by
      unfold swL;rw [dQ y1, dQ y2]
     rw [e];(refine bK (aB (aA1 zq (aA4 uq J J (aA1 zq (aD ?_))))));exact hK (k + 1, _) _ _ ⟨by dsimp only; omega, hS.trans (.sw J J J), mv_first q1 y2 hA⟩ (by dsimp only; omega) ⟨Z, Z, Z, trivial⟩ O
    ·have hki : k + 1 = i := by omega
     clear hc hK;(refine bH _ Z (aS ?_));refine aA5 wq O fun w hs => ?_
     have hR : Rot l C a a (a + 1) i b := ⟨Nat.le_refl _, by omega, p1, p3, fun x => by rw [hA, hki]⟩;exact ⟨C, ⟨Z, hS, hR.first hs2 c1 c2⟩, hs⟩
  by_cases hb1 : b = m + 1
  ·subst hb1;(refine aC (aC (aB (aA1 zq (aA1 zq (aA4 uq J J (cZ U Z Z Z J (aD (aG Z (aK (aC (aC ?_))))))))))); refine aB (aA1 zq (aA1 zq (aA4 uq J J (aB2 xq J (aD (aH Z (aC (aB (aA1 zq (aA1 zq (aD ?_))))))))))); refine aC (aB (aA1 zq (aA1 zq (aD (aC (aM ?_)))))));refine bM (σ := Nat × Nat) (fun ⟨i, j⟩ => (a ≤ i ∧ i ≤ j ∧ j ≤ m) ∧ (i = a ∨ key (l.getD (i - 1) 0) ≤ key (l.getD m 0)) ∧ (j = m ∨ key (l.getD m 0) < key (l.getD j 0))) (fun ⟨i, j⟩ => j - i) (fun ⟨i, j⟩ => [(0, (aB9 g N c0)), (2, .int .i64 m), (4, cmp), (14, .int .i64 i), (15, .int .i64 j)]) (fun _ => [.ow (aB9 g N c0) 3 1 N (aX l)]) (a, m) ⟨by omega, .inl rfl, .inl Z⟩ ⟨Z, Z, Z, Z, Z, trivial⟩ O ?_;rintro ⟨i, j⟩ ⟨⟨p1, p2, p3⟩, c1, c2⟩ K hK;dsimp only at p1 p2 p3 c1 c2 hK ⊢;(refine aC (aC (aB ?_)); (iterate 3 refine aA1 zq ?_); refine aD ?_);refine dN Z (fun hc => ?_) (fun hc => ?_)
   ·have hij : i < j := by omega
    clear hc;obtain ⟨h, hh⟩ : ∃ h : Nat, (h : Int) = ((i : Int) + j) / 2 := ⟨(i + j) / 2, by omega⟩;(refine aK (aM (aC (aB (aA1 zq (aA1 zq (aA4 uq J J (aA1 zq ?_))))))));rw [wu64 J J];refine ql_shrU Z Z ?_;rw [← hh];(refine aA1 zq (aA1 zq (aD (aC ?_))));rw [w64 J J];have y1 : m < l.length := by omega
    have y2 : h < l.length := by omega
    refine bZ _ [] (Sp.refl _) qB qB ?_
    ((iterate 3 refine aA2 xq ?_))
    refine aA3 Wa J J ?_;refine aR (v := .int .i64 l[m]) U Z Z Z (fun w hs => RdI.at (hs.rdI (v := (aB9 g N c0)) (l := l) (t := 3) (n := N) O hln.symm) (m) y1) ?_;(refine aA2 xq (aA2 xq ?_));refine aA3 Wa J J ?_;refine aR (v := .int .i64 l[h]) U Z Z Z (fun w hs => RdI.at (hs.rdI (v := (aB9 g N c0)) (l := l) (t := 3) (n := N) O hln.symm) (h) y2) ?_;refine kD Z Z Z (fun w' hs => hcmp w' hs.chg _ (hB _ (List.getElem_mem y1)) _ (hB _ (List.getElem_mem y2))) ?_
    have hcj : cf l[m] l[h] < 0 ↔ key (l.getD (m) 0) < key (l.getD (h) 0) := by
     rw [dQ y1, dQ y2];exact hcf _ (hB _ (List.getElem_mem y1)) _ (hB _ (List.getElem_mem y2))
    by_cases hlt : cf l[m] l[h] < 0
    ·(refine kX U Z Z Z J (aA2 xq (aN (aG Z (aB (aA1 zq (aA1 zq (aD (bK ?_)))))))))
     exact hK (i, h) _ _ ⟨by dsimp only; omega, c1, .inr (hcj.1 hlt)⟩ (by dsimp only; omega) ⟨Z, Z, Z, Z, Z, trivial⟩ O
    ·(refine kO U Z Z Z J (aA2 xq (aN (aH Z (aB (aA1 zq (aA4 uq J J (aA1 zq (aD (bK ?_))))))))))
     exact hK (h + 1, j) _ _ ⟨by dsimp only; omega, .inr (Int.not_lt.1 fun e => hlt (hcj.2 e)), c2⟩ (by dsimp only; omega) ⟨Z, Z, Z, fM Z (by dsimp only; omega), Z, trivial⟩ O
   ·obtain rfl : i = j := by omega
    clear hc hK;(refine bH _ Z (aC (aC (aB (aA1 zq (aA1 zq (aD (aM ?_))))))));refine bM (σ := Nat × List Int) (fun ⟨k, C⟩ => (i ≤ k ∧ k ≤ m) ∧ Seg l C a (m + 1) ∧ ∀ x, C.getD x 0 = l.getD (roP k m (m + 1) x) 0) (fun ⟨k, _⟩ => k - i) (fun ⟨k, C⟩ => [(0, (aB9 g N c0)), (14, .int .i64 i), (17, .int .i64 k)]) (fun ⟨k, C⟩ => [.ow (aB9 g N c0) 3 1 N (aX C)]) (m, l) ⟨by omega, .refl _ _ _, fun x => by rw [ro_id ⟨Nat.le_refl _, by omega⟩ (.inl Z)]⟩ ⟨Z, Z, Z, trivial⟩ O ?_;rintro ⟨k, C⟩ ⟨⟨q1, q2⟩, hS, hA⟩ K hK;dsimp only at q1 q2 hS hA hK ⊢;have hlen : C.length = N := by rw [hS.len, hln]
    (refine aC (aC (aB ?_)); (iterate 3 refine aA1 zq ?_); refine aD ?_)
    refine dN Z (fun hc => ?_) (fun hc => ?_)
    ·have hki : i < k := by omega
     clear hc;obtain ⟨r, rfl⟩ : ∃ r, k = r + 1 := ⟨k - 1, by omega⟩;have y1 : r + 1 < C.length := by omega
     have y2 : r < C.length := by omega
     have hk1 : ((r + 1 : Nat) : Int) - 1 = r := by omega
     (refine aK (aC (aM ?_)))
     refine q_drawB [true, true, false, false, false, true, true, true, true, true, true, true, true, true, false, false, false, false] [] [.ow (aB9 g N c0) 3 1 N (aX C)] O qB qB qB ?_;refine qb_T 2 Z Z (Sp.refl _) fun K1 hK1 => ?_;(refine aA2 xq (aA2 xq (aN ?_)))
     refine hK1 _ _ (qb_F 3 [.ow (aB9 g N c0) 3 1 N (aX C)] Z Z O fun K1 hK1 => ?_);(refine aA2 xq (aA2 xq (aA9 uq J J (aN ?_))));refine hK1 _ _ (qb_T 9 Z Z O fun K1 hK1 => ?_);(refine aA2 xq (aA2 xq (aA9 uq J J ?_)));rw [hk1];(refine aA3 Wa J J ?_; refine aR U Z Z Z (fun w hs => RdI.at (hs.rdI (l := C) (t := 3) (n := N) O hlen.symm) (r) y2) ?_);(refine aA2 xq (aA2 xq ?_));(refine aA3 Wa J J ?_; refine aR U Z Z Z (fun w hs => RdI.at (hs.rdI (l := C) (t := 3) (n := N) O hlen.symm) (r + 1) y1) ?_);(refine aN ?_);refine hK1 _ _ (qb_F 4 [.ow (aB9 g N c0) 3 1 N (aX C)] Z Z O fun K1 hK1 => ?_);refine aA3 Wa J J ?_;refine iB U (r + 1) Z Z Z Z O J (by simpa using y1) ?_;refine aA3 Wa J J ?_;refine iB U (r) Z Z Z Z O J (by simpa using y2) ?_;rw [iY, iY];(refine aN ?_);refine hK1 _ _ (qb_nil ?_)
     have e : (C.set (r + 1) C[r]).set (r) C[r + 1] = swL C (r + 1) (r) := by
      unfold swL;rw [dQ y1, dQ y2]
     rw [e];(refine bK (aB (aA1 zq (aA4 uq J J (aA1 zq (aD ?_))))));exact hK (r, _) _ _ ⟨by dsimp only; omega, hS.trans (.sw J J J), mv_last q2 J hA⟩ (by dsimp only; omega) ⟨Z, Z, fM Z (by dsimp only; omega), trivial⟩ O
    ·obtain rfl : k = i := by omega
     clear hc hK;(refine bH _ Z (aS ?_));refine aA5 wq O fun w hs => ?_
     have hR : Rot l C a k m (m + 1) (m + 1) := ⟨p1, by omega, by omega, Nat.le_refl _, hA⟩;exact ⟨C, ⟨Z, hS, hR.last hs1 c1 c2⟩, hs⟩
  have hma : a + 2 ≤ m := by omega
  have hbm : m + 2 ≤ b := by omega
  obtain ⟨mid, hmid⟩ : ∃ mid : Nat, (mid : Int) = ((a : Int) + b) / 2 := ⟨(a + b) / 2, by omega⟩;(refine aC (aC (aB (aA1 zq (aA1 zq (aA4 uq J J (cZ U Z Z Z J (aD (aG Z (aK (aC (aC ?_))))))))))); refine aB (aA1 zq (aA1 zq (aA4 uq J J (cZ U Z Z Z J (aD (aG Z (aK (aC (aB (aA1 zq (aA1 zq ?_))))))))))); refine aA4 uq J J (aA1 zq ?_));rw [wu64 J J];refine ql_shrU Z Z ?_;rw [← hmid];(refine aA1 zq (aA1 zq (aD ?_)));rw [w64 J J];(refine aC (aB (aA1 zq (aA1 zq (aA4 uq J J (aA1 zq (aD (aC (aB (aA1 zq (aA1 zq (aD ?_))))))))))); refine aC (aC (aB ?_)); (iterate 3 refine aA1 zq ?_); refine aD ?_);refine fT (σ := {z : Nat × Nat // (z.1 = a ∧ z.2 = m ∧ m ≤ mid) ∨ (z.1 + b = mid + m ∧ z.2 = mid ∧ mid < m)}) (fun z => [(0, (aB9 g N c0)), (1, .int .i64 a), (3, .int .i64 b), (4, cmp), (18, .int .i64 mid), (2, .int .i64 m), (19, .int .i64 ((mid : Int) + m)), (20, .int .i64 z.1.1), (21, .int .i64 z.1.2)]) (fun _ => [.ow (aB9 g N c0) 3 1 N (aX l)]) ?_ ?_;rotate_left
  ·intro K2 hK2;refine dN Z (fun hc => ?_) (fun hc => ?_)
   ·have hmm : mid < m := by omega
    clear hc;(refine aC (aB (aA1 zq (aA1 zq (aA4 uq J J (aA1 zq (aD (aB (aA1 zq (aA1 zq (aD ?_)))))))))));exact hK2 ⟨(mid + m - b, mid), .inr ⟨by dsimp only; omega, Z, hmm⟩⟩ _ _ ⟨Z, Z, Z, Z, Z, Z, Z, fM Z (by dsimp only; omega), Z, trivial⟩ O
   ·have hmm : ¬ mid < m := by omega
    clear hc;(refine aC (aB (aA1 zq (aA1 zq (aD (aB (aA1 zq (aA1 zq (aD ?_)))))))));exact hK2 ⟨(a, m), .inl ⟨Z, Z, by omega⟩⟩ _ _ ⟨Z, Z, Z, Z, Z, Z, Z, Z, Z, trivial⟩ O
  rintro ⟨⟨s0, r0⟩, hz⟩;dsimp only at hz ⊢;(refine aC (aB (aA1 zq (aA4 uq J J (aA1 zq (aD (aC (aM ?_))))))));refine bM (σ := Nat × Nat) (fun ⟨i, j⟩ => (s0 ≤ i ∧ i ≤ j ∧ j ≤ r0) ∧ (i = s0 ∨ key (l.getD (i - 1) 0) ≤ key (l.getD (mid + m - i) 0)) ∧ (j = r0 ∨ key (l.getD (mid + m - 1 - j) 0) < key (l.getD j 0))) (fun ⟨i, j⟩ => j - i) (fun ⟨i, j⟩ => [(0, (aB9 g N c0)), (1, .int .i64 a), (3, .int .i64 b), (4, cmp), (18, .int .i64 mid), (2, .int .i64 m), (19, .int .i64 ((mid : Int) + m)), (20, .int .i64 i), (21, .int .i64 j), (22, .int .i64 ((mid : Int) + m - 1))]) (fun _ => [.ow (aB9 g N c0) 3 1 N (aX l)]) (s0, r0) ⟨by omega, .inl rfl, .inl Z⟩ ⟨Z, Z, Z, Z, Z, Z, Z, Z, Z, Z, trivial⟩ O ?_;rintro ⟨i, j⟩ ⟨⟨p1, p2, p3⟩, c1, c2⟩ K hK;dsimp only at p1 p2 p3 c1 c2 hK ⊢;(refine aC (aC (aB ?_)); (iterate 3 refine aA1 zq ?_); refine aD ?_);refine dN Z (fun hc => ?_) (fun hc => ?_)
  ·have hij : i < j := by omega
   clear hc;obtain ⟨h, hh⟩ : ∃ h : Nat, (h : Int) = ((i : Int) + j) / 2 := ⟨(i + j) / 2, by omega⟩;(refine aK (aM (aC (aB (aA1 zq (aA1 zq (aA4 uq J J (aA1 zq ?_))))))));rw [wu64 J J];refine ql_shrU Z Z ?_;rw [← hh];(refine aA1 zq (aA1 zq (aD (aC ?_))));rw [w64 J J];have y1 : mid + m - 1 - h < l.length := by omega
   have y2 : h < l.length := by omega
   have hpc : (mid : Int) + m - 1 - h = (mid + m - 1 - h : Nat) := by omega
   refine bZ _ [] (Sp.refl _) qB qB ?_
   ((iterate 4 refine aA2 xq ?_); refine aA9 uq J J ?_)
   rw [hpc];refine aA3 Wa J J ?_;refine aR (v := .int .i64 l[mid + m - 1 - h]) U Z Z Z (fun w hs => RdI.at (hs.rdI (v := (aB9 g N c0)) (l := l) (t := 3) (n := N) O hln.symm) (mid + m - 1 - h) y1) ?_;(refine aA2 xq (aA2 xq ?_));refine aA3 Wa J J ?_;refine aR (v := .int .i64 l[h]) U Z Z Z (fun w hs => RdI.at (hs.rdI (v := (aB9 g N c0)) (l := l) (t := 3) (n := N) O hln.symm) (h) y2) ?_;refine kD Z Z Z (fun w' hs => hcmp w' hs.chg _ (hB _ (List.getElem_mem y1)) _ (hB _ (List.getElem_mem y2))) ?_
   have hcj : cf l[mid + m - 1 - h] l[h] < 0 ↔ key (l.getD (mid + m - 1 - h) 0) < key (l.getD (h) 0) := by
    rw [dQ y1, dQ y2];exact hcf _ (hB _ (List.getElem_mem y1)) _ (hB _ (List.getElem_mem y2))
   by_cases hlt : cf l[mid + m - 1 - h] l[h] < 0
   ·(refine kX U Z Z Z J (aA2 xq (aN (aG Z (aB (aA1 zq (aA1 zq (aD (bK ?_)))))))))
    exact hK (i, h) _ _ ⟨by dsimp only; omega, c1, .inr (hcj.1 hlt)⟩ (by dsimp only; omega) ⟨Z, Z, Z, Z, Z, Z, Z, Z, Z, Z, trivial⟩ O
   ·(refine kO U Z Z Z J (aA2 xq (aN (aH Z (aB (aA1 zq (aA4 uq J J (aA1 zq (aD (bK ?_))))))))))
    exact hK (h + 1, j) _ _ ⟨by dsimp only; omega, .inr (by rw [show mid + m - (h + 1) = mid + m - 1 - h from by omega]; exact Int.not_lt.1 fun e => hlt (hcj.2 e)), c2⟩ (by dsimp only; omega) ⟨Z, Z, Z, Z, Z, Z, Z, fM Z (by dsimp only; omega), Z, Z, trivial⟩ O
  ·obtain rfl : i = j := by omega
   clear hc hK;obtain ⟨e, he⟩ : ∃ e : Nat, (e : Int) = (mid : Int) + m - i := ⟨mid + m - i, by omega⟩;have hie : i + (e - m) = mid := by omega
   have hno : Rot l l a i m e b ∨ (i < m ∧ m < e) := by
    by_cases c : i < m ∧ m < e
    ·exact .inr c
    ·exact .inl ⟨by omega, by omega, by omega, by omega, fun k => by rw [ro_id ⟨by omega, by omega⟩ J]⟩
   have d1 : i = a ∨ e = b ∨ key (l.getD (i - 1) 0) ≤ key (l.getD e 0) := by
    rcases c1 with c | c
    ·omega
    ·rw [show mid + m - i = e from by omega] at c;exact .inr (.inr c)
   have d2 : i = m ∨ e = m ∨ key (l.getD (e - 1) 0) < key (l.getD i 0) := by
    rcases c2 with c | c
    ·omega
    ·rw [show mid + m - 1 - i = e - 1 from by omega] at c;exact .inr (.inr c)
   have hb1 : a ≤ i ∧ i ≤ m ∧ m ≤ e ∧ e ≤ b ∧ i ≤ mid ∧ mid ≤ e := by omega
   clear c1 c2 p1 p3 hz;(refine bH _ Z (aC ?_));refine aB ?_;(refine aA1 zq (aA1 zq (aA4 uq J J (aA1 zq (aD ?_)))));rw [← he];refine aC ?_;refine fT (σ := {L : List Int // Seg l L a b ∧ Rot l L a i m e b}) (fun _ => [(0, (aB9 g N c0)), (1, .int .i64 a), (3, .int .i64 b), (4, cmp), (18, .int .i64 mid), (20, .int .i64 i), (24, .int .i64 e)]) (fun L => [.ow (aB9 g N c0) 3 1 N (aX L.1)]) ?_ ?_;rotate_left
   ·intro K2 hK2;by_cases c : i < m ∧ m < e
    ·(refine aC (aB (aA1 zq (aA1 zq (aB3 xq J (aA1 zq (aE Z (aA1 zq (aE Z (aA1 zq (aE Z (aB3 xq J ?_))))))))))); refine aA1 zq (aD (aH Z (aB ?_))); (iterate 5 refine aA1 zq ?_))
     refine bC (β := List Int) (ψ := fun D v => v = .tuple #[] ∧ Seg l D a b ∧ ∀ k, D.getD k 0 = l.getD (roP i m e k) 0) (L' := fun D => [.ow (aB9 g N c0) 3 1 N (aX D)]) U [.ow (aB9 g N c0) 3 1 N (aX l)] _ (fun x => x = g) rfl rfl rfl rfl (Sp.cons O (Sp.refl _)) (fun x hx => ⟨_, .head _, by subst hx; rfl⟩) (fun w' hs => by have := rot_ca w' g c0 l i m e a b cmp J J J J J J (by rw [hln]; exact hs.all _ (.head _)); rw [hln] at this; exact this) ?_;rintro D _ ⟨rfl, hD, hDA⟩;dsimp only [List.cons_append, List.nil_append];(refine aD ?_);exact hK2 ⟨D, hD, ⟨by omega, by omega, by omega, by omega, hDA⟩⟩ _ _ ⟨Z, Z, Z, Z, Z, Z, Z, trivial⟩ O
    ·have hno := hno.resolve_right c;by_cases c3 : i < m
     ·have c4 : ¬ m < e := fun h => c ⟨c3, h⟩
      (refine aC (aB (aA1 zq (aA1 zq (aB3 xq J (aA1 zq (aE Z (aA1 zq (aE Z (aA1 zq (aE Z (aB4 xq J ?_))))))))))); refine aA1 zq (aD (aG Z (aK ?_))))
      exact hK2 ⟨l, .refl _ _ _, hno⟩ _ _ ⟨Z, Z, Z, Z, Z, Z, Z, trivial⟩ O
     ·(refine aC (aB (aA1 zq (aA1 zq (aB4 xq J (aA1 zq ?_))))); (iterate 3 refine aA8 yq ?_); refine aA1 zq (aD (aG Z (aK ?_))))
      exact hK2 ⟨l, .refl _ _ _, hno⟩ _ _ ⟨Z, Z, Z, Z, Z, Z, Z, trivial⟩ O
   rintro ⟨L, hL, hR⟩;dsimp only;have hx : ∀ p q, a ≤ p → p < mid → mid ≤ q → q < b → key (L.getD p 0) ≤ key (L.getD q 0) := fun p q x1 x2 x3 x4 => hR.cross hs1 hs2 d1 d2 ⟨x1, by omega⟩ ⟨by omega, x4⟩
   have hLn : L.length = N := by rw [hL.len, hln]
   have hLB : ∀ x ∈ L, x ∈ B := fun x hx => hB x (hL.perm.subset hx)
   have t1 := hR.s1 hs1;have t2 := hR.s2 hs2;have t3 := hR.s3 hs1;have t4 := hR.s4 hs2;rw [hie] at t2 t3;clear d1 d2 hno hR;refine aC ?_;refine fT (σ := {M : List Int // Seg L M a mid ∧ SrW key M a mid}) (fun _ => [(0, (aB9 g N c0)), (1, .int .i64 a), (3, .int .i64 b), (4, cmp), (18, .int .i64 mid), (24, .int .i64 e)]) (fun M => [.ow (aB9 g N c0) 3 1 N (aX M.1)]) ?_ ?_;rotate_left
   ·intro K2 hK2;by_cases c1 : a < i
    ·by_cases c2 : i < mid
     ·(refine aC (aB (aA1 zq (aA1 zq (aB3 xq J (aA1 zq (aE Z (aA1 zq (aE Z (aA1 zq (aE Z (aB3 xq J ?_))))))))))); refine aA1 zq (aD (aH Z (aB ?_))); (iterate 5 refine aA1 zq ?_))
      refine bC (β := List Int) (ψ := fun D v => v = .tuple #[] ∧ Seg L D a mid ∧ SrW key D a mid) (L' := fun D => [.ow (aB9 g N c0) 3 1 N (aX D)]) U [.ow (aB9 g N c0) 3 1 N (aX L)] _ (fun x => x = g) rfl rfl rfl rfl (Sp.cons O (Sp.refl _)) (fun x hx => ⟨_, .head _, by subst hx; rfl⟩) (fun w' hs => ih w' L a i mid J J J J hLn hLB (hcmp.sub hs.chg) t1 t2 (hs.all _ (.head _))) ?_;rintro D _ ⟨rfl, hD, sD⟩;dsimp only [List.cons_append, List.nil_append];(refine aD ?_);exact hK2 ⟨D, hD, sD⟩ _ _ ⟨Z, Z, Z, Z, Z, Z, trivial⟩ O
     ·obtain rfl : i = mid := by omega
      (refine aC (aB (aA1 zq (aA1 zq (aB3 xq J (aA1 zq (aE Z (aA1 zq (aE Z (aA1 zq (aE Z (aB4 xq J ?_))))))))))); refine aA1 zq (aD (aG Z (aK ?_))))
      exact hK2 ⟨L, .refl _ _ _, t1⟩ _ _ ⟨Z, Z, Z, Z, Z, Z, trivial⟩ O
    ·obtain rfl : i = a := by omega
     (refine aC (aB (aA1 zq (aA1 zq (aB4 xq J (aA1 zq ?_))))); (iterate 3 refine aA8 yq ?_); refine aA1 zq (aD (aG Z (aK ?_))))
     exact hK2 ⟨L, .refl _ _ _, t2⟩ _ _ ⟨Z, Z, Z, Z, Z, Z, trivial⟩ O
   rintro ⟨M, hM, hMs⟩;dsimp only;have hMn : M.length = N := by rw [hM.len, hLn]
   have hMB : ∀ x ∈ M, x ∈ B := fun x hx => hLB x (hM.perm.subset hx)
   have t3' := t3.out hM (.inr (Nat.le_refl _));have t4' := t4.out hM (.inr J);by_cases c1 : mid < e
   ·by_cases c2 : e < b
    ·(refine aC (aB (aA1 zq (aA1 zq (aB3 xq J (aA1 zq (aE Z (aA1 zq (aE Z (aA1 zq (aE Z (aB3 xq J ?_))))))))))); refine aA1 zq (aD (aH Z (aB ?_))); (iterate 5 refine aA1 zq ?_))
     refine bC (β := List Int) (ψ := fun D v => v = .tuple #[] ∧ Seg M D mid b ∧ SrW key D mid b) (L' := fun D => [.ow (aB9 g N c0) 3 1 N (aX D)]) U [.ow (aB9 g N c0) 3 1 N (aX M)] _ (fun x => x = g) rfl rfl rfl rfl (Sp.cons O (Sp.refl _)) (fun x hx => ⟨_, .head _, by subst hx; rfl⟩) (fun w' hs => ih w' M mid e b J J J J hMn hMB (hcmp.sub hs.chg) t3' t4' (hs.all _ (.head _))) ?_;rintro D _ ⟨rfl, hD, sD⟩;dsimp only [List.cons_append, List.nil_append];(refine aD ?_);refine q_end U Z O fun w hs => ?_;exact ⟨D, ⟨Z, (hL.trans (hM.wide (Nat.le_refl _) J)).trans (hD.wide J (Nat.le_refl _)), seg_join hx hM hD hMs sD⟩, hs⟩
    ·obtain rfl : e = b := by omega
     (refine aC (aB (aA1 zq (aA1 zq (aB3 xq J (aA1 zq (aE Z (aA1 zq (aE Z (aA1 zq (aE Z (aB4 xq J ?_))))))))))); refine aA1 zq (aD (aG Z (aK ?_))))
     refine q_end U Z O fun w hs => ?_;exact ⟨M, ⟨Z, hL.trans (hM.wide (Nat.le_refl _) J), seg_join hx hM (.refl _ _ _) hMs t3'⟩, hs⟩
   ·obtain rfl : e = mid := by omega
    (refine aC (aB (aA1 zq (aA1 zq (aB4 xq J (aA1 zq ?_))))); (iterate 3 refine aA8 yq ?_); refine aA1 zq (aD (aG Z (aK ?_))))
    refine q_end U Z O fun w hs => ?_;exact ⟨M, ⟨Z, hL.trans (hM.wide (Nat.le_refl _) J), seg_join hx hM (.refl _ _ _) hMs t4'⟩, hs⟩
theorem insR_ca (g c0 N : Nat) (B : List Int) (key : Int → Int) (cmp : Value) (cf : Int → Int → Int) (hcf : ∀ x ∈ B, ∀ y ∈ B, (cf x y < 0 ↔ key x < key y)) (hN : N ≤ 1000) (w : World) (l : List Int) (a b : Nat) (hab : a ≤ b) (hbN : b ≤ N) (hln : l.length = N) (hB : ∀ x ∈ l, x ∈ B) (hcmp : CmpS w g cmp cf B) (hb : w.ownsRow 0 3 1 (aB9 g N c0) N (aX l)) :
  Ca Tryz.prog 221 [(aB9 g N c0), .int .i64 a, .int .i64 b, cmp] w fun v w' => ∃ L : List Int, (v = .tuple #[] ∧ Seg l L a b ∧ SrW key L a b) ∧ Sat w (fun x => x = g) [.ow (aB9 g N c0) 3 1 N (aX L)] w' := by
 refine cN (Sat.own0 hb) Tryz.func221 Z (by simp [Tryz.ntmps221]) ?_;(refine aC (aB (aA1 zq (aA4 uq J J (aA1 zq (aD (aM ?_)))))));refine bM (σ := Nat × List Int) (fun ⟨i, C⟩ => (a + 1 ≤ i ∧ (i ≤ b ∨ i = a + 1)) ∧ Seg l C a b ∧ SrW key C a i) (fun ⟨i, _⟩ => b - i) (fun ⟨i, _⟩ => [(0, (aB9 g N c0)), (1, .int .i64 a), (2, .int .i64 b), (3, cmp), (8, .int .i64 i)]) (fun ⟨_, C⟩ => [.ow (aB9 g N c0) 3 1 N (aX C)]) (a + 1, l) ⟨by omega, .refl _ _ _, .one (Nat.le_refl _)⟩ ⟨Z, Z, Z, Z, fM Z J, trivial⟩ O ?_;rintro ⟨i, C⟩ ⟨⟨p1, p2⟩, hS, hR⟩ K hK;dsimp only at p1 p2 hS hR hK ⊢;(refine aC (aC (aB ?_)); (iterate 3 refine aA1 zq ?_); refine aD ?_);refine dN Z (fun hc => ?_) (fun hc => ?_)
 ·have hib : i < b := by omega
  clear hc;(refine aK (aC (aM (aC (aB (aA1 zq (aA1 zq (aD (aM ?_)))))))));refine bM (σ := Nat × List Int) (fun ⟨j, C⟩ => Seg l C a b ∧ InsJ key C a i j) (fun ⟨j, _⟩ => j) (fun ⟨j, _⟩ => [(0, (aB9 g N c0)), (1, .int .i64 a), (2, .int .i64 b), (3, cmp), (8, .int .i64 i), (9, .int .i64 j)]) (fun ⟨_, C⟩ => [.ow (aB9 g N c0) 3 1 N (aX C)]) (i, C) ⟨hS, .start hR J⟩ ⟨Z, Z, Z, Z, Z, Z, trivial⟩ O ?_;clear hS hR;rintro ⟨j, C⟩ ⟨hS, hJ⟩ K2 hK2;dsimp only at hS hJ hK2 ⊢;have hji := hJ.ji;have hlen : C.length = N := by rw [hS.len, hln]
  have hB : ∀ x ∈ C, x ∈ B := fun x hx => hB x (hS.perm.subset hx)
  by_cases hja : j = a
  ·subst hja;(refine aC (aC ?_));refine bZ _ [] (Sp.refl _) qB qB ?_;(refine aA2 xq (aA2 xq (gF U Z Z Z J (aA2 xq ?_))); (iterate 12 refine dH Z Z Z ?_); refine aA2 xq (aN (aG Z (bH _ Z (bK (aB (aA1 zq (aA4 uq J J (aA1 zq (aD ?_))))))))));exact hK (i + 1, C) _ _ ⟨by dsimp only; omega, hS, hJ.close (.inl Z)⟩ (by dsimp only; omega) ⟨Z, Z, Z, Z, Z, trivial⟩ O
  ·obtain ⟨j, rfl⟩ : ∃ r, j = r + 1 := ⟨j - 1, by omega⟩;have y1 : j + 1 < C.length := by omega
   have y2 : j < C.length := by omega
   have hj1 : ((j + 1 : Nat) : Int) - 1 = j := by omega
   (refine aC (aC ?_))
   refine bZ _ [] (Sp.refl _) qB qB ?_;(refine aA2 xq (aA2 xq (gX U Z Z Z J (aA2 xq (aL Z (aA2 xq (aL Z (aA2 xq (aL Z (aA2 xq (aL Z ?_)))))))))));refine aA3 Wa J J ?_;(refine aL Z ?_);refine aR (v := .int .i64 C[j + 1]) U Z Z Z (fun w hs => RdI.at (hs.rdI (v := (aB9 g N c0)) (l := C) (t := 3) (n := N) O hlen.symm) (j + 1) y1) ?_;(refine aL Z (aA2 xq (aL Z (aA2 xq (aL Z (aA9 uq J J (aL Z ?_)))))));rw [hj1];refine aA3 Wa J J ?_;(refine aL Z ?_);refine aR (v := .int .i64 C[j]) U Z Z Z (fun w hs => RdI.at (hs.rdI (v := (aB9 g N c0)) (l := C) (t := 3) (n := N) O hlen.symm) (j) y2) ?_;(refine aL Z ?_);refine kD Z Z Z (fun w' hs => hcmp w' hs.chg _ (hB _ (List.getElem_mem y1)) _ (hB _ (List.getElem_mem y2))) ?_
   have hcj : cf C[j + 1] C[j] < 0 ↔ key (C.getD (j + 1) 0) < key (C.getD (j) 0) := by
    rw [dQ y1, dQ y2];exact hcf _ (hB _ (List.getElem_mem y1)) _ (hB _ (List.getElem_mem y2))
   by_cases hlt : cf C[j + 1] C[j] < 0
   ·(refine aL Z (kX U Z Z Z J (aA2 xq (aN (aH Z (aK (aC (aM ?_))))))))
    refine q_drawB [true, true, false, false, false, true, true, true, true, true, true, true, true, true, false, false, false, false] [] [.ow (aB9 g N c0) 3 1 N (aX C)] O qB qB qB ?_;refine qb_T 2 Z Z (Sp.refl _) fun K1 hK1 => ?_;(refine aA2 xq (aA2 xq (aN ?_)))
    refine hK1 _ _ (qb_F 3 [.ow (aB9 g N c0) 3 1 N (aX C)] Z Z O fun K1 hK1 => ?_);(refine aA2 xq (aA2 xq (aA9 uq J J (aN ?_))));refine hK1 _ _ (qb_T 9 Z Z O fun K1 hK1 => ?_);(refine aA2 xq (aA2 xq (aA9 uq J J ?_)));rw [hj1];(refine aA3 Wa J J ?_; refine aR U Z Z Z (fun w hs => RdI.at (hs.rdI (l := C) (t := 3) (n := N) O hlen.symm) (j) y2) ?_);(refine aA2 xq (aA2 xq ?_));(refine aA3 Wa J J ?_; refine aR U Z Z Z (fun w hs => RdI.at (hs.rdI (l := C) (t := 3) (n := N) O hlen.symm) (j + 1) y1) ?_);(refine aN ?_);refine hK1 _ _ (qb_F 4 [.ow (aB9 g N c0) 3 1 N (aX C)] Z Z O fun K1 hK1 => ?_);refine aA3 Wa J J ?_;refine iB U (j + 1) Z Z Z Z O J (by simpa using y1) ?_;refine aA3 Wa J J ?_;refine iB U (j) Z Z Z Z O J (by simpa using y2) ?_;rw [iY, iY];(refine aN ?_);refine hK1 _ _ (qb_nil ?_)
    have e : (C.set (j + 1) C[j]).set (j) C[j + 1] = swL C (j + 1) (j) := by
     unfold swL;rw [dQ y1, dQ y2]
    rw [e];(refine bK (aB (aA1 zq (aA4 uq J J (aA1 zq (aD ?_))))));exact hK2 (j, _) _ _ ⟨hS.trans (.sw J J J), hJ.swap J J (hcj.1 hlt)⟩ (by dsimp only; omega) ⟨Z, Z, Z, Z, Z, fM Z (by dsimp only; omega), trivial⟩ O
   ·(refine aL Z (kO U Z Z Z J (aA2 xq (aN (aG Z (bH _ Z (bK (aB (aA1 zq (aA4 uq J J (aA1 zq (aD ?_))))))))))))
    exact hK (i + 1, C) _ _ ⟨by dsimp only; omega, hS, hJ.close (.inr (Int.not_lt.1 fun e => hlt (hcj.2 e)))⟩ (by dsimp only; omega) ⟨Z, Z, Z, Z, Z, trivial⟩ O
 ·clear hK;have hbi : b ≤ i := by omega
  (refine bH _ Z ?_)
  refine q_end U Z O fun w hs => ?_;exact ⟨C, ⟨Z, hS, hR.sub (Nat.le_refl _) hbi⟩, hs⟩
theorem stabW_ca (g c0 N : Nat) (B : List Int) (key : Int → Int) (cmp : Value) (cf : Int → Int → Int) (hcf : ∀ x ∈ B, ∀ y ∈ B, (cf x y < 0 ↔ key x < key y)) (hN : N ≤ 39) (w : World) (l : List Int) (hln : l.length = N) (hB : ∀ x ∈ l, x ∈ B) (hcmp : CmpS w g cmp cf B) (hb : w.ownsRow 0 3 1 (aB9 g N c0) N (aX l)) :
  Ca Tryz.prog 199 [(aB9 g N c0), .int .i64 N, cmp] w fun v w' => ∃ L : List Int, (v = .tuple #[] ∧ L.Perm l ∧ SrW key L 0 N) ∧ Sat w (fun x => x = g) [.ow (aB9 g N c0) 3 1 N (aX L)] w' := by
 refine cN (Sat.own0 hb) Tryz.func199 Z (by simp [Tryz.ntmps199]) ?_;(refine aC (aB (aA1 zq (aD (aC (aB ?_))))); (iterate 3 refine aA1 zq ?_); refine aD (aC (aM ?_)));refine bM (σ := Nat × List Int) (fun ⟨t, C⟩ => (t = 0 ∧ C = l) ∨ (t = 1 ∧ 20 ≤ N ∧ C.Perm l ∧ SrW key C 0 20)) (fun ⟨t, _⟩ => 1 - t) (fun ⟨t, _⟩ => [(0, (aB9 g N c0)), (1, .int .i64 N), (2, cmp), (6, .int .i64 20), (7, .int .i64 (20 * t : Nat)), (8, .int .i64 (20 * t + 20 : Nat))]) (fun ⟨_, C⟩ => [.ow (aB9 g N c0) 3 1 N (aX C)]) (0, l) (.inl ⟨Z, Z⟩) ⟨Z, Z, Z, Z, Z, Z, trivial⟩ O ?_;rintro ⟨t, C⟩ hI K hK;dsimp only at hI hK ⊢;(refine aC (aC (aB ?_)); (iterate 3 refine aA1 zq ?_); refine aD ?_);refine dN Z (fun hc => ?_) (fun hc => ?_)
 ·have ht : t = 0 ∧ C = l ∧ 20 ≤ N := by
   rcases hI with ⟨rfl, rfl⟩ | ⟨rfl, _⟩
   ·exact ⟨Z, Z, by omega⟩
   ·omega
  obtain ⟨rfl, rfl, hn⟩ := ht;clear hc hI;(refine aK (aM (aC (aB ?_))); (iterate 4 refine aA1 zq ?_));refine bC (β := List Int) (ψ := fun D v => v = .tuple #[] ∧ Seg C D (20 * 0) (20 * 0 + 20) ∧ SrW key D (20 * 0) (20 * 0 + 20)) (L' := fun D => [.ow (aB9 g N c0) 3 1 N (aX D)]) U [.ow (aB9 g N c0) 3 1 N (aX C)] _ (fun x => x = g) rfl rfl rfl rfl (Sp.cons O (Sp.refl _)) (fun x hx => ⟨_, .head _, by subst hx; rfl⟩) (fun w' hs => insR_ca g c0 N B key cmp cf hcf J w' C (20 * 0) (20 * 0 + 20) J J hln hB (hcmp.sub hs.chg) (hs.all _ (.head _))) ?_;rintro D _ ⟨rfl, hD, sD⟩;dsimp only [List.cons_append, List.nil_append];(refine aD (aC (aB (aA1 zq (aA1 zq (aD (aB (aA1 zq (aA1 zq (aA4 uq J J (aA1 zq (aD ?_))))))))))); refine bK ?_);exact hK (1, D) _ _ (.inr ⟨Z, hn, hD.perm, sD⟩) (by dsimp only; omega) ⟨Z, Z, Z, Z, Z, fM Z (by dsimp only; omega), trivial⟩ O
 ·clear hK
  have hC : C.Perm l ∧ SrW key C 0 (20 * t) ∧ 20 * t ≤ N ∧ N < 20 * t + 20 ∧ t ≤ 1 := by
   rcases hI with ⟨rfl, rfl⟩ | ⟨rfl, h1, h2, h3⟩
   ·exact ⟨.refl _, .one J, by omega, by omega, by omega⟩
   ·exact ⟨h2, h3, by omega, by omega, by omega⟩
  clear hc hI;obtain ⟨hP, hSr, hq1, hq2, hq3⟩ := hC;have hlC : C.length = N := by rw [hP.length_eq, hln]
  have hBC : ∀ x ∈ C, x ∈ B := fun x hx => hB x (hP.subset hx)
  (refine bH _ Z (aC (aB ?_)); (iterate 4 refine aA1 zq ?_))
  refine bC (β := List Int) (ψ := fun D v => v = .tuple #[] ∧ Seg C D (20 * t) N ∧ SrW key D (20 * t) N) (L' := fun D => [.ow (aB9 g N c0) 3 1 N (aX D)]) U [.ow (aB9 g N c0) 3 1 N (aX C)] _ (fun x => x = g) rfl rfl rfl rfl (Sp.cons O (Sp.refl _)) (fun x hx => ⟨_, .head _, by subst hx; rfl⟩) (fun w' hs => insR_ca g c0 N B key cmp cf hcf J w' C (20 * t) N J J hlC hBC (hcmp.sub hs.chg) (hs.all _ (.head _))) ?_;rintro D _ ⟨rfl, hD, sD⟩;dsimp only [List.cons_append, List.nil_append];have hP2 : D.Perm l := hD.perm.trans hP;have hlD : D.length = N := by rw [hP2.length_eq, hln]
  have hBD : ∀ x ∈ D, x ∈ B := fun x hx => hB x (hP2.subset hx)
  have hS1 := hSr.out hD (.inl (Nat.le_refl _));clear hSr hP hlC hBC hD;(refine aD (aM ?_));refine bM (σ := Nat × List Int) (fun ⟨z, M⟩ => (z = 20 ∧ M = D) ∨ (z = 40 ∧ M.Perm l ∧ SrW key M 0 N)) (fun ⟨z, _⟩ => 40 - z) (fun ⟨z, _⟩ => [(0, (aB9 g N c0)), (1, .int .i64 N), (2, cmp), (6, .int .i64 z)]) (fun ⟨_, M⟩ => [.ow (aB9 g N c0) 3 1 N (aX M)]) (20, D) (.inl ⟨Z, Z⟩) ⟨Z, Z, Z, Z, trivial⟩ O ?_;rintro ⟨z, M⟩ hI K hK;dsimp only at hI hK ⊢;(refine aC (aC (aB ?_)); (iterate 3 refine aA1 zq ?_); refine aD ?_);refine dN Z (fun hc => ?_) (fun hc => ?_)
  ·have ht : z = 20 ∧ M = D ∧ 20 < N := by
    rcases hI with ⟨rfl, rfl⟩ | ⟨rfl, _⟩
    ·exact ⟨Z, Z, by omega⟩
    ·omega
   obtain ⟨rfl, rfl, hn⟩ := ht;obtain rfl : t = 1 := by omega
   clear hc hI;(refine aK (aM (aC (aB (aA1 zq (aA4 uq J J (aA1 zq (aA1 zq (aD (aC (aM ?_)))))))))));refine bM (σ := Unit) (fun _ => True) (fun _ => 0) (fun _ => [(0, (aB9 g N c0)), (1, .int .i64 N), (2, cmp), (6, .int .i64 20), (7, .int .i64 0), (8, .int .i64 40)]) (fun _ => [.ow (aB9 g N c0) 3 1 N (aX M)]) () trivial ⟨Z, Z, Z, Z, Z, Z, trivial⟩ O ?_;rintro _ _ K2 hK2;clear hK2;(refine aC (aC (aB (aA1 zq (aA1 zq (gO U Z Z Z J (aD (aG Z (bH _ Z (aC (aC (aB ?_))))))))))); refine aA1 zq (aA1 zq (aA4 uq J J (aA1 zq (aD (aC (aB (aA1 zq (aA1 zq (aB3 xq J (aD (aH Z ?_))))))))))); refine aB ?_; (iterate 5 refine aA1 zq ?_));refine bC (β := List Int) (ψ := fun D v => v = .tuple #[] ∧ Seg M D 0 N ∧ SrW key D 0 N) (L' := fun D => [.ow (aB9 g N c0) 3 1 N (aX D)]) U [.ow (aB9 g N c0) 3 1 N (aX M)] _ (fun x => x = g) rfl rfl rfl rfl (Sp.cons O (Sp.refl _)) (fun x hx => ⟨_, .head _, by subst hx; rfl⟩) (fun w' hs => symM_ca g c0 N B key cmp cf hcf J N w' M 0 20 N J J J J hlD hBD (hcmp.sub hs.chg) hS1 sD (hs.all _ (.head _))) ?_;rintro E _ ⟨rfl, hE, sE⟩;dsimp only [List.cons_append, List.nil_append];(refine aD (aB (aA1 zq (aA4 uq J J (aA1 zq (aD (bK ?_)))))));exact hK (40, E) _ _ (.inr ⟨Z, hE.perm.trans hP2, sE⟩) (by dsimp only; omega) ⟨Z, Z, Z, Z, trivial⟩ O
  ·clear hK
   have hM : M.Perm l ∧ SrW key M 0 N := by
    rcases hI with ⟨rfl, rfl⟩ | ⟨rfl, h1, h2⟩
    ·refine ⟨hP2, ?_⟩;by_cases c : t = 0
     ·rw [c] at sD; exact sD
     ·have e : 20 * t = N := by omega
      rw [e] at hS1;exact hS1
    ·exact ⟨h1, h2⟩
   (refine bH _ Z ?_)
   refine q_end U Z O fun w hs => ?_;exact ⟨M, ⟨Z, hM.1, hM.2⟩, hs⟩
theorem sortW_ca (g c0 N : Nat) (B : List Int) (key : Int → Int) (cmp : Value) (cf : Int → Int → Int) (hcf : ∀ x ∈ B, ∀ y ∈ B, (cf x y < 0 ↔ key x < key y)) (hN : N ≤ 39) (w : World) (l : List Int) (hln : l.length = N) (hB : ∀ x ∈ l, x ∈ B) (hcmp : CmpS w g cmp cf B) (hb : w.ownsRow 0 3 1 (aB9 g N c0) N (aX l)) :
  Ca Tryz.prog 173 [(aB9 g N c0), cmp] w fun v w' => ∃ L : List Int, (v = .tuple #[] ∧ L.Perm l ∧ SrW key L 0 N) ∧ Sat w (fun x => x = g) [.ow (aB9 g N c0) 3 1 N (aX L)] w' := by
 refine cN (Sat.own0 hb) Tryz.func173 Z (by simp [Tryz.ntmps173]) ?_;(refine aB ?_; (iterate 4 refine aA1 zq ?_));refine bC (β := List Int) (ψ := fun D v => v = .tuple #[] ∧ D.Perm l ∧ SrW key D 0 N) (L' := fun D => [.ow (aB9 g N c0) 3 1 N (aX D)]) U [.ow (aB9 g N c0) 3 1 N (aX l)] _ (fun x => x = g) rfl rfl rfl rfl (Sp.cons O (Sp.refl _)) (fun x hx => ⟨_, .head _, by subst hx; rfl⟩) (fun w' hs => stabW_ca g c0 N B key cmp cf hcf hN w' l hln hB (hcmp.sub hs.chg) (hs.all _ (.head _))) ?_;rintro D _ ⟨rfl, hD, sD⟩;dsimp only [List.cons_append, List.nil_append];(refine aD ?_);refine q_end U Z O fun w hs => ?_;exact ⟨D, ⟨Z, hD, sD⟩, hs⟩
theorem sortT_ca (w : World) (g c n : Nat) (key : Int → Int) (cmp : Value) (cf : Int → Int → Int) (hcf : ∀ a ∈ gJ n, ∀ b ∈ gJ n, (cf a b < 0 ↔ key a < key b)) (hl : n ≤ 39) (hcmp : CmpS w g cmp cf (gJ n)) (hb : w.ownsRow 0 3 1 (aB9 g n c) n (aX (gJ n))) :
  Ca Tryz.prog 173 [aB9 g n c, cmp] w fun v w' => ∃ L : List Int, (v = .tuple #[] ∧ L.Perm (gJ n) ∧ SrW key L 0 n) ∧ Sat w (fun x => x = g) [.ow (aB9 g n c) 3 1 n (aX L)] w' :=
 sortW_ca g c n (gJ n) key cmp cf hcf hl w (gJ n) (jF n) (fun _ h => h) hcmp hb
structure LateO (L : List Hd) (Q : List Int) : Prop where
 len : Q.length = L.length
 bd : ∀ k, k < L.length → 0 ≤ Q.getD k 0 ∧ Q.getD k 0 < L.length
 all : ∀ j, j < L.length → ∃ k, k < L.length ∧ Q.getD k 0 = (j : Int)
 srt : ∀ p q, p < q → q < L.length → (hdL L (Q.getD q 0).toNat).t ≤ (hdL L (Q.getD p 0).toNat).t
theorem late_of {L : List Hd} {Q : List Int} (hp : Q.Perm (gJ L.length)) (hs : SrW (fun i => -endK L i) Q 0 L.length) : LateO L Q := by
 have hl : Q.length = L.length := by rw [hp.length_eq, jF]
 refine ⟨hl, fun k hk => ?_, fun j hj => ?_, fun p q h1 h2 => ?_⟩
 ·have hm : Q.getD k 0 ∈ Q := by
   rw [List.getD_eq_getElem?_getD, List.getElem?_eq_getElem J, Option.getD_some];exact List.getElem_mem _
  exact iota_mem.1 (hp.subset hm)
 ·have hm : (j : Int) ∈ Q := hp.symm.subset (iota_mem.2 ⟨by omega, by omega⟩);obtain ⟨k, hk, he⟩ := List.mem_iff_getElem.1 hm;exact ⟨k, by omega, by rw [List.getD_eq_getElem?_getD, List.getElem?_eq_getElem hk, Option.getD_some, he]⟩
 ·have h3 := hs p q J J h2;unfold endK at h3;dsimp only at h3;omega
theorem late_best {L : List Hd} {Q : List Int} (h : LateO L Q) {k : Nat} (hk : k < L.length) {m : Int} (hno : ∀ j, j < k → (hdL L (Q.getD j 0).toNat).cov m = false) : ∀ x ∈ L, x.cov m = true → x.t ≤ (hdL L (Q.getD k 0).toNat).t := by
 intro x hx hc;obtain ⟨i, hi, rfl⟩ := hdL_of_mem hx;obtain ⟨p, hp, he⟩ := h.all i hi;rcases Nat.lt_trichotomy p k with h1 | h1 | h1
 ·have := hno p h1;rw [he, Int.toNat_natCast, hc] at this;cases this
 ·subst h1;rw [he, Int.toNat_natCast];exact Int.le_refl _
 ·have := h.srt k p h1 hp;rw [he, Int.toNat_natCast] at this;exact this
theorem late_none {L : List Hd} {Q : List Int} (h : LateO L Q) {m : Int} (hno : ∀ j, j < L.length → (hdL L (Q.getD j 0).toNat).cov m = false) : ∀ x ∈ L, x.cov m = false := by
 intro x hx;obtain ⟨i, hi, rfl⟩ := hdL_of_mem hx;obtain ⟨p, hp, he⟩ := h.all i hi;have := hno p hp
 rwa [he, Int.toNat_natCast] at this
def nI (l : List Nat) : List Int := l.map fun (i : Nat) => (i : Int)
theorem eC (l : List Nat) : (nI l).length = l.length := by simp [nI]
theorem nI_snoc (l : List Nat) (x : Nat) : aX (nI (l ++ [x])) = aX (nI l) ++ [.int .i64 x] := by simp [nI, aX]
def oF (n k : Nat) : List Int := (List.range n).map fun (i : Nat) => if i < k then (i : Int) else 0
theorem fillI_zero (n : Nat) : List.replicate n (0 : Int) = oF n 0 := List.ext_getElem (by simp [oF]) fun i h1 h2 => by simp [oF]
theorem fillI_full (n : Nat) : oF n n = gJ n := List.ext_getElem (by simp [oF, gJ]) fun i h1 h2 => by
 have : i < n := by simpa [oF] using h1
 simp [oF, gJ, this]
theorem fillI_len (n k : Nat) : (oF n k).length = n := by simp [oF]
theorem fillI_set (n k : Nat) : (oF n k).set k (k : Int) = oF n (k + 1) := List.ext_getElem (by simp [oF]) fun i h1 h2 => by
 rw [List.getElem_set];simp only [oF, List.getElem_map, List.getElem_range];by_cases e : k = i
 ·subst e;rw [if_pos rfl, if_pos J]
 ·rw [if_neg e];by_cases e2 : i < k
  ·rw [if_pos e2, if_pos J]
  ·rw [if_neg e2, if_neg J]
theorem links_ca (w : World) (lo hi : Nat) (v : Value) (L : List Hd) (h : RdH w lo hi v L) (hL : ∀ h ∈ L, 0 ≤ h.t ∧ h.t ≤ 10000) (hn : L.length ≤ 39) (a b : Int) (ha : 0 ≤ a ∧ a ≤ 10000) (hb : 0 ≤ b ∧ b ≤ 10000) :
  Ca Tryz.prog 140 [v, .int .i64 a, .int .i64 b] w fun x w' => ∃ y : (Value × List Nat) × (Value × List Int) × Int, (x = .tuple #[y.1.1, y.2.1.1, .int .i64 y.2.2] ∧ Lk L b a y.1.2 y.2.1.2 y.2.2) ∧ Sat w M0 [.ow y.1.1 3 1 y.1.2.length (aX (nI y.1.2)), .ow y.2.1.1 3 1 y.2.1.2.length (aX y.2.1.2)] w' := by
 obtain ⟨va, vc, rfl, hsa⟩ := RdH.outI h;refine cN (Sat.nil w M0) Tryz.func140 Z (by simp [Tryz.ntmps140]) ?_;(refine aC (aB ?_));refine bR Z Z (fun b3 => ?_)
 ((iterate 3 refine aA1 zq ?_); refine aD (aC (aB ?_)); refine aJ U Z Z Z ?_; refine aA1 zq ?_)
 refine kR slI Z Z Z J (fun b9 => ?_);rw [fillI_zero];(refine aA1 zq (aD (aC (aC (aB ?_)))); refine aJ U Z Z Z ?_; refine aA1 zq (aA1 zq (aD (aM ?_))));refine bM (σ := Nat) (fun k => k ≤ L.length) (fun k => L.length - k) (fun k => [(1, .int .i64 a), (2, .int .i64 b), (3, aC0 b3), (6, .slice none 0 0), (7, .slice none 0 0), (9, aB9 b9 L.length L.length), (20, .int .i64 L.length), (21, .int .i64 k)]) (fun k => [.pt b9 (aX (oF L.length k)) 3, .pt b3 [.slice va L.length vc] 23]) 0 J ⟨Z, Z, Z, Z, Z, Z, Z, Z, trivial⟩ O ?_;rintro k hk K hK;(refine aC (aB (aA1 zq (aD (aC ?_)))));refine dN Z (fun hc => ?_) (fun hc => ?_)
 ·have hk2 : k < L.length := by omega
  clear hc;have hkf : k < (oF L.length k).length := by rw [fillI_len]; exact hk2
  (refine aK (aC (aM (aC (aB (aA1 zq (aA1 zq (aD (aB ?_)))))))); (iterate 3 refine aA1 zq ?_))
  refine aA7 Wa J J ?_;refine oJ U (k) Z Z Z O (by first | rfl | omega | simp) hkf ?_;rw [fillI_set];(refine aD (bK (aB (aA4 uq J J (aA1 zq (aD ?_))))));exact hK (k + 1) _ _ J J ⟨Z, Z, Z, Z, Z, Z, Z, Z, trivial⟩ O
 ·obtain rfl : k = L.length := by omega
  clear hc hK hk;rw [fillI_full];(refine bH _ Z (aC (aB ?_)); refine aJ U Z Z Z ?_; refine aA1 zq ?_);refine kR slI Z Z Z J (fun b5 => ?_);(refine aA1 zq (aD (aC (aB (aA1 zq (aA1 zq ?_))))));refine ql_copyR (et := 3) (news := aX (gJ L.length)) (sz := 1) (o := 0) qB qB Z Z Z O (by simp [aX, jF]) (by simp [aX, dJ]) (fun w hs => ⟨_, _, by have := Blk.rdN (c := L.length) (sz := 1) (q := L.length) (hs.blk (b := b9) O) (by simp [aX, jF]); exact this⟩) ?_
  have ec : List.take 0 (aX (List.replicate L.length 0)) ++ aX (gJ L.length) ++ List.drop (0 + (aX (gJ L.length)).length) (aX (List.replicate L.length 0)) = aX (gJ L.length) := by
   rw [List.take_zero, List.nil_append, List.drop_of_length_le (by simp [aX, jF]), List.append_nil]
  rw [ec];refine ql_conv (H' := [.ow (aB9 b5 L.length L.length) 3 1 L.length (aX (gJ L.length)), .pt b9 (aX (gJ L.length)) 3, .pt b3 [.slice va L.length vc] 23]) (fun w' hs => Sat.pt_ow (m := L.length) (by simp [aX, jF]) J hs) ?_;(refine aD (aC (aB (aA1 zq (aA1 zq ?_)))))
  refine bC (β := List Int) (ψ := fun Q v => v = .tuple #[] ∧ Q.Perm (gJ L.length) ∧ SrW (fun i => -endK L i) Q 0 L.length) (L' := fun Q => [.ow (aB9 b5 L.length L.length) 3 1 L.length (aX Q)]) U [.ow (aB9 b5 L.length L.length) 3 1 L.length (aX (gJ L.length))] _ (fun x => x = b5) rfl rfl rfl rfl (Sp.cons O (Sp.refl _)) (fun x hx => ⟨_, .head _, by subst hx; rfl⟩) (fun w' hs => by
   have hcmp : CmpS w' b5 (.func (.func 174) #[] #[aC0 b3]) (fun i j => endK L j - endK L i) (gJ L.length) := fun w2 hc2 x hx y hy => by
    have hx2 := iota_mem.1 hx;have hy2 := iota_mem.1 hy;have hc3 : ChgP (DL [Ck.ow (aB9 b5 L.length L.length) 3 1 L.length (aX (gJ L.length))]) w' w2 := (ChgP.refl _ w').upP hc2 fun k hk => .inl ⟨_, .head _, by subst hk; rfl⟩
    have hb1 : Blk w2 b3 [.slice va L.length vc] 23 := hs.aside hc3 (x := .pt b3 [.slice va L.length vc] 23) O;have hc4 := hs.asideOld hc3;obtain ⟨i, rfl⟩ := Int.eq_ofNat_of_zero_le hx2.1;obtain ⟨j, rfl⟩ := Int.eq_ofNat_of_zero_le hy2.1;exact CaF.of U Z (links1_ca w2 lo hi b3 _ _ _ L (RdE.keep h hc4) hb1 hL i j J J)
   exact sortT_ca w' b5 L.length L.length (fun i => -endK L i) _ _ (fun x hx y hy => by omega) hn hcmp (hs.all _ (.head _))) ?_
  rintro Q _ ⟨rfl, hp, hso⟩;have hQ := late_of hp hso;clear hp hso;have hQl := hQ.len;dsimp only [List.cons_append, List.nil_append];refine ql_conv (H' := [.ow (.slice none 0 0) 3 1 0 [], .ow (.slice none 0 0) 3 1 0 [], .ow (aB9 b5 L.length L.length) 3 1 L.length (aX Q), .pt b3 [.slice va L.length vc] 23]) (fun w' hs => (Sat.ownil (Sat.ownil (hs.sp (H' := [.ow (aB9 b5 L.length L.length) 3 1 L.length (aX Q), .pt b3 [.slice va L.length vc] 23]) O) 3 1) 3 1)) ?_;(refine aD (aC (aM ?_)));refine bM (σ := (Int × Value × Value) × List Nat × List Int) (fun z => (0 ≤ z.1.1 ∧ z.1.1 ≤ 10000 ∧ a ≤ z.1.1) ∧ z.2.1.length = z.2.2.length ∧ (z.2.1.length : Int) ≤ z.1.1 - a ∧ ∀ hs' ms' e, Lk L b z.1.1 hs' ms' e → Lk L b a (z.2.1 ++ hs') (z.2.2 ++ ms') e) (fun z => (b - z.1.1).toNat) (fun z => [(1, .int .i64 z.1.1), (2, .int .i64 b), (3, aC0 b3), (6, z.1.2.1), (7, z.1.2.2), (11, aB9 b5 L.length L.length)]) (fun z => [.ow z.1.2.1 3 1 z.2.1.length (aX (nI z.2.1)), .ow z.1.2.2 3 1 z.2.2.length (aX z.2.2), .ow (aB9 b5 L.length L.length) 3 1 L.length (aX Q), .pt b3 [.slice va L.length vc] 23]) ((a, .slice none 0 0, .slice none 0 0), [], []) ⟨⟨ha.1, ha.2, Int.le_refl _⟩, Z, by simp, fun _ _ _ h => h⟩ ⟨Z, Z, Z, Z, Z, Z, trivial⟩ O ?_;rintro ⟨⟨cur, u6, u7⟩, hsl, ms⟩ ⟨⟨hc0, hc1, hc2⟩, hlen, hle, hcont⟩ K hK;dsimp only at hc0 hc1 hc2 hlen hle hcont hK ⊢;(refine aC (aC (aB ?_)); (iterate 3 refine aA1 zq ?_); refine aD ?_);refine dN Z (fun hc => ?_) (fun hc => ?_)
  ·have hcb : cur < b := by simpa using hc
   clear hc;(refine aK (aM ?_));refine q_scope (fun _ _ _ h => h) ?_;(refine aC (aB (aA1 zq (aD (aC (q_label (aC (aC (aB ?_)))))))); (iterate 3 refine aA1 zq ?_); refine aD (aM ?_));refine bM (σ := Nat) (fun k => k ≤ L.length ∧ ∀ j, j < k → (hdL L (Q.getD j 0).toNat).cov cur = false) (fun k => L.length - k) (fun k => [(1, .int .i64 cur), (2, .int .i64 b), (3, aC0 b3), (6, u6), (7, u7), (11, aB9 b5 L.length L.length), (12, .int .i64 (-1)), (41, aB9 b5 L.length L.length), (42, .int .i64 L.length), (43, .int .i64 k)]) (fun _ => [.ow u6 3 1 hsl.length (aX (nI hsl)), .ow u7 3 1 ms.length (aX ms), .ow (aB9 b5 L.length L.length) 3 1 L.length (aX Q), .pt b3 [.slice va L.length vc] 23]) 0 ⟨by omega, fun j hj => absurd hj J⟩ ⟨Z, Z, Z, Z, Z, Z, Z, Z, Z, Z, trivial⟩ O ?_;rintro k ⟨hk, hno⟩ K2 hK2;(refine aC (aB (aA1 zq (aD (aC ?_)))));refine dN Z (fun hc => ?_) (fun hc => ?_)
   ·have hk2 : k < L.length := by omega
    clear hc;obtain ⟨q0, q1⟩ := hQ.bd k hk2;obtain ⟨i, hi⟩ := Int.eq_ofNat_of_zero_le q0;have hkQ : k < Q.length := by omega
    have hQk : Q[k] = (i : Int) := by
     rw [List.getD_eq_getElem?_getD, List.getElem?_eq_getElem hkQ, Option.getD_some] at hi;exact hi
    have hil : i < L.length := by rw [hi] at q1; omega
    have hLi : hdL L i = L[i] := by
     unfold hdL;rw [List.getD_eq_getElem?_getD, List.getElem?_eq_getElem hil, Option.getD_some]
    have hti := hL _ (List.getElem_mem hil);obtain ⟨ab, ao, rfl⟩ := hsa J;(refine aK (aC (aM (aC (aB ?_)))));refine aA7 Wa J J ?_
    refine bI (v := .int .i64 i) U Z Z Z (fun w hs => by
     have := RdI.at (hs.rdI (v := aB9 b5 L.length L.length) (l := Q) (t := 3) (n := L.length) O hQl.symm) k hkQ;rw [hQk] at this;exact this) ?_
    (refine aA1 zq (aD (aC (aB ?_))); refine aJ U Z Z Z ?_; refine aA1 zq ?_)
    refine aA7 Wa J J ?_;refine dC (cs := [.int .i64 L[i].who, .int .i64 L[i].f, .int .i64 L[i].t]) U Z Z Z Z (fun w hs q hq => RdH.at (RdE.keep h hs.chg0) i hil q hq) ?_;(refine aA1 zq (aA1 zq (aD (aC (aB (aA1 zq (aA1 zq ?_)))))));refine aI (val := .bool ((L[i]).cov cur)) U Z Z Z Z (fun w hs => ?_) ?_; exact covers_ca L[i] cur w;cases hcv : (L[i]).cov cur with
    | false =>
     (refine aD (aG Z (aK (bK (aB (aA4 uq J J (aA1 zq (aD ?_))))))))
     exact hK2 (k + 1) _ _ ⟨by omega, fun j hj => by
      by_cases e : j = k
      ·subst e;rw [hi]
       show (hdL L i).cov cur = false
       rw [hLi];exact hcv
      ·exact hno j J⟩ J ⟨Z, Z, Z, Z, Z, Z, Z, Z, Z, Z, trivial⟩ O
    | true =>
     have hcv2 := Hd.cov_iff.1 hcv
     have hbest : ∀ h ∈ L, h.cov cur = true → h.t ≤ (hdL L i).t := by
      have := late_best hQ hk2 hno;rw [hi] at this;exact this
     have hml : ms.length ≤ 10000 := by omega
     (refine aD (aH Z (aC (aB (aA1 zq (aA1 zq (aD (bH _ Z (aC (aC (aB (aA1 zq ?_))))))))))); refine cZ U Z Z Z J (aD (aG Z (aK (aC (aB (aA1 zq (aA1 zq ?_))))))))
     refine cT 3 [.int .i64 i] Z qB Z (fun bn => ?_);refine cW (q := 1) (news := [.int .i64 i]) slI Z Z Z (fun v' => by repeat constructor) (fun w' hs => ⟨_, _, Blk.rdN (hs.blk (b := bn) O) Z⟩) (by simp [dJ]) J J (fun u6' => ?_);(refine aA1 zq (aA1 zq ?_));refine cT 3 [.int .i64 cur] Z qB Z (fun bn2 => ?_);refine cW (q := 1) (news := [.int .i64 cur]) slI Z Z Z (fun v' => by repeat constructor) (fun w' hs => ⟨_, _, Blk.rdN (hs.blk (b := bn2) O) Z⟩) (by simp [dJ]) J J (fun u7' => ?_);(refine aA1 zq (aA1 zq (aD (aB ?_))); refine aJ U Z Z Z ?_; refine aA1 zq ?_);refine aA7 Wa J J ?_;(refine aA1 zq ?_);refine bI (v := .int .i64 L[i].t) U Z Z Z (fun w hs => RdH.at2 (RdE.keep h hs.chg0) i hil) ?_;(refine aA1 zq (aD (bK ?_)))
     exact hK ((L[i].t, u6', u7'), hsl ++ [i], ms ++ [cur]) _ _ ⟨⟨by simp only; omega, by simp only; omega, by simp only; omega⟩, by simp [hlen], by simp only [List.length_append, List.length_singleton]; omega, fun hs' ms' e hh => by
      have h1 := hcont (i :: hs') (cur :: ms') e (.step hcb hil (by rw [hLi]; exact hcv) hbest (by rw [hLi]; exact hh));rw [List.append_assoc, List.append_assoc];exact h1⟩ (by simp only; omega) ⟨Z, Z, Z, Z, Z, Z, trivial⟩ (by dsimp only; rw [nI_snoc, show aX (ms ++ [cur]) = aX ms ++ [.int .i64 cur] from by simp [aX], List.length_append, List.length_append, List.length_singleton, List.length_singleton]; repeat constructor)
   ·obtain rfl : k = L.length := by omega
    clear hc hK2 hk;(refine bH _ Z (aC (aC (aB (aA1 zq (aB2 xq J (aD (aH Z (aC (aB ?_))))))))); (iterate 6 refine aA1 zq ?_); refine aD (aS ?_));refine aA5 wq O fun w hs => ?_
    exact ⟨((u6, hsl), (u7, ms), cur), ⟨Z, by have := hcont [] [] cur (.gap hcb (late_none hQ hno)); rwa [List.append_nil, List.append_nil] at this⟩, hs.sp O⟩
  ·have hcb : b ≤ cur := by simpa using hc
   (refine bH _ Z (aC (aB ?_)); (iterate 6 refine aA1 zq ?_); refine aD (aS ?_))
   refine aA5 wq O fun w hs => ?_;exact ⟨((u6, hsl), (u7, ms), b), ⟨Z, by have := hcont [] [] b (.done hcb); rwa [List.append_nil, List.append_nil] at this⟩, hs.sp O⟩
def dI (L : List Hd) (a b : Int) : Int := if chkG L ≠ 0 then chkG L else if (0 ≤ a ∧ a ≤ 10000) ∧ a < b ∧ b ≤ 10000 then 0 else 3
structure SpOk (L : List Hd) (a b : Int) : Prop where
 g : GOk L
 ra : 0 ≤ a ∧ a ≤ 10000
 rb : a < b ∧ b ≤ 10000
theorem eJ {L : List Hd} {a b : Int} : dI L a b = 0 ↔ SpOk L a b := by
 unfold dI;constructor
 ·intro h;split at h
  ·omega
  split at h
  ·rename_i h1 h2
   exact ⟨chkG_zero.1 (by simpa using h1), h2.1, h2.2⟩
  ·omega
 ·intro h;rw [if_neg (by rw [chkG_zero.2 h.g]; simp), if_pos ⟨h.ra, h.rb⟩]
theorem gG (w : World) (lo hi : Nat) (L : List Hd) (v : Value) (a b : Int) (h : RdH w lo hi v L) (hlen : L.length ≤ maxLen) : Ca Tryz.prog 139 [v, .int .i64 a, .int .i64 b] w fun x w' => x = .int .i64 (dI L a b) ∧ Chg [] w w' := by
 refine cN (Sat.nil w M0) Tryz.func139 Z (by simp [Tryz.ntmps139]) ?_;(refine aC (aB (aA1 zq (aD (aC (aC (aB (aA1 zq ?_))))))));refine aI (val := .int .i64 (chkG L)) U Z Z Z Z (fun w hs => ?_) ?_; exact checkG_ca w lo hi L v (RdE.keep h hs.chg0) hlen;by_cases h0 : chkG L = 0
 ·have e0 : dI L a b = if (0 ≤ a ∧ a ≤ 10000) ∧ a < b ∧ b ≤ 10000 then 0 else 3 := by
   unfold dI;rw [if_neg (by simpa using h0)]
  rw [e0];(refine aA1 zq (aD (aC (aB (aA1 zq (aA6 xq J (aD (aG Z (aK (aC (aC (aB ?_))))))))))); refine aA1 zq ?_);refine aI (val := .bool (inB a 0 10000)) U Z Z Z Z (fun w hs => ?_) ?_; exact eZ a 0 10000 w;by_cases h1 : 0 ≤ a ∧ a ≤ 10000
  ·rw [bV.2 h1];by_cases h2 : a < b
   ·by_cases h3 : b ≤ 10000
    ·(refine aA1 zq (aA1 zq (aE Z (aA1 zq (aE Z (aA1 zq (aE Z (gO U Z Z Z J (aA1 zq (aA1 zq (aE Z (aA1 zq ?_))))))))))); refine aE Z (aB1 xq J (aA1 zq (aD (aG Z (aK (aC (aB (aA1 zq (aD (aS ?_)))))))))))
     refine aA5 wq O fun w hs => ?_;exact ⟨by rw [if_pos ⟨h1, h2, h3⟩]; rfl, hs.chg0⟩
    ·(refine aA1 zq (aA1 zq (aE Z (aA1 zq (aE Z (aA1 zq (aE Z (gO U Z Z Z J (aA1 zq (aA1 zq (aE Z (aA1 zq ?_))))))))))); refine aE Z (cR U Z Z Z J (aA1 zq (aD (aH Z (aC (aB (aA1 zq (aD (aS ?_))))))))))
     refine aA5 wq O fun w hs => ?_;exact ⟨by rw [if_neg (fun e => h3 e.2.2)]; rfl, hs.chg0⟩
   ·(refine aA1 zq (aA1 zq (aE Z (aA1 zq (aE Z (aA1 zq (aE Z (jU U Z Z Z J (aA1 zq (aA1 zq (aA8 yq (aA8 yq ?_))))))))))); refine aA1 zq (aD (aH Z (aC (aB (aA1 zq (aD (aS ?_))))))))
    refine aA5 wq O fun w hs => ?_;exact ⟨by rw [if_neg (fun e => h2 e.2.1)]; rfl, hs.chg0⟩
  ·rw [show inB a 0 10000 = false from by rw [← Bool.not_eq_true, bV]; exact h1];(refine aA1 zq (aA1 zq ?_); (iterate 3 refine aA8 yq ?_); refine aA1 zq (aA1 zq (aA8 yq (aA8 yq (aA1 zq (aD (aH Z (aC (aB (aA1 zq (aD (aS ?_))))))))))));refine aA5 wq O fun w hs => ?_
   exact ⟨by rw [if_neg (fun e => h1 e.1)]; rfl, hs.chg0⟩
 ·have e0 : dI L a b = chkG L := by
   unfold dI;rw [if_pos h0]
  rw [e0];(refine aA1 zq (aD (aC (aB (aA1 zq (aB0 xq J (aD (aH Z (aC (aB (aA1 zq (aA1 zq ?_))))))))))); refine aD (aS ?_));refine aA5 wq O fun w hs => ?_
  exact ⟨Z, hs.chg0⟩
theorem guarded_no (w : World) (lo hi : Nat) (L : List Hd) (v : Value) (a b : Int) (h : RdH w lo hi v L) (hlen : L.length ≤ maxLen) (h0 : dI L a b ≠ 0) : Ca Tryz.prog 101 [v, .int .i64 a, .int .i64 b] w fun x w' => x = .tuple #[.slice none 0 0, .slice none 0 0, .int .i64 (dI L a b)] ∧ Chg [] w w' := by
 refine cN (Sat.nil w M0) Tryz.func101 Z (by simp [Tryz.ntmps101]) ?_;(refine aC (aB ?_); (iterate 3 refine aA1 zq ?_); refine aD (aC (aC (aB ?_))); (iterate 3 refine aA1 zq ?_));refine aI (val := .int .i64 (dI L a b)) U Z Z Z Z (fun w hs => ?_) ?_; exact gG w lo hi L v a b (RdE.keep h hs.chg0) hlen;(refine aA1 zq (aD (aC (aB (aA1 zq (aB0 xq J (aD (aH Z (aC (aB ?_))))))))); (iterate 4 refine aA1 zq ?_); refine aD (aS ?_));refine aA5 wq O fun w hs => ?_;exact ⟨Z, hs.chg0⟩
def GrdR (L : List Hd) (a b : Int) (hs : List Nat) (ms : List Int) (e : Int) : Prop := (e = 0 ∧ Lk L b a hs ms b) ∨ (e = 6 ∧ hs = [] ∧ ms = [] ∧ ¬ Gd L a b)
theorem guarded_ok (w : World) (lo hi : Nat) (L : List Hd) (v : Value) (a b : Int) (h : RdH w lo hi v L) (hn : L.length ≤ 39) (h0 : SpOk L a b) : Ca Tryz.prog 101 [v, .int .i64 a, .int .i64 b] w fun x w' => ∃ y : (Value × List Nat) × (Value × List Int) × Int, (x = .tuple #[y.1.1, y.2.1.1, .int .i64 y.2.2] ∧ GrdR L a b y.1.2 y.2.1.2 y.2.2) ∧ Sat w M0 [.ow y.1.1 3 1 y.1.2.length (aX (nI y.1.2)), .ow y.2.1.1 3 1 y.2.1.2.length (aX y.2.1.2)] w' := by
 have ha := h0.ra;have hb := h0.rb;refine cN (Sat.nil w M0) Tryz.func101 Z (by simp [Tryz.ntmps101]) ?_;(refine aC (aB ?_); (iterate 3 refine aA1 zq ?_); refine aD (aC (aC (aB ?_))); (iterate 3 refine aA1 zq ?_));refine aI (val := .int .i64 0) U Z Z Z Z (fun w hs => ?_) ?_; exact by have := gG w lo hi L v a b (RdE.keep h hs.chg0) (by simp only [maxLen]; omega); rw [eJ.2 h0] at this; exact this
 (refine aA1 zq (aD (aC (aB (aA1 zq (aA6 xq J (aD (aG Z (aK (aC (aB ?_)))))))))); (iterate 3 refine aA1 zq ?_))
 refine bC (β := (Value × List Nat) × (Value × List Int) × Int) U [] _ M0 Z Z Z Z (Sp.refl _) qC (fun w' hs => links_ca w' lo hi v L (RdE.keep h hs.chg0) (fun x hx => by have := h0.g.all x hx; omega) hn a b ha J) ?_;rintro ⟨⟨u, hl⟩, ⟨u2, ms⟩, e⟩ _ ⟨rfl, hlk⟩;dsimp only [List.cons_append, List.nil_append] at hlk ⊢;have hle := hlk.le;by_cases he : e < b
 ·(refine aA1 zq ?_; (iterate 3 refine aB5 xq ?_); (iterate 3 refine aA1 zq ?_); refine aD (aC (aC (aB (aA1 zq (aA1 zq (aB3 xq J (aD (aH Z (aC (aB ?_)))))))))); (iterate 3 refine aA1 zq ?_); refine aD (aS ?_))
  refine aA5 wq O fun w hs => ?_;exact ⟨((.slice none 0 0, []), (.slice none 0 0, []), 6), ⟨Z, .inr ⟨Z, Z, Z, fun hg => by have := (hlk.full J).2 hg; omega⟩⟩, Sat.ownil (Sat.ownil (hs.sp (H' := []) O) 3 1) 3 1⟩
 ·obtain rfl : e = b := by omega
  (refine aA1 zq ?_; (iterate 3 refine aB5 xq ?_); (iterate 3 refine aA1 zq ?_); refine aD (aC (aC (aB (aA1 zq (aA1 zq (aB4 xq J (aD (aG Z (aK (aC (aB ?_))))))))))); (iterate 5 refine aA1 zq ?_); refine aD (aS ?_))
  refine aA5 wq O fun w hs => ?_;exact ⟨((u, hl), (u2, ms), 0), ⟨Z, .inl ⟨Z, hlk⟩⟩, hs.sp O⟩
theorem chn_no (w : World) (lo hi : Nat) (L : List Hd) (v : Value) (a b : Int) (h : RdH w lo hi v L) (hlen : L.length ≤ maxLen) (h0 : dI L a b ≠ 0) : Ca Tryz.prog 21 [v, .int .i64 a, .int .i64 b] w fun x w' => x = .tuple #[.slice none 0 0, .int .i64 (dI L a b)] ∧ Chg [] w w' := by
 refine cN (Sat.nil w M0) Tryz.func21 Z (by simp [Tryz.ntmps21]) ?_;(refine aC (aB (aA1 zq (aA1 zq (aD (aC (aB ?_)))))); (iterate 3 refine aA1 zq ?_));refine aI (val := .tuple #[.slice none 0 0, .slice none 0 0, .int .i64 (dI L a b)]) U Z Z Z Z (fun w hs => ?_) ?_; exact guarded_no w lo hi L v a b (RdE.keep h hs.chg0) hlen h0;(refine aA1 zq ?_; (iterate 3 refine aB5 xq ?_); (iterate 3 refine aA1 zq ?_); refine aD (aC (aB (aA1 zq ?_))));refine aI (val := .tuple #[]) U Z Z Z Z (fun w hs => ?_) ?_; exact sort0_ca w none 0;(refine aD (aC (aB ?_)); (iterate 4 refine aA1 zq ?_); refine aD (aS ?_));refine aA5 wq O fun w hs => ?_;exact ⟨Z, hs.chg0⟩
def ChnR (L : List Hd) (a b : Int) (C : List Int) (e : Int) : Prop := (e = 0 ∧ ∃ hs ms, Lk L b a hs ms b ∧ C.Perm (nI hs) ∧ C.Pairwise (· ≤ ·)) ∨ (e = 6 ∧ C = [] ∧ ¬ Gd L a b)
theorem chn_ok (w : World) (lo hi : Nat) (L : List Hd) (v : Value) (a b : Int) (h : RdH w lo hi v L) (hn : L.length ≤ 39) (h0 : SpOk L a b) : Ca Tryz.prog 21 [v, .int .i64 a, .int .i64 b] w fun x w' => ∃ y : (Value × List Int) × Int, (x = .tuple #[y.1.1, .int .i64 y.2] ∧ ChnR L a b y.1.2 y.2) ∧ Sat w M0 [.ow y.1.1 3 1 y.1.2.length (aX y.1.2)] w' := by
 refine cN (Sat.nil w M0) Tryz.func21 Z (by simp [Tryz.ntmps21]) ?_;(refine aC (aB (aA1 zq (aA1 zq (aD (aC (aB ?_)))))); (iterate 3 refine aA1 zq ?_));refine bC (β := (Value × List Nat) × (Value × List Int) × Int) U [] _ M0 Z Z Z Z (Sp.refl _) qC (fun w' hs => guarded_ok w' lo hi L v a b (RdE.keep h hs.chg0) hn h0) ?_;rintro ⟨⟨u, hl⟩, ⟨u2, ms⟩, e⟩ _ ⟨rfl, hg⟩;dsimp only [List.cons_append, List.nil_append] at hg ⊢
 have hl3 : hl.length ≤ 1000000 := by
  rcases hg with ⟨_, hk⟩ | ⟨_, rfl, _⟩
  ·have := (hk.min (C := L) (fun _ h => h) ((hk.full (by have := h0.rb; omega)).1 rfl));omega
  ·simp
 rcases hl with _ | ⟨i, hl⟩
 ·refine cU (fun w hs => hs.slice2 (v := u) O) ?_;rintro ⟨ua, uc, rfl⟩;(refine aA1 zq ?_; (iterate 3 refine aB5 xq ?_); (iterate 3 refine aA1 zq ?_); refine aD (aC (aB (aA1 zq ?_))));refine aI (val := .tuple #[]) U Z Z Z Z (fun w hs => ?_) ?_; exact sort0_ca w ua uc;(refine aD (aC (aB ?_)); (iterate 4 refine aA1 zq ?_); refine aD (aS ?_));refine aA5 wq O fun w hs => ?_;refine ⟨((.slice ua 0 uc, []), e), ⟨Z, ?_⟩, hs.sp O⟩
  rcases hg with ⟨h1, h2⟩ | ⟨h1, _, _, h2⟩
  ·exact .inl ⟨h1, [], ms, h2, .nil, .nil⟩
  ·exact .inr ⟨h1, Z, h2⟩
 ·generalize hh : i :: hl = hs0 at hg hl3 ⊢;have hpos : 0 < hs0.length := by rw [← hh]; simp
  refine cU (fun w hs => hs.ownSome (v := u) O hpos) ?_;rintro ⟨g, c, rfl⟩;(refine aA1 zq ?_; (iterate 3 refine aB5 xq ?_); (iterate 3 refine aA1 zq ?_); refine aD (aC (aB (aA1 zq ?_))))
  refine bC (β := List Int) (ψ := fun C v => v = .tuple #[] ∧ C.Perm (nI hs0) ∧ C.Pairwise (· ≤ ·)) (L' := fun C => [.ow (aB9 g hs0.length c) 3 1 hs0.length (aX C)]) U [.ow (aB9 g hs0.length c) 3 1 hs0.length (aX (nI hs0))] _ (fun x => x = g) rfl rfl rfl rfl (Sp.cons O (Sp.refl _)) (fun x hx => ⟨_, .head _, by subst hx; rfl⟩) (fun w' hs => by
   have := sort_ca w' g c (nI hs0) (by rw [eC]; exact hl3) (by rw [eC]; exact hs.all _ (.head _));rw [eC] at this;exact this) ?_
  rintro C _ ⟨rfl, hp, hso⟩;have hCl : C.length = hs0.length := by rw [hp.length_eq, eC]
  dsimp only [List.cons_append, List.nil_append];(refine aD (aC (aB ?_)); (iterate 4 refine aA1 zq ?_); refine aD (aS ?_));refine aA5 wq O fun w hs => ?_
  refine ⟨((aB9 g hs0.length c, C), e), ⟨Z, ?_⟩, by dsimp only; rw [hCl]; exact hs.sp O⟩;rcases hg with ⟨h1, h2⟩ | ⟨_, h2, _⟩
  ·exact .inl ⟨h1, hs0, ms, h2, hp, hso⟩
  ·rw [h2] at hpos;simp at hpos
theorem mrk_no (w : World) (lo hi : Nat) (L : List Hd) (v : Value) (a b : Int) (h : RdH w lo hi v L) (hlen : L.length ≤ maxLen) (h0 : dI L a b ≠ 0) : Ca Tryz.prog 78 [v, .int .i64 a, .int .i64 b] w fun x w' => x = .tuple #[.slice none 0 0, .int .i64 (dI L a b)] ∧ Chg [] w w' := by
 refine cN (Sat.nil w M0) Tryz.func78 Z (by simp [Tryz.ntmps78]) ?_;(refine aC (aB (aA1 zq (aA1 zq (aD (aC (aB ?_)))))); (iterate 3 refine aA1 zq ?_));refine aI (val := .tuple #[.slice none 0 0, .slice none 0 0, .int .i64 (dI L a b)]) U Z Z Z Z (fun w hs => ?_) ?_; exact guarded_no w lo hi L v a b (RdE.keep h hs.chg0) hlen h0;(refine aA1 zq ?_; (iterate 3 refine aB5 xq ?_); (iterate 3 refine aA1 zq ?_); refine aD (aC (aB ?_)); (iterate 4 refine aA1 zq ?_); refine aD (aS ?_));refine aA5 wq O fun w hs => ?_;exact ⟨Z, hs.chg0⟩
theorem mrk_ok (w : World) (lo hi : Nat) (L : List Hd) (v : Value) (a b : Int) (h : RdH w lo hi v L) (hn : L.length ≤ 39) (h0 : SpOk L a b) : Ca Tryz.prog 78 [v, .int .i64 a, .int .i64 b] w fun x w' => ∃ y : (Value × List Int) × Int, (x = .tuple #[y.1.1, .int .i64 y.2] ∧ ∃ hs, GrdR L a b hs y.1.2 y.2) ∧ Sat w M0 [.ow y.1.1 3 1 y.1.2.length (aX y.1.2)] w' := by
 refine cN (Sat.nil w M0) Tryz.func78 Z (by simp [Tryz.ntmps78]) ?_;(refine aC (aB (aA1 zq (aA1 zq (aD (aC (aB ?_)))))); (iterate 3 refine aA1 zq ?_));refine bC (β := (Value × List Nat) × (Value × List Int) × Int) U [] _ M0 Z Z Z Z (Sp.refl _) qC (fun w' hs => guarded_ok w' lo hi L v a b (RdE.keep h hs.chg0) hn h0) ?_;rintro ⟨⟨u, hl⟩, ⟨u2, ms⟩, e⟩ _ ⟨rfl, hg⟩;dsimp only [List.cons_append, List.nil_append] at hg ⊢;(refine aA1 zq ?_; (iterate 3 refine aB5 xq ?_); (iterate 3 refine aA1 zq ?_); refine aD (aC (aB ?_)); (iterate 4 refine aA1 zq ?_); refine aD (aS ?_));refine aA5 wq O fun w hs => ?_;exact ⟨((u2, ms), e), ⟨Z, hl, hg⟩, hs.sp O⟩
theorem gap_no (w : World) (lo hi : Nat) (L : List Hd) (v : Value) (a b : Int) (h : RdH w lo hi v L) (hlen : L.length ≤ maxLen) (h0 : dI L a b ≠ 0) : Ca Tryz.prog 72 [v, .int .i64 a, .int .i64 b] w fun x w' => x = .tuple #[.int .i64 0, .int .i64 (dI L a b)] ∧ Chg [] w w' := by
 refine cN (Sat.nil w M0) Tryz.func72 Z (by simp [Tryz.ntmps72]) ?_;(refine aC (aB (aA1 zq (aA1 zq (aD (aC (aC (aB ?_))))))); (iterate 3 refine aA1 zq ?_));refine aI (val := .int .i64 (dI L a b)) U Z Z Z Z (fun w hs => ?_) ?_; exact gG w lo hi L v a b (RdE.keep h hs.chg0) hlen;(refine aA1 zq (aD (aC (aB (aA1 zq (aB0 xq J (aD (aH Z (aC (aB ?_))))))))); (iterate 3 refine aA1 zq ?_); refine aD (aS ?_));refine aA5 wq O fun w hs => ?_;exact ⟨Z, hs.chg0⟩
def GapR (L : List Hd) (a b : Int) (g e : Int) : Prop := (e = 0 ∧ (a ≤ g ∧ g < b) ∧ Gd L a g ∧ ∀ x ∈ L, x.cov g = false) ∨ (e = 6 ∧ g = 0 ∧ Gd L a b)
theorem gap_ok (w : World) (lo hi : Nat) (L : List Hd) (v : Value) (a b : Int) (h : RdH w lo hi v L) (hn : L.length ≤ 39) (h0 : SpOk L a b) : Ca Tryz.prog 72 [v, .int .i64 a, .int .i64 b] w fun x w' => ∃ y : Int × Int, (x = .tuple #[.int .i64 y.1, .int .i64 y.2] ∧ GapR L a b y.1 y.2) ∧ Sat w M0 [] w' := by
 have ha := h0.ra;have hb := h0.rb;refine cN (Sat.nil w M0) Tryz.func72 Z (by simp [Tryz.ntmps72]) ?_;(refine aC (aB (aA1 zq (aA1 zq (aD (aC (aC (aB ?_))))))); (iterate 3 refine aA1 zq ?_));refine aI (val := .int .i64 0) U Z Z Z Z (fun w hs => ?_) ?_; exact by have := gG w lo hi L v a b (RdE.keep h hs.chg0) (by simp only [maxLen]; omega); rw [eJ.2 h0] at this; exact this
 (refine aA1 zq (aD (aC (aB (aA1 zq (aA6 xq J (aD (aG Z (aK (aC (aB ?_)))))))))); (iterate 3 refine aA1 zq ?_))
 refine bC (β := (Value × List Nat) × (Value × List Int) × Int) U [] _ M0 Z Z Z Z (Sp.refl _) qC (fun w' hs => links_ca w' lo hi v L (RdE.keep h hs.chg0) (fun x hx => by have := h0.g.all x hx; omega) hn a b ha J) ?_;rintro ⟨⟨u, hl⟩, ⟨u2, ms⟩, e⟩ _ ⟨rfl, hlk⟩;dsimp only [List.cons_append, List.nil_append] at hlk ⊢;have hle := hlk.le;by_cases he : e = b
 ·subst he;(refine aA1 zq ?_; (iterate 3 refine aB5 xq ?_); (iterate 3 refine aA1 zq ?_); refine aD (aC (aC (aB (aA1 zq (aA1 zq (aB2 xq J (aD (aH Z (aC (aB (aA1 zq ?_))))))))))); refine aA1 zq (aD (aS ?_)));refine aA5 wq O fun w hs => ?_
  exact ⟨(0, 6), ⟨Z, .inr ⟨Z, Z, (hlk.full J).1 Z⟩⟩, hs.sp O⟩
 ·(refine aA1 zq ?_; (iterate 3 refine aB5 xq ?_); (iterate 3 refine aA1 zq ?_); refine aD (aC (aC (aB (aA1 zq (aA1 zq (cZ U Z Z Z J (aD (aG Z (aK (aC (aB ?_))))))))))); (iterate 3 refine aA1 zq ?_); refine aD (aS ?_))
  refine aA5 wq O fun w hs => ?_;exact ⟨(e, 0), ⟨Z, .inl ⟨Z, by omega, hlk.gd.sub hlk.sub, hlk.end J⟩⟩, hs.sp O⟩
def mkK (L : List Hd) (a b : Int) (M : List Int) (k : Nat) : Bool := (List.range k).all fun i => inB (M.getD i 0) a (b - 1) && (decide (i = 0) || (decide (M.getD (i - 1) 0 < M.getD i 0) && !(L.any fun h => h.cov (M.getD (i - 1) 0) && h.cov (M.getD i 0))))
theorem mkK_succ (L : List Hd) (a b : Int) (M : List Int) (k : Nat) : mkK L a b M (k + 1) = (mkK L a b M k && (inB (M.getD k 0) a (b - 1) && (decide (k = 0) || (decide (M.getD (k - 1) 0 < M.getD k 0) && !(L.any fun h => h.cov (M.getD (k - 1) 0) && h.cov (M.getD k 0)))))) := by
 unfold mkK;rw [List.range_succ, List.all_append];simp
theorem mkK_false {L : List Hd} {a b : Int} {M : List Int} {k n : Nat} (h : mkK L a b M (k + 1) = false) (hk : k < n) : mkK L a b M n = false := by
 unfold mkK at *;rw [List.all_eq_false] at *;obtain ⟨x, h1, h2⟩ := h;exact ⟨x, List.mem_range.2 (by have := List.mem_range.1 h1; omega), h2⟩
theorem mkK_iff {L : List Hd} {a b : Int} {M : List Int} : mkK L a b M M.length = true ↔ Mk L a b M := by
 have hget : ∀ i (hi : i < M.length), M.getD i 0 = M[i] := fun i hi => by rw [List.getD_eq_getElem?_getD, List.getElem?_eq_getElem hi, Option.getD_some]
 unfold mkK;rw [List.all_eq_true];constructor
 ·intro h
  have h1 : ∀ i (hi : i < M.length), (a ≤ M[i] ∧ M[i] ≤ b - 1) := fun i hi => by
   have := h i (List.mem_range.2 hi);rw [Bool.and_eq_true, bV, hget i hi] at this;exact this.1
  have h2 : ∀ i (hi : i + 1 < M.length), M[i] < M[i + 1] ∧ ∀ x ∈ L, ¬ (x.cov M[i] = true ∧ x.cov M[i + 1] = true) := fun i hi => by
   have := h (i + 1) (List.mem_range.2 hi);rw [Bool.and_eq_true, Nat.add_sub_cancel, hget i J, hget (i + 1) hi] at this;have h3 := this.2;simp only [Bool.or_eq_true, decide_eq_true_iff, Bool.and_eq_true, Bool.not_eq_true', List.any_eq_false] at h3;rcases h3 with h3 | h3
   ·omega
   ·exact ⟨h3.1, fun x hx hc => h3.2 x hx (by rw [hc.1, hc.2]; simp)⟩
  have h3 : ∀ d i (hi : i + d + 1 < M.length), M[i] < M[i + d + 1] := fun d => by
   induction d with
   | zero => exact fun i hi => (h2 i hi).1
   | succ d ih => exact fun i hi => Int.lt_trans (ih i J) (h2 (i + d + 1) hi).1
  refine ⟨fun m hm => ?_, List.pairwise_iff_getElem.2 fun i j hi hj hij => ?_, List.pairwise_iff_getElem.2 fun i j hi hj hij x hx hc => ?_⟩
  ·obtain ⟨i, hi, rfl⟩ := List.mem_iff_getElem.1 hm;have := h1 i hi;omega
  ·obtain ⟨d, rfl⟩ : ∃ d, j = i + d + 1 := ⟨j - i - 1, by omega⟩;exact h3 d i hj
  ·have h4 := h2 i J;refine h4.2 x hx ⟨hc.1, ?_⟩;obtain ⟨d, rfl⟩ : ∃ d, j = i + d + 1 := ⟨j - i - 1, by omega⟩;have h5 := Hd.cov_iff.1 hc.1;have h6 := Hd.cov_iff.1 hc.2;refine Hd.cov_iff.2 ⟨by have := h4.1; omega, ?_⟩;cases d with
   | zero => exact h6.2
   | succ d =>
    have := h3 d (i + 1) J;have e : M[i + 1 + d + 1]'J = M[i + (d + 1) + 1] := by congr 1; omega
    rw [e] at this;omega
 ·intro h i hi;have hi := List.mem_range.1 hi;rw [Bool.and_eq_true, bV, hget i hi];refine ⟨by have := h.bd _ (List.getElem_mem hi); omega, ?_⟩;cases i with
  | zero => simp
  | succ i =>
   rw [Nat.add_sub_cancel, hget i J];have h1 := List.pairwise_iff_getElem.1 h.inc i (i + 1) J hi J;have h2 := List.pairwise_iff_getElem.1 h.one i (i + 1) J hi J;simp only [Bool.or_eq_true, decide_eq_true_iff, Bool.and_eq_true, Bool.not_eq_true', List.any_eq_false];exact .inr ⟨h1, fun x hx hc => h2 x hx (by simpa using hc)⟩
def pCov2 (x y : Int) : Value → Bool
 | .agg cs => match cs.toList with
  | [.int _ a, .int _ b, .int _ c] => (Hd.mk a b c).cov x && (Hd.mk a b c).cov y
  | _ => false
 | _ => false
theorem pCov2_any (x y : Int) (l : List Hd) : (l.map hdV).any (pCov2 x y) = l.any fun h => h.cov x && h.cov y := by
 rw [List.any_map]
 rfl
theorem marks1_p (w : World) (l : List Hd) (x y : Int) (b1 b2 t1 t2 : Nat) (h1 : Blk w b1 [.int .i64 x] t1) (h2 : Blk w b2 [.int .i64 y] t2) : PredAt Tryz.prog tab w (.func (.func 144) #[] #[aC0 b1, aC0 b2]) (l.map hdV) (pCov2 x y) := by
 refine ⟨_, _, _, Z, Z, fun w' hw' z hz => ?_⟩;have h1 := h1.keep hw';have h2 := h2.keep hw';obtain ⟨⟨p, q, r⟩, hy, rfl⟩ := List.mem_map.1 hz;have hagg : hdV ⟨p, q, r⟩ = .agg [.int .i64 p, .int .i64 q, .int .i64 r].toArray := rfl;refine cN (Sat.nil w' M0) Tryz.func144 Z (by simp [Tryz.ntmps144]) ?_;(refine aC (aB ?_));refine bR Z Z (fun b3 => ?_);(refine aA1 zq (aD (aC (aB ?_))); refine aP U Z Z Z ?_; refine gA U Z Z Z (by assumption) (by rfl) ?_);refine aI (val := .bool ((Hd.mk p q r).cov x)) U Z Z Z Z (fun w hs => ?_) ?_; exact covers_ca ⟨p, q, r⟩ x w;cases hx : (Hd.mk p q r).cov x with
 | true =>
  (refine aA1 zq (aE Z ?_); refine aP U Z Z Z ?_; refine aE Z ?_; refine gA U Z Z Z (by assumption) (by rfl) ?_; refine aE Z ?_)
  refine aI (val := .bool ((Hd.mk p q r).cov y)) U Z Z Z Z (fun w hs => ?_) ?_; exact covers_ca ⟨p, q, r⟩ y w;(refine aA1 zq (aA1 zq (aD (aS ?_))));refine aA5 wq O fun w hs => ?_;exact ⟨by simp [Eng.retV, pCov2, hx], hs.chg0⟩
 | false =>
  (refine aA1 zq ?_; (iterate 3 refine aA8 yq ?_); refine aA1 zq (aA1 zq (aD (aS ?_))))
  refine aA5 wq O fun w hs => ?_;exact ⟨by simp [Eng.retV, pCov2, hx], hs.chg0⟩
theorem mks_no (w : World) (lo hi : Nat) (L : List Hd) (v mv : Value) (a b : Int) (h : RdH w lo hi v L) (hlen : L.length ≤ maxLen) (h0 : dI L a b ≠ 0) : Ca Tryz.prog 76 [v, .int .i64 a, .int .i64 b, mv] w fun x w' => x = .tuple #[.bool false, .int .i64 (dI L a b)] ∧ Chg [] w w' := by
 refine cN (Sat.nil w M0) Tryz.func76 Z (by simp [Tryz.ntmps76]) ?_;(refine aC (aB (aA1 zq (aA1 zq (aD (aC (aC (aB ?_))))))); (iterate 3 refine aA1 zq ?_));refine aI (val := .int .i64 (dI L a b)) U Z Z Z Z (fun w hs => ?_) ?_; exact gG w lo hi L v a b (RdE.keep h hs.chg0) hlen;(refine aA1 zq (aD (aC (aB (aA1 zq (aB0 xq J (aD (aH Z (aC (aB ?_))))))))); (iterate 3 refine aA1 zq ?_); refine aD (aS ?_));refine aA5 wq O fun w hs => ?_;exact ⟨Z, hs.chg0⟩
theorem mks_ok (w : World) (lo hi lo2 hi2 : Nat) (L : List Hd) (v mv : Value) (M : List Int) (a b : Int) (h : RdH w lo hi v L) (hm : RdI w lo2 hi2 mv M) (hM : M.length ≤ 1000000) (h0 : SpOk L a b) : Ca Tryz.prog 76 [v, .int .i64 a, .int .i64 b, mv] w fun x w' => x = .tuple #[.bool (mkK L a b M M.length), .int .i64 0] ∧ Chg [] w w' := by
 have ha := h0.ra;have hb := h0.rb;have hn := h0.g.n30;obtain ⟨ma, mc, rfl, hma⟩ := RdI.outI hm;refine cN (Sat.nil w M0) Tryz.func76 Z (by simp [Tryz.ntmps76]) ?_;(refine aC (aB (aA1 zq (aA1 zq (aD (aC (aC (aB ?_))))))); (iterate 3 refine aA1 zq ?_));refine aI (val := .int .i64 0) U Z Z Z Z (fun w hs => ?_) ?_; exact by have := gG w lo hi L v a b (RdE.keep h hs.chg0) (by simp only [maxLen]; omega); rw [eJ.2 h0] at this; exact this
 (refine aA1 zq (aD (aC (aB (aA1 zq (aA6 xq J (aD (aG Z (aK (aC (aC (aB ?_))))))))))); (iterate 3 refine aA1 zq ?_); refine aD (aM ?_))
 refine bM (σ := Nat) (fun k => k ≤ M.length ∧ mkK L a b M k = true) (fun k => M.length - k) (fun k => [(0, v), (1, .int .i64 a), (2, .int .i64 b), (3, .slice ma M.length mc), (21, .slice ma M.length mc), (22, .int .i64 M.length), (23, .int .i64 k)]) (fun _ => []) 0 ⟨by omega, Z⟩ ⟨Z, Z, Z, Z, Z, Z, Z, trivial⟩ O ?_;rintro k ⟨hk, hmk⟩ K hK;(refine aC (aB (aA1 zq (aD (aC ?_)))));refine dN Z (fun hc => ?_) (fun hc => ?_)
 ·have hk2 : k < M.length := by omega
  clear hc;have hsu := mkK_succ L a b M k;rw [hmk, Bool.true_and] at hsu;have hget : ∀ i (hi : i < M.length), M.getD i 0 = M[i] := fun i hi => by rw [List.getD_eq_getElem?_getD, List.getElem?_eq_getElem hi, Option.getD_some]
  rw [hget k hk2] at hsu;obtain ⟨gm, om, rfl⟩ := hma J;(refine aK (aC (aM (aC (aB (aA1 zq ?_))))));refine aA7 Wa J J ?_;refine bI (v := .int .i64 M[k]) U Z Z Z (fun w hs => RdI.at (RdE.keep hm hs.chg0) k hk2) ?_;refine bF zero3 Z (fun b12 => ?_);(refine aA1 zq ?_; refine eM U Z Z Z Z O ?_; refine aD (aC (aC (aB ?_))); refine aJ U Z Z Z ?_; refine aA1 zq (aA1 zq (aA4 uq J J ?_)));refine aI (val := .bool (inB M[k] a (b - 1))) U Z Z Z Z (fun w hs => ?_) ?_; exact eZ M[k] a (b - 1) w;cases hin : inB M[k] a (b - 1) with
  | false =>
   rw [hin, Bool.false_and] at hsu;rw [mkK_false hsu hk2];(refine aA1 zq (aD (aH Z (aC (aB (aA1 zq (aA1 zq (aD (aS ?_)))))))));refine aA5 wq O fun w hs => ?_
   exact ⟨Z, hs.chg0⟩
  | true =>
   rw [hin, Bool.true_and] at hsu;by_cases hk0 : k = 0
   ·subst hk0;(refine aA1 zq (aD (aG Z (aK (aC (aC (aB (aA1 zq (aB2 xq J (aD (aH Z (bH _ Z ?_))))))))))); refine aB (aA4 uq J J (aA1 zq (aD ?_))));exact hK (0 + 1) _ _ ⟨by omega, by rw [hsu]; rfl⟩ J ⟨Z, Z, Z, Z, Z, Z, Z, trivial⟩ O
   ·rw [decide_eq_false hk0, Bool.false_or] at hsu;obtain ⟨j, rfl⟩ : ∃ j, k = j + 1 := ⟨k - 1, by omega⟩;have hj : j < M.length := by omega
    rw [Nat.add_sub_cancel, hget j hj] at hsu;(refine aA1 zq (aD (aG Z (aK (aC (aC (aB (aA1 zq (cZ U Z Z Z J (aD (aG Z (aK ?_))))))))))); refine aC (aB (aA1 zq (aA1 zq (aA4 uq J J ?_)))));refine aA7 Wa J J ?_
    refine bI (v := .int .i64 M[j]) U Z Z Z (fun w hs => by
     have := RdI.at (RdE.keep hm hs.chg0) j hj;rw [show (((j + 1 : Nat) : Int) - 1).toNat = j from by omega];exact this) ?_
    refine bF zero3 Z (fun b13 => ?_);by_cases hlt : M[j] < M[j + 1]
    ·rw [decide_eq_true hlt, Bool.true_and] at hsu;(refine eM U Z Z Z Z O ?_; refine aD (aC (aB ?_)); (iterate 2 refine aJ U Z Z Z ?_); refine gO U Z Z Z J (aA1 zq (aE Z (aA1 zq (aE Z (aA1 zq (aE Z ?_)))))));refine aI (val := .bool (L.any fun h => h.cov M[j] && h.cov M[j + 1])) U Z Z Z Z (fun w hs => ?_) ?_; exact by have := conF_hold w lo hi v _ (L.map hdV) (pCov2 M[j] M[j + 1]) (RdE.keep h hs.chg0) (hdV_agg L) (by rw [List.length_map]; omega) (marks1_p w L M[j] M[j + 1] b13 b12 _ _ (hs.blk (b := b13) O) (hs.blk (b := b12) O)); rw [pCov2_any] at this; exact this
     cases hany : (L.any fun h => h.cov M[j] && h.cov M[j + 1]) with
     | true =>
      rw [hany] at hsu;rw [mkK_false hsu hk2];(refine aA1 zq (aD (aH Z (aC (aB (aA1 zq (aA1 zq (aD (aS ?_)))))))));refine aA5 wq O fun w hs => ?_
      exact ⟨Z, hs.chg0⟩
     | false =>
      rw [hany] at hsu;(refine aA1 zq (aD (aG Z (aK (bK (aB (aA4 uq J J (aA1 zq (aD ?_)))))))));exact hK (j + 1 + 1) _ _ ⟨by omega, hsu⟩ J ⟨Z, Z, Z, Z, Z, Z, Z, trivial⟩ O
    ·rw [decide_eq_false hlt, Bool.false_and] at hsu;rw [mkK_false hsu hk2];(refine eM U Z Z Z Z O ?_; refine aD (aC (aB ?_)); (iterate 2 refine aJ U Z Z Z ?_); refine jU U Z Z Z J (aA1 zq ?_); (iterate 3 refine aA8 yq ?_); refine aA1 zq (aD (aH Z (aC (aB (aA1 zq (aA1 zq (aD (aS ?_)))))))));refine aA5 wq O fun w hs => ?_
     exact ⟨Z, hs.chg0⟩
 ·obtain rfl : k = M.length := by omega
  rw [hmk];(refine bH _ Z (aC (aB (aA1 zq (aA1 zq (aD (aS ?_)))))));refine aA5 wq O fun w hs => ?_
  exact ⟨Z, hs.chg0⟩
def pI (row : List Int) : Bool := inB row.length 1 21 && true
def rngAB (row : List Int) : Bool := row.all fun n => inB n 0 1000
def mN (l : List Int) (u : Nat) : Bool := decide (l.getD u 0 ≤ l.getD (u - 1) 0) && (decide (u ≤ 1) || decide (l.getD (u - 1) 0 - l.getD u 0 ≤ l.getD (u - 2) 0 - l.getD (u - 1) 0))
def ordAR (l : List Int) (k : Nat) : Bool := (List.range k).all fun u => decide (u = 0) || mN l u
def pY (A : List (List Int)) (k : Nat) : Bool := (List.range k).all fun i => ordAR (A.getD i []) (A.getD i []).length
def fV (A : List (List Int)) : Int := if (inB A.length 1 8 && A.all pI) = false then 2 else if A.all rngAB = false then 3 else if pY A A.length = false then 4 else 0
theorem getA {A : List (List Int)} {i : Nat} (hi : i < A.length) : A.getD i [] = A[i] := by rw [List.getD_eq_getElem?_getD, List.getElem?_eq_getElem hi, Option.getD_some]
theorem getI {l : List Int} {i : Nat} (hi : i < l.length) : l.getD i 0 = l[i] := by rw [List.getD_eq_getElem?_getD, List.getElem?_eq_getElem hi, Option.getD_some]
theorem ordAR_succ (l : List Int) (k : Nat) : ordAR l (k + 1) = (ordAR l k && (decide (k = 0) || mN l k)) := by
 unfold ordAR;rw [List.range_succ, List.all_append];simp
theorem ordAA_succ (A : List (List Int)) (k : Nat) : pY A (k + 1) = (pY A k && ordAR (A.getD k []) (A.getD k []).length) := by
 unfold pY;rw [List.range_succ, List.all_append];simp
theorem iA {p : Nat → Bool} {k n : Nat} (h : p k = false) (hk : k < n) : (List.range n).all p = false := List.all_eq_false.2 ⟨k, List.mem_range.2 hk, by rw [h]; simp⟩
theorem dP {A : List (List Int)} : fV A = 0 ↔ AimOk A := by
 unfold fV;constructor
 ·intro h;split at h
  ·omega
  rename_i h1
  split at h
  ·omega
  rename_i h2
  split at h
  ·omega
  rename_i h3
  simp only [Bool.not_eq_false, Bool.and_eq_true] at h1 h2 h3;have n1 := bV.1 h1.1
  have rw_ : ∀ i, i < A.length → 1 ≤ amW A i ∧ amW A i ≤ 21 := fun i hi => by
   have := List.all_eq_true.1 h1.2 A[i] (List.getElem_mem hi);simp only [pI, Bool.and_true] at this;have := bV.1 this;unfold amW;rw [getA hi];omega
  have st : ∀ i u, i < A.length → 0 < u → u < amW A i → mN (A.getD i []) u = true := fun i u hi hu hw => by
   have h4 := List.all_eq_true.1 h3 i (List.mem_range.2 hi);have h5 := List.all_eq_true.1 h4 u (List.mem_range.2 hw);simp only [Bool.or_eq_true, decide_eq_true_iff] at h5;rcases h5 with h5 | h5
   ·omega
   ·exact h5
  refine ⟨by omega, by omega, rw_, fun i w hi hw => ?_, fun i w hi hw => ?_, fun i w hi hw => ?_⟩
  ·unfold amW at hw;have h4 := List.all_eq_true.1 h2 A[i] (List.getElem_mem hi);rw [getA hi] at hw;have h5 := List.all_eq_true.1 h4 A[i][w] (List.getElem_mem hw);have := bV.1 h5;unfold amA;rw [getA hi, getI hw];exact this
  ·have := st i (w + 1) hi J hw;simp only [mN, Nat.add_sub_cancel, Bool.and_eq_true, decide_eq_true_iff] at this;exact this.1
  ·have := st i (w + 2) hi J hw;simp only [mN, Nat.add_sub_cancel, Bool.and_eq_true, Bool.or_eq_true, decide_eq_true_iff] at this;rw [show w + 2 - 1 = w + 1 from rfl] at this;unfold amA;rcases this.2 with h | h
   ·omega
   ·exact h
 ·intro h;have h1 := h.n1;have h2 := h.n8;rw [if_neg, if_neg, if_neg]
  ·simp only [Bool.not_eq_false];refine List.all_eq_true.2 fun i hi => List.all_eq_true.2 fun u hu => ?_
   have hi := List.mem_range.1 hi;have hu := List.mem_range.1 hu;simp only [Bool.or_eq_true, decide_eq_true_iff];by_cases e : u = 0
   ·exact .inl e
   ·obtain ⟨q, rfl⟩ : ∃ q, u = q + 1 := ⟨u - 1, by omega⟩;refine .inr ?_;have g1 := h.dec i q hi hu;unfold mN;simp only [Nat.add_sub_cancel, Bool.and_eq_true, Bool.or_eq_true, decide_eq_true_iff];refine ⟨g1, ?_⟩;by_cases e2 : q = 0
    ·exact .inl J
    ·obtain ⟨r, rfl⟩ : ∃ r, q = r + 1 := ⟨q - 1, by omega⟩;exact .inr (h.cvx i r hi hu)
  ·simp only [Bool.not_eq_false];refine List.all_eq_true.2 fun l hl => List.all_eq_true.2 fun x hx => ?_
   obtain ⟨i, hi, rfl⟩ := List.mem_iff_getElem.1 hl;obtain ⟨w, hw, rfl⟩ := List.mem_iff_getElem.1 hx;have := h.bd i w hi (by unfold amW; rw [getA hi]; exact hw);unfold amA at this;rw [getA hi, getI hw] at this;exact bV.2 this
  ·simp only [Bool.not_eq_false, Bool.and_eq_true];refine ⟨bV.2 J, List.all_eq_true.2 fun l hl => ?_⟩;obtain ⟨i, hi, rfl⟩ := List.mem_iff_getElem.1 hl;have := h.row i hi;unfold amW at this;rw [getA hi] at this;unfold pI;rw [Bool.and_true];exact bV.2 J
theorem aim1_p (w : World) (lo hi : Nat) (l : List (List Int)) (vs : List Value) (h2 : vs.length = l.length) (h3 : ∀ i (h : i < vs.length) (h' : i < l.length), RdI w lo hi vs[i] l[i]) :
  PredAt Tryz.prog tab w (.func (.func 147) #[] #[]) vs (fun x => pI (rowAt w x)) := by
 refine ⟨_, _, _, Z, Z, fun w' hw' x hx => ?_⟩;obtain ⟨hr, hm⟩ := rdII_mem h2 h3 hx;dsimp only;generalize hg : rowAt w x = row at hr hm ⊢;obtain ⟨ra, rc, rfl, hra⟩ := RdI.outI hr;refine cN (Sat.nil w' M0) Tryz.func147 Z (by simp [Tryz.ntmps147]) ?_;(refine aC (aB (aA1 zq (aD (aC (aB (aA1 zq (aA1 zq ?_))))))));refine aI (val := .bool (inB row.length 1 21)) U Z Z Z Z (fun w hs => ?_) ?_; exact eZ row.length 1 21 w;(refine aA1 zq (aD (aS ?_)));refine aA5 wq O fun w hs => ?_;exact ⟨by simp [Eng.retV, pI], hs.chg0⟩
theorem aim3_p (w : World) (c : List Int) : PredAt Tryz.prog tab w (.func (.func 149) #[] #[]) (aX c) (fun x => match x with | .int _ i => inB i 0 1000 | _ => false) := by
 refine ⟨_, _, _, Z, Z, fun w' hw' x hx => ?_⟩;obtain ⟨i, hi, rfl⟩ := List.mem_map.1 hx;refine cN (Sat.nil w' M0) Tryz.func149 Z (by simp [Tryz.ntmps149]) ?_;(refine aC (aB (aA1 zq (aD (aC (aB (aA1 zq ?_)))))));refine aI (val := .bool (inB i 0 1000)) U Z Z Z Z (fun w hs => ?_) ?_; exact eZ i 0 1000 w;(refine aA1 zq (aD (aS ?_)));refine aA5 wq O fun w hs => ?_;exact ⟨Z, hs.chg0⟩
theorem aim2_p (w : World) (lo hi : Nat) (l : List (List Int)) (vs : List Value) (hl : ∀ row ∈ l, row.length ≤ 21) (h2 : vs.length = l.length) (h3 : ∀ i (h : i < vs.length) (h' : i < l.length), RdI w lo hi vs[i] l[i]) :
  PredAt Tryz.prog tab w (.func (.func 148) #[] #[]) vs (fun x => rngAB (rowAt w x)) := by
 refine ⟨_, _, _, Z, Z, fun w' hw' x hx => ?_⟩;obtain ⟨hr, hm⟩ := rdII_mem h2 h3 hx;dsimp only;generalize hg : rowAt w x = row at hr hm ⊢;have hr20 := hl row hm;obtain ⟨ra, rc, rfl, hra⟩ := RdI.outI hr;refine cN (Sat.nil w' M0) Tryz.func148 Z (by simp [Tryz.ntmps148]) ?_;(refine aC (aB (aA1 zq (aD (aC (aB (aA1 zq ?_)))))));refine aI (val := .bool (rngAB row)) U Z Z Z Z (fun w hs => ?_) ?_; exact by have := all_rint w lo hi _ _ (aX row) _ (RdE.keep hr (hw'.trans hs.chg0)) (by intro i hi; simp [aX, dJ]) (by simp [aX]; omega) (aim3_p w row); unfold aX at this; rw [List.all_map] at this; exact this
 (refine aA1 zq (aD (aS ?_)))
 refine aA5 wq O fun w hs => ?_;exact ⟨Z, hs.chg0⟩
theorem iQ (w : World) (lo hi : Nat) (v : Value) (A : List (List Int)) (h : RdII w lo hi v A) (hlen : A.length ≤ maxLen) : Ca Tryz.prog 82 [v] w fun x w' => x = .int .i64 (fV A) ∧ Chg [] w w' := by
 obtain ⟨a, c, rfl, ha⟩ := RdII.outI h;have hII := h;obtain ⟨vs, hv1, hv2, hv3⟩ := h;simp only [maxLen] at hlen
 have hone : ∀ i (hi : i < vs.length), dJ vs[i] = true := fun i hi => by
  obtain ⟨a, c, e, _⟩ := RdI.outI (hv3 i hi J);rw [e]
  rfl
 refine cN (Sat.nil w M0) Tryz.func82 Z (by simp [Tryz.ntmps82]) ?_;(refine aC (aB (aA1 zq (aD (aC (aM (aC (aB (aA1 zq (aA1 zq ?_))))))))));refine aI (val := .bool (inB A.length 1 8)) U Z Z Z Z (fun w hs => ?_) ?_; exact eZ A.length 1 8 w;cases h1 : inB A.length 1 8 with
 | false =>
  (refine aA1 zq (aA1 zq ?_); (iterate 3 refine aA8 yq ?_); refine aA1 zq (aA1 zq (aD (aH Z (aC (aB (aA1 zq (aD (aS ?_)))))))))
  refine aA5 wq O fun w hs => ?_;exact ⟨by simp [Eng.retV, fV, h1], hs.chg0⟩
 | true =>
  have h1' := bV.1 h1;(refine aA1 zq (aA1 zq (aE Z (aA1 zq (aE Z ?_)))));refine aI (val := .bool (A.all pI)) U Z Z Z Z (fun w hs => ?_) ?_; exact by have := all_rints w lo hi _ _ vs _ (hv1.keep hs.chg0) hone J (aim1_p w lo hi A vs hv2 (fun i hi hi' => (hv3 i hi hi').keep hs.chg0)); rw [rdII_all hv2 (fun i hi hi' => (hv3 i hi hi').keep hs.chg0)] at this; exact this
  cases h4 : A.all pI with
  | false =>
   (refine aE Z ?_; (iterate 3 refine aA1 zq ?_); refine aD (aH Z (aC (aB (aA1 zq (aD (aS ?_)))))))
   refine aA5 wq O fun w hs => ?_;exact ⟨by simp only [fV]; rw [if_pos (by rw [h1]; exact h4)]; rfl, hs.chg0⟩
  | true =>
   have hl20 : ∀ row ∈ A, row.length ≤ 21 := fun row hm => by
    have := List.all_eq_true.1 h4 row hm;simp only [pI, Bool.and_true] at this;have := bV.1 this;omega
   have e0 : fV A = if A.all rngAB = false then 3 else if pY A A.length = false then 4 else 0 := by
    unfold fV;rw [if_neg (by rw [h1, h4]; simp)]
   rw [e0];(refine aE Z ?_; (iterate 3 refine aA1 zq ?_); refine aD (aG Z (aC (aB (aA1 zq ?_)))));refine aI (val := .bool (A.all rngAB)) U Z Z Z Z (fun w hs => ?_) ?_; exact by have := all_rints w lo hi _ _ vs _ (hv1.keep hs.chg0) hone J (aim2_p w lo hi A vs hl20 hv2 (fun i hi hi' => (hv3 i hi hi').keep hs.chg0)); rw [rdII_all hv2 (fun i hi hi' => (hv3 i hi hi').keep hs.chg0)] at this; exact this
   cases h5 : A.all rngAB with
   | false =>
    (refine aA1 zq (aA1 zq (aD (aH Z (aC (aB (aA1 zq (aD (aS ?_)))))))))
    refine aA5 wq O fun w hs => ?_;exact ⟨by rw [if_pos rfl]; rfl, hs.chg0⟩
   | true =>
    rw [if_neg (by simp)];(refine aA1 zq (aA1 zq (aD (aG Z (aK (bK (aC (aC (aB ?_)))))))); (iterate 3 refine aA1 zq ?_); refine aD (aM ?_));refine bM (σ := Nat) (fun k => k ≤ A.length ∧ pY A k = true) (fun k => A.length - k) (fun k => [(20, .slice a A.length c), (21, .int .i64 A.length), (22, .int .i64 k)]) (fun _ => []) 0 ⟨by omega, Z⟩ ⟨Z, Z, Z, trivial⟩ O ?_;rintro k ⟨hk, hok⟩ K hK;(refine aC (aB (aA1 zq (aD (aC ?_)))));refine dN Z (fun hc => ?_) (fun hc => ?_)
    ·have hk2 : k < A.length := by omega
     clear hc;have hsu := ordAA_succ A k;rw [hok, Bool.true_and, getA hk2] at hsu;obtain ⟨gb, go, rfl⟩ := ha J;obtain ⟨ra, rc, hr, hrc⟩ := RdII.row hII k hk2;have hrl := hl20 _ (List.getElem_mem hk2);have hbd : ∀ i (hi : i < A[k].length), 0 ≤ A[k][i] ∧ A[k][i] ≤ 1000 := fun i hi => bV.1 (List.all_eq_true.1 (List.all_eq_true.1 h5 _ (List.getElem_mem hk2)) _ (List.getElem_mem hi))
     generalize A[k] = row at hsu hr hrc hrl hbd;obtain ⟨ra', rc', er, hra⟩ := RdI.outI hr;cases er
     (refine aK (aC (aM (aC (aB ?_)))))
     refine aA7 Wa J J ?_;refine bI U Z Z Z (fun w hs => hrc _ hs.chg0) ?_;(refine aA1 zq (aD (aC (aB (aA1 zq (aD (aM ?_)))))));refine bM (σ := Nat) (fun u => 1 ≤ u ∧ (u ≤ row.length ∨ u = 1) ∧ ordAR row u = true) (fun u => row.length - u) (fun u => [(4, .slice ra row.length rc), (5, .int .i64 u), (20, .slice (some ⟨gb, go, none⟩) A.length c), (21, .int .i64 A.length), (22, .int .i64 k)]) (fun _ => []) 1 ⟨Nat.le_refl _, .inr rfl, Z⟩ ⟨Z, Z, Z, Z, Z, trivial⟩ O ?_;rintro u ⟨hu1, hu2, hou⟩ K2 hK2;(refine aC (aC (aB ?_)); (iterate 4 refine aA1 zq ?_); refine aD ?_);refine dN Z (fun hc => ?_) (fun hc => ?_)
     ·have hu3 : u < row.length := by omega
      clear hc;have hsr := ordAR_succ row u;rw [hou, Bool.true_and, decide_eq_false J, Bool.false_or] at hsr;obtain ⟨rb, ro, rfl⟩ := hra J;obtain ⟨q, rfl⟩ : ∃ q, u = q + 1 := ⟨u - 1, by omega⟩;have hq : q < row.length := by omega
      have hrow : ∀ i (hi : i < row.length) (w' : World), Chg [] w w' → w'.cell? ⟨rb, ro + i * 1, none⟩ = some (.int .i64 row[i]) := fun i hi w' hs => RdI.at (RdE.keep hr hs) i hi
      have b1 := hbd (q + 1) hu3;have b2 := hbd q hq
      have hfalse : mN row (q + 1) = false → pY A A.length = false := fun e => by
       have h6 : pY A (k + 1) = false := by rw [hsu]; exact iA (k := q + 1) (by rw [e]; simp) hu3
       unfold pY at h6 ⊢;rw [List.all_eq_false] at h6 ⊢;obtain ⟨z, z1, z2⟩ := h6;exact ⟨z, List.mem_range.2 (by have := List.mem_range.1 z1; omega), z2⟩
      by_cases c1 : row[q + 1] ≤ row[q]
      ·by_cases c2 : q = 0
       ·have e1 : mN row (q + 1) = true := by
         unfold mN;rw [getI hu3, Nat.add_sub_cancel, getI hq, decide_eq_true c1, decide_eq_true (show q + 1 ≤ 1 by omega)]
         rfl
        (refine aK (aC (aM (aC ?_))))
        refine bZ _ [] (Sp.refl _) qB qB ?_;(refine aA2 xq (aA2 xq ?_));refine aA3 Wa J J ?_;refine aR (v := .int .i64 row[q + 1]) U Z Z Z (fun w hs => hrow (q + 1) hu3 _ hs.chg0) ?_;(refine aA2 xq (aA2 xq (aA9 uq J J ?_)));refine aA3 Wa J J ?_;refine aR (v := .int .i64 row[q]) U Z Z Z (fun w hs => by rw [show (((q + 1 : Nat) : Int) - 1).toNat = q from by omega]; exact hrow q hq _ hs.chg0) ?_;(refine gF U Z Z Z J (aA2 xq (aL Z (aA2 xq (aL Z (gF U Z Z Z J (aL Z (aA2 xq ?_))))))); (iterate 22 refine dH Z Z Z ?_); refine aL Z (aA2 xq (aA2 xq (aN (aG Z (aK (bK (aB (aA1 zq (aA4 uq J J (aA1 zq (aD ?_))))))))))));exact hK2 (q + 1 + 1) _ _ ⟨by omega, by omega, by rw [hsr, e1]⟩ J ⟨Z, Z, Z, Z, Z, trivial⟩ O
       ·obtain ⟨r, rfl⟩ : ∃ r, q = r + 1 := ⟨q - 1, by omega⟩;have hr0 : r < row.length := by omega
        have b3 := hbd r hr0
        have e1 : mN row (r + 1 + 1) = decide (row[r + 1] - row[r + 1 + 1] ≤ row[r] - row[r + 1]) := by
         unfold mN;rw [getI hu3, Nat.add_sub_cancel, getI hq, decide_eq_true c1, show r + 1 + 1 - 2 = r from rfl, getI hr0, decide_eq_false J]
         rfl
        by_cases c3 : row[r + 1] - row[r + 1 + 1] ≤ row[r] - row[r + 1]
        ·rw [decide_eq_true c3] at e1;(refine aK (aC (aM (aC ?_))));refine bZ _ [] (Sp.refl _) qB qB ?_;(refine aA2 xq (aA2 xq ?_));refine aA3 Wa J J ?_;refine aR (v := .int .i64 row[r + 1 + 1]) U Z Z Z (fun w hs => hrow (r + 1 + 1) hu3 _ hs.chg0) ?_;(refine aA2 xq (aA2 xq (aA9 uq J J ?_)));refine aA3 Wa J J ?_;refine aR (v := .int .i64 row[r + 1]) U Z Z Z (fun w hs => by rw [show (((r + 1 + 1 : Nat) : Int) - 1).toNat = r + 1 from by omega]; exact hrow (r + 1) hq _ hs.chg0) ?_;(refine gF U Z Z Z J (aA2 xq (aL Z (aA2 xq (aL Z (gX U Z Z Z J (aL Z (aA2 xq (aL Z (aA2 xq (aL Z (aA2 xq ?_))))))))))); refine aL Z (aA9 uq J J (aL Z ?_)));refine aA3 Wa J J ?_;(refine aL Z ?_);refine aR (v := .int .i64 row[r + 1]) U Z Z Z (fun w hs => by rw [show (((r + 1 + 1 : Nat) : Int) - 1).toNat = r + 1 from by omega]; exact hrow (r + 1) hq _ hs.chg0) ?_;(refine aL Z (aA2 xq (aL Z (aA2 xq (aL Z ?_)))));refine aA3 Wa J J ?_;(refine aL Z ?_);refine aR (v := .int .i64 row[r + 1 + 1]) U Z Z Z (fun w hs => hrow (r + 1 + 1) hu3 _ hs.chg0) ?_;(refine aL Z (aA9 uq J J (aL Z (aA2 xq (aL Z (aA2 xq (aL Z (aA9 uq J J (aL Z ?_)))))))));refine aA3 Wa J J ?_;(refine aL Z ?_);refine aR (v := .int .i64 row[r]) U Z Z Z (fun w hs => by rw [show (((r + 1 + 1 : Nat) : Int) - 2).toNat = r from by omega]; exact hrow r hr0 _ hs.chg0) ?_;(refine aL Z (aA2 xq (aL Z (aA2 xq (aL Z (aA9 uq J J (aL Z ?_)))))));refine aA3 Wa J J ?_;(refine aL Z ?_);refine aR (v := .int .i64 row[r + 1]) U Z Z Z (fun w hs => by rw [show (((r + 1 + 1 : Nat) : Int) - 1).toNat = r + 1 from by omega]; exact hrow (r + 1) hq _ hs.chg0) ?_;(refine aL Z (aA9 uq J J (aL Z (gF U Z Z Z J (aL Z (aA2 xq (aA2 xq (aN (aG Z (aK (bK (aB ?_))))))))))); refine aA1 zq (aA4 uq J J (aA1 zq (aD ?_))));exact hK2 (r + 1 + 1 + 1) _ _ ⟨by omega, by omega, by rw [hsr, e1]⟩ J ⟨Z, Z, Z, Z, Z, trivial⟩ O
        ·rw [decide_eq_false c3] at e1;rw [hfalse e1];(refine aK (aC (aM (aC ?_))));refine bZ _ [] (Sp.refl _) qB qB ?_;(refine aA2 xq (aA2 xq ?_));refine aA3 Wa J J ?_;refine aR (v := .int .i64 row[r + 1 + 1]) U Z Z Z (fun w hs => hrow (r + 1 + 1) hu3 _ hs.chg0) ?_;(refine aA2 xq (aA2 xq (aA9 uq J J ?_)));refine aA3 Wa J J ?_;refine aR (v := .int .i64 row[r + 1]) U Z Z Z (fun w hs => by rw [show (((r + 1 + 1 : Nat) : Int) - 1).toNat = r + 1 from by omega]; exact hrow (r + 1) hq _ hs.chg0) ?_;(refine gF U Z Z Z J (aA2 xq (aL Z (aA2 xq (aL Z (gX U Z Z Z J (aL Z (aA2 xq (aL Z (aA2 xq (aL Z (aA2 xq ?_))))))))))); refine aL Z (aA9 uq J J (aL Z ?_)));refine aA3 Wa J J ?_;(refine aL Z ?_);refine aR (v := .int .i64 row[r + 1]) U Z Z Z (fun w hs => by rw [show (((r + 1 + 1 : Nat) : Int) - 1).toNat = r + 1 from by omega]; exact hrow (r + 1) hq _ hs.chg0) ?_;(refine aL Z (aA2 xq (aL Z (aA2 xq (aL Z ?_)))));refine aA3 Wa J J ?_;(refine aL Z ?_);refine aR (v := .int .i64 row[r + 1 + 1]) U Z Z Z (fun w hs => hrow (r + 1 + 1) hu3 _ hs.chg0) ?_;(refine aL Z (aA9 uq J J (aL Z (aA2 xq (aL Z (aA2 xq (aL Z (aA9 uq J J (aL Z ?_)))))))));refine aA3 Wa J J ?_;(refine aL Z ?_);refine aR (v := .int .i64 row[r]) U Z Z Z (fun w hs => by rw [show (((r + 1 + 1 : Nat) : Int) - 2).toNat = r from by omega]; exact hrow r hr0 _ hs.chg0) ?_;(refine aL Z (aA2 xq (aL Z (aA2 xq (aL Z (aA9 uq J J (aL Z ?_)))))));refine aA3 Wa J J ?_;(refine aL Z ?_);refine aR (v := .int .i64 row[r + 1]) U Z Z Z (fun w hs => by rw [show (((r + 1 + 1 : Nat) : Int) - 1).toNat = r + 1 from by omega]; exact hrow (r + 1) hq _ hs.chg0) ?_;(refine aL Z (aA9 uq J J (aL Z (gX U Z Z Z J (aL Z (aA2 xq (aA2 xq (aN (aH Z (aC (aB (aA1 zq ?_))))))))))); refine aD (aS ?_));refine aA5 wq O fun w hs => ?_
         exact ⟨by rw [if_pos rfl]; rfl, hs.chg0⟩
      ·have e1 : mN row (q + 1) = false := by
        unfold mN;rw [getI hu3, Nat.add_sub_cancel, getI hq, decide_eq_false c1]
        rfl
       rw [hfalse e1];(refine aK (aC (aM (aC ?_))));refine bZ _ [] (Sp.refl _) qB qB ?_;(refine aA2 xq (aA2 xq ?_));refine aA3 Wa J J ?_;refine aR (v := .int .i64 row[q + 1]) U Z Z Z (fun w hs => hrow (q + 1) hu3 _ hs.chg0) ?_;(refine aA2 xq (aA2 xq (aA9 uq J J ?_)));refine aA3 Wa J J ?_;refine aR (v := .int .i64 row[q]) U Z Z Z (fun w hs => by rw [show (((q + 1 : Nat) : Int) - 1).toNat = q from by omega]; exact hrow q hq _ hs.chg0) ?_;(refine gX U Z Z Z J (aA2 xq ?_); (iterate 3 refine dH Z Z Z ?_); (iterate 22 refine pZ Z Z ?_); refine dH Z Z Z (aA2 xq (aN (aH Z (aC (aB (aA1 zq (aD (aS ?_)))))))));refine aA5 wq O fun w hs => ?_
       exact ⟨by rw [if_pos rfl]; rfl, hs.chg0⟩
     ·have hu4 : row.length ≤ u := by omega
      clear hc hK2
      have e1 : ordAR row row.length = true := by
       by_cases e : row.length = u
       ·rw [e]; exact hou
       ·have : row.length = 0 := by omega
        rw [this]
        rfl
      (refine bH _ Z (bK (aB (aA4 uq J J (aA1 zq (aD ?_))))))
      exact hK (k + 1) _ _ ⟨by omega, by rw [hsu, e1]⟩ J ⟨Z, Z, Z, trivial⟩ O
    ·obtain rfl : k = A.length := by omega
     rw [hok];(refine bH _ Z (aC (aB (aA1 zq (aD (aS ?_))))));refine aA5 wq O fun w hs => ?_
     exact ⟨Z, hs.chg0⟩
theorem nI_get {W : List Nat} {i : Nat} (hi : i < W.length) (h2 : i < (nI W).length) : (nI W)[i] = (wtO W i : Int) := by
 unfold wtO;rw [List.getD_eq_getElem?_getD, List.getElem?_eq_getElem hi, Option.getD_some];simp [nI]
theorem kV {w : World} {lo hi gb go n c : Nat} {A : List (List Int)} (h : RdII w lo hi (.slice (some ⟨gb, go, none⟩) n c) A) {i : Nat} (hi' : i < A.length) (h1 : 1 ≤ amW A i) : ∃ rb ro rc, (∀ w', Chg [] w w' → w'.cell? ⟨gb, go + i * 1, none⟩ = some (.slice (some ⟨rb, ro, none⟩) (amW A i) rc)) ∧ ∀ x, x < amW A i → ∀ w', Chg [] w w' → w'.cell? ⟨rb, ro + x * 1, none⟩ = some (.int .i64 (amA A i x)) := by
 obtain ⟨ra, rc, hr, hrc⟩ := RdII.row h i hi';obtain ⟨ra', rc', er, hra⟩ := RdI.outI hr;cases er
 have e : amW A i = A[i].length := by unfold amW; rw [getA hi']
 obtain ⟨rb, ro, rfl⟩ := hra J;refine ⟨rb, ro, rc, fun w' hw => by rw [e]; exact hrc w' hw, fun x hx w' hw => ?_⟩;have := RdI.at (RdE.keep hr hw) x J;rw [this];unfold amA;rw [getA hi', getI J]
theorem missed_ca (w : World) (lo hi lo2 hi2 : Nat) (v wv : Value) (A : List (List Int)) (W : List Nat) (h : RdII w lo hi v A) (hW : RdI w lo2 hi2 wv (nI W)) (hA : AimOk A) (hok : WOk A W) : Ca Tryz.prog 103 [v, wv] w fun x w' => x = .int .i64 (iH A W) ∧ Chg [] w w' := by
 have n1 := hA.n1;have n8 := hA.n8;have hl := hok.len;obtain ⟨a, c, rfl, ha⟩ := RdII.outI h;obtain ⟨gb, go, rfl⟩ := ha J;obtain ⟨wa, wc, rfl, hwa⟩ := RdI.outI hW;rw [eC, hl] at hwa hW ⊢;obtain ⟨wb, wo, rfl⟩ := hwa J
 have hbd : ∀ k, k ≤ A.length → 0 ≤ smF (fun i => amA A i (wtO W i)) k ∧ smF (fun i => amA A i (wtO W i)) k ≤ 1000 * k := fun k => by
  induction k with
  | zero => intro _; exact ⟨Int.le_refl _, Int.le_refl _⟩
  | succ k ih =>
   intro hk;have h1 := ih J;have h2 := hA.bd k _ J (hok.lt k J);simp only [smF];omega
 refine cN (Sat.nil w M0) Tryz.func103 Z (by simp [Tryz.ntmps103]) ?_;(refine aC (aB (aA1 zq (aD (aC (aB (aA1 zq (aD (aC (aC (aB ?_)))))))))); (iterate 3 refine aA1 zq ?_); refine aD (aM ?_));refine bM (σ := Nat) (fun k => k ≤ A.length) (fun k => A.length - k) (fun k => [(0, .slice (some ⟨gb, go, none⟩) A.length c), (5, .int .i64 (smF (fun i => amA A i (wtO W i)) k)), (8, .slice (some ⟨wb, wo, none⟩) A.length wc), (9, .int .i64 A.length), (10, .int .i64 k)]) (fun _ => []) 0 J ⟨Z, Z, Z, Z, Z, trivial⟩ O ?_;rintro k hk K hK;have b0 := hbd k hk;(refine aC (aB (aA1 zq (aD (aC ?_)))));refine dN Z (fun hc => ?_) (fun hc => ?_)
 ·have hk2 : k < A.length := by omega
  clear hc;have b1 := hbd (k + 1) J;simp only [smF] at b1;have hx := hok.lt k hk2;obtain ⟨rb, ro, rc, hr1, hr2⟩ := kV h hk2 J;have hrow := hA.row k hk2;(refine aK (aC (aM (aC (aB (aA1 zq ?_))))));refine aA7 Wa J J ?_
  refine bI (v := .int .i64 (wtO W k)) U Z Z Z (fun w hs => by
   have := RdI.at (RdE.keep hW hs.chg0) k (by rw [eC]; omega);rw [nI_get J] at this;exact this) ?_
  (refine aA1 zq (aA1 zq (aD (aB ?_))); (iterate 3 refine aA1 zq ?_))
  refine aA7 Wa J J ?_;refine bI U Z Z Z (fun w hs => hr1 _ hs.chg0) ?_;(refine aA1 zq ?_);refine aA7 Wa J J ?_;refine bI U Z Z Z (fun w hs => hr2 _ hx _ hs.chg0) ?_;(refine aA4 uq J J (aA1 zq (aD (bK (aB (aA4 uq J J (aA1 zq (aD ?_))))))));exact hK (k + 1) _ _ J J ⟨Z, Z, Z, Z, Z, trivial⟩ O
 ·obtain rfl : k = A.length := by omega
  (refine bH _ Z (aC (aB (aA1 zq (aA1 zq (aD (aS ?_)))))))
  refine aA5 wq O fun w hs => ?_;exact ⟨Z, hs.chg0⟩
theorem helps_ca (w : World) (lo hi lo2 hi2 : Nat) (v wv : Value) (A : List (List Int)) (W : List Nat) (h : RdII w lo hi v A) (hW : RdI w lo2 hi2 wv (nI W)) (hA : AimOk A) (hok : WOk A W) : Ca Tryz.prog 105 [v, wv] w fun x w' => x = .tuple #[.int .i64 (mostV A W), .int .i64 (shotV A W)] ∧ Chg [] w w' := by
 have n1 := hA.n1;have n8 := hA.n8;have hl := hok.len;obtain ⟨a, c, rfl, ha⟩ := RdII.outI h;obtain ⟨gb, go, rfl⟩ := ha J;obtain ⟨wa, wc, rfl, hwa⟩ := RdI.outI hW;rw [eC, hl] at hwa hW ⊢;obtain ⟨wb, wo, rfl⟩ := hwa J;refine cN (Sat.nil w M0) Tryz.func105 Z (by simp [Tryz.ntmps105]) ?_;(refine aC (aB (aA1 zq (aA1 zq (aD (aC (aB (aA1 zq (aA1 zq (aD (aC (aC ?_))))))))))); refine aB ?_; (iterate 3 refine aA1 zq ?_); refine aD (aM ?_));refine bM (σ := Nat) (fun k => k ≤ A.length) (fun k => A.length - k) (fun k => [(0, .slice (some ⟨gb, go, none⟩) A.length c), (6, .int .i64 (helpS A W k).1), (7, .int .i64 (helpS A W k).2), (10, .slice (some ⟨wb, wo, none⟩) A.length wc), (11, .int .i64 A.length), (12, .int .i64 k)]) (fun _ => []) 0 J ⟨Z, Z, Z, Z, Z, Z, trivial⟩ O ?_;rintro k hk K hK;(refine aC (aB (aA1 zq (aD (aC ?_)))));refine dN Z (fun hc => ?_) (fun hc => ?_)
 ·have hk2 : k < A.length := by omega
  clear hc;have hx := hok.lt k hk2;obtain ⟨rb, ro, rc, hr1, hr2⟩ := kV h hk2 J;have hrow := hA.row k hk2;have hsu : helpS A W (k + 1) = if wtO W k + 1 < amW A k ∧ (helpS A W k).1 < incV A W k then (incV A W k, k) else helpS A W k := rfl
  have b1 := hA.bd k _ hk2 hx;(refine aK (aC (aM (aC (aB (aA1 zq ?_))))));refine aA7 Wa J J ?_
  refine bI (v := .int .i64 (wtO W k)) U Z Z Z (fun w hs => by
   have := RdI.at (RdE.keep hW hs.chg0) k (by rw [eC]; omega);rw [nI_get J] at this;exact this) ?_
  by_cases c1 : wtO W k + 1 < amW A k
  ·have b2 := hA.bd k _ hk2 c1;have hi2 := hr2 _ c1;have einc : incV A W k = amA A k (wtO W k) - amA A k (wtO W k + 1) := rfl;have e1 : ((wtO W k : Nat) : Int) + 1 = ((wtO W k + 1 : Nat) : Int) := by omega
   (refine aA1 zq (aA1 zq (aD (aC ?_))))
   refine bZ _ [] (Sp.refl _) qB qB ?_;(refine aA2 xq (aA9 uq J J (aA2 xq (aA2 xq ?_))));refine aA3 Wa J J ?_;refine aR U Z Z Z (fun w hs => hr1 _ hs.chg0) ?_;(refine aA2 xq (kX U Z Z Z J (aA2 xq (aL Z (aA2 xq (aL Z (aA2 xq (aL Z ?_))))))));refine aA3 Wa J J ?_;(refine aL Z ?_);refine aR U Z Z Z (fun w hs => hr1 _ hs.chg0) ?_;(refine aL Z (aA2 xq (aL Z ?_)));refine aA3 Wa J J ?_;(refine aL Z ?_);refine aR (v := .int .i64 (amA A k (wtO W k))) U Z Z Z (fun w hs => hr2 _ hx _ hs.chg0) ?_;(refine aL Z (aA2 xq (aL Z (aA2 xq (aL Z ?_)))));refine aA3 Wa J J ?_;(refine aL Z ?_);refine aR U Z Z Z (fun w hs => hr1 _ hs.chg0) ?_;(refine aL Z (aA2 xq (aL Z (aA9 uq J J (aL Z ?_)))));refine aA3 Wa J J ?_;(refine aL Z ?_);refine aR (v := .int .i64 (amA A k (wtO W k + 1))) U Z Z Z (fun w hs => hi2 _ hs.chg0) ?_;(refine aL Z (aA9 uq J J (aL Z (aA2 xq (aL Z (aA2 xq (aA2 xq (aN ?_))))))));refine dN Z (fun hc => ?_) (fun hc => ?_)
   ·have c2 : (helpS A W k).1 < incV A W k := by rw [einc]; simpa using hc
    rw [if_pos ⟨c1, c2⟩] at hsu;refine bZ _ [] (Sp.refl _) qB qB ?_;(refine aA2 xq (aA2 xq ?_));refine aA3 Wa J J ?_;refine aR U Z Z Z (fun w hs => hr1 _ hs.chg0) ?_;(refine aA2 xq ?_);refine aA3 Wa J J ?_;refine aR (v := .int .i64 (amA A k (wtO W k))) U Z Z Z (fun w hs => hr2 _ hx _ hs.chg0) ?_;(refine aA2 xq (aA2 xq ?_));refine aA3 Wa J J ?_;refine aR U Z Z Z (fun w hs => hr1 _ hs.chg0) ?_;(refine aA2 xq (aA9 uq J J ?_));refine aA3 Wa J J ?_;refine aR (v := .int .i64 (amA A k (wtO W k + 1))) U Z Z Z (fun w hs => hi2 _ hs.chg0) ?_;(refine aA9 uq J J ?_; (iterate 3 refine aA2 xq ?_); refine aN (bK (aB (aA4 uq J J (aA1 zq (aD ?_))))));exact hK (k + 1) _ _ J J ⟨Z, by rw [hsu]; rfl, by rw [hsu]; rfl, Z, Z, Z, trivial⟩ O
   ·have c2 : ¬ (helpS A W k).1 < incV A W k := by rw [einc]; simpa using hc
    rw [if_neg (fun e => c2 e.2)] at hsu;(refine aK (bK (aB (aA4 uq J J (aA1 zq (aD ?_))))));exact hK (k + 1) _ _ J J ⟨Z, by rw [hsu]; rfl, by rw [hsu]; rfl, Z, Z, Z, trivial⟩ O
  ·rw [if_neg (fun e => c1 e.1)] at hsu;(refine aA1 zq (aA1 zq (aD (aC ?_))));refine bZ _ [] (Sp.refl _) qB qB ?_;(refine aA2 xq (aA9 uq J J (aA2 xq (aA2 xq ?_))));refine aA3 Wa J J ?_;refine aR U Z Z Z (fun w hs => hr1 _ hs.chg0) ?_;(refine aA2 xq (kO U Z Z Z J (aA2 xq ?_)); (iterate 18 refine dH Z Z Z ?_); refine aA2 xq (aN (aG Z (aK (bK (aB (aA4 uq J J (aA1 zq (aD ?_)))))))));exact hK (k + 1) _ _ J J ⟨Z, by rw [hsu]; rfl, by rw [hsu]; rfl, Z, Z, Z, trivial⟩ O
 ·obtain rfl : k = A.length := by omega
  (refine bH _ Z (aC (aB ?_)); (iterate 4 refine aA1 zq ?_); refine aD (aS ?_))
  refine aA5 wq O fun w hs => ?_;exact ⟨Z, hs.chg0⟩
theorem wts_stop {A : List (List Int)} {t : Nat} (h : mostV A (wtsV A t) = 0) : ∀ d, wtsV A (t + d) = wtsV A t
 | 0 => rfl
 | d + 1 => by
  have ih := wts_stop h d
  show stepW A (wtsV A (t + d)) = _
  rw [ih];unfold stepW;rw [if_pos h]
theorem many_le {A : List (List Int)} (hA : AimOk A) : manyV A ≤ 160 := by
 have h1 : manyV A ≤ smF (fun _ => 20 * 1) A.length := lF fun i hi => by have := (hA.row i hi).2; omega
 rw [smF_mul 20 fun _ => 1] at h1
 have h2 : ∀ n : Nat, smF (fun _ => (1 : Int)) n = n := fun n => by
  induction n with
  | zero => rfl
  | succ n ih => simp only [smF]; omega
 rw [h2] at h1;have := hA.n8;omega
theorem nI_set {W : List Nat} {k x : Nat} : nI (W.set k x) = (nI W).set k (x : Int) := by
 unfold nI;rw [List.map_set]
theorem waits_ca (w : World) (lo hi : Nat) (v : Value) (A : List (List Int)) (t : Nat) (h : RdII w lo hi v A) (hA : AimOk A) (ht : (t : Int) ≤ 9223372036854775807) : Ca Tryz.prog 104 [v, .int .i64 t] w fun x w' => ∃ b : Nat, x = aB9 b A.length A.length ∧ Sat w M0 [.pt b (aX (nI (wtsV A t))) 3] w' := by
 have n1 := hA.n1;have n8 := hA.n8;obtain ⟨a, c, rfl, ha⟩ := RdII.outI h;refine cN (Sat.nil w M0) Tryz.func104 Z (by simp [Tryz.ntmps104]) ?_;(refine aC (aB (aA1 zq (aD (aC (aB (aA1 zq (aA1 zq ?_))))))));refine kR slI Z Z Z J (fun b5 => ?_);have e0 : List.replicate A.length (0 : Int) = nI (wtsV A 0) := by simp [wtsV, nI]
 rw [e0];(refine aA1 zq (aD (aC (aC (aB ?_)))); (iterate 3 refine aA1 zq ?_); refine aD (aM ?_));obtain ⟨T, hT⟩ : ∃ T : Nat, T = min t 168 := ⟨_, rfl⟩;have eT : min (t : Int) 168 = (T : Int) := by omega
 have eW : wtsV A t = wtsV A T := by
  by_cases e : t ≤ 168
  ·rw [show T = t from by omega]
  ·have h1 := most_many hA (t := 168) (by have := many_le hA; omega);have h2 := wts_stop h1 (t - 168);rw [show 168 + (t - 168) = t from by omega] at h2;rw [h2, show T = 168 from by omega]
 rw [eT, eW];refine bM (σ := Nat) (fun k => k ≤ T) (fun k => T - k) (fun k => [(0, .slice a A.length c), (5, aB9 b5 A.length A.length), (12, .int .i64 T), (13, .int .i64 k)]) (fun k => [.pt b5 (aX (nI (wtsV A k))) 3]) 0 J ⟨Z, Z, Z, Z, trivial⟩ O ?_;rintro k hk K hK;have hg := gP hA k;have hWl := hg.ok.len;(refine aC (aB (aA1 zq (aD (aC ?_)))));refine dN Z (fun hc => ?_) (fun hc => ?_)
 ·have hk2 : k < T := by omega
  clear hc;(refine aK (aC (aM (aC (aB (aA1 zq (aA1 zq ?_)))))));refine aI (val := .tuple #[.int .i64 (mostV A (wtsV A k)), .int .i64 (shotV A (wtsV A k))]) U Z Z Z Z (fun w hs => ?_) ?_; exact by have h9 := Blk.rdI (c := A.length) (hs.blk (b := b5) (cs := aX (nI (wtsV A k))) O); rw [eC, hWl] at h9; exact helps_ca w lo hi _ _ _ _ A (wtsV A k) (h.keep hs.chg0) h9 hA hg.ok
  by_cases hm : mostV A (wtsV A k) = 0
  ·have e1 : wtsV A T = wtsV A k := by
    have := wts_stop hm (T - k)
    rwa [show k + (T - k) = T from by omega] at this
   rw [e1];(refine aA1 zq (aB5 xq (aB5 xq (aA1 zq (aA1 zq (aD (aC (aC (aB (aA1 zq (aB2 xq J (aD ?_))))))))))); refine aH Z (bH _ Z (aC (aB (aA1 zq (aA1 zq (aD (aS ?_))))))));refine aA5 wq O fun w hs => ?_
   exact ⟨b5, Z, hs.sp O⟩
  ·have hsp := fR A (wtsV A k) A.length;obtain ⟨g1, g2, g3⟩ := hsp.2.2 (by have := hsp.1; unfold mostV at hm; omega)
   have hstep : wtsV A (k + 1) = (wtsV A k).set (shotV A (wtsV A k)) (wtO (wtsV A k) (shotV A (wtsV A k)) + 1) := by
    show stepW A (wtsV A k) = _
    unfold stepW;rw [if_neg hm]
   have hs1 : shotV A (wtsV A k) < A.length := g1;have hs2 := (hA.row _ hs1).2;have hs3 : wtO (wtsV A k) (shotV A (wtsV A k)) + 1 < amW A (shotV A (wtsV A k)) := g2;generalize hsh : shotV A (wtsV A k) = s at *;have hsl : s < (nI (wtsV A k)).length := by rw [eC]; omega
   have hval : (nI (wtsV A k))[s] = (wtO (wtsV A k) s : Int) := nI_get J hsl;(refine aA1 zq (aB5 xq (aB5 xq (aA1 zq (aA1 zq (aD (aC (aC (aB (aA1 zq (cZ U Z Z Z J (aD ?_))))))))))); refine aG Z (aK (aB (aA1 zq (aA1 zq ?_)))));refine aA7 Wa J J ?_;refine kP U (s) Z Z Z O (by first | rfl | omega | simp) hsl ?_;rw [hval];(refine aA4 uq J J ?_);refine aA7 Wa J J ?_;refine oJ U (s) Z Z Z O (by first | rfl | omega | simp) hsl ?_;rw [show ((wtO (wtsV A k) s : Nat) : Int) + 1 = ((wtO (wtsV A k) s + 1 : Nat) : Int) from by omega, ← nI_set, ← hstep];(refine aD (bK (aB (aA4 uq J J (aA1 zq (aD ?_))))));exact hK (k + 1) _ _ J J ⟨Z, Z, Z, Z, trivial⟩ O
 ·obtain rfl : k = T := by omega
  (refine bH _ Z (aC (aB (aA1 zq (aA1 zq (aD (aS ?_)))))))
  refine aA5 wq O fun w hs => ?_;exact ⟨b5, Z, hs.sp O⟩
theorem abest_no (w : World) (lo hi : Nat) (v : Value) (A : List (List Int)) (t : Int) (h : RdII w lo hi v A) (hlen : A.length ≤ maxLen) (h0 : fV A ≠ 0) : Ca Tryz.prog 64 [v, .int .i64 t] w fun x w' => x = .tuple #[.slice none 0 0, .int .i64 0, .int .i64 (fV A)] ∧ Chg [] w w' := by
 refine cN (Sat.nil w M0) Tryz.func64 Z (by simp [Tryz.ntmps64]) ?_;(refine aC (aB ?_); (iterate 3 refine aA1 zq ?_); refine aD (aC (aB (aA1 zq ?_))));refine aI (val := .int .i64 (fV A)) U Z Z Z Z (fun w hs => ?_) ?_; exact iQ w lo hi v A (h.keep hs.chg0) hlen;(refine aA1 zq (aD (aC (aM (aC (aB (aA1 zq (aB0 xq J (aA1 zq (aD (aH Z (aC ?_))))))))))); refine aB ?_; (iterate 4 refine aA1 zq ?_); refine aD (aS ?_));refine aA5 wq O fun w hs => ?_;exact ⟨Z, hs.chg0⟩
theorem abest_neg (w : World) (lo hi : Nat) (v : Value) (A : List (List Int)) (t : Int) (h : RdII w lo hi v A) (hA : AimOk A) (ht : t < 0) : Ca Tryz.prog 64 [v, .int .i64 t] w fun x w' => x = .tuple #[.slice none 0 0, .int .i64 0, .int .i64 3] ∧ Chg [] w w' := by
 have n8 := hA.n8;refine cN (Sat.nil w M0) Tryz.func64 Z (by simp [Tryz.ntmps64]) ?_;(refine aC (aB ?_); (iterate 3 refine aA1 zq ?_); refine aD (aC (aB (aA1 zq ?_))));refine aI (val := .int .i64 0) U Z Z Z Z (fun w hs => ?_) ?_; exact by have := iQ w lo hi v A (h.keep hs.chg0) (by simp only [maxLen]; omega); rw [dP.2 hA] at this; exact this
 (refine aA1 zq (aD (aC (aM (aC (aB (aA1 zq (aA6 xq J (aA1 zq (aD (aG Z (aC ?_))))))))))); refine aB (aA1 zq (aB3 xq J (aA1 zq (aD (aH Z (aC (aB ?_))))))); (iterate 3 refine aA1 zq ?_); refine aD (aS ?_))
 refine aA5 wq O fun w hs => ?_;exact ⟨Z, hs.chg0⟩
theorem abest_ok (w : World) (lo hi : Nat) (v : Value) (A : List (List Int)) (t : Nat) (h : RdII w lo hi v A) (hA : AimOk A) (ht : (t : Int) ≤ 9223372036854775807) : Ca Tryz.prog 64 [v, .int .i64 t] w fun x w' => ∃ b : Nat, x = .tuple #[aB9 b A.length A.length, .int .i64 (cvV A t), .int .i64 0] ∧ Sat w M0 [.pt b (aX (nI (wtsV A t))) 3] w' := by
 have n8 := hA.n8;have hg := gP hA t;refine cN (Sat.nil w M0) Tryz.func64 Z (by simp [Tryz.ntmps64]) ?_;(refine aC (aB ?_); (iterate 3 refine aA1 zq ?_); refine aD (aC (aB (aA1 zq ?_))));refine aI (val := .int .i64 0) U Z Z Z Z (fun w hs => ?_) ?_; exact by have := iQ w lo hi v A (h.keep hs.chg0) (by simp only [maxLen]; omega); rw [dP.2 hA] at this; exact this
 (refine aA1 zq (aD (aC (aM (aC (aB (aA1 zq (aA6 xq J (aA1 zq (aD (aG Z (aC ?_))))))))))); refine aB (aA1 zq (aB4 xq J (aA1 zq (aD (aG Z (aK (bK (aC (aB (aA1 zq (aA1 zq ?_))))))))))))
 refine bC (β := Nat) U [] _ M0 Z Z Z Z (Sp.refl _) qC (fun w' hs => waits_ca w' lo hi v A t (h.keep hs.chg0) hA ht) ?_;rintro b _ rfl;dsimp only [List.cons_append, List.nil_append];(refine aA1 zq (aD (aC (aB ?_))); (iterate 3 refine aA1 zq ?_));refine aI (val := .int .i64 (cvV A t)) U Z Z Z Z (fun w hs => ?_) ?_; exact by have h9 := Blk.rdI (c := A.length) (hs.blk (b := b) (cs := aX (nI (wtsV A t))) O); rw [eC, hg.ok.len] at h9; exact missed_ca w lo hi _ _ _ _ A (wtsV A t) (h.keep hs.chg0) h9 hA hg.ok
 ((iterate 3 refine aA1 zq ?_); refine aD (aS ?_))
 refine aA5 wq O fun w hs => ?_;exact ⟨b, Z, hs.sp O⟩
theorem aprice_ok (w : World) (lo hi : Nat) (v : Value) (A : List (List Int)) (t : Nat) (h : RdII w lo hi v A) (hA : AimOk A) (ht : (t : Int) ≤ 9223372036854775807) : Ca Tryz.prog 27 [v, .int .i64 t] w fun x w' => x = .tuple #[.int .i64 (mostV A (wtsV A t)), .int .i64 0] ∧ Chg [] w w' := by
 have hg := gP hA t;refine cN (Sat.nil w M0) Tryz.func27 Z (by simp [Tryz.ntmps27]) ?_;(refine aC (aB (aA1 zq (aA1 zq (aD (aC (aB (aA1 zq (aA1 zq ?_)))))))));refine bC (β := Nat) U [] _ M0 Z Z Z Z (Sp.refl _) qC (fun w' hs => abest_ok w' lo hi v A t (h.keep hs.chg0) hA ht) ?_;rintro b _ rfl;dsimp only [List.cons_append, List.nil_append];(refine aA1 zq ?_; (iterate 3 refine aB5 xq ?_); (iterate 3 refine aA1 zq ?_); refine aD (aC (aC (aB (aA1 zq (aA6 xq J (aD (aG Z (aK (aC (aB (aA1 zq ?_))))))))))); refine aA1 zq ?_);refine aI (val := .tuple #[.int .i64 (mostV A (wtsV A t)), .int .i64 (shotV A (wtsV A t))]) U Z Z Z Z (fun w hs => ?_) ?_; exact by have h9 := Blk.rdI (c := A.length) (hs.blk (b := b) (cs := aX (nI (wtsV A t))) O); rw [eC, hg.ok.len] at h9; exact helps_ca w lo hi _ _ _ _ A (wtsV A t) (h.keep hs.chg0) h9 hA hg.ok
 (refine aA1 zq (aB5 xq (aB5 xq (aA1 zq (aA1 zq (aD (aC (aB ?_))))))); (iterate 3 refine aA1 zq ?_); refine aD (aS ?_))
 refine aA5 wq O fun w hs => ?_;exact ⟨Z, hs.chg0⟩
def eD (A : List (List Int)) (n : Nat) : List Int := (List.range n).map fun t => cvV A t
theorem eF (A : List (List Int)) (n : Nat) : (eD A n).length = n := by simp [eD]
theorem curveL_succ (A : List (List Int)) (n : Nat) : aX (eD A (n + 1)) = aX (eD A n) ++ [.int .i64 (cvV A n)] := by
 unfold eD;rw [List.range_succ, List.map_append];simp [aX]
def manyN (A : List (List Int)) : Nat := (manyV A).toNat + 1
theorem acurve_no (w : World) (lo hi : Nat) (v : Value) (A : List (List Int)) (h : RdII w lo hi v A) (hlen : A.length ≤ maxLen) (h0 : fV A ≠ 0) : Ca Tryz.prog 26 [v] w fun x w' => x = .tuple #[.slice none 0 0, .int .i64 (fV A)] ∧ Chg [] w w' := by
 refine cN (Sat.nil w M0) Tryz.func26 Z (by simp [Tryz.ntmps26]) ?_;(refine aC (aB (aA1 zq (aA1 zq (aD (aC (aC (aB (aA1 zq ?_)))))))));refine aI (val := .int .i64 (fV A)) U Z Z Z Z (fun w hs => ?_) ?_; exact iQ w lo hi v A (h.keep hs.chg0) hlen;(refine aA1 zq (aD (aC (aB (aA1 zq (aB0 xq J (aD (aH Z (aC (aB ?_))))))))); (iterate 3 refine aA1 zq ?_); refine aD (aS ?_));refine aA5 wq O fun w hs => ?_;exact ⟨Z, hs.chg0⟩
theorem acurve_ok (w : World) (lo hi : Nat) (v : Value) (A : List (List Int)) (h : RdII w lo hi v A) (hA : AimOk A) : Ca Tryz.prog 26 [v] w fun x w' => ∃ u : Value, x = .tuple #[u, .int .i64 0] ∧ Sat w M0 [.ow u 3 1 (manyN A) (aX (eD A (manyN A)))] w' := by
 have n1 := hA.n1;have n8 := hA.n8;have hmn := many_nn hA;have hml := many_le hA;obtain ⟨a, c, rfl, ha⟩ := RdII.outI h;have ha0 := ha;obtain ⟨gb, go, rfl⟩ := ha0 J
 have hbd : ∀ k, k ≤ A.length → 0 ≤ smF (fun i => (amW A i : Int) - 1) k ∧ smF (fun i => (amW A i : Int) - 1) k ≤ 20 * k := fun k => by
  induction k with
  | zero => intro _; exact ⟨Int.le_refl _, Int.le_refl _⟩
  | succ k ih =>
   intro hk;have h1 := ih J;have h2 := hA.row k J;simp only [smF];omega
 refine cN (Sat.nil w M0) Tryz.func26 Z (by simp [Tryz.ntmps26]) ?_;(refine aC (aB (aA1 zq (aA1 zq (aD (aC (aC (aB (aA1 zq ?_)))))))));refine aI (val := .int .i64 0) U Z Z Z Z (fun w hs => ?_) ?_; exact by have := iQ w lo hi _ A (h.keep hs.chg0) (by simp only [maxLen]; omega); rw [dP.2 hA] at this; exact this
 (refine aA1 zq (aD (aC (aB (aA1 zq (aA6 xq J (aD (aG Z (aK (aC (aB (aA1 zq ?_))))))))))); refine aD (aC (aC (aB ?_))); (iterate 3 refine aA1 zq ?_); refine aD (aM ?_))
 refine bM (σ := Nat) (fun k => k ≤ A.length) (fun k => A.length - k) (fun k => [(0, .slice (some ⟨gb, go, none⟩) A.length c), (5, .int .i64 (1 + smF (fun i => (amW A i : Int) - 1) k)), (15, .slice (some ⟨gb, go, none⟩) A.length c), (16, .int .i64 A.length), (17, .int .i64 k)]) (fun _ => []) 0 J ⟨Z, Z, Z, Z, Z, trivial⟩ O ?_;rintro k hk K hK;have b0 := hbd k hk;(refine aC (aB (aA1 zq (aD (aC ?_)))));refine dN Z (fun hc => ?_) (fun hc => ?_)
 ·have hk2 : k < A.length := by omega
  clear hc;have hrow := hA.row k hk2;have b1 := hbd (k + 1) J;simp only [smF] at b1;obtain ⟨rb, ro, rc, hr1, hr2⟩ := kV h hk2 J;(refine aK (aC (aM (aC (aB ?_)))));refine aA7 Wa J J ?_;refine bI U Z Z Z (fun w hs => hr1 _ hs.chg0) ?_;(refine aA1 zq (aD (aB ?_)); (iterate 3 refine aA1 zq ?_); refine aA4 uq J J (aA4 uq J J (aA1 zq (aD (bK (aB (aA4 uq J J (aA1 zq (aD ?_)))))))));exact hK (k + 1) _ _ J J ⟨Z, fM Z (by simp only [smF]; omega), Z, Z, Z, trivial⟩ O
 ·obtain rfl : k = A.length := by omega
  clear hc hK
  have em : 1 + smF (fun i => (amW A i : Int) - 1) A.length = ((manyN A : Nat) : Int) := by
   have : smF (fun i => (amW A i : Int) - 1) A.length = manyV A := rfl;unfold manyN;omega
  rw [em];generalize hN : manyN A = N at *;have hN2 : N ≤ 161 := by unfold manyN at hN; omega
  (refine bH _ Z (aC (aB (aA1 zq (aD (aC (aC (aB (aA1 zq (aA1 zq (aD (aM ?_))))))))))))
  refine dG (H' := [.ow (.slice none 0 0) 3 1 0 (aX (eD A 0))]) (fun w' hs => Sat.ownil hs 3 1) ?_;refine bM (σ := Nat × Value) (fun z => z.1 ≤ N) (fun z => N - z.1) (fun z => [(0, .slice (some ⟨gb, go, none⟩) A.length c), (8, z.2), (27, .int .i64 N), (28, .int .i64 z.1)]) (fun z => [.ow z.2 3 1 z.1 (aX (eD A z.1))]) (0, .slice none 0 0) (Nat.zero_le _) ⟨Z, Z, Z, Z, trivial⟩ O ?_;rintro ⟨t, u⟩ ht K hK;dsimp only at ht hK ⊢;(refine aC (aB (aA1 zq (aD (aC ?_)))));refine dN Z (fun hc => ?_) (fun hc => ?_)
  ·have ht2 : t < N := by omega
   clear hc;have hg := gP hA t;(refine aK (aC (aM (aC (aB (aA1 zq (aA1 zq (aD (aB ?_)))))))); (iterate 4 refine aA1 zq ?_));refine bC (β := Nat) U [] _ M0 Z Z Z Z (Sp.refl _) qC (fun w' hs => waits_ca w' lo hi _ A t (h.keep hs.chg0) hA J) ?_;rintro b _ rfl;dsimp only [List.cons_append, List.nil_append];refine aI (val := .int .i64 (cvV A t)) U Z Z Z Z (fun w hs => ?_) ?_; exact by have h9 := Blk.rdI (c := A.length) (hs.blk (b := b) (cs := aX (nI (wtsV A t))) O); rw [eC, hg.ok.len] at h9; exact missed_ca w lo hi _ _ _ _ A (wtsV A t) (h.keep hs.chg0) h9 hA hg.ok
   refine cT 3 [.int .i64 (cvV A t)] Z qB Z (fun bn => ?_);refine cW (q := 1) (news := [.int .i64 (cvV A t)]) slI Z Z Z (fun v' => by repeat constructor) (fun w' hs => ⟨_, _, Blk.rdN (hs.blk (b := bn) O) Z⟩) (by simp [dJ]) J J (fun u' => ?_);(refine aA1 zq (aD (bK (aB (aA4 uq J J (aA1 zq (aD ?_)))))));exact hK (t + 1, u') _ _ (by simp only; omega) (by simp only; omega) ⟨Z, Z, Z, Z, trivial⟩ (by dsimp only; rw [curveL_succ]; repeat constructor)
  ·obtain rfl : t = N := by omega
   (refine bH _ Z (aC (aB ?_)); (iterate 3 refine aA1 zq ?_); refine aD (aS ?_))
   refine aA5 wq O fun w hs => ?_;exact ⟨u, Z, hs.sp O⟩
end Go.Proofs.YtopdmadgkjdgcaaGreat
