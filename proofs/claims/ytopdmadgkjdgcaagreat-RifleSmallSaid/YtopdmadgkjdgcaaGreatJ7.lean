/- My texts, joined: lemmas for RifleSmall. -/
import Derived.Test.YtopdmadgkjdgcaaGreatJ6
set_option linter.unusedVariables false
set_option maxHeartbeats 16000000
namespace Go.Proofs.YtopdmadgkjdgcaaGreat
open Go Go.Eng
set_option maxRecDepth 4000
open Go Go.Eng
def wtB (A : List (List Int)) (W : List Int) (k : Nat) : Bool := (List.range k).all fun i => inB (W.getD i 0) 0 ((amW A i : Int) - 1)
theorem wtB_succ (A : List (List Int)) (W : List Int) (k : Nat) : wtB A W (k + 1) = (wtB A W k && inB (W.getD k 0) 0 ((amW A k : Int) - 1)) := by
 unfold wtB;rw [List.range_succ, List.all_append];simp
def dX (A : List (List Int)) (W : List Int) : Int := if fV A ≠ 0 then fV A else if W.length ≠ A.length then 2 else if wtB A W A.length = true then 0 else 3
theorem nI_toNat {W : List Int} (h : ∀ x ∈ W, 0 ≤ x) : nI (W.map Int.toNat) = W := by
 unfold nI;rw [List.map_map]
 conv => rhs; rw [← List.map_id W]
 exact List.map_congr_left fun x hx => by have := h x hx; simp only [Function.comp, id]; omega
theorem wtO_toNat {W : List Int} {i : Nat} (hi : i < W.length) : wtO (W.map Int.toNat) i = (W.getD i 0).toNat := by
 unfold wtO;rw [List.getD_eq_getElem?_getD, List.getElem?_map, List.getElem?_eq_getElem hi, List.getD_eq_getElem?_getD, List.getElem?_eq_getElem hi]
 rfl
theorem wtB_ok {A : List (List Int)} {W : List Int} (hl : W.length = A.length) (h : wtB A W A.length = true) : nI (W.map Int.toNat) = W ∧ WOk A (W.map Int.toNat) := by
 have h1 : ∀ i, i < A.length → 0 ≤ W.getD i 0 ∧ W.getD i 0 ≤ (amW A i : Int) - 1 := fun i hi => bV.1 (List.all_eq_true.1 h i (List.mem_range.2 hi))
 refine ⟨nI_toNat fun x hx => ?_, by rw [List.length_map]; exact hl, fun i hi => ?_⟩
 ·obtain ⟨i, hi, rfl⟩ := List.mem_iff_getElem.1 hx;have := h1 i J;rw [getI hi] at this;exact this.1
 ·have := h1 i hi;rw [wtO_toNat J];omega
theorem wtB_of {A : List (List Int)} {V : List Nat} (h : WOk A V) : wtB A (nI V) A.length = true := by
 refine List.all_eq_true.2 fun i hi => ?_;have hi := List.mem_range.1 hi
 have h1 := h.lt i hi;have h2 := h.len;rw [getI (by rw [eC]; omega), nI_get J];exact bV.2 J
theorem oO {A : List (List Int)} {V : List Nat} (hA : AimOk A) (h : WOk A V) : dX A (nI V) = 0 := by
 unfold dX;rw [if_neg (by rw [dP.2 hA]; simp), if_neg (by rw [eC, h.len]; simp), if_pos (wtB_of h)]
theorem lU (w : World) (lo hi lo2 hi2 : Nat) (v wv : Value) (A : List (List Int)) (W : List Int) (h : RdII w lo hi v A) (hW : RdI w lo2 hi2 wv W) (hlA : A.length ≤ maxLen) : Ca Tryz.prog 136 [v, wv] w fun x w' => x = .int .i64 (dX A W) ∧ Chg [] w w' := by
 obtain ⟨a, c, rfl, ha⟩ := RdII.outI h;obtain ⟨wa, wc, rfl, hwa⟩ := RdI.outI hW;refine cN (Sat.nil w M0) Tryz.func136 Z (by simp [Tryz.ntmps136]) ?_;(refine aC (aB (aA1 zq (aD (aC (aC (aB (aA1 zq ?_))))))));refine aI (val := .int .i64 (fV A)) U Z Z Z Z (fun w hs => ?_) ?_; exact iQ w lo hi _ A (h.keep hs.chg0) hlA;by_cases h0 : fV A = 0
 ·have hA := dP.1 h0;have n1 := hA.n1;have n8 := hA.n8;rw [h0];by_cases hl : W.length = A.length
  ·have e : dX A W = if wtB A W A.length = true then 0 else 3 := by
    unfold dX;rw [if_neg (by rw [h0]; simp), if_neg (by rw [hl]; simp)]
   rw [e];obtain ⟨gb, go, rfl⟩ := ha J;obtain ⟨wb, wo, rfl⟩ := hwa J;rw [hl] at hW ⊢;(refine aA1 zq (aD (aC (aB (aA1 zq (aA6 xq J (aD (aG Z (aK (aC (aC (aB ?_))))))))))); (iterate 4 refine aA1 zq ?_); refine aA6 xq J (aD (aG Z (aK (aC (aC (aB ?_)))))); (iterate 3 refine aA1 zq ?_); refine aD (aM ?_));refine bM (σ := Nat) (fun k => k ≤ A.length ∧ wtB A W k = true) (fun k => A.length - k) (fun k => [(0, .slice (some ⟨gb, go, none⟩) A.length c), (18, .slice (some ⟨wb, wo, none⟩) A.length wc), (19, .int .i64 A.length), (20, .int .i64 k)]) (fun _ => []) 0 ⟨by omega, Z⟩ ⟨Z, Z, Z, Z, trivial⟩ O ?_;rintro k ⟨hk, hok⟩ K hK;(refine aC (aB (aA1 zq (aD (aC ?_)))));refine dN Z (fun hc => ?_) (fun hc => ?_)
   ·have hk2 : k < A.length := by omega
    clear hc;have hrow := hA.row k hk2;obtain ⟨rb, ro, rc, hr1, hr2⟩ := kV h hk2 J;have hs1 := wtB_succ A W k;rw [hok, Bool.true_and] at hs1;(refine aK (aC (aM (aC (aB (aA1 zq ?_))))));refine aA7 Wa J J ?_
    refine bI (v := .int .i64 (W.getD k 0)) U Z Z Z (fun w hs => by
     have := RdI.at (RdE.keep hW hs.chg0) k J;rw [getI J];exact this) ?_
    (refine aA1 zq (aA1 zq (aD (aC (aB ?_)))); (iterate 3 refine aA1 zq ?_))
    refine aA7 Wa J J ?_;refine bI U Z Z Z (fun w hs => hr1 _ hs.chg0) ?_;(refine aA1 zq (aA4 uq J J ?_));refine aI (val := .bool (inB (W.getD k 0) 0 ((amW A k : Int) - 1))) U Z Z Z Z (fun w hs => ?_) ?_; exact eZ (W.getD k 0) 0 ((amW A k : Int) - 1) w;cases hb : inB (W.getD k 0) 0 ((amW A k : Int) - 1) with
    | true =>
     (refine aA1 zq (aD (aG Z (aK (bK (aB (aA4 uq J J (aA1 zq (aD ?_)))))))))
     exact hK (k + 1) _ _ ⟨by omega, by rw [hs1, hb]⟩ J ⟨Z, Z, Z, Z, trivial⟩ O
    | false =>
     have hf : wtB A W A.length = false := iA (p := fun i => inB (W.getD i 0) 0 ((amW A i : Int) - 1)) hb hk2;rw [hf];(refine aA1 zq (aD (aH Z (aC (aB (aA1 zq (aD (aS ?_))))))));refine aA5 wq O fun w hs => ?_
     exact ⟨Z, hs.chg0⟩
   ·obtain rfl : k = A.length := by omega
    rw [hok];(refine bH _ Z (aC (aB (aA1 zq (aD (aS ?_))))));refine aA5 wq O fun w hs => ?_
    exact ⟨Z, hs.chg0⟩
  ·have e : dX A W = 2 := by
    unfold dX;rw [if_neg (by rw [h0]; simp), if_pos hl]
   rw [e];(refine aA1 zq (aD (aC (aB (aA1 zq (aA6 xq J (aD (aG Z (aK (aC (aC (aB ?_))))))))))); (iterate 4 refine aA1 zq ?_); refine aB0 xq J (aD (aH Z (aC (aB (aA1 zq (aD (aS ?_))))))));refine aA5 wq O fun w hs => ?_
   exact ⟨Z, hs.chg0⟩
 ·have e : dX A W = fV A := by
   unfold dX;rw [if_pos h0]
  rw [e];(refine aA1 zq (aD (aC (aB (aA1 zq (aB0 xq J (aD (aH Z (aC (aB (aA1 zq (aA1 zq ?_))))))))))); refine aD (aS ?_));refine aA5 wq O fun w hs => ?_
  exact ⟨Z, hs.chg0⟩
theorem amiss_no (w : World) (lo hi lo2 hi2 : Nat) (v wv : Value) (A : List (List Int)) (W : List Int) (h : RdII w lo hi v A) (hW : RdI w lo2 hi2 wv W) (hlA : A.length ≤ maxLen) (h0 : dX A W ≠ 0) : Ca Tryz.prog 65 [v, wv] w fun x w' => x = .tuple #[.int .i64 0, .int .i64 (dX A W)] ∧ Chg [] w w' := by
 refine cN (Sat.nil w M0) Tryz.func65 Z (by simp [Tryz.ntmps65]) ?_;(refine aC (aB (aA1 zq (aA1 zq (aD (aC (aC (aB (aA1 zq (aA1 zq ?_))))))))));refine aI (val := .int .i64 (dX A W)) U Z Z Z Z (fun w hs => ?_) ?_; exact lU w lo hi lo2 hi2 v wv A W (h.keep hs.chg0) (RdE.keep hW hs.chg0) hlA;(refine aA1 zq (aD (aC (aB (aA1 zq (aB0 xq J (aD (aH Z (aC (aB ?_))))))))); (iterate 3 refine aA1 zq ?_); refine aD (aS ?_));refine aA5 wq O fun w hs => ?_;exact ⟨Z, hs.chg0⟩
theorem amiss_ok (w : World) (lo hi lo2 hi2 : Nat) (v wv : Value) (A : List (List Int)) (V : List Nat) (h : RdII w lo hi v A) (hW : RdI w lo2 hi2 wv (nI V)) (hA : AimOk A) (hV : WOk A V) : Ca Tryz.prog 65 [v, wv] w fun x w' => x = .tuple #[.int .i64 (iH A V), .int .i64 0] ∧ Chg [] w w' := by
 have n8 := hA.n8;refine cN (Sat.nil w M0) Tryz.func65 Z (by simp [Tryz.ntmps65]) ?_;(refine aC (aB (aA1 zq (aA1 zq (aD (aC (aC (aB (aA1 zq (aA1 zq ?_))))))))));refine aI (val := .int .i64 0) U Z Z Z Z (fun w hs => ?_) ?_; exact by have := lU w lo hi lo2 hi2 v wv A (nI V) (h.keep hs.chg0) (RdE.keep hW hs.chg0) (by simp only [maxLen]; omega); rw [oO hA hV] at this; exact this
 (refine aA1 zq (aD (aC (aB (aA1 zq (aA6 xq J (aD (aG Z (aK (aC (aB (aA1 zq ?_))))))))))); refine aA1 zq ?_)
 refine aI (val := .int .i64 (iH A V)) U Z Z Z Z (fun w hs => ?_) ?_; exact missed_ca w lo hi lo2 hi2 v wv A V (h.keep hs.chg0) (RdE.keep hW hs.chg0) hA hV;(refine aA1 zq (aA1 zq (aD (aS ?_))));refine aA5 wq O fun w hs => ?_;exact ⟨Z, hs.chg0⟩
def hoR (A : List (List Int)) (V : List Nat) (q : Int) (i k : Nat) : Bool := (List.range k).all fun v => decide (amA A i (wtO V i) + q * wtO V i ≤ amA A i v + q * v)
def hoB (A : List (List Int)) (V : List Nat) (q : Int) (k : Nat) : Bool := (List.range k).all fun i => hoR A V q i (amW A i)
theorem hoR_succ (A : List (List Int)) (V : List Nat) (q : Int) (i k : Nat) : hoR A V q i (k + 1) = (hoR A V q i k && decide (amA A i (wtO V i) + q * wtO V i ≤ amA A i k + q * k)) := by
 unfold hoR;rw [List.range_succ, List.all_append];simp
theorem hoB_succ (A : List (List Int)) (V : List Nat) (q : Int) (k : Nat) : hoB A V q (k + 1) = (hoB A V q k && hoR A V q k (amW A k)) := by
 unfold hoB;rw [List.range_succ, List.all_append];simp
def hoV (A : List (List Int)) (V : List Nat) (p : Int) : Bool := hoB A V (min p 1001) A.length && true
theorem aholds_no (w : World) (lo hi lo2 hi2 : Nat) (v wv : Value) (A : List (List Int)) (W : List Int) (p : Int) (h : RdII w lo hi v A) (hW : RdI w lo2 hi2 wv W) (hlA : A.length ≤ maxLen) (h0 : dX A W ≠ 0) : Ca Tryz.prog 66 [v, wv, .int .i64 p] w fun x w' => x = .tuple #[.bool false, .int .i64 (dX A W)] ∧ Chg [] w w' := by
 refine cN (Sat.nil w M0) Tryz.func66 Z (by simp [Tryz.ntmps66]) ?_;(refine aC (aB (aA1 zq (aA1 zq (aD (aC (aB (aA1 zq (aA1 zq ?_)))))))));refine aI (val := .int .i64 (dX A W)) U Z Z Z Z (fun w hs => ?_) ?_; exact lU w lo hi lo2 hi2 v wv A W (h.keep hs.chg0) (RdE.keep hW hs.chg0) hlA;(refine aA1 zq (aD (aC (aM (aC (aB (aA1 zq (aB0 xq J (aA1 zq (aD (aH Z (aC ?_))))))))))); refine aB ?_; (iterate 3 refine aA1 zq ?_); refine aD (aS ?_));refine aA5 wq O fun w hs => ?_;exact ⟨Z, hs.chg0⟩
theorem aholds_neg (w : World) (lo hi lo2 hi2 : Nat) (v wv : Value) (A : List (List Int)) (V : List Nat) (p : Int) (h : RdII w lo hi v A) (hW : RdI w lo2 hi2 wv (nI V)) (hA : AimOk A) (hV : WOk A V) (hp : p < 0) : Ca Tryz.prog 66 [v, wv, .int .i64 p] w fun x w' => x = .tuple #[.bool false, .int .i64 3] ∧ Chg [] w w' := by
 have n8 := hA.n8;refine cN (Sat.nil w M0) Tryz.func66 Z (by simp [Tryz.ntmps66]) ?_;(refine aC (aB (aA1 zq (aA1 zq (aD (aC (aB (aA1 zq (aA1 zq ?_)))))))));refine aI (val := .int .i64 0) U Z Z Z Z (fun w hs => ?_) ?_; exact by have := lU w lo hi lo2 hi2 v wv A (nI V) (h.keep hs.chg0) (RdE.keep hW hs.chg0) (by simp only [maxLen]; omega); rw [oO hA hV] at this; exact this
 (refine aA1 zq (aD (aC (aM (aC (aB (aA1 zq (aA6 xq J (aA1 zq (aD (aG Z (aC ?_))))))))))); refine aB (aA1 zq (aB3 xq J (aA1 zq (aD (aH Z (aC (aB (aA1 zq (aA1 zq (aD (aS ?_))))))))))))
 refine aA5 wq O fun w hs => ?_;exact ⟨Z, hs.chg0⟩
theorem aholds_ok (w : World) (lo hi lo2 hi2 : Nat) (v wv : Value) (A : List (List Int)) (V : List Nat) (p : Int) (h : RdII w lo hi v A) (hW : RdI w lo2 hi2 wv (nI V)) (hA : AimOk A) (hV : WOk A V) (hp : 0 ≤ p) : Ca Tryz.prog 66 [v, wv, .int .i64 p] w fun x w' => x = .tuple #[.bool (hoV A V p), .int .i64 0] ∧ Chg [] w w' := by
 have n1 := hA.n1;have n8 := hA.n8;have hl := hV.len;obtain ⟨a, c, rfl, ha⟩ := RdII.outI h;obtain ⟨gb, go, rfl⟩ := ha J;obtain ⟨wa, wc, rfl, hwa⟩ := RdI.outI hW;rw [eC, hl] at hwa hW ⊢;obtain ⟨wb, wo, rfl⟩ := hwa J;refine cN (Sat.nil w M0) Tryz.func66 Z (by simp [Tryz.ntmps66]) ?_;(refine aC (aB (aA1 zq (aA1 zq (aD (aC (aB (aA1 zq (aA1 zq ?_)))))))));refine aI (val := .int .i64 0) U Z Z Z Z (fun w hs => ?_) ?_; exact by have := lU w lo hi lo2 hi2 _ _ A (nI V) (h.keep hs.chg0) (RdE.keep hW hs.chg0) (by simp only [maxLen]; omega); rw [oO hA hV] at this; exact this
 have e0 : hoV A V p = hoB A V (min p 1001) A.length := by unfold hoV; rw [Bool.and_true]
 rw [e0];(refine aA1 zq (aD (aC (aM (aC (aB (aA1 zq (aA6 xq J (aA1 zq (aD (aG Z (aC ?_))))))))))); refine aB (aA1 zq (aB4 xq J (aA1 zq (aD (aG Z (aK (bK (aC (aB ?_))))))))); (iterate 3 refine aA1 zq ?_); refine aD (aC (aC (aB ?_))); (iterate 3 refine aA1 zq ?_); refine aD (aM ?_));obtain ⟨q, hq⟩ : ∃ q, q = min p 1001 := ⟨_, rfl⟩;rw [← hq];have hq2 : 0 ≤ q ∧ q ≤ 1001 := by omega
 clear hq e0;refine bM (σ := Nat) (fun k => k ≤ A.length ∧ hoB A V q k = true) (fun k => A.length - k) (fun k => [(0, .slice (some ⟨gb, go, none⟩) A.length c), (2, .int .i64 q), (25, .slice (some ⟨wb, wo, none⟩) A.length wc), (26, .int .i64 A.length), (27, .int .i64 k)]) (fun _ => []) 0 ⟨by omega, Z⟩ ⟨Z, Z, Z, Z, Z, trivial⟩ O ?_;rintro k ⟨hk, hok⟩ K hK;(refine aC (aB (aA1 zq (aD (aC ?_)))));refine dN Z (fun hc => ?_) (fun hc => ?_)
 ·have hk2 : k < A.length := by omega
  clear hc;have hrow := hA.row k hk2;have hx := hV.lt k hk2;obtain ⟨rb, ro, rc, hr1, hr2⟩ := kV h hk2 J;have hs1 := hoB_succ A V q k;rw [hok, Bool.true_and] at hs1;(refine aK (aC (aM (aC (aB (aA1 zq ?_))))));refine aA7 Wa J J ?_
  refine bI (v := .int .i64 (wtO V k)) U Z Z Z (fun w hs => by
   have := RdI.at (RdE.keep hW hs.chg0) k (by rw [eC]; omega);rw [nI_get J] at this;exact this) ?_
  (refine aA1 zq (aA1 zq (aD (aC (aB (aA1 zq (aA1 zq ?_)))))))
  refine aA7 Wa J J ?_;refine bI U Z Z Z (fun w hs => hr1 _ hs.chg0) ?_;have m1 : 0 ≤ q * (wtO V k : Int) ∧ q * (wtO V k : Int) ≤ 30000 := ⟨Int.mul_nonneg hq2.1 J, Int.le_trans (Int.mul_le_mul hq2.2 (show (wtO V k : Int) ≤ 21 by omega) J J) (by decide)⟩;have b1 := hA.bd k _ hk2 hx;(refine aA1 zq (aA1 zq (aD (aM ?_))));refine bM (σ := Nat) (fun v => v ≤ amW A k ∧ hoR A V q k v = true) (fun v => amW A k - v) (fun v => [(0, .slice (some ⟨gb, go, none⟩) A.length c), (2, .int .i64 q), (25, .slice (some ⟨wb, wo, none⟩) A.length wc), (26, .int .i64 A.length), (27, .int .i64 k), (9, .int .i64 k), (10, .int .i64 (wtO V k)), (35, .slice (some ⟨rb, ro, none⟩) (amW A k) rc), (36, .int .i64 (amW A k)), (37, .int .i64 v)]) (fun _ => []) 0 ⟨by omega, Z⟩ ⟨Z, Z, Z, Z, Z, Z, Z, Z, Z, Z, trivial⟩ O ?_;rintro v ⟨hv, hov⟩ K2 hK2;(refine aC (aB (aA1 zq (aD (aC ?_)))));refine dN Z (fun hc => ?_) (fun hc => ?_)
  ·have hv2 : v < amW A k := by omega
   clear hc;have hs2 := hoR_succ A V q k v;rw [hov, Bool.true_and] at hs2;have m2 : 0 ≤ q * (v : Int) ∧ q * (v : Int) ≤ 30000 := ⟨Int.mul_nonneg hq2.1 J, Int.le_trans (Int.mul_le_mul hq2.2 (show (v : Int) ≤ 21 by omega) J J) (by decide)⟩;have b2 := hA.bd k _ hk2 hv2;(refine aK (aC (aM (aC (aB (aA1 zq ?_))))));refine aA7 Wa J J ?_;refine bI U Z Z Z (fun w hs => hr2 v hv2 _ hs.chg0) ?_;by_cases hle : amA A k (wtO V k) + q * wtO V k ≤ amA A k v + q * v
   ·(refine aA1 zq (aA1 zq (aD (aC (aB ?_)))); (iterate 3 refine aA1 zq ?_); refine aA4 uq J J (aA4 uq J J (aA1 zq (aA1 zq ?_))))
    refine aA7 Wa J J ?_;refine bI U Z Z Z (fun w hs => hr1 _ hs.chg0) ?_;(refine aA1 zq ?_);refine aA7 Wa J J ?_;refine bI U Z Z Z (fun w hs => hr2 _ hx _ hs.chg0) ?_;(refine aA1 zq (aA1 zq (aA4 uq J J (aA4 uq J J (aB4 xq J (aD (aG Z (aK (bK (aB (aA4 uq J J (aA1 zq ?_))))))))))); refine aD ?_);exact hK2 (v + 1) _ _ ⟨by omega, by rw [hs2, decide_eq_true hle]⟩ J ⟨Z, Z, Z, Z, Z, Z, Z, Z, Z, Z, trivial⟩ O
   ·have hf : hoR A V q k (amW A k) = false := iA (p := fun v => decide (amA A k (wtO V k) + q * wtO V k ≤ amA A k v + q * v)) (decide_eq_false hle) hv2;have hf2 : hoB A V q A.length = false := iA (p := fun i => hoR A V q i (amW A i)) hf hk2;rw [hf2];(refine aA1 zq (aA1 zq (aD (aC (aB ?_)))); (iterate 3 refine aA1 zq ?_); refine aA4 uq J J (aA4 uq J J (aA1 zq (aA1 zq ?_))));refine aA7 Wa J J ?_;refine bI U Z Z Z (fun w hs => hr1 _ hs.chg0) ?_;(refine aA1 zq ?_);refine aA7 Wa J J ?_;refine bI U Z Z Z (fun w hs => hr2 _ hx _ hs.chg0) ?_;(refine aA1 zq (aA1 zq (aA4 uq J J (aA4 uq J J (aB3 xq J (aD (aH Z (aC (aB (aA1 zq (aA1 zq (aD ?_))))))))))); refine aS ?_);refine aA5 wq O fun w hs => ?_
    exact ⟨Z, hs.chg0⟩
  ·obtain rfl : v = amW A k := by omega
   clear hc hK2;(refine bH _ Z (bK (aB (aA4 uq J J (aA1 zq (aD ?_))))));exact hK (k + 1) _ _ ⟨by omega, by rw [hs1, hov]⟩ J ⟨Z, Z, Z, Z, Z, trivial⟩ O
 ·obtain rfl : k = A.length := by omega
  rw [hok];(refine bH _ Z (aC (aB (aA1 zq (aA1 zq (aD (aS ?_)))))));refine aA5 wq O fun w hs => ?_
  exact ⟨Z, hs.chg0⟩
theorem rchkA_ca (w : World) (lo hi : Nat) (v : Value) (A : List (List Int)) (h : RdII w lo hi v A) (hlen : A.length ≤ maxLen) (hrl : ∀ r ∈ A, r.length ≤ maxLen) : Ca Tryz.prog 83 [v] w fun x w' => x = .int .i64 (fV A) ∧ Chg [] w w' := by
 obtain ⟨a, c, rfl, ha⟩ := RdII.outI h;have hII := h;simp only [maxLen] at hlen hrl;refine cN (Sat.nil w M0) Tryz.func83 Z (by simp [Tryz.ntmps83]) ?_;by_cases c1 : A.length < 1
 ·have hbad : fV A = 2 := by unfold fV; rw [show inB (A.length : Int) 1 8 = false from by rw [← Bool.not_eq_true, bV]; omega]; rfl
  (refine aC (aB (aA1 zq (aD (aC (aC (aB (aA1 zq (aA1 zq (aB3 xq J (aA1 zq ?_)))))))))); (iterate 3 refine aA8 yq ?_); refine aA1 zq (aD (aH Z (aC (aB (aA1 zq (aD (aS ?_))))))))
  refine aA5 wq O fun w hs => ?_;exact ⟨by rw [hbad]; rfl, hs.chg0⟩
 by_cases c2 : 8 < A.length
 ·have hbad : fV A = 2 := by unfold fV; rw [show inB (A.length : Int) 1 8 = false from by rw [← Bool.not_eq_true, bV]; omega]; rfl
  (refine aC (aB (aA1 zq (aD (aC (aC (aB (aA1 zq (aA1 zq (aB4 xq J (aA1 zq (aE Z ?_))))))))))); refine aA1 zq (aE Z (aA1 zq (aE Z (cR U Z Z Z J (aA1 zq (aD (aH Z (aC (aB (aA1 zq (aD ?_))))))))))); refine aS ?_)
  refine aA5 wq O fun w hs => ?_;exact ⟨by rw [hbad]; rfl, hs.chg0⟩
 have h18 : inB (A.length : Int) 1 8 = true := bV.2 J;obtain ⟨gb, go, rfl⟩ := ha J;(refine aC (aB (aA1 zq (aD (aC (aC (aB (aA1 zq (aA1 zq (aB4 xq J (aA1 zq (aE Z ?_))))))))))); refine aA1 zq (aE Z (aA1 zq (aE Z (aB1 xq J (aA1 zq (aD (aG Z (aK (aC (aC (aB ?_))))))))))); refine aA1 zq (aD (aM ?_)));refine bM (σ := Nat) (fun k => k ≤ A.length ∧ (A.take k).all pI = true) (fun k => A.length - k) (fun k => [(0, (.slice (some ⟨gb, go, none⟩) A.length c)), (3, .int .i64 k)]) (fun _ => []) 0 ⟨by omega, Z⟩ ⟨Z, Z, trivial⟩ O ?_;rintro k ⟨hk, hok⟩ K hK;(refine aC (aC (aB ?_)); (iterate 4 refine aA1 zq ?_); refine aD ?_);refine dN Z (fun hc => ?_) (fun hc => ?_)
 ·have hk2 : k < A.length := by omega
  clear hc;have hall := kM (p := pI) hk2 hok;have hnot := mI (p := pI) hk2;have hrk := hrl _ (List.getElem_mem hk2);obtain ⟨ra, rc, hr, hrc⟩ := RdII.row hII k hk2;obtain ⟨row, hrowe⟩ : ∃ row, row = A[k] := ⟨_, rfl⟩;rw [← hrowe] at hr hrc;have hbad2 : inB (row.length : Int) 1 21 = false → fV A = 2 := fun e => by unfold fV; rw [h18, hnot (by rw [← hrowe]; unfold pI; rw [e]; rfl)]; rfl
  rw [← hrowe] at hall hrk;(refine aK (aC (aM (aC (aB (aA1 zq (aA1 zq ?_)))))));refine aA7 Wa J J ?_;refine bI U Z Z Z (fun w hs => hrc _ hs.chg0) ?_;by_cases d1 : row.length < 1
  ·have hbad := hbad2 (by rw [← Bool.not_eq_true, bV]; omega);(refine aA1 zq (aB3 xq J (aA1 zq ?_)); (iterate 6 refine aA8 yq ?_); refine aA1 zq (aD (aH Z (aC (aB (aA1 zq (aD (aS ?_))))))));refine aA5 wq O fun w hs => ?_
   exact ⟨by rw [hbad]; rfl, hs.chg0⟩
  ·(refine aA1 zq (aB4 xq J (aA1 zq (aE Z (aA1 zq (aE Z (aA1 zq (aE Z ?_))))))))
   refine aA7 Wa J J ?_;(refine aE Z ?_);refine bI U Z Z Z (fun w hs => hrc _ hs.chg0) ?_;by_cases d2 : 21 < row.length
   ·have hbad := hbad2 (by rw [← Bool.not_eq_true, bV]; omega);(refine aE Z (aA1 zq (aE Z (cR U Z Z Z J (aA1 zq (aD (aH Z (aC (aB (aA1 zq (aD (aS ?_))))))))))));refine aA5 wq O fun w hs => ?_
    exact ⟨by rw [hbad]; rfl, hs.chg0⟩
   ·(refine aE Z (aA1 zq (aE Z (aB1 xq J (aA1 zq (aD (aG Z (aK (bK (aB (aA1 zq (aA4 uq J J ?_))))))))))); refine aA1 zq (aD ?_))
    exact hK (k + 1) _ _ ⟨by omega, hall (by unfold pI; rw [bV.2 J]; rfl)⟩ J ⟨Z, Z, trivial⟩ O
 obtain rfl : k = A.length := by omega
 clear hc hK hk;rw [List.take_length] at hok
 have hl20 : ∀ r ∈ A, r.length ≤ 21 := fun r hm => by
  have := List.all_eq_true.1 hok r hm;simp only [pI, Bool.and_true] at this;have := bV.1 this;omega
 have e0 : fV A = if A.all rngAB = false then 3 else if pY A A.length = false then 4 else 0 := by
  unfold fV;rw [if_neg (by rw [h18, hok]; simp)]
 clear hok;(refine bH _ Z (aC (aC (aB (aA1 zq (aD (aM ?_)))))));refine bM (σ := Nat) (fun k => k ≤ A.length ∧ (A.take k).all rngAB = true) (fun k => A.length - k) (fun k => [(0, (.slice (some ⟨gb, go, none⟩) A.length c)), (4, .int .i64 k)]) (fun _ => []) 0 ⟨by omega, Z⟩ ⟨Z, Z, trivial⟩ O ?_;rintro k ⟨hk, hok⟩ K hK;(refine aC (aC (aB ?_)); (iterate 4 refine aA1 zq ?_); refine aD ?_);refine dN Z (fun hc => ?_) (fun hc => ?_)
 ·have hk2 : k < A.length := by omega
  clear hc;have hall := kM (p := rngAB) hk2 hok;have hnot := mI (p := rngAB) hk2;have hrk := hl20 _ (List.getElem_mem hk2);obtain ⟨ra, rc, hr, hrc⟩ := RdII.row hII k hk2;obtain ⟨row, hrowe⟩ : ∃ row, row = A[k] := ⟨_, rfl⟩;rw [← hrowe] at hr hrc;have hbad2 : rngAB row = false → fV A = 3 := fun e => by rw [e0, if_pos (hnot (by rw [← hrowe]; exact e))]
  rw [← hrowe] at hall hrk;clear hnot hrowe;obtain ⟨ra', rc', er, hra⟩ := RdI.outI hr;cases er
  (refine aK (aC (aM (aC (aB (aA1 zq (aD (aM ?_))))))))
  refine bM (σ := Nat) (fun u => u ≤ row.length ∧ ((row.take u).all fun n => inB n 0 1000) = true) (fun u => row.length - u) (fun u => [(0, (.slice (some ⟨gb, go, none⟩) A.length c)), (4, .int .i64 k), (5, .int .i64 u)]) (fun _ => []) 0 ⟨by omega, Z⟩ ⟨Z, Z, Z, trivial⟩ O ?_;rintro u ⟨hu, hou⟩ K2 hK2;(refine aC (aC (aB ?_)); (iterate 3 refine aA1 zq ?_));refine aA7 Wa J J ?_;refine bI U Z Z Z (fun w hs => hrc _ hs.chg0) ?_;(refine aA1 zq (aA1 zq (aD ?_)));refine dN Z (fun hc => ?_) (fun hc => ?_)
  ·have hu2 : u < row.length := by omega
   clear hc;have hall2 := kM (p := fun n => inB n 0 1000) hu2 hou;obtain ⟨rb, ro, rfl⟩ := hra J;have hrow : ∀ i (hi : i < row.length) (w' : World), Chg [] w w' → w'.cell? ⟨rb, ro + i * 1, none⟩ = some (.int .i64 row[i]) := fun i hi w' hs => RdI.at (RdE.keep hr hs) i hi
   (refine aK (aC (aM (aC (aB (aA1 zq (aA1 zq ?_)))))))
   refine aA7 Wa J J ?_;refine bI U Z Z Z (fun w hs => hrc _ hs.chg0) ?_;(refine aA1 zq ?_);refine aA7 Wa J J ?_;refine bI (v := .int .i64 row[u]) U Z Z Z (fun w hs => hrow (u) hu2 _ hs.chg0) ?_;refine aI (val := .bool (!(inB row[u] 0 1000))) U Z Z Z Z (fun w hs => ?_) ?_; exact fD row[u] 0 1000 w;cases d : inB row[u] 0 1000 with
   | false =>
    have hbad := hbad2 (mI (p := fun n => inB n 0 1000) hu2 d);(refine aD (aH Z (aC (aB (aA1 zq (aD (aS ?_)))))));refine aA5 wq O fun w hs => ?_
    exact ⟨by rw [hbad]; rfl, hs.chg0⟩
   | true =>
    (refine aD (aG Z (aK (bK (aB (aA1 zq (aA4 uq J J (aA1 zq (aD ?_)))))))))
    exact hK2 (u + 1) _ _ ⟨by omega, hall2 d⟩ J ⟨Z, Z, Z, trivial⟩ O
  ·obtain rfl : u = row.length := by omega
   clear hc hK2;rw [List.take_length] at hou;(refine bH _ Z (bK (aB (aA1 zq (aA4 uq J J (aA1 zq (aD ?_)))))));exact hK (k + 1) _ _ ⟨by omega, hall hou⟩ J ⟨Z, Z, trivial⟩ O
 obtain rfl : k = A.length := by omega
 clear hc hK hk;rw [List.take_length] at hok;rw [if_neg (by rw [hok]; simp)] at e0;(refine bH _ Z (aC (aC (aB (aA1 zq (aD (aM ?_)))))));refine bM (σ := Nat) (fun k => k ≤ A.length ∧ pY A k = true) (fun k => A.length - k) (fun k => [(0, (.slice (some ⟨gb, go, none⟩) A.length c)), (6, .int .i64 k)]) (fun _ => []) 0 ⟨by omega, Z⟩ ⟨Z, Z, trivial⟩ O ?_;rintro k ⟨hk, hoa⟩ K hK;(refine aC (aC (aB ?_)); (iterate 4 refine aA1 zq ?_); refine aD ?_);refine dN Z (fun hc => ?_) (fun hc => ?_)
 ·have hk2 : k < A.length := by omega
  clear hc;have hsu := ordAA_succ A k;rw [hoa, Bool.true_and, getA hk2] at hsu;have hrk := hl20 _ (List.getElem_mem hk2);have hbd : ∀ i (hi : i < A[k].length), 0 ≤ A[k][i] ∧ A[k][i] ≤ 1000 := fun i hi => bV.1 (List.all_eq_true.1 (List.all_eq_true.1 hok _ (List.getElem_mem hk2)) _ (List.getElem_mem hi))
  obtain ⟨ra, rc, hr, hrc⟩ := RdII.row hII k hk2;generalize A[k] = row at hsu hr hrc hrk hbd;obtain ⟨ra', rc', er, hra⟩ := RdI.outI hr;cases er
  (refine aK (aC (aM (aC (aB (aA1 zq (aD (aM ?_))))))))
  refine bM (σ := Nat) (fun u => 1 ≤ u ∧ (u ≤ row.length ∨ u = 1) ∧ ordAR row u = true) (fun u => row.length - u) (fun u => [(0, (.slice (some ⟨gb, go, none⟩) A.length c)), (6, .int .i64 k), (7, .int .i64 u)]) (fun _ => []) 1 ⟨Nat.le_refl _, .inr rfl, by simp [ordAR]⟩ ⟨Z, Z, Z, trivial⟩ O ?_;rintro u ⟨hu1, hu2, hou⟩ K2 hK2;(refine aC (aC (aB ?_)); (iterate 3 refine aA1 zq ?_));refine aA7 Wa J J ?_;refine bI U Z Z Z (fun w hs => hrc _ hs.chg0) ?_;(refine aA1 zq (aA1 zq (aD ?_)));refine dN Z (fun hc => ?_) (fun hc => ?_)
  ·have hu3 : u < row.length := by omega
   clear hc;have hsr := ordAR_succ row u;rw [hou, Bool.true_and, decide_eq_false J, Bool.false_or] at hsr;obtain ⟨rb, ro, rfl⟩ := hra J;obtain ⟨q, rfl⟩ : ∃ q, u = q + 1 := ⟨u - 1, by omega⟩;have hq : q < row.length := by omega
   have hrow : ∀ i (hi : i < row.length) (w' : World), Chg [] w w' → w'.cell? ⟨rb, ro + i * 1, none⟩ = some (.int .i64 row[i]) := fun i hi w' hs => RdI.at (RdE.keep hr hs) i hi
   have b1 := hbd (q + 1) hu3;have b2 := hbd q hq;have hq1 : ((q + 1 : Nat) : Int) - 1 = q := by omega
   have hfalse : mN row (q + 1) = false → fV A = 4 := fun e => by
    have h6 : pY A (k + 1) = false := by rw [hsu]; exact iA (k := q + 1) (by rw [e]; simp) hu3
    have h7 : pY A A.length = false := by
     unfold pY at h6 ⊢;rw [List.all_eq_false] at h6 ⊢;obtain ⟨z, z1, z2⟩ := h6;exact ⟨z, List.mem_range.2 (by have := List.mem_range.1 z1; omega), z2⟩
    rw [e0, if_pos h7]
   have hord : mN row (q + 1) = (decide (row[q + 1] ≤ row[q]) && (decide (q + 1 ≤ 1) || decide (row[q] - row[q + 1] ≤ row.getD (q + 1 - 2) 0 - row[q]))) := by
    unfold mN;rw [Nat.add_sub_cancel, getI hu3, getI hq]
   (refine aK (aC (aM (aC (aC ?_)))))
   refine bZ _ [] (Sp.refl _) qB qB ?_;(refine aA2 xq (aA2 xq ?_));refine aA3 Wa J J ?_;refine aR U Z Z Z (fun w hs => hrc _ hs.chg0) ?_;(refine aA2 xq ?_);refine aA3 Wa J J ?_;refine aR (v := .int .i64 row[q + 1]) U Z Z Z (fun w hs => hrow (q + 1) hu3 _ hs.chg0) ?_;(refine aA2 xq (aA2 xq ?_));refine aA3 Wa J J ?_;refine aR U Z Z Z (fun w hs => hrc _ hs.chg0) ?_;(refine aA2 xq (aA9 uq J J ?_));rw [hq1];refine aA3 Wa J J ?_;refine aR (v := .int .i64 row[q]) U Z Z Z (fun w hs => hrow (q) hq _ hs.chg0) ?_;by_cases d1 : row[q] < row[q + 1]
   ·have hbad := hfalse (by rw [hord, decide_eq_false J]; rfl);(refine gX U Z Z Z J (aN (aH Z (aC (aB (aA1 zq (aD (aS ?_))))))));refine aA5 wq O fun w hs => ?_
    exact ⟨by rw [hbad]; rfl, hs.chg0⟩
   ·by_cases d2 : q = 0
    ·subst d2;(refine gF U Z Z Z J (aN (aG Z (aK (aC ?_)))));refine bZ _ [] (Sp.refl _) qB qB ?_;(refine aA2 xq (gF U Z Z Z J (aA2 xq ?_)); (iterate 26 refine dH Z Z Z ?_); refine aA2 xq (aN (aG Z (aK (bK (aB (aA1 zq (aA4 uq J J (aA1 zq (aD ?_))))))))));exact hK2 (0 + 1 + 1) _ _ ⟨by omega, by omega, by rw [hsr, hord, decide_eq_true J]; rfl⟩ J ⟨Z, Z, Z, trivial⟩ O
    ·obtain ⟨z, rfl⟩ : ∃ z, q = z + 1 := ⟨q - 1, by omega⟩;have hz : z < row.length := by omega
     have b3 := hbd z hz;have hz2 : ((z + 1 + 1 : Nat) : Int) - 2 = z := by omega
     have hord2 : mN row (z + 1 + 1) = decide (row[z + 1] - row[z + 1 + 1] ≤ row[z] - row[z + 1]) := by
      rw [hord, decide_eq_true J, Bool.true_and, decide_eq_false (show ¬ z + 1 + 1 ≤ 1 by omega), Bool.false_or, show z + 1 + 1 - 2 = z from by omega, getI hz]
     (refine gF U Z Z Z J (aN (aG Z (aK (aC ?_)))))
     refine bZ _ [] (Sp.refl _) qB qB ?_;(refine aA2 xq (gX U Z Z Z J (aA2 xq (aL Z (aA2 xq (aL Z (aA2 xq (aL Z ?_))))))));refine aA3 Wa J J ?_;(refine aL Z ?_);refine aR U Z Z Z (fun w hs => hrc _ hs.chg0) ?_;(refine aL Z (aA2 xq (aL Z (aA9 uq J J (aL Z ?_)))));rw [hz2];refine aA3 Wa J J ?_;(refine aL Z ?_);refine aR (v := .int .i64 row[z]) U Z Z Z (fun w hs => hrow (z) hz _ hs.chg0) ?_;(refine aL Z (aA2 xq (aL Z (aA2 xq (aL Z ?_)))));refine aA3 Wa J J ?_;(refine aL Z ?_);refine aR U Z Z Z (fun w hs => hrc _ hs.chg0) ?_;(refine aL Z (aA2 xq (aL Z ?_)));refine aA3 Wa J J ?_;(refine aL Z ?_);refine aR (v := .int .i64 row[z + 1 + 1]) U Z Z Z (fun w hs => hrow (z + 1 + 1) hu3 _ hs.chg0) ?_;(refine aL Z (aA9 uq J J (aL Z (aA2 xq (aL Z (aA2 xq (aL Z ?_)))))));refine aA3 Wa J J ?_;(refine aL Z ?_);refine aR U Z Z Z (fun w hs => hrc _ hs.chg0) ?_;(refine aL Z (aA2 xq (aL Z (aA9 uq J J (aL Z ?_)))));rw [hq1];refine aA3 Wa J J ?_;(refine aL Z ?_);refine aR (v := .int .i64 row[z + 1]) U Z Z Z (fun w hs => hrow (z + 1) hq _ hs.chg0) ?_;by_cases d3 : row[z] + row[z + 1 + 1] < 2 * row[z + 1]
     ·have hbad := hfalse (by rw [hord2, decide_eq_false J]);(refine aL Z (aA9 uq J J (aL Z (kX U Z Z Z J (aA2 xq (aN (aH Z (aC (aB (aA1 zq (aD (aS ?_))))))))))));refine aA5 wq O fun w hs => ?_
      exact ⟨by rw [hbad]; rfl, hs.chg0⟩
     ·(refine aL Z (aA9 uq J J (aL Z (kO U Z Z Z J (aA2 xq (aN (aG Z (aK (bK (aB (aA1 zq (aA4 uq J J ?_))))))))))); refine aA1 zq (aD ?_))
      exact hK2 (z + 1 + 1 + 1) _ _ ⟨by omega, by omega, by rw [hsr, hord2, decide_eq_true J]⟩ J ⟨Z, Z, Z, trivial⟩ O
  ·have hou2 : ordAR row row.length = true := by
    by_cases e : u ≤ row.length
    ·obtain rfl : u = row.length := by omega
     exact hou
    ·have : row.length = 0 := by omega
     rw [this]
     rfl
   clear hc hK2;(refine bH _ Z (bK (aB (aA1 zq (aA4 uq J J (aA1 zq (aD ?_)))))));exact hK (k + 1) _ _ ⟨by omega, by rw [hsu]; exact hou2⟩ J ⟨Z, Z, trivial⟩ O
 obtain rfl : k = A.length := by omega
 (refine bH _ Z (aC (aB (aA1 zq (aD (aS ?_))))))
 refine aA5 wq O fun w hs => ?_;exact ⟨by rw [e0, if_neg (by rw [hoa]; simp)]; rfl, hs.chg0⟩
theorem wtB_iffK {A : List (List Int)} {W : List Int} {k : Nat} : wtB A W k = true ↔ ∀ i, i < k → inB (W.getD i 0) 0 ((amW A i : Int) - 1) = true := by
 unfold wtB;rw [List.all_eq_true];exact ⟨fun h i hi => h i (List.mem_range.2 hi), fun h i hi => h i (List.mem_range.1 hi)⟩
def lT (A : List (List Int)) (W : List Int) : Int := if dX A W = 0 then iH A (W.map Int.toNat) else 0
theorem pG (w : World) (lo hi lo2 hi2 : Nat) (v wv : Value) (A : List (List Int)) (W : List Int) (h : RdII w lo hi v A) (hW : RdI w lo2 hi2 wv W) (hlen : A.length ≤ maxLen) (hrl : ∀ r ∈ A, r.length ≤ maxLen) : Ca Tryz.prog 84 [v, wv] w fun x w' => x = .tuple #[.int .i64 (lT A W), .int .i64 (dX A W)] ∧ Chg [] w w' := by
 obtain ⟨a, c, rfl, ha⟩ := RdII.outI h;obtain ⟨wa, wc, rfl, hwa⟩ := RdI.outI hW;refine cN (Sat.nil w M0) Tryz.func84 Z (by simp [Tryz.ntmps84]) ?_;(refine aC (aB (aA1 zq (aA1 zq (aD (aC (aC (aB (aA1 zq ?_)))))))));refine aI (val := .int .i64 (fV A)) U Z Z Z Z (fun w hs => ?_) ?_; exact rchkA_ca w lo hi _ A (h.keep hs.chg0) hlen hrl;simp only [maxLen] at hlen;by_cases c0 : fV A = 0
 ·have hA := dP.1 c0;have n1 := hA.n1;have n8 := hA.n8;rw [c0];by_cases cl : W.length = A.length
  ·rw [cl] at hwa hW ⊢;obtain ⟨gb, go, rfl⟩ := ha J;obtain ⟨wb, wo, rfl⟩ := hwa J;have e0 : dX A W = if wtB A W A.length = true then 0 else 3 := by unfold dX; rw [if_neg J, if_neg J]
   (refine aA1 zq (aD (aC (aB (aA1 zq (aA6 xq J (aD (aG Z (aK (aC (aC (aB ?_))))))))))); (iterate 4 refine aA1 zq ?_); refine aA6 xq J (aD (aG Z (aK (aC (aB (aA1 zq (aD (aC (aC (aB (aA1 zq ?_))))))))))); refine aD (aM ?_))
   refine bM (σ := Nat) (fun k => k ≤ A.length ∧ wtB A W k = true) (fun k => A.length - k) (fun k => [(0, (.slice (some ⟨gb, go, none⟩) A.length c)), (1, (.slice (some ⟨wb, wo, none⟩) A.length wc)), (7, .int .i64 (smF (fun i => amA A i (wtO (W.map Int.toNat) i)) k)), (8, .int .i64 k)]) (fun _ => []) 0 ⟨by omega, Z⟩ ⟨Z, Z, Z, Z, trivial⟩ O ?_;rintro k ⟨hk, hok⟩ K hK;(refine aC (aC (aB ?_)); (iterate 4 refine aA1 zq ?_); refine aD ?_);refine dN Z (fun hc => ?_) (fun hc => ?_)
   ·have hk2 : k < A.length := by omega
    clear hc;have hkW : k < W.length := by omega
    have hrw := hA.row k hk2;have hsu := wtB_succ A W k;rw [hok, Bool.true_and, getI hkW] at hsu;obtain ⟨rb, ro, rc, hr1, hr2⟩ := kV h hk2 J;(refine aK (aC (aM (aC (aC ?_)))));refine bZ _ [] (Sp.refl _) qB qB ?_;(refine aA2 xq (aA2 xq ?_));refine aA3 Wa J J ?_;refine aR (v := .int .i64 W[k]) U Z Z Z (fun w hs => RdI.at (RdE.keep hW hs.chg0) k hkW) ?_;(refine aA2 xq (aA2 xq ?_));refine aA3 Wa J J ?_;refine aR U Z Z Z (fun w hs => hr1 _ hs.chg0) ?_;(refine aA2 xq (aA9 uq J J ?_));refine bN (val := .bool (!(inB W[k] 0 ((amW A k : Int) - 1)))) U Z Z Z Z (fun w hs => ?_) ?_; exact fD W[k] 0 ((amW A k : Int) - 1) w;cases hin : inB W[k] 0 ((amW A k : Int) - 1) with
    | false =>
     have hbad : dX A W = 3 := by
      rw [hin] at hsu
      have : wtB A W A.length = false := by
       unfold wtB at hsu ⊢;rw [List.all_eq_false] at hsu ⊢;obtain ⟨z, z1, z2⟩ := hsu;exact ⟨z, List.mem_range.2 (by have := List.mem_range.1 z1; omega), z2⟩
      rw [e0, if_neg (by rw [this]; simp)]
     (refine aN (aH Z (aC (aB (aA1 zq (aA1 zq (aD (aS ?_))))))))
     refine aA5 wq O fun w hs => ?_;exact ⟨by rw [hbad, lT, if_neg J]; rfl, hs.chg0⟩
    | true =>
     have hib := bV.1 hin;obtain ⟨x, hx⟩ := Int.eq_ofNat_of_zero_le hib.1;have hxl : x < amW A k := by omega
     have hb := hA.bd k x hk2 hxl
     have hsm : 0 ≤ smF (fun i => amA A i (wtO (W.map Int.toNat) i)) k ∧ smF (fun i => amA A i (wtO (W.map Int.toNat) i)) k ≤ 1000 * k := miss_part hA J fun j hj => by
      have := (wtB_iffK.1 hok) j hj;rw [wtO_toNat J];have h2 := bV.1 this;omega
     have hwt : wtO (W.map Int.toNat) k = x := by rw [wtO_toNat hkW, getI hkW, hx]; rfl
     have hst : smF (fun i => amA A i (wtO (W.map Int.toNat) i)) (k + 1) = smF (fun i => amA A i (wtO (W.map Int.toNat) i)) k + amA A k x := by
      simp only [smF];rw [hwt]
     (refine aN (aG Z (aK ?_)))
     refine bZ _ [] (Sp.refl _) qB qB ?_
     ((iterate 3 refine aA2 xq ?_))
     refine aA3 Wa J J ?_;refine aR U Z Z Z (fun w hs => hr1 _ hs.chg0) ?_;(refine aA2 xq (aA2 xq ?_));refine aA3 Wa J J ?_;refine aR (v := .int .i64 W[k]) U Z Z Z (fun w hs => RdI.at (RdE.keep hW hs.chg0) k hkW) ?_;rw [hx];refine aA3 Wa J J ?_;refine aR U Z Z Z (fun w hs => hr2 x hxl _ hs.chg0) ?_;(refine aA9 uq J J (aA2 xq (aN (bK (aB (aA1 zq (aA4 uq J J (aA1 zq (aD ?_)))))))));exact hK (k + 1) _ _ ⟨by omega, by rw [hsu, hin]⟩ J ⟨Z, Z, fM Z hst.symm, Z, trivial⟩ O
   ·obtain rfl : k = A.length := by omega
    have hz : dX A W = 0 := by rw [e0, if_pos hok]
    (refine bH _ Z (aC (aB ?_)); (iterate 3 refine aA1 zq ?_); refine aD (aS ?_))
    refine aA5 wq O fun w hs => ?_;exact ⟨by rw [hz, lT, if_pos hz]; rfl, hs.chg0⟩
  ·have hbad : dX A W = 2 := by unfold dX; rw [if_neg J, if_pos J]
   (refine aA1 zq (aD (aC (aB (aA1 zq (aA6 xq J (aD (aG Z (aK (aC (aC (aB ?_))))))))))); (iterate 4 refine aA1 zq ?_); refine aB0 xq J (aD (aH Z (aC (aB (aA1 zq (aA1 zq (aD (aS ?_)))))))))
   refine aA5 wq O fun w hs => ?_;exact ⟨by rw [hbad, lT, if_neg J]; rfl, hs.chg0⟩
 ·have hbad : dX A W = fV A := by unfold dX; rw [if_pos c0]
  (refine aA1 zq (aD (aC (aB (aA1 zq (aB0 xq J (aD (aH Z (aC (aB ?_))))))))); (iterate 3 refine aA1 zq ?_); refine aD (aS ?_))
  refine aA5 wq O fun w hs => ?_;exact ⟨by rw [lT, if_neg J, hbad]; rfl, hs.chg0⟩
theorem rhol_no (w : World) (lo hi lo2 hi2 : Nat) (v wv : Value) (A : List (List Int)) (W : List Int) (p : Int) (h : RdII w lo hi v A) (hW : RdI w lo2 hi2 wv W) (hlen : A.length ≤ maxLen) (hrl : ∀ r ∈ A, r.length ≤ maxLen) (h0 : dX A W ≠ 0) : Ca Tryz.prog 89 [v, wv, .int .i64 p] w fun x w' => x = .tuple #[.bool false, .int .i64 (dX A W)] ∧ Chg [] w w' := by
 refine cN (Sat.nil w M0) Tryz.func89 Z (by simp [Tryz.ntmps89]) ?_;(refine aC (aB (aA1 zq (aA1 zq (aD (aC (aC (aB (aA1 zq (aA1 zq ?_))))))))));refine aI (val := .tuple #[.int .i64 (lT A W), .int .i64 (dX A W)]) U Z Z Z Z (fun w hs => ?_) ?_; exact pG w lo hi lo2 hi2 _ _ A W (h.keep hs.chg0) (RdE.keep hW hs.chg0) hlen hrl;(refine aA1 zq (aB5 xq (aB5 xq (aA1 zq (aA1 zq (aD (aC (aB (aA1 zq (aB0 xq J (aD (aH Z ?_))))))))))); refine aC (aB ?_); (iterate 3 refine aA1 zq ?_); refine aD (aS ?_));refine aA5 wq O fun w hs => ?_;exact ⟨Z, hs.chg0⟩
theorem rhol_neg (w : World) (lo hi lo2 hi2 : Nat) (v wv : Value) (A : List (List Int)) (W : List Int) (p : Int) (h : RdII w lo hi v A) (hW : RdI w lo2 hi2 wv W) (hlen : A.length ≤ maxLen) (hrl : ∀ r ∈ A, r.length ≤ maxLen) (h0 : dX A W = 0) (hp : p < 0) : Ca Tryz.prog 89 [v, wv, .int .i64 p] w fun x w' => x = .tuple #[.bool false, .int .i64 3] ∧ Chg [] w w' := by
 refine cN (Sat.nil w M0) Tryz.func89 Z (by simp [Tryz.ntmps89]) ?_;(refine aC (aB (aA1 zq (aA1 zq (aD (aC (aC (aB (aA1 zq (aA1 zq ?_))))))))));refine aI (val := .tuple #[.int .i64 (lT A W), .int .i64 0]) U Z Z Z Z (fun w hs => ?_) ?_; exact by have := pG w lo hi lo2 hi2 _ _ A W (h.keep hs.chg0) (RdE.keep hW hs.chg0) hlen hrl; rw [h0] at this; exact this
 (refine aA1 zq (aB5 xq (aB5 xq (aA1 zq (aA1 zq (aD (aC (aB (aA1 zq (aA6 xq J (aD (aG Z ?_))))))))))); refine aK (aC (aC (aB (aA1 zq (aB3 xq J (aD (aH Z (aC (aB (aA1 zq (aA1 zq ?_))))))))))); refine aD (aS ?_))
 refine aA5 wq O fun w hs => ?_;exact ⟨Z, hs.chg0⟩
theorem rhol_ok (w : World) (lo hi lo2 hi2 : Nat) (v wv : Value) (A : List (List Int)) (V : List Nat) (p : Int) (h : RdII w lo hi v A) (hW : RdI w lo2 hi2 wv (nI V)) (hA : AimOk A) (hV : WOk A V) (hp : 0 ≤ p) (hp2 : p ≤ 9223372036854775807) : Ca Tryz.prog 89 [v, wv, .int .i64 p] w fun x w' => x = .tuple #[.bool (hoV A V p), .int .i64 0] ∧ Chg [] w w' := by
 have n1 := hA.n1;have n8 := hA.n8;have hl := hV.len;have hlA : A.length ≤ maxLen := by simp only [maxLen]; omega
 have hrl : ∀ r ∈ A, r.length ≤ maxLen := fun r hr => by
  obtain ⟨i, hi, rfl⟩ := List.mem_iff_getElem.1 hr;have := hA.row i hi;unfold amW at this;rw [getA hi] at this;simp only [maxLen];omega
 have hWl : (nI V).length = A.length := by rw [eC, hl]
 obtain ⟨a, c, rfl, ha⟩ := RdII.outI h;obtain ⟨gb, go, rfl⟩ := ha J;obtain ⟨wa, wc, rfl, hwa⟩ := RdI.outI hW;rw [hWl] at hwa hW ⊢;obtain ⟨wb, wo, rfl⟩ := hwa J;have e0 : hoV A V p = hoB A V (min p 1001) A.length := by unfold hoV; rw [Bool.and_true]
 rw [e0];obtain ⟨q, hq⟩ : ∃ q, q = min p 1001 := ⟨_, rfl⟩;rw [← hq];have hq2 : 0 ≤ q ∧ q ≤ 1001 := by omega
 refine cN (Sat.nil w M0) Tryz.func89 Z (by simp [Tryz.ntmps89]) ?_;(refine aC (aB (aA1 zq (aA1 zq (aD (aC (aC (aB (aA1 zq (aA1 zq ?_))))))))));refine aI (val := .tuple #[.int .i64 (lT A (nI V)), .int .i64 0]) U Z Z Z Z (fun w hs => ?_) ?_; exact by have := pG w lo hi lo2 hi2 _ _ A (nI V) (h.keep hs.chg0) (RdE.keep hW hs.chg0) hlA hrl; rw [oO hA hV] at this; exact this
 (refine aA1 zq (aB5 xq (aB5 xq (aA1 zq (aA1 zq (aD (aC (aB (aA1 zq (aA6 xq J (aD (aG Z ?_))))))))))); refine aK (aC (aC (aB (aA1 zq (aB4 xq J (aD (aG Z (aK (aC (aC (aB ?_))))))))))); refine aA1 zq (aD (aM ?_)))
 refine bM (σ := Nat) (fun k => k ≤ A.length ∧ hoB A V q k = true) (fun k => A.length - k) (fun k => [(0, (.slice (some ⟨gb, go, none⟩) A.length c)), (1, (.slice (some ⟨wb, wo, none⟩) A.length wc)), (2, .int .i64 p), (10, .int .i64 k)]) (fun _ => []) 0 ⟨by omega, Z⟩ ⟨Z, Z, Z, Z, trivial⟩ O ?_;rintro k ⟨hk, hok⟩ K hK;(refine aC (aC (aB ?_)); (iterate 4 refine aA1 zq ?_); refine aD ?_);refine dN Z (fun hc => ?_) (fun hc => ?_)
 ·have hk2 : k < A.length := by omega
  clear hc;have hrow := hA.row k hk2;have hx := hV.lt k hk2;obtain ⟨rb, ro, rc, hr1, hr2⟩ := kV h hk2 J;have hs1 := hoB_succ A V q k;rw [hok, Bool.true_and] at hs1;have hkW : k < (nI V).length := by omega
  have hWk : ∀ w', Chg [] w w' → w'.cell? ⟨wb, wo + k * 1, none⟩ = some (.int .i64 (wtO V k)) := fun w' hs => by
   have := RdI.at (RdE.keep hW hs) k hkW;rw [nI_get J] at this;exact this
  have m1 : 0 ≤ q * (wtO V k : Int) ∧ q * (wtO V k : Int) ≤ 30000 := ⟨Int.mul_nonneg hq2.1 J, Int.le_trans (Int.mul_le_mul hq2.2 (show (wtO V k : Int) ≤ 21 by omega) J J) (by decide)⟩;have b1 := hA.bd k _ hk2 hx;(refine aK (aC (aM (aC (aB (aA1 zq (aD (aM ?_))))))));refine bM (σ := Nat) (fun v => v ≤ amW A k ∧ hoR A V q k v = true) (fun v => amW A k - v) (fun v => [(0, (.slice (some ⟨gb, go, none⟩) A.length c)), (1, (.slice (some ⟨wb, wo, none⟩) A.length wc)), (2, .int .i64 p), (10, .int .i64 k), (11, .int .i64 v)]) (fun _ => []) 0 ⟨by omega, Z⟩ ⟨Z, Z, Z, Z, Z, trivial⟩ O ?_;rintro v ⟨hv, hov⟩ K2 hK2;(refine aC (aC (aB ?_)); (iterate 3 refine aA1 zq ?_));refine aA7 Wa J J ?_;refine bI U Z Z Z (fun w hs => hr1 _ hs.chg0) ?_;(refine aA1 zq (aA1 zq (aD ?_)));refine dN Z (fun hc => ?_) (fun hc => ?_)
  ·have hv2 : v < amW A k := by omega
   clear hc;have hs2 := hoR_succ A V q k v;rw [hov, Bool.true_and] at hs2;have m2 : 0 ≤ q * (v : Int) ∧ q * (v : Int) ≤ 30000 := ⟨Int.mul_nonneg hq2.1 J, Int.le_trans (Int.mul_le_mul hq2.2 (show (v : Int) ≤ 21 by omega) J J) (by decide)⟩;have b2 := hA.bd k _ hk2 hv2;(refine aK (aC ?_));refine aM ?_;(refine aC (aB (aA1 zq (aA1 zq (aD (aC (aC (aB (aA1 zq (aA1 zq (aD ?_)))))))))));refine fT (σ := Unit) (fun _ => [(0, (.slice (some ⟨gb, go, none⟩) A.length c)), (1, (.slice (some ⟨wb, wo, none⟩) A.length wc)), (2, .int .i64 p), (10, .int .i64 k), (11, .int .i64 v), (12, .int .i64 q)]) (fun _ => []) ?_ ?_;rotate_left
   ·intro K3 hK3;refine dN Z (fun hc => ?_) (fun hc => ?_)
    ·obtain rfl : q = 1001 := by omega
     clear hc;(refine aB (aA1 zq (aD ?_)));exact hK3 () _ _ ⟨Z, Z, Z, Z, Z, Z, trivial⟩ O
    ·obtain rfl : q = p := by omega
     clear hc;(refine aK ?_);exact hK3 () _ _ ⟨Z, Z, Z, Z, Z, Z, trivial⟩ O
   rintro ⟨⟩;(refine aC ?_);refine bZ _ [] (Sp.refl _) qB qB ?_;(refine aA2 xq (aA2 xq ?_));refine aA3 Wa J J ?_;refine aR U Z Z Z (fun w hs => hr1 _ hs.chg0) ?_;(refine aA2 xq ?_);refine aA3 Wa J J ?_;refine aR U Z Z Z (fun w hs => hr2 v hv2 _ hs.chg0) ?_;(refine aA2 xq (aA2 xq (aA9 uq J J (aA9 uq J J (aA2 xq (aA2 xq ?_))))));refine aA3 Wa J J ?_;refine aR U Z Z Z (fun w hs => hr1 _ hs.chg0) ?_;(refine aA2 xq (aA2 xq ?_));refine aA3 Wa J J ?_;refine aR U Z Z Z (fun w hs => hWk _ hs.chg0) ?_;refine aA3 Wa J J ?_;refine aR U Z Z Z (fun w hs => hr2 _ hx _ hs.chg0) ?_
   ((iterate 3 refine aA2 xq ?_))
   refine aA3 Wa J J ?_;refine aR U Z Z Z (fun w hs => hWk _ hs.chg0) ?_;by_cases hle : amA A k (wtO V k) + q * wtO V k ≤ amA A k v + q * v
   ·(refine aA9 uq J J (aA9 uq J J (kO U Z Z Z J (aN (aG Z (aK (bK (aB (aA1 zq (aA4 uq J J (aA1 zq (aD ?_))))))))))))
    exact hK2 (v + 1) _ _ ⟨by omega, by rw [hs2, decide_eq_true hle]⟩ J ⟨Z, Z, Z, Z, Z, trivial⟩ O
   ·have hf : hoR A V q k (amW A k) = false := iA (p := fun v => decide (amA A k (wtO V k) + q * wtO V k ≤ amA A k v + q * v)) (decide_eq_false hle) hv2;have hf2 : hoB A V q A.length = false := iA (p := fun i => hoR A V q i (amW A i)) hf hk2;rw [hf2];(refine aA9 uq J J (aA9 uq J J (kX U Z Z Z J (aN (aH Z (aC (aB (aA1 zq (aA1 zq (aD (aS ?_)))))))))));refine aA5 wq O fun w hs => ?_
    exact ⟨Z, hs.chg0⟩
  ·obtain rfl : v = amW A k := by omega
   clear hc hK2;(refine bH _ Z (bK (aB (aA1 zq (aA4 uq J J (aA1 zq (aD ?_)))))));exact hK (k + 1) _ _ ⟨by omega, by rw [hs1, hov]⟩ J ⟨Z, Z, Z, Z, trivial⟩ O
 ·obtain rfl : k = A.length := by omega
  rw [hok];(refine bH _ Z (aC (aB (aA1 zq (aA1 zq (aD (aS ?_)))))));refine aA5 wq O fun w hs => ?_
  exact ⟨Z, hs.chg0⟩
theorem dpT_bd {out : List Int} {r : Nat → Int} {t n : Nat} (ho : ∀ u, u < out.length → 0 ≤ out.getD u 0) (hpos : 0 < out.length) (hr : ∀ k, k < n → 0 ≤ r k) : 0 ≤ dpT out r t n ∧ dpT out r t n ≤ 9000 := by
 induction n with
 | zero =>
  simp only [dpT];omega
 | succ n ih =>
  have h1 := ih fun k hk => hr k J
  have h2 := ho (min (t - n) (out.length - 1)) J;have h3 := hr n J;simp only [dpT];omega
def nxL (A : List (List Int)) (i t : Nat) : List Int := (List.range (dpV A (i + 1)).length).map fun j => if j < t then (dpV A (i + 1)).getD j 0 else 0
theorem nxL_len (A : List (List Int)) (i t : Nat) : (nxL A i t).length = (dpV A (i + 1)).length := by simp [nxL]
theorem nxL_zero (A : List (List Int)) (i : Nat) {n : Nat} (hn : n = (dpV A (i + 1)).length) : List.replicate n (0 : Int) = nxL A i 0 := by
 subst hn;exact List.ext_getElem (by simp [nxL]) fun j h1 h2 => by simp [nxL]
theorem nxL_full (A : List (List Int)) (i : Nat) : nxL A i (dpV A (i + 1)).length = dpV A (i + 1) := List.ext_getElem (by simp [nxL]) fun j h1 h2 => by
 simp only [nxL, List.getElem_map, List.getElem_range];rw [if_pos h2, List.getD_eq_getElem?_getD, List.getElem?_eq_getElem h2]
 rfl
theorem nxL_set (A : List (List Int)) (i : Nat) {t : Nat} {x : Int} (ht : t < (dpV A (i + 1)).length) (hx : x = (dpV A (i + 1)).getD t 0) : (nxL A i t).set t x = nxL A i (t + 1) := List.ext_getElem (by simp [nxL]) fun j h1 h2 => by
 rw [List.getElem_set];simp only [nxL, List.getElem_map, List.getElem_range];by_cases e : t = j
 ·subst e;rw [if_pos rfl, if_pos J, hx]
 ·rw [if_neg e];by_cases c : j < t
  ·rw [if_pos c, if_pos J]
  ·rw [if_neg c, if_neg J]
theorem dpV_at {A : List (List Int)} {i t : Nat} (ht : t < (dpV A (i + 1)).length) : (dpV A (i + 1)).getD t 0 = dpT (dpV A i) (amA A i) t (min (amW A i) (t + 1)) := by
 have ht2 : t < (dpV A i).length + amW A i - 1 := by simpa [dpV] using ht
 rw [List.getD_eq_getElem?_getD, List.getElem?_eq_getElem ht, Option.getD_some];simp [dpV]
theorem rcurve_no (w : World) (lo hi : Nat) (v : Value) (A : List (List Int)) (h : RdII w lo hi v A) (hlen : A.length ≤ maxLen) (hrl : ∀ r ∈ A, r.length ≤ maxLen) (h0 : fV A ≠ 0) : Ca Tryz.prog 86 [v] w fun x w' => x = .tuple #[.slice none 0 0, .int .i64 (fV A)] ∧ Chg [] w w' := by
 refine cN (Sat.nil w M0) Tryz.func86 Z (by simp [Tryz.ntmps86]) ?_;(refine aC (aB (aA1 zq (aA1 zq (aD (aC (aC (aB (aA1 zq ?_)))))))));refine aI (val := .int .i64 (fV A)) U Z Z Z Z (fun w hs => ?_) ?_; exact rchkA_ca w lo hi v A (h.keep hs.chg0) hlen hrl;(refine aA1 zq (aD (aC (aB (aA1 zq (aB0 xq J (aD (aH Z (aC (aB ?_))))))))); (iterate 3 refine aA1 zq ?_); refine aD (aS ?_));refine aA5 wq O fun w hs => ?_;exact ⟨Z, hs.chg0⟩
theorem aim_lens {A : List (List Int)} (hA : AimOk A) : A.length ≤ maxLen ∧ ∀ r ∈ A, r.length ≤ maxLen := by
 have n8 := hA.n8;refine ⟨by simp only [maxLen]; omega, fun r hr => ?_⟩;obtain ⟨i, hi, rfl⟩ := List.mem_iff_getElem.1 hr;have := hA.row i hi;unfold amW at this;rw [getA hi] at this;simp only [maxLen];omega
theorem pW (w : World) (lo hi : Nat) (v : Value) (A : List (List Int)) (h : RdII w lo hi v A) (hA : AimOk A) : Ca Tryz.prog 86 [v] w fun x w' => ∃ b : Nat, x = .tuple #[aB9 b (manyN A) (manyN A), .int .i64 0] ∧ Sat w M0 [.pt b (aX (eD A (manyN A))) 3] w' := by
 have n1 := hA.n1;have n8 := hA.n8;obtain ⟨hlA, hrl⟩ := aim_lens hA;obtain ⟨a, c, rfl, ha⟩ := RdII.outI h;obtain ⟨gb, go, rfl⟩ := ha J
 have hlens : ∀ k, k ≤ A.length → 1 ≤ (dpV A k).length ∧ (dpV A k).length ≤ 20 * k + 1 := fun k => by
  induction k with
  | zero => intro _; simp [dpV]
  | succ k ih =>
   intro hk;have h1 := ih J;have h2 := hA.row k J;simp only [dpV, List.length_map, List.length_range];omega
 refine cN (Sat.nil w M0) Tryz.func86 Z (by simp [Tryz.ntmps86]) ?_;(refine aC (aB (aA1 zq (aA1 zq (aD (aC (aC (aB (aA1 zq ?_)))))))));refine aI (val := .int .i64 0) U Z Z Z Z (fun w hs => ?_) ?_; exact by have := rchkA_ca w lo hi _ A (h.keep hs.chg0) hlA hrl; rw [dP.2 hA] at this; exact this
 (refine aA1 zq (aD (aC (aB (aA1 zq (aA6 xq J (aD (aG Z (aK (aC (aB ?_)))))))))))
 refine cT 3 [.int .i64 0] Z qB Z (fun b0 => ?_);(refine aA1 zq (aD (aC (aC (aB (aA1 zq (aD (aM ?_))))))));refine bM (σ := Nat × Nat) (fun ⟨i, _⟩ => i ≤ A.length) (fun ⟨i, _⟩ => A.length - i) (fun ⟨i, bo⟩ => [(0, (.slice (some ⟨gb, go, none⟩) A.length c)), (5, aB9 bo (dpV A i).length (dpV A i).length), (6, .int .i64 i)]) (fun ⟨i, bo⟩ => [.pt bo (aX (dpV A i)) 3]) (0, b0) (by dsimp only; omega) ⟨Z, Z, Z, trivial⟩ O ?_;rintro ⟨i, bo⟩ hi0 K hK;dsimp only at hi0 hK ⊢;obtain ⟨l1, l2⟩ := hlens i hi0;(refine aC (aC (aB ?_)); (iterate 4 refine aA1 zq ?_); refine aD ?_);refine dN Z (fun hc => ?_) (fun hc => ?_)
 ·have hi2 : i < A.length := by omega
  clear hc;obtain ⟨l3, l4⟩ := hlens (i + 1) J;have hrow := hA.row i hi2;obtain ⟨rb, ro, rc, hr1, hr2⟩ := kV h hi2 J;have hnl : (dpV A (i + 1)).length = (dpV A i).length + amW A i - 1 := by simp [dpV]
  have hOb : ∀ u, u < (dpV A i).length → 0 ≤ (dpV A i).getD u 0 ∧ (dpV A i).getD u 0 ≤ 1000 * i := fun u hu => (dpV_all hA hi0 u hu).bd hA hi0
  have hrb : ∀ k, k < amW A i → 0 ≤ amA A i k ∧ amA A i k ≤ 1000 := fun k hk => hA.bd i k hi2 hk
  (refine aK (aC (aM (aC (aB ?_)))); (iterate 4 refine aA1 zq ?_))
  refine aA7 Wa J J ?_;refine bI U Z Z Z (fun w hs => hr1 _ hs.chg0) ?_;(refine aA1 zq (aA4 uq J J (aA4 uq J J ?_)));rw [show ((dpV A i).length : Int) + (amW A i) - 1 = (dpV A (i + 1)).length from by omega];refine kR slI Z Z Z J (fun bx => ?_);rw [nxL_zero A i rfl];(refine aA1 zq (aD (aC (aC (aB (aA1 zq (aD (aM ?_))))))));refine bM (σ := Nat) (fun t => t ≤ (dpV A (i + 1)).length) (fun t => (dpV A (i + 1)).length - t) (fun t => [(0, (.slice (some ⟨gb, go, none⟩) A.length c)), (5, aB9 bo (dpV A i).length (dpV A i).length), (6, .int .i64 i), (7, aB9 bx (dpV A (i + 1)).length (dpV A (i + 1)).length), (8, .int .i64 t)]) (fun t => [.pt bx (aX (nxL A i t)) 3, .pt bo (aX (dpV A i)) 3]) 0 J ⟨Z, Z, Z, Z, Z, trivial⟩ O ?_;intro t ht0 K2 hK2;(refine aC (aC (aB ?_)); (iterate 4 refine aA1 zq ?_); refine aD ?_);refine dN Z (fun hc => ?_) (fun hc => ?_)
  ·have ht : t < (dpV A (i + 1)).length := by omega
   clear hc;(refine aK (aC (aM (aC (aB (aA1 zq (aA1 zq ?_)))))));refine aA7 Wa J J ?_;refine oJ U t Z Z Z O J (by rw [nxL_len]; exact ht) ?_;(refine aD (aC (aB (aA1 zq (aD (aM ?_))))));refine bM (σ := Nat) (fun k => k ≤ min (amW A i) (t + 1)) (fun k => amW A i - k) (fun k => [(0, (.slice (some ⟨gb, go, none⟩) A.length c)), (5, aB9 bo (dpV A i).length (dpV A i).length), (6, .int .i64 i), (7, aB9 bx (dpV A (i + 1)).length (dpV A (i + 1)).length), (8, .int .i64 t), (9, .int .i64 k)]) (fun k => [.pt bx (aX ((nxL A i t).set t (dpT (dpV A i) (amA A i) t k))) 3, .pt bo (aX (dpV A i)) 3]) 0 J ⟨Z, Z, Z, Z, Z, Z, trivial⟩ O ?_;intro k hk0 K3 hK3;(refine aC (aC (aB ?_)); (iterate 3 refine aA1 zq ?_));refine aA7 Wa J J ?_;refine bI U Z Z Z (fun w hs => hr1 _ hs.chg0) ?_;by_cases hk : k < amW A i
   ·by_cases hkt : k ≤ t
    ·have hd := dpT_bd (out := dpV A i) (r := amA A i) (t := t) (n := k) (fun u hu => (hOb u hu).1) J (fun z hz => (hrb z J).1);obtain ⟨rs, hrs⟩ : ∃ rs, rs = min (t - k) ((dpV A i).length - 1) := ⟨_, rfl⟩;have hrl2 : rs < (dpV A i).length := by omega
     have ho := hOb rs hrl2;have hrk := hrb k hk;(refine aA1 zq (aB3 xq J (aA1 zq (aE Z (aA1 zq (aE Z (aA1 zq (aE Z (jU U Z Z Z J (aA1 zq (aD (aH Z ?_))))))))))); refine aK (aC ?_));refine aM ?_;(refine aC (aB (aA1 zq (aA1 zq (aA4 uq J J (aA1 zq (aD (aC (aC (aB ?_))))))))); (iterate 3 refine aA1 zq ?_); refine aA4 uq J J (aA1 zq (aD ?_)));refine fT (σ := Unit) (fun _ => [(0, (.slice (some ⟨gb, go, none⟩) A.length c)), (5, aB9 bo (dpV A i).length (dpV A i).length), (6, .int .i64 i), (7, aB9 bx (dpV A (i + 1)).length (dpV A (i + 1)).length), (8, .int .i64 t), (9, .int .i64 k), (10, .int .i64 rs)]) (fun _ => [.pt bx (aX ((nxL A i t).set t (dpT (dpV A i) (amA A i) t k))) 3, .pt bo (aX (dpV A i)) 3]) ?_ ?_;rotate_left
     ·intro K4 hK4;refine dN Z (fun hc => ?_) (fun hc => ?_)
      ·have e : (rs : Int) = (dpV A i).length - 1 := by omega
       clear hc;(refine aB (aA1 zq (aA1 zq (aA4 uq J J (aA1 zq (aD ?_))))));rw [← e];exact hK4 () _ _ ⟨Z, Z, Z, Z, Z, Z, Z, trivial⟩ O
      ·have e : (rs : Int) = (t : Int) - k := by omega
       clear hc;(refine aK ?_);rw [← e];exact hK4 () _ _ ⟨Z, Z, Z, Z, Z, Z, Z, trivial⟩ O
     rintro ⟨⟩;have hlen1 : ((nxL A i t).set t (dpT (dpV A i) (amA A i) t k)).length = (dpV A (i + 1)).length := by rw [List.length_set, nxL_len]
     have ht3 : t < ((nxL A i t).set t (dpT (dpV A i) (amA A i) t k)).length := by omega
     refine q_drawS 19 _ [.pt bx _ _] (Sp.cons O (Sp.refl _)) qB qB qB fun K1 hK1 => ?_
     ((iterate 4 refine aA2 xq ?_))
     refine aA3 Wa J J ?_;refine qf_loadI U t Z Z Z O J ht3 ?_;rw [List.getElem_set_self];(refine aA2 xq (aA2 xq ?_));refine aA3 Wa J J ?_;refine qf_loadI U rs Z Z Z O J hrl2 ?_;rw [← getI hrl2];(refine aA2 xq (aA2 xq ?_));refine aA3 Wa J J ?_;refine aR U Z Z Z (fun w hs => hr1 _ hs.chg0) ?_;(refine aA2 xq ?_);refine aA3 Wa J J ?_;refine aR U Z Z Z (fun w hs => hr2 k hk _ hs.chg0) ?_;(refine aA9 uq J J (aA2 xq (aN ?_)));refine hK1 _ _ [.pt bx _ _] (Sp.cons O (O)) ?_;refine aA3 Wa J J ?_;refine qf_storeI U t Z Z Z O J ht3 ?_;rw [List.set_set];(refine aN (bK (aB (aA1 zq (aA4 uq J J (aA1 zq (aD ?_)))))));have e : min (dpT (dpV A i) (amA A i) t k) ((dpV A i).getD rs 0 + amA A i k) = dpT (dpV A i) (amA A i) t (k + 1) := by simp only [dpT]; rw [hrs]
     rw [e];exact hK3 (k + 1) _ _ J J ⟨Z, Z, Z, Z, Z, Z, trivial⟩ O
    ·have hkm : k = min (amW A i) (t + 1) := by omega
     (refine aA1 zq (aB3 xq J (aA1 zq (aE Z (aA1 zq (aE Z (aA1 zq (aE Z (gO U Z Z Z J (aA1 zq (aD (aG Z ?_))))))))))); refine bH _ Z (bK (aB (aA1 zq (aA4 uq J J (aA1 zq (aD ?_)))))))
     exact hK2 (t + 1) _ _ J J ⟨Z, Z, Z, Z, Z, trivial⟩ (by rw [nxL_set A i ht (by rw [dpV_at ht, ← hkm])]; repeat constructor)
   ·have hkm : k = min (amW A i) (t + 1) := by omega
    (refine aA1 zq (aB4 xq J (aA1 zq ?_)); (iterate 3 refine aA8 yq ?_); refine aA1 zq (aD (aG Z (bH _ Z (bK (aB (aA1 zq (aA4 uq J J (aA1 zq (aD ?_))))))))))
    exact hK2 (t + 1) _ _ J J ⟨Z, Z, Z, Z, Z, trivial⟩ (by rw [nxL_set A i ht (by rw [dpV_at ht, ← hkm])]; repeat constructor)
  ·obtain rfl : t = (dpV A (i + 1)).length := by omega
   rw [nxL_full];clear hc hK2;(refine bH _ Z (aB (aA1 zq (aA1 zq (aD (bK (aB (aA1 zq (aA4 uq J J (aA1 zq (aD ?_)))))))))));exact hK (i + 1, bx) _ _ (by dsimp only; omega) (by dsimp only; omega) ⟨Z, Z, Z, trivial⟩ O
 ·obtain rfl : i = A.length := by omega
  clear hc hK;rw [dpV_curve hA, eF];(refine bH _ Z (aC (aB ?_)); (iterate 3 refine aA1 zq ?_); refine aD (aS ?_));refine aA5 wq O fun w hs => ?_
  exact ⟨bo, Z, hs⟩
theorem curve_get {A : List (List Int)} {t : Nat} (ht : t < manyN A) {h : t < (eD A (manyN A)).length} : (eD A (manyN A))[t]'h = cvV A t := by simp [eD]
theorem rbest_no (w : World) (lo hi : Nat) (v : Value) (A : List (List Int)) (t : Int) (h : RdII w lo hi v A) (hlen : A.length ≤ maxLen) (hrl : ∀ r ∈ A, r.length ≤ maxLen) (h0 : fV A ≠ 0) : Ca Tryz.prog 85 [v, .int .i64 t] w fun x w' => x = .tuple #[.int .i64 0, .int .i64 (fV A)] ∧ Chg [] w w' := by
 refine cN (Sat.nil w M0) Tryz.func85 Z (by simp [Tryz.ntmps85]) ?_;(refine aC (aB (aA1 zq (aA1 zq (aD (aC (aB (aA1 zq ?_))))))));refine aI (val := .tuple #[.slice none 0 0, .int .i64 (fV A)]) U Z Z Z Z (fun w hs => ?_) ?_; exact rcurve_no w lo hi v A (h.keep hs.chg0) hlen hrl h0;(refine aA1 zq (aB5 xq (aB5 xq (aA1 zq (aA1 zq (aD (aC (aC (aB (aA1 zq (aB0 xq J (aD ?_))))))))))); refine aH Z (aC (aB ?_)); (iterate 3 refine aA1 zq ?_); refine aD (aS ?_));refine aA5 wq O fun w hs => ?_;exact ⟨Z, hs.chg0⟩
theorem rbest_neg (w : World) (lo hi : Nat) (v : Value) (A : List (List Int)) (t : Int) (h : RdII w lo hi v A) (hA : AimOk A) (ht : t < 0) : Ca Tryz.prog 85 [v, .int .i64 t] w fun x w' => x = .tuple #[.int .i64 0, .int .i64 3] ∧ Chg [] w w' := by
 refine cN (Sat.nil w M0) Tryz.func85 Z (by simp [Tryz.ntmps85]) ?_;(refine aC (aB (aA1 zq (aA1 zq (aD (aC (aB (aA1 zq ?_))))))));refine bC (β := Nat) U [] _ M0 Z Z Z Z (Sp.refl _) qC (fun w' hs => pW w' lo hi v A (h.keep hs.chg0) hA) ?_;rintro b _ rfl;dsimp only [List.cons_append, List.nil_append];(refine aA1 zq (aB5 xq (aB5 xq (aA1 zq (aA1 zq (aD (aC (aC (aB (aA1 zq (aA6 xq J (aD ?_))))))))))); refine aG Z (aK (aC (aC (aB (aA1 zq (aB3 xq J (aD (aH Z (aC (aB (aA1 zq ?_))))))))))); refine aA1 zq (aD (aS ?_)));refine aA5 wq O fun w hs => ?_;exact ⟨Z, hs.chg0⟩
theorem rbest_ok (w : World) (lo hi : Nat) (v : Value) (A : List (List Int)) (t : Nat) (h : RdII w lo hi v A) (hA : AimOk A) (ht : (t : Int) ≤ 9223372036854775807) : Ca Tryz.prog 85 [v, .int .i64 t] w fun x w' => x = .tuple #[.int .i64 (cvV A t), .int .i64 0] ∧ Chg [] w w' := by
 have hmn := many_nn hA;have hml := many_le hA;have hN : (manyN A : Int) = manyV A + 1 := by unfold manyN; omega
 refine cN (Sat.nil w M0) Tryz.func85 Z (by simp [Tryz.ntmps85]) ?_;(refine aC (aB (aA1 zq (aA1 zq (aD (aC (aB (aA1 zq ?_))))))));refine bC (β := Nat) U [] _ M0 Z Z Z Z (Sp.refl _) qC (fun w' hs => pW w' lo hi v A (h.keep hs.chg0) hA) ?_;rintro b _ rfl;dsimp only [List.cons_append, List.nil_append];by_cases hm : manyN A ≤ t
 ·have hz : manyN A - 1 < manyN A := by omega
  have e : cvV A t = cvV A (manyN A - 1) := by
   rw [cv_many hA (t := t) J, cv_many hA (t := manyN A - 1) J]
  have e2 : (manyN A : Int) - 1 = (manyN A - 1 : Nat) := by omega
  (refine aA1 zq (aB5 xq (aB5 xq (aA1 zq (aA1 zq (aD (aC (aC (aB (aA1 zq (aA6 xq J (aD ?_))))))))))); refine aG Z (aK (aC (aC (aB (aA1 zq (aB4 xq J (aD (aG Z (aK (aC (aC ?_))))))))))); refine aB ?_; (iterate 3 refine aA1 zq ?_); refine jP U Z Z Z J (aD (aH Z (aB (aA1 zq (aA1 zq (aA4 uq J J (aA1 zq (aD (aC (aB (aA1 zq ?_))))))))))); refine aA1 zq ?_)
  rw [e2];refine aA7 Wa J J ?_;refine kP U (manyN A - 1) Z Z Z O J (by rw [eF]; exact hz) ?_;rw [curve_get hz, ← e];(refine aA1 zq (aA1 zq (aD (aS ?_))));refine aA5 wq O fun w hs => ?_
  exact ⟨Z, hs.chg0⟩
 ·have hz : t < manyN A := by omega
  (refine aA1 zq (aB5 xq (aB5 xq (aA1 zq (aA1 zq (aD (aC (aC (aB (aA1 zq (aA6 xq J (aD ?_))))))))))); refine aG Z (aK (aC (aC (aB (aA1 zq (aB4 xq J (aD (aG Z (aK (aC (aC ?_))))))))))); refine aB ?_; (iterate 3 refine aA1 zq ?_); refine jT U Z Z Z J (aD (aG Z (aK (aC (aB (aA1 zq (aA1 zq ?_))))))))
  refine aA7 Wa J J ?_;refine kP U t Z Z Z O J (by rw [eF]; exact hz) ?_;rw [curve_get hz];(refine aA1 zq (aA1 zq (aD (aS ?_))));refine aA5 wq O fun w hs => ?_;exact ⟨Z, hs.chg0⟩
theorem renough_no (w : World) (lo hi : Nat) (v : Value) (A : List (List Int)) (m : Int) (h : RdII w lo hi v A) (hlen : A.length ≤ maxLen) (hrl : ∀ r ∈ A, r.length ≤ maxLen) (h0 : fV A ≠ 0) : Ca Tryz.prog 87 [v, .int .i64 m] w fun x w' => x = .tuple #[.int .i64 0, .int .i64 (fV A)] ∧ Chg [] w w' := by
 refine cN (Sat.nil w M0) Tryz.func87 Z (by simp [Tryz.ntmps87]) ?_;(refine aC (aB (aA1 zq (aA1 zq (aD (aC (aB (aA1 zq ?_))))))));refine aI (val := .tuple #[.slice none 0 0, .int .i64 (fV A)]) U Z Z Z Z (fun w hs => ?_) ?_; exact rcurve_no w lo hi v A (h.keep hs.chg0) hlen hrl h0;(refine aA1 zq (aB5 xq (aB5 xq (aA1 zq (aA1 zq (aD (aC (aC (aB (aA1 zq (aB0 xq J (aD ?_))))))))))); refine aH Z (aC (aB ?_)); (iterate 3 refine aA1 zq ?_); refine aD (aS ?_));refine aA5 wq O fun w hs => ?_;exact ⟨Z, hs.chg0⟩
theorem renough_ok (w : World) (lo hi : Nat) (v : Value) (A : List (List Int)) (m : Int) (h : RdII w lo hi v A) (hA : AimOk A) : Ca Tryz.prog 87 [v, .int .i64 m] w fun x w' => (∃ y : Int × Int, x = .tuple #[.int .i64 y.1, .int .i64 y.2] ∧ EnoR A m y.1 y.2) ∧ Chg [] w w' := by
 have hmn := many_nn hA;have hml := many_le hA;have hN : (manyN A : Int) = manyV A + 1 := by unfold manyN; omega
 refine cN (Sat.nil w M0) Tryz.func87 Z (by simp [Tryz.ntmps87]) ?_;(refine aC (aB (aA1 zq (aA1 zq (aD (aC (aB (aA1 zq ?_))))))));refine bC (β := Nat) U [] _ M0 Z Z Z Z (Sp.refl _) qC (fun w' hs => pW w' lo hi v A (h.keep hs.chg0) hA) ?_;rintro b _ rfl;dsimp only [List.cons_append, List.nil_append];(refine aA1 zq (aB5 xq (aB5 xq (aA1 zq (aA1 zq (aD (aC (aC (aB (aA1 zq (aA6 xq J (aD ?_))))))))))); refine aG Z (aK (aC (aC (aB (aA1 zq (aD (aM ?_))))))));refine bM (σ := Nat) (fun k => k ≤ manyN A ∧ ∀ j, j < k → m < cvV A j) (fun k => manyN A - k) (fun k => [(1, .int .i64 m), (6, aB9 b (manyN A) (manyN A)), (8, .int .i64 k)]) (fun _ => [.pt b (aX (eD A (manyN A))) 3]) 0 ⟨by omega, fun j h => by omega⟩ ⟨Z, Z, Z, trivial⟩ O ?_;rintro k ⟨hk, hno⟩ K hK;(refine aC (aC (aB ?_)); (iterate 4 refine aA1 zq ?_); refine aD ?_);refine dN Z (fun hc => ?_) (fun hc => ?_)
 ·have hz : k < manyN A := by omega
  clear hc;(refine aK (aC (aM (aC (aB (aA1 zq (aA1 zq ?_)))))));refine aA7 Wa J J ?_;refine kP U k Z Z Z O J (by rw [eF]; exact hz) ?_;rw [curve_get hz];by_cases hle : cvV A k ≤ m
  ·(refine aA1 zq (jU U Z Z Z J (aD (aH Z (aC (aB ?_))))); (iterate 3 refine aA1 zq ?_); refine aD (aS ?_))
   refine aA5 wq O fun w hs => ?_;exact ⟨⟨((k : Int), 0), Z, .inl ⟨Z, k, Z, hz, hle, hno⟩⟩, hs.chg0⟩
  ·(refine aA1 zq (gO U Z Z Z J (aD (aG Z (aK (bK (aB (aA1 zq (aA4 uq J J (aA1 zq (aD ?_)))))))))))
   exact hK (k + 1) _ _ ⟨by omega, fun j hj => by
    by_cases e : j = k
    ·rw [e]; omega
    ·exact hno j J⟩ J ⟨Z, Z, Z, trivial⟩ O
 ·obtain rfl : k = manyN A := by omega
  (refine bH _ Z (aC (aB (aA1 zq (aA1 zq (aD (aS ?_)))))))
  refine aA5 wq O fun w hs => ?_;exact ⟨⟨(0, 6), Z, .inr ⟨Z, Z, hno⟩⟩, hs.chg0⟩
theorem eno_uniq {A : List (List Int)} {m k e k' e' : Int} (h : EnoR A m k e) (g : EnoR A m k' e') : k = k' ∧ e = e' := by
 rcases h with ⟨h1, t, h2, h3, h4, h5⟩ | ⟨h1, h2, h3⟩
 ·rcases g with ⟨g1, u, g2, g3, g4, g5⟩ | ⟨g1, g2, g3⟩
  ·have : t = u := by
    rcases Nat.lt_trichotomy t u with c | c | c
    ·have := g5 t c; omega
    ·exact c
    ·have := h5 u c; omega
   omega
  ·have := g3 t h3; omega
 ·rcases g with ⟨g1, u, g2, g3, g4, g5⟩ | ⟨g1, g2, g3⟩
  ·have := h3 u g3; omega
  ·omega
theorem rprice_no (w : World) (lo hi : Nat) (v : Value) (A : List (List Int)) (t : Int) (h : RdII w lo hi v A) (hlen : A.length ≤ maxLen) (hrl : ∀ r ∈ A, r.length ≤ maxLen) (h0 : fV A ≠ 0) : Ca Tryz.prog 88 [v, .int .i64 t] w fun x w' => x = .tuple #[.int .i64 0, .int .i64 (fV A)] ∧ Chg [] w w' := by
 refine cN (Sat.nil w M0) Tryz.func88 Z (by simp [Tryz.ntmps88]) ?_;(refine aC (aB (aA1 zq (aA1 zq (aD (aC (aB (aA1 zq (aA1 zq ?_)))))))));refine aI (val := .tuple #[.int .i64 0, .int .i64 (fV A)]) U Z Z Z Z (fun w hs => ?_) ?_; exact rbest_no w lo hi v A t (h.keep hs.chg0) hlen hrl h0;(refine aA1 zq (aB5 xq (aB5 xq (aA1 zq (aA1 zq (aD (aC (aC (aB (aA1 zq (aB0 xq J (aD ?_))))))))))); refine aH Z (aC (aB ?_)); (iterate 3 refine aA1 zq ?_); refine aD (aS ?_));refine aA5 wq O fun w hs => ?_;exact ⟨Z, hs.chg0⟩
theorem rprice_neg (w : World) (lo hi : Nat) (v : Value) (A : List (List Int)) (t : Int) (h : RdII w lo hi v A) (hA : AimOk A) (ht : t < 0) : Ca Tryz.prog 88 [v, .int .i64 t] w fun x w' => x = .tuple #[.int .i64 0, .int .i64 3] ∧ Chg [] w w' := by
 refine cN (Sat.nil w M0) Tryz.func88 Z (by simp [Tryz.ntmps88]) ?_;(refine aC (aB (aA1 zq (aA1 zq (aD (aC (aB (aA1 zq (aA1 zq ?_)))))))));refine aI (val := .tuple #[.int .i64 0, .int .i64 3]) U Z Z Z Z (fun w hs => ?_) ?_; exact rbest_neg w lo hi v A t (h.keep hs.chg0) hA ht;(refine aA1 zq (aB5 xq (aB5 xq (aA1 zq (aA1 zq (aD (aC (aC (aB (aA1 zq (aB0 xq J (aD ?_))))))))))); refine aH Z (aC (aB ?_)); (iterate 3 refine aA1 zq ?_); refine aD (aS ?_));refine aA5 wq O fun w hs => ?_;exact ⟨Z, hs.chg0⟩
theorem mulN {p : Int} {x : Nat} (h0 : 0 ≤ p) (h1 : p ≤ 1000) (hx : x ≤ 21) : 0 ≤ p * (x : Int) ∧ p * (x : Int) ≤ 30000 := ⟨Int.mul_nonneg h0 J, Int.le_trans (Int.mul_le_mul h1 (show (x : Int) ≤ 21 by omega) J J) (by decide)⟩
theorem pr_bd {A : List (List Int)} (hA : AimOk A) {p : Int} (h0 : 0 ≤ p) (h1 : p ≤ 1000) : ∀ i, i ≤ A.length → (0 ≤ fewP A p i ∧ fewP A p i ≤ 21 * i) ∧ (0 ≤ nP A p i ∧ nP A p i ≤ 21 * i) ∧ 0 ≤ sumP A p i ∧ sumP A p i ≤ 31000 * i := fun i => by
 induction i with
 | zero => intro _; simp [fewP, nP, sumP, smF]
 | succ i ih =>
  intro hi;have h := ih J;have hr := hA.row i J;have l := (nO (iI A p i) (amW A i) J).1;have u := (mQ (iI A p i) (amW A i) J).1;have b := hA.bd i (lowA A p i) J l;have m := mulN h0 h1 (x := lowA A p i) (by unfold lowA; omega);have e : iI A p i (lowA A p i) = amA A i (lowA A p i) + p * (lowA A p i : Int) := rfl;have l2 : lowA A p i < amW A i := l;have u2 : highA A p i < amW A i := u;unfold fewP nP sumP at h ⊢;simp only [smF];omega
theorem rprice_ok (w : World) (lo hi : Nat) (v : Value) (A : List (List Int)) (t : Nat) (h : RdII w lo hi v A) (hA : AimOk A) (ht : (t : Int) ≤ 9223372036854775807) : Ca Tryz.prog 88 [v, .int .i64 t] w fun x w' => x = .tuple #[.int .i64 (mostV A (wtsV A t)), .int .i64 0] ∧ Chg [] w w' := by
 have n1 := hA.n1;have n8 := hA.n8;obtain ⟨a, c, rfl, ha⟩ := RdII.outI h;obtain ⟨gb, go, rfl⟩ := ha J;have hq0 := most_nn A (wtsV A t);have hq1 := most_1k hA t;have hcb := miss_bd hA (gP hA t).ok;have hpa := price_at hA t;have hpl := fun p h0 h1 => price_lt hA (t := t) (p := p) h0 h1
 have hcv : iH A (wtsV A t) = cvV A t := rfl;rw [hcv] at hcb;generalize mostV A (wtsV A t) = q at hq0 hq1 hpa hpl ⊢;refine cN (Sat.nil w M0) Tryz.func88 Z (by simp [Tryz.ntmps88]) ?_;(refine aC (aB (aA1 zq (aA1 zq (aD (aC (aB (aA1 zq (aA1 zq ?_)))))))));refine aI (val := .tuple #[.int .i64 (cvV A t), .int .i64 0]) U Z Z Z Z (fun w hs => ?_) ?_; exact rbest_ok w lo hi _ A t (h.keep hs.chg0) hA ht;(refine aA1 zq (aB5 xq (aB5 xq (aA1 zq (aA1 zq (aD (aC (aC (aB (aA1 zq (aA6 xq J (aD ?_))))))))))); refine aG Z (aK (aC (aC (aB (aA1 zq (aD (aM ?_))))))));refine bM (σ := Int) (fun p => 0 ≤ p ∧ p ≤ q) (fun p => (q - p).toNat) (fun p => [(0, (.slice (some ⟨gb, go, none⟩) A.length c)), (1, .int .i64 t), (6, .int .i64 (cvV A t)), (8, .int .i64 p)]) (fun _ => []) 0 ⟨by omega, hq0⟩ ⟨Z, Z, Z, Z, trivial⟩ O ?_;rintro p ⟨p0, p1⟩ K hK;have p2 : p ≤ 1000 := by omega
 (refine aC (aC (aB (aA1 zq (jU U Z Z Z J (aD (aH Z (aK (aC (aM (aC (aB ?_))))))))))); (iterate 3 refine aA1 zq ?_); refine aD (aC (aC (aB (aA1 zq (aD (aM ?_)))))))
 refine bM (σ := Nat) (fun i => i ≤ A.length) (fun i => A.length - i) (fun i => [(0, (.slice (some ⟨gb, go, none⟩) A.length c)), (1, .int .i64 t), (6, .int .i64 (cvV A t)), (8, .int .i64 p), (9, .int .i64 (fewP A p i)), (10, .int .i64 (nP A p i)), (11, .int .i64 (sumP A p i)), (12, .int .i64 i)]) (fun _ => []) 0 J ⟨Z, Z, Z, Z, Z, Z, Z, Z, trivial⟩ O ?_;intro i hi0 K2 hK2;have hB := pr_bd hA p0 p2 i hi0;(refine aC (aC (aB ?_)); (iterate 4 refine aA1 zq ?_); refine aD ?_);refine dN Z (fun hc => ?_) (fun hc => ?_)
 ·have hi2 : i < A.length := by omega
  clear hc;have hrow := hA.row i hi2;obtain ⟨rb, ro, rc, hr1, hr2⟩ := kV h hi2 J;(refine aK (aC (aM (aC (aB (aA1 zq (aA1 zq (aD (aC (aC (aB (aA1 zq ?_))))))))))); refine aD (aM ?_));refine bM (σ := Nat) (fun x => 1 ≤ x ∧ x ≤ amW A i) (fun x => amW A i - x) (fun x => [(0, (.slice (some ⟨gb, go, none⟩) A.length c)), (1, .int .i64 t), (6, .int .i64 (cvV A t)), (8, .int .i64 p), (9, .int .i64 (fewP A p i)), (10, .int .i64 (nP A p i)), (11, .int .i64 (sumP A p i)), (12, .int .i64 i), (13, .int .i64 (lowG (iI A p i) x)), (14, .int .i64 (iP (iI A p i) x)), (15, .int .i64 x)]) (fun _ => []) 1 ⟨by omega, by omega⟩ ⟨Z, Z, Z, Z, Z, Z, Z, Z, fM Z (by simp [lowG]), fM Z (by simp [iP]), Z, trivial⟩ O ?_;rintro x ⟨x1, x2⟩ K3 hK3;have hl := (nO (iI A p i) x J).1;have hu := (mQ (iI A p i) x J).1;(refine aC (aC (aB ?_)); (iterate 3 refine aA1 zq ?_));refine aA7 Wa J J ?_;refine bI U Z Z Z (fun w hs => hr1 _ hs.chg0) ?_;(refine aA1 zq (aA1 zq (aD ?_)));refine dN Z (fun hc => ?_) (fun hc => ?_)
  ·have hx2 : x < amW A i := by omega
   clear hc;have hl2 : lowG (iI A p i) x < amW A i := by omega
   have hu2 : iP (iI A p i) x < amW A i := by omega
   have b1 := hA.bd i x hi2 hx2;have b2 := hA.bd i _ hi2 hl2;have b3 := hA.bd i _ hi2 hu2;have m1 := mulN p0 p2 (x := x) J;have m2 := mulN p0 p2 (x := lowG (iI A p i) x) J;have m3 := mulN p0 p2 (x := iP (iI A p i) x) J;have sl : lowG (iI A p i) (x + 1) = if amA A i x + p * x < amA A i (lowG (iI A p i) x) + p * (lowG (iI A p i) x) then x else lowG (iI A p i) x := rfl
   have su : iP (iI A p i) (x + 1) = if amA A i x + p * x ≤ amA A i (iP (iI A p i) x) + p * (iP (iI A p i) x) then x else iP (iI A p i) x := rfl
   generalize hlg : lowG (iI A p i) x = lx at *;generalize hug : iP (iI A p i) x = ux at *;(refine aK (aC ?_));refine aM ?_;(refine aC (aC ?_));refine bZ _ [] (Sp.refl _) qB qB ?_;(refine aA2 xq (aA2 xq ?_));refine aA3 Wa J J ?_;refine aR U Z Z Z (fun w hs => hr1 _ hs.chg0) ?_;(refine aA2 xq ?_);refine aA3 Wa J J ?_;refine aR U Z Z Z (fun w hs => hr2 x hx2 _ hs.chg0) ?_;(refine aA2 xq (aA2 xq (aA9 uq J J (aA9 uq J J (aA2 xq (aA2 xq ?_))))));refine aA3 Wa J J ?_;refine aR U Z Z Z (fun w hs => hr1 _ hs.chg0) ?_;(refine aA2 xq ?_);refine aA3 Wa J J ?_;refine aR U Z Z Z (fun w hs => hr2 lx hl2 _ hs.chg0) ?_;(refine aA2 xq (aA2 xq (aA9 uq J J (aA9 uq J J (aA2 xq (aN ?_))))));refine fT (σ := Unit) (fun _ => [(0, (.slice (some ⟨gb, go, none⟩) A.length c)), (1, .int .i64 t), (6, .int .i64 (cvV A t)), (8, .int .i64 p), (9, .int .i64 (fewP A p i)), (10, .int .i64 (nP A p i)), (11, .int .i64 (sumP A p i)), (12, .int .i64 i), (13, .int .i64 (lowG (iI A p i) (x + 1))), (14, .int .i64 ux), (15, .int .i64 x)]) (fun _ => []) ?_ ?_;rotate_left
   ·intro K4 hK4;refine dN Z (fun hc => ?_) (fun hc => ?_)
    ·have e : lowG (iI A p i) (x + 1) = x := by rw [sl, if_pos (by simpa using hc)]
     clear hc;(refine aB (aA1 zq (aA1 zq (aD ?_))));exact hK4 () _ _ ⟨Z, Z, Z, Z, Z, Z, Z, Z, fM Z J, Z, Z, trivial⟩ O
    ·have e : lowG (iI A p i) (x + 1) = lx := by rw [sl, if_neg (by simpa using hc)]
     clear hc;(refine aK ?_);exact hK4 () _ _ ⟨Z, Z, Z, Z, Z, Z, Z, Z, fM Z J, Z, Z, trivial⟩ O
   rintro ⟨⟩;(refine aC ?_);refine bZ _ [] (Sp.refl _) qB qB ?_;(refine aA2 xq (aA2 xq ?_));refine aA3 Wa J J ?_;refine aR U Z Z Z (fun w hs => hr1 _ hs.chg0) ?_;(refine aA2 xq ?_);refine aA3 Wa J J ?_;refine aR U Z Z Z (fun w hs => hr2 x hx2 _ hs.chg0) ?_;(refine aA2 xq (aA2 xq (aA9 uq J J (aA9 uq J J (aA2 xq (aA2 xq ?_))))));refine aA3 Wa J J ?_;refine aR U Z Z Z (fun w hs => hr1 _ hs.chg0) ?_;(refine aA2 xq ?_);refine aA3 Wa J J ?_;refine aR U Z Z Z (fun w hs => hr2 ux hu2 _ hs.chg0) ?_;(refine aA2 xq (aA2 xq (aA9 uq J J (aA9 uq J J (aA2 xq (aN ?_))))));refine dN Z (fun hc => ?_) (fun hc => ?_)
   ·have e : iP (iI A p i) (x + 1) = x := by rw [su, if_pos (by simpa using hc)]
    clear hc;(refine aB (aA1 zq (aA1 zq (aD (bK (aB (aA1 zq (aA4 uq J J (aA1 zq (aD ?_))))))))));exact hK3 (x + 1) _ _ ⟨by omega, by omega⟩ J ⟨Z, Z, Z, Z, Z, Z, Z, Z, Z, fM Z J, Z, trivial⟩ O
   ·have e : iP (iI A p i) (x + 1) = ux := by rw [su, if_neg (by simpa using hc)]
    clear hc;(refine aK (bK (aB (aA1 zq (aA4 uq J J (aA1 zq (aD ?_)))))));exact hK3 (x + 1) _ _ ⟨by omega, by omega⟩ J ⟨Z, Z, Z, Z, Z, Z, Z, Z, Z, fM Z J, Z, trivial⟩ O
  ·obtain rfl : x = amW A i := by omega
   clear hc hK3;have e1 : fewP A p (i + 1) = fewP A p i + (lowG (iI A p i) (amW A i) : Nat) := rfl;have e2 : nP A p (i + 1) = nP A p i + (iP (iI A p i) (amW A i) : Nat) := rfl;have e3 : sumP A p (i + 1) = sumP A p i + (amA A i (lowG (iI A p i) (amW A i)) + p * (lowG (iI A p i) (amW A i) : Nat)) := rfl;have b2 := hA.bd i _ hi2 hl;have m2 := mulN p0 p2 (x := lowG (iI A p i) (amW A i)) J;generalize hlg : lowG (iI A p i) (amW A i) = lx at *;generalize hug : iP (iI A p i) (amW A i) = ux at *;(refine bH _ Z (aC (aB (aA1 zq (aA1 zq (aA4 uq J J (aA1 zq (aA1 zq (aA4 uq J J (aA1 zq (aA1 zq (aD ?_))))))))))); refine aB ?_; (iterate 3 refine aA1 zq ?_));refine aA7 Wa J J ?_;refine bI U Z Z Z (fun w hs => hr1 _ hs.chg0) ?_;(refine aA1 zq ?_);refine aA7 Wa J J ?_;refine bI U Z Z Z (fun w hs => hr2 lx hl _ hs.chg0) ?_;(refine aA4 uq J J (aA1 zq (aA1 zq (aA4 uq J J (aA4 uq J J (aA1 zq (aD (bK (aB (aA1 zq (aA4 uq J J (aA1 zq ?_))))))))))); refine aD ?_);exact hK2 (i + 1) _ _ J J ⟨Z, Z, Z, Z, fM Z J, fM Z J, fM Z J, Z, trivial⟩ O
 ·obtain rfl : i = A.length := by omega
  clear hc hK2
  have hnext : ¬ PrC A t p → p + 1 ≤ q := fun hn => by
   by_cases e : p = q
   ·rw [e] at hn; exact absurd hpa hn
   ·omega
  have hthis : PrC A t p → p = q := fun hn => by
   by_cases e : p < q
   ·exact absurd hn (hpl p p0 e)
   ·omega
  unfold PrC at hnext hthis;clear hpa hpl;generalize hF : fewP A p A.length = F at *;generalize hMm : nP A p A.length = M at *;generalize hS : sumP A p A.length = S at *;by_cases c1 : F ≤ t
  ·by_cases c2 : M ≤ t
   ·obtain ⟨pm, hpm⟩ : ∃ pm, pm = p * M := ⟨_, rfl⟩;have hpb : 0 ≤ pm ∧ pm ≤ 1000 * 200 := by rw [hpm]; exact ⟨Int.mul_nonneg p0 J, Int.mul_le_mul p2 J J J⟩
    rw [show min M (t : Int) = M from by omega, ← hpm] at hnext hthis;by_cases c3 : S - pm = cvV A t
    ·have e := hthis ⟨c1, c3⟩;rw [hpm] at hpb c3;(refine bH _ Z (aC (aC (aB (aA1 zq (aA1 zq (aB1 xq J (aD (aG Z (aK (aC (aC ?_))))))))))); refine aB (aA1 zq (aA1 zq (aB1 xq J (aD (aG Z (aK (aC (aB ?_)))))))); (iterate 3 refine aA1 zq ?_); refine aA4 uq J J (aA4 uq J J (aA1 zq (aB2 xq J (aD (aH Z (aC (aB ?_))))))); (iterate 3 refine aA1 zq ?_); refine aD (aS ?_));refine aA5 wq O fun w hs => ?_
     exact ⟨by rw [e]; rfl, hs.chg0⟩
    ·have e := hnext fun g => c3 g.2
     rw [hpm] at hpb c3;(refine bH _ Z (aC (aC (aB (aA1 zq (aA1 zq (aB1 xq J (aD (aG Z (aK (aC (aC ?_))))))))))); refine aB (aA1 zq (aA1 zq (aB1 xq J (aD (aG Z (aK (aC (aB ?_)))))))); (iterate 3 refine aA1 zq ?_); refine aA4 uq J J (aA4 uq J J (aA1 zq (cZ U Z Z Z J (aD (aG Z (aK (bK (aB (aA1 zq (aA4 uq J J (aA1 zq ?_))))))))))); refine aD ?_);exact hK (p + 1) _ _ ⟨by omega, e⟩ J ⟨Z, Z, Z, Z, trivial⟩ O
   ·obtain ⟨pm, hpm⟩ : ∃ pm, pm = p * (t : Int) := ⟨_, rfl⟩;have hpb : 0 ≤ pm ∧ pm ≤ 1000 * 200 := by rw [hpm]; exact ⟨Int.mul_nonneg p0 J, Int.mul_le_mul p2 J J J⟩
    rw [show min M (t : Int) = t from by omega, ← hpm] at hnext hthis;by_cases c3 : S - pm = cvV A t
    ·have e := hthis ⟨c1, c3⟩;rw [hpm] at hpb c3;(refine bH _ Z (aC (aC (aB (aA1 zq (aA1 zq (aB1 xq J (aD (aG Z (aK (aC (aC ?_))))))))))); refine aB (aA1 zq (aA1 zq (cR U Z Z Z J (aD (aH Z (aB (aA1 zq (aA1 zq (aD (aC (aB ?_))))))))))); (iterate 3 refine aA1 zq ?_); refine aA4 uq J J (aA4 uq J J (aA1 zq (aB2 xq J (aD (aH Z (aC (aB ?_))))))); (iterate 3 refine aA1 zq ?_); refine aD (aS ?_));refine aA5 wq O fun w hs => ?_
     exact ⟨by rw [e]; rfl, hs.chg0⟩
    ·have e := hnext fun g => c3 g.2
     rw [hpm] at hpb c3;(refine bH _ Z (aC (aC (aB (aA1 zq (aA1 zq (aB1 xq J (aD (aG Z (aK (aC (aC ?_))))))))))); refine aB (aA1 zq (aA1 zq (cR U Z Z Z J (aD (aH Z (aB (aA1 zq (aA1 zq (aD (aC (aB ?_))))))))))); (iterate 3 refine aA1 zq ?_); refine aA4 uq J J (aA4 uq J J (aA1 zq (cZ U Z Z Z J (aD (aG Z (aK (bK (aB (aA1 zq (aA4 uq J J (aA1 zq ?_))))))))))); refine aD ?_);exact hK (p + 1) _ _ ⟨by omega, e⟩ J ⟨Z, Z, Z, Z, trivial⟩ O
  ·have e := hnext fun g => c1 g.1
   (refine bH _ Z (aC (aC (aB (aA1 zq (aA1 zq (cR U Z Z Z J (aD (aH Z (bH _ Z (aB (aA1 zq ?_))))))))))); refine aA4 uq J J (aA1 zq (aD ?_)))
   exact hK (p + 1) _ _ ⟨by omega, e⟩ J ⟨Z, Z, Z, Z, trivial⟩ O
theorem wt_split {A : List (List Int)} {W : List Int} (h : dX A W = 0) : AimOk A ∧ nI (W.map Int.toNat) = W ∧ WOk A (W.map Int.toNat) := by
 unfold dX at h;split at h
 ·rename_i c
  exact absurd h c
 rename_i c0
 split at h
 ·omega
 rename_i c1
 split at h
 ·rename_i c2
  have := wtB_ok J c2;exact ⟨dP.1 J, this.1, this.2⟩
 ·omega
theorem amissA (w : World) (lo hi lo2 hi2 : Nat) (v wv : Value) (A : List (List Int)) (W : List Int) (h : RdII w lo hi v A) (hW : RdI w lo2 hi2 wv W) (hlA : A.length ≤ maxLen) : Ca Tryz.prog 65 [v, wv] w fun x w' => x = .tuple #[.int .i64 (lT A W), .int .i64 (dX A W)] ∧ Chg [] w w' := by
 by_cases c : dX A W = 0
 ·obtain ⟨hA, e, hV⟩ := wt_split c;have h1 := amiss_ok w lo hi lo2 hi2 v wv A (W.map Int.toNat) h (by rw [e]; exact hW) hA hV;rw [show lT A W = iH A (W.map Int.toNat) from by unfold lT; rw [if_pos c], c];exact h1
 ·have h1 := amiss_no w lo hi lo2 hi2 v wv A W h hW hlA c;rw [show lT A W = 0 from by unfold lT; rw [if_neg c]];exact h1
def iM (A : List (List Int)) (t : Int) : Int := if fV A ≠ 0 then fV A else if t < 0 then 3 else 0
def pR (A : List (List Int)) (t : Int) : Int := if iM A t = 0 then cvV A t.toNat else 0
def fF (A : List (List Int)) (t : Int) : List Nat := if iM A t = 0 then wtsV A t.toNat else []
theorem bstE_ok {A : List (List Int)} {t : Int} (h : iM A t = 0) : AimOk A ∧ 0 ≤ t := by
 unfold iM at h;split at h
 ·rename_i c
  exact absurd h c
 split at h
 ·omega
 ·rename_i c0 c1
  exact ⟨dP.1 J, by omega⟩
theorem bstE_no {A : List (List Int)} {t : Int} (h : iM A t ≠ 0) : (fV A ≠ 0 ∧ iM A t = fV A) ∨ (AimOk A ∧ t < 0 ∧ iM A t = 3) := by
 unfold iM at h ⊢;by_cases c : fV A ≠ 0
 ·rw [if_pos c]; exact .inl ⟨c, rfl⟩
 ·rw [if_neg c] at h ⊢;by_cases c1 : t < 0
  ·rw [if_pos c1]; exact .inr ⟨dP.1 J, c1, rfl⟩
  ·rw [if_neg c1] at h; exact absurd rfl h
theorem abestA (w : World) (lo hi : Nat) (v : Value) (A : List (List Int)) (t : Int) (h : RdII w lo hi v A) (hlen : A.length ≤ maxLen) (ht : t ≤ 9223372036854775807) : Ca Tryz.prog 64 [v, .int .i64 t] w fun x w' => ∃ u : Value, x = .tuple #[u, .int .i64 (pR A t), .int .i64 (iM A t)] ∧ Sat w M0 [.ow u 3 1 (fF A t).length (aX (nI (fF A t)))] w' := by
 by_cases c : iM A t = 0
 ·obtain ⟨hA, t0⟩ := bstE_ok c;obtain ⟨n, rfl⟩ := Int.eq_ofNat_of_zero_le t0;have hg := gP hA n;have n8 := hA.n8;refine (abest_ok w lo hi v A n h hA ht).mono fun x w' ⟨b, h1, h2⟩ => ⟨aB9 b A.length A.length, by rw [h1, pR, if_pos c, c]; rfl, ?_⟩
  rw [fF, if_pos c, show ((n : Int)).toNat = n from rfl, hg.ok.len];exact Sat.pt_ow (m := A.length) (by simp [aX, nI, hg.ok.len]) J h2
 ·have e1 : pR A t = 0 := by unfold pR; rw [if_neg c]
  have e2 : fF A t = [] := by unfold fF; rw [if_neg c]
  rw [e1, e2];rcases bstE_no c with ⟨c1, e⟩ | ⟨hA, t0, e⟩
  ·rw [e];exact (abest_no w lo hi v A t h hlen c1).mono fun x w' ⟨h1, h2⟩ => ⟨_, h1, Sat.ownil ((Sat.nil w M0).keep h2) _ _⟩
  ·rw [e];exact (abest_neg w lo hi v A t h hA t0).mono fun x w' ⟨h1, h2⟩ => ⟨_, h1, Sat.ownil ((Sat.nil w M0).keep h2) _ _⟩
theorem rbestA (w : World) (lo hi : Nat) (v : Value) (A : List (List Int)) (t : Int) (h : RdII w lo hi v A) (hlen : A.length ≤ maxLen) (hrl : ∀ r ∈ A, r.length ≤ maxLen) (ht : t ≤ 9223372036854775807) : Ca Tryz.prog 85 [v, .int .i64 t] w fun x w' => x = .tuple #[.int .i64 (pR A t), .int .i64 (iM A t)] ∧ Chg [] w w' := by
 by_cases c : iM A t = 0
 ·obtain ⟨hA, t0⟩ := bstE_ok c;obtain ⟨n, rfl⟩ := Int.eq_ofNat_of_zero_le t0;rw [c, pR, if_pos c];exact rbest_ok w lo hi v A n h hA ht
 ·have e1 : pR A t = 0 := by unfold pR; rw [if_neg c]
  rw [e1];rcases bstE_no c with ⟨c1, e⟩ | ⟨hA, t0, e⟩
  ·rw [e]; exact rbest_no w lo hi v A t h hlen hrl c1
  ·rw [e]; exact rbest_neg w lo hi v A t h hA t0
def priI (A : List (List Int)) (t : Int) : Int := if iM A t = 0 then mostV A (wtsV A t.toNat) else 0
theorem apriA (w : World) (lo hi : Nat) (v : Value) (A : List (List Int)) (t : Int) (h : RdII w lo hi v A) (hlen : A.length ≤ maxLen) (ht : t ≤ 9223372036854775807) : Ca Tryz.prog 27 [v, .int .i64 t] w fun x w' => x = .tuple #[.int .i64 (priI A t), .int .i64 (iM A t)] ∧ Chg [] w w' := by
 by_cases c : iM A t = 0
 ·obtain ⟨hA, t0⟩ := bstE_ok c;obtain ⟨n, rfl⟩ := Int.eq_ofNat_of_zero_le t0;rw [c, priI, if_pos c];exact aprice_ok w lo hi v A n h hA ht
 ·have e1 : priI A t = 0 := by unfold priI; rw [if_neg c]
  rw [e1];refine cN (Sat.nil w M0) Tryz.func27 Z (by simp [Tryz.ntmps27]) ?_;(refine aC (aB (aA1 zq (aA1 zq (aD (aC (aB (aA1 zq (aA1 zq ?_)))))))));refine bC (β := Value) U [] _ M0 Z Z Z Z (Sp.refl _) qC (fun w' hs => abestA w' lo hi v A t (h.keep hs.chg0) hlen ht) ?_;rintro u _ rfl;dsimp only [List.cons_append, List.nil_append];(refine aA1 zq ?_; (iterate 3 refine aB5 xq ?_); (iterate 3 refine aA1 zq ?_); refine aD (aC (aC (aB (aA1 zq (aB0 xq J (aD (aH Z (aC (aB ?_))))))))); (iterate 3 refine aA1 zq ?_); refine aD (aS ?_));refine aA5 wq O fun w hs => ?_
  exact ⟨Z, hs.chg0⟩
theorem rpriA (w : World) (lo hi : Nat) (v : Value) (A : List (List Int)) (t : Int) (h : RdII w lo hi v A) (hlen : A.length ≤ maxLen) (hrl : ∀ r ∈ A, r.length ≤ maxLen) (ht : t ≤ 9223372036854775807) : Ca Tryz.prog 88 [v, .int .i64 t] w fun x w' => x = .tuple #[.int .i64 (priI A t), .int .i64 (iM A t)] ∧ Chg [] w w' := by
 by_cases c : iM A t = 0
 ·obtain ⟨hA, t0⟩ := bstE_ok c;obtain ⟨n, rfl⟩ := Int.eq_ofNat_of_zero_le t0;rw [c, priI, if_pos c];exact rprice_ok w lo hi v A n h hA ht
 ·have e1 : priI A t = 0 := by unfold priI; rw [if_neg c]
  rw [e1];rcases bstE_no c with ⟨c1, e⟩ | ⟨hA, t0, e⟩
  ·rw [e]; exact rprice_no w lo hi v A t h hlen hrl c1
  ·rw [e]; exact rprice_neg w lo hi v A t h hA t0
def curI (A : List (List Int)) : List Int := if fV A = 0 then eD A (manyN A) else []
theorem curI_len (A : List (List Int)) : (curI A).length ≤ 1000000 := by
 unfold curI;split
 ·rename_i c
  have hA := dP.1 c;have := many_le hA;rw [eF];unfold manyN;omega
 ·simp
theorem acurA (w : World) (lo hi : Nat) (v : Value) (A : List (List Int)) (h : RdII w lo hi v A) (hlen : A.length ≤ maxLen) : Ca Tryz.prog 26 [v] w fun x w' => ∃ u : Value, x = .tuple #[u, .int .i64 (fV A)] ∧ Sat w M0 [.ow u 3 1 (curI A).length (aX (curI A))] w' := by
 by_cases c : fV A = 0
 ·have hA := dP.1 c;rw [c, curI, if_pos c, eF];exact acurve_ok w lo hi v A h hA
 ·rw [curI, if_neg c];exact (acurve_no w lo hi v A h hlen c).mono fun x w' ⟨h1, h2⟩ => ⟨_, h1, Sat.ownil ((Sat.nil w M0).keep h2) _ _⟩
theorem rcurA (w : World) (lo hi : Nat) (v : Value) (A : List (List Int)) (h : RdII w lo hi v A) (hlen : A.length ≤ maxLen) (hrl : ∀ r ∈ A, r.length ≤ maxLen) : Ca Tryz.prog 86 [v] w fun x w' => ∃ u : Value, x = .tuple #[u, .int .i64 (fV A)] ∧ Sat w M0 [.ow u 3 1 (curI A).length (aX (curI A))] w' := by
 by_cases c : fV A = 0
 ·have hA := dP.1 c;have hl := curI_len A;rw [curI, if_pos c, eF] at hl;rw [c, curI, if_pos c, eF];exact (pW w lo hi v A h hA).mono fun x w' ⟨b, h1, h2⟩ => ⟨_, h1, Sat.pt_ow (m := manyN A) (by simp [aX, eF]) hl h2⟩
 ·rw [curI, if_neg c];exact (rcurve_no w lo hi v A h hlen hrl c).mono fun x w' ⟨h1, h2⟩ => ⟨_, h1, Sat.ownil ((Sat.nil w M0).keep h2) _ _⟩
def EnoS (A : List (List Int)) (m : Int) (y : Int × Int) : Prop := (fV A ≠ 0 ∧ y = (0, fV A)) ∨ (fV A = 0 ∧ EnoR A m y.1 y.2)
theorem enoS_uniq {A : List (List Int)} {m : Int} {y z : Int × Int} (h : EnoS A m y) (g : EnoS A m z) : y = z := by
 rcases h with ⟨h1, h2⟩ | ⟨h1, h2⟩
 ·rcases g with ⟨_, g2⟩ | ⟨g1, _⟩
  ·rw [h2, g2]
  ·exact absurd g1 h1
 ·rcases g with ⟨g1, _⟩ | ⟨_, g2⟩
  ·exact absurd h1 g1
  ·have := eno_uniq h2 g2;exact Prod.ext this.1 this.2
theorem aenoA (w : World) (lo hi : Nat) (v : Value) (A : List (List Int)) (m : Int) (h : RdII w lo hi v A) (hlen : A.length ≤ maxLen) : Ca Tryz.prog 28 [v, .int .i64 m] w fun x w' => ∃ y : Int × Int, (x = .tuple #[.int .i64 y.1, .int .i64 y.2] ∧ EnoS A m y) ∧ Sat w M0 [] w' := by
 by_cases c : fV A = 0
 ·exact (aenough_ok w lo hi v A m h (dP.1 c)).mono fun x w' ⟨y, ⟨h1, h2⟩, h3⟩ => ⟨y, ⟨h1, .inr ⟨c, h2⟩⟩, h3⟩
 ·exact (aenough_no w lo hi v A m h hlen c).mono fun x w' ⟨h1, h2⟩ => ⟨(0, fV A), ⟨h1, .inl ⟨c, Z⟩⟩, (Sat.nil w M0).keep h2⟩
theorem renoA (w : World) (lo hi : Nat) (v : Value) (A : List (List Int)) (m : Int) (h : RdII w lo hi v A) (hlen : A.length ≤ maxLen) (hrl : ∀ r ∈ A, r.length ≤ maxLen) : Ca Tryz.prog 87 [v, .int .i64 m] w fun x w' => ∃ y : Int × Int, (x = .tuple #[.int .i64 y.1, .int .i64 y.2] ∧ EnoS A m y) ∧ Sat w M0 [] w' := by
 by_cases c : fV A = 0
 ·exact (renough_ok w lo hi v A m h (dP.1 c)).mono fun x w' ⟨⟨y, h1, h2⟩, h3⟩ => ⟨y, ⟨h1, .inr ⟨c, h2⟩⟩, (Sat.nil w M0).keep h3⟩
 ·exact (renough_no w lo hi v A m h hlen hrl c).mono fun x w' ⟨h1, h2⟩ => ⟨(0, fV A), ⟨h1, .inl ⟨c, Z⟩⟩, (Sat.nil w M0).keep h2⟩
def holE (A : List (List Int)) (W : List Int) (p : Int) : Int := if dX A W ≠ 0 then dX A W else if p < 0 then 3 else 0
def holB (A : List (List Int)) (W : List Int) (p : Int) : Bool := if holE A W p = 0 then hoV A (W.map Int.toNat) p else false
theorem hol_cases (A : List (List Int)) (W : List Int) (p : Int) : (dX A W ≠ 0 ∧ holE A W p = dX A W ∧ holB A W p = false) ∨ (dX A W = 0 ∧ p < 0 ∧ holE A W p = 3 ∧ holB A W p = false) ∨ (dX A W = 0 ∧ 0 ≤ p ∧ holE A W p = 0 ∧ holB A W p = hoV A (W.map Int.toNat) p) := by
 have eE : holE A W p = if dX A W ≠ 0 then dX A W else if p < 0 then 3 else 0 := rfl
 have eB : holB A W p = if holE A W p = 0 then hoV A (W.map Int.toNat) p else false := rfl
 by_cases c : dX A W = 0
 ·rw [if_neg J] at eE;by_cases c1 : p < 0
  ·rw [if_pos c1] at eE;exact .inr (.inl ⟨c, c1, eE, by rw [eB, if_neg J]⟩)
  ·rw [if_neg c1] at eE;exact .inr (.inr ⟨c, by omega, eE, by rw [eB, if_pos eE]⟩)
 ·rw [if_pos c] at eE;exact .inl ⟨c, eE, by rw [eB, if_neg J]⟩
theorem aholA (w : World) (lo hi lo2 hi2 : Nat) (v wv : Value) (A : List (List Int)) (W : List Int) (p : Int) (h : RdII w lo hi v A) (hW : RdI w lo2 hi2 wv W) (hlA : A.length ≤ maxLen) : Ca Tryz.prog 66 [v, wv, .int .i64 p] w fun x w' => x = .tuple #[.bool (holB A W p), .int .i64 (holE A W p)] ∧ Chg [] w w' := by
 rcases hol_cases A W p with ⟨c, e1, e2⟩ | ⟨c, c1, e1, e2⟩ | ⟨c, c1, e1, e2⟩
 ·rw [e1, e2];exact aholds_no w lo hi lo2 hi2 v wv A W p h hW hlA c
 ·obtain ⟨hA, e, hV⟩ := wt_split c;rw [e1, e2];exact aholds_neg w lo hi lo2 hi2 v wv A (W.map Int.toNat) p h (by rw [e]; exact hW) hA hV c1
 ·obtain ⟨hA, e, hV⟩ := wt_split c;rw [e1, e2];exact aholds_ok w lo hi lo2 hi2 v wv A (W.map Int.toNat) p h (by rw [e]; exact hW) hA hV c1
theorem rholA (w : World) (lo hi lo2 hi2 : Nat) (v wv : Value) (A : List (List Int)) (W : List Int) (p : Int) (h : RdII w lo hi v A) (hW : RdI w lo2 hi2 wv W) (hlA : A.length ≤ maxLen) (hrl : ∀ r ∈ A, r.length ≤ maxLen) (hp : p ≤ 9223372036854775807) : Ca Tryz.prog 89 [v, wv, .int .i64 p] w fun x w' => x = .tuple #[.bool (holB A W p), .int .i64 (holE A W p)] ∧ Chg [] w w' := by
 rcases hol_cases A W p with ⟨c, e1, e2⟩ | ⟨c, c1, e1, e2⟩ | ⟨c, c1, e1, e2⟩
 ·rw [e1, e2];exact rhol_no w lo hi lo2 hi2 v wv A W p h hW hlA hrl c
 ·rw [e1, e2];exact rhol_neg w lo hi lo2 hi2 v wv A W p h hW hlA hrl c c1
 ·obtain ⟨hA, e, hV⟩ := wt_split c;rw [e1, e2];exact rhol_ok w lo hi lo2 hi2 v wv A (W.map Int.toNat) p h (by rw [e]; exact hW) hA hV c1 hp
def lngB (A : List (List Int)) : Bool := decide (12 < A.length) || A.any fun r => decide (30 < r.length)
theorem long_ca (w : World) (lo hi : Nat) (v : Value) (A : List (List Int)) (h : RdII w lo hi v A) (hlen : A.length ≤ maxLen) (hrl : ∀ r ∈ A, r.length ≤ maxLen) : Ca Tryz.prog 81 [v] w fun x w' => x = .bool (lngB A) ∧ Chg [] w w' := by
 obtain ⟨a, c, rfl, ha⟩ := RdII.outI h;simp only [maxLen] at hlen hrl;refine cN (Sat.nil w M0) Tryz.func81 Z (by simp [Tryz.ntmps81]) ?_;by_cases c1 : 12 < A.length
 ·have e : lngB A = true := by unfold lngB; rw [decide_eq_true c1]; rfl
  rw [e];(refine aC (aB (aA1 zq (aD (aC (aC (aB (aA1 zq (aA1 zq (cR U Z Z Z J (aD (aH Z ?_))))))))))); refine aC (aB (aA1 zq (aD (aS ?_)))));refine aA5 wq O fun w hs => ?_
  exact ⟨Z, hs.chg0⟩
 ·have e : lngB A = A.any fun r => decide (30 < r.length) := by unfold lngB; rw [decide_eq_false c1]; rfl
  rw [e];(refine aC (aB (aA1 zq (aD (aC (aC (aB (aA1 zq (aA1 zq (aB1 xq J (aD (aG Z ?_))))))))))); refine aK (aC (aC (aB ?_))); (iterate 3 refine aA1 zq ?_); refine aD (aM ?_));refine bM (σ := Nat) (fun k => k ≤ A.length ∧ ((A.take k).any fun r => decide (30 < r.length)) = false) (fun k => A.length - k) (fun k => [(8, .slice a A.length c), (9, .int .i64 A.length), (10, .int .i64 k)]) (fun _ => []) 0 ⟨by omega, Z⟩ ⟨Z, Z, Z, trivial⟩ O ?_;rintro k ⟨hk, hno⟩ K hK;(refine aC (aB (aA1 zq (aD (aC ?_)))));refine dN Z (fun hc => ?_) (fun hc => ?_)
  ·have hk2 : k < A.length := by omega
   clear hc;obtain ⟨gb, go, rfl⟩ := ha J;obtain ⟨ra, rc, hr, hrc⟩ := RdII.row h k hk2;have hrk := hrl _ (List.getElem_mem hk2);(refine aK (aC (aM (aC (aB ?_)))));refine aA7 Wa J J ?_;refine bI U Z Z Z (fun w hs => hrc _ hs.chg0) ?_;by_cases c2 : 30 < A[k].length
   ·have e2 : (A.any fun r => decide (30 < r.length)) = true := List.any_eq_true.2 ⟨A[k], List.getElem_mem hk2, decide_eq_true c2⟩;rw [e2];(refine aA1 zq (aD (aC (aB (aA1 zq (aA1 zq (cR U Z Z Z J (aD (aH Z (aC (aB (aA1 zq ?_))))))))))); refine aD (aS ?_));refine aA5 wq O fun w hs => ?_
    exact ⟨Z, hs.chg0⟩
   ·(refine aA1 zq (aD (aC (aB (aA1 zq (aA1 zq (aB1 xq J (aD (aG Z (aK (bK (aB ?_))))))))))); refine aA4 uq J J (aA1 zq (aD ?_)))
    exact hK (k + 1) _ _ ⟨by omega, by rw [List.take_succ_eq_append_getElem hk2, List.any_append, hno]; simp; omega⟩ J ⟨Z, Z, Z, trivial⟩ O
  ·obtain rfl : k = A.length := by omega
   rw [List.take_length] at hno;rw [hno];(refine bH _ Z (aC (aB (aA1 zq (aD (aS ?_))))));refine aA5 wq O fun w hs => ?_
   exact ⟨Z, hs.chg0⟩
theorem nI_back (V : List Nat) : (nI V).map Int.toNat = V := by
 unfold nI;rw [List.map_map]
 conv => rhs; rw [← List.map_id V]
 exact List.map_congr_left fun x _ => by simp
set_option maxRecDepth 20000 in
theorem iV (w : World) (A : List (List Int)) (W : List Int) (v0 wv0 : Value) (tot mis pri : Int) (h : RdII w 0 w.heap.size v0 A) (hRW : RdI w 0 w.heap.size wv0 W) (hl1 : A.length ≤ maxLen) (hrl : ∀ r ∈ A, r.length ≤ maxLen) (hl2 : W.length ≤ maxLen) (ht : tot ≤ 9223372036854775807) (hp : pri ≤ 9223372036854775807) : Ca Tryz.prog 13 [v0, wv0, .int .i64 tot, .int .i64 mis, .int .i64 pri] w fun r w' => r = .bool true ∧ Chg [] w w' := by
 obtain ⟨va, vc, ev, _⟩ := RdII.outI h;obtain ⟨wa, wc, ew, _⟩ := RdI.outI hRW;refine cN (Sat.nil w M0) Tryz.func13 Z (by simp [Tryz.ntmps13]) ?_;(refine aC (aB (aA1 zq (aD (aC (aC (aB (aA1 zq ?_))))))));refine aI (val := .bool (lngB A)) U Z Z Z Z (fun w hs => ?_) ?_; exact long_ca w _ _ _ A (RdII.keep h hs.chg0) hl1 hrl;simp only [maxLen] at hl2;by_cases hlg : lngB A = true
 ·rw [hlg];(refine aA1 zq ?_; (iterate 3 refine aA8 yq ?_); refine aA1 zq (aD (aH Z (aC (aB ?_)))));refine aI (val := .bool true) U Z Z Z Z (fun w hs => ?_) ?_; exact cY w;(refine aA1 zq (aD (aS ?_)));refine aA5 wq O fun w hs => ?_
  exact ⟨Z, hs.chg0⟩
 by_cases hw12 : 12 < W.length
 ·rw [show lngB A = false from by simpa using hlg];subst ew;(refine aA1 zq (aE Z (aA1 zq (aE Z (aA1 zq (aE Z (cR U Z Z Z J (aA1 zq (aD (aH Z (aC (aB ?_))))))))))));refine aI (val := .bool true) U Z Z Z Z (fun w hs => ?_) ?_; exact cY w;(refine aA1 zq (aD (aS ?_)));refine aA5 wq O fun w hs => ?_
  exact ⟨Z, hs.chg0⟩
 have hlg2 : A.length ≤ 12 ∧ ∀ r ∈ A, r.length ≤ 30 := by
  unfold lngB at hlg;rw [Bool.or_eq_true, not_or, decide_eq_true_iff] at hlg;refine ⟨by omega, fun r hr => ?_⟩;have : ¬ 30 < r.length := fun c => hlg.2 (List.any_eq_true.2 ⟨r, hr, decide_eq_true c⟩)
  omega
 rw [show lngB A = false from by simpa using hlg];obtain ⟨hA12, hr30⟩ := hlg2;clear hlg;subst ew;(refine aA1 zq (aE Z (aA1 zq (aE Z (aA1 zq (aE Z (aB1 xq J (aA1 zq (aD (aG Z (aK (aC ?_))))))))))); refine aB (aA1 zq ?_));generalize ew : (Value.slice wa W.length wc) = wv0 at hRW ⊢;refine bC (β := Value × List (Value × List Int)) U [] _ M0 Z Z Z Z (Sp.refl _) qC (fun w' hs => cloneAll_ca w' 0 w.heap.size _ A (RdII.keep h hs.chg0) J (fun l hl => by have := hr30 l hl; omega)) ?_;rintro ⟨_, X⟩ vo ⟨rfl, hX⟩;dsimp only [List.cons_append, List.nil_append];dsimp only at hX;refine cU (fun w hs => hs.slice2 (v := vo) O) ?_;rintro ⟨oa, oc, rfl⟩
 have hRD : ∀ w', (un (dM 3 X)).p w' → w'.ownsRow 0 29 1 (.slice oa A.length oc) A.length (X.map (fun p : Value × List Int => p.1)) → RdII w' 0 w'.heap.size (.slice oa A.length oc) A := fun w' h1 h2 => by
  have := rowsO_rd h1 h2;rw [hX] at this;exact this
 (refine aA1 zq ?_)
 refine bC (β := Value) U [] _ M0 Z Z Z Z (Sp.refl _) qC (fun w' hs => lY w' 0 w.heap.size _ W (RdE.keep hRW hs.chg0) J) ?_;rintro _ vi rfl;dsimp only [List.cons_append, List.nil_append];refine cU (fun w hs => hs.slice2 (v := vi) O) ?_;rintro ⟨ia, ic, rfl⟩;(refine aA1 zq (aA1 zq (aD (aC (aC (aB (aA1 zq ?_)))))));refine aI (val := .int .i64 (fV A)) U Z Z Z Z (fun w hs => ?_) ?_; exact iQ w 0 w.heap.size _ A (hRD _ (hs.mem (c := un (dM 3 X)) O) (hs.mem (c := .ow (.slice oa A.length oc) 29 1 A.length (X.map (fun p : Value × List Int => p.1))) O)) hl1;(refine aA1 zq ?_);refine aI (val := .int .i64 (fV A)) U Z Z Z Z (fun w hs => ?_) ?_; exact rchkA_ca w _ _ _ A (RdII.keep h hs.chg0) hl1 hrl;(refine aA6 xq J (aD (aG Z (aK (aC (aB (aA1 zq (aA1 zq ?_))))))));refine aI (val := .tuple #[.int .i64 (lT A W), .int .i64 (dX A W)]) U Z Z Z Z (fun w hs => ?_) ?_; exact amissA w 0 w.heap.size 0 w.heap.size _ _ A W (hRD _ (hs.mem (c := un (dM 3 X)) O) (hs.mem (c := .ow (.slice oa A.length oc) 29 1 A.length (X.map (fun p : Value × List Int => p.1))) O)) (bU (hs.mem (c := .ow (.slice ia W.length ic) 3 1 W.length (aX W)) O) Z) hl1;(refine aA1 zq (aB5 xq (aB5 xq (aA1 zq (aA1 zq (aD (aC (aB (aA1 zq (aA1 zq ?_))))))))));refine aI (val := .tuple #[.int .i64 (lT A W), .int .i64 (dX A W)]) U Z Z Z Z (fun w hs => ?_) ?_; exact pG w _ _ _ _ _ _ A W (RdII.keep h hs.chg0) (RdE.keep hRW hs.chg0) hl1 hrl;(refine aA1 zq (aB5 xq (aB5 xq (aA1 zq (aA1 zq (aD (aC (aC (aB (aA1 zq (aA1 zq (aA6 xq J ?_))))))))))); refine aA1 zq (aE Z (aA1 zq (aE Z (aA1 zq (aE Z (aA6 xq J (aA1 zq (aD (aG Z (aK (aC ?_))))))))))); refine aB (aA1 zq (aA1 zq ?_)));refine bC (β := Value) U [] _ M0 Z Z Z Z (Sp.refl _) qC (fun w' hs => abestA w' 0 w'.heap.size _ A tot (hRD _ (hs.mem (c := un (dM 3 X)) O) (hs.mem (c := .ow (.slice oa A.length oc) 29 1 A.length (X.map (fun p : Value × List Int => p.1))) O)) hl1 ht) ?_;rintro vl _ rfl;dsimp only [List.cons_append, List.nil_append];refine cU (fun w hs => hs.slice2 (v := vl) O) ?_;rintro ⟨la, lc, rfl⟩;(refine aA1 zq ?_; (iterate 3 refine aB5 xq ?_); (iterate 3 refine aA1 zq ?_); refine aD (aC (aB (aA1 zq (aA1 zq ?_)))));refine aI (val := .tuple #[.int .i64 (pR A tot), .int .i64 (iM A tot)]) U Z Z Z Z (fun w hs => ?_) ?_; exact rbestA w _ _ _ A tot (RdII.keep h hs.chg0) hl1 hrl ht;by_cases hE : iM A tot = 0
 ·obtain ⟨hAo, t0⟩ := bstE_ok hE;obtain ⟨n, rfl⟩ := Int.eq_ofNat_of_zero_le t0;have hg := gP hAo n;have n8 := hAo.n8;have eL : fF A n = wtsV A n := by unfold fF; rw [if_pos hE]; rfl
  have eI : pR A n = cvV A n := by unfold pR; rw [if_pos hE]; rfl
  have hLl : (fF A n).length = A.length := by rw [eL, hg.ok.len]
  have hsum : ∀ k, k ≤ A.length → 0 ≤ lG (fF A n) k ∧ lG (fF A n) k ≤ 21 * k := fun k => by
   induction k with
   | zero => intro _; exact ⟨Int.le_refl _, Int.le_refl _⟩
   | succ k ih =>
    intro hk;have h1 := ih J;have h2 := hg.ok.lt k J;have h3 := (hAo.row k J).2;rw [← eL] at h2;unfold lG at h1 ⊢;simp only [smF];omega
  (refine aA1 zq (aB5 xq (aB5 xq (aA1 zq (aA1 zq (aD (aC (aC (aB (aA1 zq (aA1 zq (aA6 xq J ?_))))))))))); refine aA1 zq (aE Z (aA1 zq (aE Z (aA1 zq (aE Z (aA6 xq J (aA1 zq (aA1 zq (aE Z (aA1 zq (aE Z ?_))))))))))); refine aA6 xq J (aE Z (aA1 zq ?_)); (iterate 3 refine aA8 yq ?_); refine aE Z (aA1 zq (aA1 zq (aD (aG Z (aK (aC (aC (aB (aA1 zq (aB2 xq J (aD ?_))))))))))); refine aH Z (aC (aB (aA1 zq (aD (aC (aC (aB ?_))))))); (iterate 3 refine aA1 zq ?_); refine aD (aM ?_))
  refine bM (σ := Nat) (fun k => k ≤ A.length) (fun k => A.length - k) (fun k => [(0, v0), (1, wv0), (2, .int .i64 n), (3, .int .i64 mis), (4, .int .i64 pri), (11, (.slice oa A.length oc)), (12, (.slice ia W.length ic)), (15, .int .i64 (pR A n)), (17, (.slice la (fF A n).length lc)), (18, .int .i64 (lG (fF A n) k)), (96, (.slice la (fF A n).length lc)), (97, .int .i64 A.length), (98, .int .i64 k)]) (fun _ => [.ow (.slice la (fF A n).length lc) 3 1 (fF A n).length (aX (nI (fF A n))), un (dM 3 X), .ow (.slice oa A.length oc) 29 1 A.length (X.map (fun p : Value × List Int => p.1)), .ow (.slice ia W.length ic) 3 1 W.length (aX W)]) 0 J ⟨Z, Z, Z, Z, Z, Z, Z, Z, Z, Z, Z, fM Z J, Z, trivial⟩ O ?_;intro k hk K hK;have hs1 := hsum k hk;(refine aC (aB (aA1 zq (aD (aC ?_)))));refine dN Z (fun hc => ?_) (fun hc => ?_)
  ·have hk2 : k < A.length := by omega
   clear hc;have hkl : k < (nI (fF A n)).length := by rw [eC, hLl]; exact hk2
   have hkk : (nI (fF A n))[k] = (wtO (fF A n) k : Int) := nI_get J hkl;have e : lG (fF A n) (k + 1) = lG (fF A n) k + (wtO (fF A n) k : Int) := rfl;have hs2 := hsum (k + 1) J;(refine aK (aC (aM (aC (aB ?_)))));refine cU (fun w hs => hs.ownSome (v := (.slice la (fF A n).length lc)) O J) ?_;rintro ⟨lb, ld, e⟩;cases e
   refine aA7 Wa J J ?_;refine bI (v := .int .i64 (wtO (fF A n) k)) U Z Z Z (fun w hs => by rw [← hkk]; exact RdI.at (bU (hs.mem (c := .ow (aB9 lb (fF A n).length lc) 3 1 (fF A n).length (aX (nI (fF A n)))) O) (by rw [eC])) k hkl) ?_;(refine aA1 zq (aD (aB (aA1 zq (aA1 zq (aA4 uq J J (aA1 zq (aD (bK (aB (aA4 uq J J (aA1 zq ?_))))))))))); refine aD ?_);exact hK (k + 1) _ _ J J ⟨Z, Z, Z, Z, Z, Z, Z, Z, Z, fM Z J, Z, Z, Z, trivial⟩ O
  ·obtain rfl : k = A.length := by omega
   clear hc hK;have hle : lG (fF A n) A.length ≤ n := by rw [eL]; exact hg.sum.2
   have hw0 : dX A (nI (fF A n)) = 0 := by rw [eL]; exact oO hAo hg.ok
   have hmi : lT A (nI (fF A n)) = pR A n := by unfold lT; rw [if_pos hw0, nI_back, eL, eI]; rfl
   (refine bH _ Z (aC (aB (aA1 zq (aA1 zq ?_)))))
   refine aI (val := .tuple #[.int .i64 (pR A n), .int .i64 0]) U Z Z Z Z (fun w hs => ?_) ?_; exact by have := pG w _ _ _ _ _ _ A (nI (fF A n)) (RdII.keep h hs.chg0) (bU (hs.mem (c := .ow (.slice la (fF A n).length lc) 3 1 (fF A n).length (aX (nI (fF A n)))) O) (by rw [eC])) hl1 hrl; rw [hw0, hmi] at this; exact this
   (refine aA1 zq (aB5 xq (aB5 xq (aA1 zq (aA1 zq (aD (aC (aB (aA1 zq (aA6 xq J (aA1 zq (aE Z ?_))))))))))); refine aA1 zq (aE Z (aA1 zq (aE Z (aA6 xq J (aA1 zq (aA1 zq (aE Z (aA1 zq (aE Z (aA1 zq (aE Z ?_))))))))))); refine aB1 xq J (aA1 zq (aD (aG Z (aK (aC (aB (aA1 zq ?_))))))))
   refine bC (β := Value) U [] _ M0 Z Z Z Z (Sp.refl _) qC (fun w' hs => acurA w' 0 w'.heap.size _ A (hRD _ (hs.mem (c := un (dM 3 X)) O) (hs.mem (c := .ow (.slice oa A.length oc) 29 1 A.length (X.map (fun p : Value × List Int => p.1))) O)) hl1) ?_;rintro vx _ rfl;dsimp only [List.cons_append, List.nil_append];refine cU (fun w hs => hs.slice2 (v := vx) O) ?_;rintro ⟨xa, xc, rfl⟩;(refine aA1 zq (aB5 xq (aB5 xq (aA1 zq (aA1 zq (aD (aC (aB (aA1 zq ?_)))))))));refine bC (β := Value) U [] _ M0 Z Z Z Z (Sp.refl _) qC (fun w' hs => rcurA w' 0 w.heap.size _ A (RdII.keep h hs.chg0) hl1 hrl) ?_;rintro vy _ rfl;dsimp only [List.cons_append, List.nil_append];refine cU (fun w hs => hs.slice2 (v := vy) O) ?_;rintro ⟨ya, yc, rfl⟩;(refine aA1 zq (aB5 xq (aB5 xq (aA1 zq (aA1 zq (aD (aC (aC (aB (aA1 zq (aA1 zq (aA6 xq J ?_))))))))))); refine aA1 zq (aE Z (aA1 zq (aE Z (aA1 zq (aE Z ?_))))));refine aI (val := .bool true) U Z Z Z Z (fun w hs => ?_) ?_; exact gR w 0 w.heap.size 0 w.heap.size _ _ (curI A) (bU (hs.mem (c := .ow (.slice xa (curI A).length xc) 3 1 (curI A).length (aX (curI A))) O) Z) (bU (hs.mem (c := .ow (.slice ya (curI A).length yc) 3 1 (curI A).length (aX (curI A))) O) Z) (curI_len A);(refine aE Z (aA1 zq (aA1 zq (aD (aG Z (aK (aC (aB (aA1 zq (aA1 zq ?_))))))))));refine bC (β := Int × Int) U [] _ M0 Z Z Z Z (Sp.refl _) qC (fun w' hs => aenoA w' 0 w'.heap.size _ A mis (hRD _ (hs.mem (c := un (dM 3 X)) O) (hs.mem (c := .ow (.slice oa A.length oc) 29 1 A.length (X.map (fun p : Value × List Int => p.1))) O)) hl1) ?_;rintro ⟨k1, e1⟩ _ ⟨rfl, hk1⟩;dsimp only [List.cons_append, List.nil_append];(refine aA1 zq (aB5 xq (aB5 xq (aA1 zq (aA1 zq (aD (aC (aB (aA1 zq (aA1 zq ?_))))))))));refine bC (β := Int × Int) U [] _ M0 Z Z Z Z (Sp.refl _) qC (fun w' hs => renoA w' 0 w.heap.size _ A mis (RdII.keep h hs.chg0) hl1 hrl) ?_;rintro ⟨k2, e2⟩ _ ⟨rfl, hk2⟩;dsimp only [List.cons_append, List.nil_append];obtain ⟨rfl, rfl⟩ : k1 = k2 ∧ e1 = e2 := by have := enoS_uniq hk1 hk2; injection this with h1 h2; exact ⟨h1, h2⟩
   clear hk1 hk2;(refine aA1 zq (aB5 xq (aB5 xq (aA1 zq (aA1 zq (aD (aC (aC (aB (aA1 zq (aA1 zq (aA6 xq J ?_))))))))))); refine aA1 zq (aE Z (aA1 zq (aE Z (aA1 zq (aE Z (aA6 xq J (aA1 zq (aD (aG Z (aK (aC ?_))))))))))); refine aB (aA1 zq (aA1 zq ?_)));refine aI (val := .tuple #[.int .i64 (priI A n), .int .i64 (iM A n)]) U Z Z Z Z (fun w hs => ?_) ?_; exact apriA w 0 w.heap.size _ A n (hRD _ (hs.mem (c := un (dM 3 X)) O) (hs.mem (c := .ow (.slice oa A.length oc) 29 1 A.length (X.map (fun p : Value × List Int => p.1))) O)) hl1 ht;(refine aA1 zq (aB5 xq (aB5 xq (aA1 zq (aA1 zq (aD (aC (aB (aA1 zq (aA1 zq ?_))))))))));refine aI (val := .tuple #[.int .i64 (priI A n), .int .i64 (iM A n)]) U Z Z Z Z (fun w hs => ?_) ?_; exact rpriA w _ _ _ A n (RdII.keep h hs.chg0) hl1 hrl ht;(refine aA1 zq (aB5 xq (aB5 xq (aA1 zq (aA1 zq (aD (aC (aC (aB (aA1 zq (aA1 zq (aA6 xq J ?_))))))))))); refine aA1 zq (aE Z (aA1 zq (aE Z (aA1 zq (aE Z (aA6 xq J (aA1 zq (aD (aG Z (aK (aC ?_))))))))))); refine aB ?_; (iterate 3 refine aA1 zq ?_));refine aI (val := .tuple #[.bool (holB A W pri), .int .i64 (holE A W pri)]) U Z Z Z Z (fun w hs => ?_) ?_; exact aholA w 0 w.heap.size 0 w.heap.size _ _ A W pri (hRD _ (hs.mem (c := un (dM 3 X)) O) (hs.mem (c := .ow (.slice oa A.length oc) 29 1 A.length (X.map (fun p : Value × List Int => p.1))) O)) (bU (hs.mem (c := .ow (.slice ia W.length ic) 3 1 W.length (aX W)) O) Z) hl1;(refine aA1 zq (aB5 xq (aB5 xq (aA1 zq (aA1 zq (aD (aC (aB ?_))))))); (iterate 3 refine aA1 zq ?_));refine aI (val := .tuple #[.bool (holB A W pri), .int .i64 (holE A W pri)]) U Z Z Z Z (fun w hs => ?_) ?_; exact rholA w _ _ _ _ _ _ A W pri (RdII.keep h hs.chg0) (RdE.keep hRW hs.chg0) hl1 hrl hp;(refine aA1 zq (aB5 xq (aB5 xq (aA1 zq (aA1 zq (aD (aC (aB (aA1 zq (aA1 zq ?_))))))))));refine ql_eqb (p := (holB A W pri)) (q := (holB A W pri)) qB Z Z Z ?_;rw [show ((holB A W pri) == (holB A W pri)) = true from by simp];(refine aA1 zq (aE Z (aA1 zq (aE Z (aA1 zq (aE Z (aB2 xq J (aA1 zq (aA1 zq (aE Z (aA1 zq (aE Z ?_))))))))))); refine aA1 zq (aE Z ?_));refine aI (val := .bool true) U Z Z Z Z (fun w hs => ?_) ?_; exact eqII_ca w 0 w.heap.size _ _ _ v0 A (hRD _ (hs.mem (c := un (dM 3 X)) O) (hs.mem (c := .ow (.slice oa A.length oc) 29 1 A.length (X.map (fun p : Value × List Int => p.1))) O)) (RdII.keep h hs.chg0) J (fun r hr => by have := hr30 r hr; omega);(refine aA1 zq (aA1 zq (aE Z (aA1 zq (aE Z (aA1 zq (aE Z ?_)))))));refine aI (val := .bool true) U Z Z Z Z (fun w hs => ?_) ?_; exact gR w 0 w.heap.size _ _ _ wv0 W (bU (hs.mem (c := .ow (.slice ia W.length ic) 3 1 W.length (aX W)) O) Z) (RdE.keep hRW hs.chg0) J;(refine aA1 zq (aA1 zq (aE Z ?_)));refine aI (val := .bool true) U Z Z Z Z (fun w hs => ?_) ?_; exact cY w;(refine aA1 zq (aA1 zq (aD (aS ?_))));refine aA5 wq O fun w hs => ?_
   exact ⟨Z, hs.chg0⟩
 ·have eL : fF A tot = [] := by unfold fF; rw [if_neg hE]
  rw [eL];(refine aA1 zq (aB5 xq (aB5 xq (aA1 zq (aA1 zq (aD (aC (aC (aB (aA1 zq (aA1 zq (aA6 xq J ?_))))))))))); refine aA1 zq (aE Z (aA1 zq (aE Z (aA1 zq (aE Z (aA6 xq J (aA1 zq (aA1 zq (aE Z (aA1 zq (aE Z ?_))))))))))); refine aB0 xq J (aE Z (aA1 zq (aE Z (aA1 zq (aE Z (aA1 zq (aE Z (aA1 zq (aE Z (aA1 zq (aA1 zq ?_))))))))))); refine aD (aG Z (aK (aC (aC (aB (aA1 zq (cZ U Z Z Z J (aD (aG Z (aK (aC ?_))))))))))); refine aB (aA1 zq ?_));refine bC (β := Value) U [] _ M0 Z Z Z Z (Sp.refl _) qC (fun w' hs => acurA w' 0 w'.heap.size _ A (hRD _ (hs.mem (c := un (dM 3 X)) O) (hs.mem (c := .ow (.slice oa A.length oc) 29 1 A.length (X.map (fun p : Value × List Int => p.1))) O)) hl1) ?_;rintro vx _ rfl;dsimp only [List.cons_append, List.nil_append];refine cU (fun w hs => hs.slice2 (v := vx) O) ?_;rintro ⟨xa, xc, rfl⟩;(refine aA1 zq (aB5 xq (aB5 xq (aA1 zq (aA1 zq (aD (aC (aB (aA1 zq ?_)))))))));refine bC (β := Value) U [] _ M0 Z Z Z Z (Sp.refl _) qC (fun w' hs => rcurA w' 0 w.heap.size _ A (RdII.keep h hs.chg0) hl1 hrl) ?_;rintro vy _ rfl;dsimp only [List.cons_append, List.nil_append];refine cU (fun w hs => hs.slice2 (v := vy) O) ?_;rintro ⟨ya, yc, rfl⟩;(refine aA1 zq (aB5 xq (aB5 xq (aA1 zq (aA1 zq (aD (aC (aC (aB (aA1 zq (aA1 zq (aA6 xq J ?_))))))))))); refine aA1 zq (aE Z (aA1 zq (aE Z (aA1 zq (aE Z ?_))))));refine aI (val := .bool true) U Z Z Z Z (fun w hs => ?_) ?_; exact gR w 0 w.heap.size 0 w.heap.size _ _ (curI A) (bU (hs.mem (c := .ow (.slice xa (curI A).length xc) 3 1 (curI A).length (aX (curI A))) O) Z) (bU (hs.mem (c := .ow (.slice ya (curI A).length yc) 3 1 (curI A).length (aX (curI A))) O) Z) (curI_len A);(refine aE Z (aA1 zq (aA1 zq (aD (aG Z (aK (aC (aB (aA1 zq (aA1 zq ?_))))))))));refine bC (β := Int × Int) U [] _ M0 Z Z Z Z (Sp.refl _) qC (fun w' hs => aenoA w' 0 w'.heap.size _ A mis (hRD _ (hs.mem (c := un (dM 3 X)) O) (hs.mem (c := .ow (.slice oa A.length oc) 29 1 A.length (X.map (fun p : Value × List Int => p.1))) O)) hl1) ?_;rintro ⟨k1, e1⟩ _ ⟨rfl, hk1⟩;dsimp only [List.cons_append, List.nil_append];(refine aA1 zq (aB5 xq (aB5 xq (aA1 zq (aA1 zq (aD (aC (aB (aA1 zq (aA1 zq ?_))))))))));refine bC (β := Int × Int) U [] _ M0 Z Z Z Z (Sp.refl _) qC (fun w' hs => renoA w' 0 w.heap.size _ A mis (RdII.keep h hs.chg0) hl1 hrl) ?_;rintro ⟨k2, e2⟩ _ ⟨rfl, hk2⟩;dsimp only [List.cons_append, List.nil_append];obtain ⟨rfl, rfl⟩ : k1 = k2 ∧ e1 = e2 := by have := enoS_uniq hk1 hk2; injection this with h1 h2; exact ⟨h1, h2⟩
  clear hk1 hk2;(refine aA1 zq (aB5 xq (aB5 xq (aA1 zq (aA1 zq (aD (aC (aC (aB (aA1 zq (aA1 zq (aA6 xq J ?_))))))))))); refine aA1 zq (aE Z (aA1 zq (aE Z (aA1 zq (aE Z (aA6 xq J (aA1 zq (aD (aG Z (aK (aC ?_))))))))))); refine aB (aA1 zq (aA1 zq ?_)));refine aI (val := .tuple #[.int .i64 (priI A tot), .int .i64 (iM A tot)]) U Z Z Z Z (fun w hs => ?_) ?_; exact apriA w 0 w.heap.size _ A tot (hRD _ (hs.mem (c := un (dM 3 X)) O) (hs.mem (c := .ow (.slice oa A.length oc) 29 1 A.length (X.map (fun p : Value × List Int => p.1))) O)) hl1 ht;(refine aA1 zq (aB5 xq (aB5 xq (aA1 zq (aA1 zq (aD (aC (aB (aA1 zq (aA1 zq ?_))))))))));refine aI (val := .tuple #[.int .i64 (priI A tot), .int .i64 (iM A tot)]) U Z Z Z Z (fun w hs => ?_) ?_; exact rpriA w _ _ _ A tot (RdII.keep h hs.chg0) hl1 hrl ht;(refine aA1 zq (aB5 xq (aB5 xq (aA1 zq (aA1 zq (aD (aC (aC (aB (aA1 zq (aA1 zq (aA6 xq J ?_))))))))))); refine aA1 zq (aE Z (aA1 zq (aE Z (aA1 zq (aE Z (aA6 xq J (aA1 zq (aD (aG Z (aK (aC ?_))))))))))); refine aB ?_; (iterate 3 refine aA1 zq ?_));refine aI (val := .tuple #[.bool (holB A W pri), .int .i64 (holE A W pri)]) U Z Z Z Z (fun w hs => ?_) ?_; exact aholA w 0 w.heap.size 0 w.heap.size _ _ A W pri (hRD _ (hs.mem (c := un (dM 3 X)) O) (hs.mem (c := .ow (.slice oa A.length oc) 29 1 A.length (X.map (fun p : Value × List Int => p.1))) O)) (bU (hs.mem (c := .ow (.slice ia W.length ic) 3 1 W.length (aX W)) O) Z) hl1;(refine aA1 zq (aB5 xq (aB5 xq (aA1 zq (aA1 zq (aD (aC (aB ?_))))))); (iterate 3 refine aA1 zq ?_));refine aI (val := .tuple #[.bool (holB A W pri), .int .i64 (holE A W pri)]) U Z Z Z Z (fun w hs => ?_) ?_; exact rholA w _ _ _ _ _ _ A W pri (RdII.keep h hs.chg0) (RdE.keep hRW hs.chg0) hl1 hrl hp;(refine aA1 zq (aB5 xq (aB5 xq (aA1 zq (aA1 zq (aD (aC (aB (aA1 zq (aA1 zq ?_))))))))));refine ql_eqb (p := (holB A W pri)) (q := (holB A W pri)) qB Z Z Z ?_;rw [show ((holB A W pri) == (holB A W pri)) = true from by simp];(refine aA1 zq (aE Z (aA1 zq (aE Z (aA1 zq (aE Z (aB2 xq J (aA1 zq (aA1 zq (aE Z (aA1 zq (aE Z ?_))))))))))); refine aA1 zq (aE Z ?_));refine aI (val := .bool true) U Z Z Z Z (fun w hs => ?_) ?_; exact eqII_ca w 0 w.heap.size _ _ _ v0 A (hRD _ (hs.mem (c := un (dM 3 X)) O) (hs.mem (c := .ow (.slice oa A.length oc) 29 1 A.length (X.map (fun p : Value × List Int => p.1))) O)) (RdII.keep h hs.chg0) J (fun r hr => by have := hr30 r hr; omega);(refine aA1 zq (aA1 zq (aE Z (aA1 zq (aE Z (aA1 zq (aE Z ?_)))))));refine aI (val := .bool true) U Z Z Z Z (fun w hs => ?_) ?_; exact gR w 0 w.heap.size _ _ _ wv0 W (bU (hs.mem (c := .ow (.slice ia W.length ic) 3 1 W.length (aX W)) O) Z) (RdE.keep hRW hs.chg0) J;(refine aA1 zq (aA1 zq (aE Z ?_)));refine aI (val := .bool true) U Z Z Z Z (fun w hs => ?_) ?_; exact cY w;(refine aA1 zq (aA1 zq (aD (aS ?_))));refine aA5 wq O fun w hs => ?_
  exact ⟨Z, hs.chg0⟩
def smallV7 : List Int := [-2, -1, 0, 1, 2, 3, 4, 5, 10, 29, 30, 50, 60, 99, 100, 101, 150, 200, 300, 500, 550, 1000, 1001, 2500, 3499, 3500, 3505, 3508, 4500, 4501, 10000, 10001, 20000, 20001, 9223372036854775807, -9223372036854775808]
theorem iW {w : World} {b c n : Nat} {l : List Int} {t : TypeId} (h : Blk w b (aX l) t) (hn : n = l.length) : RdI w 0 w.heap.size (aB9 b n c) l := by
 subst hn;exact Blk.rdI h
theorem oQ {w : World} {b c n : Nat} {x : Int} {l : List Int} {t : TypeId} (h : Blk w b (aX (x :: l)) t) (hn : n = l.length) : RdI w 0 w.heap.size (.slice (some ⟨b, 1, none⟩) n c) l := by
 subst hn;refine RdI.of ⟨by simp [aX], .inr ⟨b, 1, c, Z, fun _ => ⟨Nat.zero_le _, h.lt, h.lt⟩, fun j hj => ?_⟩⟩;rw [Blk.cell h, show 1 + j = j + 1 from by omega];simp [aX]
theorem blk_I2x {w : World} {c1 c2 c3 : Nat} {t1 t2 t3 : TypeId} {l1 l2 : List Int} (h1 : Blk w c1 (aX l1) t1) (h2 : Blk w c2 (aX l2) t2) (h3 : Blk w c3 [aB9 c1 l1.length l1.length, aB9 c2 l2.length l2.length] t3) : RdII w 0 w.heap.size (aB9 c3 2 2) [l1, l2] := by
 refine ⟨[aB9 c1 l1.length l1.length, aB9 c2 l2.length l2.length], ⟨Blk.rdN (c := 2) (sz := 1) (q := 2) h3 rfl, fun e he => ?_⟩, Z, fun i hi hi2 => ?_⟩
 ·simp at he;rcases he with rfl | rfl <;> rfl
 ·match i, hi with
  | 0, _ => exact Blk.rdI h1
  | 1, _ => exact Blk.rdI h2
theorem tst_one {w : World} {b c : Nat} {x y : Int × Int} {t : TypeId} (h : Blk w b (spC [x, y]) t) : RdS w 0 w.heap.size (aB9 b 1 c) [x] := by
 refine RdS.of ⟨Z, .inr ⟨b, 0, c, Z, fun _ => ⟨Nat.zero_le _, h.lt, h.lt⟩, fun j hj => ?_⟩⟩;have hj' : j < 2 := hj;rw [Blk.cell h];have : j = 0 ∨ j = 1 := by omega
 rcases this with rfl | rfl <;> rfl
theorem quo_bd (n i : Nat) (c : Int) (h : 0 < c) : 0 ≤ (n : Int) / ((i : Int) + c) ∧ (n : Int) / ((i : Int) + c) ≤ n := ⟨Int.ediv_nonneg J J, Int.ediv_le_self _ J⟩
theorem rplan_u (w : World) (lo hi : Nat) (s : Sc) (tv rv : Value) (h : ScR w lo hi tv rv s) (hl1 : s.tests.length ≤ maxLen) (hl2 : s.rifles.length ≤ maxLen) : Ca Tryz.prog 56 [.agg (scC s tv rv).toArray] w fun x w' => ∃ y : Value × List Nd × Int, (x = .tuple #[y.1, .int .i64 y.2.2] ∧ y.2.1.length ≤ 1000000) ∧ Sat w M0 [.ow y.1 91 3 y.2.1.length (dK y.2.1)] w' := by
 by_cases h0 : eY s = 0
 ·have hs0 := dU.1 h0;have := oY hs0.ok.rn8 hs0.le;exact (rplan_ok w lo hi s tv rv h hs0).mono fun x w' ⟨u, h1, h2⟩ => ⟨(u, jX s, 0), ⟨h1, by dsimp only; omega⟩, h2⟩
 ·exact (rplan_no w lo hi s tv rv h hl1 hl2 h0).mono fun x w' ⟨h1, h2⟩ => ⟨(.slice none 0 0, [], eY s), ⟨h1, by simp⟩, Sat.ownil ((Sat.nil w M0).keep h2) _ _⟩
theorem mrk_u (w : World) (lo hi : Nat) (L : List Hd) (v : Value) (a b : Int) (h : RdH w lo hi v L) (hn : L.length ≤ 39) : Ca Tryz.prog 78 [v, .int .i64 a, .int .i64 b] w fun x w' => ∃ y : Value × List Int × Int, (x = .tuple #[y.1, .int .i64 y.2.2] ∧ y.2.1.length ≤ 1000000) ∧ Sat w M0 [.ow y.1 3 1 y.2.1.length (aX y.2.1)] w' := by
 by_cases h0 : dI L a b = 0
 ·have hs0 := eJ.1 h0
  exact (mrk_ok w lo hi L v a b h hn hs0).mono fun x w' ⟨y, ⟨h1, hs, h2⟩, h3⟩ => ⟨(y.1.1, y.1.2, y.2), ⟨h1, by
   dsimp only;rcases h2 with ⟨_, h4⟩ | ⟨_, _, h4, _⟩
   ·have g1 := h4.len;have g2 := h4.min (C := L) (fun _ h => h) ((h4.full (by have := hs0.rb; omega)).1 rfl);omega
   ·rw [h4]; simp⟩, h3⟩
 ·exact (mrk_no w lo hi L v a b h (by simp only [maxLen]; omega) h0).mono fun x w' ⟨h1, h2⟩ => ⟨(.slice none 0 0, [], dI L a b), ⟨h1, by simp⟩, Sat.ownil ((Sat.nil w M0).keep h2) _ _⟩
theorem nod_take : ∀ (l : List Nd) (m : Nat), dK (l.take m) = (dK l).take (m * 3)
 | [], m => by simp [dK]
 | x :: l, 0 => by simp [dK]
 | x :: l, m + 1 => by
  have h := nod_take l m;simp only [dK, List.take_succ_cons, List.flatMap_cons] at h ⊢;rw [h, show (m + 1) * 3 = m * 3 + 1 + 1 + 1 from by omega];simp
theorem ints_rdT {w : World} {b m c : Nat} {l : List Int} {t : TypeId} (h : Blk w b (aX l) t) (hm : m ≤ l.length) : RdI w 0 w.heap.size (aB9 b m c) (l.take m) := by
 have e : (l.take m).length = m := by simp; omega
 refine RdI.of ⟨by simp [aX], .inr ⟨b, 0, c, by rw [e], fun _ => ⟨Nat.zero_le _, h.lt, h.lt⟩, fun j hj => ?_⟩⟩;rw [Blk.cell h];simp only [aX, List.length_map, e] at hj;simp only [aX, List.map_take, Nat.zero_add];rw [List.getElem?_take];simp; omega
theorem pt_pre {w0 w : World} {M : Nat → Prop} {R : List Ck} {b : Nat} {cs xs : List Value} {t sz m N : Nat} (hl : cs.length = N * sz) (hm : m ≤ N) (hN : N ≤ 1000000) (hx : xs = cs.take (m * sz)) (h : Sat w0 M (.pt b cs t :: R) w) : Sat w0 M (.ow (aB9 b m N) t sz m xs :: R) w := by
 have hb : Blk w b cs t := h.blk List.mem_cons_self;have hle : m * sz ≤ N * sz := Nat.mul_le_mul_right _ hm;refine h.rep .z (Chg.refl [] w) (by simp) ⟨by rw [hx, List.length_take]; omega, .inr ⟨b, N, cs.toArray, Z, Nat.zero_le _, hb, hm, by simp only [maxLen]; omega, by simpa using hl, ?_⟩⟩ (fun x hx => ?_)
 ·rw [hx]
 ·have hx' : x = b := by simpa [Ck.D, Value.ownBlock, eq_comm] using hx
  subst hx';exact ⟨.inl rfl, hb.lt⟩
theorem blk_I1x {w : World} {c1 c3 : Nat} {t1 t3 : TypeId} {l1 : List Int} (h1 : Blk w c1 (aX l1) t1) (h3 : Blk w c3 [aB9 c1 l1.length l1.length] t3) : RdII w 0 w.heap.size (aB9 c3 1 1) [l1] := by
 refine ⟨[aB9 c1 l1.length l1.length], ⟨Blk.rdN (c := 1) (sz := 1) (q := 1) h3 rfl, fun e he => ?_⟩, Z, fun i hi hi2 => ?_⟩
 ·simp at he;rcases he with rfl | rfl <;> rfl
 ·match i, hi with
  | 0, _ => exact Blk.rdI h1
theorem nod_set (l : List Nd) (i : Nat) (p : Nd) (hi : i < l.length) : setL (dK l) (i * 3) [.int .i64 p.r, .int .i64 p.p, .int .i64 p.f] = dK (l.set i p) := by
 simp only [setL]
 induction l generalizing i with
 | nil => simp at hi
 | cons x l ih =>
  cases i with
  | zero => rfl
  | succ i =>
   have := ih i (by simpa using hi);simp only [dK, List.flatMap_cons, List.set_cons_succ] at this ⊢;rw [← this, show (i + 1) * 3 = i * 3 + 1 + 1 + 1 from by omega]
   rfl
theorem made_same3 (z : Value) (m : Nat) : (madeCells #[z, z, z] m).toList = List.replicate m z := by
 unfold madeCells;rw [Array.toList_map, Array.toList_range];refine List.ext_getElem (by simp) fun i h1 h2 => ?_
 simp only [List.getElem_map, List.getElem_replicate];have : i % 3 = 0 ∨ i % 3 = 1 ∨ i % 3 = 2 := by omega
 rcases this with h | h | h <;> simp [h]
theorem nodC_rep (n : Nat) : List.replicate (n * 3) (Value.int .i64 0) = dK (List.replicate n ⟨0, 0, 0⟩) := by
 induction n with
 | zero => rfl
 | succ n ih =>
  rw [show (n + 1) * 3 = n * 3 + 1 + 1 + 1 from by omega, List.replicate_succ, List.replicate_succ, List.replicate_succ, ih, List.replicate_succ]
  rfl
theorem made_nod : (madeCells (Value.agg #[.int .i64 0, .int .i64 0, .int .i64 0]).cells (301 * 3)).toList = dK (List.replicate 301 ⟨0, 0, 0⟩) := by
 rw [show (Value.agg #[.int .i64 0, .int .i64 0, .int .i64 0]).cells = #[.int .i64 0, .int .i64 0, .int .i64 0] from rfl, made_same3, nodC_rep]
theorem rdN_nil7 (w : World) : RdN w 0 w.heap.size (.slice none 0 0) [] := fC (t := 91) (n := 0) ⟨rfl, .inl ⟨rfl, rfl⟩⟩ rfl
theorem ad_to7 (b c : Nat) : (if c = 0 then some (⟨b, 0, none⟩ : Addr) else (some (⟨b, 0, none⟩ : Addr)).map (·.add 0)) = some ⟨b, 0, none⟩ := by split <;> rfl
def tLwP_52d6d29 : OT := .alt (bE [0, 3, 5, 6, 7, 8, 9, 10, 4, 11, 12, 13] (.nil)) (bE [5, 6, 7, 8, 9, 10, 0, 3, 4, 11, 12, 13] (.nil))
def tLwP_d3df73f : OT := .alt (bE [1, 2] (tLwP_52d6d29)) (bE [5, 6, 7, 8, 9, 10, 1, 2, 0, 3, 4, 11, 12, 13] (.nil))
def tLwP_6c612a8 : OT := bE [10, 11, 12] .nil
def mD : OT := bE [4, 9] (tLwP_6c612a8)
def mV : OT := bE [8] (mD)
def tLwP_ea0a500 : OT := bE [5, 6, 7] (mV)
def mL : OT := bE [0, 1, 3] (mD)
def mU : OT := .alt (bE [0, 1, 3] (mV)) (bE [8] (mL))
def tLwP_34c9869 : OT := .alt (bE [0, 1, 3] (tLwP_ea0a500)) (bE [5, 6, 7] (mU))
def tLwP_6fcf333 : OT := bE [2] (mL)
def tLwP_4066e6c : OT := .alt (bE [2] (mU)) (bE [8] (tLwP_6fcf333))
def tLwP_92e7c40 : OT := .alt (bE [2] (tLwP_34c9869)) (bE [5, 6, 7] (tLwP_4066e6c))
set_option maxRecDepth 20000 in
theorem rifleSmall_ca (w : World) : Ca Tryz.prog 18 [] w fun r w' => r = .bool true ∧ Chg [] w w' := by
 refine cN (Sat.nil w M0) Tryz.func18 Z (by simp [Tryz.ntmps18]) ?_;(refine aC (aB (aA1 zq (aD (aC (aC (aB ?_)))))));refine cT 3 (aX smallV7) Z qB Z (fun b47 => ?_);(refine aA1 zq (aA1 zq (aD (aM ?_))));refine bM (σ := Nat) (fun i => i ≤ 36) (fun i => 36 - i) (fun i => [(47, aB9 b47 36 36), (48, .int .i64 36), (49, .int .i64 i)]) (fun _ => [.pt b47 (aX smallV7) 3]) 0 J ⟨Z, Z, Z, trivial⟩ O ?_;rintro i hi K hK;(refine aC (aB (aA1 zq (aD (aC ?_)))));refine dN Z (fun hc => ?_) (fun hc => ?_)
 ·have hi3 : i < 36 := by first | omega | (simp at hc; omega)
  have hi2 : i < smallV7.length := hi3;clear hc;(refine aK (aC (aM (aC (aB ?_)))));refine aA7 Wa J J ?_;refine kP U (i) Z Z Z O (by first | rfl | omega | simp) hi2 ?_;have hxm : smallV7[i] ≤ 9223372036854775807 := (by decide : ∀ y ∈ smallV7, y ≤ 9223372036854775807) _ (List.getElem_mem hi2);generalize smallV7[i] = x at *;(refine aA1 zq (aD (aC (aC (aB (aA1 zq (aD (aM ?_))))))));refine bM (σ := Nat) (fun k => k ≤ 12) (fun k => 12 - k) (fun k => [(47, aB9 b47 36 36), (48, .int .i64 36), (49, .int .i64 i), (2, .int .i64 x), (53, .int .i64 k)]) (fun _ => [.pt b47 (aX smallV7) 3]) 0 J ⟨Z, Z, Z, Z, Z, trivial⟩ O ?_;rintro k hk K2 hK2;(refine aC (aB (aA1 zq (aD (aC ?_)))));refine dN Z (fun hc => ?_) (fun hc => ?_)
  ·have hk2 : k < 12 := by first | omega | (simp at hc; omega)
   clear hc;(refine aK (aC (aM (aC (aB (aA1 zq (aA1 zq (aD (aC (aB ?_))))))))));refine bC (β := Nat × Nat) (ψ := fun y x => x = .agg (scC fB (aB9 y.1 2 2) (aB9 y.2 4 4)).toArray) (L' := fun y => [.pt y.1 (spC fB.tests) 78, .pt y.2 (aX fB.rifles) 3]) U [] _ M0 Z Z Z Z (Sp.refl _) qC (fun w' hs => kI w') ?_;rintro ⟨c1, c2⟩ _ rfl;dsimp only [List.cons_append, List.nil_append];refine bF dY Z (fun b4 => ?_);(refine aB6 Wa O Z ?_; refine aD (aC (aB (aA1 zq ?_))); refine aJ U Z Z Z ?_);refine ql_sliceFrom (l := 1) (et := 3) (sz := 1) qB qB Z Z Z (by decide) (by decide) ?_;(refine aA1 zq ?_; refine ql_st3 U Z Z Z Z O ?_; refine aD (aC (aB ?_)));refine fQ #[.int .i64 2, .int .i64 (-1), .int .i64 1] Z qB Z ?_;refine fQ #[.int .i64 1, .int .i64 (-1), .int .i64 (-1)] Z qB Z ?_;refine cT 91 (dK [⟨2, -1, 1⟩, ⟨1, -1, -1⟩]) Z qB Z (fun bp => ?_);(refine aA1 zq (aD (aC ?_)));refine bZ _ [] (Sp.refl _) qB qB ?_
   ((iterate 3 refine aA2 xq ?_); refine bB U Z Z Z ?_)
   repeat (refine aA3 Wa (by decide) (by decide) ?_; (first | (refine aA2 xq (aA2 xq ?_); refine bB U Z Z Z ?_) | (refine aA2 xq ?_; refine bB U Z Z Z ?_) | (refine aA2 xq (aA2 xq ?_)) | (refine aA2 xq ?_)))
   refine eX 157 [aC0 b4, .pointer (some ⟨b4, 1, none⟩), aC0 c1, .pointer (some ⟨c1, 3, none⟩), .pointer (some ⟨c2, 1, none⟩), .pointer (some ⟨c2, 3, none⟩), aC0 bp, .pointer (some ⟨bp, 1, none⟩), .pointer (some ⟨bp, 2, none⟩), .pointer (some ⟨bp, 3, none⟩), .pointer (some ⟨bp, 4, none⟩), .pointer (some ⟨bp, 5, none⟩)] Z qB Z (fun b6 => ?_);(refine aA2 xq (aN (aC ?_)));refine fT (σ := (Int × Int) × (Int × Int × Int × Int) × (Int × Int × Int × Int) × (Int × Int × Int × Int × Int × Int)) (fun _ => [(47, aB9 b47 36 36), (48, .int .i64 36), (49, .int .i64 i), (2, .int .i64 x), (53, .int .i64 k), (4, aC0 b4), (5, aB9 bp 2 2)]) (fun q => [.pt b4 [.int .i64 q.1.1, .int .i64 q.1.2, aB9 c1 2 2, .slice (some ⟨c2, 1, none⟩) 3 3] 46, .pt c1 (spC [(q.2.1.1, q.2.1.2.1), (q.2.1.2.2.1, q.2.1.2.2.2)]) 78, .pt c2 (aX [q.2.2.1.1, q.2.2.1.2.1, q.2.2.1.2.2.1, q.2.2.1.2.2.2]) 3, .pt bp (dK [⟨q.2.2.2.1, q.2.2.2.2.1, q.2.2.2.2.2.1⟩, ⟨q.2.2.2.2.2.2.1, q.2.2.2.2.2.2.2.1, q.2.2.2.2.2.2.2.2⟩]) 91, .pt b47 (aX smallV7) 3]) ?_ ?_;rotate_left
   ·intro K3 hK3;obtain rfl | rfl | rfl | rfl | rfl | rfl | rfl | rfl | rfl | rfl | rfl | rfl : k = 0 ∨ k = 1 ∨ k = 2 ∨ k = 3 ∨ k = 4 ∨ k = 5 ∨ k = 6 ∨ k = 7 ∨ k = 8 ∨ k = 9 ∨ k = 10 ∨ k = 11 := by omega
    all_goals ((refine aB (aA1 zq (aA1 zq ?_))))
    all_goals (refine aA7 Wa (by decide) (by decide) ?_)
    all_goals ((first | (refine aJ U Z Z Z ?_; refine aA1 zq (aA1 zq ?_); refine ql_st0 U Z Z Z Z O ?_; refine aD ?_) | (refine aJ U Z Z Z ?_; refine aA1 zq (aA1 zq ?_); refine ql_st1 U Z Z Z Z O ?_; refine aD ?_) | (refine aJ U Z Z Z ?_; refine aA1 zq (aA1 zq ?_); refine ql_st3 U Z Z Z Z O ?_; refine aD ?_) | (refine aJ U Z Z Z ?_; refine aA1 zq (aA1 zq ?_); refine ql_st2 U Z Z Z Z O ?_; refine aD ?_) | (refine aJ U Z Z Z ?_; refine aA1 zq (aA1 zq ?_); refine ql_st4 U Z Z Z Z O ?_; refine aD ?_) | (refine aJ U Z Z Z ?_; refine aA1 zq (aA1 zq ?_); refine ql_st5 U Z Z Z Z O ?_; refine aD ?_)))
    ·exact hK3 ((x, 3500), (1000, 1005, 2000, 2009), (3510, 3509, 3504, 3506), (2, (-1), 1, 1, (-1), (-1))) _ _ ⟨Z, Z, Z, Z, Z, Z, Z, trivial⟩ O
    ·exact hK3 ((2, x), (1000, 1005, 2000, 2009), (3510, 3509, 3504, 3506), (2, (-1), 1, 1, (-1), (-1))) _ _ ⟨Z, Z, Z, Z, Z, Z, Z, trivial⟩ O
    ·exact hK3 ((2, 3500), (x, 1005, 2000, 2009), (3510, 3509, 3504, 3506), (2, (-1), 1, 1, (-1), (-1))) _ _ ⟨Z, Z, Z, Z, Z, Z, Z, trivial⟩ O
    ·exact hK3 ((2, 3500), (1000, 1005, 2000, x), (3510, 3509, 3504, 3506), (2, (-1), 1, 1, (-1), (-1))) _ _ ⟨Z, Z, Z, Z, Z, Z, Z, trivial⟩ O
    ·exact hK3 ((2, 3500), (1000, 1005, 2000, 2009), (3510, x, 3504, 3506), (2, (-1), 1, 1, (-1), (-1))) _ _ ⟨Z, Z, Z, Z, Z, Z, Z, trivial⟩ O
    ·exact hK3 ((2, 3500), (1000, 1005, 2000, 2009), (3510, 3509, 3504, x), (2, (-1), 1, 1, (-1), (-1))) _ _ ⟨Z, Z, Z, Z, Z, Z, Z, trivial⟩ O
    ·exact hK3 ((2, 3500), (1000, 1005, 2000, 2009), (3510, 3509, 3504, 3506), (x, (-1), 1, 1, (-1), (-1))) _ _ ⟨Z, Z, Z, Z, Z, Z, Z, trivial⟩ O
    ·exact hK3 ((2, 3500), (1000, 1005, 2000, 2009), (3510, 3509, 3504, 3506), (2, x, 1, 1, (-1), (-1))) _ _ ⟨Z, Z, Z, Z, Z, Z, Z, trivial⟩ O
    ·exact hK3 ((2, 3500), (1000, 1005, 2000, 2009), (3510, 3509, 3504, 3506), (2, (-1), x, 1, (-1), (-1))) _ _ ⟨Z, Z, Z, Z, Z, Z, Z, trivial⟩ O
    ·exact hK3 ((2, 3500), (1000, 1005, 2000, 2009), (3510, 3509, 3504, 3506), (2, (-1), 1, x, (-1), (-1))) _ _ ⟨Z, Z, Z, Z, Z, Z, Z, trivial⟩ O
    ·exact hK3 ((2, 3500), (1000, 1005, 2000, 2009), (3510, 3509, 3504, 3506), (2, (-1), 1, 1, x, (-1))) _ _ ⟨Z, Z, Z, Z, Z, Z, Z, trivial⟩ O
    ·exact hK3 ((2, 3500), (1000, 1005, 2000, 2009), (3510, 3509, 3504, 3506), (2, (-1), 1, 1, (-1), x)) _ _ ⟨Z, Z, Z, Z, Z, Z, Z, trivial⟩ O
   ·rintro ⟨⟨e, l⟩, ⟨m0, r0, m1, r1⟩, ⟨z0, a, b, c⟩, p0, p1, p2, p3, p4, p5⟩;dsimp only;(refine aC (aC (aB ?_)); refine aP U Z Z Z ?_);refine aI (val := .bool true) U Z Z Z Z (fun w hs => ?_) ?_; exact fH w ⟨e, l, [(m0, r0), (m1, r1)], [a, b, c]⟩ (aB9 c1 2 2) (.slice (some ⟨c2, 1, none⟩) 3 3) ⟨Blk.rdS' (l := [(m0, r0), (m1, r1)]) (hs.blk (b := c1) O) rfl, oQ (x := z0) (l := [a, b, c]) (hs.blk (b := c2) O) Z⟩;(refine aA1 zq (aA1 zq (aE Z ?_)); refine aP U Z Z Z ?_; refine aE Z (aA1 zq (aE Z ?_)));refine aI (val := .bool true) U Z Z Z Z (fun w hs => ?_) ?_; exact gS w ⟨e, l, [(m0, r0), (m1, r1)], [a, b, c]⟩ (aB9 c1 2 2) (.slice (some ⟨c2, 1, none⟩) 3 3) (aB9 bp 2 2) [⟨p0, p1, p2⟩, ⟨p3, p4, p5⟩] ⟨Blk.rdS' (l := [(m0, r0), (m1, r1)]) (hs.blk (b := c1) O) rfl, oQ (x := z0) (l := [a, b, c]) (hs.blk (b := c2) O) Z⟩ (Blk.rdNd (l := [⟨p0, p1, p2⟩, ⟨p3, p4, p5⟩]) (hs.blk (b := bp) O) Z) (show 2 ≤ maxLen by decide);(refine aE Z (aA1 zq (aA1 zq (aD (aG Z (aK (aC (aB (aA1 zq ?_)))))))); refine aJ U Z Z Z ?_);refine jW (l := 1) (et := 78) (sz := 2) qB qB Z Z Z (by decide) (by decide) ?_;rw [ad_to7];(refine aA1 zq ?_; refine ql_st2 U Z Z Z Z O ?_; refine aD (aC (aB ?_)); refine aP U Z Z Z ?_);refine aI (val := .bool true) U Z Z Z Z (fun w hs => ?_) ?_; exact fH w ⟨e, l, [(m0, r0)], [a, b, c]⟩ (aB9 c1 1 2) (.slice (some ⟨c2, 1, none⟩) 3 3) ⟨tst_one (x := (m0, r0)) (y := (m1, r1)) (hs.blk (b := c1) O), oQ (x := z0) (l := [a, b, c]) (hs.blk (b := c2) O) Z⟩;(refine aA1 zq (aA1 zq (aE Z ?_)); refine aP U Z Z Z ?_; refine aE Z (aA1 zq (aE Z ?_)));refine aI (val := .bool true) U Z Z Z Z (fun w hs => ?_) ?_; exact gS w ⟨e, l, [(m0, r0)], [a, b, c]⟩ (aB9 c1 1 2) (.slice (some ⟨c2, 1, none⟩) 3 3) (aB9 bp 2 2) [⟨p0, p1, p2⟩, ⟨p3, p4, p5⟩] ⟨tst_one (x := (m0, r0)) (y := (m1, r1)) (hs.blk (b := c1) O), oQ (x := z0) (l := [a, b, c]) (hs.blk (b := c2) O) Z⟩ (Blk.rdNd (l := [⟨p0, p1, p2⟩, ⟨p3, p4, p5⟩]) (hs.blk (b := bp) O) Z) (show 2 ≤ maxLen by decide);(refine aE Z (aA1 zq (aA1 zq (aD (aG Z (aK (bK (aB (aA4 uq J J (aA1 zq (aD ?_)))))))))));exact hK2 (k + 1) _ _ J J ⟨Z, Z, Z, Z, Z, trivial⟩ O
  ·(refine bH _ Z (aC (aC (aB (aA1 zq (aD (aM ?_)))))))
   refine bM (σ := Nat) (fun k => k ≤ 10) (fun k => 10 - k) (fun k => [(47, aB9 b47 36 36), (48, .int .i64 36), (49, .int .i64 i), (2, .int .i64 x), (128, .int .i64 k)]) (fun _ => [.pt b47 (aX smallV7) 3]) 0 J ⟨Z, Z, Z, Z, Z, trivial⟩ O ?_;rintro k hk K2 hK2;(refine aC (aB (aA1 zq (aD (aC ?_)))));refine dN Z (fun hc => ?_) (fun hc => ?_)
   ·have hk2 : k < 10 := by first | omega | (simp at hc; omega)
    clear hc;(refine aK (aC (aM (aC (aB (aA1 zq (aA1 zq (aD (aC (aB ?_))))))))));refine bC (β := Nat) (ψ := fun b x => x = aB9 b 5 5) (L' := fun b => [.pt b (hdC fiveH) 28]) U [] _ M0 Z Z Z Z (Sp.refl _) qC (fun w' hs => rfive_ca w') ?_;rintro bh _ rfl;dsimp only [List.cons_append, List.nil_append];refine cT 3 (aX [0, 1, 4]) Z qB Z (fun bc => ?_);refine cT 3 (aX [0, 10, 30]) Z qB Z (fun bm => ?_);refine bF zero3 Z (fun b9 => ?_);refine bF zero3 Z (fun b10 => ?_);(refine aA1 zq ?_; (iterate 2 refine eM U Z Z Z Z O ?_); refine aA1 zq (aA1 zq (aD (aC ?_))));refine bZ _ [] (Sp.refl _) qB qB ?_;(refine aA2 xq ?_)
    repeat (refine aA3 Wa (by decide) (by decide) ?_; (first | (refine aA2 xq (aA2 xq ?_)) | (refine aA2 xq ?_) | skip))
    refine eX 157 [aC0 bh, .pointer (some ⟨bh, 4, none⟩), .pointer (some ⟨bh, 5, none⟩), .pointer (some ⟨bh, 13, none⟩), aC0 b9, aC0 b10, .pointer (some ⟨bc, 1, none⟩), aC0 bm, .pointer (some ⟨bm, 1, none⟩), .pointer (some ⟨bm, 2, none⟩)] Z qB Z (fun b13 => ?_);(refine aA2 xq (aN (aC ?_)));refine fT (σ := (Hd × Hd × Hd × Hd × Hd) × (Int × Int) × (Int × Int × Int) × (Int × Int × Int)) (fun _ => [(47, aB9 b47 36 36), (48, .int .i64 36), (49, .int .i64 i), (2, .int .i64 x), (128, .int .i64 k), (8, aB9 bh 5 5), (9, aC0 b9), (10, aC0 b10), (11, aB9 bc 3 3), (12, aB9 bm 3 3)]) (fun q => [.pt bh (hdC [q.1.1, q.1.2.1, q.1.2.2.1, q.1.2.2.2.1, q.1.2.2.2.2]) 28, .pt b9 [.int .i64 q.2.1.1] 3, .pt b10 [.int .i64 q.2.1.2] 3, .pt bc (aX [q.2.2.1.1, q.2.2.1.2.1, q.2.2.1.2.2]) 3, .pt bm (aX [q.2.2.2.1, q.2.2.2.2.1, q.2.2.2.2.2]) 3, .pt b47 (aX smallV7) 3]) ?_ ?_;rotate_left
    ·intro K3 hK3;obtain rfl | rfl | rfl | rfl | rfl | rfl | rfl | rfl | rfl | rfl : k = 0 ∨ k = 1 ∨ k = 2 ∨ k = 3 ∨ k = 4 ∨ k = 5 ∨ k = 6 ∨ k = 7 ∨ k = 8 ∨ k = 9 := by omega
     all_goals ((refine aB (aA1 zq (aA1 zq ?_))))
     all_goals (refine aA7 Wa (by decide) (by decide) ?_)
     all_goals ((first | (refine aJ U Z Z Z ?_; refine aA1 zq (aA1 zq ?_); refine ql_st0 U Z Z Z Z O ?_; refine aD ?_) | (refine aJ U Z Z Z ?_; refine aA1 zq (aA1 zq ?_); refine ql_st4 U Z Z Z Z O ?_; refine aD ?_) | (refine aJ U Z Z Z ?_; refine aA1 zq (aA1 zq ?_); refine ql_st5 U Z Z Z Z O ?_; refine aD ?_) | (refine aJ U Z Z Z ?_; refine aA1 zq (aA1 zq ?_); refine eM U Z Z Z Z O ?_; refine aD ?_) | (refine aJ U Z Z Z ?_; refine aA1 zq (aA1 zq ?_); refine ql_st1 U Z Z Z Z O ?_; refine aD ?_) | (refine aJ U Z Z Z ?_; refine aA1 zq (aA1 zq ?_); refine ql_st2 U Z Z Z Z O ?_; refine aD ?_) | (refine aJ U Z Z Z ?_; refine aA1 zq (aA1 zq ?_))))
     ·exact hK3 (((⟨x, 0, 10⟩ : Hd), (⟨0, 5, 30⟩ : Hd), (⟨0, 8, 20⟩ : Hd), (⟨0, 20, 40⟩ : Hd), (⟨0, 29, 60⟩ : Hd)), (0, 60), (0, 1, 4), (0, 10, 30)) _ _ ⟨Z, Z, Z, Z, Z, Z, Z, Z, Z, Z, trivial⟩ O
     ·exact hK3 (((⟨0, 0, 10⟩ : Hd), (⟨0, x, 30⟩ : Hd), (⟨0, 8, 20⟩ : Hd), (⟨0, 20, 40⟩ : Hd), (⟨0, 29, 60⟩ : Hd)), (0, 60), (0, 1, 4), (0, 10, 30)) _ _ ⟨Z, Z, Z, Z, Z, Z, Z, Z, Z, Z, trivial⟩ O
     ·exact hK3 (((⟨0, 0, 10⟩ : Hd), (⟨0, 5, x⟩ : Hd), (⟨0, 8, 20⟩ : Hd), (⟨0, 20, 40⟩ : Hd), (⟨0, 29, 60⟩ : Hd)), (0, 60), (0, 1, 4), (0, 10, 30)) _ _ ⟨Z, Z, Z, Z, Z, Z, Z, Z, Z, Z, trivial⟩ O
     ·refine fG U Z Z Z Z O (by decide) ?_;(refine aD ?_);exact hK3 (((⟨0, 0, 10⟩ : Hd), (⟨0, 5, 30⟩ : Hd), (⟨0, 8, 20⟩ : Hd), (⟨0, 20, 40⟩ : Hd), (⟨0, x, 60⟩ : Hd)), (0, 60), (0, 1, 4), (0, 10, 30)) _ _ ⟨Z, Z, Z, Z, Z, Z, Z, Z, Z, Z, trivial⟩ O
     ·exact hK3 (((⟨0, 0, 10⟩ : Hd), (⟨0, 5, 30⟩ : Hd), (⟨0, 8, 20⟩ : Hd), (⟨0, 20, 40⟩ : Hd), (⟨0, 29, 60⟩ : Hd)), (x, 60), (0, 1, 4), (0, 10, 30)) _ _ ⟨Z, Z, Z, Z, Z, Z, Z, Z, Z, Z, trivial⟩ O
     ·exact hK3 (((⟨0, 0, 10⟩ : Hd), (⟨0, 5, 30⟩ : Hd), (⟨0, 8, 20⟩ : Hd), (⟨0, 20, 40⟩ : Hd), (⟨0, 29, 60⟩ : Hd)), (0, x), (0, 1, 4), (0, 10, 30)) _ _ ⟨Z, Z, Z, Z, Z, Z, Z, Z, Z, Z, trivial⟩ O
     ·exact hK3 (((⟨0, 0, 10⟩ : Hd), (⟨0, 5, 30⟩ : Hd), (⟨0, 8, 20⟩ : Hd), (⟨0, 20, 40⟩ : Hd), (⟨0, 29, 60⟩ : Hd)), (0, 60), (0, x, 4), (0, 10, 30)) _ _ ⟨Z, Z, Z, Z, Z, Z, Z, Z, Z, Z, trivial⟩ O
     ·exact hK3 (((⟨0, 0, 10⟩ : Hd), (⟨0, 5, 30⟩ : Hd), (⟨0, 8, 20⟩ : Hd), (⟨0, 20, 40⟩ : Hd), (⟨0, 29, 60⟩ : Hd)), (0, 60), (0, 1, 4), (x, 10, 30)) _ _ ⟨Z, Z, Z, Z, Z, Z, Z, Z, Z, Z, trivial⟩ O
     ·exact hK3 (((⟨0, 0, 10⟩ : Hd), (⟨0, 5, 30⟩ : Hd), (⟨0, 8, 20⟩ : Hd), (⟨0, 20, 40⟩ : Hd), (⟨0, 29, 60⟩ : Hd)), (0, 60), (0, 1, 4), (0, x, 30)) _ _ ⟨Z, Z, Z, Z, Z, Z, Z, Z, Z, Z, trivial⟩ O
     ·exact hK3 (((⟨0, 0, 10⟩ : Hd), (⟨0, 5, 30⟩ : Hd), (⟨0, 8, 20⟩ : Hd), (⟨0, 20, 40⟩ : Hd), (⟨0, 29, 60⟩ : Hd)), (0, 60), (0, 1, 4), (0, 10, x)) _ _ ⟨Z, Z, Z, Z, Z, Z, Z, Z, Z, Z, trivial⟩ O
    ·rintro ⟨⟨h0, h1, h2, h3, h4⟩, ⟨f, t⟩, ⟨a0, a1, a2⟩, m0, m1, m2⟩;dsimp only;(refine aC (aB (aA1 zq ?_)); (iterate 2 refine aJ U Z Z Z ?_); refine aA1 zq (aA1 zq ?_));refine aI (val := .bool true) U Z Z Z Z (fun w hs => ?_) ?_; exact fZ w [h0, h1, h2, h3, h4] (aB9 bh 5 5) f t [a0, a1, a2] [m0, m1, m2] (aB9 bc 3 3) (aB9 bm 3 3) (Blk.rdH' (l := [h0, h1, h2, h3, h4]) (hs.blk (b := bh) O) Z) (iW (l := [a0, a1, a2]) (hs.blk (b := bc) O) Z) (iW (l := [m0, m1, m2]) (hs.blk (b := bm) O) Z) (show 5 ≤ maxLen by decide) (show 3 ≤ maxLen by decide) (show 3 ≤ maxLen by decide);(refine aA1 zq (aD (aG Z (aK (bK (aB (aA4 uq J J (aA1 zq (aD ?_)))))))));exact hK2 (k + 1) _ _ J J ⟨Z, Z, Z, Z, Z, trivial⟩ O
   ·(refine bH _ Z (aC (aB (aA1 zq (aD (aM ?_))))))
    refine bM (σ := Nat) (fun k => k ≤ 9) (fun k => 9 - k) (fun k => [(47, aB9 b47 36 36), (48, .int .i64 36), (49, .int .i64 i), (2, .int .i64 x), (169, .int .i64 k)]) (fun _ => [.pt b47 (aX smallV7) 3]) 0 J ⟨Z, Z, Z, Z, Z, trivial⟩ O ?_;rintro k hk K2 hK2;(refine aC (aB (aA1 zq (aD (aC ?_)))));refine dN Z (fun hc => ?_) (fun hc => ?_)
    ·have hk2 : k < 9 := by first | omega | (simp at hc; omega)
     clear hc;(refine aK (aC (aM (aC (aB (aA1 zq (aA1 zq (aD (aC (aB ?_))))))))));refine bC (β := Nat × Nat × Nat) (ψ := fun y x => x = aB9 y.2.2 2 2) (L' := fun y => [.pt y.2.2 [aB9 y.1 4 4, aB9 y.2.1 3 3] 29, .pt y.2.1 (aX [400, 350, 320]) 3, .pt y.1 (aX [500, 300, 200, 150]) 3]) U [] _ M0 Z Z Z Z (Sp.refl _) qC (fun w' hs => rtwo_ca w') ?_;rintro ⟨d1, d2, d3⟩ _ rfl;dsimp only [List.cons_append, List.nil_append];refine cT 3 (aX [2, 1]) Z qB Z (fun bw => ?_);refine bF zero3 Z (fun b17 => ?_);refine bF zero3 Z (fun b18 => ?_);refine bF zero3 Z (fun b19 => ?_);(refine aA1 zq (aA1 zq ?_); (iterate 3 refine eM U Z Z Z Z O ?_); refine aD (aC ?_));refine bZ _ [] (Sp.refl _) qB qB ?_;(refine aA2 xq ?_)
     repeat (refine aA3 Wa (by decide) (by decide) ?_; (first | (refine bB U Z Z Z ?_) | (refine aA2 xq ?_) | skip))
     refine eX 157 [.pointer (some ⟨d1, 1, none⟩), .pointer (some ⟨d1, 3, none⟩), aC0 d2, .pointer (some ⟨d2, 2, none⟩), aC0 bw, .pointer (some ⟨bw, 1, none⟩), aC0 b17, aC0 b18, aC0 b19] Z qB Z (fun b20 => ?_);(refine aA2 xq (aN (aC ?_)));refine fT (σ := { q : (Int × Int × Int × Int) × (Int × Int × Int) × (Int × Int) × (Int × Int × Int) // q.2.2.2.1 ≤ 9223372036854775807 ∧ q.2.2.2.2.2 ≤ 9223372036854775807 }) (fun _ => [(47, aB9 b47 36 36), (48, .int .i64 36), (49, .int .i64 i), (2, .int .i64 x), (169, .int .i64 k), (15, aB9 d3 2 2), (16, aB9 bw 2 2), (17, aC0 b17), (18, aC0 b18), (19, aC0 b19)]) (fun q => [.pt d1 (aX [q.1.1.1, q.1.1.2.1, q.1.1.2.2.1, q.1.1.2.2.2]) 3, .pt d2 (aX [q.1.2.1.1, q.1.2.1.2.1, q.1.2.1.2.2]) 3, .pt d3 [aB9 d1 4 4, aB9 d2 3 3] 29, .pt bw (aX [q.1.2.2.1.1, q.1.2.2.1.2]) 3, .pt b17 [.int .i64 q.1.2.2.2.1] 3, .pt b18 [.int .i64 q.1.2.2.2.2.1] 3, .pt b19 [.int .i64 q.1.2.2.2.2.2] 3, .pt b47 (aX smallV7) 3]) ?_ ?_;rotate_left
     ·intro K3 hK3;obtain rfl | rfl | rfl | rfl | rfl | rfl | rfl | rfl | rfl : k = 0 ∨ k = 1 ∨ k = 2 ∨ k = 3 ∨ k = 4 ∨ k = 5 ∨ k = 6 ∨ k = 7 ∨ k = 8 := by omega
      all_goals ((refine aB (aA1 zq (aA1 zq ?_))))
      all_goals (refine aA7 Wa (by decide) (by decide) ?_)
      all_goals ((first | (refine aJ U Z Z Z ?_; refine aA1 zq (aA1 zq ?_); refine ql_st1 U Z Z Z Z O ?_; refine aD ?_) | (refine aJ U Z Z Z ?_; refine aA1 zq (aA1 zq ?_); refine ql_st3 U Z Z Z Z O ?_; refine aD ?_) | (refine aJ U Z Z Z ?_; refine aA1 zq (aA1 zq ?_); refine ql_st0 U Z Z Z Z O ?_; refine aD ?_) | (refine aJ U Z Z Z ?_; refine aA1 zq (aA1 zq ?_); refine ql_st2 U Z Z Z Z O ?_; refine aD ?_) | (refine aJ U Z Z Z ?_; refine aA1 zq (aA1 zq ?_); refine eM U Z Z Z Z O ?_; refine aD ?_)))
      ·exact hK3 ⟨((500, x, 200, 150), (400, 350, 320), (2, 1), (3, 550, 50)), by simp only; omega⟩ _ _ ⟨Z, Z, Z, Z, Z, Z, Z, Z, Z, Z, trivial⟩ O
      ·exact hK3 ⟨((500, 300, 200, x), (400, 350, 320), (2, 1), (3, 550, 50)), by simp only; omega⟩ _ _ ⟨Z, Z, Z, Z, Z, Z, Z, Z, Z, Z, trivial⟩ O
      ·exact hK3 ⟨((500, 300, 200, 150), (x, 350, 320), (2, 1), (3, 550, 50)), by simp only; omega⟩ _ _ ⟨Z, Z, Z, Z, Z, Z, Z, Z, Z, Z, trivial⟩ O
      ·exact hK3 ⟨((500, 300, 200, 150), (400, 350, x), (2, 1), (3, 550, 50)), by simp only; omega⟩ _ _ ⟨Z, Z, Z, Z, Z, Z, Z, Z, Z, Z, trivial⟩ O
      ·exact hK3 ⟨((500, 300, 200, 150), (400, 350, 320), (x, 1), (3, 550, 50)), by simp only; omega⟩ _ _ ⟨Z, Z, Z, Z, Z, Z, Z, Z, Z, Z, trivial⟩ O
      ·exact hK3 ⟨((500, 300, 200, 150), (400, 350, 320), (2, x), (3, 550, 50)), by simp only; omega⟩ _ _ ⟨Z, Z, Z, Z, Z, Z, Z, Z, Z, Z, trivial⟩ O
      ·exact hK3 ⟨((500, 300, 200, 150), (400, 350, 320), (2, 1), (x, 550, 50)), by simp only; omega⟩ _ _ ⟨Z, Z, Z, Z, Z, Z, Z, Z, Z, Z, trivial⟩ O
      ·exact hK3 ⟨((500, 300, 200, 150), (400, 350, 320), (2, 1), (3, x, 50)), by simp only; omega⟩ _ _ ⟨Z, Z, Z, Z, Z, Z, Z, Z, Z, Z, trivial⟩ O
      ·exact hK3 ⟨((500, 300, 200, 150), (400, 350, 320), (2, 1), (3, 550, x)), by simp only; omega⟩ _ _ ⟨Z, Z, Z, Z, Z, Z, Z, Z, Z, Z, trivial⟩ O
     ·rintro ⟨⟨⟨a0, a1, a2, a3⟩, ⟨e0, e1, e2⟩, ⟨u0, u1⟩, tot, mis, pri⟩, ht, hp⟩;dsimp only at ht hp ⊢;(refine aC (aB (aA1 zq (aA1 zq ?_))); (iterate 3 refine aJ U Z Z Z ?_));refine aI (val := .bool true) U rfl rfl rfl rfl (fun w hs => ?_) ?_; exact iV w [[a0, a1, a2, a3], [e0, e1, e2]] [u0, u1] (aB9 d3 2 2) (aB9 bw 2 2) tot mis pri (blk_I2x (l1 := [a0, a1, a2, a3]) (l2 := [e0, e1, e2]) (hs.blk (b := d1) O) (hs.blk (b := d2) O) (hs.blk (b := d3) O)) (iW (l := [u0, u1]) (hs.blk (b := bw) O) rfl) (show 2 ≤ maxLen by decide) (fun r hr => by simp at hr; rcases hr with rfl | rfl <;> simp [maxLen]) (show 2 ≤ maxLen by decide) ht hp;(refine aA1 zq (aD (aG Z (aK (bK (aB (aA4 uq J J (aA1 zq (aD ?_)))))))));exact hK2 (k + 1) _ _ J J ⟨Z, Z, Z, Z, Z, trivial⟩ O
    ·(refine bH _ Z (bK (aB (aA4 uq J J (aA1 zq (aD ?_))))))
     exact hK (i + 1) _ _ J J ⟨Z, Z, Z, trivial⟩ O
 ·(refine bH _ Z (aC (aC (aB (aA1 zq (aD (aM ?_)))))))
  refine bM (σ := Nat) (fun n => n ≤ 600) (fun n => 600 - n) (fun n => [(210, .int .i64 n)]) (fun _ => []) 0 J ⟨Z, trivial⟩ O ?_;rintro n hn K hK;(refine aC (aB (aA1 zq (aD (aC ?_)))));refine dN Z (fun hc => ?_) (fun hc => ?_)
  ·have hn2 : n < 600 := by first | omega | (simp at hc; omega)
   clear hc hi;(refine aK (aC (aM (aC (aB (aA1 zq (aA1 zq (aD (aC (aB (aA1 zq (cO Z Z Z J J ?_))))))))))));refine fQ #[.int .i64 ((n : Int) % 3), .int .i64 100, .slice none 0 0, .slice none 0 0] Z qB Z ?_;refine bF dY Z (fun b22 => ?_);(refine aB6 Wa O Z ?_; refine aD (aC (aC (aB (aA1 zq (fL Z Z Z J J J (cO Z Z Z J J (aA1 zq (aD (aM ?_))))))))));refine dG (H' := [.ow (.slice none 0 0) 78 2 0 (spC []), .pt b22 [.int .i64 ((n : Int) % 3), .int .i64 100, .slice none 0 0, .slice none 0 0] 46]) (fun w' hs => (Sat.ownil hs 78 2).sp O) ?_;refine bM (σ := (Option Addr × Nat) × List (Int × Int)) (fun s => s.2.length ≤ 2) (fun s => 2 - s.2.length) (fun s => [(21, .int .i64 n), (22, aC0 b22), (210, .int .i64 n), (218, .int .i64 ((n : Int) / 3 % 3)), (219, .int .i64 s.2.length)]) (fun s => [.ow (.slice s.1.1 s.2.length s.1.2) 78 2 s.2.length (spC s.2), .pt b22 [.int .i64 ((n : Int) % 3), .int .i64 100, .slice s.1.1 s.2.length s.1.2, .slice none 0 0] 46]) ((none, 0), []) (by simp) ⟨Z, Z, Z, Z, Z, trivial⟩ O ?_;rintro ⟨⟨ta, tc⟩, L⟩ hL K2 hK2;dsimp only at hL ⊢;(refine aC (aB (aA1 zq (aD (aC ?_)))));refine dN Z (fun hc => ?_) (fun hc => ?_)
   ·obtain ⟨k, hk⟩ : ∃ k, k = L.length := ⟨_, rfl⟩;rw [← hk] at hL hc ⊢;have hk2 : k < 2 := by omega
    clear hc;have q1 := quo_bd n k 2 J;have q2 := quo_bd n k 3 J;(refine aK (aC (aM (aC (aB (aA1 zq (aA1 zq (aD ?_))))))));refine q_drawB2 [true, true, true, true, true, true, true, true, true, true, true, true, true, true, true, true, false, false, false] [.pt b22 [.int .i64 ((n : Int) % 3), .int .i64 100, .slice ta k tc, .slice none 0 0] 46, .ow (.slice ta k tc) 78 2 k (spC L)] [] [] [.pt b22 [.int .i64 ((n : Int) % 3), .int .i64 100, .slice ta k tc, .slice none 0 0] 46, .ow (.slice ta k tc) 78 2 k (spC L)] O O qB qB qB ?_;refine qb_T2 16 [] Z Z O fun K3 hK3 => ?_
    (refine aA2 xq ?_; refine bB U Z Z Z ?_; refine aA2 xq (aA2 xq (aA9 uq J J (nY Z Z Z J J J (oG Z Z Z J J (aA9 uq J J (aA2 xq (aA2 xq (aA9 uq J J (nY Z Z Z J J J (oG Z Z Z J J (aA9 uq J J ?_))))))))))))
    obtain ⟨m, hm⟩ : ∃ m, m = 50 + (n : Int) / ((k : Int) + 2) % 5 := ⟨_, rfl⟩;obtain ⟨r, hr⟩ : ∃ r, r = 50 + (n : Int) / ((k : Int) + 3) % 9 := ⟨_, rfl⟩;rw [← hm, ← hr];refine kH #[.int .i64 m, .int .i64 r] Z qB Z ?_;refine eX 78 [.int .i64 m, .int .i64 r] Z qB Z (fun bn => ?_);(refine aN ?_);refine hK3 _ _ (qb_F 3 [.pt bn [.int .i64 m, .int .i64 r] 78, .pt b22 [.int .i64 ((n : Int) % 3), .int .i64 100, .slice ta k tc, .slice none 0 0] 46, .ow (.slice ta k tc) 78 2 k (spC L)] Z Z O fun K4 hK4 => ?_);refine dB (q := 1) (news := [.int .i64 m, .int .i64 r]) slT Z Z Z (fun v' => by repeat constructor) (fun w' hs => ⟨_, _, Blk.rdN (hs.blk (b := bn) O) Z⟩) (by simp [dJ]) J J (fun u' => ?_);refine bO (fun w hs => hs.slice2 (v := u') O) ?_;rintro ⟨a1, g1, rfl⟩;(refine aA2 xq ?_; refine qf_st2 U Z Z Z Z O ?_; refine aN ?_);refine hK4 _ _ (qb_nil ?_);(refine bK (aB (aA4 uq J J (aA1 zq (aD ?_)))));have el : (L ++ [(m, r)]).length = k + 1 := by simp [hk]
    exact hK2 ((a1, g1), L ++ [(m, r)]) _ _ (by simp only [el]; omega) (by simp only [el]; omega) ⟨Z, Z, Z, Z, fM Z (by simp only [el]; omega), trivial⟩ (by simp only [el, spC_snoc2]; repeat constructor)
   ·clear hK2 hc;(refine bH _ Z (aC (aC (aB (aA1 zq (cO Z Z Z J J (aA4 uq J J (aA1 zq (aD (aM ?_))))))))));refine dG (H' := [.ow (.slice none 0 0) 3 1 0 (aX []), .ow (.slice ta L.length tc) 78 2 L.length (spC L), .pt b22 [.int .i64 ((n : Int) % 3), .int .i64 100, .slice ta L.length tc, .slice none 0 0] 46]) (fun w' hs => (Sat.ownil hs 3 1).sp O) ?_;refine bM (σ := (Option Addr × Nat) × List Int) (fun s => s.2.length ≤ 3) (fun s => 3 - s.2.length) (fun s => [(21, .int .i64 n), (22, aC0 b22), (210, .int .i64 n), (243, .int .i64 (1 + (n : Int) % 3)), (244, .int .i64 s.2.length)]) (fun s => [.ow (.slice s.1.1 s.2.length s.1.2) 3 1 s.2.length (aX s.2), .ow (.slice ta L.length tc) 78 2 L.length (spC L), .pt b22 [.int .i64 ((n : Int) % 3), .int .i64 100, .slice ta L.length tc, .slice s.1.1 s.2.length s.1.2] 46]) ((none, 0), []) (by simp) ⟨Z, Z, Z, Z, Z, trivial⟩ O ?_;rintro ⟨⟨ra, rc⟩, R⟩ hR K2 hK2;dsimp only at hR ⊢;(refine aC (aB (aA1 zq (aD (aC ?_)))));refine dN Z (fun hc => ?_) (fun hc => ?_)
    ·obtain ⟨k, hk⟩ : ∃ k, k = R.length := ⟨_, rfl⟩;rw [← hk] at hR hc ⊢;have hk2 : k < 3 := by omega
     clear hc;have q1 := quo_bd n k 1 J;(refine aK (aC (aM (aC (aB (aA1 zq (aA1 zq (aD ?_))))))));refine q_drawB2 [true, true, true, true, true, true, true, true, true, false, false, false] [.pt b22 [.int .i64 ((n : Int) % 3), .int .i64 100, .slice ta L.length tc, .slice ra k rc] 46, .ow (.slice ra k rc) 3 1 k (aX R), .ow (.slice ta L.length tc) 78 2 L.length (spC L)] [] [.ow (.slice ta L.length tc) 78 2 L.length (spC L)] [.pt b22 [.int .i64 ((n : Int) % 3), .int .i64 100, .slice ta L.length tc, .slice ra k rc] 46, .ow (.slice ra k rc) 3 1 k (aX R)] O O qB qB qB ?_;refine qb_T2 9 [] Z Z O fun K3 hK3 => ?_
     (refine aA2 xq ?_; refine bB U Z Z Z ?_; refine aA2 xq (aA2 xq (aA9 uq J J (nY Z Z Z J J J (oG Z Z Z J J (aA9 uq J J ?_))))))
     obtain ⟨m, hm⟩ : ∃ m, m = 98 + (n : Int) / ((k : Int) + 1) % 9 := ⟨_, rfl⟩;rw [← hm];refine eX 3 [.int .i64 m] Z qB Z (fun bn => ?_);(refine aN ?_);refine hK3 _ _ (qb_F 3 [.pt bn [.int .i64 m] 3, .pt b22 [.int .i64 ((n : Int) % 3), .int .i64 100, .slice ta L.length tc, .slice ra k rc] 46, .ow (.slice ra k rc) 3 1 k (aX R)] Z Z O fun K4 hK4 => ?_);refine dB (q := 1) (news := [.int .i64 m]) slI Z Z Z (fun v' => by repeat constructor) (fun w' hs => ⟨_, _, Blk.rdN (hs.blk (b := bn) O) Z⟩) (by simp [dJ]) J J (fun u' => ?_);refine bO (fun w hs => hs.slice2 (v := u') O) ?_;rintro ⟨a1, g1, rfl⟩;(refine aA2 xq ?_; refine qf_st3 U Z Z Z Z O ?_; refine aN ?_);refine hK4 _ _ (qb_nil ?_);(refine bK (aB (aA4 uq J J (aA1 zq (aD ?_)))));have el : (R ++ [m]).length = k + 1 := by simp [hk]
     exact hK2 ((a1, g1), R ++ [m]) _ _ (by simp only [el]; omega) (by simp only [el]; omega) ⟨Z, Z, Z, Z, fM Z (by simp only [el]; omega), trivial⟩ (by simp only [el, nK]; repeat constructor)
    ·clear hK2;(refine bH _ Z (aC (aB ?_)); refine aP U Z Z Z ?_);simp only [List.drop_zero, List.take_succ_cons, List.take_zero];refine bC (β := Value × List Nd × Int) (ψ := fun y v => v = .tuple #[y.1, .int .i64 y.2.2] ∧ y.2.1.length ≤ 1000000) (L' := fun y => [.ow y.1 91 3 y.2.1.length (dK y.2.1)]) U [] _ M0 Z Z Z Z (Sp.refl _) qC (fun w' hs => rplan_u w' 0 w'.heap.size ⟨(n : Int) % 3, 100, L, R⟩ (.slice ta L.length tc) (.slice ra R.length rc) ⟨bY (t := 78) (hs.mem (c := .ow (.slice ta L.length tc) 78 2 L.length (spC L)) O) rfl, bU (l := R) (hs.mem (c := .ow (.slice ra R.length rc) 3 1 R.length (aX R)) O) Z⟩ (by simp only [maxLen]; omega) (by simp only [maxLen]; omega)) ?_;rintro ⟨yv, P, ye⟩ _ ⟨rfl, hP⟩;dsimp only [List.cons_append, List.nil_append] at hP ⊢;(refine aA1 zq (aB5 xq (aB5 xq (aA1 zq (aA1 zq (aD ?_))))));refine aC ?_;refine fT (σ := { y : Value × List Nd // y.2.length ≤ 1000000 }) (fun y => [(21, .int .i64 n), (22, aC0 b22), (210, .int .i64 n), (25, y.1.1)]) (fun y => [.ow y.1.1 91 3 y.1.2.length (dK y.1.2), .pt b22 [.int .i64 ((n : Int) % 3), .int .i64 100, .slice ta L.length tc, .slice ra R.length rc] 46, .ow (.slice ta L.length tc) 78 2 L.length (spC L), .ow (.slice ra R.length rc) 3 1 R.length (aX R)]) ?_ ?_;rotate_left
     ·intro K3 hK3;by_cases h3 : (n : Int) % 3 = 0
      ·obtain ⟨m, hm⟩ : ∃ m : Nat, (m : Int) = (n : Int) / 2 % 4 := ⟨((n : Int) / 2 % 4).toNat, by omega⟩;have hm3 : m ≤ 3 := by omega
       (refine aC (aB (aA1 zq (cO Z Z Z J J (aB2 xq J (aD (aH Z (aB (aA1 zq (cO Z Z Z J J (aA1 zq (fL Z Z Z J J J ?_))))))))))); refine cO Z Z Z J J (aA4 uq J J (aA1 zq (fL Z Z Z J J J (cO Z Z Z J J (aA4 uq J J ?_))))))
       refine fQ #[.int .i64 ((n : Int) % 2), .int .i64 (1 - (n : Int) / 2 % 3), .int .i64 ((n : Int) / 3 % 3 - 1)] Z qB Z ?_;(refine aA1 zq (fL Z Z Z J J J (cO Z Z Z J J (aA1 zq (fL Z Z Z J J J (cO Z Z Z J J (aA4 uq J J ?_)))))));refine fQ #[.int .i64 ((n : Int) / 2 % 3), .int .i64 (-1), .int .i64 ((n : Int) / 5 % 4 - 1)] Z qB Z ?_;(refine aA1 zq (fL Z Z Z J J J (cO Z Z Z J J ?_)));refine fQ #[.int .i64 ((n : Int) / 7 % 3), .int .i64 (-1), .int .i64 (-1)] Z qB Z ?_;refine cT 91 (dK [⟨(n : Int) % 2, 1 - (n : Int) / 2 % 3, (n : Int) / 3 % 3 - 1⟩, ⟨(n : Int) / 2 % 3, -1, (n : Int) / 5 % 4 - 1⟩, ⟨(n : Int) / 7 % 3, -1, -1⟩]) Z qB Z (fun bn => ?_);obtain ⟨N3, hN3⟩ : ∃ N3 : List Nd, N3 = [⟨(n : Int) % 2, 1 - (n : Int) / 2 % 3, (n : Int) / 3 % 3 - 1⟩, ⟨(n : Int) / 2 % 3, -1, (n : Int) / 5 % 4 - 1⟩, ⟨(n : Int) / 7 % 3, -1, -1⟩] := ⟨_, rfl⟩;rw [← hN3];have hNl : N3.length = 3 := by rw [hN3]; rfl
       (refine aA1 zq (fL Z Z Z J J J (cO Z Z Z J J ?_)))
       rw [← hm];refine jW (l := m) (et := 91) (sz := 3) qB qB Z Z Z J J ?_;rw [ad_to7, Int.toNat_natCast];(refine aA1 zq (aD ?_))
       refine dG (H' := [.ow (aB9 bn m 3) 91 3 (N3.take m).length (dK (N3.take m)), .pt b22 [.int .i64 ((n : Int) % 3), .int .i64 100, .slice ta L.length tc, .slice ra R.length rc] 46, .ow (.slice ta L.length tc) 78 2 L.length (spC L), .ow (.slice ra R.length rc) 3 1 R.length (aX R)]) (fun w' hs => by
        have h5 := pt_pre (N := 3) (sz := 3) (m := m) (xs := dK (N3.take m)) (by rw [hN3]; rfl) hm3 J (nod_take N3 m) (hs.sp (H' := [.pt bn (dK N3) 91, .pt b22 [.int .i64 ((n : Int) % 3), .int .i64 100, .slice ta L.length tc, .slice ra R.length rc] 46, .ow (.slice ta L.length tc) 78 2 L.length (spC L), .ow (.slice ra R.length rc) 3 1 R.length (aX R)]) O);rw [show (N3.take m).length = m from by rw [List.length_take, hNl]; omega];exact h5) ?_
       exact hK3 ⟨(aB9 bn m 3, N3.take m), by dsimp only; rw [List.length_take]; omega⟩ _ _ ⟨Z, Z, Z, Z, trivial⟩ O
      ·(refine aC (aB (aA1 zq (cO Z Z Z J J (cZ U Z Z Z J (aD (aG Z (aK ?_))))))))
       exact hK3 ⟨(yv, P), hP⟩ _ _ ⟨Z, Z, Z, Z, trivial⟩ O
     ·rintro ⟨⟨yv2, P2⟩, hP2⟩;dsimp only at hP2 ⊢;(refine aC (aC (aB ?_)); refine aP U Z Z Z ?_);simp only [List.drop_zero, List.take_succ_cons, List.take_zero];refine aI (val := .bool true) U Z Z Z Z (fun w hs => ?_) ?_; exact fH w ⟨(n : Int) % 3, 100, L, R⟩ (.slice ta L.length tc) (.slice ra R.length rc) ⟨bY (t := 78) (hs.mem (c := .ow (.slice ta L.length tc) 78 2 L.length (spC L)) O) rfl, bU (l := R) (hs.mem (c := .ow (.slice ra R.length rc) 3 1 R.length (aX R)) O) Z⟩;(refine aA1 zq (aA1 zq (aE Z ?_)); refine aP U Z Z Z ?_; refine aE Z (aA1 zq (aE Z ?_)));simp only [List.drop_zero, List.take_succ_cons, List.take_zero];refine aI (val := .bool true) U Z Z Z Z (fun w hs => ?_) ?_; exact gS w ⟨(n : Int) % 3, 100, L, R⟩ (.slice ta L.length tc) (.slice ra R.length rc) yv2 P2 ⟨bY (t := 78) (hs.mem (c := .ow (.slice ta L.length tc) 78 2 L.length (spC L)) O) rfl, bU (l := R) (hs.mem (c := .ow (.slice ra R.length rc) 3 1 R.length (aX R)) O) Z⟩ (fC (t := 91) (hs.mem (c := .ow yv2 91 3 P2.length (dK P2)) O) Z) (by simp only [maxLen]; omega);(refine aE Z (aA1 zq (aA1 zq (aD (aG Z (aK (aC (aB (aA1 zq (aD (aC (aC ?_))))))))))); refine aB (aA1 zq (cO Z Z Z J J (aA4 uq J J (aA1 zq (aD (aM ?_)))))));refine dG (H' := [.ow (.slice none 0 0) 28 3 0 (hdC [])]) (fun w' hs => (Sat.ownil hs 28 3).sp O) ?_;refine bM (σ := (Option Addr × Nat) × List Hd) (fun s => s.2.length ≤ 6) (fun s => 6 - s.2.length) (fun s => [(21, .int .i64 n), (27, .slice s.1.1 s.2.length s.1.2), (210, .int .i64 n), (306, .int .i64 (1 + (n : Int) % 6)), (307, .int .i64 s.2.length)]) (fun s => [.ow (.slice s.1.1 s.2.length s.1.2) 28 3 s.2.length (hdC s.2)]) ((none, 0), []) (by simp) ⟨Z, Z, Z, Z, Z, trivial⟩ O ?_;rintro ⟨⟨ha, hcp⟩, G⟩ hG K2 hK2;dsimp only at hG ⊢;(refine aC (aB (aA1 zq (aD (aC ?_)))));refine dN Z (fun hc => ?_) (fun hc => ?_)
      ·obtain ⟨k, hk⟩ : ∃ k, k = G.length := ⟨_, rfl⟩;rw [← hk] at hG hc ⊢;have hk2 : k < 6 := by omega
       clear hc;have q1 := quo_bd n k 1 J;have q2 := quo_bd n k 2 J;(refine aK (aC (aM (aC (aB (aA1 zq (aA1 zq (aD (aC (aB (aA1 zq (aA1 zq ?_))))))))))); refine aA4 uq J J (fL Z Z Z J J J (cO Z Z Z J J (aA1 zq (aD (aB ?_))))); (iterate 6 refine aA1 zq ?_); refine aA4 uq J J (fL Z Z Z J J J (cO Z Z Z J J (aA4 uq J J ?_))));obtain ⟨f, hf⟩ : ∃ f, f = (n : Int) / ((k : Int) + 1) % 8 := ⟨_, rfl⟩;obtain ⟨g, hg⟩ : ∃ g, g = f + (n : Int) / ((k : Int) + 2) % 5 := ⟨_, rfl⟩;rw [← hf, ← hg];refine fQ #[.int .i64 k, .int .i64 f, .int .i64 g] Z qB Z ?_;refine cT 28 [.int .i64 k, .int .i64 f, .int .i64 g] Z qB Z (fun bn => ?_);refine cW (q := 1) (news := [.int .i64 k, .int .i64 f, .int .i64 g]) slH Z Z Z (fun v' => by repeat constructor) (fun w' hs => ⟨_, _, Blk.rdN (hs.blk (b := bn) O) Z⟩) (by simp [dJ]) J J (fun u' => ?_);refine cU (fun w hs => hs.slice2 (v := u') O) ?_;rintro ⟨a1, g1, rfl⟩;(refine aA1 zq (aD (bK (aB (aA4 uq J J (aA1 zq (aD ?_)))))));have el : (G ++ [(⟨(k : Int), f, g⟩ : Hd)]).length = k + 1 := by simp [hk]
       exact hK2 ((a1, g1), G ++ [⟨(k : Int), f, g⟩]) _ _ (by simp only [el]; omega) (by simp only [el]; omega) ⟨Z, by simp only [el]; rfl, Z, Z, fM Z (by simp only [el]; omega), trivial⟩ (by simp only [el, oX]; repeat constructor)
      ·clear hK2 hc;(refine bH _ Z (aC (aB (aA1 zq (aA1 zq (cO Z Z Z J J (aA1 zq (cO Z Z Z J J (aA4 uq J J (aA1 zq (fL Z Z Z J J J (cO Z Z Z J J ?_))))))))))); refine aA4 uq J J ?_);refine bC (β := Value × List Int × Int) (ψ := fun y v => v = .tuple #[y.1, .int .i64 y.2.2] ∧ y.2.1.length ≤ 1000000) (L' := fun y => [.ow y.1 3 1 y.2.1.length (aX y.2.1)]) U [] _ M0 Z Z Z Z (Sp.refl _) qC (fun w' hs => mrk_u w' 0 w'.heap.size G _ _ _ (dA (t := 28) (hs.mem (c := .ow (.slice ha G.length hcp) 28 3 G.length (hdC G)) O) Z) J) ?_;rintro ⟨yv3, Q3, ye3⟩ _ ⟨rfl, hQ3⟩;dsimp only [List.cons_append, List.nil_append] at hQ3 ⊢;(refine aA1 zq (aB5 xq (aB5 xq (aA1 zq (aA1 zq (aD ?_))))));refine aC ?_;refine fT (σ := { y : Value × List Int // y.2.length ≤ 1000000 }) (fun y => [(21, .int .i64 n), (27, .slice ha G.length hcp), (30, y.1.1), (210, .int .i64 n)]) (fun y => [.ow y.1.1 3 1 y.1.2.length (aX y.1.2), .ow (.slice ha G.length hcp) 28 3 G.length (hdC G)]) ?_ ?_;rotate_left
       ·intro K3 hK3;by_cases h2 : (n : Int) % 2 = 0
        ·obtain ⟨m, hm⟩ : ∃ m : Nat, (m : Int) = (n : Int) / 2 % 4 := ⟨((n : Int) / 2 % 4).toNat, by omega⟩;have hm3 : m ≤ 3 := by omega
         (refine aC (aB (aA1 zq (cO Z Z Z J J (aB2 xq J (aD (aH Z (aB (aA1 zq (cO Z Z Z J J (aA1 zq (fL Z Z Z J J J ?_))))))))))); refine cO Z Z Z J J (aA4 uq J J ?_))
         refine cT 3 (aX [(n : Int) % 4, (n : Int) / 4 % 4 + 1, 6]) Z qB Z (fun bn => ?_);obtain ⟨N3, hN3⟩ : ∃ N3 : List Int, N3 = [(n : Int) % 4, (n : Int) / 4 % 4 + 1, 6] := ⟨_, rfl⟩;rw [← hN3];have hNl : N3.length = 3 := by rw [hN3]; rfl
         (refine aA1 zq (fL Z Z Z J J J (cO Z Z Z J J ?_)))
         rw [← hm];refine jW (l := m) (et := 3) (sz := 1) qB qB Z Z Z J J ?_;rw [ad_to7, Int.toNat_natCast];(refine aA1 zq (aD ?_))
         refine dG (H' := [.ow (aB9 bn m 3) 3 1 (N3.take m).length (aX (N3.take m)), .ow (.slice ha G.length hcp) 28 3 G.length (hdC G)]) (fun w' hs => by
          have h5 := pt_pre (N := 3) (sz := 1) (m := m) (xs := aX (N3.take m)) (by rw [hN3]; rfl) hm3 J (by rw [Nat.mul_one]; simp [aX, List.map_take]) (hs.sp (H' := [.pt bn (aX N3) 3, .ow (.slice ha G.length hcp) 28 3 G.length (hdC G)]) O);rw [show (N3.take m).length = m from by rw [List.length_take, hNl]; omega];exact h5) ?_
         exact hK3 ⟨(aB9 bn m 3, N3.take m), by dsimp only; rw [List.length_take]; omega⟩ _ _ ⟨Z, Z, Z, Z, trivial⟩ O
        ·(refine aC (aB (aA1 zq (cO Z Z Z J J (cZ U Z Z Z J (aD (aG Z (aK ?_))))))))
         exact hK3 ⟨(yv3, Q3), hQ3⟩ _ _ ⟨Z, Z, Z, Z, trivial⟩ O
       ·rintro ⟨⟨yv4, Q4⟩, hQ4⟩;dsimp only at hQ4 ⊢;obtain ⟨m, hm⟩ : ∃ m : Nat, (m : Int) = (n : Int) % 4 := ⟨((n : Int) % 4).toNat, by omega⟩;have hm3 : m ≤ 3 := by omega
        (refine aC (aC (aB (aA1 zq (aA1 zq (cO Z Z Z J J (aA1 zq (cO Z Z Z J J (aA4 uq J J (aA1 zq (fL Z Z Z J J J (cO Z Z Z J J ?_))))))))))); refine aA4 uq J J (aA1 zq (cO Z Z Z J J (aA1 zq (fL Z Z Z J J J (cO Z Z Z J J (aA1 zq (fL Z Z Z J J J (cO Z Z Z J J ?_)))))))))
        refine cT 3 (aX [(n : Int) % 2, (n : Int) / 2 % 3, (n : Int) / 4 % 6]) Z qB Z (fun bn => ?_);(refine aA1 zq (cO Z Z Z J J ?_));rw [← hm];refine jW (l := m) (et := 3) (sz := 1) qB qB Z Z Z J J ?_;rw [ad_to7, Int.toNat_natCast];(refine aA1 zq ?_);refine aI (val := .bool true) U Z Z Z Z (fun w hs => ?_) ?_; exact fZ w G (.slice ha G.length hcp) _ _ ([(n : Int) % 2, (n : Int) / 2 % 3, (n : Int) / 4 % 6].take m) Q4 (aB9 bn m 3) yv4 (dA (t := 28) (hs.mem (c := .ow (.slice ha G.length hcp) 28 3 G.length (hdC G)) O) Z) (ints_rdT (hs.blk (b := bn) O) (by simp; omega)) (bU (l := Q4) (hs.mem (c := .ow yv4 3 1 Q4.length (aX Q4)) O) Z) (by simp only [maxLen]; omega) (by rw [List.length_take]; simp only [maxLen, List.length_cons, List.length_nil]; omega) (by simp only [maxLen]; omega);(refine aA1 zq (aD (aG Z (aK (aC (aB (aA1 zq (aD (aC (aB (aA1 zq (aD ?_))))))))))); refine aC (aC (aB (aA1 zq (cO Z Z Z J J (aA4 uq J J (aA1 zq (aD (aM ?_)))))))));refine dG (H' := [un (dM 3 []), .ow (.slice none 0 0) 29 1 0 (([] : List (Value × List Int)).map (·.1)), .ow (.slice none 0 0) 3 1 0 (aX [])]) (fun w' hs => Sat.un_nil (Sat.ownil (Sat.ownil (hs.sp (H' := []) O) _ _) _ _)) ?_;refine bM (σ := ((Option Addr × Nat) × (Option Addr × Nat)) × List (Value × List Int) × List Int) (fun s => s.2.1.length ≤ 3 ∧ s.2.2.length = s.2.1.length ∧ ∀ p ∈ s.2.1, p.2.length ≤ 5) (fun s => 3 - s.2.1.length) (fun s => [(21, .int .i64 n), (32, .slice s.1.1.1 s.2.1.length s.1.1.2), (33, .slice s.1.2.1 s.2.1.length s.1.2.2), (210, .int .i64 n), (384, .int .i64 (1 + (n : Int) % 3)), (385, .int .i64 s.2.1.length)]) (fun s => [un (dM 3 s.2.1), .ow (.slice s.1.1.1 s.2.1.length s.1.1.2) 29 1 s.2.1.length (s.2.1.map (·.1)), .ow (.slice s.1.2.1 s.2.1.length s.1.2.2) 3 1 s.2.1.length (aX s.2.2)]) (((none, 0), (none, 0)), [], []) (by simp) ⟨Z, Z, Z, Z, Z, Z, trivial⟩ O ?_;rintro ⟨⟨⟨va, vc⟩, ⟨wa, wc⟩⟩, X, W⟩ ⟨hX, hW, hXl⟩ K2 hK2;dsimp only at hX hW hXl ⊢;(refine aC (aB (aA1 zq (aD (aC ?_)))));refine dN Z (fun hc => ?_) (fun hc => ?_)
        ·obtain ⟨k, hk⟩ : ∃ k, k = X.length := ⟨_, rfl⟩;rw [← hk] at hX hW hc ⊢;have hk2 : k < 3 := by omega
         clear hc;have q1 := quo_bd n k 1 J;have q2 := quo_bd n k 2 J;have q4 := quo_bd n k 4 J;(refine aK (aC (aM (aC (aB (aA1 zq (aA1 zq (aD (aC (aB (aA1 zq (aA1 zq ?_))))))))))); refine aA4 uq J J (fL Z Z Z J J J (cO Z Z Z J J (aA4 uq J J ?_))));obtain ⟨x0, hx0⟩ : ∃ x0, x0 = 20 + (n : Int) / ((k : Int) + 1) % 6 := ⟨_, rfl⟩;have hx0b : 0 ≤ x0 ∧ x0 ≤ 25 := by omega
         rw [← hx0];refine cT 3 [.int .i64 x0] Z qB Z (fun bl => ?_);(refine aA1 zq (aD (aC (aC (aB (aA1 zq (aA1 zq (aA4 uq J J (fL Z Z Z J J J (cO Z Z Z J J (aA1 zq (aD ?_))))))))))); refine aM ?_);obtain ⟨c5, hc5⟩ : ∃ c5, c5 = (n : Int) / ((k : Int) + 2) % 5 := ⟨_, rfl⟩;rw [← hc5];have hc5b : 0 ≤ c5 ∧ c5 ≤ 4 := by omega
         refine dG (H' := [.ow (aB9 bl (0 + 1) 1) 3 1 (0 + 1) (aX [x0]), un (dM 3 X), .ow (.slice va k vc) 29 1 k (X.map fun x : Value × List Int => x.1), .ow (.slice wa k wc) 3 1 k (aX W)]) (fun w hs => (Sat.pt_ow (sz := 1) (m := 1) Z J (hs.sp (H' := [.pt bl [.int .i64 x0] 3, un (dM 3 X), .ow (.slice va k vc) 29 1 k (X.map fun x : Value × List Int => x.1), .ow (.slice wa k wc) 3 1 k (aX W)]) O))) ?_;refine bM (σ := (Nat × Nat) × List Int) (fun s => (1 ≤ s.2.length ∧ s.2.length ≤ 5) ∧ ∀ y ∈ s.2, 0 ≤ y ∧ y ≤ 25) (fun s => 5 - s.2.length) (fun s => [(21, .int .i64 n), (32, .slice va k vc), (33, .slice wa k wc), (34, .int .i64 k), (35, aB9 s.1.1 s.2.length s.1.2), (210, .int .i64 n), (384, .int .i64 (1 + (n : Int) % 3)), (385, .int .i64 k), (399, .int .i64 c5), (400, .int .i64 ((s.2.length : Int) - 1))]) (fun s => [.ow (aB9 s.1.1 s.2.length s.1.2) 3 1 s.2.length (aX s.2), un (dM 3 X), .ow (.slice va k vc) 29 1 k (X.map fun x : Value × List Int => x.1), .ow (.slice wa k wc) 3 1 k (aX W)]) ((bl, 1), [x0]) ⟨by simp, by simp; omega⟩ ⟨Z, Z, Z, Z, Z, Z, Z, Z, Z, Z, trivial⟩ O ?_;rintro ⟨⟨g, c⟩, l⟩ ⟨⟨hl1, hl5⟩, hlb⟩ K3 hK3;dsimp only at hl1 hl5 hlb ⊢;(refine aC (aB (aA1 zq (aD (aC ?_)))));refine dN Z (fun hc => ?_) (fun hc => ?_)
         ·obtain ⟨j, hj⟩ : ∃ j, l.length = j + 1 := ⟨l.length - 1, by omega⟩;have hjl : j < l.length := by omega
          have hj4 : (j : Int) < 4 := by omega
          have hlj := hlb l[j] (List.getElem_mem hjl);clear hc;rw [hj];rw [show ((j + 1 : Nat) : Int) - 1 = j by omega];have q3 : 0 ≤ (n : Int) / ((k : Int) + j + 3) ∧ (n : Int) / ((k : Int) + j + 3) ≤ n := ⟨Int.ediv_nonneg J J, Int.ediv_le_self _ J⟩;have hmu : 0 ≤ (4 - (j : Int)) * (1 + (n : Int) / ((k : Int) + j + 3) % 3) ∧ (4 - (j : Int)) * (1 + (n : Int) / ((k : Int) + j + 3) % 3) ≤ 4 * 3 := ⟨Int.mul_nonneg J J, Int.mul_le_mul J J J J⟩;(refine aK (aC (aM (aC (aB (aA1 zq (aA1 zq (aD ?_))))))));refine q_drawB2 [true, true, true, true, true, true, true, true, true, true, true, true, true, true, true, true, true, true, true, false, false] [.ow (aB9 g (j + 1) c) 3 1 (j + 1) (aX l), un (dM 3 X), .ow (.slice va k vc) 29 1 k (X.map fun x : Value × List Int => x.1), .ow (.slice wa k wc) 3 1 k (aX W)] [] [un (dM 3 X), .ow (.slice va k vc) 29 1 k (X.map fun x : Value × List Int => x.1), .ow (.slice wa k wc) 3 1 k (aX W)] [.ow (aB9 g (j + 1) c) 3 1 (j + 1) (aX l)] O O qB qB qB ?_;refine qb_T2 19 [] Z Z O fun K4 hK4 => ?_
          ((iterate 3 refine aA2 xq ?_))
          refine aA3 Wa J J ?_;refine aR (v := .int .i64 l[j]) U Z Z Z (fun w hs => RdI.at (bU (l := l) (hs.mem (c := .ow (aB9 g (j + 1) c) 3 1 (j + 1) (aX l)) O) hj.symm) j hjl) ?_;(refine aA2 xq (aA9 uq J J ?_); (iterate 3 refine aA2 xq ?_); refine aA9 uq J J (aA9 uq J J (nY Z Z Z J J J (oG Z Z Z J J ?_))); (iterate 3 refine aA9 uq J J ?_); refine aA2 xq ?_);obtain ⟨nx, hnx⟩ : ∃ nx, nx = max 0 (l[j] - (4 - (j : Int)) * (1 + (n : Int) / ((k : Int) + j + 3) % 3)) := ⟨_, rfl⟩;rw [← hnx];have hnb : 0 ≤ nx ∧ nx ≤ 25 := by omega
          refine eX 3 [.int .i64 nx] Z qB Z (fun bn => ?_);(refine aN ?_);refine hK4 _ _ (qb_F 2 [.pt bn [.int .i64 nx] 3, .ow (aB9 g (j + 1) c) 3 1 (j + 1) (aX l)] Z Z O fun K5 hK5 => ?_);refine dB (q := 1) (news := [.int .i64 nx]) slI Z Z Z (fun v' => by repeat constructor) (fun w' hs => ⟨_, _, Blk.rdN (hs.blk (b := bn) O) Z⟩) (by simp [dJ]) J J (fun u' => ?_);refine bO (fun w hs => hs.ownSome (v := u') O J) ?_;rintro ⟨g2, c2, rfl⟩;(refine aA2 xq (aN ?_));refine hK5 _ _ (qb_nil ?_);(refine bK (aB (aA4 uq J J (aA1 zq (aD ?_)))));have el : (l ++ [nx]).length = j + 1 + 1 := by simp [hj]
          exact hK3 ((g2, c2), l ++ [nx]) _ _ ⟨by simp only [el]; omega, fun y hy => by
           rcases List.mem_append.1 hy with hy | hy
           ·exact hlb y hy
           ·rw [List.mem_singleton.1 hy]; exact hnb⟩ (by simp only [el]; omega) ⟨rfl, rfl, rfl, rfl, by simp only [el]; rfl, rfl, rfl, rfl, rfl, fM rfl (by simp only [el]; omega), trivial⟩ (by simp only [el, nK]; repeat constructor)
         ·clear hK3 hc;(refine bH _ Z ?_);obtain ⟨wv, hwv⟩ : ∃ wv, wv = (n : Int) / ((k : Int) + 4) % 3 := ⟨_, rfl⟩;refine fT (σ := (Option Addr × Nat) × (Option Addr × Nat)) (fun y => [(21, .int .i64 n), (32, .slice y.1.1 (k + 1) y.1.2), (33, .slice y.2.1 (k + 1) y.2.2), (210, .int .i64 n), (384, .int .i64 (1 + (n : Int) % 3)), (385, .int .i64 k)]) (fun y => [.ow (aB9 g l.length c) 3 1 l.length (aX l), un (dM 3 X), .ow (.slice y.1.1 (k + 1) y.1.2) 29 1 (k + 1) ((X.map fun x : Value × List Int => x.1) ++ [(aB9 g l.length c)]), .ow (.slice y.2.1 (k + 1) y.2.2) 3 1 (k + 1) (aX W ++ [.int .i64 wv])]) ?_ ?_;rotate_left
          ·intro K3 hK3;refine eQ (tLwP_d3df73f) _ [.ow (.slice va k vc) 29 1 k (X.map fun x : Value × List Int => x.1), .ow (.slice wa k wc) 3 1 k (aX W)] (Sp.cons O (Sp.cons O (Sp.refl _))) qB qB ?_;refine cA ?_ ?_
           ·refine bA qA fun K1 hK1 => ?_;(refine aA2 xq ?_)
            refine eX 29 [(aB9 g l.length c)] Z qB Z (fun bn => ?_);(refine aN ?_);refine hK1 _ _ ?_;refine cA ?_ ?_
            ·refine bA qA fun K1 hK1 => ?_;(refine aA2 xq ?_)
             refine dB (q := 1) (news := [(aB9 g l.length c)]) slII Z Z Z (fun v' => by repeat constructor) (fun w' hs => ⟨_, _, Blk.rdN (hs.blk (b := bn) O) Z⟩) (by simp [dJ]) J J (fun u1 => ?_);refine bO (fun w hs => hs.slice2 (v := u1) O) ?_;rintro ⟨a1, g1, rfl⟩;(refine aA2 xq (aA2 xq (aA9 uq J J (nY Z Z Z J J J (oG Z Z Z J J ?_)))));rw [← hwv];refine eX 3 [.int .i64 wv] Z qB Z (fun bm => ?_);(refine aA2 xq ?_);refine dB (q := 1) (news := [.int .i64 wv]) slI Z Z Z (fun v' => by repeat constructor) (fun w' hs => ⟨_, _, Blk.rdN (hs.blk (b := bm) O) Z⟩) (by simp [dJ]) J J (fun u2 => ?_);refine bO (fun w hs => hs.slice2 (v := u2) O) ?_;rintro ⟨a2, g2, rfl⟩;(refine aA2 xq (aA2 xq (aN ?_)));exact hK1 _ _ (dD (hK3 ((a1, g1), a2, g2) _ _ ⟨Z, Z, Z, Z, Z, Z, trivial⟩ O))
            ·refine bA qA fun K1 hK1 => ?_;(refine aA2 xq (aA2 xq (aA9 uq J J (nY Z Z Z J J J (oG Z Z Z J J ?_)))))
             rw [← hwv];refine eX 3 [.int .i64 wv] Z qB Z (fun bm => ?_);(refine aA2 xq ?_);refine dB (q := 1) (news := [(aB9 g l.length c)]) slII Z Z Z (fun v' => by repeat constructor) (fun w' hs => ⟨_, _, Blk.rdN (hs.blk (b := bn) O) Z⟩) (by simp [dJ]) J J (fun u1 => ?_);refine bO (fun w hs => hs.slice2 (v := u1) O) ?_;rintro ⟨a1, g1, rfl⟩;(refine aA2 xq ?_);refine dB (q := 1) (news := [.int .i64 wv]) slI Z Z Z (fun v' => by repeat constructor) (fun w' hs => ⟨_, _, Blk.rdN (hs.blk (b := bm) O) Z⟩) (by simp [dJ]) J J (fun u2 => ?_);refine bO (fun w hs => hs.slice2 (v := u2) O) ?_;rintro ⟨a2, g2, rfl⟩;(refine aA2 xq (aA2 xq (aN ?_)));exact hK1 _ _ (dD (hK3 ((a1, g1), a2, g2) _ _ ⟨Z, Z, Z, Z, Z, Z, trivial⟩ O))
           ·refine bA qA fun K1 hK1 => ?_;(refine aA2 xq (aA2 xq (aA9 uq J J (nY Z Z Z J J J (oG Z Z Z J J ?_)))))
            rw [← hwv];refine eX 3 [.int .i64 wv] Z qB Z (fun bm => ?_);(refine aA2 xq ?_);refine eX 29 [(aB9 g l.length c)] Z qB Z (fun bn => ?_);(refine aA2 xq ?_);refine dB (q := 1) (news := [(aB9 g l.length c)]) slII Z Z Z (fun v' => by repeat constructor) (fun w' hs => ⟨_, _, Blk.rdN (hs.blk (b := bn) O) Z⟩) (by simp [dJ]) J J (fun u1 => ?_);refine bO (fun w hs => hs.slice2 (v := u1) O) ?_;rintro ⟨a1, g1, rfl⟩;(refine aA2 xq ?_);refine dB (q := 1) (news := [.int .i64 wv]) slI Z Z Z (fun v' => by repeat constructor) (fun w' hs => ⟨_, _, Blk.rdN (hs.blk (b := bm) O) Z⟩) (by simp [dJ]) J J (fun u2 => ?_);refine bO (fun w hs => hs.slice2 (v := u2) O) ?_;rintro ⟨a2, g2, rfl⟩;(refine aA2 xq (aA2 xq (aN ?_)));exact hK1 _ _ (dD (hK3 ((a1, g1), a2, g2) _ _ ⟨Z, Z, Z, Z, Z, Z, trivial⟩ O))
          ·rintro ⟨⟨a1, g1⟩, a2, g2⟩;dsimp only;(refine bK (aB (aA4 uq J J (aA1 zq (aD ?_)))));have el : (X ++ [((aB9 g l.length c), l)]).length = k + 1 := by simp [hk]
           refine dG (H' := [un (dM 3 (X ++ [((aB9 g l.length c), l)])), .ow (.slice a1 (k + 1) g1) 29 1 (k + 1) ((X ++ [((aB9 g l.length c), l)]).map fun x : Value × List Int => x.1), .ow (.slice a2 (k + 1) g2) 3 1 (k + 1) (aX (W ++ [wv]))]) (fun w' hs => by
            refine rows_add ?_;rw [List.map_append, nK];exact hs.sp O) ?_
           exact hK2 (((a1, g1), a2, g2), X ++ [((aB9 g l.length c), l)], W ++ [wv]) _ _ ⟨by simp only [el]; omega, by simp [hW, hk], fun p hp => by
            rcases List.mem_append.1 hp with hp | hp
            ·exact hXl p hp
            ·rw [List.mem_singleton.1 hp]; exact hl5⟩ (by simp only [el]; omega) ⟨rfl, by simp only [el]; rfl, by simp only [el]; rfl, rfl, rfl, fM rfl (by simp only [el]; omega), trivial⟩ (by simp only [el]; repeat constructor)
        ·clear hK2 hc;(refine bH _ Z (aC (aB ?_)); (iterate 3 refine aA1 zq ?_); refine cO Z Z Z J J (aA1 zq (cO Z Z Z J J (aA4 uq J J (aA1 zq (cO Z Z Z J J ?_))))));obtain ⟨A, hA⟩ : ∃ A : List (List Int), A = X.map (fun p => p.2) := ⟨_, rfl⟩;have hAl : A.length = X.length := by rw [hA, List.length_map]
         have hAr : ∀ r ∈ A, r.length ≤ maxLen := fun r hr => by
          rw [hA] at hr;obtain ⟨p, hp, rfl⟩ := List.mem_map.1 hr;have := hXl p hp;simp only [maxLen];omega
         refine aI (val := .bool true) U Z Z Z Z (fun w hs => ?_) ?_; exact iV w A W (.slice va X.length vc) (.slice wa X.length wc) _ _ _ (by rw [hA]; exact rowsO_rd (hs.mem (c := un (dM 3 X)) O) (hs.mem (c := .ow (.slice va X.length vc) 29 1 X.length (X.map fun x : Value × List Int => x.1)) O)) (bU (l := W) (hs.mem (c := .ow (.slice wa X.length wc) 3 1 X.length (aX W)) O) hW.symm) (by simp only [maxLen]; omega) hAr (by simp only [maxLen]; omega) J J;(refine aA1 zq (aD (aG Z (aK (bK (aB (aA4 uq J J (aA1 zq (aD ?_)))))))));exact hK (n + 1) _ _ J J ⟨Z, trivial⟩ O
  ·(refine bH _ Z (aC (aC (aB (aA1 zq (aD (aM ?_)))))))
   refine bM (σ := Nat) (fun n => n ≤ 33) (fun n => 33 - n) (fun n => [(449, .int .i64 n)]) (fun _ => []) 0 J ⟨Z, trivial⟩ O ?_;rintro n hn K hK;(refine aC (aB (aA1 zq (aD (aC ?_)))));refine dN Z (fun hc => ?_) (fun hc => ?_)
   ·have hn2 : n < 33 := by first | omega | (simp at hc; omega)
    clear hc;(refine aK (aC (aM (aC (aB (aA1 zq (aA1 zq (aD (aC (aB ?_))))))))));refine bF dY Z (fun b38 => ?_);(refine aD (aC (aB (aA1 zq ?_))); refine ql_st1 U Z Z Z Z O ?_; refine aD (aC (aB (aA1 zq (aD (aC (aB (aA1 zq (aD (aC (aC (aB ?_))))))))))); refine aA1 zq (aA1 zq (aD (aM ?_))));refine dG (H' := [un (dM 3 []), .ow (.slice none 0 0) 29 1 0 (([] : List (Value × List Int)).map (·.1)), .ow (.slice none 0 0) 28 3 0 (hdC []), .ow (.slice none 0 0) 3 1 0 (aX []), .ow (.slice none 0 0) 78 2 0 (spC []), .pt b38 [.int .i64 0, .int .i64 1, .slice none 0 0, .slice none 0 0] 46]) (fun w' hs => Sat.un_nil (Sat.ownil (Sat.ownil (Sat.ownil (Sat.ownil (hs.sp (H' := [.pt b38 [.int .i64 0, .int .i64 1, .slice none 0 0, .slice none 0 0] 46]) O) _ _) _ _) _ _) _ _)) ?_;refine bM (σ := ((Option Addr × Nat) × (Option Addr × Nat) × (Option Addr × Nat) × (Option Addr × Nat)) × List (Int × Int) × List Int × List Hd × List (Value × List Int)) (fun s => s.2.2.2.1.length ≤ n ∧ s.2.1.length ≤ s.2.2.2.1.length ∧ s.2.2.1.length ≤ s.2.2.2.1.length ∧ s.2.2.2.2.length ≤ s.2.2.2.1.length ∧ ∀ p ∈ s.2.2.2.2, p.2.length ≤ 33) (fun s => n - s.2.2.2.1.length) (fun s => [(37, .int .i64 n), (38, aC0 b38), (39, .slice s.1.2.2.1.1 s.2.2.2.1.length s.1.2.2.1.2), (40, .slice s.1.2.2.2.1 s.2.2.2.2.length s.1.2.2.2.2), (449, .int .i64 n), (453, .int .i64 n), (454, .int .i64 s.2.2.2.1.length)]) (fun s => [un (dM 3 s.2.2.2.2), .ow (.slice s.1.2.2.2.1 s.2.2.2.2.length s.1.2.2.2.2) 29 1 s.2.2.2.2.length (s.2.2.2.2.map fun x : Value × List Int => x.1), .ow (.slice s.1.2.2.1.1 s.2.2.2.1.length s.1.2.2.1.2) 28 3 s.2.2.2.1.length (hdC s.2.2.2.1), .ow (.slice s.1.2.1.1 s.2.2.1.length s.1.2.1.2) 3 1 s.2.2.1.length (aX s.2.2.1), .ow (.slice s.1.1.1 s.2.1.length s.1.1.2) 78 2 s.2.1.length (spC s.2.1), .pt b38 [.int .i64 0, .int .i64 1, .slice s.1.1.1 s.2.1.length s.1.1.2, .slice s.1.2.1.1 s.2.2.1.length s.1.2.1.2] 46]) (((none, 0), (none, 0), (none, 0), (none, 0)), [], [], [], []) (by simp) ⟨Z, Z, Z, Z, Z, Z, Z, trivial⟩ O ?_;rintro ⟨⟨⟨ta, tc⟩, ⟨ra, rc⟩, ⟨ha, hcp⟩, ⟨va, vc⟩⟩, T, R, G, X⟩ ⟨hG, hT, hR, hX, hXl⟩ K2 hK2;dsimp only at hG hT hR hX hXl ⊢;(refine aC (aB (aA1 zq (aD (aC ?_)))));refine dN Z (fun hc => ?_) (fun hc => ?_)
    ·obtain ⟨k, hk⟩ : ∃ k, k = G.length := ⟨_, rfl⟩;rw [← hk] at hG hT hR hX hc ⊢;have hk2 : k < n := by omega
     clear hc;(refine aK (aC (aM (aC ?_))));refine aB ?_;(refine aA1 zq (aA1 zq (aD ?_)));refine aC ?_;refine fT (σ := { y : (Option Addr × Nat) × List (Int × Int) // y.2.length ≤ k + 1 }) (fun y => [(37, .int .i64 n), (38, aC0 b38), (39, .slice ha k hcp), (40, .slice va X.length vc), (41, .int .i64 k), (449, .int .i64 n), (453, .int .i64 n), (454, .int .i64 k)]) (fun y => [.ow (.slice y.1.1.1 y.1.2.length y.1.1.2) 78 2 y.1.2.length (spC y.1.2), .pt b38 [.int .i64 0, .int .i64 1, .slice y.1.1.1 y.1.2.length y.1.1.2, .slice ra R.length rc] 46, .ow (.slice ra R.length rc) 3 1 R.length (aX R), un (dM 3 X), .ow (.slice va X.length vc) 29 1 X.length (X.map fun x : Value × List Int => x.1), .ow (.slice ha k hcp) 28 3 k (hdC G)]) ?_ ?_;rotate_left
     ·intro K3 hK3;by_cases h14 : (k : Int) < 14
      ·(refine aC (aB (aA1 zq (aB3 xq J (aD (aH Z (aB (aA1 zq ?_))))))); refine aJ U Z Z Z ?_; refine aA1 zq (cO Z Z Z J J (aA4 uq J J (aA4 uq J J ?_))))
       obtain ⟨m, hm⟩ : ∃ m, m = 11000 - 200 * ((n : Int) % 2) := ⟨_, rfl⟩;rw [← hm];refine fQ #[.int .i64 10000, .int .i64 m] Z qB Z ?_;refine cT 78 [.int .i64 10000, .int .i64 m] Z qB Z (fun bn => ?_);refine cW (q := 1) (news := [.int .i64 10000, .int .i64 m]) slT Z Z Z (fun v' => by repeat constructor) (fun w' hs => ⟨_, _, Blk.rdN (hs.blk (b := bn) O) Z⟩) (by simp [dJ]) J J (fun u' => ?_);refine cU (fun w hs => hs.slice2 (v := u') O) ?_;rintro ⟨a1, g1, rfl⟩;(refine aA1 zq ?_; refine ql_st2 U Z Z Z Z O ?_; refine aD ?_);have el : (T ++ [((10000 : Int), m)]).length = T.length + 1 := by simp
       exact hK3 ⟨((a1, g1), T ++ [(10000, m)]), by simp only [el]; omega⟩ _ _ ⟨Z, Z, Z, Z, Z, Z, Z, Z, trivial⟩ (by simp only [el, spC_snoc2]; repeat constructor)
      ·(refine aC (aB (aA1 zq (aB4 xq J (aD (aG Z (aK ?_)))))))
       exact hK3 ⟨((ta, tc), T), by simp only; omega⟩ _ _ ⟨Z, Z, Z, Z, Z, Z, Z, Z, trivial⟩ O
     clear hT;rintro ⟨⟨⟨ta, tc⟩, T⟩, hT⟩;dsimp only at hT ⊢;refine aC ?_;refine fT (σ := { y : ((Option Addr × Nat) × (Option Addr × Nat)) × List Int × List (Value × List Int) // y.2.1.length ≤ k + 1 ∧ y.2.2.length ≤ k + 1 ∧ ∀ p ∈ y.2.2, p.2.length ≤ 33 }) (fun y => [(37, .int .i64 n), (38, aC0 b38), (39, .slice ha k hcp), (40, .slice y.1.1.2.1 y.1.2.2.length y.1.1.2.2), (41, .int .i64 k), (449, .int .i64 n), (453, .int .i64 n), (454, .int .i64 k)]) (fun y => [un (dM 3 y.1.2.2), .ow (.slice y.1.1.2.1 y.1.2.2.length y.1.1.2.2) 29 1 y.1.2.2.length (y.1.2.2.map fun x : Value × List Int => x.1), .pt b38 [.int .i64 0, .int .i64 1, .slice ta T.length tc, .slice y.1.1.1.1 y.1.2.1.length y.1.1.1.2] 46, .ow (.slice ta T.length tc) 78 2 T.length (spC T), .ow (.slice ha k hcp) 28 3 k (hdC G), .ow (.slice y.1.1.1.1 y.1.2.1.length y.1.1.1.2) 3 1 y.1.2.1.length (aX y.1.2.1)]) ?_ ?_;rotate_left
     ·intro K3 hK3;by_cases h12 : (k : Int) < 12
      ·obtain ⟨m, hmi⟩ : ∃ m : Nat, min 30 (n : Int) = (m : Int) := ⟨(min 30 (n : Int)).toNat, by omega⟩;have hm33 : m ≤ 33 := by omega
       (refine aC (aB (aA1 zq (aB3 xq J (aD (aH Z ?_))))))
       refine q_drawX (tLwP_92e7c40) [true, true, true, true, true, true, true, true, true, true, false, false, false] [.pt b38 [.int .i64 0, .int .i64 1, .slice ta T.length tc, .slice ra R.length rc] 46, .ow (.slice ta T.length tc) 78 2 T.length (spC T), un (dM 3 X), .ow (.slice ha k hcp) 28 3 k (hdC G)] [.ow (.slice ra R.length rc) 3 1 R.length (aX R), .ow (.slice va X.length vc) 29 1 X.length (X.map fun x : Value × List Int => x.1)] [.ow (.slice ta T.length tc) 78 2 T.length (spC T), un (dM 3 X), .ow (.slice ha k hcp) 28 3 k (hdC G)] [.pt b38 [.int .i64 0, .int .i64 1, .slice ta T.length tc, .slice ra R.length rc] 46] O O qB qB qB ?_;refine pT (σ := Nat × Value × Nat × Nat × Value × Unit) (tLwP_6c612a8) (fun ⟨lt0, ap0, bz, bq, ap1, ()⟩ => [(37, .int .i64 n), (38, aC0 b38), (39, .slice ha k hcp), (40, .slice va X.length vc), (41, .int .i64 k), (449, .int .i64 n), (453, .int .i64 n), (454, .int .i64 k), (474, ap0), (480, ap1)]) (fun ⟨lt0, ap0, bz, bq, ap1, ()⟩ => [.ow ap0 3 1 (R.length + 1) (aX R ++ [.int .i64 20000]), .ow ap1 29 1 (X.length + 1) ((X.map fun x : Value × List Int => x.1) ++ [aB9 bz m m]), .pt bz (aX (List.replicate m 0)) 3, .pt b38 [.int .i64 0, .int .i64 1, .slice ta T.length tc, .slice ra R.length rc] 46, .ow (.slice ta T.length tc) 78 2 T.length (spC T), un (dM 3 X), .ow (.slice ha k hcp) 28 3 k (hdC G)]) ?_ (fun hS2_3_7_8_9 => ?_)
       ·rintro ⟨lt0, ap0, bz, bq, ap1, _⟩;refine qx_F [.ow ap0 3 1 (R.length + 1) (aX R ++ [.int .i64 20000]), .ow ap1 29 1 (X.length + 1) ((X.map fun x : Value × List Int => x.1) ++ [aB9 bz m m]), .pt bz (aX (List.replicate m 0)) 3, .pt b38 [.int .i64 0, .int .i64 1, .slice ta T.length tc, .slice ra R.length rc] 46] qA Z O fun K1 hK1 => ?_
        refine bO (fun w hs => hs.slice2 (v := ap0) O) ?_;rintro ⟨a1, g1, rfl⟩;refine bO (fun w hs => hs.slice2 (v := ap1) O) ?_;rintro ⟨a2, g2, rfl⟩;(refine aA2 xq ?_; refine qf_st3 U Z Z Z Z O ?_; refine aA2 xq (aN ?_));refine hK1 _ _ (qx_nil ?_);have e1 : (R ++ [(20000 : Int)]).length = R.length + 1 := by simp
        have e2 : (X ++ [((aB9 bz m m : Value), List.replicate m 0)]).length = X.length + 1 := by simp
        refine dG (H' := [un (dM 3 (X ++ [((aB9 bz m m : Value), List.replicate m 0)])), .ow (.slice a2 (X.length + 1) g2) 29 1 (X.length + 1) ((X ++ [((aB9 bz m m : Value), List.replicate m 0)]).map fun x : Value × List Int => x.1), .pt b38 [.int .i64 0, .int .i64 1, .slice ta T.length tc, .slice a1 (R.length + 1) g1] 46, .ow (.slice ta T.length tc) 78 2 T.length (spC T), .ow (.slice ha k hcp) 28 3 k (hdC G), .ow (.slice a1 (R.length + 1) g1) 3 1 (R.length + 1) (aX (R ++ [20000]))]) (fun w' hs => by
         refine rows_add ?_;rw [List.map_append, nK, List.length_replicate];exact Sat.pt_ow (sz := 1) (m := m) (by simp [aX]) J (hs.sp O)) ?_
        exact hK3 ⟨(((a1, g1), a2, g2), R ++ [20000], (X ++ [((aB9 bz m m : Value), List.replicate m 0)])), by simp only [e1]; omega, by simp only [e2]; omega, fun p hp => by
         rcases List.mem_append.1 hp with hp | hp
         ·exact hXl p hp
         ·rw [List.mem_singleton.1 hp]; simp; omega⟩ _ _ ⟨rfl, rfl, rfl, by simp only [e2]; rfl, rfl, rfl, rfl, rfl, trivial⟩ (by simp only [e1, e2]; repeat constructor)
       refine pT (σ := Nat × Value × Nat × Nat × Unit) (mD) (fun ⟨lt0, ap0, bz, bq, ()⟩ => [(37, .int .i64 n), (38, aC0 b38), (39, .slice ha k hcp), (40, .slice va X.length vc), (41, .int .i64 k), (449, .int .i64 n), (453, .int .i64 n), (454, .int .i64 k), (474, ap0), (479, aB9 bq 1 1)]) (fun ⟨lt0, ap0, bz, bq, ()⟩ => [.ow ap0 3 1 (R.length + 1) (aX R ++ [.int .i64 20000]), .ow (.slice va X.length vc) 29 1 X.length (X.map fun x : Value × List Int => x.1), .pt bz (aX (List.replicate m 0)) 3, .pt bq [aB9 bz m m] 29, .pt b38 [.int .i64 0, .int .i64 1, .slice ta T.length tc, .slice ra R.length rc] 46, .ow (.slice ta T.length tc) 78 2 T.length (spC T), un (dM 3 X), .ow (.slice ha k hcp) 28 3 k (hdC G)]) ?_ (fun hS2_3_7_8 => ?_)
       ·rintro ⟨lt0, ap0, bz, bq, _⟩;refine qx_T [.ow ap0 3 1 (R.length + 1) (aX R ++ [.int .i64 20000]), .ow (.slice va X.length vc) 29 1 X.length (X.map fun x : Value × List Int => x.1), .pt bz (aX (List.replicate m 0)) 3, .pt bq [aB9 bz m m] 29] qA Z O fun K1 hK1 => ?_
        (refine aA2 xq ?_)
        refine dB (q := 1) (news := [aB9 bz m m]) slII Z Z Z (fun v' => by repeat constructor) (fun w' hs => ⟨_, _, Blk.rdN (hs.blk (b := bq) O) Z⟩) (by simp [dJ]) J J (fun ap1 => ?_);(refine aN ?_);exact hK1 _ _ (hS2_3_7_8_9 ⟨lt0, ap0, bz, bq, ap1, ()⟩ _ _ ⟨Z, Z, Z, Z, Z, Z, Z, Z, Z, Z, trivial⟩ O)
       refine pT (σ := Nat × Value × Nat × Unit) (mV) (fun ⟨lt0, ap0, bz, ()⟩ => [(37, .int .i64 n), (38, aC0 b38), (39, .slice ha k hcp), (40, .slice va X.length vc), (41, .int .i64 k), (449, .int .i64 n), (453, .int .i64 n), (454, .int .i64 k), (474, ap0), (478, aB9 bz m m)]) (fun ⟨lt0, ap0, bz, ()⟩ => [.ow ap0 3 1 (R.length + 1) (aX R ++ [.int .i64 20000]), .ow (.slice va X.length vc) 29 1 X.length (X.map fun x : Value × List Int => x.1), .pt bz (aX (List.replicate m 0)) 3, .pt b38 [.int .i64 0, .int .i64 1, .slice ta T.length tc, .slice ra R.length rc] 46, .ow (.slice ta T.length tc) 78 2 T.length (spC T), un (dM 3 X), .ow (.slice ha k hcp) 28 3 k (hdC G)]) ?_ (fun hS2_3_7 => ?_)
       ·rintro ⟨lt0, ap0, bz, _⟩;refine qx_T [.ow ap0 3 1 (R.length + 1) (aX R ++ [.int .i64 20000]), .ow (.slice va X.length vc) 29 1 X.length (X.map fun x : Value × List Int => x.1), .pt bz (aX (List.replicate m 0)) 3] qA Z O fun K1 hK1 => ?_
        refine eX 29 [aB9 bz m m] Z qB Z (fun bq => ?_);(refine aN ?_);exact hK1 _ _ (hS2_3_7_8 ⟨lt0, ap0, bz, bq, ()⟩ _ _ ⟨Z, Z, Z, Z, Z, Z, Z, Z, Z, Z, trivial⟩ O)
       refine pT (σ := Nat × Nat × Nat × Unit) (mL) (fun ⟨lt0, bz, bq, ()⟩ => [(37, .int .i64 n), (38, aC0 b38), (39, .slice ha k hcp), (40, .slice va X.length vc), (41, .int .i64 k), (449, .int .i64 n), (453, .int .i64 n), (454, .int .i64 k), (473, aB9 lt0 1 1), (479, aB9 bq 1 1)]) (fun ⟨lt0, bz, bq, ()⟩ => [.ow (.slice ra R.length rc) 3 1 R.length (aX R), .pt lt0 [.int .i64 20000] 3, .ow (.slice va X.length vc) 29 1 X.length (X.map fun x : Value × List Int => x.1), .pt bz (aX (List.replicate m 0)) 3, .pt bq [aB9 bz m m] 29, .pt b38 [.int .i64 0, .int .i64 1, .slice ta T.length tc, .slice ra R.length rc] 46, .ow (.slice ta T.length tc) 78 2 T.length (spC T), un (dM 3 X), .ow (.slice ha k hcp) 28 3 k (hdC G)]) ?_ (fun hS2_7_8 => ?_)
       ·rintro ⟨lt0, bz, bq, _⟩;refine qx_T [.ow (.slice ra R.length rc) 3 1 R.length (aX R), .pt lt0 [.int .i64 20000] 3, .ow (.slice va X.length vc) 29 1 X.length (X.map fun x : Value × List Int => x.1), .pt bz (aX (List.replicate m 0)) 3, .pt bq [aB9 bz m m] 29] qA Z O fun K1 hK1 => ?_
        (refine aA2 xq ?_; refine bB U Z Z Z ?_)
        refine dB (q := 1) (news := [.int .i64 20000]) slI Z Z Z (fun v' => by repeat constructor) (fun w' hs => ⟨_, _, Blk.rdN (hs.blk (b := lt0) O) Z⟩) (by simp [dJ]) J J (fun ap0 => ?_);(refine aN ?_);exact hK1 _ _ (hS2_3_7_8 ⟨lt0, ap0, bz, bq, ()⟩ _ _ ⟨Z, Z, Z, Z, Z, Z, Z, Z, Z, Z, trivial⟩ O)
       refine pT (σ := Nat × Value × Unit) (tLwP_ea0a500) (fun ⟨lt0, ap0, ()⟩ => [(37, .int .i64 n), (38, aC0 b38), (39, .slice ha k hcp), (40, .slice va X.length vc), (41, .int .i64 k), (449, .int .i64 n), (453, .int .i64 n), (454, .int .i64 k), (474, ap0)]) (fun ⟨lt0, ap0, ()⟩ => [.ow ap0 3 1 (R.length + 1) (aX R ++ [.int .i64 20000]), .ow (.slice va X.length vc) 29 1 X.length (X.map fun x : Value × List Int => x.1), .pt b38 [.int .i64 0, .int .i64 1, .slice ta T.length tc, .slice ra R.length rc] 46, .ow (.slice ta T.length tc) 78 2 T.length (spC T), un (dM 3 X), .ow (.slice ha k hcp) 28 3 k (hdC G)]) ?_ (fun hS2_3 => ?_)
       ·rintro ⟨lt0, ap0, _⟩;refine qx_T [.ow ap0 3 1 (R.length + 1) (aX R ++ [.int .i64 20000]), .ow (.slice va X.length vc) 29 1 X.length (X.map fun x : Value × List Int => x.1)] qA Z O fun K1 hK1 => ?_
        (refine aA2 xq (aA2 xq ?_))
        rw [hmi];refine iJ (m := m) slI Z Z Z J (fun bz => ?_);(refine aN ?_);exact hK1 _ _ (hS2_3_7 ⟨lt0, ap0, bz, ()⟩ _ _ ⟨Z, Z, Z, Z, Z, Z, Z, Z, Z, Z, trivial⟩ O)
       refine pT (σ := Nat × Nat × Unit) (mU) (fun ⟨lt0, bz, ()⟩ => [(37, .int .i64 n), (38, aC0 b38), (39, .slice ha k hcp), (40, .slice va X.length vc), (41, .int .i64 k), (449, .int .i64 n), (453, .int .i64 n), (454, .int .i64 k), (473, aB9 lt0 1 1), (478, aB9 bz m m)]) (fun ⟨lt0, bz, ()⟩ => [.ow (.slice ra R.length rc) 3 1 R.length (aX R), .pt lt0 [.int .i64 20000] 3, .ow (.slice va X.length vc) 29 1 X.length (X.map fun x : Value × List Int => x.1), .pt bz (aX (List.replicate m 0)) 3, .pt b38 [.int .i64 0, .int .i64 1, .slice ta T.length tc, .slice ra R.length rc] 46, .ow (.slice ta T.length tc) 78 2 T.length (spC T), un (dM 3 X), .ow (.slice ha k hcp) 28 3 k (hdC G)]) ?_ (fun hS2_7 => ?_)
       ·rintro ⟨lt0, bz, _⟩;refine qx_alt ?_ ?_
        ·refine qx_T [.ow (.slice ra R.length rc) 3 1 R.length (aX R), .pt lt0 [.int .i64 20000] 3, .ow (.slice va X.length vc) 29 1 X.length (X.map fun x : Value × List Int => x.1), .pt bz (aX (List.replicate m 0)) 3] qA Z O fun K1 hK1 => ?_;(refine aA2 xq ?_; refine bB U Z Z Z ?_)
         refine dB (q := 1) (news := [.int .i64 20000]) slI Z Z Z (fun v' => by repeat constructor) (fun w' hs => ⟨_, _, Blk.rdN (hs.blk (b := lt0) O) Z⟩) (by simp [dJ]) J J (fun ap0 => ?_);(refine aN ?_);exact hK1 _ _ (hS2_3_7 ⟨lt0, ap0, bz, ()⟩ _ _ ⟨Z, Z, Z, Z, Z, Z, Z, Z, Z, Z, trivial⟩ O)
        ·refine qx_T [.ow (.slice ra R.length rc) 3 1 R.length (aX R), .pt lt0 [.int .i64 20000] 3, .ow (.slice va X.length vc) 29 1 X.length (X.map fun x : Value × List Int => x.1), .pt bz (aX (List.replicate m 0)) 3] qA Z O fun K1 hK1 => ?_;refine eX 29 [aB9 bz m m] Z qB Z (fun bq => ?_)
         (refine aN ?_)
         exact hK1 _ _ (hS2_7_8 ⟨lt0, bz, bq, ()⟩ _ _ ⟨Z, Z, Z, Z, Z, Z, Z, Z, Z, Z, trivial⟩ O)
       refine pT (σ := Nat × Nat × Unit) (tLwP_6fcf333) (fun ⟨bz, bq, ()⟩ => [(37, .int .i64 n), (38, aC0 b38), (39, .slice ha k hcp), (40, .slice va X.length vc), (41, .int .i64 k), (449, .int .i64 n), (453, .int .i64 n), (454, .int .i64 k), (479, aB9 bq 1 1)]) (fun ⟨bz, bq, ()⟩ => [.ow (.slice ra R.length rc) 3 1 R.length (aX R), .ow (.slice va X.length vc) 29 1 X.length (X.map fun x : Value × List Int => x.1), .pt bz (aX (List.replicate m 0)) 3, .pt bq [aB9 bz m m] 29, .pt b38 [.int .i64 0, .int .i64 1, .slice ta T.length tc, .slice ra R.length rc] 46, .ow (.slice ta T.length tc) 78 2 T.length (spC T), un (dM 3 X), .ow (.slice ha k hcp) 28 3 k (hdC G)]) ?_ (fun hS7_8 => ?_)
       ·rintro ⟨bz, bq, _⟩;refine qx_T [.ow (.slice ra R.length rc) 3 1 R.length (aX R), .ow (.slice va X.length vc) 29 1 X.length (X.map fun x : Value × List Int => x.1), .pt bz (aX (List.replicate m 0)) 3, .pt bq [aB9 bz m m] 29] qA Z O fun K1 hK1 => ?_
        refine eX 3 [.int .i64 20000] Z qB Z (fun lt0 => ?_);(refine aN ?_);exact hK1 _ _ (hS2_7_8 ⟨lt0, bz, bq, ()⟩ _ _ ⟨Z, Z, Z, Z, Z, Z, Z, Z, Z, Z, trivial⟩ O)
       refine pT (σ := Nat × Unit) (tLwP_34c9869) (fun ⟨lt0, ()⟩ => [(37, .int .i64 n), (38, aC0 b38), (39, .slice ha k hcp), (40, .slice va X.length vc), (41, .int .i64 k), (449, .int .i64 n), (453, .int .i64 n), (454, .int .i64 k), (473, aB9 lt0 1 1)]) (fun ⟨lt0, ()⟩ => [.ow (.slice ra R.length rc) 3 1 R.length (aX R), .pt lt0 [.int .i64 20000] 3, .ow (.slice va X.length vc) 29 1 X.length (X.map fun x : Value × List Int => x.1), .pt b38 [.int .i64 0, .int .i64 1, .slice ta T.length tc, .slice ra R.length rc] 46, .ow (.slice ta T.length tc) 78 2 T.length (spC T), un (dM 3 X), .ow (.slice ha k hcp) 28 3 k (hdC G)]) ?_ (fun hS2 => ?_)
       ·rintro ⟨lt0, _⟩;refine qx_alt ?_ ?_
        ·refine qx_T [.ow (.slice ra R.length rc) 3 1 R.length (aX R), .pt lt0 [.int .i64 20000] 3, .ow (.slice va X.length vc) 29 1 X.length (X.map fun x : Value × List Int => x.1)] qA Z O fun K1 hK1 => ?_;(refine aA2 xq ?_; refine bB U Z Z Z ?_)
         refine dB (q := 1) (news := [.int .i64 20000]) slI Z Z Z (fun v' => by repeat constructor) (fun w' hs => ⟨_, _, Blk.rdN (hs.blk (b := lt0) O) Z⟩) (by simp [dJ]) J J (fun ap0 => ?_);(refine aN ?_);exact hK1 _ _ (hS2_3 ⟨lt0, ap0, ()⟩ _ _ ⟨Z, Z, Z, Z, Z, Z, Z, Z, Z, trivial⟩ O)
        ·refine qx_T [.ow (.slice ra R.length rc) 3 1 R.length (aX R), .pt lt0 [.int .i64 20000] 3, .ow (.slice va X.length vc) 29 1 X.length (X.map fun x : Value × List Int => x.1)] qA Z O fun K1 hK1 => ?_;(refine aA2 xq (aA2 xq ?_))
         rw [hmi];refine iJ (m := m) slI Z Z Z J (fun bz => ?_);(refine aN ?_);exact hK1 _ _ (hS2_7 ⟨lt0, bz, ()⟩ _ _ ⟨Z, Z, Z, Z, Z, Z, Z, Z, Z, Z, trivial⟩ O)
       refine pT (σ := Nat × Unit) (tLwP_4066e6c) (fun ⟨bz, ()⟩ => [(37, .int .i64 n), (38, aC0 b38), (39, .slice ha k hcp), (40, .slice va X.length vc), (41, .int .i64 k), (449, .int .i64 n), (453, .int .i64 n), (454, .int .i64 k), (478, aB9 bz m m)]) (fun ⟨bz, ()⟩ => [.ow (.slice ra R.length rc) 3 1 R.length (aX R), .ow (.slice va X.length vc) 29 1 X.length (X.map fun x : Value × List Int => x.1), .pt bz (aX (List.replicate m 0)) 3, .pt b38 [.int .i64 0, .int .i64 1, .slice ta T.length tc, .slice ra R.length rc] 46, .ow (.slice ta T.length tc) 78 2 T.length (spC T), un (dM 3 X), .ow (.slice ha k hcp) 28 3 k (hdC G)]) ?_ (fun hS7 => ?_)
       ·rintro ⟨bz, _⟩;refine qx_alt ?_ ?_
        ·refine qx_T [.ow (.slice ra R.length rc) 3 1 R.length (aX R), .ow (.slice va X.length vc) 29 1 X.length (X.map fun x : Value × List Int => x.1), .pt bz (aX (List.replicate m 0)) 3] qA Z O fun K1 hK1 => ?_;refine eX 3 [.int .i64 20000] Z qB Z (fun lt0 => ?_)
         (refine aN ?_)
         exact hK1 _ _ (hS2_7 ⟨lt0, bz, ()⟩ _ _ ⟨Z, Z, Z, Z, Z, Z, Z, Z, Z, Z, trivial⟩ O)
        ·refine qx_T [.ow (.slice ra R.length rc) 3 1 R.length (aX R), .ow (.slice va X.length vc) 29 1 X.length (X.map fun x : Value × List Int => x.1), .pt bz (aX (List.replicate m 0)) 3] qA Z O fun K1 hK1 => ?_;refine eX 29 [aB9 bz m m] Z qB Z (fun bq => ?_)
         (refine aN ?_)
         exact hK1 _ _ (hS7_8 ⟨bz, bq, ()⟩ _ _ ⟨Z, Z, Z, Z, Z, Z, Z, Z, Z, trivial⟩ O)
       refine qx_alt ?_ ?_
       ·refine qx_T [.ow (.slice ra R.length rc) 3 1 R.length (aX R), .ow (.slice va X.length vc) 29 1 X.length (X.map fun x : Value × List Int => x.1)] qA Z O fun K1 hK1 => ?_;refine eX 3 [.int .i64 20000] Z qB Z (fun lt0 => ?_)
        (refine aN ?_)
        exact hK1 _ _ (hS2 ⟨lt0, ()⟩ _ _ ⟨Z, Z, Z, Z, Z, Z, Z, Z, Z, trivial⟩ O)
       ·refine qx_T [.ow (.slice ra R.length rc) 3 1 R.length (aX R), .ow (.slice va X.length vc) 29 1 X.length (X.map fun x : Value × List Int => x.1)] qA Z O fun K1 hK1 => ?_;(refine aA2 xq (aA2 xq ?_))
        rw [hmi];refine iJ (m := m) slI Z Z Z J (fun bz => ?_);(refine aN ?_);exact hK1 _ _ (hS7 ⟨bz, ()⟩ _ _ ⟨Z, Z, Z, Z, Z, Z, Z, Z, Z, trivial⟩ O)
      ·(refine aC (aB (aA1 zq (aB4 xq J (aD (aG Z (aK ?_)))))))
       exact hK3 ⟨(((ra, rc), va, vc), R, X), by simp only; omega, by simp only; omega, hXl⟩ _ _ ⟨Z, Z, Z, Z, Z, Z, Z, Z, trivial⟩ O
     clear hR hX hXl;rintro ⟨⟨⟨⟨ra, rc⟩, ⟨va, vc⟩⟩, R, X⟩, hR, hX, hXl⟩;dsimp only at hR hX hXl ⊢;(refine aB (aA1 zq (aA1 zq (aA4 uq J J (aA1 zq (aA4 uq J J (aA4 uq J J ?_)))))));refine fQ #[.int .i64 0, .int .i64 (300 * (k : Int)), .int .i64 (300 * (k : Int) + 300)] Z qB Z ?_;refine cT 28 [.int .i64 0, .int .i64 (300 * (k : Int)), .int .i64 (300 * (k : Int) + 300)] Z qB Z (fun bn => ?_);refine cW (q := 1) (news := [.int .i64 0, .int .i64 (300 * (k : Int)), .int .i64 (300 * (k : Int) + 300)]) slH Z Z Z (fun v' => by repeat constructor) (fun w' hs => ⟨_, _, Blk.rdN (hs.blk (b := bn) O) Z⟩) (by simp [dJ]) J J (fun u' => ?_);refine cU (fun w hs => hs.slice2 (v := u') O) ?_;rintro ⟨a1, g1, rfl⟩;(refine aA1 zq (aD (bK (aB (aA4 uq J J (aA1 zq (aD ?_)))))));have el : (G ++ [(⟨0, 300 * (k : Int), 300 * (k : Int) + 300⟩ : Hd)]).length = k + 1 := by simp [hk]
     exact hK2 (((ta, tc), (ra, rc), (a1, g1), (va, vc)), T, R, G ++ [⟨0, 300 * (k : Int), 300 * (k : Int) + 300⟩], X) _ _ ⟨by simp only [el]; omega, by simp only [el]; omega, by simp only [el]; omega, by simp only [el]; omega, hXl⟩ (by simp only [el]; omega) ⟨Z, Z, by simp only [el]; rfl, Z, Z, Z, fM Z (by simp only [el]; omega), trivial⟩ (by simp only [el, oX]; repeat constructor)
    ·clear hK2 hc;(refine bH _ Z (aC (aB (aA1 zq ?_))); refine aJ U Z Z Z ?_);refine cT 3 (aX [0]) Z qB Z (fun bf => ?_);refine fQ #[.int .i64 0, .int .i64 1, .slice ta T.length tc, aB9 bf 1 1] Z qB Z ?_;refine bF dY Z (fun b42 => ?_);(refine aB6 Wa O Z ?_; refine aD (aC (aB ?_)); refine aP U Z Z Z ?_);simp only [List.drop_zero, List.take_succ_cons, List.take_zero];refine aI (val := .bool true) U Z Z Z Z (fun w hs => ?_) ?_; exact fH w ⟨0, 1, T, R⟩ (.slice ta T.length tc) (.slice ra R.length rc) ⟨bY (t := 78) (hs.mem (c := .ow (.slice ta T.length tc) 78 2 T.length (spC T)) O) rfl, bU (l := R) (hs.mem (c := .ow (.slice ra R.length rc) 3 1 R.length (aX R)) O) Z⟩;(refine aA1 zq (aA1 zq (aE Z ?_)); refine aP U Z Z Z ?_; refine aE Z ?_);simp only [List.drop_zero, List.take_succ_cons, List.take_zero];refine aI (val := .bool true) U Z Z Z Z (fun w hs => ?_) ?_; exact gS w ⟨0, 1, T, R⟩ (.slice ta T.length tc) (.slice ra R.length rc) (.slice none 0 0) [] ⟨bY (t := 78) (hs.mem (c := .ow (.slice ta T.length tc) 78 2 T.length (spC T)) O) rfl, bU (l := R) (hs.mem (c := .ow (.slice ra R.length rc) 3 1 R.length (aX R)) O) Z⟩ (rdN_nil7 w) (by simp);(refine aE Z ?_; (iterate 3 refine aA1 zq ?_); refine aE Z ?_; refine aP U Z Z Z ?_; refine aE Z ?_);simp only [List.drop_zero, List.take_succ_cons, List.take_zero];refine aI (val := .bool true) U Z Z Z Z (fun w hs => ?_) ?_; exact fH w ⟨0, 1, T, [0]⟩ (.slice ta T.length tc) (aB9 bf 1 1) ⟨bY (t := 78) (hs.mem (c := .ow (.slice ta T.length tc) 78 2 T.length (spC T)) O) rfl, iW (l := [0]) (hs.blk (b := bf) O) Z⟩;(refine aE Z ?_; (iterate 3 refine aA1 zq ?_); refine aE Z (aA1 zq (aE Z (aA1 zq (aE Z (aA1 zq (aE Z (aA4 uq J J (aE Z ?_)))))))));refine aI (val := .bool true) U Z Z Z Z (fun w hs => ?_) ?_; exact fZ w G (.slice ha G.length hcp) _ _ [] [] _ _ (dA (t := 28) (hs.mem (c := .ow (.slice ha G.length hcp) 28 3 G.length (hdC G)) O) Z) (jS w 0 w.heap.size) (jS w 0 w.heap.size) (by simp only [maxLen]; omega) (by simp) (by simp);(refine aE Z ?_; (iterate 3 refine aA1 zq ?_); refine aE Z (aA1 zq (aE Z ?_)));refine aI (val := .bool true) U Z Z Z Z (fun w hs => ?_) ?_; exact fZ w G (.slice ha G.length hcp) _ _ [] [] _ _ (dA (t := 28) (hs.mem (c := .ow (.slice ha G.length hcp) 28 3 G.length (hdC G)) O) Z) (jS w 0 w.heap.size) (jS w 0 w.heap.size) (by simp only [maxLen]; omega) (by simp) (by simp);(refine aE Z ?_; (iterate 3 refine aA1 zq ?_); refine aE Z (aA1 zq (aE Z (aA1 zq (aE Z (aA1 zq (aE Z ?_)))))));obtain ⟨m, hmi⟩ : ∃ m : Nat, min 12 (n : Int) = (m : Int) := ⟨(min 12 (n : Int)).toNat, by omega⟩;have hm33 : m ≤ 33 := by omega
     rw [hmi];refine kR (m := m) slI Z Z Z J (fun bz => ?_);(refine aE Z (aA1 zq (aE Z ?_)));obtain ⟨A, hA⟩ : ∃ A : List (List Int), A = X.map (fun p => p.2) := ⟨_, rfl⟩;have hAl : A.length = X.length := by rw [hA, List.length_map]
     have hAr : ∀ r ∈ A, r.length ≤ maxLen := fun r hr => by
      rw [hA] at hr;obtain ⟨p, hp, rfl⟩ := List.mem_map.1 hr;have := hXl p hp;simp only [maxLen];omega
     refine aI (val := .bool true) U Z Z Z Z (fun w hs => ?_) ?_; exact iV w A (List.replicate m 0) (.slice va X.length vc) (aB9 bz m m) _ _ _ (by rw [hA]; exact rowsO_rd (hs.mem (c := un (dM 3 X)) O) (hs.mem (c := .ow (.slice va X.length vc) 29 1 X.length (X.map fun x : Value × List Int => x.1)) O)) (iW (hs.blk (b := bz) O) (by simp)) (by simp only [maxLen]; omega) hAr (by rw [List.length_replicate]; simp only [maxLen]; omega) J J;(refine aE Z ?_; (iterate 3 refine aA1 zq ?_); refine aE Z (aA1 zq (aE Z (cO Z Z Z J J (aE Z ?_)))));obtain ⟨m1, hm1⟩ : ∃ m1 : Nat, (m1 : Int) = (n : Int) % 31 := ⟨((n : Int) % 31).toNat, by omega⟩;have hm1b : m1 ≤ 33 := by omega
     rw [← hm1];refine kR (m := m1) slI Z Z Z J (fun b1 => ?_);(refine aE Z ?_);refine cT 29 [aB9 b1 m1 m1] Z qB Z (fun b2 => ?_);(refine aE Z ?_);refine cT 3 (aX [0]) Z qB Z (fun b3 => ?_);(refine aE Z (aA1 zq (aE Z ?_)));refine aI (val := .bool true) U Z Z Z Z (fun w hs => ?_) ?_; exact iV w [List.replicate m1 0] [0] (aB9 b2 1 1) (aB9 b3 1 1) _ _ _ (blk_I1x (l1 := List.replicate m1 0) (hs.blk (b := b1) O) (by rw [List.length_replicate]; exact hs.blk (b := b2) O)) (iW (l := [0]) (hs.blk (b := b3) O) Z) (show 1 ≤ maxLen by decide) (fun r hr => by rw [List.mem_singleton.1 hr, List.length_replicate]; simp only [maxLen]; omega) (show 1 ≤ maxLen by decide) J J;(refine aE Z (aA1 zq (aA1 zq (aD (aG Z (aK (bK (aB (aA4 uq J J (aA1 zq (aD ?_)))))))))));exact hK (n + 1) _ _ J J ⟨Z, trivial⟩ O
   ·(refine bH _ Z (aC (aB ?_)))
    refine ql_makeC (m := 301) slNd Z Z Z J J J (fun b43 => ?_);rw [made_nod];(refine aA1 zq (aD (aC (aC (aB ?_)))); (iterate 3 refine aA1 zq ?_); refine aD (aM ?_));refine bM (σ := Nat × List Nd) (fun z => z.1 ≤ 301 ∧ z.2.length = 301) (fun z => 301 - z.1) (fun z => [(43, aB9 b43 301 301), (544, .int .i64 301), (545, .int .i64 z.1)]) (fun z => [.pt b43 (dK z.2) 91]) (0, List.replicate 301 ⟨0, 0, 0⟩) (by simp) ⟨Z, Z, Z, trivial⟩ O ?_;rintro ⟨k, L⟩ ⟨hk, hL⟩ K hK;dsimp only at hk hL ⊢;(refine aC (aB (aA1 zq (aD (aC ?_)))));refine dN Z (fun hc => ?_) (fun hc => ?_)
    ·have hk2 : k < 301 := by first | omega | (simp at hc; omega)
     clear hc;(refine aK (aC (aM (aC (aB (aA1 zq (aA1 zq (aD (aB (aA1 zq (aA1 zq ?_)))))))))));refine fQ #[.int .i64 0, .int .i64 (-1), .int .i64 (-1)] Z qB Z ?_;refine aA7 Wa J J ?_;refine ql_stA (dK (L.set k ⟨0, -1, -1⟩)) U Z Z Z Z Z O (by have := nod_set L k ⟨0, -1, -1⟩ J; simpa using this) (by rw [fK]; simp; omega) ?_;(refine aD (bK (aB (aA4 uq J J (aA1 zq (aD ?_))))));exact hK (k + 1, L.set k ⟨0, -1, -1⟩) _ _ ⟨by simp only; omega, by simp only [List.length_set]; exact hL⟩ (by simp only; omega) ⟨Z, Z, Z, trivial⟩ O
    ·clear hK hc;(refine bH _ Z (aC (aB ?_)));refine bC (β := Nat × Nat) (ψ := fun y x => x = .agg (scC fB (aB9 y.1 2 2) (aB9 y.2 4 4)).toArray) (L' := fun y => [.pt y.1 (spC fB.tests) 78, .pt y.2 (aX fB.rifles) 3]) U [] _ M0 Z Z Z Z (Sp.refl _) qC (fun w' hs => kI w') ?_;rintro ⟨c1, c2⟩ _ rfl;dsimp only [List.cons_append, List.nil_append];(refine aA1 zq ?_)
     have hd : kJ fB L = (0, 2) := by
      unfold kJ;rw [if_neg (show ¬ eY fB ≠ 0 by decide), if_pos J]
     refine aI (val := .tuple #[.int .i64 0, .int .i64 2]) U Z Z Z Z (fun w hs => ?_) ?_; exact by have := oW w 0 w.heap.size fB (aB9 c1 2 2) (aB9 c2 4 4) (aB9 b43 301 301) L ⟨Blk.rdS' (l := fB.tests) (hs.blk (b := c1) O) rfl, iW (l := fB.rifles) (hs.blk (b := c2) O) Z⟩ (by decide) (by decide) (Blk.rdNd (hs.blk (b := b43) O) hL.symm) J; rw [hd] at this; exact this
     (refine aA1 zq (aB5 xq (aB5 xq (aA1 zq (aA1 zq (aD (aC (aB (aA1 zq (aB2 xq J (aA1 zq (aE Z ?_))))))))))))
     refine cT 3 (aX [0]) Z qB Z (fun bf => ?_);(refine aE Z ?_);refine fQ #[.int .i64 0, .int .i64 1, .slice none 0 0, aB9 bf 1 1] Z qB Z ?_;(refine aE Z (aA1 zq (aE Z ?_)));refine aI (val := .bool true) U Z Z Z Z (fun w hs => ?_) ?_; exact gS w ⟨0, 1, [], [0]⟩ (.slice none 0 0) (aB9 bf 1 1) (aB9 b43 301 301) L ⟨rdS_nil w 0 w.heap.size, iW (l := [0]) (hs.blk (b := bf) O) Z⟩ (Blk.rdNd (hs.blk (b := b43) O) hL.symm) (by simp only [maxLen]; omega);(refine aA1 zq (aA1 zq (aE Z ?_)));refine bC (β := Nat) (ψ := fun b x => x = aB9 b 5 5) (L' := fun b => [.pt b (hdC fiveH) 28]) U [] _ M0 Z Z Z Z (Sp.refl _) qC (fun w' hs => rfive_ca w') ?_;rintro bh _ rfl;dsimp only [List.cons_append, List.nil_append];(refine aE Z ?_);refine aI (val := .bool true) U Z Z Z Z (fun w hs => ?_) ?_; exact fZ w fiveH (aB9 bh 5 5) _ _ [] [] _ _ (Blk.rdH' (l := fiveH) (hs.blk (b := bh) O) Z) (jS w 0 w.heap.size) (jS w 0 w.heap.size) (show 5 ≤ maxLen by decide) (by simp) (by simp);(refine aA1 zq (aA1 zq (aE Z ?_)));refine aI (val := .bool true) U Z Z Z Z (fun w hs => ?_) ?_; exact cY w;(refine aA1 zq (aA1 zq (aD (aS ?_))));refine aA5 wq O fun w hs => ?_;exact ⟨Z, hs.chg0⟩
end Go.Proofs.YtopdmadgkjdgcaaGreat
