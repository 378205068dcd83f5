/- My texts, joined: lemmas for RifleSmall. -/
import Derived.Test.YtopdmadgkjdgcaaGreatJ5
set_option linter.unusedVariables false
set_option maxHeartbeats 16000000
namespace Go.Proofs.YtopdmadgkjdgcaaGreat
open Go Go.Eng
set_option maxRecDepth 4000
open Go Go.Eng
def lP : OT := bE [10] (.nil)
def iE : OT := bE [8, 9] (lP)
def jG : OT := bE [7] (iE)
def jK : OT := bE [6] (iE)
def mJ : OT := .alt (bE [6] (jG)) (bE [7] (jK))
def hZ : OT := bE [4, 5] (iE)
def jJ : OT := .alt (bE [4, 5] (jG)) (bE [7] (hZ))
def iU : OT := .alt (bE [4, 5] (jK)) (bE [6] (hZ))
def lZ : OT := .alt (bE [4, 5] (mJ)) (.alt (bE [6] (jJ)) (bE [7] (iU)))
def iD : OT := bE [2, 3] (hZ)
def jH : OT := .alt (bE [2, 3] (jJ)) (bE [7] (iD))
def jM : OT := .alt (bE [2, 3] (iU)) (bE [6] (iD))
def lM : OT := .alt (bE [2, 3] (lZ)) (.alt (bE [6] (jH)) (bE [7] (jM)))
def jI : OT := bE [0, 1] (iD)
def lX : OT := .alt (bE [0, 1] (jH)) (bE [7] (jI))
def lL : OT := .alt (bE [0, 1] (jM)) (bE [6] (jI))
def tLwH_e59e8c5 : OT := .alt (bE [0, 1] (lM)) (.alt (bE [6] (lX)) (bE [7] (lL)))
set_option maxRecDepth 20000 in
theorem gS (w : World) (s : Sc) (tv rv vp : Value) (plan : List Nd) (h : ScR w 0 w.heap.size tv rv s) (hp : RdN w 0 w.heap.size vp plan) (hpl : plan.length ≤ maxLen) : Ca Tryz.prog 8 [.agg (scC s tv rv).toArray, vp] w fun r w' => r = .bool true ∧ Chg [] w w' := by
 simp only [maxLen] at hpl;obtain ⟨w0size, hw0⟩ : ∃ n, n = w.heap.size := ⟨_, rfl⟩;obtain ⟨ta, tc, rfl, _⟩ := RdS.outI h.t;obtain ⟨ra, rc, rfl, _⟩ := RdI.outI h.r;obtain ⟨pa, pc, rfl, _⟩ := RdN.outI hp;refine cN (Sat.nil w M0) Tryz.func8 Z (by simp [Tryz.ntmps8]) ?_;(refine aC (aB ?_));refine bR Z Z (fun b2 => ?_);rw [bL];(refine aA1 zq (aD (aC (aC (aB ?_)))); refine aP U Z Z Z ?_);cases hg : grtB s 3 with
 | true =>
  refine aI (val := .bool true) U Z Z Z Z (fun w hs => ?_) ?_; exact by have := pV w 0 w.heap.size s (.slice ta s.tests.length tc) (.slice ra s.rifles.length rc) 3 (ScR.self h hs.chg0 hs.chg.size); rw [hg] at this; exact this
  (refine aA1 zq ?_; (iterate 4 refine aA8 yq ?_); (iterate 3 refine oU Z Z ?_); refine aA8 yq (aA1 zq (aA1 zq ?_)); (iterate 3 refine aA8 yq ?_); refine aA1 zq (aD (aH Z (aC (aB ?_)))))
  refine aI (val := .bool true) U Z Z Z Z (fun w hs => ?_) ?_; exact cY w;(refine aA1 zq (aD (aS ?_)));refine aA5 wq O fun w hs => ?_;exact ⟨Z, hs.chg0⟩
 | false =>
  obtain ⟨_, hr12, ht14⟩ := grtB_false hg;refine aI (val := .bool false) U Z Z Z Z (fun w hs => ?_) ?_; exact by have := pV w 0 w.heap.size s (.slice ta s.tests.length tc) (.slice ra s.rifles.length rc) 3 (ScR.self h hs.chg0 hs.chg.size); rw [hg] at this; exact this
  by_cases c1 : 8 < plan.length ∧ plan.length ≤ 300
  ·(refine aA1 zq (aE Z (aA1 zq (aE Z (aA1 zq (aE Z (cR U Z Z Z J (aE Z (aA1 zq (aE Z (aA1 zq (aE Z ?_))))))))))); refine aA1 zq (aE Z (jU U Z Z Z J (aE Z ?_))); (iterate 3 refine aA1 zq ?_); (iterate 3 refine aA8 yq ?_); refine aA1 zq (aD (aH Z (aC (aB ?_)))))
   refine aI (val := .bool true) U Z Z Z Z (fun w hs => ?_) ?_; exact cY w;(refine aA1 zq (aD (aS ?_)));refine aA5 wq O fun w hs => ?_;exact ⟨Z, hs.chg0⟩
  ·by_cases c2 : 310 < plan.length
   ·(refine aA1 zq (aE Z (aA1 zq (aE Z (aA1 zq (aE Z (cR U Z Z Z J (aE Z (aA1 zq (aE Z (aA1 zq (aE Z ?_))))))))))); refine aA1 zq (aE Z (gO U Z Z Z J (aE Z ?_))); (iterate 3 refine aA1 zq ?_); refine aE Z (aA1 zq (aE Z (aA1 zq (aE Z (cR U Z Z Z J (aA1 zq (aD (aH Z (aC (aB ?_)))))))))))
    refine aI (val := .bool true) U Z Z Z Z (fun w hs => ?_) ?_; exact cY w;(refine aA1 zq (aD (aS ?_)));refine aA5 wq O fun w hs => ?_;exact ⟨Z, hs.chg0⟩
   ·have hp310 : plan.length ≤ 310 := by omega
    have m1 : s.tests.length ≤ maxLen := by simp only [maxLen]; omega
    have m2 : s.rifles.length ≤ maxLen := by simp only [maxLen]; omega
    by_cases c3 : 8 < plan.length
    ·(refine aA1 zq (aE Z (aA1 zq (aE Z (aA1 zq (aE Z (cR U Z Z Z J (aE Z (aA1 zq (aE Z (aA1 zq (aE Z ?_))))))))))); refine aA1 zq (aE Z (gO U Z Z Z J (aE Z ?_))); (iterate 3 refine aA1 zq ?_); refine aE Z (aA1 zq (aE Z (aA1 zq (aE Z (aB1 xq J (aA1 zq (aD (aG Z (aK (aC ?_)))))))))))
     refine dG (H' := [.pt b2 (scC s (.slice ta s.tests.length tc) (.slice ra s.rifles.length rc)) 46]) (fun w' hs => hs.sp O) ?_;refine fT (σ := Option Addr × Nat × Option Addr × Nat × Option Addr × Nat × Option Addr × Nat × Nat × Nat) (fun ⟨p1, q1, r1, z1, p3, q3, p5, q5, b5, b7⟩ => [(2, aC0 b2), (1, (.slice pa plan.length pc)), (6, (.slice p3 plan.length q3)), (5, aC0 b5), (7, aC0 b7)]) (fun ⟨p1, q1, r1, z1, p3, q3, p5, q5, b5, b7⟩ => [.ow (.slice p1 s.tests.length q1) 78 2 s.tests.length (spC s.tests), .ow (.slice r1 s.rifles.length z1) 3 1 s.rifles.length (aX s.rifles), .ow (.slice p3 plan.length q3) 91 3 plan.length (dK plan), .ow (.slice p5 s.tests.length q5) 172 2 s.tests.length (spC s.tests), .pt b5 (scC s (.slice p1 s.tests.length q1) (.slice r1 s.rifles.length z1)) 46, .pt b7 (scC s (.slice p5 s.tests.length q5) (.slice ra s.rifles.length rc)) 51, .pt b2 (scC s (.slice ta s.tests.length tc) (.slice ra s.rifles.length rc)) 46]) ?_ ?_;rotate_left
     ·intro K2 hK2;refine eQ (tLwH_e59e8c5) _ [] (Sp.refl _) qB qB ?_;refine cH (σ := Option Addr × Nat × Option Addr × Nat × Option Addr × Nat × Option Addr × Nat × Nat × Nat × Unit) (.nil) (fun ⟨p1, q1, r1, z1, p3, q3, p5, q5, b5, b7, ()⟩ => [(2, aC0 b2), (1, (.slice pa plan.length pc)), (6, (.slice p3 plan.length q3)), (5, aC0 b5), (7, aC0 b7)]) (fun ⟨p1, q1, r1, z1, p3, q3, p5, q5, b5, b7, ()⟩ => [.ow (.slice p1 s.tests.length q1) 78 2 s.tests.length (spC s.tests), .ow (.slice r1 s.rifles.length z1) 3 1 s.rifles.length (aX s.rifles), .ow (.slice p3 plan.length q3) 91 3 plan.length (dK plan), .ow (.slice p5 s.tests.length q5) 172 2 s.tests.length (spC s.tests), .pt b5 (scC s (.slice p1 s.tests.length q1) (.slice r1 s.rifles.length z1)) 46, .pt b7 (scC s (.slice p5 s.tests.length q5) (.slice ra s.rifles.length rc)) 51]) ?_ (fun hS1_3_5_6_7_8_10 => ?_)
      ·rintro ⟨p1, q1, r1, z1, p3, q3, p5, q5, b5, b7, _⟩;exact dD (hK2 (p1, q1, r1, z1, p3, q3, p5, q5, b5, b7) _ _ ⟨Z, Z, Z, Z, Z, trivial⟩ O)
      refine cH (σ := Option Addr × Nat × Option Addr × Nat × Option Addr × Nat × Option Addr × Nat × Nat × Nat × Unit) (lP) (fun ⟨p1, q1, r1, z1, p3, q3, p5, q5, b5, b7, ()⟩ => [(2, aC0 b2), (1, (.slice pa plan.length pc)), (6, (.slice p3 plan.length q3)), (38, .agg (scC s (.slice p5 s.tests.length q5) (.slice ra s.rifles.length rc)).toArray), (5, aC0 b5), (7, aC0 b7)]) (fun ⟨p1, q1, r1, z1, p3, q3, p5, q5, b5, b7, ()⟩ => [.ow (.slice p1 s.tests.length q1) 78 2 s.tests.length (spC s.tests), .ow (.slice r1 s.rifles.length z1) 3 1 s.rifles.length (aX s.rifles), .ow (.slice p3 plan.length q3) 91 3 plan.length (dK plan), .ow (.slice p5 s.tests.length q5) 172 2 s.tests.length (spC s.tests), .pt b5 (scC s (.slice p1 s.tests.length q1) (.slice r1 s.rifles.length z1)) 46, .pt b7 [.int .i64 0, .int .i64 0, .slice none 0 0, .slice none 0 0] 51]) ?_ (fun hS1_3_5_6_7_8 => ?_)
      ·rintro ⟨p1, q1, r1, z1, p3, q3, p5, q5, b5, b7, _⟩;refine bA qA fun K1 hK1 => ?_
       (refine aB7 Wa O Z ?_; refine aN ?_)
       exact hK1 _ _ (hS1_3_5_6_7_8_10 ⟨p1, q1, r1, z1, p3, q3, p5, q5, b5, b7, ()⟩ _ _ ⟨Z, Z, Z, Z, Z, trivial⟩ O)
      refine cH (σ := Option Addr × Nat × Option Addr × Nat × Option Addr × Nat × Option Addr × Nat × Nat × Nat × Unit) (iE) (fun ⟨p1, q1, r1, z1, p3, q3, p5, q5, b5, b7, ()⟩ => [(2, aC0 b2), (1, (.slice pa plan.length pc)), (34, .agg (scC s (.slice p1 s.tests.length q1) (.slice r1 s.rifles.length z1)).toArray), (36, (.slice p3 plan.length q3)), (38, .agg (scC s (.slice p5 s.tests.length q5) (.slice ra s.rifles.length rc)).toArray), (5, aC0 b5), (7, aC0 b7)]) (fun ⟨p1, q1, r1, z1, p3, q3, p5, q5, b5, b7, ()⟩ => [.ow (.slice p1 s.tests.length q1) 78 2 s.tests.length (spC s.tests), .ow (.slice r1 s.rifles.length z1) 3 1 s.rifles.length (aX s.rifles), .ow (.slice p3 plan.length q3) 91 3 plan.length (dK plan), .ow (.slice p5 s.tests.length q5) 172 2 s.tests.length (spC s.tests), .pt b5 [.int .i64 0, .int .i64 0, .slice none 0 0, .slice none 0 0] 46, .pt b7 [.int .i64 0, .int .i64 0, .slice none 0 0, .slice none 0 0] 51]) ?_ (fun hS1_3_5_6_7 => ?_)
      ·rintro ⟨p1, q1, r1, z1, p3, q3, p5, q5, b5, b7, _⟩;refine bA qA fun K1 hK1 => ?_
       (refine aB7 Wa O Z ?_; refine aA2 xq (aN ?_))
       exact hK1 _ _ (hS1_3_5_6_7_8 ⟨p1, q1, r1, z1, p3, q3, p5, q5, b5, b7, ()⟩ _ _ ⟨Z, Z, Z, Z, Z, Z, trivial⟩ O)
      refine cH (σ := Option Addr × Nat × Option Addr × Nat × Option Addr × Nat × Option Addr × Nat × Nat × Unit) (jG) (fun ⟨p1, q1, r1, z1, p3, q3, p5, q5, b5, ()⟩ => [(2, aC0 b2), (1, (.slice pa plan.length pc)), (34, .agg (scC s (.slice p1 s.tests.length q1) (.slice r1 s.rifles.length z1)).toArray), (36, (.slice p3 plan.length q3)), (38, .agg (scC s (.slice p5 s.tests.length q5) (.slice ra s.rifles.length rc)).toArray), (5, aC0 b5)]) (fun ⟨p1, q1, r1, z1, p3, q3, p5, q5, b5, ()⟩ => [.ow (.slice p1 s.tests.length q1) 78 2 s.tests.length (spC s.tests), .ow (.slice r1 s.rifles.length z1) 3 1 s.rifles.length (aX s.rifles), .ow (.slice p3 plan.length q3) 91 3 plan.length (dK plan), .ow (.slice p5 s.tests.length q5) 172 2 s.tests.length (spC s.tests), .pt b5 [.int .i64 0, .int .i64 0, .slice none 0 0, .slice none 0 0] 46]) ?_ (fun hS1_3_5_6 => ?_)
      ·rintro ⟨p1, q1, r1, z1, p3, q3, p5, q5, b5, _⟩;refine bA qA fun K1 hK1 => ?_
       refine bG fE Z (fun b7 => ?_);(refine aN ?_);exact hK1 _ _ (hS1_3_5_6_7 ⟨p1, q1, r1, z1, p3, q3, p5, q5, b5, b7, ()⟩ _ _ ⟨Z, Z, Z, Z, Z, Z, Z, trivial⟩ O)
      refine cH (σ := Option Addr × Nat × Option Addr × Nat × Option Addr × Nat × Option Addr × Nat × Nat × Unit) (jK) (fun ⟨p1, q1, r1, z1, p3, q3, p5, q5, b7, ()⟩ => [(2, aC0 b2), (1, (.slice pa plan.length pc)), (34, .agg (scC s (.slice p1 s.tests.length q1) (.slice r1 s.rifles.length z1)).toArray), (36, (.slice p3 plan.length q3)), (38, .agg (scC s (.slice p5 s.tests.length q5) (.slice ra s.rifles.length rc)).toArray), (7, aC0 b7)]) (fun ⟨p1, q1, r1, z1, p3, q3, p5, q5, b7, ()⟩ => [.ow (.slice p1 s.tests.length q1) 78 2 s.tests.length (spC s.tests), .ow (.slice r1 s.rifles.length z1) 3 1 s.rifles.length (aX s.rifles), .ow (.slice p3 plan.length q3) 91 3 plan.length (dK plan), .ow (.slice p5 s.tests.length q5) 172 2 s.tests.length (spC s.tests), .pt b7 [.int .i64 0, .int .i64 0, .slice none 0 0, .slice none 0 0] 51]) ?_ (fun hS1_3_5_7 => ?_)
      ·rintro ⟨p1, q1, r1, z1, p3, q3, p5, q5, b7, _⟩;refine bA qA fun K1 hK1 => ?_
       refine bG dY Z (fun b5 => ?_);(refine aN ?_);exact hK1 _ _ (hS1_3_5_6_7 ⟨p1, q1, r1, z1, p3, q3, p5, q5, b5, b7, ()⟩ _ _ ⟨Z, Z, Z, Z, Z, Z, Z, trivial⟩ O)
      refine cH (σ := Option Addr × Nat × Option Addr × Nat × Option Addr × Nat × Nat × Nat × Unit) (hZ) (fun ⟨p1, q1, r1, z1, p3, q3, b5, b7, ()⟩ => [(2, aC0 b2), (1, (.slice pa plan.length pc)), (34, .agg (scC s (.slice p1 s.tests.length q1) (.slice r1 s.rifles.length z1)).toArray), (36, (.slice p3 plan.length q3)), (5, aC0 b5), (7, aC0 b7)]) (fun ⟨p1, q1, r1, z1, p3, q3, b5, b7, ()⟩ => [.ow (.slice p1 s.tests.length q1) 78 2 s.tests.length (spC s.tests), .ow (.slice r1 s.rifles.length z1) 3 1 s.rifles.length (aX s.rifles), .ow (.slice p3 plan.length q3) 91 3 plan.length (dK plan), .pt b5 [.int .i64 0, .int .i64 0, .slice none 0 0, .slice none 0 0] 46, .pt b7 [.int .i64 0, .int .i64 0, .slice none 0 0, .slice none 0 0] 51]) ?_ (fun hS1_3_6_7 => ?_)
      ·rintro ⟨p1, q1, r1, z1, p3, q3, b5, b7, _⟩;refine bA qA fun K1 hK1 => ?_
       (refine aV U Z Z Z ?_)
       refine bX (β := Value) (ψ := fun y v => v = .agg (scC s y (.slice ra s.rifles.length rc)).toArray) (L' := fun y => [.ow y 172 2 s.tests.length (spC s.tests)]) U [] _ M0 Z Z Z Z (Sp.refl _) qC (fun w' hs => eU w' 0 w.heap.size s _ _ (h.keep hs.chg0) J) ?_;rintro u5 _ rfl;dsimp only [List.cons_append, List.nil_append];refine bO (fun w hs => hs.slice2 (v := u5) O) ?_;rintro ⟨p5, q5, rfl⟩;(refine aN ?_);exact hK1 _ _ (hS1_3_5_6_7 ⟨p1, q1, r1, z1, p3, q3, p5, q5, b5, b7, ()⟩ _ _ ⟨Z, Z, Z, Z, Z, Z, Z, trivial⟩ O)
      refine cH (σ := Option Addr × Nat × Option Addr × Nat × Option Addr × Nat × Option Addr × Nat × Unit) (mJ) (fun ⟨p1, q1, r1, z1, p3, q3, p5, q5, ()⟩ => [(2, aC0 b2), (1, (.slice pa plan.length pc)), (34, .agg (scC s (.slice p1 s.tests.length q1) (.slice r1 s.rifles.length z1)).toArray), (36, (.slice p3 plan.length q3)), (38, .agg (scC s (.slice p5 s.tests.length q5) (.slice ra s.rifles.length rc)).toArray)]) (fun ⟨p1, q1, r1, z1, p3, q3, p5, q5, ()⟩ => [.ow (.slice p1 s.tests.length q1) 78 2 s.tests.length (spC s.tests), .ow (.slice r1 s.rifles.length z1) 3 1 s.rifles.length (aX s.rifles), .ow (.slice p3 plan.length q3) 91 3 plan.length (dK plan), .ow (.slice p5 s.tests.length q5) 172 2 s.tests.length (spC s.tests)]) ?_ (fun hS1_3_5 => ?_)
      ·rintro ⟨p1, q1, r1, z1, p3, q3, p5, q5, _⟩;refine cA ?_ ?_
       ·refine bA qA fun K1 hK1 => ?_;refine bG dY Z (fun b5 => ?_)
        (refine aN ?_)
        exact hK1 _ _ (hS1_3_5_6 ⟨p1, q1, r1, z1, p3, q3, p5, q5, b5, ()⟩ _ _ ⟨Z, Z, Z, Z, Z, Z, trivial⟩ O)
       ·refine bA qA fun K1 hK1 => ?_;refine bG fE Z (fun b7 => ?_)
        (refine aN ?_)
        exact hK1 _ _ (hS1_3_5_7 ⟨p1, q1, r1, z1, p3, q3, p5, q5, b7, ()⟩ _ _ ⟨Z, Z, Z, Z, Z, Z, trivial⟩ O)
      refine cH (σ := Option Addr × Nat × Option Addr × Nat × Option Addr × Nat × Nat × Unit) (jJ) (fun ⟨p1, q1, r1, z1, p3, q3, b5, ()⟩ => [(2, aC0 b2), (1, (.slice pa plan.length pc)), (34, .agg (scC s (.slice p1 s.tests.length q1) (.slice r1 s.rifles.length z1)).toArray), (36, (.slice p3 plan.length q3)), (5, aC0 b5)]) (fun ⟨p1, q1, r1, z1, p3, q3, b5, ()⟩ => [.ow (.slice p1 s.tests.length q1) 78 2 s.tests.length (spC s.tests), .ow (.slice r1 s.rifles.length z1) 3 1 s.rifles.length (aX s.rifles), .ow (.slice p3 plan.length q3) 91 3 plan.length (dK plan), .pt b5 [.int .i64 0, .int .i64 0, .slice none 0 0, .slice none 0 0] 46]) ?_ (fun hS1_3_6 => ?_)
      ·rintro ⟨p1, q1, r1, z1, p3, q3, b5, _⟩;refine cA ?_ ?_
       ·refine bA qA fun K1 hK1 => ?_;(refine aV U Z Z Z ?_)
        refine bX (β := Value) (ψ := fun y v => v = .agg (scC s y (.slice ra s.rifles.length rc)).toArray) (L' := fun y => [.ow y 172 2 s.tests.length (spC s.tests)]) U [] _ M0 Z Z Z Z (Sp.refl _) qC (fun w' hs => eU w' 0 w.heap.size s _ _ (h.keep hs.chg0) J) ?_;rintro u5 _ rfl;dsimp only [List.cons_append, List.nil_append];refine bO (fun w hs => hs.slice2 (v := u5) O) ?_;rintro ⟨p5, q5, rfl⟩;(refine aN ?_);exact hK1 _ _ (hS1_3_5_6 ⟨p1, q1, r1, z1, p3, q3, p5, q5, b5, ()⟩ _ _ ⟨Z, Z, Z, Z, Z, Z, trivial⟩ O)
       ·refine bA qA fun K1 hK1 => ?_;refine bG fE Z (fun b7 => ?_)
        (refine aN ?_)
        exact hK1 _ _ (hS1_3_6_7 ⟨p1, q1, r1, z1, p3, q3, b5, b7, ()⟩ _ _ ⟨Z, Z, Z, Z, Z, Z, trivial⟩ O)
      refine cH (σ := Option Addr × Nat × Option Addr × Nat × Option Addr × Nat × Nat × Unit) (iU) (fun ⟨p1, q1, r1, z1, p3, q3, b7, ()⟩ => [(2, aC0 b2), (1, (.slice pa plan.length pc)), (34, .agg (scC s (.slice p1 s.tests.length q1) (.slice r1 s.rifles.length z1)).toArray), (36, (.slice p3 plan.length q3)), (7, aC0 b7)]) (fun ⟨p1, q1, r1, z1, p3, q3, b7, ()⟩ => [.ow (.slice p1 s.tests.length q1) 78 2 s.tests.length (spC s.tests), .ow (.slice r1 s.rifles.length z1) 3 1 s.rifles.length (aX s.rifles), .ow (.slice p3 plan.length q3) 91 3 plan.length (dK plan), .pt b7 [.int .i64 0, .int .i64 0, .slice none 0 0, .slice none 0 0] 51]) ?_ (fun hS1_3_7 => ?_)
      ·rintro ⟨p1, q1, r1, z1, p3, q3, b7, _⟩;refine cA ?_ ?_
       ·refine bA qA fun K1 hK1 => ?_;(refine aV U Z Z Z ?_)
        refine bX (β := Value) (ψ := fun y v => v = .agg (scC s y (.slice ra s.rifles.length rc)).toArray) (L' := fun y => [.ow y 172 2 s.tests.length (spC s.tests)]) U [] _ M0 Z Z Z Z (Sp.refl _) qC (fun w' hs => eU w' 0 w.heap.size s _ _ (h.keep hs.chg0) J) ?_;rintro u5 _ rfl;dsimp only [List.cons_append, List.nil_append];refine bO (fun w hs => hs.slice2 (v := u5) O) ?_;rintro ⟨p5, q5, rfl⟩;(refine aN ?_);exact hK1 _ _ (hS1_3_5_7 ⟨p1, q1, r1, z1, p3, q3, p5, q5, b7, ()⟩ _ _ ⟨Z, Z, Z, Z, Z, Z, trivial⟩ O)
       ·refine bA qA fun K1 hK1 => ?_;refine bG dY Z (fun b5 => ?_)
        (refine aN ?_)
        exact hK1 _ _ (hS1_3_6_7 ⟨p1, q1, r1, z1, p3, q3, b5, b7, ()⟩ _ _ ⟨Z, Z, Z, Z, Z, Z, trivial⟩ O)
      refine cH (σ := Option Addr × Nat × Option Addr × Nat × Nat × Nat × Unit) (iD) (fun ⟨p1, q1, r1, z1, b5, b7, ()⟩ => [(2, aC0 b2), (1, (.slice pa plan.length pc)), (34, .agg (scC s (.slice p1 s.tests.length q1) (.slice r1 s.rifles.length z1)).toArray), (5, aC0 b5), (7, aC0 b7)]) (fun ⟨p1, q1, r1, z1, b5, b7, ()⟩ => [.ow (.slice p1 s.tests.length q1) 78 2 s.tests.length (spC s.tests), .ow (.slice r1 s.rifles.length z1) 3 1 s.rifles.length (aX s.rifles), .pt b5 [.int .i64 0, .int .i64 0, .slice none 0 0, .slice none 0 0] 46, .pt b7 [.int .i64 0, .int .i64 0, .slice none 0 0, .slice none 0 0] 51]) ?_ (fun hS1_6_7 => ?_)
      ·rintro ⟨p1, q1, r1, z1, b5, b7, _⟩;refine bA qA fun K1 hK1 => ?_
       (refine aA2 xq ?_)
       refine bX (β := Value) (ψ := fun y v => v = y) (L' := fun y => [.ow y 91 3 plan.length (dK plan)]) U [] _ M0 Z Z Z Z (Sp.refl _) qC (fun w' hs => gH w' 0 w.heap.size _ plan (RdE.keep hp hs.chg0) J) ?_;rintro _ u3 rfl;dsimp only [List.cons_append, List.nil_append];refine bO (fun w hs => hs.slice2 (v := u3) O) ?_;rintro ⟨p3, q3, rfl⟩;(refine aN ?_);exact hK1 _ _ (hS1_3_6_7 ⟨p1, q1, r1, z1, p3, q3, b5, b7, ()⟩ _ _ ⟨Z, Z, Z, Z, Z, Z, trivial⟩ O)
      refine cH (σ := Option Addr × Nat × Option Addr × Nat × Option Addr × Nat × Unit) (lZ) (fun ⟨p1, q1, r1, z1, p3, q3, ()⟩ => [(2, aC0 b2), (1, (.slice pa plan.length pc)), (34, .agg (scC s (.slice p1 s.tests.length q1) (.slice r1 s.rifles.length z1)).toArray), (36, (.slice p3 plan.length q3))]) (fun ⟨p1, q1, r1, z1, p3, q3, ()⟩ => [.ow (.slice p1 s.tests.length q1) 78 2 s.tests.length (spC s.tests), .ow (.slice r1 s.rifles.length z1) 3 1 s.rifles.length (aX s.rifles), .ow (.slice p3 plan.length q3) 91 3 plan.length (dK plan)]) ?_ (fun hS1_3 => ?_)
      ·rintro ⟨p1, q1, r1, z1, p3, q3, _⟩;refine cA ?_ (cA ?_ ?_)
       ·refine bA qA fun K1 hK1 => ?_;(refine aV U Z Z Z ?_)
        refine bX (β := Value) (ψ := fun y v => v = .agg (scC s y (.slice ra s.rifles.length rc)).toArray) (L' := fun y => [.ow y 172 2 s.tests.length (spC s.tests)]) U [] _ M0 Z Z Z Z (Sp.refl _) qC (fun w' hs => eU w' 0 w.heap.size s _ _ (h.keep hs.chg0) J) ?_;rintro u5 _ rfl;dsimp only [List.cons_append, List.nil_append];refine bO (fun w hs => hs.slice2 (v := u5) O) ?_;rintro ⟨p5, q5, rfl⟩;(refine aN ?_);exact hK1 _ _ (hS1_3_5 ⟨p1, q1, r1, z1, p3, q3, p5, q5, ()⟩ _ _ ⟨Z, Z, Z, Z, Z, trivial⟩ O)
       ·refine bA qA fun K1 hK1 => ?_;refine bG dY Z (fun b5 => ?_)
        (refine aN ?_)
        exact hK1 _ _ (hS1_3_6 ⟨p1, q1, r1, z1, p3, q3, b5, ()⟩ _ _ ⟨Z, Z, Z, Z, Z, trivial⟩ O)
       ·refine bA qA fun K1 hK1 => ?_;refine bG fE Z (fun b7 => ?_)
        (refine aN ?_)
        exact hK1 _ _ (hS1_3_7 ⟨p1, q1, r1, z1, p3, q3, b7, ()⟩ _ _ ⟨Z, Z, Z, Z, Z, trivial⟩ O)
      refine cH (σ := Option Addr × Nat × Option Addr × Nat × Nat × Unit) (jH) (fun ⟨p1, q1, r1, z1, b5, ()⟩ => [(2, aC0 b2), (1, (.slice pa plan.length pc)), (34, .agg (scC s (.slice p1 s.tests.length q1) (.slice r1 s.rifles.length z1)).toArray), (5, aC0 b5)]) (fun ⟨p1, q1, r1, z1, b5, ()⟩ => [.ow (.slice p1 s.tests.length q1) 78 2 s.tests.length (spC s.tests), .ow (.slice r1 s.rifles.length z1) 3 1 s.rifles.length (aX s.rifles), .pt b5 [.int .i64 0, .int .i64 0, .slice none 0 0, .slice none 0 0] 46]) ?_ (fun hS1_6 => ?_)
      ·rintro ⟨p1, q1, r1, z1, b5, _⟩;refine cA ?_ ?_
       ·refine bA qA fun K1 hK1 => ?_;(refine aA2 xq ?_)
        refine bX (β := Value) (ψ := fun y v => v = y) (L' := fun y => [.ow y 91 3 plan.length (dK plan)]) U [] _ M0 Z Z Z Z (Sp.refl _) qC (fun w' hs => gH w' 0 w.heap.size _ plan (RdE.keep hp hs.chg0) J) ?_;rintro _ u3 rfl;dsimp only [List.cons_append, List.nil_append];refine bO (fun w hs => hs.slice2 (v := u3) O) ?_;rintro ⟨p3, q3, rfl⟩;(refine aN ?_);exact hK1 _ _ (hS1_3_6 ⟨p1, q1, r1, z1, p3, q3, b5, ()⟩ _ _ ⟨Z, Z, Z, Z, Z, trivial⟩ O)
       ·refine bA qA fun K1 hK1 => ?_;refine bG fE Z (fun b7 => ?_)
        (refine aN ?_)
        exact hK1 _ _ (hS1_6_7 ⟨p1, q1, r1, z1, b5, b7, ()⟩ _ _ ⟨Z, Z, Z, Z, Z, trivial⟩ O)
      refine cH (σ := Option Addr × Nat × Option Addr × Nat × Nat × Unit) (jM) (fun ⟨p1, q1, r1, z1, b7, ()⟩ => [(2, aC0 b2), (1, (.slice pa plan.length pc)), (34, .agg (scC s (.slice p1 s.tests.length q1) (.slice r1 s.rifles.length z1)).toArray), (7, aC0 b7)]) (fun ⟨p1, q1, r1, z1, b7, ()⟩ => [.ow (.slice p1 s.tests.length q1) 78 2 s.tests.length (spC s.tests), .ow (.slice r1 s.rifles.length z1) 3 1 s.rifles.length (aX s.rifles), .pt b7 [.int .i64 0, .int .i64 0, .slice none 0 0, .slice none 0 0] 51]) ?_ (fun hS1_7 => ?_)
      ·rintro ⟨p1, q1, r1, z1, b7, _⟩;refine cA ?_ ?_
       ·refine bA qA fun K1 hK1 => ?_;(refine aA2 xq ?_)
        refine bX (β := Value) (ψ := fun y v => v = y) (L' := fun y => [.ow y 91 3 plan.length (dK plan)]) U [] _ M0 Z Z Z Z (Sp.refl _) qC (fun w' hs => gH w' 0 w.heap.size _ plan (RdE.keep hp hs.chg0) J) ?_;rintro _ u3 rfl;dsimp only [List.cons_append, List.nil_append];refine bO (fun w hs => hs.slice2 (v := u3) O) ?_;rintro ⟨p3, q3, rfl⟩;(refine aN ?_);exact hK1 _ _ (hS1_3_7 ⟨p1, q1, r1, z1, p3, q3, b7, ()⟩ _ _ ⟨Z, Z, Z, Z, Z, trivial⟩ O)
       ·refine bA qA fun K1 hK1 => ?_;refine bG dY Z (fun b5 => ?_)
        (refine aN ?_)
        exact hK1 _ _ (hS1_6_7 ⟨p1, q1, r1, z1, b5, b7, ()⟩ _ _ ⟨Z, Z, Z, Z, Z, trivial⟩ O)
      refine cH (σ := Nat × Nat × Unit) (jI) (fun ⟨b5, b7, ()⟩ => [(2, aC0 b2), (1, (.slice pa plan.length pc)), (5, aC0 b5), (7, aC0 b7)]) (fun ⟨b5, b7, ()⟩ => [.pt b5 [.int .i64 0, .int .i64 0, .slice none 0 0, .slice none 0 0] 46, .pt b7 [.int .i64 0, .int .i64 0, .slice none 0 0, .slice none 0 0] 51]) ?_ (fun hS6_7 => ?_)
      ·rintro ⟨b5, b7, _⟩;refine bA qA fun K1 hK1 => ?_
       (refine aV U Z Z Z ?_)
       refine bX (β := Value × Value) (ψ := fun y v => v = .agg (scC s y.1 y.2).toArray) (L' := fun y => [.ow y.1 78 2 s.tests.length (spC s.tests), .ow y.2 3 1 s.rifles.length (aX s.rifles)]) U [] _ M0 Z Z Z Z (Sp.refl _) qC (fun w' hs => eS w' 0 w.heap.size s _ _ (h.keep hs.chg0) J J) ?_;rintro ⟨u1, v1⟩ _ rfl;dsimp only [List.cons_append, List.nil_append];refine bO (fun w hs => hs.slice2 (v := u1) O) ?_;rintro ⟨p1, q1, rfl⟩;refine bO (fun w hs => hs.slice2 (v := v1) O) ?_;rintro ⟨r1, z1, rfl⟩;(refine aN ?_);exact hK1 _ _ (hS1_6_7 ⟨p1, q1, r1, z1, b5, b7, ()⟩ _ _ ⟨Z, Z, Z, Z, Z, trivial⟩ O)
      refine cH (σ := Option Addr × Nat × Option Addr × Nat × Unit) (lM) (fun ⟨p1, q1, r1, z1, ()⟩ => [(2, aC0 b2), (1, (.slice pa plan.length pc)), (34, .agg (scC s (.slice p1 s.tests.length q1) (.slice r1 s.rifles.length z1)).toArray)]) (fun ⟨p1, q1, r1, z1, ()⟩ => [.ow (.slice p1 s.tests.length q1) 78 2 s.tests.length (spC s.tests), .ow (.slice r1 s.rifles.length z1) 3 1 s.rifles.length (aX s.rifles)]) ?_ (fun hS1 => ?_)
      ·rintro ⟨p1, q1, r1, z1, _⟩;refine cA ?_ (cA ?_ ?_)
       ·refine bA qA fun K1 hK1 => ?_;(refine aA2 xq ?_)
        refine bX (β := Value) (ψ := fun y v => v = y) (L' := fun y => [.ow y 91 3 plan.length (dK plan)]) U [] _ M0 Z Z Z Z (Sp.refl _) qC (fun w' hs => gH w' 0 w.heap.size _ plan (RdE.keep hp hs.chg0) J) ?_;rintro _ u3 rfl;dsimp only [List.cons_append, List.nil_append];refine bO (fun w hs => hs.slice2 (v := u3) O) ?_;rintro ⟨p3, q3, rfl⟩;(refine aN ?_);exact hK1 _ _ (hS1_3 ⟨p1, q1, r1, z1, p3, q3, ()⟩ _ _ ⟨Z, Z, Z, Z, trivial⟩ O)
       ·refine bA qA fun K1 hK1 => ?_;refine bG dY Z (fun b5 => ?_)
        (refine aN ?_)
        exact hK1 _ _ (hS1_6 ⟨p1, q1, r1, z1, b5, ()⟩ _ _ ⟨Z, Z, Z, Z, trivial⟩ O)
       ·refine bA qA fun K1 hK1 => ?_;refine bG fE Z (fun b7 => ?_)
        (refine aN ?_)
        exact hK1 _ _ (hS1_7 ⟨p1, q1, r1, z1, b7, ()⟩ _ _ ⟨Z, Z, Z, Z, trivial⟩ O)
      refine cH (σ := Nat × Unit) (lX) (fun ⟨b5, ()⟩ => [(2, aC0 b2), (1, (.slice pa plan.length pc)), (5, aC0 b5)]) (fun ⟨b5, ()⟩ => [.pt b5 [.int .i64 0, .int .i64 0, .slice none 0 0, .slice none 0 0] 46]) ?_ (fun hS6 => ?_)
      ·rintro ⟨b5, _⟩;refine cA ?_ ?_
       ·refine bA qA fun K1 hK1 => ?_;(refine aV U Z Z Z ?_)
        refine bX (β := Value × Value) (ψ := fun y v => v = .agg (scC s y.1 y.2).toArray) (L' := fun y => [.ow y.1 78 2 s.tests.length (spC s.tests), .ow y.2 3 1 s.rifles.length (aX s.rifles)]) U [] _ M0 Z Z Z Z (Sp.refl _) qC (fun w' hs => eS w' 0 w.heap.size s _ _ (h.keep hs.chg0) J J) ?_;rintro ⟨u1, v1⟩ _ rfl;dsimp only [List.cons_append, List.nil_append];refine bO (fun w hs => hs.slice2 (v := u1) O) ?_;rintro ⟨p1, q1, rfl⟩;refine bO (fun w hs => hs.slice2 (v := v1) O) ?_;rintro ⟨r1, z1, rfl⟩;(refine aN ?_);exact hK1 _ _ (hS1_6 ⟨p1, q1, r1, z1, b5, ()⟩ _ _ ⟨Z, Z, Z, Z, trivial⟩ O)
       ·refine bA qA fun K1 hK1 => ?_;refine bG fE Z (fun b7 => ?_)
        (refine aN ?_)
        exact hK1 _ _ (hS6_7 ⟨b5, b7, ()⟩ _ _ ⟨Z, Z, Z, Z, trivial⟩ O)
      refine cH (σ := Nat × Unit) (lL) (fun ⟨b7, ()⟩ => [(2, aC0 b2), (1, (.slice pa plan.length pc)), (7, aC0 b7)]) (fun ⟨b7, ()⟩ => [.pt b7 [.int .i64 0, .int .i64 0, .slice none 0 0, .slice none 0 0] 51]) ?_ (fun hS7 => ?_)
      ·rintro ⟨b7, _⟩;refine cA ?_ ?_
       ·refine bA qA fun K1 hK1 => ?_;(refine aV U Z Z Z ?_)
        refine bX (β := Value × Value) (ψ := fun y v => v = .agg (scC s y.1 y.2).toArray) (L' := fun y => [.ow y.1 78 2 s.tests.length (spC s.tests), .ow y.2 3 1 s.rifles.length (aX s.rifles)]) U [] _ M0 Z Z Z Z (Sp.refl _) qC (fun w' hs => eS w' 0 w.heap.size s _ _ (h.keep hs.chg0) J J) ?_;rintro ⟨u1, v1⟩ _ rfl;dsimp only [List.cons_append, List.nil_append];refine bO (fun w hs => hs.slice2 (v := u1) O) ?_;rintro ⟨p1, q1, rfl⟩;refine bO (fun w hs => hs.slice2 (v := v1) O) ?_;rintro ⟨r1, z1, rfl⟩;(refine aN ?_);exact hK1 _ _ (hS1_7 ⟨p1, q1, r1, z1, b7, ()⟩ _ _ ⟨Z, Z, Z, Z, trivial⟩ O)
       ·refine bA qA fun K1 hK1 => ?_;refine bG dY Z (fun b5 => ?_)
        (refine aN ?_)
        exact hK1 _ _ (hS6_7 ⟨b5, b7, ()⟩ _ _ ⟨Z, Z, Z, Z, trivial⟩ O)
      refine cA ?_ (cA ?_ ?_)
      ·refine bA qA fun K1 hK1 => ?_;(refine aV U Z Z Z ?_)
       refine bX (β := Value × Value) (ψ := fun y v => v = .agg (scC s y.1 y.2).toArray) (L' := fun y => [.ow y.1 78 2 s.tests.length (spC s.tests), .ow y.2 3 1 s.rifles.length (aX s.rifles)]) U [] _ M0 Z Z Z Z (Sp.refl _) qC (fun w' hs => eS w' 0 w.heap.size s _ _ (h.keep hs.chg0) J J) ?_;rintro ⟨u1, v1⟩ _ rfl;dsimp only [List.cons_append, List.nil_append];refine bO (fun w hs => hs.slice2 (v := u1) O) ?_;rintro ⟨p1, q1, rfl⟩;refine bO (fun w hs => hs.slice2 (v := v1) O) ?_;rintro ⟨r1, z1, rfl⟩;(refine aN ?_);exact hK1 _ _ (hS1 ⟨p1, q1, r1, z1, ()⟩ _ _ ⟨Z, Z, Z, trivial⟩ O)
      ·refine bA qA fun K1 hK1 => ?_;refine bG dY Z (fun b5 => ?_)
       (refine aN ?_)
       exact hK1 _ _ (hS6 ⟨b5, ()⟩ _ _ ⟨Z, Z, Z, trivial⟩ O)
      ·refine bA qA fun K1 hK1 => ?_;refine bG fE Z (fun b7 => ?_)
       (refine aN ?_)
       exact hK1 _ _ (hS7 ⟨b7, ()⟩ _ _ ⟨Z, Z, Z, trivial⟩ O)
     rintro ⟨p1, q1, r1, z1, p3, q3, p5, q5, b5, b7⟩;dsimp only;(refine aC (aB ?_); refine aP U Z Z Z ?_);refine aI (val := .tuple #[.int .i64 (fewU s), .int .i64 (eY s)]) U Z Z Z Z (fun w hs => ?_) ?_; exact rfewest_u w 0 w.heap.size s _ _ ⟨bY (hs.mem (c := .ow (.slice p1 s.tests.length q1) 78 2 s.tests.length (spC s.tests)) O) rfl, bU (hs.mem (c := .ow (.slice r1 s.rifles.length z1) 3 1 s.rifles.length (aX s.rifles)) O) Z⟩ m1 m2;(refine aA1 zq (aB5 xq (aB5 xq (aA1 zq (aA1 zq (aD (aC (aB ?_))))))); refine aP U Z Z Z ?_);refine aI (val := .tuple #[.int .i64 (fewU s), .int .i64 (eY s)]) U Z Z Z Z (fun w hs => ?_) ?_; exact rrfewest_u w 0 w.heap.size s _ _ (gD (h.keep hs.chg0) (bY (hs.mem (c := .ow (.slice p5 s.tests.length q5) 172 2 s.tests.length (spC s.tests)) O) Z) hs.chg.size) m1 m2;(refine aA1 zq (aB5 xq (aB5 xq (aA1 zq (aA1 zq (aD (aC (aC (aB (aA1 zq (aA1 zq (aA6 xq J ?_))))))))))); refine aA1 zq (aE Z (aA1 zq (aE Z (aA1 zq (aE Z (aA6 xq J (aA1 zq (aD (aG Z (aK (aC ?_))))))))))); refine aB ?_; refine aP U Z Z Z ?_);by_cases h0 : eY s = 0
     ·have hsok := dU.1 h0;have hpl2 := oY hsok.ok.rn8 hsok.le;have hdu := depU_plan h0;have hfu : fewU s = dE s (bP s) := by unfold fewU; rw [if_pos h0]
      obtain ⟨PL, hPL⟩ : ∃ P, P = jX s := ⟨_, rfl⟩;rw [h0, hfu];refine bC (β := Value) (ψ := fun y v => v = .tuple #[y, .int .i64 0]) (L' := fun y => [.ow y 91 3 PL.length (dK PL)]) U [] _ M0 Z Z Z Z (Sp.refl _) qC (fun w' hs => by rw [hPL]; exact rplan_ok w' 0 w'.heap.size s _ _ ⟨bY (hs.mem (c := .ow (.slice p1 s.tests.length q1) 78 2 s.tests.length (spC s.tests)) O) rfl, bU (hs.mem (c := .ow (.slice r1 s.rifles.length z1) 3 1 s.rifles.length (aX s.rifles)) O) Z⟩ hsok) ?_;rintro vl _ rfl;dsimp only [List.cons_append, List.nil_append];rw [← hPL] at hpl2 hdu;(refine aA1 zq (aB5 xq (aB5 xq (aA1 zq (aA1 zq (aD (aC (aC (aB (aA1 zq (aA1 zq (aA6 xq J ?_))))))))))); refine aA1 zq (aE Z (aA1 zq (aE Z (aA6 xq J (aE Z (aA1 zq ?_)))))); (iterate 3 refine aA8 yq ?_); refine aE Z (aA1 zq (aA1 zq (aD (aG Z (aK (aC (aC (aB (aA1 zq (aB2 xq J (aD ?_))))))))))); refine aH Z (aC ?_));refine bZ _ [] (Sp.refl _) qB qB ?_;(refine aV U Z Z Z ?_; refine aA2 xq ?_);refine bX (β := Value) (ψ := fun y v => v = y) (L' := fun y => [.ow y 213 3 PL.length (dK PL)]) U [] _ M0 Z Z Z Z (Sp.refl _) qC (fun w' hs => kF w' 0 w'.heap.size _ PL (fC (hs.mem (c := .ow vl 91 3 PL.length (dK PL)) O) Z) J) ?_;rintro _ vm rfl;dsimp only [List.cons_append, List.nil_append];refine bN (val := .tuple #[.int .i64 (kJ s PL).1, .int .i64 (kJ s PL).2]) U Z Z Z Z (fun w hs => ?_) ?_; exact kG w 0 w.heap.size s _ _ vm PL (gD (h.keep hs.chg0) (bY (hs.mem (c := .ow (.slice p5 s.tests.length q5) 172 2 s.tests.length (spC s.tests)) O) Z) hs.chg.size) m1 m2 (fC (hs.mem (c := .ow vm 213 3 PL.length (dK PL)) O) Z) J;rw [hdu];(refine aA2 xq (aB8 xq (aB8 xq (aA2 xq (aA2 xq (aN (aC (aB (aA1 zq (aA6 xq J (aA1 zq (aE Z ?_))))))))))); refine aA1 zq (aE Z (aA1 zq (aE Z (aA6 xq J (aA1 zq (aD (aG Z (aK (aC (aB ?_)))))))))); refine aP U Z Z Z ?_; refine aA1 zq ?_);refine aI (val := .tuple #[.int .i64 (kJ s plan).1, .int .i64 (kJ s plan).2]) U Z Z Z Z (fun w hs => ?_) ?_; exact oW w 0 w.heap.size s _ _ (.slice p3 plan.length q3) plan ⟨bY (hs.mem (c := .ow (.slice p1 s.tests.length q1) 78 2 s.tests.length (spC s.tests)) O) rfl, bU (hs.mem (c := .ow (.slice r1 s.rifles.length z1) 3 1 s.rifles.length (aX s.rifles)) O) Z⟩ m1 m2 (fC (hs.mem (c := .ow (.slice p3 plan.length q3) 91 3 plan.length (dK plan)) O) Z) J;(refine aA1 zq (aB5 xq (aB5 xq (aA1 zq (aA1 zq (aD (aC ?_)))))));refine bZ _ [] (Sp.refl _) qB qB ?_;(refine aV U Z Z Z ?_; refine aA2 xq ?_);refine bX (β := Value) (ψ := fun y v => v = y) (L' := fun y => [.ow y 213 3 plan.length (dK plan)]) U [] _ M0 Z Z Z Z (Sp.refl _) qC (fun w' hs => kF w' 0 w.heap.size _ plan (RdE.keep hp hs.chg0) J) ?_;rintro _ vn rfl;dsimp only [List.cons_append, List.nil_append];refine bN (val := .tuple #[.int .i64 (kJ s plan).1, .int .i64 (kJ s plan).2]) U Z Z Z Z (fun w hs => ?_) ?_; exact kG w 0 w.heap.size s _ _ vn plan (gD (h.keep hs.chg0) (bY (hs.mem (c := .ow (.slice p5 s.tests.length q5) 172 2 s.tests.length (spC s.tests)) O) Z) hs.chg.size) m1 m2 (fC (hs.mem (c := .ow vn 213 3 plan.length (dK plan)) O) Z) J
      (refine aA2 xq (aB8 xq (aB8 xq (aA2 xq (aA2 xq (aN (aC (aB (aA1 zq (aA1 zq (aB2 xq J (aA1 zq ?_))))))))))); refine aE Z (aA1 zq (aE Z (aA1 zq (aE Z (aB2 xq J (aA1 zq (aA1 zq (aE Z ?_)))))))); refine aP U Z Z Z ?_; refine aE Z ?_; refine aP U Z Z Z ?_; refine aE Z ?_)
      refine aI (val := .bool true) U Z Z Z Z (fun w hs => ?_) ?_; exact nF w 0 w.heap.size 0 w.heap.size s _ _ (.slice ta s.tests.length tc) (.slice ra s.rifles.length rc) ⟨bY (hs.mem (c := .ow (.slice p1 s.tests.length q1) 78 2 s.tests.length (spC s.tests)) O) rfl, bU (hs.mem (c := .ow (.slice r1 s.rifles.length z1) 3 1 s.rifles.length (aX s.rifles)) O) Z⟩ (ScR.self h hs.chg0 hs.chg.size) J J;(refine aA1 zq (aA1 zq (aE Z (aA1 zq (aE Z (aA1 zq (aE Z ?_)))))));refine aI (val := .bool true) U Z Z Z Z (fun w hs => ?_) ?_; exact eqN_ca w 0 w.heap.size _ _ _ (.slice pa plan.length pc) plan (fC (hs.mem (c := .ow (.slice p3 plan.length q3) 91 3 plan.length (dK plan)) O) Z) (RdE.keep hp hs.chg0) J;(refine aA1 zq (aA1 zq (aE Z ?_)));refine aI (val := .bool true) U Z Z Z Z (fun w hs => ?_) ?_; exact cY w;(refine aA1 zq (aA1 zq (aD (aS ?_))));refine aA5 wq O fun w hs => ?_;exact ⟨Z, hs.chg0⟩
     ·refine aI (val := .tuple #[.slice none 0 0, .int .i64 (eY s)]) U Z Z Z Z (fun w hs => ?_) ?_; exact rplan_no w 0 w.heap.size s _ _ ⟨bY (hs.mem (c := .ow (.slice p1 s.tests.length q1) 78 2 s.tests.length (spC s.tests)) O) rfl, bU (hs.mem (c := .ow (.slice r1 s.rifles.length z1) 3 1 s.rifles.length (aX s.rifles)) O) Z⟩ m1 m2 h0;(refine aA1 zq (aB5 xq (aB5 xq (aA1 zq (aA1 zq (aD (aC (aC (aB (aA1 zq (aA1 zq (aA6 xq J ?_))))))))))); refine aA1 zq (aE Z (aA1 zq (aE Z (aB0 xq J (aE Z (aA1 zq (aE Z (aA1 zq (aE Z (aA1 zq (aE Z ?_))))))))))); refine aB1 xq J (aE Z (aA1 zq (aA1 zq (aD (aG Z (aK (aC (aC (aB (aA1 zq (cZ U Z Z Z J ?_))))))))))); refine aD (aG Z (aK (aC (aB ?_)))); refine aP U Z Z Z ?_; refine aA1 zq ?_);refine aI (val := .tuple #[.int .i64 (kJ s plan).1, .int .i64 (kJ s plan).2]) U Z Z Z Z (fun w hs => ?_) ?_; exact oW w 0 w.heap.size s _ _ (.slice p3 plan.length q3) plan ⟨bY (hs.mem (c := .ow (.slice p1 s.tests.length q1) 78 2 s.tests.length (spC s.tests)) O) rfl, bU (hs.mem (c := .ow (.slice r1 s.rifles.length z1) 3 1 s.rifles.length (aX s.rifles)) O) Z⟩ m1 m2 (fC (hs.mem (c := .ow (.slice p3 plan.length q3) 91 3 plan.length (dK plan)) O) Z) J;(refine aA1 zq (aB5 xq (aB5 xq (aA1 zq (aA1 zq (aD (aC ?_)))))));refine bZ _ [] (Sp.refl _) qB qB ?_;(refine aV U Z Z Z ?_; refine aA2 xq ?_);refine bX (β := Value) (ψ := fun y v => v = y) (L' := fun y => [.ow y 213 3 plan.length (dK plan)]) U [] _ M0 Z Z Z Z (Sp.refl _) qC (fun w' hs => kF w' 0 w.heap.size _ plan (RdE.keep hp hs.chg0) J) ?_;rintro _ vn rfl;dsimp only [List.cons_append, List.nil_append];refine bN (val := .tuple #[.int .i64 (kJ s plan).1, .int .i64 (kJ s plan).2]) U Z Z Z Z (fun w hs => ?_) ?_; exact kG w 0 w.heap.size s _ _ vn plan (gD (h.keep hs.chg0) (bY (hs.mem (c := .ow (.slice p5 s.tests.length q5) 172 2 s.tests.length (spC s.tests)) O) Z) hs.chg.size) m1 m2 (fC (hs.mem (c := .ow vn 213 3 plan.length (dK plan)) O) Z) J;(refine aA2 xq (aB8 xq (aB8 xq (aA2 xq (aA2 xq (aN (aC (aB (aA1 zq (aA1 zq (aB2 xq J (aA1 zq ?_))))))))))); refine aE Z (aA1 zq (aE Z (aA1 zq (aE Z (aB2 xq J (aA1 zq (aA1 zq (aE Z ?_)))))))); refine aP U Z Z Z ?_; refine aE Z ?_; refine aP U Z Z Z ?_; refine aE Z ?_);refine aI (val := .bool true) U Z Z Z Z (fun w hs => ?_) ?_; exact nF w 0 w.heap.size 0 w.heap.size s _ _ (.slice ta s.tests.length tc) (.slice ra s.rifles.length rc) ⟨bY (hs.mem (c := .ow (.slice p1 s.tests.length q1) 78 2 s.tests.length (spC s.tests)) O) rfl, bU (hs.mem (c := .ow (.slice r1 s.rifles.length z1) 3 1 s.rifles.length (aX s.rifles)) O) Z⟩ (ScR.self h hs.chg0 hs.chg.size) J J;(refine aA1 zq (aA1 zq (aE Z (aA1 zq (aE Z (aA1 zq (aE Z ?_)))))));refine aI (val := .bool true) U Z Z Z Z (fun w hs => ?_) ?_; exact eqN_ca w 0 w.heap.size _ _ _ (.slice pa plan.length pc) plan (fC (hs.mem (c := .ow (.slice p3 plan.length q3) 91 3 plan.length (dK plan)) O) Z) (RdE.keep hp hs.chg0) J;(refine aA1 zq (aA1 zq (aE Z ?_)));refine aI (val := .bool true) U Z Z Z Z (fun w hs => ?_) ?_; exact cY w;(refine aA1 zq (aA1 zq (aD (aS ?_))))
      refine aA5 wq O fun w hs => ?_;exact ⟨Z, hs.chg0⟩
    ·(refine aA1 zq (aE Z (aA1 zq (aE Z (aA1 zq (aE Z (aB1 xq J (aE Z (aA1 zq ?_)))))))); (iterate 3 refine aA8 yq ?_); refine aE Z ?_; (iterate 3 refine aA1 zq ?_); refine aE Z (aA1 zq (aE Z (aA1 zq (aE Z (aB1 xq J (aA1 zq (aD (aG Z (aK (aC ?_)))))))))))
     refine dG (H' := [.pt b2 (scC s (.slice ta s.tests.length tc) (.slice ra s.rifles.length rc)) 46]) (fun w' hs => hs.sp O) ?_;refine fT (σ := Option Addr × Nat × Option Addr × Nat × Option Addr × Nat × Option Addr × Nat × Nat × Nat) (fun ⟨p1, q1, r1, z1, p3, q3, p5, q5, b5, b7⟩ => [(2, aC0 b2), (1, (.slice pa plan.length pc)), (6, (.slice p3 plan.length q3)), (5, aC0 b5), (7, aC0 b7)]) (fun ⟨p1, q1, r1, z1, p3, q3, p5, q5, b5, b7⟩ => [.ow (.slice p1 s.tests.length q1) 78 2 s.tests.length (spC s.tests), .ow (.slice r1 s.rifles.length z1) 3 1 s.rifles.length (aX s.rifles), .ow (.slice p3 plan.length q3) 91 3 plan.length (dK plan), .ow (.slice p5 s.tests.length q5) 172 2 s.tests.length (spC s.tests), .pt b5 (scC s (.slice p1 s.tests.length q1) (.slice r1 s.rifles.length z1)) 46, .pt b7 (scC s (.slice p5 s.tests.length q5) (.slice ra s.rifles.length rc)) 51, .pt b2 (scC s (.slice ta s.tests.length tc) (.slice ra s.rifles.length rc)) 46]) ?_ ?_;rotate_left
     ·intro K2 hK2;refine eQ (tLwH_e59e8c5) _ [] (Sp.refl _) qB qB ?_;refine cH (σ := Option Addr × Nat × Option Addr × Nat × Option Addr × Nat × Option Addr × Nat × Nat × Nat × Unit) (.nil) (fun ⟨p1, q1, r1, z1, p3, q3, p5, q5, b5, b7, ()⟩ => [(2, aC0 b2), (1, (.slice pa plan.length pc)), (6, (.slice p3 plan.length q3)), (5, aC0 b5), (7, aC0 b7)]) (fun ⟨p1, q1, r1, z1, p3, q3, p5, q5, b5, b7, ()⟩ => [.ow (.slice p1 s.tests.length q1) 78 2 s.tests.length (spC s.tests), .ow (.slice r1 s.rifles.length z1) 3 1 s.rifles.length (aX s.rifles), .ow (.slice p3 plan.length q3) 91 3 plan.length (dK plan), .ow (.slice p5 s.tests.length q5) 172 2 s.tests.length (spC s.tests), .pt b5 (scC s (.slice p1 s.tests.length q1) (.slice r1 s.rifles.length z1)) 46, .pt b7 (scC s (.slice p5 s.tests.length q5) (.slice ra s.rifles.length rc)) 51]) ?_ (fun hS1_3_5_6_7_8_10 => ?_)
      ·rintro ⟨p1, q1, r1, z1, p3, q3, p5, q5, b5, b7, _⟩;exact dD (hK2 (p1, q1, r1, z1, p3, q3, p5, q5, b5, b7) _ _ ⟨Z, Z, Z, Z, Z, trivial⟩ O)
      refine cH (σ := Option Addr × Nat × Option Addr × Nat × Option Addr × Nat × Option Addr × Nat × Nat × Nat × Unit) (lP) (fun ⟨p1, q1, r1, z1, p3, q3, p5, q5, b5, b7, ()⟩ => [(2, aC0 b2), (1, (.slice pa plan.length pc)), (6, (.slice p3 plan.length q3)), (38, .agg (scC s (.slice p5 s.tests.length q5) (.slice ra s.rifles.length rc)).toArray), (5, aC0 b5), (7, aC0 b7)]) (fun ⟨p1, q1, r1, z1, p3, q3, p5, q5, b5, b7, ()⟩ => [.ow (.slice p1 s.tests.length q1) 78 2 s.tests.length (spC s.tests), .ow (.slice r1 s.rifles.length z1) 3 1 s.rifles.length (aX s.rifles), .ow (.slice p3 plan.length q3) 91 3 plan.length (dK plan), .ow (.slice p5 s.tests.length q5) 172 2 s.tests.length (spC s.tests), .pt b5 (scC s (.slice p1 s.tests.length q1) (.slice r1 s.rifles.length z1)) 46, .pt b7 [.int .i64 0, .int .i64 0, .slice none 0 0, .slice none 0 0] 51]) ?_ (fun hS1_3_5_6_7_8 => ?_)
      ·rintro ⟨p1, q1, r1, z1, p3, q3, p5, q5, b5, b7, _⟩;refine bA qA fun K1 hK1 => ?_
       (refine aB7 Wa O Z ?_; refine aN ?_)
       exact hK1 _ _ (hS1_3_5_6_7_8_10 ⟨p1, q1, r1, z1, p3, q3, p5, q5, b5, b7, ()⟩ _ _ ⟨Z, Z, Z, Z, Z, trivial⟩ O)
      refine cH (σ := Option Addr × Nat × Option Addr × Nat × Option Addr × Nat × Option Addr × Nat × Nat × Nat × Unit) (iE) (fun ⟨p1, q1, r1, z1, p3, q3, p5, q5, b5, b7, ()⟩ => [(2, aC0 b2), (1, (.slice pa plan.length pc)), (34, .agg (scC s (.slice p1 s.tests.length q1) (.slice r1 s.rifles.length z1)).toArray), (36, (.slice p3 plan.length q3)), (38, .agg (scC s (.slice p5 s.tests.length q5) (.slice ra s.rifles.length rc)).toArray), (5, aC0 b5), (7, aC0 b7)]) (fun ⟨p1, q1, r1, z1, p3, q3, p5, q5, b5, b7, ()⟩ => [.ow (.slice p1 s.tests.length q1) 78 2 s.tests.length (spC s.tests), .ow (.slice r1 s.rifles.length z1) 3 1 s.rifles.length (aX s.rifles), .ow (.slice p3 plan.length q3) 91 3 plan.length (dK plan), .ow (.slice p5 s.tests.length q5) 172 2 s.tests.length (spC s.tests), .pt b5 [.int .i64 0, .int .i64 0, .slice none 0 0, .slice none 0 0] 46, .pt b7 [.int .i64 0, .int .i64 0, .slice none 0 0, .slice none 0 0] 51]) ?_ (fun hS1_3_5_6_7 => ?_)
      ·rintro ⟨p1, q1, r1, z1, p3, q3, p5, q5, b5, b7, _⟩;refine bA qA fun K1 hK1 => ?_
       (refine aB7 Wa O Z ?_; refine aA2 xq (aN ?_))
       exact hK1 _ _ (hS1_3_5_6_7_8 ⟨p1, q1, r1, z1, p3, q3, p5, q5, b5, b7, ()⟩ _ _ ⟨Z, Z, Z, Z, Z, Z, trivial⟩ O)
      refine cH (σ := Option Addr × Nat × Option Addr × Nat × Option Addr × Nat × Option Addr × Nat × Nat × Unit) (jG) (fun ⟨p1, q1, r1, z1, p3, q3, p5, q5, b5, ()⟩ => [(2, aC0 b2), (1, (.slice pa plan.length pc)), (34, .agg (scC s (.slice p1 s.tests.length q1) (.slice r1 s.rifles.length z1)).toArray), (36, (.slice p3 plan.length q3)), (38, .agg (scC s (.slice p5 s.tests.length q5) (.slice ra s.rifles.length rc)).toArray), (5, aC0 b5)]) (fun ⟨p1, q1, r1, z1, p3, q3, p5, q5, b5, ()⟩ => [.ow (.slice p1 s.tests.length q1) 78 2 s.tests.length (spC s.tests), .ow (.slice r1 s.rifles.length z1) 3 1 s.rifles.length (aX s.rifles), .ow (.slice p3 plan.length q3) 91 3 plan.length (dK plan), .ow (.slice p5 s.tests.length q5) 172 2 s.tests.length (spC s.tests), .pt b5 [.int .i64 0, .int .i64 0, .slice none 0 0, .slice none 0 0] 46]) ?_ (fun hS1_3_5_6 => ?_)
      ·rintro ⟨p1, q1, r1, z1, p3, q3, p5, q5, b5, _⟩;refine bA qA fun K1 hK1 => ?_
       refine bG fE Z (fun b7 => ?_);(refine aN ?_);exact hK1 _ _ (hS1_3_5_6_7 ⟨p1, q1, r1, z1, p3, q3, p5, q5, b5, b7, ()⟩ _ _ ⟨Z, Z, Z, Z, Z, Z, Z, trivial⟩ O)
      refine cH (σ := Option Addr × Nat × Option Addr × Nat × Option Addr × Nat × Option Addr × Nat × Nat × Unit) (jK) (fun ⟨p1, q1, r1, z1, p3, q3, p5, q5, b7, ()⟩ => [(2, aC0 b2), (1, (.slice pa plan.length pc)), (34, .agg (scC s (.slice p1 s.tests.length q1) (.slice r1 s.rifles.length z1)).toArray), (36, (.slice p3 plan.length q3)), (38, .agg (scC s (.slice p5 s.tests.length q5) (.slice ra s.rifles.length rc)).toArray), (7, aC0 b7)]) (fun ⟨p1, q1, r1, z1, p3, q3, p5, q5, b7, ()⟩ => [.ow (.slice p1 s.tests.length q1) 78 2 s.tests.length (spC s.tests), .ow (.slice r1 s.rifles.length z1) 3 1 s.rifles.length (aX s.rifles), .ow (.slice p3 plan.length q3) 91 3 plan.length (dK plan), .ow (.slice p5 s.tests.length q5) 172 2 s.tests.length (spC s.tests), .pt b7 [.int .i64 0, .int .i64 0, .slice none 0 0, .slice none 0 0] 51]) ?_ (fun hS1_3_5_7 => ?_)
      ·rintro ⟨p1, q1, r1, z1, p3, q3, p5, q5, b7, _⟩;refine bA qA fun K1 hK1 => ?_
       refine bG dY Z (fun b5 => ?_);(refine aN ?_);exact hK1 _ _ (hS1_3_5_6_7 ⟨p1, q1, r1, z1, p3, q3, p5, q5, b5, b7, ()⟩ _ _ ⟨Z, Z, Z, Z, Z, Z, Z, trivial⟩ O)
      refine cH (σ := Option Addr × Nat × Option Addr × Nat × Option Addr × Nat × Nat × Nat × Unit) (hZ) (fun ⟨p1, q1, r1, z1, p3, q3, b5, b7, ()⟩ => [(2, aC0 b2), (1, (.slice pa plan.length pc)), (34, .agg (scC s (.slice p1 s.tests.length q1) (.slice r1 s.rifles.length z1)).toArray), (36, (.slice p3 plan.length q3)), (5, aC0 b5), (7, aC0 b7)]) (fun ⟨p1, q1, r1, z1, p3, q3, b5, b7, ()⟩ => [.ow (.slice p1 s.tests.length q1) 78 2 s.tests.length (spC s.tests), .ow (.slice r1 s.rifles.length z1) 3 1 s.rifles.length (aX s.rifles), .ow (.slice p3 plan.length q3) 91 3 plan.length (dK plan), .pt b5 [.int .i64 0, .int .i64 0, .slice none 0 0, .slice none 0 0] 46, .pt b7 [.int .i64 0, .int .i64 0, .slice none 0 0, .slice none 0 0] 51]) ?_ (fun hS1_3_6_7 => ?_)
      ·rintro ⟨p1, q1, r1, z1, p3, q3, b5, b7, _⟩;refine bA qA fun K1 hK1 => ?_
       (refine aV U Z Z Z ?_)
       refine bX (β := Value) (ψ := fun y v => v = .agg (scC s y (.slice ra s.rifles.length rc)).toArray) (L' := fun y => [.ow y 172 2 s.tests.length (spC s.tests)]) U [] _ M0 Z Z Z Z (Sp.refl _) qC (fun w' hs => eU w' 0 w.heap.size s _ _ (h.keep hs.chg0) J) ?_;rintro u5 _ rfl;dsimp only [List.cons_append, List.nil_append];refine bO (fun w hs => hs.slice2 (v := u5) O) ?_;rintro ⟨p5, q5, rfl⟩;(refine aN ?_);exact hK1 _ _ (hS1_3_5_6_7 ⟨p1, q1, r1, z1, p3, q3, p5, q5, b5, b7, ()⟩ _ _ ⟨Z, Z, Z, Z, Z, Z, Z, trivial⟩ O)
      refine cH (σ := Option Addr × Nat × Option Addr × Nat × Option Addr × Nat × Option Addr × Nat × Unit) (mJ) (fun ⟨p1, q1, r1, z1, p3, q3, p5, q5, ()⟩ => [(2, aC0 b2), (1, (.slice pa plan.length pc)), (34, .agg (scC s (.slice p1 s.tests.length q1) (.slice r1 s.rifles.length z1)).toArray), (36, (.slice p3 plan.length q3)), (38, .agg (scC s (.slice p5 s.tests.length q5) (.slice ra s.rifles.length rc)).toArray)]) (fun ⟨p1, q1, r1, z1, p3, q3, p5, q5, ()⟩ => [.ow (.slice p1 s.tests.length q1) 78 2 s.tests.length (spC s.tests), .ow (.slice r1 s.rifles.length z1) 3 1 s.rifles.length (aX s.rifles), .ow (.slice p3 plan.length q3) 91 3 plan.length (dK plan), .ow (.slice p5 s.tests.length q5) 172 2 s.tests.length (spC s.tests)]) ?_ (fun hS1_3_5 => ?_)
      ·rintro ⟨p1, q1, r1, z1, p3, q3, p5, q5, _⟩;refine cA ?_ ?_
       ·refine bA qA fun K1 hK1 => ?_;refine bG dY Z (fun b5 => ?_)
        (refine aN ?_)
        exact hK1 _ _ (hS1_3_5_6 ⟨p1, q1, r1, z1, p3, q3, p5, q5, b5, ()⟩ _ _ ⟨Z, Z, Z, Z, Z, Z, trivial⟩ O)
       ·refine bA qA fun K1 hK1 => ?_;refine bG fE Z (fun b7 => ?_)
        (refine aN ?_)
        exact hK1 _ _ (hS1_3_5_7 ⟨p1, q1, r1, z1, p3, q3, p5, q5, b7, ()⟩ _ _ ⟨Z, Z, Z, Z, Z, Z, trivial⟩ O)
      refine cH (σ := Option Addr × Nat × Option Addr × Nat × Option Addr × Nat × Nat × Unit) (jJ) (fun ⟨p1, q1, r1, z1, p3, q3, b5, ()⟩ => [(2, aC0 b2), (1, (.slice pa plan.length pc)), (34, .agg (scC s (.slice p1 s.tests.length q1) (.slice r1 s.rifles.length z1)).toArray), (36, (.slice p3 plan.length q3)), (5, aC0 b5)]) (fun ⟨p1, q1, r1, z1, p3, q3, b5, ()⟩ => [.ow (.slice p1 s.tests.length q1) 78 2 s.tests.length (spC s.tests), .ow (.slice r1 s.rifles.length z1) 3 1 s.rifles.length (aX s.rifles), .ow (.slice p3 plan.length q3) 91 3 plan.length (dK plan), .pt b5 [.int .i64 0, .int .i64 0, .slice none 0 0, .slice none 0 0] 46]) ?_ (fun hS1_3_6 => ?_)
      ·rintro ⟨p1, q1, r1, z1, p3, q3, b5, _⟩;refine cA ?_ ?_
       ·refine bA qA fun K1 hK1 => ?_;(refine aV U Z Z Z ?_)
        refine bX (β := Value) (ψ := fun y v => v = .agg (scC s y (.slice ra s.rifles.length rc)).toArray) (L' := fun y => [.ow y 172 2 s.tests.length (spC s.tests)]) U [] _ M0 Z Z Z Z (Sp.refl _) qC (fun w' hs => eU w' 0 w.heap.size s _ _ (h.keep hs.chg0) J) ?_;rintro u5 _ rfl;dsimp only [List.cons_append, List.nil_append];refine bO (fun w hs => hs.slice2 (v := u5) O) ?_;rintro ⟨p5, q5, rfl⟩;(refine aN ?_);exact hK1 _ _ (hS1_3_5_6 ⟨p1, q1, r1, z1, p3, q3, p5, q5, b5, ()⟩ _ _ ⟨Z, Z, Z, Z, Z, Z, trivial⟩ O)
       ·refine bA qA fun K1 hK1 => ?_;refine bG fE Z (fun b7 => ?_)
        (refine aN ?_)
        exact hK1 _ _ (hS1_3_6_7 ⟨p1, q1, r1, z1, p3, q3, b5, b7, ()⟩ _ _ ⟨Z, Z, Z, Z, Z, Z, trivial⟩ O)
      refine cH (σ := Option Addr × Nat × Option Addr × Nat × Option Addr × Nat × Nat × Unit) (iU) (fun ⟨p1, q1, r1, z1, p3, q3, b7, ()⟩ => [(2, aC0 b2), (1, (.slice pa plan.length pc)), (34, .agg (scC s (.slice p1 s.tests.length q1) (.slice r1 s.rifles.length z1)).toArray), (36, (.slice p3 plan.length q3)), (7, aC0 b7)]) (fun ⟨p1, q1, r1, z1, p3, q3, b7, ()⟩ => [.ow (.slice p1 s.tests.length q1) 78 2 s.tests.length (spC s.tests), .ow (.slice r1 s.rifles.length z1) 3 1 s.rifles.length (aX s.rifles), .ow (.slice p3 plan.length q3) 91 3 plan.length (dK plan), .pt b7 [.int .i64 0, .int .i64 0, .slice none 0 0, .slice none 0 0] 51]) ?_ (fun hS1_3_7 => ?_)
      ·rintro ⟨p1, q1, r1, z1, p3, q3, b7, _⟩;refine cA ?_ ?_
       ·refine bA qA fun K1 hK1 => ?_;(refine aV U Z Z Z ?_)
        refine bX (β := Value) (ψ := fun y v => v = .agg (scC s y (.slice ra s.rifles.length rc)).toArray) (L' := fun y => [.ow y 172 2 s.tests.length (spC s.tests)]) U [] _ M0 Z Z Z Z (Sp.refl _) qC (fun w' hs => eU w' 0 w.heap.size s _ _ (h.keep hs.chg0) J) ?_;rintro u5 _ rfl;dsimp only [List.cons_append, List.nil_append];refine bO (fun w hs => hs.slice2 (v := u5) O) ?_;rintro ⟨p5, q5, rfl⟩;(refine aN ?_);exact hK1 _ _ (hS1_3_5_7 ⟨p1, q1, r1, z1, p3, q3, p5, q5, b7, ()⟩ _ _ ⟨Z, Z, Z, Z, Z, Z, trivial⟩ O)
       ·refine bA qA fun K1 hK1 => ?_;refine bG dY Z (fun b5 => ?_)
        (refine aN ?_)
        exact hK1 _ _ (hS1_3_6_7 ⟨p1, q1, r1, z1, p3, q3, b5, b7, ()⟩ _ _ ⟨Z, Z, Z, Z, Z, Z, trivial⟩ O)
      refine cH (σ := Option Addr × Nat × Option Addr × Nat × Nat × Nat × Unit) (iD) (fun ⟨p1, q1, r1, z1, b5, b7, ()⟩ => [(2, aC0 b2), (1, (.slice pa plan.length pc)), (34, .agg (scC s (.slice p1 s.tests.length q1) (.slice r1 s.rifles.length z1)).toArray), (5, aC0 b5), (7, aC0 b7)]) (fun ⟨p1, q1, r1, z1, b5, b7, ()⟩ => [.ow (.slice p1 s.tests.length q1) 78 2 s.tests.length (spC s.tests), .ow (.slice r1 s.rifles.length z1) 3 1 s.rifles.length (aX s.rifles), .pt b5 [.int .i64 0, .int .i64 0, .slice none 0 0, .slice none 0 0] 46, .pt b7 [.int .i64 0, .int .i64 0, .slice none 0 0, .slice none 0 0] 51]) ?_ (fun hS1_6_7 => ?_)
      ·rintro ⟨p1, q1, r1, z1, b5, b7, _⟩;refine bA qA fun K1 hK1 => ?_
       (refine aA2 xq ?_)
       refine bX (β := Value) (ψ := fun y v => v = y) (L' := fun y => [.ow y 91 3 plan.length (dK plan)]) U [] _ M0 Z Z Z Z (Sp.refl _) qC (fun w' hs => gH w' 0 w.heap.size _ plan (RdE.keep hp hs.chg0) J) ?_;rintro _ u3 rfl;dsimp only [List.cons_append, List.nil_append];refine bO (fun w hs => hs.slice2 (v := u3) O) ?_;rintro ⟨p3, q3, rfl⟩;(refine aN ?_);exact hK1 _ _ (hS1_3_6_7 ⟨p1, q1, r1, z1, p3, q3, b5, b7, ()⟩ _ _ ⟨Z, Z, Z, Z, Z, Z, trivial⟩ O)
      refine cH (σ := Option Addr × Nat × Option Addr × Nat × Option Addr × Nat × Unit) (lZ) (fun ⟨p1, q1, r1, z1, p3, q3, ()⟩ => [(2, aC0 b2), (1, (.slice pa plan.length pc)), (34, .agg (scC s (.slice p1 s.tests.length q1) (.slice r1 s.rifles.length z1)).toArray), (36, (.slice p3 plan.length q3))]) (fun ⟨p1, q1, r1, z1, p3, q3, ()⟩ => [.ow (.slice p1 s.tests.length q1) 78 2 s.tests.length (spC s.tests), .ow (.slice r1 s.rifles.length z1) 3 1 s.rifles.length (aX s.rifles), .ow (.slice p3 plan.length q3) 91 3 plan.length (dK plan)]) ?_ (fun hS1_3 => ?_)
      ·rintro ⟨p1, q1, r1, z1, p3, q3, _⟩;refine cA ?_ (cA ?_ ?_)
       ·refine bA qA fun K1 hK1 => ?_;(refine aV U Z Z Z ?_)
        refine bX (β := Value) (ψ := fun y v => v = .agg (scC s y (.slice ra s.rifles.length rc)).toArray) (L' := fun y => [.ow y 172 2 s.tests.length (spC s.tests)]) U [] _ M0 Z Z Z Z (Sp.refl _) qC (fun w' hs => eU w' 0 w.heap.size s _ _ (h.keep hs.chg0) J) ?_;rintro u5 _ rfl;dsimp only [List.cons_append, List.nil_append];refine bO (fun w hs => hs.slice2 (v := u5) O) ?_;rintro ⟨p5, q5, rfl⟩;(refine aN ?_);exact hK1 _ _ (hS1_3_5 ⟨p1, q1, r1, z1, p3, q3, p5, q5, ()⟩ _ _ ⟨Z, Z, Z, Z, Z, trivial⟩ O)
       ·refine bA qA fun K1 hK1 => ?_;refine bG dY Z (fun b5 => ?_)
        (refine aN ?_)
        exact hK1 _ _ (hS1_3_6 ⟨p1, q1, r1, z1, p3, q3, b5, ()⟩ _ _ ⟨Z, Z, Z, Z, Z, trivial⟩ O)
       ·refine bA qA fun K1 hK1 => ?_;refine bG fE Z (fun b7 => ?_)
        (refine aN ?_)
        exact hK1 _ _ (hS1_3_7 ⟨p1, q1, r1, z1, p3, q3, b7, ()⟩ _ _ ⟨Z, Z, Z, Z, Z, trivial⟩ O)
      refine cH (σ := Option Addr × Nat × Option Addr × Nat × Nat × Unit) (jH) (fun ⟨p1, q1, r1, z1, b5, ()⟩ => [(2, aC0 b2), (1, (.slice pa plan.length pc)), (34, .agg (scC s (.slice p1 s.tests.length q1) (.slice r1 s.rifles.length z1)).toArray), (5, aC0 b5)]) (fun ⟨p1, q1, r1, z1, b5, ()⟩ => [.ow (.slice p1 s.tests.length q1) 78 2 s.tests.length (spC s.tests), .ow (.slice r1 s.rifles.length z1) 3 1 s.rifles.length (aX s.rifles), .pt b5 [.int .i64 0, .int .i64 0, .slice none 0 0, .slice none 0 0] 46]) ?_ (fun hS1_6 => ?_)
      ·rintro ⟨p1, q1, r1, z1, b5, _⟩;refine cA ?_ ?_
       ·refine bA qA fun K1 hK1 => ?_;(refine aA2 xq ?_)
        refine bX (β := Value) (ψ := fun y v => v = y) (L' := fun y => [.ow y 91 3 plan.length (dK plan)]) U [] _ M0 Z Z Z Z (Sp.refl _) qC (fun w' hs => gH w' 0 w.heap.size _ plan (RdE.keep hp hs.chg0) J) ?_;rintro _ u3 rfl;dsimp only [List.cons_append, List.nil_append];refine bO (fun w hs => hs.slice2 (v := u3) O) ?_;rintro ⟨p3, q3, rfl⟩;(refine aN ?_);exact hK1 _ _ (hS1_3_6 ⟨p1, q1, r1, z1, p3, q3, b5, ()⟩ _ _ ⟨Z, Z, Z, Z, Z, trivial⟩ O)
       ·refine bA qA fun K1 hK1 => ?_;refine bG fE Z (fun b7 => ?_)
        (refine aN ?_)
        exact hK1 _ _ (hS1_6_7 ⟨p1, q1, r1, z1, b5, b7, ()⟩ _ _ ⟨Z, Z, Z, Z, Z, trivial⟩ O)
      refine cH (σ := Option Addr × Nat × Option Addr × Nat × Nat × Unit) (jM) (fun ⟨p1, q1, r1, z1, b7, ()⟩ => [(2, aC0 b2), (1, (.slice pa plan.length pc)), (34, .agg (scC s (.slice p1 s.tests.length q1) (.slice r1 s.rifles.length z1)).toArray), (7, aC0 b7)]) (fun ⟨p1, q1, r1, z1, b7, ()⟩ => [.ow (.slice p1 s.tests.length q1) 78 2 s.tests.length (spC s.tests), .ow (.slice r1 s.rifles.length z1) 3 1 s.rifles.length (aX s.rifles), .pt b7 [.int .i64 0, .int .i64 0, .slice none 0 0, .slice none 0 0] 51]) ?_ (fun hS1_7 => ?_)
      ·rintro ⟨p1, q1, r1, z1, b7, _⟩;refine cA ?_ ?_
       ·refine bA qA fun K1 hK1 => ?_;(refine aA2 xq ?_)
        refine bX (β := Value) (ψ := fun y v => v = y) (L' := fun y => [.ow y 91 3 plan.length (dK plan)]) U [] _ M0 Z Z Z Z (Sp.refl _) qC (fun w' hs => gH w' 0 w.heap.size _ plan (RdE.keep hp hs.chg0) J) ?_;rintro _ u3 rfl;dsimp only [List.cons_append, List.nil_append];refine bO (fun w hs => hs.slice2 (v := u3) O) ?_;rintro ⟨p3, q3, rfl⟩;(refine aN ?_);exact hK1 _ _ (hS1_3_7 ⟨p1, q1, r1, z1, p3, q3, b7, ()⟩ _ _ ⟨Z, Z, Z, Z, Z, trivial⟩ O)
       ·refine bA qA fun K1 hK1 => ?_;refine bG dY Z (fun b5 => ?_)
        (refine aN ?_)
        exact hK1 _ _ (hS1_6_7 ⟨p1, q1, r1, z1, b5, b7, ()⟩ _ _ ⟨Z, Z, Z, Z, Z, trivial⟩ O)
      refine cH (σ := Nat × Nat × Unit) (jI) (fun ⟨b5, b7, ()⟩ => [(2, aC0 b2), (1, (.slice pa plan.length pc)), (5, aC0 b5), (7, aC0 b7)]) (fun ⟨b5, b7, ()⟩ => [.pt b5 [.int .i64 0, .int .i64 0, .slice none 0 0, .slice none 0 0] 46, .pt b7 [.int .i64 0, .int .i64 0, .slice none 0 0, .slice none 0 0] 51]) ?_ (fun hS6_7 => ?_)
      ·rintro ⟨b5, b7, _⟩;refine bA qA fun K1 hK1 => ?_
       (refine aV U Z Z Z ?_)
       refine bX (β := Value × Value) (ψ := fun y v => v = .agg (scC s y.1 y.2).toArray) (L' := fun y => [.ow y.1 78 2 s.tests.length (spC s.tests), .ow y.2 3 1 s.rifles.length (aX s.rifles)]) U [] _ M0 Z Z Z Z (Sp.refl _) qC (fun w' hs => eS w' 0 w.heap.size s _ _ (h.keep hs.chg0) J J) ?_;rintro ⟨u1, v1⟩ _ rfl;dsimp only [List.cons_append, List.nil_append];refine bO (fun w hs => hs.slice2 (v := u1) O) ?_;rintro ⟨p1, q1, rfl⟩;refine bO (fun w hs => hs.slice2 (v := v1) O) ?_;rintro ⟨r1, z1, rfl⟩;(refine aN ?_);exact hK1 _ _ (hS1_6_7 ⟨p1, q1, r1, z1, b5, b7, ()⟩ _ _ ⟨Z, Z, Z, Z, Z, trivial⟩ O)
      refine cH (σ := Option Addr × Nat × Option Addr × Nat × Unit) (lM) (fun ⟨p1, q1, r1, z1, ()⟩ => [(2, aC0 b2), (1, (.slice pa plan.length pc)), (34, .agg (scC s (.slice p1 s.tests.length q1) (.slice r1 s.rifles.length z1)).toArray)]) (fun ⟨p1, q1, r1, z1, ()⟩ => [.ow (.slice p1 s.tests.length q1) 78 2 s.tests.length (spC s.tests), .ow (.slice r1 s.rifles.length z1) 3 1 s.rifles.length (aX s.rifles)]) ?_ (fun hS1 => ?_)
      ·rintro ⟨p1, q1, r1, z1, _⟩;refine cA ?_ (cA ?_ ?_)
       ·refine bA qA fun K1 hK1 => ?_;(refine aA2 xq ?_)
        refine bX (β := Value) (ψ := fun y v => v = y) (L' := fun y => [.ow y 91 3 plan.length (dK plan)]) U [] _ M0 Z Z Z Z (Sp.refl _) qC (fun w' hs => gH w' 0 w.heap.size _ plan (RdE.keep hp hs.chg0) J) ?_;rintro _ u3 rfl;dsimp only [List.cons_append, List.nil_append];refine bO (fun w hs => hs.slice2 (v := u3) O) ?_;rintro ⟨p3, q3, rfl⟩;(refine aN ?_);exact hK1 _ _ (hS1_3 ⟨p1, q1, r1, z1, p3, q3, ()⟩ _ _ ⟨Z, Z, Z, Z, trivial⟩ O)
       ·refine bA qA fun K1 hK1 => ?_;refine bG dY Z (fun b5 => ?_)
        (refine aN ?_)
        exact hK1 _ _ (hS1_6 ⟨p1, q1, r1, z1, b5, ()⟩ _ _ ⟨Z, Z, Z, Z, trivial⟩ O)
       ·refine bA qA fun K1 hK1 => ?_;refine bG fE Z (fun b7 => ?_)
        (refine aN ?_)
        exact hK1 _ _ (hS1_7 ⟨p1, q1, r1, z1, b7, ()⟩ _ _ ⟨Z, Z, Z, Z, trivial⟩ O)
      refine cH (σ := Nat × Unit) (lX) (fun ⟨b5, ()⟩ => [(2, aC0 b2), (1, (.slice pa plan.length pc)), (5, aC0 b5)]) (fun ⟨b5, ()⟩ => [.pt b5 [.int .i64 0, .int .i64 0, .slice none 0 0, .slice none 0 0] 46]) ?_ (fun hS6 => ?_)
      ·rintro ⟨b5, _⟩;refine cA ?_ ?_
       ·refine bA qA fun K1 hK1 => ?_;(refine aV U Z Z Z ?_)
        refine bX (β := Value × Value) (ψ := fun y v => v = .agg (scC s y.1 y.2).toArray) (L' := fun y => [.ow y.1 78 2 s.tests.length (spC s.tests), .ow y.2 3 1 s.rifles.length (aX s.rifles)]) U [] _ M0 Z Z Z Z (Sp.refl _) qC (fun w' hs => eS w' 0 w.heap.size s _ _ (h.keep hs.chg0) J J) ?_;rintro ⟨u1, v1⟩ _ rfl;dsimp only [List.cons_append, List.nil_append];refine bO (fun w hs => hs.slice2 (v := u1) O) ?_;rintro ⟨p1, q1, rfl⟩;refine bO (fun w hs => hs.slice2 (v := v1) O) ?_;rintro ⟨r1, z1, rfl⟩;(refine aN ?_);exact hK1 _ _ (hS1_6 ⟨p1, q1, r1, z1, b5, ()⟩ _ _ ⟨Z, Z, Z, Z, trivial⟩ O)
       ·refine bA qA fun K1 hK1 => ?_;refine bG fE Z (fun b7 => ?_)
        (refine aN ?_)
        exact hK1 _ _ (hS6_7 ⟨b5, b7, ()⟩ _ _ ⟨Z, Z, Z, Z, trivial⟩ O)
      refine cH (σ := Nat × Unit) (lL) (fun ⟨b7, ()⟩ => [(2, aC0 b2), (1, (.slice pa plan.length pc)), (7, aC0 b7)]) (fun ⟨b7, ()⟩ => [.pt b7 [.int .i64 0, .int .i64 0, .slice none 0 0, .slice none 0 0] 51]) ?_ (fun hS7 => ?_)
      ·rintro ⟨b7, _⟩;refine cA ?_ ?_
       ·refine bA qA fun K1 hK1 => ?_;(refine aV U Z Z Z ?_)
        refine bX (β := Value × Value) (ψ := fun y v => v = .agg (scC s y.1 y.2).toArray) (L' := fun y => [.ow y.1 78 2 s.tests.length (spC s.tests), .ow y.2 3 1 s.rifles.length (aX s.rifles)]) U [] _ M0 Z Z Z Z (Sp.refl _) qC (fun w' hs => eS w' 0 w.heap.size s _ _ (h.keep hs.chg0) J J) ?_;rintro ⟨u1, v1⟩ _ rfl;dsimp only [List.cons_append, List.nil_append];refine bO (fun w hs => hs.slice2 (v := u1) O) ?_;rintro ⟨p1, q1, rfl⟩;refine bO (fun w hs => hs.slice2 (v := v1) O) ?_;rintro ⟨r1, z1, rfl⟩;(refine aN ?_);exact hK1 _ _ (hS1_7 ⟨p1, q1, r1, z1, b7, ()⟩ _ _ ⟨Z, Z, Z, Z, trivial⟩ O)
       ·refine bA qA fun K1 hK1 => ?_;refine bG dY Z (fun b5 => ?_)
        (refine aN ?_)
        exact hK1 _ _ (hS6_7 ⟨b5, b7, ()⟩ _ _ ⟨Z, Z, Z, Z, trivial⟩ O)
      refine cA ?_ (cA ?_ ?_)
      ·refine bA qA fun K1 hK1 => ?_;(refine aV U Z Z Z ?_)
       refine bX (β := Value × Value) (ψ := fun y v => v = .agg (scC s y.1 y.2).toArray) (L' := fun y => [.ow y.1 78 2 s.tests.length (spC s.tests), .ow y.2 3 1 s.rifles.length (aX s.rifles)]) U [] _ M0 Z Z Z Z (Sp.refl _) qC (fun w' hs => eS w' 0 w.heap.size s _ _ (h.keep hs.chg0) J J) ?_;rintro ⟨u1, v1⟩ _ rfl;dsimp only [List.cons_append, List.nil_append];refine bO (fun w hs => hs.slice2 (v := u1) O) ?_;rintro ⟨p1, q1, rfl⟩;refine bO (fun w hs => hs.slice2 (v := v1) O) ?_;rintro ⟨r1, z1, rfl⟩;(refine aN ?_);exact hK1 _ _ (hS1 ⟨p1, q1, r1, z1, ()⟩ _ _ ⟨Z, Z, Z, trivial⟩ O)
      ·refine bA qA fun K1 hK1 => ?_;refine bG dY Z (fun b5 => ?_)
       (refine aN ?_)
       exact hK1 _ _ (hS6 ⟨b5, ()⟩ _ _ ⟨Z, Z, Z, trivial⟩ O)
      ·refine bA qA fun K1 hK1 => ?_;refine bG fE Z (fun b7 => ?_)
       (refine aN ?_)
       exact hK1 _ _ (hS7 ⟨b7, ()⟩ _ _ ⟨Z, Z, Z, trivial⟩ O)
     rintro ⟨p1, q1, r1, z1, p3, q3, p5, q5, b5, b7⟩;dsimp only;(refine aC (aB ?_); refine aP U Z Z Z ?_);refine aI (val := .tuple #[.int .i64 (fewU s), .int .i64 (eY s)]) U Z Z Z Z (fun w hs => ?_) ?_; exact rfewest_u w 0 w.heap.size s _ _ ⟨bY (hs.mem (c := .ow (.slice p1 s.tests.length q1) 78 2 s.tests.length (spC s.tests)) O) rfl, bU (hs.mem (c := .ow (.slice r1 s.rifles.length z1) 3 1 s.rifles.length (aX s.rifles)) O) Z⟩ m1 m2;(refine aA1 zq (aB5 xq (aB5 xq (aA1 zq (aA1 zq (aD (aC (aB ?_))))))); refine aP U Z Z Z ?_);refine aI (val := .tuple #[.int .i64 (fewU s), .int .i64 (eY s)]) U Z Z Z Z (fun w hs => ?_) ?_; exact rrfewest_u w 0 w.heap.size s _ _ (gD (h.keep hs.chg0) (bY (hs.mem (c := .ow (.slice p5 s.tests.length q5) 172 2 s.tests.length (spC s.tests)) O) Z) hs.chg.size) m1 m2;(refine aA1 zq (aB5 xq (aB5 xq (aA1 zq (aA1 zq (aD (aC (aC (aB (aA1 zq (aA1 zq (aA6 xq J ?_))))))))))); refine aA1 zq (aE Z (aA1 zq (aE Z (aA1 zq (aE Z (aA6 xq J (aA1 zq (aD (aG Z (aK (aC ?_))))))))))); refine aB ?_; refine aP U Z Z Z ?_);by_cases h0 : eY s = 0
     ·have hsok := dU.1 h0;have hpl2 := oY hsok.ok.rn8 hsok.le;have hdu := depU_plan h0;have hfu : fewU s = dE s (bP s) := by unfold fewU; rw [if_pos h0]
      obtain ⟨PL, hPL⟩ : ∃ P, P = jX s := ⟨_, rfl⟩;rw [h0, hfu];refine bC (β := Value) (ψ := fun y v => v = .tuple #[y, .int .i64 0]) (L' := fun y => [.ow y 91 3 PL.length (dK PL)]) U [] _ M0 Z Z Z Z (Sp.refl _) qC (fun w' hs => by rw [hPL]; exact rplan_ok w' 0 w'.heap.size s _ _ ⟨bY (hs.mem (c := .ow (.slice p1 s.tests.length q1) 78 2 s.tests.length (spC s.tests)) O) rfl, bU (hs.mem (c := .ow (.slice r1 s.rifles.length z1) 3 1 s.rifles.length (aX s.rifles)) O) Z⟩ hsok) ?_;rintro vl _ rfl;dsimp only [List.cons_append, List.nil_append];rw [← hPL] at hpl2 hdu;(refine aA1 zq (aB5 xq (aB5 xq (aA1 zq (aA1 zq (aD (aC (aC (aB (aA1 zq (aA1 zq (aA6 xq J ?_))))))))))); refine aA1 zq (aE Z (aA1 zq (aE Z (aA6 xq J (aE Z (aA1 zq ?_)))))); (iterate 3 refine aA8 yq ?_); refine aE Z (aA1 zq (aA1 zq (aD (aG Z (aK (aC (aC (aB (aA1 zq (aB2 xq J (aD ?_))))))))))); refine aH Z (aC ?_));refine bZ _ [] (Sp.refl _) qB qB ?_;(refine aV U Z Z Z ?_; refine aA2 xq ?_);refine bX (β := Value) (ψ := fun y v => v = y) (L' := fun y => [.ow y 213 3 PL.length (dK PL)]) U [] _ M0 Z Z Z Z (Sp.refl _) qC (fun w' hs => kF w' 0 w'.heap.size _ PL (fC (hs.mem (c := .ow vl 91 3 PL.length (dK PL)) O) Z) J) ?_;rintro _ vm rfl;dsimp only [List.cons_append, List.nil_append];refine bN (val := .tuple #[.int .i64 (kJ s PL).1, .int .i64 (kJ s PL).2]) U Z Z Z Z (fun w hs => ?_) ?_; exact kG w 0 w.heap.size s _ _ vm PL (gD (h.keep hs.chg0) (bY (hs.mem (c := .ow (.slice p5 s.tests.length q5) 172 2 s.tests.length (spC s.tests)) O) Z) hs.chg.size) m1 m2 (fC (hs.mem (c := .ow vm 213 3 PL.length (dK PL)) O) Z) J;rw [hdu];(refine aA2 xq (aB8 xq (aB8 xq (aA2 xq (aA2 xq (aN (aC (aB (aA1 zq (aA6 xq J (aA1 zq (aE Z ?_))))))))))); refine aA1 zq (aE Z (aA1 zq (aE Z (aA6 xq J (aA1 zq (aD (aG Z (aK (aC (aB ?_)))))))))); refine aP U Z Z Z ?_; refine aA1 zq ?_);refine aI (val := .tuple #[.int .i64 (kJ s plan).1, .int .i64 (kJ s plan).2]) U Z Z Z Z (fun w hs => ?_) ?_; exact oW w 0 w.heap.size s _ _ (.slice p3 plan.length q3) plan ⟨bY (hs.mem (c := .ow (.slice p1 s.tests.length q1) 78 2 s.tests.length (spC s.tests)) O) rfl, bU (hs.mem (c := .ow (.slice r1 s.rifles.length z1) 3 1 s.rifles.length (aX s.rifles)) O) Z⟩ m1 m2 (fC (hs.mem (c := .ow (.slice p3 plan.length q3) 91 3 plan.length (dK plan)) O) Z) J;(refine aA1 zq (aB5 xq (aB5 xq (aA1 zq (aA1 zq (aD (aC ?_)))))));refine bZ _ [] (Sp.refl _) qB qB ?_;(refine aV U Z Z Z ?_; refine aA2 xq ?_);refine bX (β := Value) (ψ := fun y v => v = y) (L' := fun y => [.ow y 213 3 plan.length (dK plan)]) U [] _ M0 Z Z Z Z (Sp.refl _) qC (fun w' hs => kF w' 0 w.heap.size _ plan (RdE.keep hp hs.chg0) J) ?_;rintro _ vn rfl;dsimp only [List.cons_append, List.nil_append];refine bN (val := .tuple #[.int .i64 (kJ s plan).1, .int .i64 (kJ s plan).2]) U Z Z Z Z (fun w hs => ?_) ?_; exact kG w 0 w.heap.size s _ _ vn plan (gD (h.keep hs.chg0) (bY (hs.mem (c := .ow (.slice p5 s.tests.length q5) 172 2 s.tests.length (spC s.tests)) O) Z) hs.chg.size) m1 m2 (fC (hs.mem (c := .ow vn 213 3 plan.length (dK plan)) O) Z) J
      (refine aA2 xq (aB8 xq (aB8 xq (aA2 xq (aA2 xq (aN (aC (aB (aA1 zq (aA1 zq (aB2 xq J (aA1 zq ?_))))))))))); refine aE Z (aA1 zq (aE Z (aA1 zq (aE Z (aB2 xq J (aA1 zq (aA1 zq (aE Z ?_)))))))); refine aP U Z Z Z ?_; refine aE Z ?_; refine aP U Z Z Z ?_; refine aE Z ?_)
      refine aI (val := .bool true) U Z Z Z Z (fun w hs => ?_) ?_; exact nF w 0 w.heap.size 0 w.heap.size s _ _ (.slice ta s.tests.length tc) (.slice ra s.rifles.length rc) ⟨bY (hs.mem (c := .ow (.slice p1 s.tests.length q1) 78 2 s.tests.length (spC s.tests)) O) rfl, bU (hs.mem (c := .ow (.slice r1 s.rifles.length z1) 3 1 s.rifles.length (aX s.rifles)) O) Z⟩ (ScR.self h hs.chg0 hs.chg.size) J J;(refine aA1 zq (aA1 zq (aE Z (aA1 zq (aE Z (aA1 zq (aE Z ?_)))))));refine aI (val := .bool true) U Z Z Z Z (fun w hs => ?_) ?_; exact eqN_ca w 0 w.heap.size _ _ _ (.slice pa plan.length pc) plan (fC (hs.mem (c := .ow (.slice p3 plan.length q3) 91 3 plan.length (dK plan)) O) Z) (RdE.keep hp hs.chg0) J;(refine aA1 zq (aA1 zq (aE Z ?_)));refine aI (val := .bool true) U Z Z Z Z (fun w hs => ?_) ?_; exact cY w;(refine aA1 zq (aA1 zq (aD (aS ?_))));refine aA5 wq O fun w hs => ?_;exact ⟨Z, hs.chg0⟩
     ·refine aI (val := .tuple #[.slice none 0 0, .int .i64 (eY s)]) U Z Z Z Z (fun w hs => ?_) ?_; exact rplan_no w 0 w.heap.size s _ _ ⟨bY (hs.mem (c := .ow (.slice p1 s.tests.length q1) 78 2 s.tests.length (spC s.tests)) O) rfl, bU (hs.mem (c := .ow (.slice r1 s.rifles.length z1) 3 1 s.rifles.length (aX s.rifles)) O) Z⟩ m1 m2 h0;(refine aA1 zq (aB5 xq (aB5 xq (aA1 zq (aA1 zq (aD (aC (aC (aB (aA1 zq (aA1 zq (aA6 xq J ?_))))))))))); refine aA1 zq (aE Z (aA1 zq (aE Z (aB0 xq J (aE Z (aA1 zq (aE Z (aA1 zq (aE Z (aA1 zq (aE Z ?_))))))))))); refine aB1 xq J (aE Z (aA1 zq (aA1 zq (aD (aG Z (aK (aC (aC (aB (aA1 zq (cZ U Z Z Z J ?_))))))))))); refine aD (aG Z (aK (aC (aB ?_)))); refine aP U Z Z Z ?_; refine aA1 zq ?_);refine aI (val := .tuple #[.int .i64 (kJ s plan).1, .int .i64 (kJ s plan).2]) U Z Z Z Z (fun w hs => ?_) ?_; exact oW w 0 w.heap.size s _ _ (.slice p3 plan.length q3) plan ⟨bY (hs.mem (c := .ow (.slice p1 s.tests.length q1) 78 2 s.tests.length (spC s.tests)) O) rfl, bU (hs.mem (c := .ow (.slice r1 s.rifles.length z1) 3 1 s.rifles.length (aX s.rifles)) O) Z⟩ m1 m2 (fC (hs.mem (c := .ow (.slice p3 plan.length q3) 91 3 plan.length (dK plan)) O) Z) J;(refine aA1 zq (aB5 xq (aB5 xq (aA1 zq (aA1 zq (aD (aC ?_)))))));refine bZ _ [] (Sp.refl _) qB qB ?_;(refine aV U Z Z Z ?_; refine aA2 xq ?_);refine bX (β := Value) (ψ := fun y v => v = y) (L' := fun y => [.ow y 213 3 plan.length (dK plan)]) U [] _ M0 Z Z Z Z (Sp.refl _) qC (fun w' hs => kF w' 0 w.heap.size _ plan (RdE.keep hp hs.chg0) J) ?_;rintro _ vn rfl;dsimp only [List.cons_append, List.nil_append];refine bN (val := .tuple #[.int .i64 (kJ s plan).1, .int .i64 (kJ s plan).2]) U Z Z Z Z (fun w hs => ?_) ?_; exact kG w 0 w.heap.size s _ _ vn plan (gD (h.keep hs.chg0) (bY (hs.mem (c := .ow (.slice p5 s.tests.length q5) 172 2 s.tests.length (spC s.tests)) O) Z) hs.chg.size) m1 m2 (fC (hs.mem (c := .ow vn 213 3 plan.length (dK plan)) O) Z) J;(refine aA2 xq (aB8 xq (aB8 xq (aA2 xq (aA2 xq (aN (aC (aB (aA1 zq (aA1 zq (aB2 xq J (aA1 zq ?_))))))))))); refine aE Z (aA1 zq (aE Z (aA1 zq (aE Z (aB2 xq J (aA1 zq (aA1 zq (aE Z ?_)))))))); refine aP U Z Z Z ?_; refine aE Z ?_; refine aP U Z Z Z ?_; refine aE Z ?_);refine aI (val := .bool true) U Z Z Z Z (fun w hs => ?_) ?_; exact nF w 0 w.heap.size 0 w.heap.size s _ _ (.slice ta s.tests.length tc) (.slice ra s.rifles.length rc) ⟨bY (hs.mem (c := .ow (.slice p1 s.tests.length q1) 78 2 s.tests.length (spC s.tests)) O) rfl, bU (hs.mem (c := .ow (.slice r1 s.rifles.length z1) 3 1 s.rifles.length (aX s.rifles)) O) Z⟩ (ScR.self h hs.chg0 hs.chg.size) J J;(refine aA1 zq (aA1 zq (aE Z (aA1 zq (aE Z (aA1 zq (aE Z ?_)))))));refine aI (val := .bool true) U Z Z Z Z (fun w hs => ?_) ?_; exact eqN_ca w 0 w.heap.size _ _ _ (.slice pa plan.length pc) plan (fC (hs.mem (c := .ow (.slice p3 plan.length q3) 91 3 plan.length (dK plan)) O) Z) (RdE.keep hp hs.chg0) J;(refine aA1 zq (aA1 zq (aE Z ?_)));refine aI (val := .bool true) U Z Z Z Z (fun w hs => ?_) ?_; exact cY w;(refine aA1 zq (aA1 zq (aD (aS ?_))))
      refine aA5 wq O fun w hs => ?_;exact ⟨Z, hs.chg0⟩
theorem gd_congr {C D : List Hd} {a b : Int} (h : ∀ x, x ∈ C ↔ x ∈ D) : Gd C a b ↔ Gd D a b := ⟨fun g => g.sub fun x hx => (h x).1 hx, fun g => g.sub fun x hx => (h x).2 hx⟩
theorem gap_uniq {L : List Hd} {a b g e g' e' : Int} (h : GapR L a b g e) (h' : GapR L a b g' e') : g = g' ∧ e = e' := by
 have nc : ∀ {x}, (∀ h ∈ L, h.cov x = false) → ∀ c d, c ≤ x → x < d → ¬ Gd L c d := fun hn c d h1 h2 hg => by
  obtain ⟨z, hz, hc⟩ := hg _ h1 h2;rw [hn z hz] at hc;cases hc
 rcases h with ⟨h1, h2, h3, h4⟩ | ⟨h1, h2, h3⟩
 ·rcases h' with ⟨k1, k2, k3, k4⟩ | ⟨k1, k2, k3⟩
  ·rcases Int.lt_trichotomy g g' with c | c | c
   ·exact absurd k3 (nc h4 _ _ h2.1 c)
   ·exact ⟨c, by rw [h1, k1]⟩
   ·exact absurd h3 (nc k4 _ _ k2.1 c)
  ·exact absurd k3 (nc h4 _ _ h2.1 h2.2)
 ·rcases h' with ⟨k1, k2, k3, k4⟩ | ⟨k1, k2, k3⟩
  ·exact absurd h3 (nc k4 _ _ k2.1 k2.2)
  ·exact ⟨by rw [h2, k2], by rw [h1, k1]⟩
def GpR (L : List Hd) (a b y : Int) : Prop := (y = b ∧ Gd L a b) ∨ ((a ≤ y ∧ y < b) ∧ Gd L a y ∧ ∀ x ∈ L, x.cov y = false)
theorem GpR.lt {L : List Hd} {a b y : Int} (h : GpR L a b y) : y < b ↔ ¬ Gd L a b := by
 rcases h with ⟨h1, h2⟩ | ⟨h1, h2, h3⟩
 ·constructor
  ·omega
  ·exact fun h => absurd h2 h
 ·refine ⟨fun _ hg => ?_, fun _ => h1.2⟩;obtain ⟨z, hz, hc⟩ := hg y h1.1 h1.2;rw [h3 z hz] at hc;cases hc
theorem gd_snoc {L : List Hd} {a t : Int} (h : Gd L a t) {x : Hd} (hx : x ∈ L) (hc : x.cov t = true) : Gd L a (t + 1) := fun m h1 h2 => by
 by_cases c : m < t
 ·exact h m h1 c
 ·obtain rfl : m = t := by omega
  exact ⟨x, hx, hc⟩
def lvl (L : List Hd) (a : Int) : Nat → Nat → Nat
 | 0, _ => 0
 | n + 1, i => if 0 < lvl L a n i ∨ (hdL L i).t ≤ a then lvl L a n i else
  if (n = 0 ∧ (hdL L i).f ≤ a) ∨ (0 < n ∧ ∃ k, k < L.length ∧ lvl L a n k = n ∧ (hdL L i).f ≤ (hdL L k).t) then n + 1 else 0
section
variable {L : List Hd} {a b : Int}
theorem lvl_le : ∀ (n i : Nat), lvl L a n i ≤ n
 | 0, _ => Nat.le_refl _
 | n + 1, i => by
  have h := lvl_le n i;rw [lvl];split
  ·omega
  ·split
   ·omega
   ·omega
theorem lvl_self {n i : Nat} (h : 0 < lvl L a n i) : lvl L a (lvl L a n i) i = lvl L a n i := by
 induction n with
 | zero => exact absurd h (by simp [lvl])
 | succ n ih =>
  have e : lvl L a (n + 1) i = if 0 < lvl L a n i ∨ (hdL L i).t ≤ a then lvl L a n i else if (n = 0 ∧ (hdL L i).f ≤ a) ∨ (0 < n ∧ ∃ k, k < L.length ∧ lvl L a n k = n ∧ (hdL L i).f ≤ (hdL L k).t) then n + 1 else 0 := rfl
  by_cases c : 0 < lvl L a n i ∨ (hdL L i).t ≤ a
  ·rw [if_pos c] at e;rw [e] at h ⊢;exact ih h
  ·rw [if_neg c] at e;by_cases c2 : (n = 0 ∧ (hdL L i).f ≤ a) ∨ (0 < n ∧ ∃ k, k < L.length ∧ lvl L a n k = n ∧ (hdL L i).f ≤ (hdL L k).t)
   ·rw [if_pos c2] at e;rw [e, e]
   ·rw [if_neg c2] at e;omega
theorem lvl_gd : ∀ (n i : Nat), i < L.length → 0 < lvl L a n i → ∃ C : List Hd, (∀ x ∈ C, x ∈ L) ∧ C.length = lvl L a n i ∧ Gd C a (hdL L i).t
 | 0, i, _, h => absurd h (by simp [lvl])
 | n + 1, i, hi, h => by
  rw [lvl] at h ⊢;by_cases c : 0 < lvl L a n i ∨ (hdL L i).t ≤ a
  ·rw [if_pos c] at h ⊢;exact lvl_gd n i hi h
  ·rw [if_neg c] at h ⊢;by_cases c2 : (n = 0 ∧ (hdL L i).f ≤ a) ∨ (0 < n ∧ ∃ k, k < L.length ∧ lvl L a n k = n ∧ (hdL L i).f ≤ (hdL L k).t)
   ·rw [if_pos c2];rcases c2 with ⟨rfl, hf⟩ | ⟨hn, k, hk, hl, hf⟩
    ·exact ⟨[hdL L i], fun x hx => by rw [List.mem_singleton.1 hx]; exact hdL_mem hi, Z, fun m h1 h2 => ⟨_, List.mem_singleton.2 rfl, Hd.cov_iff.2 ⟨by omega, h2⟩⟩⟩
    ·obtain ⟨C, hC, hlen, hg⟩ := lvl_gd n k hk J;refine ⟨hdL L i :: C, fun x hx => ?_, by rw [List.length_cons, hlen, hl], fun m h1 h2 => ?_⟩
     ·rcases List.mem_cons.1 hx with rfl | hx
      ·exact hdL_mem hi
      ·exact hC x hx
     ·by_cases c3 : m < (hdL L k).t
      ·obtain ⟨x, hx, hc⟩ := hg m h1 c3;exact ⟨x, .tail _ hx, hc⟩
      ·exact ⟨_, .head _, Hd.cov_iff.2 ⟨by omega, h2⟩⟩
   ·rw [if_neg c2] at h;omega
theorem lvl_next {n i k : Nat} (hk : k < L.length) (h0 : 0 < lvl L a n k) (hf : (hdL L i).f ≤ (hdL L k).t) (ht : a < (hdL L i).t) : 0 < lvl L a (lvl L a n k + 1) i ∧ lvl L a (lvl L a n k + 1) i ≤ lvl L a n k + 1 := by
 refine ⟨?_, lvl_le _ _⟩;have hs := lvl_self h0;generalize lvl L a n k = v at hs h0;rw [lvl];split
 ·rename_i h
  rcases h with h | h
  ·exact h
  ·omega
 ·rw [if_pos (.inr ⟨h0, k, hk, hs, hf⟩)];omega
def FndL (L : List Hd) (a b : Int) (n : Nat) : Prop := ∃ i, i < L.length ∧ lvl L a n i = n ∧ b ≤ (hdL L i).t
theorem fnd_of {n i : Nat} (hi : i < L.length) (h0 : 0 < lvl L a n i) (ht : b ≤ (hdL L i).t) : FndL L a b (lvl L a n i) := ⟨i, hi, lvl_self h0, ht⟩
theorem lk_fnd {c e : Int} {hs : List Nat} {ms : List Int} (h : Lk L b c hs ms e) (he : e = b) : ∀ (n k : Nat), k < L.length → 0 < lvl L a n k → (hdL L k).t = c → a ≤ c → ∃ v, 0 < v ∧ v ≤ lvl L a n k + hs.length ∧ FndL L a b v := by
 induction h with
 | @done c hbc =>
  intro n k hk h0 ht ha;exact ⟨lvl L a n k, h0, by simp, fnd_of hk h0 J⟩
 | gap h1 _ => omega
 | @step c e i hs ms g1 g2 g3 g4 g5 ih =>
  intro n k hk h0 ht ha;rw [Hd.cov_iff] at g3;have hn := lvl_next (a := a) hk h0 (i := i) J J;obtain ⟨v, h1, h2, h3⟩ := ih he _ i g2 hn.1 rfl J;exact ⟨v, h1, by simp only [List.length_cons]; omega, h3⟩
theorem lk_found {hs : List Nat} {ms : List Int} (h : Lk L b a hs ms b) (hab : a < b) : ∃ v, 0 < v ∧ v ≤ hs.length ∧ FndL L a b v := by
 cases h with
 | done h => omega
 | gap h _ => omega
 | @step a e i hs ms g1 g2 g3 g4 g5 =>
  rw [Hd.cov_iff] at g3
  have h1 : lvl L a 1 i = 1 := by
   rw [show (1 : Nat) = 0 + 1 from rfl, lvl, if_neg (fun h => by rcases h with h | h; exact absurd h (by simp [lvl]); omega), if_pos (.inl ⟨rfl, g3.1⟩)]
  obtain ⟨v, k1, k2, k3⟩ := lk_fnd (a := a) g5 rfl 1 i g2 J rfl J;exact ⟨v, k1, by simp only [List.length_cons]; omega, k3⟩
theorem fnd_len {hs : List Nat} {ms : List Int} (h : Lk L b a hs ms b) (hab : a < b) {n : Nat} (hn : 0 < n) (hf : FndL L a b n) (hno : ∀ m, 0 < m → m < n → ¬ FndL L a b m) : n = hs.length := by
 refine Nat.le_antisymm ?_ ?_
 ·obtain ⟨v, h1, h2, h3⟩ := lk_found h hab;refine Nat.le_of_not_lt fun c => hno v h1 J h3
 ·obtain ⟨i, h1, h2, h3⟩ := hf;obtain ⟨C, hC, hl, hg⟩ := lvl_gd (a := a) n i h1 J;have := h.min hC (hg.part (Int.le_refl _) h3);rw [hl, h2] at this;exact this
theorem fnd_ex {hs : List Nat} {ms : List Int} (h : Lk L b a hs ms b) (hab : a < b) : ∃ v, 0 < v ∧ v ≤ L.length ∧ FndL L a b v := by
 obtain ⟨v, h1, h2, h3⟩ := lk_found h hab;have := h.min (C := L) (fun _ h => h) ((h.full J).1 rfl);exact ⟨v, h1, by omega, h3⟩
end
theorem one_iff {h : Hd} : ∀ {M : List Int}, (M.filter h.cov).length ≤ 1 ↔ M.Pairwise fun x y => ¬ (h.cov x = true ∧ h.cov y = true)
 | [] => by simp
 | m :: M => by
  rw [List.pairwise_cons, ← one_iff, List.filter_cons];by_cases c : h.cov m = true
  ·rw [if_pos c, List.length_cons];constructor
   ·intro h1;have h0 : (M.filter h.cov) = [] := List.eq_nil_of_length_eq_zero J;refine ⟨fun x hx ⟨_, h2⟩ => ?_, by omega⟩;have := List.mem_filter.2 ⟨hx, h2⟩;rw [h0] at this;cases this
   ·rintro ⟨h1, _⟩;have h0 : (M.filter h.cov) = [] := List.filter_eq_nil_iff.2 fun x hx h2 => h1 x hx ⟨c, h2⟩
    rw [h0];exact Nat.le_refl _
  ·rw [if_neg c];exact ⟨fun h1 => ⟨fun x _ h2 => c h2.1, h1⟩, fun h1 => h1.2⟩
theorem mk_iff {L : List Hd} {a b : Int} {M : List Int} : Mk L a b M ↔ (∀ m ∈ M, a ≤ m ∧ m < b) ∧ M.Pairwise (· < ·) ∧ ∀ h ∈ L, (M.filter h.cov).length ≤ 1 := by
 constructor
 ·intro h;exact ⟨h.bd, h.inc, fun x hx => one_iff.2 (h.one.imp fun g => g x hx)⟩
 ·rintro ⟨h1, h2, h3⟩;refine ⟨h1, h2, ?_⟩
  have : ∀ (M : List Int), (∀ h ∈ L, M.Pairwise fun x y => ¬ (h.cov x = true ∧ h.cov y = true)) → M.Pairwise fun x y => ∀ h ∈ L, ¬ (h.cov x = true ∧ h.cov y = true) := by
   intro M
   induction M with
   | nil => intro _; exact .nil
   | cons m M ih =>
    intro hp;refine List.pairwise_cons.2 ⟨fun y hy h hh => (List.pairwise_cons.1 (hp h hh)).1 y hy, ih fun h hh => (List.pairwise_cons.1 (hp h hh)).2⟩
  exact this M fun h hh => one_iff.1 (h3 h hh)
theorem rchkG_ca (w : World) (lo hi : Nat) (L : List Hd) (v : Value) (h : RdH w lo hi v L) (hlen : L.length ≤ maxLen) : Ca Tryz.prog 71 [v] w fun x w' => x = .int .i64 (chkG L) ∧ Chg [] w w' := by
 obtain ⟨a, ca, rfl, hsa⟩ := RdH.outI h;simp only [maxLen] at hlen;refine cN (Sat.nil w M0) Tryz.func71 Z (by simp [Tryz.ntmps71]) ?_;by_cases c1 : L.length < 1
 ·have hbad : chkG L = 2 := by unfold chkG; rw [if_pos (.inl c1)]
  (refine aC (aB (aA1 zq (aD (aC (aC (aB (aA1 zq (aA1 zq (aB3 xq J (aA1 zq ?_)))))))))); (iterate 3 refine aA8 yq ?_); refine aA1 zq (aD (aH Z (aC (aB (aA1 zq (aD (aS ?_))))))))
  refine aA5 wq O fun w hs => ?_;exact ⟨by rw [hbad]; rfl, hs.chg0⟩
 ·by_cases c2 : 30 < L.length
  ·have hbad : chkG L = 2 := by unfold chkG; rw [if_pos (.inr c2)]
   (refine aC (aB (aA1 zq (aD (aC (aC (aB (aA1 zq (aA1 zq (aB4 xq J (aA1 zq (aE Z ?_))))))))))); refine aA1 zq (aE Z (aA1 zq (aE Z (cR U Z Z Z J (aA1 zq (aD (aH Z (aC (aB (aA1 zq (aD ?_))))))))))); refine aS ?_)
   refine aA5 wq O fun w hs => ?_;exact ⟨by rw [hbad]; rfl, hs.chg0⟩
  ·have e0 : chkG L = if L.all hdB = true then 0 else 3 := by unfold chkG; rw [if_neg J]
   obtain ⟨gb, go, rfl⟩ := hsa J;(refine aC (aB (aA1 zq (aD (aC (aC (aB (aA1 zq (aA1 zq (aB4 xq J (aA1 zq (aE Z ?_))))))))))); refine aA1 zq (aE Z (aA1 zq (aE Z (aB1 xq J (aA1 zq (aD (aG Z (aK (aC (aC (aB ?_))))))))))); refine aA1 zq (aD (aM ?_)));refine bM (σ := Nat) (fun k => k ≤ L.length ∧ (L.take k).all hdB = true) (fun k => L.length - k) (fun k => [(0, .slice (some ⟨gb, go, none⟩) L.length ca), (3, .int .i64 k)]) (fun _ => []) 0 ⟨by omega, Z⟩ ⟨Z, Z, trivial⟩ O ?_;rintro k ⟨hk, ha⟩ K hK;(refine aC (aC (aB ?_)); (iterate 4 refine aA1 zq ?_); refine aD ?_);refine dN Z (fun hc => ?_) (fun hc => ?_)
   ·have hk2 : k < L.length := by omega
    clear hc;have hall := kM (p := hdB) hk2 ha;have hnot := mI (p := hdB) hk2;have hdb : hdB L[k] = ((inB L[k].who 0 99 && inB L[k].f 0 L[k].t) && decide (L[k].t ≤ 10000)) := rfl;(refine aK (aC (aM (aC ?_))));refine bZ _ [] (Sp.refl _) qB qB ?_;(refine aA2 xq (aA2 xq ?_));refine aA3 Wa J J ?_;(refine aA2 xq ?_);refine aR (v := .int .i64 L[k].who) U Z Z Z (fun w hs => RdH.at0 (RdE.keep h hs.chg0) k hk2) ?_;refine bN (val := .bool (!(inB L[k].who 0 99))) U Z Z Z Z (fun w hs => ?_) ?_; exact fD L[k].who 0 99 w;cases hw : inB L[k].who 0 99 with
    | false =>
     have hbad : chkG L = 3 := by rw [e0, if_neg (by rw [hnot (by rw [hdb, hw]; rfl)]; simp)]
     (refine aA2 xq ?_; (iterate 6 refine dH Z Z Z ?_); refine aA2 xq (aA2 xq ?_); (iterate 6 refine dH Z Z Z ?_); refine aA2 xq (aA2 xq ?_); (iterate 11 refine dH Z Z Z ?_); refine aA2 xq (aN (aH Z (aC (aB (aA1 zq (aD (aS ?_))))))))
     refine aA5 wq O fun w hs => ?_;exact ⟨by rw [hbad]; rfl, hs.chg0⟩
    | true =>
     (refine aA2 xq (aL Z (aA2 xq (aL Z (aA2 xq (aL Z ?_))))))
     refine aA3 Wa J J ?_;(refine aL Z (aA2 xq (aL Z ?_)));refine aR (v := .int .i64 L[k].f) U Z Z Z (fun w hs => RdH.at1 (RdE.keep h hs.chg0) k hk2) ?_;by_cases hf : L[k].f < 0
     ·have hbad : chkG L = 3 := by rw [e0, if_neg (by rw [hnot (by rw [hdb, show inB L[k].f 0 L[k].t = false from by rw [← Bool.not_eq_true, bV]; omega]; simp)]; simp)]
      (refine aL Z (kX U Z Z Z J (aA2 xq (aA2 xq ?_))); (iterate 6 refine dH Z Z Z ?_); refine aA2 xq (aA2 xq ?_); (iterate 11 refine dH Z Z Z ?_); refine aA2 xq (aN (aH Z (aC (aB (aA1 zq (aD (aS ?_))))))))
      refine aA5 wq O fun w hs => ?_;exact ⟨by rw [hbad]; rfl, hs.chg0⟩
     ·(refine aL Z (kO U Z Z Z J (aA2 xq (aA2 xq (aL Z (aA2 xq (aL Z (aA2 xq (aL Z ?_)))))))))
      refine aA3 Wa J J ?_;(refine aL Z (aA2 xq (aL Z ?_)));refine aR (v := .int .i64 L[k].t) U Z Z Z (fun w hs => RdH.at2 (RdE.keep h hs.chg0) k hk2) ?_;by_cases ht : 10000 < L[k].t
      ·have hbad : chkG L = 3 := by rw [e0, if_neg (by rw [hnot (by rw [hdb, decide_eq_false (show ¬ L[k].t ≤ 10000 by omega)]; simp)]; simp)]
       (refine aL Z (gX U Z Z Z J (aA2 xq (aA2 xq ?_))); (iterate 11 refine dH Z Z Z ?_); refine aA2 xq (aN (aH Z (aC (aB (aA1 zq (aD (aS ?_))))))))
       refine aA5 wq O fun w hs => ?_;exact ⟨by rw [hbad]; rfl, hs.chg0⟩
      ·(refine aL Z (gF U Z Z Z J (aA2 xq (aA2 xq (aL Z (aA2 xq (aL Z (aA2 xq (aL Z ?_)))))))))
       refine aA3 Wa J J ?_;(refine aL Z (aA2 xq (aL Z ?_)));refine aR (v := .int .i64 L[k].f) U Z Z Z (fun w hs => RdH.at1 (RdE.keep h hs.chg0) k hk2) ?_;(refine aL Z (aA2 xq (aL Z (aA2 xq (aL Z ?_)))));refine aA3 Wa J J ?_;(refine aL Z (aA2 xq (aL Z ?_)));refine aR (v := .int .i64 L[k].t) U Z Z Z (fun w hs => RdH.at2 (RdE.keep h hs.chg0) k hk2) ?_;by_cases hft : L[k].t < L[k].f
       ·have hbad : chkG L = 3 := by rw [e0, if_neg (by rw [hnot (by rw [hdb, show inB L[k].f 0 L[k].t = false from by rw [← Bool.not_eq_true, bV]; omega]; simp)]; simp)]
        (refine aL Z (gX U Z Z Z J (aA2 xq (aN (aH Z (aC (aB (aA1 zq (aD (aS ?_))))))))))
        refine aA5 wq O fun w hs => ?_;exact ⟨by rw [hbad]; rfl, hs.chg0⟩
       ·(refine aL Z (gF U Z Z Z J (aA2 xq (aN (aG Z (aK (bK (aB (aA1 zq (aA4 uq J J (aA1 zq (aD ?_))))))))))))
        exact hK (k + 1) _ _ ⟨by omega, hall (by rw [hdb, hw, bV.2 (show 0 ≤ L[k].f ∧ L[k].f ≤ L[k].t by omega), decide_eq_true (show L[k].t ≤ 10000 by omega)]; rfl)⟩ J ⟨Z, Z, trivial⟩ O
   ·obtain rfl : k = L.length := by omega
    clear hc hK;rw [List.take_length] at ha;(refine bH _ Z (aC (aB (aA1 zq (aD (aS ?_))))));refine aA5 wq O fun w hs => ?_
    exact ⟨by rw [e0, if_pos ha]; rfl, hs.chg0⟩
theorem hU (w : World) (lo hi : Nat) (L : List Hd) (v : Value) (a b : Int) (h : RdH w lo hi v L) (hlen : L.length ≤ maxLen) : Ca Tryz.prog 141 [v, .int .i64 a, .int .i64 b] w fun x w' => x = .int .i64 (dI L a b) ∧ Chg [] w w' := by
 refine cN (Sat.nil w M0) Tryz.func141 Z (by simp [Tryz.ntmps141]) ?_;(refine aC (aB (aA1 zq (aD (aC (aC (aB (aA1 zq ?_))))))));refine aI (val := .int .i64 (chkG L)) U Z Z Z Z (fun w hs => ?_) ?_; exact rchkG_ca w lo hi L v (RdE.keep h hs.chg0) hlen;by_cases h0 : chkG L = 0
 ·have e0 : dI L a b = if (0 ≤ a ∧ a ≤ 10000) ∧ a < b ∧ b ≤ 10000 then 0 else 3 := by
   unfold dI;rw [if_neg (by simpa using h0)]
  rw [e0];by_cases h1 : a < 0
  ·(refine aA1 zq (aD (aC (aB (aA1 zq (aA6 xq J (aD (aG Z (aK (aC (aC (aB ?_))))))))))); refine aA1 zq (aB3 xq J (aA1 zq (aA8 yq (aA8 yq (aA1 zq (aA1 zq ?_)))))); (iterate 3 refine aA8 yq ?_); refine aA1 zq (aD (aH Z (aC (aB (aA1 zq (aD (aS ?_))))))))
   refine aA5 wq O fun w hs => ?_;exact ⟨by rw [if_neg J]; rfl, hs.chg0⟩
  ·by_cases h2 : 10000 < b
   ·(refine aA1 zq (aD (aC (aB (aA1 zq (aA6 xq J (aD (aG Z (aK (aC (aC (aB ?_))))))))))); refine aA1 zq (aB4 xq J (aA1 zq (aE Z (aA1 zq (aE Z (cR U Z Z Z J (aA1 zq (aA1 zq ?_)))))))); (iterate 3 refine aA8 yq ?_); refine aA1 zq (aD (aH Z (aC (aB (aA1 zq (aD (aS ?_))))))))
    refine aA5 wq O fun w hs => ?_;exact ⟨by rw [if_neg J]; rfl, hs.chg0⟩
   ·by_cases h3 : b ≤ a
    ·(refine aA1 zq (aD (aC (aB (aA1 zq (aA6 xq J (aD (aG Z (aK (aC (aC (aB ?_))))))))))); refine aA1 zq (aB4 xq J (aA1 zq (aE Z (aA1 zq (aE Z (aB1 xq J (aA1 zq (aA1 zq (aE Z (aA1 zq (aE Z ?_))))))))))); refine aA1 zq (aE Z (jP U Z Z Z J (aA1 zq (aD (aH Z (aC (aB (aA1 zq (aD (aS ?_)))))))))))
     refine aA5 wq O fun w hs => ?_;exact ⟨by rw [if_neg J]; rfl, hs.chg0⟩
    ·(refine aA1 zq (aD (aC (aB (aA1 zq (aA6 xq J (aD (aG Z (aK (aC (aC (aB ?_))))))))))); refine aA1 zq (aB4 xq J (aA1 zq (aE Z (aA1 zq (aE Z (aB1 xq J (aA1 zq (aA1 zq (aE Z (aA1 zq (aE Z ?_))))))))))); refine aA1 zq (aE Z (jT U Z Z Z J (aA1 zq (aD (aG Z (aK (aC (aB (aA1 zq (aD (aS ?_))))))))))))
     refine aA5 wq O fun w hs => ?_;exact ⟨by rw [if_pos J]; rfl, hs.chg0⟩
 ·have e0 : dI L a b = chkG L := by
   unfold dI;rw [if_pos h0]
  rw [e0];(refine aA1 zq (aD (aC (aB (aA1 zq (aB0 xq J (aD (aH Z (aC (aB (aA1 zq (aA1 zq ?_))))))))))); refine aD (aS ?_));refine aA5 wq O fun w hs => ?_
  exact ⟨Z, hs.chg0⟩
theorem any_next {L : List Hd} {k : Nat} (hk : k < L.length) (t : Int) : (L.take (k + 1)).any (fun h => h.cov t) = ((L.take k).any (fun h => h.cov t) || L[k].cov t) := by
 rw [List.take_succ_eq_append_getElem hk, List.any_append];simp
theorem rgap_ca (w : World) (lo hi : Nat) (L : List Hd) (v : Value) (a b : Int) (h : RdH w lo hi v L) (hlen : L.length ≤ maxLen) (hab : a ≤ b) (ha0 : 0 ≤ a) (hb0 : b ≤ 10000) : Ca Tryz.prog 142 [v, .int .i64 a, .int .i64 b] w fun x w' => (∃ y : Int, x = .int .i64 y ∧ GpR L a b y) ∧ Chg [] w w' := by
 obtain ⟨va, vc, rfl, hsa⟩ := RdH.outI h;simp only [maxLen] at hlen;refine cN (Sat.nil w M0) Tryz.func142 Z (by simp [Tryz.ntmps142]) ?_;(refine aC (aB (aA1 zq (aD (aC (aC (aB (aA1 zq (aA1 zq (aD (aM ?_)))))))))));refine bM (σ := Int) (fun t => (a ≤ t ∧ t ≤ b) ∧ Gd L a t) (fun t => (b - t).toNat) (fun t => [(0, .slice va L.length vc), (2, .int .i64 b), (7, .int .i64 t)]) (fun _ => []) a ⟨by omega, fun m h1 h2 => by omega⟩ ⟨Z, Z, Z, trivial⟩ O ?_;rintro t ⟨⟨t1, t2⟩, hG⟩ K hK;(refine aC (aC (aB ?_)); (iterate 3 refine aA1 zq ?_); refine aD ?_);refine dN Z (fun hc => ?_) (fun hc => ?_)
 ·have htb : t < b := by simpa using hc
  clear hc;(refine aK (aC (aM (aC (aB (aA1 zq (aD (aC (aC (aB (aA1 zq (aD ?_))))))))))); refine aM ?_);refine bM (σ := Nat × Bool) (fun ⟨k, c⟩ => k ≤ L.length ∧ c = (L.take k).any (fun h => h.cov t)) (fun ⟨k, _⟩ => L.length - k) (fun ⟨k, c⟩ => [(0, .slice va L.length vc), (2, .int .i64 b), (7, .int .i64 t), (8, .bool c), (9, .int .i64 k)]) (fun _ => []) (0, false) ⟨by omega, Z⟩ ⟨Z, Z, Z, Z, Z, trivial⟩ O ?_;rintro ⟨k, c⟩ ⟨hk, hcv⟩ K2 hK2;dsimp only at hk hcv hK2 ⊢;cases c with
  | true =>
   have hex : ∃ x ∈ L, x.cov t = true := by
    obtain ⟨x, hx, hxc⟩ := List.any_eq_true.1 hcv.symm;exact ⟨x, List.mem_of_mem_take hx, hxc⟩
   obtain ⟨x, hx, hxc⟩ := hex;by_cases hk2 : k < L.length
   ·(refine aC (aC (aB ?_)); (iterate 3 refine aA1 zq ?_); refine aB3 xq J (aA1 zq (aE Z (aA1 zq (aE Z (aA1 zq (aA1 zq (aD (aG Z (bH _ Z (aC (aB ?_))))))))))); refine aA1 zq (aA1 zq (aD (aG Z (aK (bK (aB (aA1 zq (aA4 uq J J (aA1 zq (aD ?_)))))))))))
    exact hK (t + 1) _ _ ⟨by omega, gd_snoc hG hx hxc⟩ J ⟨Z, Z, Z, trivial⟩ O
   ·(refine aC (aC (aB ?_)); (iterate 3 refine aA1 zq ?_); refine aB4 xq J (aA1 zq (aA8 yq (aA8 yq (aA1 zq (aD (aG Z (bH _ Z (aC (aB (aA1 zq (aA1 zq ?_))))))))))); refine aD (aG Z (aK (bK (aB (aA1 zq (aA4 uq J J (aA1 zq (aD ?_)))))))))
    exact hK (t + 1) _ _ ⟨by omega, gd_snoc hG hx hxc⟩ J ⟨Z, Z, Z, trivial⟩ O
  | false =>
   by_cases hk2 : k < L.length
   ·obtain ⟨gb, go, rfl⟩ := hsa J;have hnx := any_next hk2 t;rw [← hcv, Bool.false_or] at hnx;(refine aC (aC (aB ?_)); (iterate 3 refine aA1 zq ?_); refine aB3 xq J (aA1 zq (aE Z (aA1 zq (aE Z (aA1 zq (aA1 zq (aD (aH Z (aK (aC (aM ?_))))))))))); refine aB (aA1 zq (aA1 zq ?_)));refine aA7 Wa J J ?_;(refine aA1 zq ?_);refine bI (v := .int .i64 L[k].f) U Z Z Z (fun w hs => RdH.at1 (RdE.keep h hs.chg0) k hk2) ?_;by_cases hf : L[k].f ≤ t
    ·(refine aA1 zq (jU U Z Z Z J (aA1 zq (aE Z (aA1 zq (aE Z (aA1 zq (aE Z ?_))))))))
     refine aA7 Wa J J ?_;(refine aE Z (aA1 zq (aE Z ?_)));refine bI (v := .int .i64 L[k].t) U Z Z Z (fun w hs => RdH.at2 (RdE.keep h hs.chg0) k hk2) ?_;by_cases ht : t + 1 ≤ L[k].t
     ·(refine aE Z (aA1 zq (aE Z (aA4 uq J J (aE Z (jP U Z Z Z J (aA1 zq (aA1 zq (aD (bK (aB (aA1 zq ?_))))))))))); refine aA4 uq J J (aA1 zq (aD ?_)))
      exact hK2 (k + 1, true) _ _ ⟨by omega, by rw [hnx]; exact (Hd.cov_iff.2 ⟨hf, by omega⟩).symm⟩ (by dsimp only; omega) ⟨Z, Z, Z, Z, Z, trivial⟩ O
     ·(refine aE Z (aA1 zq (aE Z (aA4 uq J J (aE Z (jT U Z Z Z J (aA1 zq (aA1 zq (aD (bK (aB (aA1 zq ?_))))))))))); refine aA4 uq J J (aA1 zq (aD ?_)))
      exact hK2 (k + 1, false) _ _ ⟨by omega, by rw [hnx]; exact (Hd.cov_not.2 J).symm⟩ (by dsimp only; omega) ⟨Z, Z, Z, Z, Z, trivial⟩ O
    ·(refine aA1 zq (gO U Z Z Z J (aA1 zq ?_)); (iterate 8 refine aA8 yq ?_); refine aA1 zq (aA1 zq (aD (bK (aB (aA1 zq (aA4 uq J J (aA1 zq (aD ?_)))))))))
     exact hK2 (k + 1, false) _ _ ⟨by omega, by rw [hnx]; exact (Hd.cov_not.2 J).symm⟩ (by dsimp only; omega) ⟨Z, Z, Z, Z, Z, trivial⟩ O
   ·obtain rfl : k = L.length := by omega
    rw [List.take_length] at hcv;(refine aC (aC (aB ?_)); (iterate 3 refine aA1 zq ?_); refine aB4 xq J (aA1 zq (aA8 yq (aA8 yq (aA1 zq (aD (aG Z (bH _ Z (aC (aB (aA1 zq (aA1 zq ?_))))))))))); refine aD (aH Z (aC (aB (aA1 zq (aA1 zq (aD (aS ?_))))))));refine aA5 wq O fun w hs => ?_
    exact ⟨⟨t, Z, .inr ⟨⟨t1, htb⟩, hG, fun x hx => by
     have := List.any_eq_false.1 hcv.symm x hx;simpa using this⟩⟩, hs.chg0⟩
 ·have htb : t = b := by
   have : ¬ t < b := by simpa using hc
   omega
  clear hc hK;subst htb;(refine bH _ Z (aC (aB (aA1 zq (aA1 zq (aD (aS ?_)))))));refine aA5 wq O fun w hs => ?_
  exact ⟨⟨t, Z, .inl ⟨Z, hG⟩⟩, hs.chg0⟩
theorem rGap_no (w : World) (lo hi : Nat) (L : List Hd) (v : Value) (a b : Int) (h : RdH w lo hi v L) (hlen : L.length ≤ maxLen) (h0 : dI L a b ≠ 0) : Ca Tryz.prog 73 [v, .int .i64 a, .int .i64 b] w fun x w' => x = .tuple #[.int .i64 0, .int .i64 (dI L a b)] ∧ Chg [] w w' := by
 refine cN (Sat.nil w M0) Tryz.func73 Z (by simp [Tryz.ntmps73]) ?_;(refine aC (aB (aA1 zq (aA1 zq (aD (aC (aC (aB ?_))))))); (iterate 3 refine aA1 zq ?_));refine aI (val := .int .i64 (dI L a b)) U Z Z Z Z (fun w hs => ?_) ?_; exact hU w lo hi L v a b (RdE.keep h hs.chg0) hlen;(refine aA1 zq (aD (aC (aB (aA1 zq (aB0 xq J (aD (aH Z (aC (aB ?_))))))))); (iterate 3 refine aA1 zq ?_); refine aD (aS ?_));refine aA5 wq O fun w hs => ?_;exact ⟨Z, hs.chg0⟩
theorem rGap_ok (w : World) (lo hi : Nat) (L : List Hd) (v : Value) (a b : Int) (h : RdH w lo hi v L) (h0 : SpOk L a b) : Ca Tryz.prog 73 [v, .int .i64 a, .int .i64 b] w fun x w' => (∃ y : Int × Int, x = .tuple #[.int .i64 y.1, .int .i64 y.2] ∧ GapR L a b y.1 y.2) ∧ Chg [] w w' := by
 have hb := h0.rb;have hlen : L.length ≤ maxLen := by have := h0.g.n30; simp only [maxLen]; omega
 refine cN (Sat.nil w M0) Tryz.func73 Z (by simp [Tryz.ntmps73]) ?_;(refine aC (aB (aA1 zq (aA1 zq (aD (aC (aC (aB ?_))))))); (iterate 3 refine aA1 zq ?_));refine aI (val := .int .i64 0) U Z Z Z Z (fun w hs => ?_) ?_; exact by have := hU w lo hi L v a b (RdE.keep h hs.chg0) hlen; rw [eJ.2 h0] at this; exact this
 (refine aA1 zq (aD (aC (aB (aA1 zq (aA6 xq J (aD (aG Z (aK (aC (aC (aB ?_))))))))))); (iterate 3 refine aA1 zq ?_))
 refine bC (β := Int) (ψ := fun y v => v = .int .i64 y ∧ GpR L a b y) (L' := fun _ => []) U [] _ M0 Z Z Z Z (Sp.refl _) qC (fun w' hs => (rgap_ca w' lo hi L v a b (RdE.keep h hs.chg0) hlen J h0.ra.1 J).mono fun x w2 ⟨⟨y, h1, h2⟩, h3⟩ => ⟨y, ⟨h1, h2⟩, (Sat.nil w' M0).keep h3⟩) ?_;rintro y _ ⟨rfl, hy⟩;dsimp only [List.cons_append, List.nil_append];rcases hy with ⟨rfl, hg⟩ | ⟨⟨y1, y2⟩, hg, hn⟩
 ·(refine aA1 zq (aD (aC (aB (aA1 zq (aA1 zq (aB4 xq J (aD (aG Z (aK (aC (aB ?_))))))))))); refine aA1 zq (aA1 zq (aD (aS ?_))))
  refine aA5 wq O fun w hs => ?_;exact ⟨⟨(0, 6), Z, .inr ⟨Z, Z, hg⟩⟩, hs.chg0⟩
 ·(refine aA1 zq (aD (aC (aB (aA1 zq (aA1 zq (aB3 xq J (aD (aH Z (aC (aB ?_)))))))))); (iterate 3 refine aA1 zq ?_); refine aD (aS ?_))
  refine aA5 wq O fun w hs => ?_;exact ⟨⟨(y, 0), Z, .inl ⟨Z, ⟨y1, y2⟩, hg, hn⟩⟩, hs.chg0⟩
theorem slRH : SlT Tryz.prog 112 218 3 24 (.agg #[.int .i64 0, .int .i64 0, .int .i64 0]) := ⟨by kernel_rfl, by kernel_rfl, by kernel_rfl, by decide⟩
theorem rholds_ca (w : World) (lo hi : Nat) (v : Value) (l : List Hd) (h : RdH w lo hi v l) (hlen : l.length ≤ 1000) : Ca Tryz.prog 69 [v] w fun x w' => ∃ u : Value, x = u ∧ Sat w M0 [.ow u 218 3 l.length (hdC l)] w' := by
 obtain ⟨a, c, rfl, ha⟩ := RdH.outI h;refine cN (Sat.nil w M0) Tryz.func69 Z (by simp [Tryz.ntmps69]) ?_;(refine aC (aB (aA1 zq (aD (aC (aB (aA1 zq (aD (aC (aC (aB ?_)))))))))); (iterate 3 refine aA1 zq ?_); refine aD (aM ?_));refine dG (H' := [.ow (.slice none 0 0) 218 3 0 (hdC (l.take 0))]) (fun w' hs => Sat.ownil hs 218 3) ?_
 refine bM (σ := Nat × Value) (fun z => z.1 ≤ l.length) (fun z => l.length - z.1) (fun z => [(3, z.2), (6, .slice a l.length c), (7, .int .i64 l.length), (8, .int .i64 z.1)])
  (fun z => [.ow z.2 218 3 z.1 (hdC (l.take z.1))]) (0, .slice none 0 0) (by simp) ⟨rfl, rfl, rfl, rfl, trivial⟩ O ?_
 rintro ⟨i, u⟩ hi2 K hK;dsimp only at hi2 hK ⊢;(refine aC (aB (aA1 zq (aD (aC ?_)))));refine dN Z (fun hc => ?_) (fun hc => ?_)
 ·have hi3 : i < l.length := by omega
  clear hc;obtain ⟨tb, to, rfl⟩ := ha J;(refine aK (aC (aM (aC (aB ?_)))));refine aA7 Wa J J ?_;refine dC (cs := [.int .i64 l[i].who, .int .i64 l[i].f, .int .i64 l[i].t]) U Z Z Z Z (fun w hs q hq => RdH.at (RdE.keep h hs.chg0) i hi3 q hq) ?_;refine bF zero28 Z (fun b5 => ?_);(refine aB6 Wa O Z ?_; refine aD (aB (aA1 zq ?_)); refine aP U Z Z Z ?_);refine cT 218 [.int .i64 l[i].who, .int .i64 l[i].f, .int .i64 l[i].t] Z qB Z (fun bn => ?_);refine cW (q := 1) (news := [.int .i64 l[i].who, .int .i64 l[i].f, .int .i64 l[i].t]) slRH Z Z Z (fun v' => by repeat constructor) (fun w' hs => ⟨_, _, Blk.rdN (hs.blk (b := bn) O) Z⟩) (by simp [dJ]) J J (fun u' => ?_);(refine aA1 zq (aD (bK (aB (aA4 uq J J (aA1 zq (aD ?_)))))))
  have e : hdC (l.take (i + 1)) = hdC (l.take i) ++ [.int .i64 l[i].who, .int .i64 l[i].f, .int .i64 l[i].t] := by
   rw [List.take_succ_eq_append_getElem hi3, oX]
  exact hK (i + 1, u') _ _ (by simp only; omega) (by simp only; omega) ⟨Z, Z, Z, Z, trivial⟩ (by dsimp only; rw [e]; repeat constructor)
 ·obtain rfl : i = l.length := by omega
  rw [List.take_length];(refine bH _ Z (aC (aB (aA1 zq (aA1 zq (aD (aS ?_)))))));refine aA5 wq O fun w hs => ?_
  exact ⟨_, Z, hs.sp O⟩
def okC (L : List Hd) (C : List Int) : Bool := C.all fun i => inB i 0 ((L.length : Int) - 1)
def hC (L : List Hd) (C : List Int) : List Hd := C.map fun i => hdL L i.toNat
def GrdsR (L : List Hd) (a b : Int) (C : List Int) (y : Bool × Int) : Prop := (okC L C = false ∧ y = (false, 1)) ∨ (okC L C = true ∧ y.2 = 0 ∧ (y.1 = true ↔ Gd (hC L C) a b))
theorem grds_uniq {L : List Hd} {a b : Int} {C : List Int} {y z : Bool × Int} (h : GrdsR L a b C y) (g : GrdsR L a b C z) : y = z := by
 rcases h with ⟨h1, h2⟩ | ⟨h1, h2, h3⟩
 ·rcases g with ⟨_, g2⟩ | ⟨g1, _⟩
  ·rw [h2, g2]
  ·rw [h1] at g1; cases g1
 ·rcases g with ⟨g1, _⟩ | ⟨_, g2, g3⟩
  ·rw [h1] at g1; cases g1
  ·obtain ⟨y1, y2⟩ := y;obtain ⟨z1, z2⟩ := z;dsimp only at h2 h3 g2 g3;subst h2 g2;cases y1 <;> cases z1 <;> simp_all
theorem rGrd_no (w : World) (lo hi : Nat) (L : List Hd) (v cv : Value) (a b : Int) (h : RdH w lo hi v L) (hlen : L.length ≤ maxLen) (h0 : dI L a b ≠ 0) : Ca Tryz.prog 75 [v, .int .i64 a, .int .i64 b, cv] w fun x w' => x = .tuple #[.bool false, .int .i64 (dI L a b)] ∧ Chg [] w w' := by
 refine cN (Sat.nil w M0) Tryz.func75 Z (by simp [Tryz.ntmps75]) ?_;(refine aC (aB (aA1 zq (aA1 zq (aD (aC (aC (aB ?_))))))); (iterate 3 refine aA1 zq ?_));refine aI (val := .int .i64 (dI L a b)) U Z Z Z Z (fun w hs => ?_) ?_; exact hU w lo hi L v a b (RdE.keep h hs.chg0) hlen;(refine aA1 zq (aD (aC (aB (aA1 zq (aB0 xq J (aD (aH Z (aC (aB ?_))))))))); (iterate 3 refine aA1 zq ?_); refine aD (aS ?_));refine aA5 wq O fun w hs => ?_;exact ⟨Z, hs.chg0⟩
theorem rGrd_ok (w : World) (lo hi lo2 hi2 : Nat) (L : List Hd) (v mv : Value) (a b : Int) (C : List Int) (h : RdH w lo hi v L) (hM : RdI w lo2 hi2 mv C) (hC1 : C.length ≤ 1000) (h0 : SpOk L a b) : Ca Tryz.prog 75 [v, .int .i64 a, .int .i64 b, mv] w fun x w' => (∃ y : Bool × Int, x = .tuple #[.bool y.1, .int .i64 y.2] ∧ GrdsR L a b C y) ∧ Chg [] w w' := by
 have hb := h0.rb;have hn1 := h0.g.n1;have hn30 := h0.g.n30;have hlen : L.length ≤ maxLen := by simp only [maxLen]; omega
 obtain ⟨va, vc, rfl, hsa⟩ := RdH.outI h;obtain ⟨gb, go, rfl⟩ := hsa J;obtain ⟨ma, mc, rfl, hsm⟩ := RdI.outI hM;refine cN (Sat.nil w M0) Tryz.func75 Z (by simp [Tryz.ntmps75]) ?_;(refine aC (aB (aA1 zq (aA1 zq (aD (aC (aC (aB ?_))))))); (iterate 3 refine aA1 zq ?_));refine aI (val := .int .i64 0) U Z Z Z Z (fun w hs => ?_) ?_; exact by have := hU w lo hi L _ a b (RdE.keep h hs.chg0) hlen; rw [eJ.2 h0] at this; exact this
 (refine aA1 zq (aD (aC (aB (aA1 zq (aA6 xq J (aD (aG Z (aK (aC (aB (aA1 zq ?_))))))))))); refine aD (aC (aC (aB (aA1 zq (aD (aM ?_)))))))
 refine dG (H' := [.ow (.slice none 0 0) 218 3 0 (hdC (hC L (C.take 0)))]) (fun w' hs => Sat.ownil hs 218 3) ?_
 refine bM (σ := Nat × Value) (fun ⟨k, u⟩ => k ≤ C.length ∧ okC L (C.take k) = true) (fun ⟨k, _⟩ => C.length - k) (fun ⟨k, u⟩ => [(0, .slice (some ⟨gb, go, none⟩) L.length vc), (1, .int .i64 a), (2, .int .i64 b), (3, .slice ma C.length mc), (11, u), (12, .int .i64 k)])
  (fun ⟨k, u⟩ => [.ow u 218 3 k (hdC (hC L (C.take k)))]) (0, .slice none 0 0) ⟨by omega, rfl⟩ ⟨rfl, rfl, rfl, rfl, rfl, rfl, trivial⟩ O ?_
 rintro ⟨k, u⟩ ⟨hk, hok⟩ K hK;dsimp only at hk hok hK ⊢;(refine aC (aC (aB ?_)); (iterate 4 refine aA1 zq ?_); refine aD ?_);refine dN Z (fun hc => ?_) (fun hc => ?_)
 ·have hk2 : k < C.length := by omega
  clear hc;obtain ⟨mb, mo, rfl⟩ := hsm J;have hall := kM (p := fun i => inB i 0 ((L.length : Int) - 1)) hk2 hok;(refine aK (aC (aM (aC (aC (aB (aA1 zq (aA1 zq ?_))))))));refine aA7 Wa J J ?_;refine bI (v := .int .i64 C[k]) U Z Z Z (fun w hs => RdI.at (RdE.keep hM hs.chg0) (k) hk2) ?_;(refine aA1 zq (aA1 zq (aA4 uq J J ?_)));refine aI (val := .bool (!(inB C[k] 0 ((L.length : Int) - 1)))) U Z Z Z Z (fun w hs => ?_) ?_; exact fD C[k] 0 ((L.length : Int) - 1) w;cases hin : inB C[k] 0 ((L.length : Int) - 1) with
  | false =>
   (refine aD (aH Z (aC (aB (aA1 zq (aA1 zq (aD (aS ?_))))))))
   refine aA5 wq O fun w hs => ?_;exact ⟨⟨(false, 1), Z, .inl ⟨mI (p := fun i => inB i 0 ((L.length : Int) - 1)) hk2 hin, Z⟩⟩, hs.chg0⟩
  | true =>
   have hib := bV.1 hin;obtain ⟨i, hi'⟩ := Int.eq_ofNat_of_zero_le hib.1;have hil : i < L.length := by omega
   (refine aD (aG Z (aK (aB ?_))); (iterate 4 refine aA1 zq ?_))
   refine aA7 Wa J J ?_;refine bI (v := .int .i64 C[k]) U Z Z Z (fun w hs => RdI.at (RdE.keep hM hs.chg0) (k) hk2) ?_;rw [hi'];refine aA7 Wa J J ?_;refine dC (cs := [.int .i64 L[i].who, .int .i64 L[i].f, .int .i64 L[i].t]) U Z Z Z Z (fun w hs q hq => RdH.at (RdE.keep h hs.chg0) i hil q hq) ?_;refine cT 218 [.int .i64 L[i].who, .int .i64 L[i].f, .int .i64 L[i].t] Z qB Z (fun bn => ?_);refine cW (q := 1) (news := [.int .i64 L[i].who, .int .i64 L[i].f, .int .i64 L[i].t]) slRH Z Z Z (fun v' => by repeat constructor) (fun w' hs => ⟨_, _, Blk.rdN (hs.blk (b := bn) O) Z⟩) (by simp [dJ]) J J (fun u' => ?_)
   have e : hdC (hC L (C.take (k + 1))) = hdC (hC L (C.take k)) ++ [.int .i64 L[i].who, .int .i64 L[i].f, .int .i64 L[i].t] := by
    rw [List.take_succ_eq_append_getElem hk2, hC, List.map_append, List.map_singleton, oX, hi', Int.toNat_natCast];have : hdL L i = L[i] := by unfold hdL; rw [List.getD_eq_getElem?_getD, List.getElem?_eq_getElem hil]; rfl
    rw [this]
    rfl
   rw [← e];(refine aA1 zq (aD (bK (aB (aA1 zq (aA4 uq J J (aA1 zq (aD ?_))))))));exact hK (k + 1, u') _ _ ⟨by omega, hall hin⟩ (by dsimp only; omega) ⟨Z, Z, Z, Z, Z, Z, trivial⟩ O
 ·obtain rfl : k = C.length := by omega
  clear hc hK;rw [List.take_length] at hok ⊢;have hcl : (hC L C).length = C.length := by simp [hC]
  (refine bH _ Z (aC (aB ?_)); (iterate 3 refine aA1 zq ?_))
  refine bC (β := Int) (ψ := fun y v => v = .int .i64 y ∧ GpR (hC L C) a b y) (L' := fun _ => []) U [] _ M0 Z Z Z Z (Sp.refl _) qC (fun w' hs => (rgap_ca w' 0 w'.heap.size (hC L C) u a b (dA (hs.mem (c := .ow u 218 3 C.length (hdC (hC L C))) O) hcl.symm) (by rw [hcl]; simp only [maxLen]; omega) J h0.ra.1 J).mono fun x w2 ⟨⟨y, h1, h2⟩, h3⟩ => ⟨y, ⟨h1, h2⟩, (Sat.nil w' M0).keep h3⟩) ?_;rintro y _ ⟨rfl, hy⟩;dsimp only [List.cons_append, List.nil_append];by_cases hyb : y = b
  ·subst hyb;(refine aA1 zq (aB2 xq J (aA1 zq (aA1 zq (aD (aS ?_))))));refine aA5 wq O fun w hs => ?_
   exact ⟨⟨(true, 0), Z, .inr ⟨hok, Z, ⟨fun _ => Classical.byContradiction fun hn => absurd (hy.lt.2 hn) (Int.lt_irrefl _), fun _ => Z⟩⟩⟩, hs.chg0⟩
  ·(refine aA1 zq (cZ U Z Z Z J (aA1 zq (aA1 zq (aD (aS ?_))))))
   refine aA5 wq O fun w hs => ?_;refine ⟨⟨(false, 0), rfl, .inr ⟨hok, rfl, ⟨(fun h => by cases h), fun hg => absurd hg (hy.lt.1 ?_)⟩⟩⟩, hs.chg0⟩
   rcases hy with ⟨h1, _⟩ | ⟨h1, _⟩
   ·exact absurd h1 hyb
   ·exact h1.2
theorem rMks_no (w : World) (lo hi : Nat) (L : List Hd) (v cv : Value) (a b : Int) (h : RdH w lo hi v L) (hlen : L.length ≤ maxLen) (h0 : dI L a b ≠ 0) : Ca Tryz.prog 77 [v, .int .i64 a, .int .i64 b, cv] w fun x w' => x = .tuple #[.bool false, .int .i64 (dI L a b)] ∧ Chg [] w w' := by
 refine cN (Sat.nil w M0) Tryz.func77 Z (by simp [Tryz.ntmps77]) ?_;(refine aC (aB (aA1 zq (aA1 zq (aD (aC (aC (aB ?_))))))); (iterate 3 refine aA1 zq ?_));refine aI (val := .int .i64 (dI L a b)) U Z Z Z Z (fun w hs => ?_) ?_; exact hU w lo hi L v a b (RdE.keep h hs.chg0) hlen;(refine aA1 zq (aD (aC (aB (aA1 zq (aB0 xq J (aD (aH Z (aC (aB ?_))))))))); (iterate 3 refine aA1 zq ?_); refine aD (aS ?_));refine aA5 wq O fun w hs => ?_;exact ⟨Z, hs.chg0⟩
def IncK (a b : Int) (M : List Int) (k : Nat) : Prop := ∀ j (h : j < M.length), j < k → (a ≤ M[j] ∧ M[j] < b) ∧ (0 < j → M.getD (j - 1) 0 < M[j])
theorem inc_all {a b : Int} {M : List Int} (h : IncK a b M M.length) : (∀ m ∈ M, a ≤ m ∧ m < b) ∧ M.Pairwise (· < ·) := by
 refine ⟨fun m hm => ?_, ?_⟩
 ·obtain ⟨i, hi, rfl⟩ := List.mem_iff_getElem.1 hm;exact (h i hi hi).1
 ·have h2 : ∀ d i (hi : i + d + 1 < M.length), M[i] < M[i + d + 1] := fun d => by
   induction d with
   | zero =>
    intro i hi;have := (h (i + 1) hi hi).2 J;rw [Nat.add_sub_cancel, dQ J] at this;exact this
   | succ d ih =>
    intro i hi;have h3 := ih i J;have h4 := (h (i + (d + 1) + 1) hi hi).2 J;rw [Nat.add_sub_cancel, dQ J] at h4;exact Int.lt_trans h3 h4
  refine List.pairwise_iff_getElem.2 fun i j hi hj hij => ?_;obtain ⟨d, rfl⟩ : ∃ d, j = i + d + 1 := ⟨j - i - 1, by omega⟩
  exact h2 d i hj
theorem rMks_ok (w : World) (lo hi lo2 hi2 : Nat) (L : List Hd) (v mv : Value) (a b : Int) (M : List Int) (h : RdH w lo hi v L) (hM : RdI w lo2 hi2 mv M) (hM1 : M.length ≤ 1000) (h0 : SpOk L a b) : Ca Tryz.prog 77 [v, .int .i64 a, .int .i64 b, mv] w fun x w' => (∃ y : Bool, x = .tuple #[.bool y, .int .i64 0] ∧ (y = true ↔ Mk L a b M)) ∧ Chg [] w w' := by
  have hb := h0.rb;have hn1 := h0.g.n1;have hn30 := h0.g.n30;have hlen : L.length ≤ maxLen := by simp only [maxLen]; omega
  obtain ⟨va, vc, rfl, hsa⟩ := RdH.outI h;obtain ⟨gb, go, rfl⟩ := hsa J;obtain ⟨ma, mc, rfl, hsm⟩ := RdI.outI hM;refine cN (Sat.nil w M0) Tryz.func77 Z (by simp [Tryz.ntmps77]) ?_;(refine aC (aB (aA1 zq (aA1 zq (aD (aC (aC (aB ?_))))))); (iterate 3 refine aA1 zq ?_));refine aI (val := .int .i64 0) U Z Z Z Z (fun w hs => ?_) ?_; exact by have := hU w lo hi L _ a b (RdE.keep h hs.chg0) hlen; rw [eJ.2 h0] at this; exact this
  (refine aA1 zq (aD (aC (aB (aA1 zq (aA6 xq J (aD (aG Z (aK (aC (aC (aB ?_))))))))))); refine aA1 zq (aD (aM ?_)))
  refine bM (σ := Nat) (fun k => k ≤ M.length ∧ IncK a b M k) (fun k => M.length - k) (fun k => [(0, .slice (some ⟨gb, go, none⟩) L.length vc), (1, .int .i64 a), (2, .int .i64 b), (3, .slice ma M.length mc), (11, .int .i64 k)]) (fun _ => []) 0 ⟨by omega, fun j _ h => by omega⟩ ⟨Z, Z, Z, Z, Z, trivial⟩ O ?_;rintro k ⟨hk, hI⟩ K hK;(refine aC (aC (aB ?_)); (iterate 4 refine aA1 zq ?_); refine aD ?_);refine dN Z (fun hc => ?_) (fun hc => ?_)
  · have hk2 : k < M.length := by omega
    clear hc;obtain ⟨mb, mo, rfl⟩ := hsm J;(refine aK (aC (aM (aC ?_))));refine bZ _ [] (Sp.refl _) qB qB ?_;(refine aA2 xq (aA2 xq ?_));refine aA3 Wa J J ?_;refine aR (v := .int .i64 M[k]) U Z Z Z (fun w hs => RdI.at (RdE.keep hM hs.chg0) (k) hk2) ?_;by_cases c1 : M[k] < a
    · have hbad : ¬ Mk L a b M := fun g => by have := (g.bd _ (List.getElem_mem hk2)).1; omega
      (refine aA2 xq (kX U Z Z Z J (aA2 xq ?_)); (iterate 6 refine dH Z Z Z ?_); refine aA2 xq (aA2 xq ?_); (iterate 3 refine dH Z Z Z ?_); (iterate 10 refine pZ Z Z ?_); refine dH Z Z Z (aA2 xq (aN (aH Z (aC (aB (aA1 zq (aA1 zq (aD (aS ?_))))))))))
      refine aA5 wq O fun w hs => ?_;exact ⟨⟨false, rfl, ⟨(fun h => by cases h), fun h => absurd h hbad⟩⟩, hs.chg0⟩
    · (refine aA2 xq (kO U Z Z Z J (aA2 xq (aL Z (aA2 xq (aL Z (aA2 xq (aL Z ?_))))))))
      refine aA3 Wa J J ?_;(refine aL Z ?_);refine aR (v := .int .i64 M[k]) U Z Z Z (fun w hs => RdI.at (RdE.keep hM hs.chg0) (k) hk2) ?_;by_cases c2 : b ≤ M[k]
      · have hbad : ¬ Mk L a b M := fun g => by have := (g.bd _ (List.getElem_mem hk2)).2; omega
        (refine aL Z (aA2 xq (aL Z (qf_geqT U Z Z Z J (aA2 xq (aA2 xq ?_))))); (iterate 3 refine dH Z Z Z ?_); (iterate 10 refine pZ Z Z ?_); refine dH Z Z Z (aA2 xq (aN (aH Z (aC (aB (aA1 zq (aA1 zq (aD (aS ?_))))))))))
        refine aA5 wq O fun w hs => ?_;exact ⟨⟨false, rfl, ⟨(fun h => by cases h), fun h => absurd h hbad⟩⟩, hs.chg0⟩
      · by_cases c3 : k = 0
        · subst c3;(refine aL Z (aA2 xq (aL Z (qf_geqF U Z Z Z J (aA2 xq (aA2 xq (aL Z (aA2 xq (aL Z (gF U Z Z Z J (aL Z (aA2 xq ?_))))))))))); (iterate 10 refine dH Z Z Z ?_); refine aL Z (aA2 xq (aA2 xq (aN (aG Z (aK (bK (aB (aA1 zq (aA4 uq J J (aA1 zq (aD ?_))))))))))))
          exact hK (0 + 1) _ _ ⟨by omega, fun j hj hj1 => by obtain rfl : j = 0 := by omega
                                                             exact ⟨by omega, fun h => by omega⟩⟩ J ⟨Z, Z, Z, Z, Z, trivial⟩ O
        · obtain ⟨r, rfl⟩ : ∃ r, k = r + 1 := ⟨k - 1, by omega⟩;have hr : r < M.length := by omega
          have hr1 : ((r + 1 : Nat) : Int) - 1 = r := by omega
          (refine aL Z (aA2 xq (aL Z (qf_geqF U Z Z Z J (aA2 xq (aA2 xq (aL Z (aA2 xq (aL Z (gX U Z Z Z J (aL Z (aA2 xq ?_))))))))))); refine aL Z (aA2 xq (aL Z (aA2 xq (aL Z ?_)))))
          refine aA3 Wa J J ?_;(refine aL Z ?_);refine aR (v := .int .i64 M[r + 1]) U Z Z Z (fun w hs => RdI.at (RdE.keep hM hs.chg0) (r + 1) hk2) ?_;(refine aL Z (aA2 xq (aL Z (aA2 xq (aL Z (aA9 uq J J (aL Z ?_)))))));rw [hr1];refine aA3 Wa J J ?_;(refine aL Z ?_);refine aR (v := .int .i64 M[r]) U Z Z Z (fun w hs => RdI.at (RdE.keep hM hs.chg0) (r) hr) ?_;by_cases c4 : M[r + 1] ≤ M[r]
          · have hbad : ¬ Mk L a b M := fun g => by
              have := List.pairwise_iff_getElem.1 g.inc r (r + 1) hr hk2 J;omega
            (refine aL Z (qf_leqT U Z Z Z J (aL Z (aA2 xq (aA2 xq (aN (aH Z (aC (aB (aA1 zq (aA1 zq (aD ?_))))))))))); refine aS ?_)
            refine aA5 wq O fun w hs => ?_;exact ⟨⟨false, rfl, ⟨(fun h => by cases h), fun h => absurd h hbad⟩⟩, hs.chg0⟩
          · (refine aL Z (qf_leqF U Z Z Z J (aL Z (aA2 xq (aA2 xq (aN (aG Z (aK (bK (aB (aA1 zq (aA4 uq J J ?_))))))))))); refine aA1 zq (aD ?_))
            exact hK (r + 1 + 1) _ _ ⟨by omega, fun j hj hj1 => by
              by_cases e : j = r + 1
              · subst e;exact ⟨by omega, fun _ => by rw [Nat.add_sub_cancel, dQ hr]; omega⟩
              · exact hI j hj J⟩ J ⟨Z, Z, Z, Z, Z, trivial⟩ O
  · obtain rfl : k = M.length := by omega
    clear hc hK;obtain ⟨hbd, hinc⟩ := inc_all hI;clear hI;(refine bH _ Z (aC (aC (aB (aA1 zq (aD (aM ?_)))))));refine bM (σ := Nat) (fun k => k ≤ L.length ∧ ∀ j (hj : j < L.length), j < k → (M.filter L[j].cov).length ≤ 1) (fun k => L.length - k) (fun k => [(0, .slice (some ⟨gb, go, none⟩) L.length vc), (3, .slice ma M.length mc), (12, .int .i64 k)]) (fun _ => []) 0 ⟨by omega, fun j _ h => by omega⟩ ⟨Z, Z, Z, trivial⟩ O ?_;rintro k ⟨hk, hI⟩ K hK;(refine aC (aC (aB ?_)); (iterate 4 refine aA1 zq ?_); refine aD ?_);refine dN Z (fun hc => ?_) (fun hc => ?_)
    · have hk2 : k < L.length := by omega
      clear hc;(refine aK (aC (aM (aC (aB (aA1 zq (aD (aC (aC (aB (aA1 zq (aD ?_))))))))))); refine aM ?_);refine bM (σ := Nat × Nat) (fun ⟨i, n⟩ => i ≤ M.length ∧ n = ((M.take i).filter L[k].cov).length) (fun ⟨i, _⟩ => M.length - i) (fun ⟨i, n⟩ => [(0, .slice (some ⟨gb, go, none⟩) L.length vc), (3, .slice ma M.length mc), (12, .int .i64 k), (13, .int .i64 n), (14, .int .i64 i)]) (fun _ => []) (0, 0) ⟨by omega, Z⟩ ⟨Z, Z, Z, Z, Z, trivial⟩ O ?_;rintro ⟨i, n⟩ ⟨hi', hn⟩ K2 hK2;dsimp only at hi' hn hK2 ⊢;have hn2 : n ≤ i := by rw [hn]; exact Nat.le_trans (List.length_filter_le _ _) (by rw [List.length_take]; omega)
      (refine aC (aC (aB ?_)); (iterate 4 refine aA1 zq ?_); refine aD ?_)
      refine dN Z (fun hc => ?_) (fun hc => ?_)
      · have hi2 : i < M.length := by omega
        clear hc;obtain ⟨mb, mo, rfl⟩ := hsm J
        have hst : ((M.take (i + 1)).filter L[k].cov).length = n + if L[k].cov M[i] = true then 1 else 0 := by
          rw [List.take_succ_eq_append_getElem hi2, List.filter_append, List.length_append, ← hn];by_cases c : L[k].cov M[i] = true
          · rw [if_pos c, List.filter_cons_of_pos c]; rfl
          · rw [if_neg c, List.filter_cons_of_neg c]; rfl
        (refine aK (aC (aM (aC ?_))))
        refine bZ _ [] (Sp.refl _) qB qB ?_;(refine aA2 xq (aA2 xq ?_));refine aA3 Wa J J ?_;(refine aA2 xq ?_);refine aR (v := .int .i64 L[k].f) U Z Z Z (fun w hs => RdH.at1 (RdE.keep h hs.chg0) k hk2) ?_;(refine aA2 xq (aA2 xq ?_));refine aA3 Wa J J ?_;refine aR (v := .int .i64 M[i]) U Z Z Z (fun w hs => RdI.at (RdE.keep hM hs.chg0) (i) hi2) ?_;by_cases c1 : L[k].f ≤ M[i]
        · (refine qf_leqT U Z Z Z J (aA2 xq (aL Z (aA2 xq (aL Z (aA2 xq (aL Z ?_)))))))
          refine aA3 Wa J J ?_;(refine aL Z (aA2 xq (aL Z ?_)));refine aR (v := .int .i64 L[k].t) U Z Z Z (fun w hs => RdH.at2 (RdE.keep h hs.chg0) k hk2) ?_;(refine aL Z (aA2 xq (aL Z (aA2 xq (aL Z ?_)))));refine aA3 Wa J J ?_;(refine aL Z ?_);refine aR (v := .int .i64 M[i]) U Z Z Z (fun w hs => RdI.at (RdE.keep hM hs.chg0) (i) hi2) ?_;by_cases c2 : M[i] < L[k].t
          · rw [if_pos (Hd.cov_iff.2 ⟨c1, c2⟩)] at hst;(refine aL Z (gX U Z Z Z J (aA2 xq (aN (aH Z (aB (aA1 zq (aA4 uq J J (aA1 zq (aD (bK (aB ?_))))))))))); refine aA1 zq (aA4 uq J J (aA1 zq (aD ?_))));exact hK2 (i + 1, n + 1) _ _ ⟨by omega, hst.symm⟩ (by dsimp only; omega) ⟨Z, Z, Z, fM Z (by dsimp only; omega), Z, trivial⟩ O
          · rw [if_neg (fun g => c2 (Hd.cov_iff.1 g).2)] at hst;(refine aL Z (gF U Z Z Z J (aA2 xq (aN (aG Z (aK (bK (aB (aA1 zq (aA4 uq J J (aA1 zq (aD ?_))))))))))));exact hK2 (i + 1, n) _ _ ⟨by omega, hst.symm⟩ (by dsimp only; omega) ⟨Z, Z, Z, Z, Z, trivial⟩ O
        · rw [if_neg (fun g => c1 (Hd.cov_iff.1 g).1)] at hst;(refine qf_leqF U Z Z Z J (aA2 xq ?_); (iterate 10 refine dH Z Z Z ?_); refine aA2 xq (aN (aG Z (aK (bK (aB (aA1 zq (aA4 uq J J (aA1 zq (aD ?_))))))))));exact hK2 (i + 1, n) _ _ ⟨by omega, hst.symm⟩ (by dsimp only; omega) ⟨Z, Z, Z, Z, Z, trivial⟩ O
      · obtain rfl : i = M.length := by omega
        clear hc hK2;rw [List.take_length] at hn;by_cases c1 : 1 < n
        · have hbad : ¬ Mk L a b M := fun g => by
            have := (mk_iff.1 g).2.2 L[k] (List.getElem_mem hk2);omega
          (refine bH _ Z (aC (aB (aA1 zq (cR U Z Z Z J (aD (aH Z (aC (aB (aA1 zq (aA1 zq (aD ?_))))))))))); refine aS ?_)
          refine aA5 wq O fun w hs => ?_;exact ⟨⟨false, rfl, ⟨(fun h => by cases h), fun h => absurd h hbad⟩⟩, hs.chg0⟩
        · (refine bH _ Z (aC (aB (aA1 zq (aB1 xq J (aD (aG Z (aK (bK (aB (aA1 zq (aA4 uq J J ?_))))))))))); refine aA1 zq (aD ?_))
          exact hK (k + 1) _ _ ⟨by omega, fun j hj hj1 => by
            by_cases e : j = k
            · subst e; omega
            · exact hI j hj J⟩ J ⟨Z, Z, Z, trivial⟩ O
    · obtain rfl : k = L.length := by omega
      (refine bH _ Z (aC (aB (aA1 zq (aA1 zq (aD (aS ?_)))))))
      refine aA5 wq O fun w hs => ?_
      exact ⟨⟨true, Z, ⟨fun _ => mk_iff.2 ⟨hbd, hinc, fun g hg => by
        obtain ⟨j, hj, rfl⟩ := List.mem_iff_getElem.1 hg;exact hI j hj hj⟩, fun _ => Z⟩⟩, hs.chg0⟩
theorem hdL_get {L : List Hd} {i : Nat} (h : i < L.length) : hdL L i = L[i] := by
 unfold hdL;rw [List.getD_eq_getElem?_getD, List.getElem?_eq_getElem h]
 rfl
def mixL (L : List Hd) (a : Int) (n i : Nat) : List Int := (List.range L.length).map fun j => if j < i then (lvl L a (n + 1) j : Int) else (lvl L a n j : Int)
section
variable {L : List Hd} {a b : Int} {n i : Nat}
theorem nW : (mixL L a n i).length = L.length := by simp [mixL]
theorem jQ {k : Nat} (hk : k < L.length) {h : k < (mixL L a n i).length} : (mixL L a n i)[k]'h = if k < i then (lvl L a (n + 1) k : Int) else (lvl L a n k : Int) := by simp [mixL]
theorem mix_start : List.replicate L.length (0 : Int) = mixL L a 0 0 := List.ext_getElem (by simp [mixL]) fun k h1 h2 => by
 simp [mixL, lvl]
theorem mix_full : mixL L a n L.length = mixL L a (n + 1) 0 := List.ext_getElem (by simp [mixL]) fun k h1 h2 => by
 have hk : k < L.length := by rw [nW] at h1; exact h1
 rw [jQ hk, jQ hk, if_pos hk, if_neg J]
theorem mix_set (hi : i < L.length) {z : Int} (hz : z = lvl L a (n + 1) i) : (mixL L a n i).set i z = mixL L a n (i + 1) := List.ext_getElem (by simp [mixL]) fun k h1 h2 => by
 have hk : k < L.length := by rw [nW] at h2; exact h2
 rw [List.getElem_set];by_cases e : i = k
 ·subst e;rw [if_pos rfl, jQ hk, if_pos J, hz]
 ·rw [if_neg e, jQ hk, jQ hk];by_cases c : k < i
  ·rw [if_pos c, if_pos J]
  ·rw [if_neg c, if_neg J]
theorem mix_keep (hi : i < L.length) (hz : lvl L a (n + 1) i = lvl L a n i) : mixL L a n i = mixL L a n (i + 1) := List.ext_getElem (by simp [mixL]) fun k h1 h2 => by
 have hk : k < L.length := by rw [nW] at h2; exact h2
 rw [jQ hk, jQ hk];by_cases c : k < i
 ·rw [if_pos c, if_pos J]
 ·rw [if_neg c];by_cases e : k = i
  ·subst e;rw [if_pos J, hz]
  ·rw [if_neg J]
theorem lvl_n {k : Nat} (hn : 0 < n) : lvl L a (n + 1) k = n ↔ lvl L a n k = n := by
 have e : lvl L a (n + 1) k = if 0 < lvl L a n k ∨ (hdL L k).t ≤ a then lvl L a n k else if (n = 0 ∧ (hdL L k).f ≤ a) ∨ (0 < n ∧ ∃ j, j < L.length ∧ lvl L a n j = n ∧ (hdL L k).f ≤ (hdL L j).t) then n + 1 else 0 := rfl
 rw [e];split
 ·exact Iff.rfl
 ·rename_i h
  split <;> omega
theorem lvl_step (h1 : ¬ 0 < lvl L a n i) (h2 : ¬ (hdL L i).t ≤ a) : lvl L a (n + 1) i = if (n = 0 ∧ (hdL L i).f ≤ a) ∨ (0 < n ∧ ∃ j, j < L.length ∧ lvl L a n j = n ∧ (hdL L i).f ≤ (hdL L j).t) then n + 1 else 0 := by
 rw [lvl, if_neg J]
theorem lvl_stay (h : 0 < lvl L a n i ∨ (hdL L i).t ≤ a) : lvl L a (n + 1) i = lvl L a n i := by rw [lvl, if_pos h]
end
def RchR (L : List Hd) (a b : Int) (y : Nat × Int) : Prop := (y.2 = 0 ∧ 0 < y.1 ∧ FndL L a b y.1 ∧ ∀ m, 0 < m → m < y.1 → ¬ FndL L a b m) ∨ (y = (0, 6) ∧ (¬ Gd L a b ∨ ∀ m, 0 < m → m ≤ L.length → ¬ FndL L a b m))
theorem rChn_no (w : World) (lo hi : Nat) (L : List Hd) (v : Value) (a b : Int) (h : RdH w lo hi v L) (hlen : L.length ≤ maxLen) (h0 : dI L a b ≠ 0) : Ca Tryz.prog 79 [v, .int .i64 a, .int .i64 b] w fun x w' => x = .tuple #[.int .i64 0, .int .i64 (dI L a b)] ∧ Chg [] w w' := by
 refine cN (Sat.nil w M0) Tryz.func79 Z (by simp [Tryz.ntmps79]) ?_;(refine aC (aB (aA1 zq (aA1 zq (aD (aC (aC (aB ?_))))))); (iterate 3 refine aA1 zq ?_));refine aI (val := .int .i64 (dI L a b)) U Z Z Z Z (fun w hs => ?_) ?_; exact hU w lo hi L v a b (RdE.keep h hs.chg0) hlen;(refine aA1 zq (aD (aC (aB (aA1 zq (aB0 xq J (aD (aH Z (aC (aB ?_))))))))); (iterate 3 refine aA1 zq ?_); refine aD (aS ?_));refine aA5 wq O fun w hs => ?_;exact ⟨Z, hs.chg0⟩
theorem rChn_ok (w : World) (lo hi : Nat) (L : List Hd) (v : Value) (a b : Int) (h : RdH w lo hi v L) (h0 : SpOk L a b) : Ca Tryz.prog 79 [v, .int .i64 a, .int .i64 b] w fun x w' => (∃ y : Nat × Int, x = .tuple #[.int .i64 y.1, .int .i64 y.2] ∧ RchR L a b y) ∧ Chg [] w w' := by
 have hb := h0.rb;have hn1 := h0.g.n1;have hn30 := h0.g.n30;have hlen : L.length ≤ maxLen := by simp only [maxLen]; omega
 obtain ⟨va, vc, rfl, hsa⟩ := RdH.outI h;obtain ⟨gb, go, rfl⟩ := hsa J;refine cN (Sat.nil w M0) Tryz.func79 Z (by simp [Tryz.ntmps79]) ?_;(refine aC (aB (aA1 zq (aA1 zq (aD (aC (aC (aB ?_))))))); (iterate 3 refine aA1 zq ?_));refine aI (val := .int .i64 0) U Z Z Z Z (fun w hs => ?_) ?_; exact by have := hU w lo hi L _ a b (RdE.keep h hs.chg0) hlen; rw [eJ.2 h0] at this; exact this
 (refine aA1 zq (aD (aC (aB (aA1 zq (aA6 xq J (aD (aG Z (aK (aC (aC (aB ?_))))))))))); (iterate 3 refine aA1 zq ?_))
 refine bC (β := Int) (ψ := fun y v => v = .int .i64 y ∧ GpR L a b y) (L' := fun _ => []) U [] _ M0 Z Z Z Z (Sp.refl _) qC (fun w' hs => (rgap_ca w' lo hi L _ a b (RdE.keep h hs.chg0) hlen J h0.ra.1 J).mono fun x w2 ⟨⟨y, h1, h2⟩, h3⟩ => ⟨y, ⟨h1, h2⟩, (Sat.nil w' M0).keep h3⟩) ?_;rintro y _ ⟨rfl, hy⟩;dsimp only [List.cons_append, List.nil_append];by_cases hyb : y < b
 ·(refine aA1 zq (aB3 xq J (aD (aH Z (aC (aB (aA1 zq (aA1 zq (aD (aS ?_))))))))))
  refine aA5 wq O fun w hs => ?_;exact ⟨⟨(0, 6), Z, .inr ⟨Z, .inl (hy.lt.1 hyb)⟩⟩, hs.chg0⟩
 ·clear hy;(refine aA1 zq (aB4 xq J (aD (aG Z (aK (aC (aB (aA1 zq (aA1 zq ?_)))))))));refine kR slI Z Z Z J (fun b9 => ?_);rw [mix_start (a := a)];(refine aA1 zq (aD (aC (aC (aB (aA1 zq (aD (aM ?_))))))));refine bM (σ := Nat) (fun n => n ≤ L.length ∧ ∀ m, 0 < m → m ≤ n → ¬ FndL L a b m) (fun n => L.length - n) (fun n => [(0, .slice (some ⟨gb, go, none⟩) L.length vc), (1, .int .i64 a), (2, .int .i64 b), (9, aB9 b9 L.length L.length), (10, .int .i64 (n + 1 : Nat))]) (fun n => [.pt b9 (aX (mixL L a n 0)) 3]) 0 ⟨by omega, fun m h1 h2 => by omega⟩ ⟨Z, Z, Z, Z, Z, trivial⟩ O ?_;rintro n ⟨hn, hno⟩ K hK;(refine aC (aC (aB ?_)); (iterate 4 refine aA1 zq ?_); refine aD ?_);refine dN Z (fun hc => ?_) (fun hc => ?_)
  ·have hnl : n < L.length := by omega
   clear hc;(refine aK (aC (aM (aC (aC (aB (aA1 zq (aD (aM ?_)))))))));refine bM (σ := Nat) (fun i => i ≤ L.length) (fun i => L.length - i) (fun i => [(0, .slice (some ⟨gb, go, none⟩) L.length vc), (1, .int .i64 a), (2, .int .i64 b), (9, aB9 b9 L.length L.length), (10, .int .i64 (n + 1 : Nat)), (11, .int .i64 i)]) (fun i => [.pt b9 (aX (mixL L a n i)) 3]) 0 J ⟨Z, Z, Z, Z, Z, Z, trivial⟩ O ?_;rintro i hi2 K2 hK2;(refine aC (aC (aB ?_)); (iterate 4 refine aA1 zq ?_); refine aD ?_);refine dN Z (fun hc => ?_) (fun hc => ?_)
   ·have hi : i < L.length := by omega
    clear hc;have hlv := lvl_le (L := L) (a := a) n i;(refine aK (aC (aM (aC (aC (aB (aA1 zq (aA1 zq ?_))))))));refine aA7 Wa J J ?_;refine kP U (i) Z Z Z O J (by rw [nW]; exact hi) ?_;rw [jQ hi];rw [if_neg (Nat.lt_irrefl i)];by_cases c1 : 0 < lvl L a n i
    ·have e := mix_keep hi (lvl_stay (.inl c1));(refine cR U Z Z Z J (aA1 zq ?_); (iterate 7 refine aA8 yq ?_); refine aA1 zq (aD (aH Z (bH _ Z (aB (aA1 zq (aA4 uq J J (aA1 zq (aD ?_)))))))));exact hK2 (i + 1) _ _ J J ⟨Z, Z, Z, Z, Z, Z, trivial⟩ (by rw [← e]; repeat constructor)
    ·(refine aB1 xq J (aA1 zq (aE Z (aA1 zq (aE Z (aA1 zq (aE Z ?_)))))))
     refine aA7 Wa J J ?_;(refine aE Z (aA1 zq (aE Z ?_)));refine bI (v := .int .i64 (hdL L i).t) U Z Z Z (fun w hs => by rw [hdL_get hi]; exact RdH.at2 (RdE.keep h hs.chg0) i hi) ?_;by_cases c2 : (hdL L i).t ≤ a
     ·have e := mix_keep hi (lvl_stay (n := n) (.inr c2));(refine aE Z (aA1 zq (aE Z (jU U Z Z Z J (aA1 zq (aD (aH Z (bH _ Z (aB (aA1 zq (aA4 uq J J (aA1 zq ?_))))))))))); refine aD ?_);exact hK2 (i + 1) _ _ J J ⟨Z, Z, Z, Z, Z, Z, trivial⟩ (by rw [← e]; repeat constructor)
     ·have hst := lvl_step (L := L) c1 c2;(refine aE Z (aA1 zq (aE Z (gO U Z Z Z J (aA1 zq (aD (aG Z (aK (aC ?_)))))))));refine fT (σ := {c : Bool // c = true ↔ n = 0 ∧ (hdL L i).f ≤ a}) (fun c => [(0, .slice (some ⟨gb, go, none⟩) L.length vc), (1, .int .i64 a), (2, .int .i64 b), (9, aB9 b9 L.length L.length), (10, .int .i64 (n + 1 : Nat)), (11, .int .i64 i), (12, .bool c.1)]) (fun _ => [.pt b9 (aX (mixL L a n i)) 3]) ?_ ?_;rotate_left
      ·intro K3 hK3;by_cases hn0 : n = 0
       ·(refine aB (aA1 zq (aB2 xq J (aA1 zq (aE Z (aA1 zq (aE Z (aA1 zq (aE Z ?_)))))))))
        refine aA7 Wa J J ?_;(refine aE Z (aA1 zq (aE Z ?_)));refine bI (v := .int .i64 (hdL L i).f) U Z Z Z (fun w hs => by rw [hdL_get hi]; exact RdH.at1 (RdE.keep h hs.chg0) i hi) ?_;by_cases hf : (hdL L i).f ≤ a
        ·(refine aE Z (aA1 zq (aE Z (jU U Z Z Z J (aA1 zq (aA1 zq (aD ?_)))))))
         exact hK3 ⟨true, by simp [hn0, hf]⟩ _ _ ⟨Z, Z, Z, Z, Z, Z, Z, trivial⟩ O
        ·(refine aE Z (aA1 zq (aE Z (gO U Z Z Z J (aA1 zq (aA1 zq (aD ?_)))))))
         exact hK3 ⟨false, by simp [hf]⟩ _ _ ⟨Z, Z, Z, Z, Z, Z, Z, trivial⟩ O
       ·(refine aB (aA1 zq (cZ U Z Z Z J (aA1 zq ?_))); (iterate 7 refine aA8 yq ?_); refine aA1 zq (aA1 zq (aD ?_)))
        exact hK3 ⟨false, by simp [hn0]⟩ _ _ ⟨Z, Z, Z, Z, Z, Z, Z, trivial⟩ O
      rintro ⟨c, hcn⟩;dsimp only at hcn ⊢
      have hcs : c = true ↔ ((n = 0 ∧ (hdL L i).f ≤ a) ∨ (0 < n ∧ ∃ j, j < 0 ∧ lvl L a n j = n ∧ (hdL L i).f ≤ (hdL L j).t)) := by
       rw [hcn];constructor
       ·exact .inl
       ·rintro (h | ⟨_, j, h, _⟩)
        ·exact h
        ·omega
      (refine aC (aC (aB (aA1 zq (aD (aM ?_))))))
      refine bM (σ := Nat × Bool) (fun ⟨k, c⟩ => k ≤ L.length ∧ (c = true ↔ ((n = 0 ∧ (hdL L i).f ≤ a) ∨ (0 < n ∧ ∃ j, j < k ∧ lvl L a n j = n ∧ (hdL L i).f ≤ (hdL L j).t)))) (fun ⟨k, _⟩ => L.length - k) (fun ⟨k, c⟩ => [(0, .slice (some ⟨gb, go, none⟩) L.length vc), (1, .int .i64 a), (2, .int .i64 b), (9, aB9 b9 L.length L.length), (10, .int .i64 (n + 1 : Nat)), (11, .int .i64 i), (12, .bool c), (13, .int .i64 k)]) (fun _ => [.pt b9 (aX (mixL L a n i)) 3]) (0, c) ⟨by omega, hcs⟩ ⟨Z, Z, Z, Z, Z, Z, Z, Z, trivial⟩ O ?_;clear hcs hcn c;rintro ⟨k, c⟩ ⟨hk, hcn⟩ K3 hK3;dsimp only at hk hcn hK3 ⊢;(refine aC (aC (aB ?_)); (iterate 4 refine aA1 zq ?_); refine aD ?_);refine dN Z (fun hc => ?_) (fun hc => ?_)
      ·have hk2 : k < L.length := by omega
       clear hc
       have hmore : ∀ c2 : Bool, (c2 = true ↔ (c = true ∨ (0 < n ∧ lvl L a n k = n ∧ (hdL L i).f ≤ (hdL L k).t))) → (c2 = true ↔ ((n = 0 ∧ (hdL L i).f ≤ a) ∨ (0 < n ∧ ∃ j, j < k + 1 ∧ lvl L a n j = n ∧ (hdL L i).f ≤ (hdL L j).t))) := fun c2 h2 => by
        rw [h2, hcn];constructor
        ·rintro ((h | ⟨h, j, h3, h4⟩) | ⟨h, h3⟩)
         ·exact .inl h
         ·exact .inr ⟨h, j, by omega, h4⟩
         ·exact .inr ⟨h, k, by omega, h3⟩
        ·rintro (h | ⟨h, j, h3, h4⟩)
         ·exact .inl (.inl h)
         ·by_cases e : j = k
          ·subst e;exact .inr ⟨h, h4⟩
          ·exact .inl (.inr ⟨h, j, by omega, h4⟩)
       cases c with
       | true =>
        (refine aK (aC (aM ?_)))
        refine bZ _ [] (Sp.refl _) qB qB ?_;(refine aA2 xq (aA2 xq ?_); (iterate 3 refine dH Z Z Z ?_); (iterate 7 refine pZ Z Z ?_); refine dH Z Z Z (dH Z Z Z ?_); (iterate 11 refine pZ Z Z ?_); refine dH Z Z Z (aA2 xq (aA2 xq (aN (bK (aB (aA1 zq (aA4 uq J J (aA1 zq (aD ?_))))))))));exact hK3 (k + 1, true) _ _ ⟨by omega, hmore true (by simp)⟩ (by dsimp only; omega) ⟨Z, Z, Z, Z, Z, Z, Z, Z, trivial⟩ O
       | false =>
        by_cases hn0 : n = 0
        ·(refine aK (aC (aM ?_)))
         refine bZ _ [] (Sp.refl _) qB qB ?_;(refine aA2 xq (aA2 xq (aL Z (aA2 xq (aL Z (gF U Z Z Z J (aL Z (aA2 xq ?_))))))); (iterate 7 refine dH Z Z Z ?_); refine aL Z (aA2 xq (aL Z (aA2 xq ?_))); (iterate 11 refine dH Z Z Z ?_); refine aL Z ?_; (iterate 3 refine aA2 xq ?_); refine aN (bK (aB (aA1 zq (aA4 uq J J (aA1 zq (aD ?_)))))));exact hK3 (k + 1, false) _ _ ⟨by omega, hmore false (by simp; omega)⟩ (by dsimp only; omega) ⟨Z, Z, Z, Z, Z, Z, Z, Z, trivial⟩ O
        ·have hlk := lvl_le (L := L) (a := a) n k;have hlk2 := lvl_le (L := L) (a := a) (n + 1) k;have hlk3 := lvl_n (L := L) (a := a) (k := k) (show 0 < n by omega);(refine aK (aC (aM ?_)));refine bZ _ [] (Sp.refl _) qB qB ?_;(refine aA2 xq (aA2 xq (aL Z (aA2 xq (aL Z (gX U Z Z Z J (aL Z (aA2 xq (aL Z (aA2 xq (aL Z (aA2 xq ?_))))))))))); refine aL Z ?_);refine aA3 Wa J J ?_;(refine aL Z ?_);refine qf_loadI U (k) Z Z Z O J (by rw [nW]; exact hk2) ?_;rw [jQ hk2]
         have hq : (if k < i then (lvl L a (n + 1) k : Int) else (lvl L a n k : Int)) = n ↔ lvl L a n k = n := by
          split
          ·rw [← hlk3]; omega
          ·omega
         have hq2 : 0 ≤ (if k < i then (lvl L a (n + 1) k : Int) else (lvl L a n k : Int)) ∧ (if k < i then (lvl L a (n + 1) k : Int) else (lvl L a n k : Int)) ≤ 100 := by
          split <;> omega
         generalize (if k < i then (lvl L a (n + 1) k : Int) else (lvl L a n k : Int)) = z at hq hq2 ⊢;by_cases hz : z = n
         ·have hz2 := hq.1 hz;(refine aL Z (aA2 xq (aL Z (aA9 uq J J (aL Z (qf_eqlT U Z Z Z J (aL Z (aA2 xq (aL Z (aA2 xq (aL Z (aA2 xq ?_))))))))))); refine aL Z (aA2 xq (aL Z ?_)));refine aA3 Wa J J ?_;(refine aL Z (aA2 xq (aL Z ?_)));refine aR (v := .int .i64 (hdL L i).f) U Z Z Z (fun w hs => by rw [hdL_get hi]; exact RdH.at1 (RdE.keep h hs.chg0) i hi) ?_;(refine aL Z (aA2 xq (aL Z (aA2 xq (aL Z ?_)))));refine aA3 Wa J J ?_;(refine aL Z (aA2 xq (aL Z ?_)));refine aR (v := .int .i64 (hdL L k).t) U Z Z Z (fun w hs => by rw [hdL_get hk2]; exact RdH.at2 (RdE.keep h hs.chg0) k hk2) ?_;by_cases hf : (hdL L i).f ≤ (hdL L k).t
          ·(refine aL Z (qf_leqT U Z Z Z J (aL Z ?_)); (iterate 3 refine aA2 xq ?_); refine aN (bK (aB (aA1 zq (aA4 uq J J (aA1 zq (aD ?_)))))))
           exact hK3 (k + 1, true) _ _ ⟨by omega, hmore true (by simp; exact ⟨by omega, hz2, hf⟩)⟩ (by dsimp only; omega) ⟨Z, Z, Z, Z, Z, Z, Z, Z, trivial⟩ O
          ·(refine aL Z (qf_leqF U Z Z Z J (aL Z ?_)); (iterate 3 refine aA2 xq ?_); refine aN (bK (aB (aA1 zq (aA4 uq J J (aA1 zq (aD ?_)))))))
           exact hK3 (k + 1, false) _ _ ⟨by omega, hmore false (by simp [hf])⟩ (by dsimp only; omega) ⟨Z, Z, Z, Z, Z, Z, Z, Z, trivial⟩ O
         ·have hz2 : lvl L a n k ≠ n := fun e => hz (hq.2 e)
          (refine aL Z (aA2 xq (aL Z (aA9 uq J J (aL Z (qf_eqlF U Z Z Z J (aL Z (aA2 xq (aL Z (aA2 xq ?_))))))))); (iterate 11 refine dH Z Z Z ?_); refine aL Z ?_; (iterate 3 refine aA2 xq ?_); refine aN (bK (aB (aA1 zq (aA4 uq J J (aA1 zq (aD ?_)))))))
          exact hK3 (k + 1, false) _ _ ⟨by omega, hmore false (by simp [hz2])⟩ (by dsimp only; omega) ⟨Z, Z, Z, Z, Z, Z, Z, Z, trivial⟩ O
      ·obtain rfl : k = L.length := by omega
       clear hc hK3;cases c with
       | true =>
        have hst2 : ((n + 1 : Nat) : Int) = lvl L a (n + 1) i := by rw [hst, if_pos (hcn.1 rfl)]
        (refine bH _ Z (aC (aB (aA1 zq (aD (aH Z (aB ?_)))))); (iterate 3 refine aA1 zq ?_))
        refine aA7 Wa J J ?_;refine oJ U i Z Z Z O J (by rw [nW]; exact hi) ?_;rw [mix_set hi hst2];(refine aD (bK (aB (aA1 zq (aA4 uq J J (aA1 zq (aD ?_)))))));exact hK2 (i + 1) _ _ J J ⟨Z, Z, Z, Z, Z, Z, trivial⟩ O
       | false =>
        have e := mix_keep hi (show lvl L a (n + 1) i = lvl L a n i by rw [hst, if_neg (fun h => by have := hcn.2 h; cases this)]; omega);(refine bH _ Z (aC (aB (aA1 zq (aD (aG Z (aK (bK (aB (aA1 zq (aA4 uq J J (aA1 zq ?_))))))))))); refine aD ?_);exact hK2 (i + 1) _ _ J J ⟨Z, Z, Z, Z, Z, Z, trivial⟩ (by rw [← e]; repeat constructor)
   ·obtain rfl : i = L.length := by omega
    clear hc hK2;rw [mix_full];(refine bH _ Z (aC (aB (aA1 zq (aD (aM ?_))))));refine bM (σ := Nat) (fun i => i ≤ L.length ∧ ∀ j, j < i → ¬ (lvl L a (n + 1) j = n + 1 ∧ b ≤ (hdL L j).t)) (fun i => L.length - i) (fun i => [(0, .slice (some ⟨gb, go, none⟩) L.length vc), (1, .int .i64 a), (2, .int .i64 b), (9, aB9 b9 L.length L.length), (10, .int .i64 (n + 1 : Nat)), (14, .int .i64 i)]) (fun _ => [.pt b9 (aX (mixL L a (n + 1) 0)) 3]) 0 ⟨by omega, fun j h => by omega⟩ ⟨Z, Z, Z, Z, Z, Z, trivial⟩ O ?_;rintro i ⟨hi2, hnf⟩ K2 hK2;(refine aC (aC (aB ?_)); (iterate 4 refine aA1 zq ?_); refine aD ?_);refine dN Z (fun hc => ?_) (fun hc => ?_)
    ·have hi : i < L.length := by omega
     clear hc;have hlv := lvl_le (L := L) (a := a) (n + 1) i;(refine aK (aC (aM (aC (aB (aA1 zq (aA1 zq ?_)))))));refine aA7 Wa J J ?_;refine kP U (i) Z Z Z O J (by rw [nW]; exact hi) ?_;rw [jQ hi];rw [if_neg (Nat.not_lt_zero i)];by_cases c1 : lvl L a (n + 1) i = n + 1
     ·(refine aA1 zq (aB2 xq J (aA1 zq (aE Z (aA1 zq (aE Z (aA1 zq (aE Z ?_))))))))
      refine aA7 Wa J J ?_;(refine aE Z (aA1 zq (aE Z ?_)));refine bI (v := .int .i64 (hdL L i).t) U Z Z Z (fun w hs => by rw [hdL_get hi]; exact RdH.at2 (RdE.keep h hs.chg0) i hi) ?_;by_cases c2 : b ≤ (hdL L i).t
      ·(refine aE Z (aA1 zq (aE Z (jP U Z Z Z J (aA1 zq (aD (aH Z (aC (aB ?_)))))))); (iterate 3 refine aA1 zq ?_); refine aD (aS ?_))
       refine aA5 wq O fun w hs => ?_;exact ⟨⟨(n + 1, 0), Z, .inl ⟨Z, by simp, ⟨i, hi, c1, c2⟩, fun m h1 h2 => hno m h1 (by dsimp only at h2; omega)⟩⟩, hs.chg0⟩
      ·(refine aE Z (aA1 zq (aE Z (jT U Z Z Z J (aA1 zq (aD (aG Z (aK (bK (aB (aA1 zq (aA4 uq J J ?_))))))))))); refine aA1 zq (aD ?_))
       exact hK2 (i + 1) _ _ ⟨by omega, fun j hj => by
        by_cases e : j = i
        ·rw [e]; exact fun h => c2 h.2
        ·exact hnf j J⟩ J ⟨Z, Z, Z, Z, Z, Z, trivial⟩ O
     ·(refine aA1 zq (cZ U Z Z Z J (aA1 zq ?_)); (iterate 7 refine aA8 yq ?_); refine aA1 zq (aD (aG Z (aK (bK (aB (aA1 zq (aA4 uq J J (aA1 zq (aD ?_))))))))))
      exact hK2 (i + 1) _ _ ⟨by omega, fun j hj => by
       by_cases e : j = i
       ·rw [e]; exact fun h => c1 h.1
       ·exact hnf j J⟩ J ⟨Z, Z, Z, Z, Z, Z, trivial⟩ O
    ·obtain rfl : i = L.length := by omega
     clear hc hK2;(refine bH _ Z (bK (aB (aA1 zq (aA4 uq J J (aA1 zq (aD ?_)))))))
     exact hK (n + 1) _ _ ⟨by omega, fun m h1 h2 => by
      by_cases e : m = n + 1
      ·rw [e];rintro ⟨j, h3, h4⟩;exact hnf j h3 h4
      ·exact hno m h1 J⟩ J ⟨Z, Z, Z, Z, fM Z J, trivial⟩ O
  ·obtain rfl : n = L.length := by omega
   (refine bH _ Z (aC (aB (aA1 zq (aA1 zq (aD (aS ?_)))))))
   refine aA5 wq O fun w hs => ?_;exact ⟨⟨(0, 6), Z, .inr ⟨Z, .inr hno⟩⟩, hs.chg0⟩
def pIn (n : Int) : Value → Bool
 | .int _ i => inB i 0 (n - 1)
 | _ => false
theorem grd1_p (w : World) (b n c : Nat) (a : Option Addr) (C : List Int) {t : TypeId} (hn : n ≤ 1000) (hb : Blk w b [.slice a n c] t) : PredAt Tryz.prog tab w (.func (.func 143) #[] #[aC0 b]) (aX C) (pIn n) := by
 refine ⟨_, _, _, Z, Z, fun w' hw' x hx => ?_⟩;obtain ⟨i, _, rfl⟩ := List.mem_map.1 hx;have hb' := hb.keep hw';refine cN (Sat.nil w' M0) Tryz.func143 Z (by simp [Tryz.ntmps143]) ?_;(refine aC (aB (aA1 zq (aD (aC (aB (aA1 zq ?_)))))); refine gA U Z Z Z (by assumption) (by rfl) ?_; refine aA1 zq (aA4 uq J J ?_));refine aI (val := .bool (inB i 0 ((n : Int) - 1))) U Z Z Z Z (fun w hs => ?_) ?_; exact eZ i 0 ((n : Int) - 1) w;(refine aA1 zq (aD (aS ?_)));refine aA5 wq O fun w hs => ?_;exact ⟨Z, hs.chg0⟩
def someL (L : List Hd) (C : List Int) (k : Nat) : List Hd := ((List.range k).filter fun i : Nat => decide ((i : Int) ∈ C)).map (hdL L)
theorem some_len (L : List Hd) (C : List Int) (k : Nat) : (someL L C k).length ≤ k := by
 unfold someL;rw [List.length_map];exact Nat.le_trans (List.length_filter_le _ _) (by simp)
theorem some_mem {L : List Hd} {C : List Int} (hok : okC L C = true) {x : Hd} : x ∈ someL L C L.length ↔ x ∈ hC L C := by
 unfold someL hC;rw [List.mem_map, List.mem_map];constructor
 ·rintro ⟨i, hi, rfl⟩;rw [List.mem_filter, decide_eq_true_iff] at hi;exact ⟨i, hi.2, by rw [Int.toNat_natCast]⟩
 ·rintro ⟨i, hi, rfl⟩;have hb := bV.1 (List.all_eq_true.1 hok i hi);refine ⟨i.toNat, ?_, Z⟩;rw [List.mem_filter, decide_eq_true_iff, List.mem_range, Int.toNat_of_nonneg hb.1];exact ⟨by omega, hi⟩
theorem some_next (L : List Hd) (C : List Int) (k : Nat) : someL L C (k + 1) = if (k : Int) ∈ C then someL L C k ++ [hdL L k] else someL L C k := by
 unfold someL;rw [List.range_succ, List.filter_append, List.map_append];split
 ·rename_i h
  rw [List.filter_cons_of_pos (by simpa using h)]
  rfl
 ·rename_i h
  rw [List.filter_cons_of_neg (by simpa using h)];simp
theorem rgrd_no (w : World) (lo hi : Nat) (L : List Hd) (v cv : Value) (a b : Int) (h : RdH w lo hi v L) (hlen : L.length ≤ maxLen) (h0 : dI L a b ≠ 0) : Ca Tryz.prog 74 [v, .int .i64 a, .int .i64 b, cv] w fun x w' => x = .tuple #[.bool false, .int .i64 (dI L a b)] ∧ Chg [] w w' := by
 obtain ⟨va, vc, rfl, hsa⟩ := RdH.outI h;refine cN (Sat.nil w M0) Tryz.func74 Z (by simp [Tryz.ntmps74]) ?_;(refine aC (aB ?_));refine bR Z Z (fun b4 => ?_);(refine aA1 zq (aA1 zq (aD (aC (aB ?_)))); refine aJ U Z Z Z ?_; refine aA1 zq (aA1 zq ?_));refine aI (val := .int .i64 (dI L a b)) U Z Z Z Z (fun w hs => ?_) ?_; exact gG w lo hi L _ a b (RdE.keep h hs.chg0) hlen;(refine aA1 zq (aD (aC (aM (aC (aB (aA1 zq (aB0 xq J (aA1 zq (aD (aH Z (aC ?_))))))))))); refine aB ?_; (iterate 3 refine aA1 zq ?_); refine aD (aS ?_));refine aA5 wq O fun w hs => ?_
 exact ⟨Z, hs.chg0⟩
theorem rgrd_ok (w : World) (lo hi lo2 hi2 : Nat) (L : List Hd) (v mv : Value) (a b : Int) (C : List Int) (h : RdH w lo hi v L) (hM : RdI w lo2 hi2 mv C) (hC1 : C.length ≤ 1000) (h0 : SpOk L a b) : Ca Tryz.prog 74 [v, .int .i64 a, .int .i64 b, mv] w fun x w' => (∃ y : Bool × Int, x = .tuple #[.bool y.1, .int .i64 y.2] ∧ GrdsR L a b C y) ∧ Chg [] w w' := by
 have hb := h0.rb;have hn1 := h0.g.n1;have hn30 := h0.g.n30;have hlen : L.length ≤ maxLen := by simp only [maxLen]; omega
 obtain ⟨va, vc, rfl, hsa⟩ := RdH.outI h;obtain ⟨gb, go, rfl⟩ := hsa J;refine cN (Sat.nil w M0) Tryz.func74 Z (by simp [Tryz.ntmps74]) ?_;(refine aC (aB ?_));refine bR Z Z (fun b4 => ?_);(refine aA1 zq (aA1 zq (aD (aC (aB ?_)))); refine aJ U Z Z Z ?_; refine aA1 zq (aA1 zq ?_));refine aI (val := .int .i64 0) U Z Z Z Z (fun w hs => ?_) ?_; exact by have := gG w lo hi L _ a b (RdE.keep h hs.chg0) hlen; rw [eJ.2 h0] at this; exact this
 (refine aA1 zq (aD (aC (aM (aC (aB (aA1 zq (aA6 xq J (aA1 zq (aD (aG Z (aC ?_))))))))))); refine aB (aA1 zq (aA1 zq ?_)))
 refine aI (val := .bool (okC L C)) U Z Z Z Z (fun w hs => ?_) ?_; exact by have := all_rint w lo2 hi2 mv (.func (.func 143) #[] #[aC0 b4]) (aX C) (pIn L.length) (RdE.keep hM hs.chg0) (fun i _ => by simp [aX, dJ]) (by simp [aX]; omega) (grd1_p w b4 L.length vc _ C J (hs.blk (b := b4) O)); rw [show (aX C).all (pIn L.length) = okC L C from by simp only [aX, List.all_map]; rfl] at this; exact this
 cases hok : okC L C with
 | false =>
  (refine aA1 zq (aA1 zq (aD (aH Z (aC (aB (aA1 zq (aA1 zq (aD (aS ?_))))))))))
  refine aA5 wq O fun w hs => ?_;exact ⟨⟨(false, 1), Z, .inl ⟨hok, Z⟩⟩, hs.chg0⟩
 | true =>
  (refine aA1 zq (aA1 zq (aD (aG Z (aK (bK (aC (aB (aA1 zq (aD (aC (aC ?_))))))))))); refine aB ?_; refine aJ U Z Z Z ?_; refine aA1 zq (aA1 zq (aD (aM ?_))))
  refine dG (H' := [.ow (.slice none 0 0) 28 3 (someL L C 0).length (hdC (someL L C 0)), .pt b4 [.slice (some ⟨gb, go, none⟩) L.length vc] 23]) (fun w' hs => Sat.ownil hs 28 3) ?_
  refine bM (σ := Nat × Value) (fun ⟨k, u⟩ => k ≤ L.length) (fun ⟨k, _⟩ => L.length - k) (fun ⟨k, u⟩ => [(1, .int .i64 a), (2, .int .i64 b), (3, mv), (4, aC0 b4), (11, u), (30, .slice (some ⟨gb, go, none⟩) L.length vc), (31, .int .i64 L.length), (32, .int .i64 k)])
   (fun ⟨k, u⟩ => [.ow u 28 3 (someL L C k).length (hdC (someL L C k)), .pt b4 [.slice (some ⟨gb, go, none⟩) L.length vc] 23]) (0, .slice none 0 0) (by dsimp only; omega) ⟨rfl, rfl, rfl, rfl, rfl, rfl, rfl, rfl, trivial⟩ O ?_
  rintro ⟨k, u⟩ hk K hK;dsimp only at hk hK ⊢;have hsl := some_len L C k;(refine aC (aB (aA1 zq (aD (aC ?_)))));refine dN Z (fun hc => ?_) (fun hc => ?_)
  ·have hk2 : k < L.length := by omega
   clear hc;have hnx := some_next L C k;rw [hdL_get hk2] at hnx;(refine aK (aC (aM (aC (aB (aA1 zq ?_))))));refine aA7 Wa J J ?_;refine dC (cs := [.int .i64 L[k].who, .int .i64 L[k].f, .int .i64 L[k].t]) U Z Z Z Z (fun w hs q hq => RdH.at (RdE.keep h hs.chg0) k hk2 q hq) ?_;refine bF zero28 Z (fun b13 => ?_);(refine aA1 zq ?_; refine aB6 Wa O Z ?_; refine aD (aC (aB (aA1 zq (aA1 zq ?_)))));refine aI (val := .bool (decide ((k : Int) ∈ C))) U Z Z Z Z (fun w hs => ?_) ?_; exact contI_ca w lo2 hi2 mv C k (RdE.keep hM hs.chg0) J;by_cases hm : (k : Int) ∈ C
   ·rw [if_pos hm] at hnx;rw [decide_eq_true hm];(refine aD (aH Z (aB (aA1 zq ?_))); refine aP U Z Z Z ?_);refine cT 28 [.int .i64 L[k].who, .int .i64 L[k].f, .int .i64 L[k].t] Z qB Z (fun bn => ?_);refine cW (q := 1) (news := [.int .i64 L[k].who, .int .i64 L[k].f, .int .i64 L[k].t]) slH Z Z Z (fun v' => by repeat constructor) (fun w' hs => ⟨_, _, Blk.rdN (hs.blk (b := bn) O) Z⟩) (by simp [dJ]) J J (fun u' => ?_);(refine aA1 zq (aD (bK (aB (aA4 uq J J (aA1 zq (aD ?_)))))));exact hK (k + 1, u') _ _ (by dsimp only; omega) (by dsimp only; omega) ⟨Z, Z, Z, Z, Z, Z, Z, Z, trivial⟩ (by dsimp only; rw [hnx, oX, List.length_append, List.length_singleton]; repeat constructor)
   ·rw [if_neg hm] at hnx;rw [decide_eq_false hm];(refine aD (aG Z (aK (bK (aB (aA4 uq J J (aA1 zq (aD ?_))))))));exact hK (k + 1, u) _ _ (by dsimp only; omega) (by dsimp only; omega) ⟨Z, Z, Z, Z, Z, Z, Z, Z, trivial⟩ (by dsimp only; rw [hnx]; repeat constructor)
  ·obtain rfl : k = L.length := by omega
   clear hc hK;have hgd := gd_congr (a := a) (b := b) (fun x => some_mem hok (x := x))
   have hsub : ∀ x ∈ someL L C L.length, x ∈ L := fun x hx => by
    unfold someL at hx;obtain ⟨i, hi, rfl⟩ := List.mem_map.1 hx;rw [List.mem_filter, List.mem_range] at hi;exact hdL_mem hi.1
   have hra := h0.ra;generalize someL L C L.length = S at hsl hgd hsub ⊢;(refine bH _ Z (aC (aB ?_)); (iterate 3 refine aA1 zq ?_));refine bC (β := (Value × List Nat) × (Value × List Int) × Int) U [] _ M0 Z Z Z Z (Sp.refl _) qC (fun w' hs => links_ca w' 0 w'.heap.size u S (dA (hs.mem (c := .ow u 28 3 S.length (hdC S)) O) Z) (fun x hx => by have := h0.g.all x (hsub x hx); omega) J a b h0.ra J) ?_;rintro ⟨⟨v1, hl⟩, ⟨v2, ms⟩, e⟩ _ ⟨rfl, hlk⟩;dsimp only [List.cons_append, List.nil_append] at hlk ⊢;have hfull := hlk.full J;by_cases he : e = b
   ·(refine aA1 zq ?_; (iterate 3 refine aB5 xq ?_); (iterate 3 refine aA1 zq ?_); refine aD (aC (aB (aA1 zq (aA1 zq (aB2 xq J (aA1 zq (aA1 zq (aD (aS ?_))))))))))
    refine aA5 wq O fun w hs => ?_;exact ⟨⟨(true, 0), Z, .inr ⟨hok, Z, ⟨fun _ => hgd.1 (hfull.1 he), fun _ => Z⟩⟩⟩, hs.chg0⟩
   ·(refine aA1 zq ?_; (iterate 3 refine aB5 xq ?_); (iterate 3 refine aA1 zq ?_); refine aD (aC (aB (aA1 zq (aA1 zq (cZ U Z Z Z J (aA1 zq (aA1 zq (aD (aS ?_))))))))))
    refine aA5 wq O fun w hs => ?_;exact ⟨⟨(false, 0), rfl, .inr ⟨hok, rfl, ⟨(fun h => by cases h), fun hg => absurd (hfull.2 (hgd.2 hg)) he⟩⟩⟩, hs.chg0⟩
theorem all_sub {L : List Hd} {hs : List Nat} {C : List Int} (hi : ∀ i ∈ hs, i < L.length) (hp : C.Perm (nI hs)) : okC L C = true ∧ ∀ x, x ∈ hC L C ↔ x ∈ hs.map (hdL L) := by
 have hm : ∀ c, c ∈ C ↔ ∃ i ∈ hs, (i : Int) = c := fun c => by
  rw [hp.mem_iff];simp [nI]
 refine ⟨List.all_eq_true.2 fun c hc => ?_, fun x => ?_⟩
 ·obtain ⟨i, h1, rfl⟩ := (hm c).1 hc;exact bV.2 ⟨by omega, by have := hi i h1; omega⟩
 ·unfold hC;rw [List.mem_map, List.mem_map];constructor
  ·rintro ⟨c, hc, rfl⟩;obtain ⟨i, h1, rfl⟩ := (hm c).1 hc;exact ⟨i, h1, by rw [Int.toNat_natCast]⟩
  ·rintro ⟨i, h1, rfl⟩;exact ⟨(i : Int), (hm _).2 ⟨i, h1, Z⟩, by rw [Int.toNat_natCast]⟩
theorem lk_same {L : List Hd} {a b : Int} {h1 h2 : List Nat} {m1 m2 : List Int} (g1 : Lk L b a h1 m1 b) (g2 : Lk L b a h2 m2 b) : h1.length = h2.length := by
 have k1 := lk_mono g1 g2 (Int.le_refl _) (Int.le_refl _) fun _ h => h
 have k2 := lk_mono g2 g1 (Int.le_refl _) (Int.le_refl _) fun _ h => h
 omega
theorem cloneHd_ca (w : World) (lo hi : Nat) (v : Value) (l : List Hd) (h : RdH w lo hi v l) (hlen : l.length ≤ 1000) : Ca Tryz.prog 67 [v] w fun x w' => ∃ u : Value, x = u ∧ Sat w M0 [.ow u 28 3 l.length (hdC l)] w' := by
 obtain ⟨a, c, rfl, ha⟩ := RdH.outI h;refine cN (Sat.nil w M0) Tryz.func67 Z (by simp [Tryz.ntmps67]) ?_;refine dG (H' := [.ow (.slice none 0 0) 28 3 0 (hdC [])]) (fun w' hs => Sat.ownil hs 28 3) ?_;(refine aC (aB (aA1 zq (aD (aC (aB (aA1 zq ?_)))))));refine cW (q := l.length) (news := hdC l) slH Z Z Z (fun v' => by repeat constructor) (fun w' hs => ⟨_, _, RdH.row (RdE.keep h hs.chg0)⟩) (hdC_one l) J J (fun u' => ?_);(refine aA1 zq (aD (aS ?_)));refine aA5 wq O fun w hs => ?_
 exact ⟨u', Z, hs.sp (by simp only [hdC, List.flatMap_nil, List.nil_append, Nat.zero_add]; repeat constructor)⟩
set_option maxRecDepth 20000 in
theorem fZ (w : World) (L : List Hd) (v0 : Value) (a b : Int) (C M : List Int) (cv0 mv0 : Value) (h : RdH w 0 w.heap.size v0 L) (hRC : RdI w 0 w.heap.size cv0 C) (hM : RdI w 0 w.heap.size mv0 M) (hl1 : L.length ≤ maxLen) (hl2 : C.length ≤ maxLen) (hl3 : M.length ≤ maxLen) : Ca Tryz.prog 12 [v0, .int .i64 a, .int .i64 b, cv0, mv0] w fun r w' => r = .bool true ∧ Chg [] w w' := by
 simp only [maxLen] at hl1 hl2 hl3;obtain ⟨va, vc, ev, _⟩ := RdH.outI h;obtain ⟨ca, cc, ec, _⟩ := RdI.outI hRC;obtain ⟨ma, mc, em, _⟩ := RdI.outI hM;refine cN (Sat.nil w M0) Tryz.func12 Z (by simp [Tryz.ntmps12]) ?_;by_cases hbig : 35 < L.length ∨ 40 < C.length ∨ 40 < M.length
 ·subst ev ec em;by_cases c1 : 35 < L.length
  ·(refine aC (aB (aA1 zq (aD (aC (aC (aB (aA1 zq (aA1 zq (cR U Z Z Z J (aA1 zq ?_)))))))))); (iterate 3 refine aA8 yq ?_); refine aA1 zq (aA1 zq ?_); (iterate 3 refine aA8 yq ?_); refine aA1 zq (aD (aH Z (aC (aB ?_)))))
   refine aI (val := .bool true) U Z Z Z Z (fun w hs => ?_) ?_; exact cY w;(refine aA1 zq (aD (aS ?_)));refine aA5 wq O fun w hs => ?_;exact ⟨Z, hs.chg0⟩
  ·by_cases c2 : 40 < C.length
   ·(refine aC (aB (aA1 zq (aD (aC (aC (aB (aA1 zq (aA1 zq (aB1 xq J (aA1 zq (aE Z ?_))))))))))); refine aA1 zq (aE Z (aA1 zq (aE Z (cR U Z Z Z J (aA1 zq (aA1 zq ?_)))))); (iterate 3 refine aA8 yq ?_); refine aA1 zq (aD (aH Z (aC (aB ?_)))))
    refine aI (val := .bool true) U Z Z Z Z (fun w hs => ?_) ?_; exact cY w;(refine aA1 zq (aD (aS ?_)));refine aA5 wq O fun w hs => ?_;exact ⟨Z, hs.chg0⟩
   ·have c3 : 40 < M.length := by omega
    (refine aC (aB (aA1 zq (aD (aC (aC (aB (aA1 zq (aA1 zq (aB1 xq J (aA1 zq (aE Z ?_))))))))))); refine aA1 zq (aE Z (aA1 zq (aE Z (aB1 xq J (aA1 zq (aA1 zq (aE Z (aA1 zq (aE Z (aA1 zq (aE Z ?_))))))))))); refine cR U Z Z Z J (aA1 zq (aD (aH Z (aC (aB ?_))))))
    refine aI (val := .bool true) U Z Z Z Z (fun w hs => ?_) ?_; exact cY w;(refine aA1 zq (aD (aS ?_)));refine aA5 wq O fun w hs => ?_;exact ⟨Z, hs.chg0⟩
 ·have d1 : L.length ≤ 35 := by omega
  have d2 : C.length ≤ 40 := by omega
  have d3 : M.length ≤ 40 := by omega
  clear hbig;have hm1 : L.length ≤ maxLen := by simp only [maxLen]; omega
  refine dG (H' := []) (fun w' hs => hs) ?_;subst ev ec em;(refine aC (aB (aA1 zq (aD (aC (aC (aB (aA1 zq (aA1 zq (aB1 xq J (aA1 zq (aE Z ?_))))))))))); refine aA1 zq (aE Z (aA1 zq (aE Z (aB1 xq J (aA1 zq (aA1 zq (aE Z (aA1 zq (aE Z (aA1 zq (aE Z ?_))))))))))); refine aB1 xq J (aA1 zq (aD (aG Z (aK (aC (aB (aA1 zq ?_))))))));generalize ev : (Value.slice va L.length vc) = v0 at h ⊢;generalize ec : (Value.slice ca C.length cc) = cv0 at hRC ⊢;generalize em : (Value.slice ma M.length mc) = mv0 at hM ⊢;refine bC (β := Value) U [] _ M0 Z Z Z Z (Sp.refl _) qC (fun w' hs => cloneHd_ca w' 0 w.heap.size _ L (RdE.keep h hs.chg0) J) ?_;rintro _ vo rfl;dsimp only [List.cons_append, List.nil_append];refine cU (fun w hs => hs.slice2 (v := vo) O) ?_;rintro ⟨oa, oc, rfl⟩;(refine aA1 zq ?_);refine bC (β := Value) U [] _ M0 Z Z Z Z (Sp.refl _) qC (fun w' hs => lY w' 0 w.heap.size _ C (RdE.keep hRC hs.chg0) J) ?_;rintro _ vi rfl;dsimp only [List.cons_append, List.nil_append];refine cU (fun w hs => hs.slice2 (v := vi) O) ?_;rintro ⟨ia, ic, rfl⟩;(refine aA1 zq ?_);refine bC (β := Value) U [] _ M0 Z Z Z Z (Sp.refl _) qC (fun w' hs => lY w' 0 w.heap.size _ M (RdE.keep hM hs.chg0) J) ?_;rintro _ vu rfl;dsimp only [List.cons_append, List.nil_append];refine cU (fun w hs => hs.slice2 (v := vu) O) ?_;rintro ⟨ua, uc, rfl⟩;(refine aA1 zq ?_);refine bC (β := Value) U [] _ M0 Z Z Z Z (Sp.refl _) qC (fun w' hs => rholds_ca w' 0 w.heap.size _ L (RdE.keep h hs.chg0) J) ?_;rintro _ vr rfl;dsimp only [List.cons_append, List.nil_append];refine cU (fun w hs => hs.slice2 (v := vr) O) ?_;rintro ⟨ra, rc, rfl⟩
  ((iterate 4 refine aA1 zq ?_); refine aD (aC (aC (aB (aA1 zq ?_)))))
  refine aI (val := .int .i64 (chkG L)) U Z Z Z Z (fun w hs => ?_) ?_; exact checkG_ca w 0 w.heap.size L _ (dA (hs.mem (c := .ow (.slice oa L.length oc) 28 3 L.length (hdC L)) O) Z) hm1;(refine aA1 zq ?_);refine aI (val := .int .i64 (chkG L)) U Z Z Z Z (fun w hs => ?_) ?_; exact rchkG_ca w 0 w.heap.size L _ (dA (hs.mem (c := .ow (.slice ra L.length rc) 218 3 L.length (hdC L)) O) Z) hm1;(refine aA6 xq J (aD (aG Z (aK (aC (aB ?_))))); (iterate 3 refine aA1 zq ?_));by_cases hsp : dI L a b = 0
  ·have h0 := eJ.1 hsp;have hbb := h0.rb;have hn30 := h0.g.n30;refine bC (β := Int × Int) U [] _ M0 Z Z Z Z (Sp.refl _) qC (fun w' hs => gap_ok w' 0 w'.heap.size L _ a b (dA (hs.mem (c := .ow (.slice oa L.length oc) 28 3 L.length (hdC L)) O) Z) J h0) ?_;rintro ⟨g1, e1⟩ _ ⟨rfl, hg1⟩;dsimp only [List.cons_append, List.nil_append];(refine aA1 zq (aB5 xq (aB5 xq (aA1 zq (aA1 zq (aD (aC (aB ?_))))))); (iterate 3 refine aA1 zq ?_));refine bC (β := Int × Int) (ψ := fun y v => v = .tuple #[.int .i64 y.1, .int .i64 y.2] ∧ GapR L a b y.1 y.2) (L' := fun _ => []) U [] _ M0 Z Z Z Z (Sp.refl _) qC (fun w' hs => (rGap_ok w' 0 w'.heap.size L _ a b (dA (hs.mem (c := .ow (.slice ra L.length rc) 218 3 L.length (hdC L)) O) Z) h0).mono fun x w2 ⟨⟨y, h1, h2⟩, h3⟩ => ⟨y, ⟨h1, h2⟩, (Sat.nil w' M0).keep h3⟩) ?_;rintro ⟨g2, e2⟩ _ ⟨rfl, hg2⟩;dsimp only [List.cons_append, List.nil_append];obtain ⟨rfl, rfl⟩ : g1 = g2 ∧ e1 = e2 := gap_uniq hg1 hg2;clear hg1 hg2;(refine aA1 zq (aB5 xq (aB5 xq (aA1 zq (aA1 zq (aD (aC (aC (aB (aA1 zq (aA1 zq (aA6 xq J ?_))))))))))); refine aA1 zq (aE Z (aA1 zq (aE Z (aA1 zq (aE Z (aA6 xq J (aA1 zq (aD (aG Z (aK (aC ?_))))))))))); refine aB ?_; (iterate 4 refine aA1 zq ?_));refine bC (β := Bool × Int) (ψ := fun y v => v = .tuple #[.bool y.1, .int .i64 y.2] ∧ GrdsR L a b C y) (L' := fun _ => []) U [] _ M0 Z Z Z Z (Sp.refl _) qC (fun w' hs => (rgrd_ok w' 0 w'.heap.size 0 w'.heap.size L _ _ a b C (dA (hs.mem (c := .ow (.slice oa L.length oc) 28 3 L.length (hdC L)) O) Z) (bU (hs.mem (c := .ow (.slice ia C.length ic) 3 1 C.length (aX C)) O) Z) J h0).mono fun x w2 ⟨⟨y, h1, h2⟩, h3⟩ => ⟨y, ⟨h1, h2⟩, (Sat.nil w' M0).keep h3⟩) ?_;rintro ⟨z1, x1⟩ _ ⟨rfl, hz1⟩;dsimp only [List.cons_append, List.nil_append];(refine aA1 zq (aB5 xq (aB5 xq (aA1 zq (aA1 zq (aD (aC (aB ?_))))))); (iterate 4 refine aA1 zq ?_));refine bC (β := Bool × Int) (ψ := fun y v => v = .tuple #[.bool y.1, .int .i64 y.2] ∧ GrdsR L a b C y) (L' := fun _ => []) U [] _ M0 Z Z Z Z (Sp.refl _) qC (fun w' hs => (rGrd_ok w' 0 w'.heap.size 0 w.heap.size L _ _ a b C (dA (hs.mem (c := .ow (.slice ra L.length rc) 218 3 L.length (hdC L)) O) Z) (RdE.keep hRC hs.chg0) J h0).mono fun x w2 ⟨⟨y, h1, h2⟩, h3⟩ => ⟨y, ⟨h1, h2⟩, (Sat.nil w' M0).keep h3⟩) ?_;rintro ⟨z2, x2⟩ _ ⟨rfl, hz2⟩;dsimp only [List.cons_append, List.nil_append];obtain ⟨rfl, rfl⟩ : z1 = z2 ∧ x1 = x2 := by have := grds_uniq hz1 hz2; injection this with h1 h2; exact ⟨h1, h2⟩
   clear hz1 hz2;(refine aA1 zq (aB5 xq (aB5 xq (aA1 zq (aA1 zq (aD (aC (aC (aB (aA1 zq (aA1 zq ?_)))))))))));refine ql_neb (p := z1) (q := z1) qB Z Z Z ?_;rw [show (!(z1 == z1)) = false from by cases z1 <;> rfl];(refine aA1 zq (aE Z (aA1 zq (aE Z (aA1 zq (aE Z (aA6 xq J (aA1 zq (aD (aG Z (aK (aC ?_))))))))))); refine aB ?_; (iterate 4 refine aA1 zq ?_));refine aI (val := .tuple #[.bool (mkK L a b M M.length), .int .i64 0]) U Z Z Z Z (fun w hs => ?_) ?_; exact mks_ok w 0 w.heap.size 0 w.heap.size L _ _ M a b (dA (hs.mem (c := .ow (.slice oa L.length oc) 28 3 L.length (hdC L)) O) Z) (bU (hs.mem (c := .ow (.slice ua M.length uc) 3 1 M.length (aX M)) O) Z) J h0;(refine aA1 zq (aB5 xq (aB5 xq (aA1 zq (aA1 zq (aD (aC (aB ?_))))))); (iterate 4 refine aA1 zq ?_));refine bC (β := Bool) (ψ := fun y v => v = .tuple #[.bool y, .int .i64 0] ∧ (y = true ↔ Mk L a b M)) (L' := fun _ => []) U [] _ M0 Z Z Z Z (Sp.refl _) qC (fun w' hs => (rMks_ok w' 0 w'.heap.size 0 w.heap.size L _ _ a b M (dA (hs.mem (c := .ow (.slice ra L.length rc) 218 3 L.length (hdC L)) O) Z) (RdE.keep hM hs.chg0) J h0).mono fun x w2 ⟨⟨y, h1, h2⟩, h3⟩ => ⟨y, ⟨h1, h2⟩, (Sat.nil w' M0).keep h3⟩) ?_;rintro z3 _ ⟨rfl, hz3⟩;dsimp only [List.cons_append, List.nil_append];obtain rfl : z3 = mkK L a b M M.length := by rw [Bool.eq_iff_iff, hz3, mkK_iff]
   clear hz3;(refine aA1 zq (aB5 xq (aB5 xq (aA1 zq (aA1 zq (aD (aC (aC (aB (aA1 zq (aA1 zq ?_)))))))))));refine ql_neb (p := (mkK L a b M M.length)) (q := (mkK L a b M M.length)) qB Z Z Z ?_;rw [show (!((mkK L a b M M.length) == (mkK L a b M M.length))) = false from by cases mkK L a b M M.length <;> rfl];(refine aA1 zq (aE Z (aA1 zq (aE Z (aA1 zq (aE Z (aA6 xq J (aA1 zq (aD (aG Z (aK (aC ?_))))))))))); refine aB ?_; (iterate 3 refine aA1 zq ?_));refine bC (β := (Value × List Int) × Int) U [] _ M0 Z Z Z Z (Sp.refl _) qC (fun w' hs => chn_ok w' 0 w'.heap.size L _ a b (dA (hs.mem (c := .ow (.slice oa L.length oc) 28 3 L.length (hdC L)) O) Z) J h0) ?_;rintro ⟨⟨uc2, CC⟩, e3⟩ _ ⟨rfl, hc3⟩;dsimp only [List.cons_append, List.nil_append];(refine aA1 zq (aB5 xq (aB5 xq (aA1 zq (aA1 zq (aD (aC (aB ?_))))))); (iterate 3 refine aA1 zq ?_));refine bC (β := (Value × List Int) × Int) U [] _ M0 Z Z Z Z (Sp.refl _) qC (fun w' hs => mrk_ok w' 0 w'.heap.size L _ a b (dA (hs.mem (c := .ow (.slice oa L.length oc) 28 3 L.length (hdC L)) O) Z) J h0) ?_;rintro ⟨⟨um2, MM⟩, e4⟩ _ ⟨rfl, hm4⟩;dsimp only [List.cons_append, List.nil_append];(refine aA1 zq (aB5 xq (aB5 xq (aA1 zq (aA1 zq (aD (aC (aB ?_))))))); (iterate 3 refine aA1 zq ?_));refine bC (β := Nat × Int) (ψ := fun y v => v = .tuple #[.int .i64 y.1, .int .i64 y.2] ∧ RchR L a b y) (L' := fun _ => []) U [] _ M0 Z Z Z Z (Sp.refl _) qC (fun w' hs => (rChn_ok w' 0 w'.heap.size L _ a b (dA (hs.mem (c := .ow (.slice ra L.length rc) 218 3 L.length (hdC L)) O) Z) h0).mono fun x w2 ⟨⟨y, h1, h2⟩, h3⟩ => ⟨y, ⟨h1, h2⟩, (Sat.nil w' M0).keep h3⟩) ?_;rintro ⟨n5, e5⟩ _ ⟨rfl, hr5⟩;dsimp only [List.cons_append, List.nil_append];unfold RchR at hr5;dsimp only at hc3 hm4 hr5 ⊢;refine cU (fun w hs => hs.slice2 (v := uc2) O) ?_;rintro ⟨xa, xc, rfl⟩;refine cU (fun w hs => hs.slice2 (v := um2) O) ?_;rintro ⟨ya, yc, rfl⟩;obtain ⟨hs2, hm4⟩ := hm4;by_cases hG : Gd L a b
   ·rcases hc3 with ⟨rfl, hs1, ms1, hk1, hp1, hso⟩ | ⟨_, _, hno⟩
    rotate_left
    ·exact absurd hG hno
    rcases hm4 with ⟨rfl, hk2⟩ | ⟨_, _, _, hno⟩
    rotate_left
    ·exact absurd hG hno
    have hn5 : e5 = 0 ∧ n5 = hs1.length := by
     rcases hr5 with ⟨h1, h2, h3, h4⟩ | ⟨h1, h2⟩
     ·exact ⟨h1, fnd_len hk1 J h2 h3 h4⟩
     ·obtain ⟨v, k1, k2, k3⟩ := fnd_ex hk1 J;rcases h2 with h2 | h2
      ·exact absurd hG h2
      ·exact absurd k3 (h2 v k1 k2)
    obtain ⟨rfl, rfl⟩ := hn5;clear hr5;have hcl : CC.length = hs1.length := by rw [hp1.length_eq, eC]
    have hml : MM.length = hs1.length := by rw [← hk2.len]; exact (lk_same hk1 hk2).symm
    have hsl : hs1.length ≤ 30 := by have := hk1.min (C := L) (fun _ h => h) hG; omega
    have hsub := all_sub hk1.idx hp1;have hgc : Gd (hC L CC) a b := (gd_congr hsub.2).2 hk1.gd;have hmk := hk2.mk
    have hnd : (nI hs1).Nodup := by
     have := hk1.nodup;unfold nI;exact List.pairwise_map.2 (this.imp fun h e => h J)
    have hcn := hp1.nodup_iff.2 hnd;(refine aA1 zq (aB5 xq (aB5 xq (aA1 zq (aA1 zq (aD (aC (aC (aB (aA1 zq (aA1 zq (aA6 xq J ?_))))))))))); refine aA1 zq (aE Z (aA1 zq (aE Z (aA1 zq (aE Z (aA6 xq J (aA1 zq (aA1 zq (aE Z (aA1 zq (aE Z ?_))))))))))); refine aA1 zq (aE Z (aA1 zq (aE Z (aA6 xq J (aA1 zq (aA1 zq (aE Z (aA1 zq (aE Z (aA1 zq (aE Z ?_))))))))))); refine aA1 zq (aE Z (aA6 xq J (aA1 zq (aD (aG Z (aK (aC (aC (aB (aA1 zq (aB2 xq J ?_))))))))))); refine aD (aH Z (aC (aB ?_))); (iterate 4 refine aA1 zq ?_));refine bC (β := Bool × Int) (ψ := fun y v => v = .tuple #[.bool y.1, .int .i64 y.2] ∧ GrdsR L a b CC y) (L' := fun _ => []) U [] _ M0 Z Z Z Z (Sp.refl _) qC (fun w' hs => (rGrd_ok w' 0 w'.heap.size 0 w'.heap.size L _ _ a b CC (dA (hs.mem (c := .ow (.slice ra L.length rc) 218 3 L.length (hdC L)) O) Z) (bU (hs.mem (c := .ow (.slice xa CC.length xc) 3 1 CC.length (aX CC)) O) Z) J h0).mono fun x w2 ⟨⟨y, h1, h2⟩, h3⟩ => ⟨y, ⟨h1, h2⟩, (Sat.nil w' M0).keep h3⟩) ?_;rintro ⟨z4, x4⟩ _ ⟨rfl, hz4⟩;dsimp only [List.cons_append, List.nil_append]
    have hz5 : z4 = true ∧ x4 = 0 := by
     rcases hz4 with ⟨h1, _⟩ | ⟨_, h2, h3⟩
     ·rw [hsub.1] at h1; cases h1
     ·exact ⟨h3.2 hgc, h2⟩
    obtain ⟨rfl, rfl⟩ := hz5;clear hz4;(refine aA1 zq (aB5 xq (aB5 xq (aA1 zq (aA1 zq (aD (aC (aB ?_))))))); (iterate 4 refine aA1 zq ?_));refine bC (β := Bool) (ψ := fun y v => v = .tuple #[.bool y, .int .i64 0] ∧ (y = true ↔ Mk L a b MM)) (L' := fun _ => []) U [] _ M0 Z Z Z Z (Sp.refl _) qC (fun w' hs => (rMks_ok w' 0 w'.heap.size 0 w'.heap.size L _ _ a b MM (dA (hs.mem (c := .ow (.slice ra L.length rc) 218 3 L.length (hdC L)) O) Z) (bU (hs.mem (c := .ow (.slice ya MM.length yc) 3 1 MM.length (aX MM)) O) Z) J h0).mono fun x w2 ⟨⟨y, h1, h2⟩, h3⟩ => ⟨y, ⟨h1, h2⟩, (Sat.nil w' M0).keep h3⟩) ?_;rintro z6 _ ⟨rfl, hz6⟩;dsimp only [List.cons_append, List.nil_append];obtain rfl : z6 = true := hz6.2 hmk;clear hz6;(refine aA1 zq (aB5 xq (aB5 xq (aA1 zq (aA1 zq (aD (aC (aC (aB (aA1 zq (aA6 xq J (aA1 zq ?_))))))))))); refine aE Z (aA1 zq (aE Z (aA6 xq J (aA1 zq (aA1 zq (aE Z (aA1 zq (aE Z ?_)))))))); (iterate 3 refine aA1 zq ?_); refine aE Z (aA1 zq (aE Z (aA1 zq (aA1 zq (aD (aG Z (aK (aC (aB (aA1 zq (aD ?_))))))))))); refine aM ?_);refine bM (σ := Nat) (fun i => 1 ≤ i) (fun i => CC.length - i) (fun i => [(0, v0), (3, cv0), (4, mv0), (11, (.slice oa L.length oc)), (12, (.slice ia C.length ic)), (13, (.slice ua M.length uc)), (21, (.slice xa CC.length xc)), (29, .int .i64 i)]) (fun _ => [.ow (.slice xa CC.length xc) 3 1 CC.length (aX CC), .ow (.slice oa L.length oc) 28 3 L.length (hdC L), .ow (.slice ia C.length ic) 3 1 C.length (aX C), .ow (.slice ua M.length uc) 3 1 M.length (aX M), .ow (.slice ra L.length rc) 218 3 L.length (hdC L)]) 1 J ⟨Z, Z, Z, Z, Z, Z, Z, Z, trivial⟩ O ?_;intro i hi1 K hK;(refine aC (aC (aB ?_)); (iterate 4 refine aA1 zq ?_); refine aD ?_);refine dN Z (fun hc => ?_) (fun hc => ?_)
    ·have hi2 : i < CC.length := by omega
     clear hc;obtain ⟨j, rfl⟩ : ∃ j, i = j + 1 := ⟨i - 1, by omega⟩;have hj : j < CC.length := by omega
     have hj1 : ((j + 1 : Nat) : Int) - 1 = j := by omega
     have hlt : CC[j] < CC[j + 1] := by
      have q1 := List.pairwise_iff_getElem.1 hso j (j + 1) hj hi2 J;have q2 := List.pairwise_iff_getElem.1 hcn j (j + 1) hj hi2 J;omega
     (refine aK (aC (aM (aC ?_))))
     refine bZ _ [] (Sp.refl _) qB qB ?_;(refine aA2 xq (aA2 xq (aA9 uq J J ?_)));refine bO (fun w hs => hs.ownSome (v := (.slice xa CC.length xc)) O J) ?_;rintro ⟨xb, xd, e⟩;cases e
     rw [hj1];refine aA3 Wa J J ?_;refine aR (v := .int .i64 CC[j]) U Z Z Z (fun w hs => RdI.at (bU (hs.mem (c := .ow (aB9 xb CC.length xc) 3 1 CC.length (aX CC)) O) Z) j hj) ?_;(refine aA2 xq (aA2 xq ?_));refine aA3 Wa J J ?_;refine aR (v := .int .i64 CC[j + 1]) U Z Z Z (fun w hs => RdI.at (bU (hs.mem (c := .ow (aB9 xb CC.length xc) 3 1 CC.length (aX CC)) O) Z) (j + 1) hi2) ?_;(refine qf_geqF U Z Z Z J (aN (aG Z (aK (bK (aB (aA1 zq (aA4 uq J J (aA1 zq (aD ?_))))))))));exact hK (j + 1 + 1) _ _ J J ⟨Z, Z, Z, Z, Z, Z, Z, Z, trivial⟩ O
    ·clear hc hK;(refine bH _ Z (aC (aB (aA1 zq (aA1 zq ?_)))));refine aI (val := .bool true) U Z Z Z Z (fun w hs => ?_) ?_; exact eqH_ca w 0 w.heap.size _ _ _ v0 L (dA (hs.mem (c := .ow (.slice oa L.length oc) 28 3 L.length (hdC L)) O) Z) (RdE.keep h hs.chg0) J;(refine aA1 zq (aE Z (aA1 zq (aE Z (aA1 zq (aE Z ?_))))));refine aI (val := .bool true) U Z Z Z Z (fun w hs => ?_) ?_; exact gR w 0 w.heap.size _ _ _ cv0 C (bU (hs.mem (c := .ow (.slice ia C.length ic) 3 1 C.length (aX C)) O) Z) (RdE.keep hRC hs.chg0) J;(refine aA1 zq (aA1 zq (aE Z (aA1 zq (aE Z (aA1 zq (aE Z ?_)))))));refine aI (val := .bool true) U Z Z Z Z (fun w hs => ?_) ?_; exact gR w 0 w.heap.size _ _ _ mv0 M (bU (hs.mem (c := .ow (.slice ua M.length uc) 3 1 M.length (aX M)) O) Z) (RdE.keep hM hs.chg0) J;(refine aA1 zq (aA1 zq (aE Z ?_)));refine aI (val := .bool true) U Z Z Z Z (fun w hs => ?_) ?_; exact cY w;(refine aA1 zq (aA1 zq (aD (aS ?_))));refine aA5 wq O fun w hs => ?_
     exact ⟨Z, hs.chg0⟩
   ·rcases hc3 with ⟨_, hs1, ms1, hk1, _⟩ | ⟨rfl, rfl, _⟩
    ·exact absurd ((hk1.full J).1 Z) hG
    rcases hm4 with ⟨_, hk2⟩ | ⟨rfl, rfl, rfl, _⟩
    ·exact absurd ((hk2.full J).1 Z) hG
    have hn5 : n5 = 0 ∧ e5 = 6 := by
     rcases hr5 with ⟨h1, h2, ⟨i, h3, h4, h5⟩, _⟩ | ⟨h1, _⟩
     ·obtain ⟨D, k1, k2, k3⟩ := lvl_gd (a := a) n5 i h3 J;exact absurd ((k3.part (Int.le_refl _) h5).sub k1) hG
     ·injection h1 with h1 h2
      exact ⟨h1, h2⟩
    obtain ⟨rfl, rfl⟩ := hn5;(refine aA1 zq (aB5 xq (aB5 xq (aA1 zq (aA1 zq (aD (aC (aC (aB (aA1 zq (aA1 zq (aA6 xq J ?_))))))))))); refine aA1 zq (aE Z (aA1 zq (aE Z (aA1 zq (aE Z (aA6 xq J (aA1 zq (aA1 zq (aE Z (aA1 zq (aE Z ?_))))))))))); refine aA1 zq (aE Z (aA1 zq (aE Z ?_))); (iterate 3 refine aA1 zq ?_); refine aE Z (aA1 zq (aE Z (aA1 zq (aE Z (aA1 zq (aE Z (aA1 zq (aA1 zq (aD (aG Z (aK ?_))))))))))); refine aC (aC (aB (aA1 zq (cZ U Z Z Z J (aD (aG Z (aK (aC (aB (aA1 zq (aA1 zq ?_))))))))))));refine aI (val := .bool true) U Z Z Z Z (fun w hs => ?_) ?_; exact eqH_ca w 0 w.heap.size _ _ _ v0 L (dA (hs.mem (c := .ow (.slice oa L.length oc) 28 3 L.length (hdC L)) O) Z) (RdE.keep h hs.chg0) J;(refine aA1 zq (aE Z (aA1 zq (aE Z (aA1 zq (aE Z ?_))))));refine aI (val := .bool true) U Z Z Z Z (fun w hs => ?_) ?_; exact gR w 0 w.heap.size _ _ _ cv0 C (bU (hs.mem (c := .ow (.slice ia C.length ic) 3 1 C.length (aX C)) O) Z) (RdE.keep hRC hs.chg0) J;(refine aA1 zq (aA1 zq (aE Z (aA1 zq (aE Z (aA1 zq (aE Z ?_)))))));refine aI (val := .bool true) U Z Z Z Z (fun w hs => ?_) ?_; exact gR w 0 w.heap.size _ _ _ mv0 M (bU (hs.mem (c := .ow (.slice ua M.length uc) 3 1 M.length (aX M)) O) Z) (RdE.keep hM hs.chg0) J;(refine aA1 zq (aA1 zq (aE Z ?_)));refine aI (val := .bool true) U Z Z Z Z (fun w hs => ?_) ?_; exact cY w;(refine aA1 zq (aA1 zq (aD (aS ?_))));refine aA5 wq O fun w hs => ?_
    exact ⟨Z, hs.chg0⟩
  ·refine aI (val := .tuple #[.int .i64 0, .int .i64 (dI L a b)]) U Z Z Z Z (fun w hs => ?_) ?_; exact gap_no w 0 w.heap.size L _ a b (dA (hs.mem (c := .ow (.slice oa L.length oc) 28 3 L.length (hdC L)) O) Z) hm1 hsp;(refine aA1 zq (aB5 xq (aB5 xq (aA1 zq (aA1 zq (aD (aC (aB ?_))))))); (iterate 3 refine aA1 zq ?_));refine aI (val := .tuple #[.int .i64 0, .int .i64 (dI L a b)]) U Z Z Z Z (fun w hs => ?_) ?_; exact rGap_no w 0 w.heap.size L _ a b (dA (hs.mem (c := .ow (.slice ra L.length rc) 218 3 L.length (hdC L)) O) Z) hm1 hsp;(refine aA1 zq (aB5 xq (aB5 xq (aA1 zq (aA1 zq (aD (aC (aC (aB (aA1 zq (aA1 zq (aA6 xq J ?_))))))))))); refine aA1 zq (aE Z (aA1 zq (aE Z (aA1 zq (aE Z (aA6 xq J (aA1 zq (aD (aG Z (aK (aC ?_))))))))))); refine aB ?_; (iterate 4 refine aA1 zq ?_));refine aI (val := .tuple #[.bool false, .int .i64 (dI L a b)]) U Z Z Z Z (fun w hs => ?_) ?_; exact rgrd_no w 0 w.heap.size L _ _ a b (dA (hs.mem (c := .ow (.slice oa L.length oc) 28 3 L.length (hdC L)) O) Z) hm1 hsp;(refine aA1 zq (aB5 xq (aB5 xq (aA1 zq (aA1 zq (aD (aC (aB ?_))))))); (iterate 4 refine aA1 zq ?_));refine aI (val := .tuple #[.bool false, .int .i64 (dI L a b)]) U Z Z Z Z (fun w hs => ?_) ?_; exact rGrd_no w 0 w.heap.size L _ _ a b (dA (hs.mem (c := .ow (.slice ra L.length rc) 218 3 L.length (hdC L)) O) Z) hm1 hsp;(refine aA1 zq (aB5 xq (aB5 xq (aA1 zq (aA1 zq (aD (aC (aC (aB (aA1 zq (aA1 zq ?_)))))))))));refine ql_neb (p := false) (q := false) qB Z Z Z ?_;rw [show (!(false == false)) = false from rfl];(refine aA1 zq (aE Z (aA1 zq (aE Z (aA1 zq (aE Z (aA6 xq J (aA1 zq (aD (aG Z (aK (aC ?_))))))))))); refine aB ?_; (iterate 4 refine aA1 zq ?_));refine aI (val := .tuple #[.bool false, .int .i64 (dI L a b)]) U Z Z Z Z (fun w hs => ?_) ?_; exact mks_no w 0 w.heap.size L _ _ a b (dA (hs.mem (c := .ow (.slice oa L.length oc) 28 3 L.length (hdC L)) O) Z) hm1 hsp;(refine aA1 zq (aB5 xq (aB5 xq (aA1 zq (aA1 zq (aD (aC (aB ?_))))))); (iterate 4 refine aA1 zq ?_));refine aI (val := .tuple #[.bool false, .int .i64 (dI L a b)]) U Z Z Z Z (fun w hs => ?_) ?_; exact rMks_no w 0 w.heap.size L _ _ a b (dA (hs.mem (c := .ow (.slice ra L.length rc) 218 3 L.length (hdC L)) O) Z) hm1 hsp;(refine aA1 zq (aB5 xq (aB5 xq (aA1 zq (aA1 zq (aD (aC (aC (aB (aA1 zq (aA1 zq ?_)))))))))));refine ql_neb (p := false) (q := false) qB Z Z Z ?_;rw [show (!(false == false)) = false from rfl];(refine aA1 zq (aE Z (aA1 zq (aE Z (aA1 zq (aE Z (aA6 xq J (aA1 zq (aD (aG Z (aK (aC ?_))))))))))); refine aB ?_; (iterate 3 refine aA1 zq ?_));refine aI (val := .tuple #[.slice none 0 0, .int .i64 (dI L a b)]) U Z Z Z Z (fun w hs => ?_) ?_; exact chn_no w 0 w.heap.size L _ a b (dA (hs.mem (c := .ow (.slice oa L.length oc) 28 3 L.length (hdC L)) O) Z) hm1 hsp;(refine aA1 zq (aB5 xq (aB5 xq (aA1 zq (aA1 zq (aD (aC (aB ?_))))))); (iterate 3 refine aA1 zq ?_));refine aI (val := .tuple #[.slice none 0 0, .int .i64 (dI L a b)]) U Z Z Z Z (fun w hs => ?_) ?_; exact mrk_no w 0 w.heap.size L _ a b (dA (hs.mem (c := .ow (.slice oa L.length oc) 28 3 L.length (hdC L)) O) Z) hm1 hsp
   (refine aA1 zq (aB5 xq (aB5 xq (aA1 zq (aA1 zq (aD (aC (aB ?_))))))); (iterate 3 refine aA1 zq ?_))
   refine aI (val := .tuple #[.int .i64 0, .int .i64 (dI L a b)]) U Z Z Z Z (fun w hs => ?_) ?_; exact rChn_no w 0 w.heap.size L _ a b (dA (hs.mem (c := .ow (.slice ra L.length rc) 218 3 L.length (hdC L)) O) Z) hm1 hsp;(refine aA1 zq (aB5 xq (aB5 xq (aA1 zq (aA1 zq (aD (aC (aC (aB (aA1 zq (aA1 zq (aA6 xq J ?_))))))))))); refine aA1 zq (aE Z (aA1 zq (aE Z (aA1 zq (aE Z (aA6 xq J (aA1 zq (aA1 zq (aE Z (aA1 zq (aE Z ?_))))))))))); refine aA1 zq (aE Z (aA1 zq (aE Z (aA6 xq J (aA1 zq (aA1 zq (aE Z (aA1 zq (aE Z (aA1 zq (aE Z ?_))))))))))); refine aA1 zq (aE Z (aA6 xq J (aA1 zq (aD (aG Z (aK (aC (aC (aB (aA1 zq (cZ U Z Z Z J ?_))))))))))); refine aD (aG Z (aK (aC (aB (aA1 zq (aA1 zq ?_)))))));refine aI (val := .bool true) U Z Z Z Z (fun w hs => ?_) ?_; exact eqH_ca w 0 w.heap.size _ _ _ v0 L (dA (hs.mem (c := .ow (.slice oa L.length oc) 28 3 L.length (hdC L)) O) Z) (RdE.keep h hs.chg0) J;(refine aA1 zq (aE Z (aA1 zq (aE Z (aA1 zq (aE Z ?_))))));refine aI (val := .bool true) U Z Z Z Z (fun w hs => ?_) ?_; exact gR w 0 w.heap.size _ _ _ cv0 C (bU (hs.mem (c := .ow (.slice ia C.length ic) 3 1 C.length (aX C)) O) Z) (RdE.keep hRC hs.chg0) J;(refine aA1 zq (aA1 zq (aE Z (aA1 zq (aE Z (aA1 zq (aE Z ?_)))))));refine aI (val := .bool true) U Z Z Z Z (fun w hs => ?_) ?_; exact gR w 0 w.heap.size _ _ _ mv0 M (bU (hs.mem (c := .ow (.slice ua M.length uc) 3 1 M.length (aX M)) O) Z) (RdE.keep hM hs.chg0) J;(refine aA1 zq (aA1 zq (aE Z ?_)));refine aI (val := .bool true) U Z Z Z Z (fun w hs => ?_) ?_; exact cY w;(refine aA1 zq (aA1 zq (aD (aS ?_))));refine aA5 wq O fun w hs => ?_;exact ⟨Z, hs.chg0⟩
section
variable {A : List (List Int)}
structure BstF (A : List (List Int)) (i t : Nat) (x : Int) : Prop where
 at_ : ∃ W : Nat → Nat, (∀ j, j < i → W j < amW A j) ∧ smF (fun j => (W j : Int)) i ≤ t ∧ smF (fun j => amA A j (W j)) i = x
 le : ∀ W : Nat → Nat, (∀ j, j < i → W j < amW A j) → smF (fun j => (W j : Int)) i ≤ t → x ≤ smF (fun j => amA A j (W j)) i
theorem miss_part (h : AimOk A) {i : Nat} (hi : i ≤ A.length) {W : Nat → Nat} (hW : ∀ j, j < i → W j < amW A j) : 0 ≤ smF (fun j => amA A j (W j)) i ∧ smF (fun j => amA A j (W j)) i ≤ 1000 * i := by
 induction i with
 | zero => exact ⟨Int.le_refl _, Int.le_refl _⟩
 | succ i ih =>
  have h1 := ih J fun j hj => hW j J
  have h2 := h.bd i (W i) J (hW i J);simp only [smF];omega
theorem BstF.bd (h : AimOk A) {i t : Nat} {x : Int} (hi : i ≤ A.length) (hb : BstF A i t x) : 0 ≤ x ∧ x ≤ 1000 * i := by
 obtain ⟨W, h1, _, rfl⟩ := hb.at_;exact miss_part h hi h1
def dpT (out : List Int) (r : Nat → Int) (t : Nat) : Nat → Int
 | 0 => 9000
 | k + 1 => min (dpT out r t k) (out.getD (min (t - k) (out.length - 1)) 0 + r k)
theorem dpT_le {out : List Int} {r : Nat → Int} {t k : Nat} : ∀ {n : Nat}, k < n → dpT out r t n ≤ out.getD (min (t - k) (out.length - 1)) 0 + r k
 | 0, h => absurd h (Nat.not_lt_zero k)
 | n + 1, h => by
  simp only [dpT];by_cases e : k = n
  ·rw [e]; omega
  ·have := dpT_le (out := out) (r := r) (t := t) (k := k) (n := n) J;omega
theorem dpT_at {out : List Int} {r : Nat → Int} {t : Nat} : ∀ n : Nat, dpT out r t n = 9000 ∨ ∃ k, k < n ∧ dpT out r t n = out.getD (min (t - k) (out.length - 1)) 0 + r k
 | 0 => .inl rfl
 | n + 1 => by
  simp only [dpT];rcases Int.le_total (dpT out r t n) (out.getD (min (t - n) (out.length - 1)) 0 + r n) with h | h
  ·rw [Int.min_eq_left h];rcases dpT_at (out := out) (r := r) (t := t) n with h2 | ⟨k, h2, h3⟩
   ·exact .inl h2
   ·exact .inr ⟨k, by omega, h3⟩
  ·rw [Int.min_eq_right h];exact .inr ⟨n, by omega, Z⟩
theorem smF_ext {f g : Nat → Int} {n : Nat} (h : ∀ j, j < n → f j = g j) : smF f n = smF g n := kC h
theorem dp_next (h : AimOk A) {i t : Nat} (hi : i < A.length) {out : List Int} (hpos : 0 < out.length) (hO : ∀ u, u < out.length → BstF A i u (out.getD u 0)) (hT : ∀ W : Nat → Nat, (∀ j, j < i → W j < amW A j) → smF (fun j => (W j : Int)) i ≤ (out.length : Int) - 1) :
  BstF A (i + 1) t (dpT out (amA A i) t (min (amW A i) (t + 1))) := by
 have hr := h.row i hi;have hn8 := h.n8;refine ⟨?_, fun W hW hs => ?_⟩
 ·have key : ∃ k, k < min (amW A i) (t + 1) ∧ dpT out (amA A i) t (min (amW A i) (t + 1)) = out.getD (min (t - k) (out.length - 1)) 0 + amA A i k := by
   rcases dpT_at (out := out) (r := amA A i) (t := t) (min (amW A i) (t + 1)) with h1 | h1
   ·have h2 := dpT_le (out := out) (r := amA A i) (t := t) (k := 0) (n := min (amW A i) (t + 1)) J;have h3 := (hO (min (t - 0) (out.length - 1)) J).bd h J;have h4 := h.bd i 0 hi J;omega
   ·exact h1
  obtain ⟨k, h1, h2⟩ := key;obtain ⟨W, w1, w2, w3⟩ := (hO (min (t - k) (out.length - 1)) J).at_;obtain ⟨W2, e0, e1⟩ : ∃ W2 : Nat → Nat, W2 i = k ∧ ∀ j, j < i → W2 j = W j := ⟨fun j => if j = i then k else W j, if_pos rfl, fun j hj => if_neg J⟩;refine ⟨W2, fun j hj => ?_, ?_, ?_⟩
  ·by_cases e : j = i
   ·rw [e, e0]; omega
   ·rw [e1 j J]; exact w1 j J
  ·have e2 : smF (fun j => (W2 j : Int)) i = smF (fun j => (W j : Int)) i := smF_ext fun j hj => by rw [e1 j hj]
   simp only [smF];rw [e2, e0];omega
  ·have e2 : smF (fun j => amA A j (W2 j)) i = smF (fun j => amA A j (W j)) i := smF_ext fun j hj => by rw [e1 j hj]
   simp only [smF];rw [e2, e0, h2, w3]
 ·have hW1 : ∀ j, j < i → W j < amW A j := fun j hj => hW j J
  have hWi := hW i J;have t1 := hT W hW1;have s0 : 0 ≤ smF (fun j => (W j : Int)) i := smF_nn fun j _ => by omega
  simp only [smF] at hs ⊢;have h1 := dpT_le (out := out) (r := amA A i) (t := t) (k := W i) (n := min (amW A i) (t + 1)) J;have h2 := (hO (min (t - W i) (out.length - 1)) J).le W hW1 J;omega
def dpV (A : List (List Int)) : Nat → List Int
 | 0 => [0]
 | i + 1 => (List.range ((dpV A i).length + amW A i - 1)).map fun t => dpT (dpV A i) (amA A i) t (min (amW A i) (t + 1))
theorem dpV_len (h : AimOk A) : ∀ {i : Nat}, i ≤ A.length → ((dpV A i).length : Int) = smF (fun j => (amW A j : Int) - 1) i + 1
 | 0, _ => by simp [dpV, smF]
 | i + 1, hi => by
  have ih := dpV_len h (i := i) J;have := (h.row i J).1;simp only [dpV, List.length_map, List.length_range, smF];omega
theorem dpV_all (h : AimOk A) : ∀ {i : Nat}, i ≤ A.length → ∀ t, t < (dpV A i).length → BstF A i t ((dpV A i).getD t 0)
 | 0, _, t, ht => by
  have h0 : t = 0 := by simp [dpV] at ht; omega
  subst h0;exact ⟨⟨fun _ => 0, fun j hj => by omega, Int.le_refl _, Z⟩, fun W _ _ => Int.le_refl _⟩
 | i + 1, hi, t, ht => by
  have ih := dpV_all h (i := i) J;have hl := dpV_len h (i := i) J;have hnn : 0 ≤ smF (fun j => (amW A j : Int) - 1) i := smF_nn fun j hj => by have := (h.row j J).1; omega
  have hn := dp_next h (i := i) (t := t) J (out := dpV A i) J ih fun W hW => by
   have : smF (fun j => (W j : Int)) i ≤ smF (fun j => (amW A j : Int) - 1) i := lF fun j hj => by have := hW j hj; omega
   omega
  have e : (dpV A (i + 1)).getD t 0 = dpT (dpV A i) (amA A i) t (min (amW A i) (t + 1)) := by
   have ht2 : t < (dpV A i).length + amW A i - 1 := by simpa [dpV] using ht
   rw [List.getD_eq_getElem?_getD, List.getElem?_eq_getElem ht, Option.getD_some];simp [dpV]
  rw [e];exact hn
theorem bst_cv (h : AimOk A) {t : Nat} {x : Int} (hb : BstF A A.length t x) : x = cvV A t := by
 refine Int.le_antisymm ?_ ?_
 ·have hg := gP h t;exact hb.le (wtO (wtsV A t)) hg.ok.lt hg.sum.2
 ·obtain ⟨W, h1, h2, h3⟩ := hb.at_
  have e : ∀ j, j < A.length → wtO ((List.range A.length).map W) j = W j := fun j hj => by
   unfold wtO;rw [List.getD_eq_getElem?_getD, List.getElem?_map, List.getElem?_range hj]
   rfl
  have hv : WOk A ((List.range A.length).map W) := ⟨by simp, fun i hi => by rw [e i hi]; exact h1 i hi⟩
  have := cv_best h (t := t) hv (by
   unfold lG;rw [smF_ext (g := fun j => (W j : Int)) fun j hj => by rw [e j hj]];exact h2)
  unfold iH at this;rw [smF_ext (g := fun j => amA A j (W j)) fun j hj => by rw [e j hj]] at this;omega
theorem dpV_curve (h : AimOk A) : dpV A A.length = eD A (manyN A) := by
 have hl := dpV_len h (Nat.le_refl A.length);have hm := many_nn h
 have hlen : (dpV A A.length).length = manyN A := by
  unfold manyN;have : ((dpV A A.length).length : Int) = manyV A + 1 := hl;omega
 refine List.ext_getElem (by rw [hlen, eF]) fun t h1 h2 => ?_;have := bst_cv h (dpV_all h (Nat.le_refl _) t h1)
 rw [List.getD_eq_getElem?_getD, List.getElem?_eq_getElem h1, Option.getD_some] at this;rw [this];simp [eD]
def lowG (f : Nat → Int) : Nat → Nat
 | 0 => 0
 | k + 1 => if f k < f (lowG f k) then k else lowG f k
def iP (f : Nat → Int) : Nat → Nat
 | 0 => 0
 | k + 1 => if f k ≤ f (iP f k) then k else iP f k
theorem nO (f : Nat → Int) : ∀ n, 0 < n → lowG f n < n ∧ (∀ v, v < n → f (lowG f n) ≤ f v) ∧ ∀ v, v < n → f v ≤ f (lowG f n) → lowG f n ≤ v
 | 0, h => absurd h J
 | n + 1, _ => by
  by_cases h0 : n = 0
  ·subst h0;have e : lowG f (0 + 1) = 0 := by simp [lowG]
   rw [e];exact ⟨by omega, fun v hv => by rw [show v = 0 from by omega]; exact Int.le_refl _, fun v _ _ => by omega⟩
  ·obtain ⟨h1, h2, h3⟩ := nO f n J;rw [lowG];split
   ·rename_i c
    refine ⟨by omega, fun v hv => ?_, fun v hv hl => ?_⟩
    ·by_cases e : v = n
     ·rw [e]; exact Int.le_refl _
     ·have := h2 v J; omega
    ·refine Nat.le_of_not_lt fun g => ?_;have := h2 v g
     omega
   ·rename_i c
    refine ⟨by omega, fun v hv => ?_, fun v hv hl => ?_⟩
    ·by_cases e : v = n
     ·rw [e]; omega
     ·exact h2 v J
    ·by_cases e : v = n
     ·omega
     ·exact h3 v J hl
theorem mQ (f : Nat → Int) : ∀ n, 0 < n → iP f n < n ∧ (∀ v, v < n → f (iP f n) ≤ f v) ∧ ∀ v, v < n → f v ≤ f (iP f n) → v ≤ iP f n
 | 0, h => absurd h J
 | n + 1, _ => by
  by_cases h0 : n = 0
  ·subst h0;have e : iP f (0 + 1) = 0 := by simp [iP]
   rw [e];exact ⟨by omega, fun v hv => by rw [show v = 0 from by omega]; exact Int.le_refl _, fun v _ _ => by omega⟩
  ·obtain ⟨h1, h2, h3⟩ := mQ f n J;rw [iP];split
   ·rename_i c
    refine ⟨by omega, fun v hv => ?_, fun v hv hl => by omega⟩;by_cases e : v = n
    ·rw [e]; exact Int.le_refl _
    ·have := h2 v J; omega
   ·rename_i c
    refine ⟨by omega, fun v hv => ?_, fun v hv hl => ?_⟩
    ·by_cases e : v = n
     ·rw [e]; omega
     ·exact h2 v J
    ·by_cases e : v = n
     ·rw [e] at hl; omega
     ·exact h3 v J hl
def iI (A : List (List Int)) (p : Int) (i v : Nat) : Int := amA A i v + p * v
def lowA (A : List (List Int)) (p : Int) (i : Nat) : Nat := lowG (iI A p i) (amW A i)
def highA (A : List (List Int)) (p : Int) (i : Nat) : Nat := iP (iI A p i) (amW A i)
def fewP (A : List (List Int)) (p : Int) (i : Nat) : Int := smF (fun j => (lowA A p j : Int)) i
def nP (A : List (List Int)) (p : Int) (i : Nat) : Int := smF (fun j => (highA A p j : Int)) i
def sumP (A : List (List Int)) (p : Int) (i : Nat) : Int := smF (fun j => iI A p j (lowA A p j)) i
def PrC (A : List (List Int)) (t : Nat) (p : Int) : Prop := fewP A p A.length ≤ t ∧ sumP A p A.length - p * min (nP A p A.length) t = cvV A t
theorem val_sum (p : Int) (W : List Nat) : smF (fun j => iI A p j (wtO W j)) A.length = iH A W + p * lG W A.length := by
 unfold iH lG iI;rw [smF_add, smF_mul p fun j => (wtO W j : Int)]
theorem sum_le (h : AimOk A) {p : Int} {W : List Nat} (hW : WOk A W) : sumP A p A.length ≤ iH A W + p * lG W A.length := by
 rw [← val_sum];exact lF fun j hj => (nO (iI A p j) (amW A j) (by have := (h.row j hj).1; omega)).2.1 _ (hW.lt j hj)
theorem price_at (h : AimOk A) (t : Nat) : PrC A t (mostV A (wtsV A t)) := by
 have hg := gP h t;have hh := gr_holds h t;have hq := most_nn A (wtsV A t);obtain ⟨q, hqe⟩ : ∃ q, q = mostV A (wtsV A t) := ⟨_, rfl⟩;rw [← hqe] at hh hq ⊢;have hall := hg.all;rw [← hqe] at hall;obtain ⟨W, hWe⟩ : ∃ W, W = wtsV A t := ⟨_, rfl⟩;rw [← hWe] at hg hh hall
 have hl : ∀ j, j < A.length → lowA A q j ≤ wtO W j ∧ wtO W j ≤ highA A q j ∧ iI A q j (lowA A q j) = iI A q j (wtO W j) := fun j hj => by
  have hw := hg.ok.lt j hj;have l := nO (iI A q j) (amW A j) (by have := (h.row j hj).1; omega);have u := mQ (iI A q j) (amW A j) (by have := (h.row j hj).1; omega);have hm := fun v hv => hh j hj v hv
  have e1 : iI A q j (wtO W j) ≤ iI A q j (lowA A q j) := hm _ l.1;have e2 : iI A q j (wtO W j) ≤ iI A q j (highA A q j) := hm _ u.1;exact ⟨l.2.2 _ hw e1, u.2.2 _ hw e2, Int.le_antisymm (l.2.1 _ hw) e1⟩
 have hfew : fewP A q A.length ≤ lG W A.length := lF fun j hj => by have := (hl j hj).1; omega
 have hmany : lG W A.length ≤ nP A q A.length := lF fun j hj => by have := (hl j hj).2.1; omega
 have hsum : sumP A q A.length = cvV A t + q * lG W A.length := by
  unfold sumP;rw [kC fun j hj => (hl j hj).2.2, val_sum, hWe]
  rfl
 have hs := hg.sum;refine ⟨by omega, ?_⟩;rw [hsum];by_cases h0 : q = 0
 ·rw [h0]; omega
 ·have : ¬ lG W A.length < t := fun c => h0 (hall c)
  rw [show min (nP A q A.length) t = lG W A.length from by omega];omega
theorem price_lt (h : AimOk A) {t : Nat} {p : Int} (hp : 0 ≤ p) (hlt : p < mostV A (wtsV A t)) : ¬ PrC A t p := by
 rintro ⟨h1, h2⟩;have hn := cv_next h t;have hg := gP h (t + 1);have hs1 := sum_le h (p := p) hg.ok;obtain ⟨q, hqe⟩ : ∃ q, q = mostV A (wtsV A t) := ⟨_, rfl⟩;rw [← hqe] at hlt hn;have hs2 : p * lG (wtsV A (t + 1)) A.length ≤ p * (t + 1 : Nat) := Int.mul_le_mul_of_nonneg_left hg.sum.2 hp;have hcv : iH A (wtsV A (t + 1)) = cvV A (t + 1) := rfl;rw [hcv] at hs1;obtain ⟨m, hm⟩ : ∃ m, m = min (nP A p A.length) t := ⟨_, rfl⟩;rw [← hm] at h2;have e1 : p * ((t + 1 : Nat) : Int) = p * t + p := by rw [Int.natCast_add, Int.mul_add]; simp
 have hmt : m < t := by
  refine Int.not_le.1 fun c => ?_;have : p * (t : Int) ≤ p * m := Int.mul_le_mul_of_nonneg_left c hp
  omega
 have hmm : m = nP A p A.length := by omega
 have hH : ∀ j, j < A.length → wtO ((List.range A.length).map (highA A p)) j = highA A p j := fun j hj => by
  unfold wtO;rw [List.getD_eq_getElem?_getD, List.getElem?_map, List.getElem?_range hj]
  rfl
 have u := fun j (hj : j < A.length) => mQ (iI A p j) (amW A j) (by have := (h.row j hj).1; omega)
 have l := fun j (hj : j < A.length) => nO (iI A p j) (amW A j) (by have := (h.row j hj).1; omega)
 have hW : WOk A ((List.range A.length).map (highA A p)) := ⟨by simp, fun j hj => by rw [hH j hj]; exact (u j hj).1⟩
 have hsW : lG ((List.range A.length).map (highA A p)) A.length = m := by
  rw [hmm];unfold lG nP;exact kC fun j hj => by rw [hH j hj]
 have hm0 : 0 ≤ m := by rw [← hsW]; exact sum_nn _ _
 have hval : sumP A p A.length = iH A ((List.range A.length).map (highA A p)) + p * m := by
  rw [← hsW, ← val_sum];unfold sumP;refine kC fun j hj => ?_
  rw [hH j hj];exact Int.le_antisymm ((l j hj).2.1 _ (u j hj).1) ((u j hj).2.1 _ (l j hj).1)
 have hb := cv_best h (t := m.toNat) hW (by rw [hsW]; omega);have hn2 := cv_next h m.toNat
 have ha : ∀ d, mostV A (wtsV A (m.toNat + d)) ≤ mostV A (wtsV A m.toNat) := fun d => by
  induction d with
  | zero => exact Int.le_refl _
  | succ d ih => exact Int.le_trans (most_anti h (m.toNat + d)) ih
 have ha2 := ha (t - m.toNat);rw [show m.toNat + (t - m.toNat) = t from by omega, ← hqe] at ha2;have hc := cv_le h (s := m.toNat + 1) (t := t) J;omega
theorem most_1k (h : AimOk A) (t : Nat) : mostV A (wtsV A t) ≤ 1000 := by
 have hs := fR A (wtsV A t) A.length;have hg := gP h t;by_cases h0 : 0 < (helpS A (wtsV A t) A.length).1
 ·obtain ⟨g1, g2, g3⟩ := hs.2.2 h0;have b1 := h.bd _ _ g1 (hg.ok.lt _ g1);have b2 := h.bd _ _ g1 g2;unfold incV at g3;unfold mostV;omega
 ·unfold mostV;omega
end
structure RowA (l : List Int) : Prop where
 n1 : 1 ≤ l.length
 n8 : l.length ≤ 8
 bd : ∀ w, w < l.length → 0 ≤ l.getD w 0 ∧ l.getD w 0 ≤ 1000
 dec : ∀ w, w + 1 < l.length → l.getD (w + 1) 0 ≤ l.getD w 0
 cvx : ∀ w, w + 2 < l.length → l.getD (w + 1) 0 - l.getD (w + 2) 0 ≤ l.getD w 0 - l.getD (w + 1) 0
structure RowI (l : List Int) (h : Int) : Prop where
 n1 : 1 ≤ l.length
 bd : ∀ w, w < l.length → 0 ≤ l.getD w 0 ∧ l.getD w 0 ≤ 1000
 dec : ∀ w, w + 1 < l.length → l.getD (w + 1) 0 ≤ l.getD w 0
 cvx : ∀ w, w + 2 < l.length → l.getD (w + 1) 0 - l.getD (w + 2) 0 ≤ l.getD w 0 - l.getD (w + 1) 0
 h0 : 0 ≤ h ∧ h ≤ 199
 last : ∀ w, l.length = w + 2 → l.getD w 0 - l.getD (w + 1) 0 = h
theorem RowI.row {l : List Int} {h : Int} (r : RowI l h) (h8 : l.length ≤ 8) : RowA l := ⟨r.n1, h8, r.bd, r.dec, r.cvx⟩
theorem RowI.one {n h : Int} (hn : 0 ≤ n ∧ n ≤ 1000) (hh : 0 ≤ h ∧ h ≤ 199) : RowI [n] h := ⟨by simp, fun w hw => by
 obtain rfl : w = 0 := by simpa using hw
 exact hn, fun w hw => by simp at hw, fun w hw => by simp at hw, hh, fun w hw => by simp at hw⟩
theorem idx1_rint (w : World) (lo hi : Nat) (v cv : Value) (es : List Value) (p : Value → Bool) (hrd : RdE w lo hi v 1 es) (hone : ∀ i (hi : i < es.length), dJ es[i] = true) (hlen : es.length < 4611686018427387904) (hp : PredAt Tryz.prog tab w cv es p) :
  Ca Tryz.prog 106 [v, cv] w fun r w' => ((∃ i : Nat, r = .int .i64 i ∧ ∃ hi : i < es.length, p es[i] = true ∧ ∀ j (hj : j < es.length), j < i → p es[j] = false) ∨ (r = .int .i64 (-1) ∧ ∀ x ∈ es, p x = false)) ∧ Chg [] w w' := by
 obtain ⟨a, cap, rfl, hsl⟩ := hrd.out;obtain ⟨g, first, caps, rfl, hg, hcl⟩ := hp;refine lH Tryz.func106 Z (by simp [Tryz.ntmps106]) ?_;(refine cS (bJ (aA0 zq (cS (cS (bJ ?_))))); (iterate 3 refine aA0 zq ?_); refine iK ?_)
 refine y_loop (fun m l wr => ∃ k : Nat, k ≤ es.length ∧ m = es.length - k ∧ l = [(0, .slice a es.length cap), (1, .func (.func g) first caps), (7, .int .i64 es.length), (8, .int .i64 k)] ∧ (∀ i (hi : i < es.length), i < k → p es[i] = false) ∧ Chg [] w wr) (m := es.length)
  ⟨0, by omega, rfl, rfl, fun i _ hi => by omega, Chg.refl _ _⟩ ⟨rfl, rfl, rfl, rfl, trivial⟩ ?_
 rintro m l wr ⟨k, hkl, rfl, rfl, hpk, hcw⟩ K hK;(refine cS (bJ (aA0 zq (cS ?_))));refine y_if Z (fun hc => ?_) (fun hc => ?_)
 ·have hk : k < es.length := by omega
  obtain ⟨b, off, rfl⟩ := hsl J;(refine lR (cS (iK (cS (bJ (aA0 zq (aA0 zq (cS (bJ ?_)))))))); (iterate 3 refine aA0 zq ?_));refine nN U Z Z Z Z Z J J ?_;refine pD U Z Z Z (v := es[k]) (by rw [show (Int.toNat (k : Int)) = k from rfl]; exact (hrd.keep hcw).cell1 k hk (hone k hk)) ?_;refine eO U Z hg Z Z (hcl wr hcw es[k] (List.getElem_mem hk)) ?_;rintro _ w2 ⟨rfl, hc2⟩;(refine mW ?_);refine pE Z (fun hc => ?_) (fun hc => ?_)
  ·(refine cS (bJ (aA0 zq (aA0 zq (gU ?_)))))
   exact eN Z Z ⟨.inl ⟨k, Z, hk, hc, hpk⟩, hcw.trans hc2⟩
  ·(refine lR (bJ (aA0 zq (aA0 zq (mW ?_)))))
   refine y_k (hK _ _ _ _ ⟨k + 1, by omega, Z, Z, fun i hi hik => ?_, hcw.trans hc2⟩ J ⟨Z, Z, Z, ?_, trivial⟩)
   ·by_cases h : i < k
    ·exact hpk i hi h
    ·obtain rfl : i = k := by omega
     exact hc
   ·show some (Value.int _ (IntKind.i64.wrap (↑k + 1))) = _
    rw [w64 J J]
    rfl
 ·(refine y_exit _ Z (cS (bJ (aA0 zq (gU ?_)))))
  refine eN Z Z ⟨.inr ⟨Z, fun x hx => ?_⟩, hcw⟩;obtain ⟨i, hi, rfl⟩ := List.getElem_of_mem hx;exact hpk i hi J
def pLe (m : Int) : Value → Bool
 | .int _ i => decide (i ≤ m) && true
 | _ => false
theorem enough1_p (w : World) (l : List Int) (m : Int) (b t : Nat) (h : Blk w b [.int .i64 m] t) : PredAt Tryz.prog tab w (.func (.func 107) #[] #[aC0 b]) (aX l) (pLe m) := by
 refine ⟨_, _, _, Z, Z, fun w' hw' x hx => ?_⟩;obtain ⟨i, hi, rfl⟩ := List.mem_map.1 hx;have h' : Blk w' b [.int .i64 m] t := h.keep hw';refine cN (Sat.nil w' M0) Tryz.func107 Z (by simp [Tryz.ntmps107]) ?_;(refine aC (aB (aA1 zq (aD (aC (aB (aA1 zq ?_)))))); refine gA U Z Z Z (by assumption) (by rfl) ?_; refine aA1 zq (aA1 zq (aD (aS ?_))));refine aA5 wq O fun w hs => ?_;exact ⟨by simp [retV, pLe], hs.chg0⟩
def EnoR (A : List (List Int)) (m : Int) (k e : Int) : Prop := (e = 0 ∧ ∃ t : Nat, k = t ∧ t < manyN A ∧ cvV A t ≤ m ∧ ∀ j : Nat, j < t → m < cvV A j) ∨ (e = 6 ∧ k = 0 ∧ ∀ t : Nat, t < manyN A → m < cvV A t)
theorem aenough_no (w : World) (lo hi : Nat) (v : Value) (A : List (List Int)) (m : Int) (h : RdII w lo hi v A) (hlen : A.length ≤ maxLen) (h0 : fV A ≠ 0) : Ca Tryz.prog 28 [v, .int .i64 m] w fun x w' => x = .tuple #[.int .i64 0, .int .i64 (fV A)] ∧ Chg [] w w' := by
 refine cN (Sat.nil w M0) Tryz.func28 Z (by simp [Tryz.ntmps28]) ?_;(refine aC (aB ?_));refine bR Z Z (fun b3 => ?_);(refine aA1 zq (aA1 zq (aD (aC (aB (aA1 zq ?_))))));refine aI (val := .tuple #[.slice none 0 0, .int .i64 (fV A)]) U Z Z Z Z (fun w hs => ?_) ?_; exact acurve_no w lo hi v A (h.keep hs.chg0) hlen h0;(refine aA1 zq (aB5 xq (aB5 xq (aA1 zq (aA1 zq (aD (aC (aC (aB (aA1 zq (aB0 xq J (aD ?_))))))))))); refine aH Z (aC (aB ?_)); (iterate 3 refine aA1 zq ?_); refine aD (aS ?_));refine aA5 wq O fun w hs => ?_;exact ⟨Z, hs.chg0⟩
theorem mY (A : List (List Int)) (n i : Nat) (h : i < (aX (eD A n)).length) : (aX (eD A n))[i] = .int .i64 (cvV A i) := by simp [aX, eD]
theorem aenough_ok (w : World) (lo hi : Nat) (v : Value) (A : List (List Int)) (m : Int) (h : RdII w lo hi v A) (hA : AimOk A) : Ca Tryz.prog 28 [v, .int .i64 m] w fun x w' => ∃ y : Int × Int, (x = .tuple #[.int .i64 y.1, .int .i64 y.2] ∧ EnoR A m y.1 y.2) ∧ Sat w M0 [] w' := by
 have hmn := many_le hA;have hmn2 : manyN A ≤ 161 := by unfold manyN; omega
 refine cN (Sat.nil w M0) Tryz.func28 Z (by simp [Tryz.ntmps28]) ?_;(refine aC (aB ?_));refine bR Z Z (fun b3 => ?_);(refine aA1 zq (aA1 zq (aD (aC (aB (aA1 zq ?_))))));refine bC (β := Value) U [] _ M0 Z Z Z Z (Sp.refl _) qC (fun w' hs => acurve_ok w' lo hi v A (h.keep hs.chg0) hA) ?_;rintro u _ rfl;dsimp only [List.cons_append, List.nil_append];(refine aA1 zq (aB5 xq (aB5 xq (aA1 zq (aA1 zq (aD (aC (aC (aB (aA1 zq (aA6 xq J (aD ?_))))))))))); refine aG Z (aK (aC (aC (aB (aA1 zq (aA1 zq ?_)))))))
 refine bC (β := Int) (ψ := fun y x => x = .int .i64 y ∧ ((∃ t : Nat, y = t ∧ t < manyN A ∧ cvV A t ≤ m ∧ ∀ j : Nat, j < t → m < cvV A j) ∨ (y = -1 ∧ ∀ t : Nat, t < manyN A → m < cvV A t))) (L' := fun _ => []) U [] _ M0 Z Z Z Z (Sp.refl _) qC (fun w' hs => by
  have hrd : RdE w' 0 w'.heap.size u 1 (aX (eD A (manyN A))) := (hs.rdI (v := u) (l := eD A (manyN A)) (t := 3) (n := manyN A) O (by rw [eF]));refine (idx1_rint w' 0 w'.heap.size u _ (aX (eD A (manyN A))) (pLe m) hrd (by intro i hi; rw [mY]; rfl) (by simp [aX, eD]; omega) (enough1_p w' (eD A (manyN A)) m b3 _ (hs.blk (b := b3) O))).mono fun x w'' => ?_
  rintro ⟨hr, hc⟩;have hel : (aX (eD A (manyN A))).length = manyN A := by simp [aX, eD]
  rcases hr with ⟨i, rfl, hi, h1, h2⟩ | ⟨rfl, h1⟩
  ·refine ⟨(i : Int), ⟨Z, .inl ⟨i, Z, by omega, ?_, fun j hj => ?_⟩⟩, (Sat.nil w' M0).keep hc⟩
   ·rw [mY] at h1;simpa [pLe] using h1
   ·have h3 := h2 j J hj;rw [mY] at h3;simpa [pLe] using h3
  ·refine ⟨-1, ⟨Z, .inr ⟨Z, fun t ht => ?_⟩⟩, (Sat.nil w' M0).keep hc⟩;have h3 := h1 _ (List.getElem_mem (show t < (aX (eD A (manyN A))).length by omega));rw [mY] at h3;simpa [pLe] using h3) ?_
 rintro y _ ⟨rfl, hy⟩;dsimp only [List.cons_append, List.nil_append];rcases hy with ⟨t, rfl, h1, h2, h3⟩ | ⟨rfl, h1⟩
 ·(refine aA1 zq (aD (aC (aB (aA1 zq (jP U Z Z Z J (aD (aH Z (aC (aB ?_))))))))); (iterate 3 refine aA1 zq ?_); refine aD (aS ?_))
  refine aA5 wq O fun w hs => ?_;exact ⟨((t : Int), 0), ⟨Z, .inl ⟨Z, t, Z, h1, h2, h3⟩⟩, hs.sp O⟩
 ·(refine aA1 zq (aD (aC (aB (aA1 zq (jT U Z Z Z J (aD (aG Z (aK (aC (aB (aA1 zq ?_))))))))))); refine aA1 zq (aD (aS ?_)))
  refine aA5 wq O fun w hs => ?_;exact ⟨(0, 6), ⟨Z, .inr ⟨Z, Z, h1⟩⟩, hs.sp O⟩
end Go.Proofs.YtopdmadgkjdgcaaGreat
