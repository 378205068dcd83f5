/- My texts, joined: lemmas for RifleSmall. -/
import Derived.Test.YtopdmadgkjdgcaaGreatJ3
set_option linter.unusedVariables false
set_option maxHeartbeats 16000000
namespace Go.Proofs.YtopdmadgkjdgcaaGreat
open Go Go.Eng
set_option maxRecDepth 4000
open Go Go.Eng
abbrev scC (s : Sc) (tv rv : Value) : List Value := [.int .i64 s.err, .int .i64 s.least, tv, rv]
structure ScR (w : World) (lo hi : Nat) (tv rv : Value) (s : Sc) : Prop where
 t : RdS w lo hi tv s.tests
 r : RdI w lo hi rv s.rifles
theorem ScR.keep {w w' : World} {lo hi : Nat} {tv rv : Value} {s : Sc} (h : ScR w lo hi tv rv s) (c : Chg [] w w') : ScR w' lo hi tv rv s := ⟨RdE.keep h.t c, RdE.keep h.r c⟩
def tstB (t : Int × Int) : Bool := inB t.1 1 10000 && inB t.2 0 20000
def pTst : Value → Bool
 | .agg cs => match cs.toList with
  | [.int _ a, .int _ b] => tstB (a, b)
  | _ => false
 | _ => false
theorem pTst_all (l : List (Int × Int)) : (l.map rtV).all pTst = l.all tstB := by
 rw [List.all_map]
 rfl
def mC (s : Sc) : Int := if 10 < s.tests.length ∨ inB s.rifles.length 1 8 = false then 2 else if (inB s.err 0 100 && inB s.least 1 10000) = false then 3 else if s.tests.all tstB = false then 3 else if (s.rifles.all fun n => inB n 0 20000) = false then 3 else 0
theorem gN {s : Sc} : mC s = 0 ↔ s.Ok := by
 unfold mC;constructor
 ·intro h;split at h
  ·omega
  rename_i h1
  split at h
  ·omega
  rename_i h2
  split at h
  ·omega
  rename_i h3
  split at h
  ·omega
  rename_i h4
  simp only [Bool.not_eq_false, Bool.and_eq_true, not_or] at h1 h2 h3 h4;have r := bV.1 h1.2
  exact ⟨by omega, by omega, by omega, bV.1 h2.1, bV.1 h2.2, fun t ht => by
   have := List.all_eq_true.1 h3 t ht;simp only [tstB, Bool.and_eq_true] at this;exact ⟨bV.1 this.1, bV.1 this.2⟩, fun n hn => bV.1 (List.all_eq_true.1 h4 n hn)⟩
 ·intro h;have h1 := h.tn;have h2 := h.rn1;have h3 := h.rn8;rw [if_neg, if_neg, if_neg, if_neg]
  ·simp only [Bool.not_eq_false];exact List.all_eq_true.2 fun n hn => bV.2 (h.rifle n hn)
  ·simp only [Bool.not_eq_false]
   exact List.all_eq_true.2 fun t ht => by
    have := h.test t ht;simp only [tstB, Bool.and_eq_true];exact ⟨bV.2 this.1, bV.2 this.2⟩
  ·rw [bV.2 h.err, bV.2 h.least];simp
  ·rw [bV.2 (show (1 : Int) ≤ s.rifles.length ∧ (s.rifles.length : Int) ≤ 8 by omega)];simp;omega
theorem checkS1_p (w : World) (l : List (Int × Int)) : PredAt Tryz.prog tab w (.func (.func 111) #[] #[]) (l.map rtV) pTst := by
 refine ⟨_, _, _, Z, Z, fun w' hw' x hx => ?_⟩;obtain ⟨⟨x, y⟩, hy, rfl⟩ := List.mem_map.1 hx;refine cN (Sat.nil w' M0) Tryz.func111 Z (by simp [Tryz.ntmps111]) ?_;(refine aC (aB ?_));refine bR Z Z (fun b1 => ?_);(refine aA1 zq (aD (aC (aB (aA1 zq ?_)))); refine aJ U Z Z Z ?_);refine aI (val := .bool (inB x 1 10000)) U Z Z Z Z (fun w hs => ?_) ?_; exact eZ x 1 10000 w;(refine aA1 zq ?_);refine pL Z Z (fun hc => ?_) (fun hc => ?_)
 ·(refine aE Z (aA1 zq (aE Z ?_)); refine aJ U Z Z Z ?_; refine aE Z ?_)
  refine aI (val := .bool (inB y 0 20000)) U Z Z Z Z (fun w hs => ?_) ?_; exact eZ y 0 20000 w;(refine aA1 zq (aA1 zq (aD (aS ?_))));refine aA5 wq O fun w hs => ?_;exact ⟨by simp [Eng.retV, pTst, tstB, *], hs.chg0⟩
 ·((iterate 3 refine aA8 yq ?_); refine aA1 zq (aA1 zq (aD (aS ?_))))
  refine aA5 wq O fun w hs => ?_;exact ⟨by simp [Eng.retV, pTst, tstB, *], hs.chg0⟩
theorem checkS2_p (w : World) (c : List Int) : PredAt Tryz.prog tab w (.func (.func 113) #[] #[]) (aX c) (fun x => match x with | .int _ i => inB i 0 20000 | _ => false) := by
 refine ⟨_, _, _, Z, Z, fun w' hw' x hx => ?_⟩;obtain ⟨i, hi, rfl⟩ := List.mem_map.1 hx;refine cN (Sat.nil w' M0) Tryz.func113 Z (by simp [Tryz.ntmps113]) ?_;(refine aC (aB (aA1 zq (aD (aC (aB (aA1 zq ?_)))))));refine aI (val := .bool (inB i 0 20000)) U Z Z Z Z (fun w hs => ?_) ?_; exact eZ i 0 20000 w;(refine aA1 zq (aD (aS ?_)));refine aA5 wq O fun w hs => ?_;exact ⟨Z, hs.chg0⟩
theorem lO (w : World) (lo hi : Nat) (s : Sc) (tv rv : Value) (h : ScR w lo hi tv rv s) (hl1 : s.tests.length ≤ maxLen) (hl2 : s.rifles.length ≤ maxLen) : Ca Tryz.prog 32 [.agg (scC s tv rv).toArray] w fun x w' => x = .int .i64 (mC s) ∧ Chg [] w w' := by
 obtain ⟨ta, tc, rfl, _⟩ := RdS.outI h.t;obtain ⟨ra, rc, rfl, _⟩ := RdI.outI h.r;simp only [maxLen] at hl1 hl2;refine cN (Sat.nil w M0) Tryz.func32 Z (by simp [Tryz.ntmps32]) ?_;(refine aC (aB ?_));refine bR Z Z (fun b1 => ?_);rw [bL];by_cases h1 : 10 < s.tests.length
 ·have e : mC s = 2 := by unfold mC; rw [if_pos (.inl h1)]
  rw [e];(refine aA1 zq (aD (aC (aM (aC (aB (aA1 zq ?_)))))); refine aJ U Z Z Z ?_; refine aA1 zq (cR U Z Z Z J (aA1 zq ?_)); (iterate 5 refine aA8 yq ?_); refine aA1 zq (aA1 zq (aD (aH Z (aC (aB (aA1 zq (aD (aS ?_)))))))));refine aA5 wq O fun w hs => ?_
  exact ⟨Z, hs.chg0⟩
 ·(refine aA1 zq (aD (aC (aM (aC (aB (aA1 zq ?_)))))); refine aJ U Z Z Z ?_; refine aA1 zq (aB1 xq J (aA1 zq (aE Z (aA1 zq (aE Z ?_))))); refine aJ U Z Z Z ?_; refine aE Z (aA1 zq (aE Z ?_)))
  refine aI (val := .bool (inB s.rifles.length 1 8)) U Z Z Z Z (fun w hs => ?_) ?_; exact eZ s.rifles.length 1 8 w;cases h2 : inB s.rifles.length 1 8 with
  | false =>
   have e : mC s = 2 := by unfold mC; rw [if_pos (.inr h2)]
   rw [e];(refine aE Z ?_; (iterate 3 refine aA1 zq ?_); refine aD (aH Z (aC (aB (aA1 zq (aD (aS ?_)))))));refine aA5 wq O fun w hs => ?_
   exact ⟨Z, hs.chg0⟩
  | true =>
   have hr8 := bV.1 h2
   have e : mC s = if (inB s.err 0 100 && inB s.least 1 10000) = false then 3 else if s.tests.all tstB = false then 3 else if (s.rifles.all fun n => inB n 0 20000) = false then 3 else 0 := by
    unfold mC;rw [if_neg (by rw [h2]; simp; omega)]
   rw [e];(refine aE Z ?_; (iterate 3 refine aA1 zq ?_); refine aD (aG Z (aC (aB (aA1 zq ?_)))); refine aJ U Z Z Z ?_);refine aI (val := .bool (inB s.err 0 100)) U Z Z Z Z (fun w hs => ?_) ?_; exact eZ s.err 0 100 w;cases h3 : inB s.err 0 100 with
   | false =>
    (refine aA1 zq (aA1 zq ?_); (iterate 4 refine aA8 yq ?_); refine aA1 zq (aA1 zq (aD (aH Z (aC (aB (aA1 zq (aD (aS ?_)))))))))
    refine aA5 wq O fun w hs => ?_;exact ⟨Z, hs.chg0⟩
   | true =>
    (refine aA1 zq (aA1 zq (aE Z (aA1 zq (aE Z ?_)))); refine aJ U Z Z Z ?_; refine aE Z ?_)
    refine aI (val := .bool (inB s.least 1 10000)) U Z Z Z Z (fun w hs => ?_) ?_; exact eZ s.least 1 10000 w;cases h4 : inB s.least 1 10000 with
    | false =>
     (refine aE Z ?_; (iterate 3 refine aA1 zq ?_); refine aD (aH Z (aC (aB (aA1 zq (aD (aS ?_)))))))
     refine aA5 wq O fun w hs => ?_;exact ⟨Z, hs.chg0⟩
    | true =>
     rw [if_neg (by simp)];(refine aE Z ?_; (iterate 3 refine aA1 zq ?_); refine aD (aG Z (aC (aB (aA1 zq ?_)))); refine aJ U Z Z Z ?_);refine aI (val := .bool (s.tests.all tstB)) U Z Z Z Z (fun w hs => ?_) ?_; exact by have := all_test w lo hi _ _ (s.tests.map rtV) pTst (RdE.keep h.t hs.chg0) (rtV_agg s.tests) (by rw [List.length_map]; omega) (checkS1_p w s.tests); rw [pTst_all] at this; exact this
     cases h5 : s.tests.all tstB with
     | false =>
      (refine aA1 zq (aA1 zq (aD (aH Z (aC (aB (aA1 zq (aD (aS ?_)))))))))
      refine aA5 wq O fun w hs => ?_;exact ⟨Z, hs.chg0⟩
     | true =>
      rw [if_neg (by simp)];(refine aA1 zq (aA1 zq (aD (aG Z (aC (aB (aA1 zq ?_)))))); refine aJ U Z Z Z ?_);refine aI (val := .bool (s.rifles.all fun n => inB n 0 20000)) U Z Z Z Z (fun w hs => ?_) ?_; exact by have := all_rint w lo hi _ _ (aX s.rifles) _ (RdE.keep h.r hs.chg0) (by intro i hi; simp [aX, dJ]) (by simp [aX]; omega) (checkS2_p w s.rifles); unfold aX at this; rw [List.all_map] at this; exact this
      cases h6 : (s.rifles.all fun n => inB n 0 20000) with
      | false =>
       (refine aA1 zq (aA1 zq (aD (aH Z (aC (aB (aA1 zq (aD (aS ?_)))))))))
       refine aA5 wq O fun w hs => ?_;exact ⟨Z, hs.chg0⟩
      | true =>
       rw [if_neg (by simp)];(refine aA1 zq (aA1 zq (aD (aG Z (aK (bK (aC (aB (aA1 zq (aD (aS ?_)))))))))));refine aA5 wq O fun w hs => ?_
       exact ⟨Z, hs.chg0⟩
abbrev iN (p : Int × Int) : Value := .agg #[.int .i64 p.1, .int .i64 p.2]
theorem jZ (s : Sc) (tv rv : Value) (t : Int × Int) (he : 0 ≤ s.err ∧ s.err ≤ 100) (ht : (1 ≤ t.1 ∧ t.1 ≤ 10000) ∧ 0 ≤ t.2 ∧ t.2 ≤ 20000) (w : World) : Ca Tryz.prog 119 [.agg (scC s tv rv).toArray, iN t] w fun x w' => x = iN (gB s t) ∧ Chg [] w w' := by
 refine cN (Sat.nil w M0) Tryz.func119 Z (by simp [Tryz.ntmps119]) ?_;(refine aC (aB ?_));refine bR Z Z (fun b2 => ?_);refine bR Z Z (fun b3 => ?_);rw [bL];refine bF dR Z (fun b4 => ?_);(refine aD (aC (aB (aA1 zq ?_))); refine aJ U Z Z Z ?_; refine aA1 zq ?_; refine aJ U Z Z Z ?_; refine aA4 uq J J (aA1 zq (aD (aC (aB (aA1 zq (aA1 zq ?_)))))); refine aJ U Z Z Z ?_; refine aA4 uq J J ?_; (iterate 3 refine aA1 zq ?_); refine aJ U Z Z Z ?_; refine aA4 uq J J (aA1 zq ?_));refine fQ #[.int .i64 (max (-1000) (t.2 - t.1 - s.err)), .int .i64 (min 1000 (t.2 - t.1 + s.err))] Z qB Z ?_;(refine aB6 Wa O Z ?_; refine aD (aS ?_));refine aA5 wq O fun w hs => ?_;exact ⟨Z, hs.chg0⟩
def mxF (a : Int) (l : List Int) : Int := l.foldl max a
theorem jC (w : World) (lo hi : Nat) (a : Int) (v : Value) (l : List Int) (h : RdI w lo hi v l) (hlen : l.length ≤ 1000000) : Ca Tryz.prog 135 [.int .i64 a, v] w fun x w' => x = .int .i64 (mxF a l) ∧ Chg [] w w' := by
 obtain ⟨p, cap, rfl, hs⟩ := h.outI;refine cN (Sat.nil w M0) Tryz.func135 Z (by simp [Tryz.ntmps135]) ?_;(refine aC (aB (aA1 zq (aD (aC (aC (aB ?_)))))); (iterate 3 refine aA1 zq ?_); refine aD (aM ?_));refine bM (σ := Nat) (fun k => k ≤ l.length) (fun k => l.length - k) (fun k => [(0, .int .i64 (mxF a (l.take k))), (7, .slice p l.length cap), (8, .int .i64 l.length), (9, .int .i64 k)]) (fun _ => []) 0 J ⟨Z, Z, Z, Z, trivial⟩ .nil ?_;intro k hk K hK;(refine aC (aB (aA1 zq (aD (aC ?_)))));refine dN Z (fun hc => ?_) (fun hc => ?_)
 ·have hk : k < l.length := by omega
  obtain ⟨b, off, rfl⟩ := hs J;(refine aK (aC (aM (aC (aB ?_)))));(refine aA7 Wa J J ?_; refine bI U Z Z Z (fun w hs => RdI.at (RdE.keep h hs.chg0) k hk) ?_);(refine aA1 zq (aD (aB ?_)); (iterate 4 refine aA1 zq ?_); refine aD (bK (aB (aA4 uq J J (aA1 zq (aD ?_))))))
  exact hK (k + 1) _ _ J J ⟨by
   have e : mxF a (l.take (k + 1)) = max (mxF a (l.take k)) l[k] := by
    unfold mxF;rw [List.take_succ_eq_append_getElem hk, List.foldl_append]
    rfl
   rw [e]
   rfl, rfl, rfl, rfl, trivial⟩ .nil
 ·obtain rfl : k = l.length := by omega
  rw [List.take_length];(refine bH _ Z (aC (aB (aA1 zq (aA1 zq (aD (aS ?_)))))));refine aA5 wq O fun w hs => ?_
  exact ⟨Z, hs.chg0⟩
theorem iO (a b : Int × Int) (w : World) : Ca Tryz.prog 118 [iN a, iN b] w fun x w' => x = iN (lQ a b) ∧ Chg [] w w' := by
 refine cN (Sat.nil w M0) Tryz.func118 Z (by simp [Tryz.ntmps118]) ?_;(refine aC (aB ?_));refine bR Z Z (fun b2 => ?_);refine bR Z Z (fun b3 => ?_);refine bF dR Z (fun b4 => ?_);(refine aD (aC ?_));refine q_drawS 12 _ [.pt b4 _ _] (Sp.cons O (Sp.refl _)) qB qB qB fun K1 hK1 => ?_;(refine aA2 xq ?_; refine bB U Z Z Z ?_; refine aA2 xq ?_; refine bB U Z Z Z ?_)
 refine eX 3 [.int .i64 b.1] Z qB Z (fun bn => ?_);refine bN (val := .int .i64 (max a.1 b.1)) U Z Z Z Z (fun w hs => ?_) ?_; exact by have := jC w _ _ a.1 _ [b.1] (Blk.rdI (c := 1) (hs.blk (b := bn) (cs := aX [b.1]) O)) (by simp); exact this
 (refine aA2 xq ?_; refine bB U Z Z Z ?_; refine aA2 xq ?_; refine bB U Z Z Z ?_; refine aA2 xq ?_)
 refine kH #[.int .i64 (max a.1 b.1), .int .i64 (min a.2 b.2)] Z qB Z ?_;(refine aN ?_);refine hK1 _ _ [.pt b4 _ _] (Sp.cons O (O)) ?_;(refine aB7 Wa O Z ?_; refine aN (aS ?_));refine aA5 wq O fun w hs => ?_;exact ⟨Z, hs.chg0⟩
abbrev knC (k : Kn) : List Value := .int .i64 k.lo :: .int .i64 k.hi :: (cK k.p ++ cK k.f)
abbrev knV (k : Kn) : Value := .agg (knC k).toArray
abbrev dskC (s : Sc) (tv rv : Value) (k : Kn) : List Value := scC s tv rv ++ knC k
abbrev dskZ (s : Sc) (tv rv : Value) (lo hi : Int) : List Value := [.int .i64 s.err, .int .i64 s.least, tv, rv, .int .i64 lo, .int .i64 hi, .bool false, .bool false, .bool false, .bool false, .bool false, .bool false, .bool false, .bool false, .bool false, .bool false, .bool false, .bool false, .bool false, .bool false, .bool false, .bool false]
theorem off_take (s : Sc) (l : List (Int × Int)) (k : Nat) (hk : k < l.length) : offL s (l.take (k + 1)) = lQ (offL s (l.take k)) (gB s l[k]) := by
 unfold offL;rw [List.take_succ_eq_append_getElem hk, List.foldl_append]
 rfl
theorem rask_bad (w : World) (lo hi : Nat) (s : Sc) (tv rv : Value) (h : ScR w lo hi tv rv s) (hl1 : s.tests.length ≤ maxLen) (hl2 : s.rifles.length ≤ maxLen) (h0 : mC s ≠ 0) : Ca Tryz.prog 115 [.agg (scC s tv rv).toArray] w fun x w' => x = .tuple #[.pointer none, .int .i64 (mC s)] ∧ Chg [] w w' := by
 refine cN (Sat.nil w M0) Tryz.func115 Z (by simp [Tryz.ntmps115]) ?_;(refine aC (aB ?_));refine bR Z Z (fun b1 => ?_);rw [bL];(refine aA1 zq (aA1 zq (aD (aC (aC (aB ?_))))); refine aP U Z Z Z ?_);refine aI (val := .int .i64 (mC s)) U Z Z Z Z (fun w hs => ?_) ?_; exact lO w lo hi s tv rv (h.keep hs.chg0) hl1 hl2;(refine aA1 zq (aD (aC (aB (aA1 zq (aB0 xq J (aD (aH Z (aC (aB ?_))))))))); (iterate 3 refine aA1 zq ?_); refine aD (aS ?_));refine aA5 wq O fun w hs => ?_;exact ⟨Z, hs.chg0⟩
theorem rask_both (w : World) (lo hi : Nat) (s : Sc) (tv rv : Value) (h : ScR w lo hi tv rv s) (hs0 : s.Ok) : Ca Tryz.prog 115 [.agg (scC s tv rv).toArray] w fun x w' => ∃ bd : Nat, (x = if (dS s).1 ≤ (dS s).2 then .tuple #[aC0 bd, .int .i64 0] else .tuple #[.pointer none, .int .i64 7]) ∧ Sat w M0 [.pt bd (dskC s tv rv (bP s)) 184] w' := by
 have htn := hs0.tn;have hrn := hs0.rn8;have he := hs0.err;have hob : ∀ l, -1000 ≤ (offL s l).1 ∧ (offL s l).2 ≤ 1000 := fun l => offL_bd s l (-1000, 1000)
 have hot : ∀ k, k ≤ s.tests.length → (offL s (s.tests.take k)).1 ≤ 30000 ∧ -30000 ≤ (offL s (s.tests.take k)).2 := fun k => by
  induction k with
  | zero => intro _; simp [offL]
  | succ k ih =>
   intro hk;have h1 := ih J;have h2 := hs0.test _ (List.getElem_mem (show k < s.tests.length by omega));rw [off_take s s.tests k J];simp only [lQ, gB];omega
 obtain ⟨ta, tc, rfl, hta⟩ := RdS.outI h.t;refine cN (Sat.nil w M0) Tryz.func115 Z (by simp [Tryz.ntmps115]) ?_;(refine aC (aB ?_));refine bR Z Z (fun b1 => ?_);rw [bL];(refine aA1 zq (aA1 zq (aD (aC (aC (aB ?_))))); refine aP U Z Z Z ?_);refine aI (val := .int .i64 0) U Z Z Z Z (fun w hs => ?_) ?_; exact by have := lO w lo hi s _ rv (h.keep hs.chg0) (by simp only [maxLen]; omega) (by simp only [maxLen]; omega); rw [gN.2 hs0] at this; exact this
 (refine aA1 zq (aD (aC (aB (aA1 zq (aA6 xq J (aD (aG Z (aK (aC (aB ?_)))))))))); refine aP U Z Z Z ?_)
 refine fQ #[.int .i64 s.err, .int .i64 s.least, .slice ta s.tests.length tc, rv, .int .i64 0, .int .i64 0, .bool false, .bool false, .bool false, .bool false, .bool false, .bool false, .bool false, .bool false, .bool false, .bool false, .bool false, .bool false, .bool false, .bool false, .bool false, .bool false] Z qB Z ?_;refine bR Z Z (fun b5 => ?_);(refine aA1 zq (aD (aC (aB (aA1 zq ?_)))));refine fQ #[.int .i64 (-1000), .int .i64 1000] Z qB Z ?_
 ((iterate 3 refine aA1 zq ?_))
 refine ql_stA (dskZ s (.slice ta s.tests.length tc) rv (-1000) 1000) U Z Z Z Z Z O Z Z ?_;(refine aD (aC (aC (aB (aA1 zq ?_)))); refine aJ U Z Z Z ?_; refine aA1 zq (aA1 zq (aD (aM ?_))));have e0 : offL s (s.tests.take 0) = (-1000, 1000) := rfl;refine bM (σ := Nat) (fun k => k ≤ s.tests.length) (fun k => s.tests.length - k) (fun k => [(1, aC0 b1), (2, .pointer none), (3, .int .i64 0), (5, aC0 b5), (22, .slice ta s.tests.length tc), (23, .int .i64 s.tests.length), (24, .int .i64 k)]) (fun k => [.pt b5 (dskZ s (.slice ta s.tests.length tc) rv (offL s (s.tests.take k)).1 (offL s (s.tests.take k)).2) 184, .pt b1 (scC s (.slice ta s.tests.length tc) rv) 46]) 0 J ⟨Z, Z, Z, Z, Z, Z, Z, trivial⟩ O ?_;rintro k hk K hK;have ho := hot k hk;have ho2 := hob (s.tests.take k);(refine aC (aB (aA1 zq (aD (aC ?_)))));refine dN Z (fun hc => ?_) (fun hc => ?_)
 ·have hk2 : k < s.tests.length := by omega
  clear hc;have hsu := off_take s s.tests k hk2;obtain ⟨gb, go, rfl⟩ := hta J;obtain ⟨⟨t1, t2⟩, ht⟩ : ∃ t, s.tests[k] = t := ⟨_, rfl⟩;have htb := hs0.test _ (List.getElem_mem hk2);rw [ht] at htb hsu;generalize offL s (s.tests.take k) = off at *;obtain ⟨o1, o2⟩ := off;dsimp only at ho ho2 htb ⊢;(refine aK (aC (aM (aC (aB ?_)))));refine aA7 Wa J J ?_;refine dC (cs := [.int .i64 t1, .int .i64 t2]) U Z Z Z Z (fun w hs q hq => by have := RdS.at (RdE.keep h.t hs.chg0) k hk2 q hq; rw [ht] at this; exact this) ?_;refine bF zero78 Z (fun b7 => ?_);(refine aB6 Wa O Z ?_; refine aD ?_);refine q_drawS 13 _ [.pt b5 _ _] (Sp.cons O (Sp.refl _)) qB qB qB fun K1 hK1 => ?_
  ((iterate 5 refine aA2 xq ?_); (iterate 3 refine aV U Z Z Z ?_))
  refine bN (val := iN (gB s (t1, t2))) U Z Z Z Z (fun w hs => ?_) ?_; exact jZ s _ rv (t1, t2) he htb w;refine bN (val := iN (lQ (o1, o2) (gB s (t1, t2)))) U Z Z Z Z (fun w hs => ?_) ?_; exact iO (o1, o2) (gB s (t1, t2)) w
  ((iterate 3 refine aA2 xq ?_); refine aN ?_)
  refine hK1 _ _ [.pt b5 _ _] (Sp.cons O (O)) ?_;refine qf_stA (dskZ s (.slice (some ⟨gb, go, none⟩) s.tests.length tc) rv (lQ (o1, o2) (gB s (t1, t2))).1 (lQ (o1, o2) (gB s (t1, t2))).2) U Z Z Z Z Z O Z Z ?_;(refine aN (bK (aB (aA4 uq J J (aA1 zq (aD ?_))))));exact hK (k + 1) _ _ J J ⟨Z, Z, Z, Z, Z, Z, Z, trivial⟩ (by rw [hsu]; repeat constructor)
 ·obtain rfl : k = s.tests.length := by omega
  clear hc hK;rw [List.take_length] at ho ⊢;have hoff : offL s s.tests = dS s := rfl;rw [hoff] at ho ⊢;obtain ⟨o1, hO1⟩ : ∃ o, (dS s).1 = o := ⟨_, rfl⟩;obtain ⟨o2, hO2⟩ : ∃ o, (dS s).2 = o := ⟨_, rfl⟩;have efst : dskC s (.slice ta s.tests.length tc) rv (bP s) = dskZ s (.slice ta s.tests.length tc) rv o1 o2 := by rw [← hO1, ← hO2]; rfl
  rw [efst, hO1, hO2];by_cases hc : o1 ≤ o2
  ·(refine bH _ Z (aC (aC ?_)))
   refine bZ _ [] (Sp.refl _) qB qB ?_
   ((iterate 5 refine aA2 xq ?_); refine bB U Z Z Z ?_; (iterate 5 refine aA2 xq ?_); refine bB U Z Z Z ?_; refine gF U Z Z Z J (aN (aG Z (aK (aC (aB ?_))))); (iterate 3 refine aA1 zq ?_); refine aD (aS ?_))
   refine aA5 wq O fun w hs => ?_;exact ⟨b5, by rw [if_pos hc]; rfl, hs.sp O⟩
  ·(refine bH _ Z (aC (aC ?_)))
   refine bZ _ [] (Sp.refl _) qB qB ?_
   ((iterate 5 refine aA2 xq ?_); refine bB U Z Z Z ?_; (iterate 5 refine aA2 xq ?_); refine bB U Z Z Z ?_; refine gX U Z Z Z J (aN (aH Z (aC (aB (aA1 zq (aA1 zq (aD (aS ?_)))))))))
   refine aA5 wq O fun w hs => ?_;exact ⟨b5, by rw [if_neg hc]; rfl, hs.sp O⟩
theorem lW (w : World) (lo hi : Nat) (s : Sc) (tv rv : Value) (h : ScR w lo hi tv rv s) (hs0 : s.Ok) (ho : (dS s).1 ≤ (dS s).2) : Ca Tryz.prog 115 [.agg (scC s tv rv).toArray] w fun x w' => ∃ bd : Nat, x = .tuple #[aC0 bd, .int .i64 0] ∧ Sat w M0 [.pt bd (dskC s tv rv (bP s)) 184] w' :=
 (rask_both w lo hi s tv rv h hs0).mono fun x w' ⟨bd, h1, h2⟩ => ⟨bd, by rw [h1, if_pos ho], h2⟩
theorem rask_con (w : World) (lo hi : Nat) (s : Sc) (tv rv : Value) (h : ScR w lo hi tv rv s) (hs0 : s.Ok) (ho : ¬ (dS s).1 ≤ (dS s).2) : Ca Tryz.prog 115 [.agg (scC s tv rv).toArray] w fun x w' => x = .tuple #[.pointer none, .int .i64 7] ∧ Chg [] w w' :=
 (rask_both w lo hi s tv rv h hs0).mono fun x w' ⟨bd, h1, h2⟩ => ⟨by rw [h1, if_neg ho], h2.chg0⟩
def eY (s : Sc) : Int := if mC s ≠ 0 then mC s else if (dS s).1 ≤ (dS s).2 then 0 else 7
structure SOk (s : Sc) : Prop where
 ok : s.Ok
 le : (dS s).1 ≤ (dS s).2
theorem dU {s : Sc} : eY s = 0 ↔ SOk s := by
 unfold eY;constructor
 ·intro h;split at h
  ·omega
  rename_i h1
  split at h
  ·rename_i h2
   exact ⟨gN.1 (by simpa using h1), h2⟩
  ·omega
 ·intro h;rw [if_neg (by rw [gN.2 h.ok]; simp), if_pos h.le]
theorem oB (w : World) (lo hi : Nat) (s : Sc) (tv rv : Value) (h : ScR w lo hi tv rv s) (hl1 : s.tests.length ≤ maxLen) (hl2 : s.rifles.length ≤ maxLen) (h0 : eY s ≠ 0) : Ca Tryz.prog 115 [.agg (scC s tv rv).toArray] w fun x w' => x = .tuple #[.pointer none, .int .i64 (eY s)] ∧ Chg [] w w' := by
 by_cases h1 : mC s = 0
 ·have h2 : ¬ (dS s).1 ≤ (dS s).2 := fun e => h0 (dU.2 ⟨gN.1 h1, e⟩)
  have e : eY s = 7 := by unfold eY; rw [if_neg (by simpa using h1), if_neg h2]
  rw [e];exact rask_con w lo hi s tv rv h (gN.1 h1) h2
 ·have e : eY s = mC s := by unfold eY; rw [if_pos h1]
  rw [e];exact rask_bad w lo hi s tv rv h hl1 hl2 h1
theorem roff_no (w : World) (lo hi : Nat) (s : Sc) (tv rv : Value) (h : ScR w lo hi tv rv s) (hl1 : s.tests.length ≤ maxLen) (hl2 : s.rifles.length ≤ maxLen) (h0 : eY s ≠ 0) : Ca Tryz.prog 34 [.agg (scC s tv rv).toArray] w fun x w' => x = .tuple #[iN (0, 0), .int .i64 (eY s)] ∧ Chg [] w w' := by
 refine cN (Sat.nil w M0) Tryz.func34 Z (by simp [Tryz.ntmps34]) ?_;(refine aC (aB ?_));refine bR Z Z (fun b1 => ?_);rw [bL];refine bF dR Z (fun b2 => ?_);(refine aA1 zq (aD (aC (aB ?_))); refine aP U Z Z Z ?_);refine aI (val := .tuple #[.pointer none, .int .i64 (eY s)]) U Z Z Z Z (fun w hs => ?_) ?_; exact oB w lo hi s tv rv (h.keep hs.chg0) hl1 hl2 h0;(refine aA1 zq (aB5 xq (aB5 xq (aA1 zq (aA1 zq (aD (aC (aC (aB (aA1 zq (aB0 xq J (aD ?_))))))))))); refine aH Z (aC (aB ?_)));refine fQ #[.int .i64 0, .int .i64 0] Z qB Z ?_;(refine aA1 zq ?_; refine aB6 Wa O Z ?_; refine aA1 zq (aD (aS ?_)));refine aA5 wq O fun w hs => ?_;exact ⟨Z, hs.chg0⟩
theorem roff_ok (w : World) (lo hi : Nat) (s : Sc) (tv rv : Value) (h : ScR w lo hi tv rv s) (hs0 : SOk s) : Ca Tryz.prog 34 [.agg (scC s tv rv).toArray] w fun x w' => x = .tuple #[iN (dS s), .int .i64 0] ∧ Chg [] w w' := by
 refine cN (Sat.nil w M0) Tryz.func34 Z (by simp [Tryz.ntmps34]) ?_;(refine aC (aB ?_));refine bR Z Z (fun b1 => ?_);rw [bL];refine bF dR Z (fun b2 => ?_);(refine aA1 zq (aD (aC (aB ?_))); refine aP U Z Z Z ?_);refine bC (β := Nat) U [] _ M0 Z Z Z Z (Sp.refl _) qC (fun w' hs => lW w' lo hi s tv rv (h.keep hs.chg0) hs0.ok hs0.le) ?_;rintro bd _ rfl;dsimp only [List.cons_append, List.nil_append];(refine aA1 zq (aB5 xq (aB5 xq (aA1 zq (aA1 zq (aD (aC (aC (aB (aA1 zq (aA6 xq J (aD ?_))))))))))); refine aG Z (aK (aC (aB ?_))); (iterate 4 refine aA1 zq ?_); refine aP U Z Z Z ?_; refine aB6 Wa O Z ?_; refine aA1 zq (aD (aS ?_)));refine aA5 wq O fun w hs => ?_;exact ⟨Z, hs.chg0⟩
theorem weight_ca (w : World) (lo hi bd : Nat) (s : Sc) (tv rv : Value) (k0 : Kn) (h : ScR w lo hi tv rv s) (hb : Blk w bd (dskC s tv rv k0) 184) (hs0 : s.Ok) (i : Nat) (hi' : i < s.rifles.length) (o : Int × Int) (ho : (-100000 ≤ o.1 ∧ o.1 ≤ 100000) ∧ -100000 ≤ o.2 ∧ o.2 ≤ 100000) : Ca Tryz.prog 120 [aC0 bd, .int .i64 i, iN o] w fun x w' => x = iN (gL s i o) ∧ Chg [] w w' := by
 have he := hs0.err;have hrn := hs0.rn8;have hri := hs0.rif hi';obtain ⟨ra, rc, rfl, hra⟩ := RdI.outI h.r;obtain ⟨rb, ro, rfl⟩ := hra J;have er : s.rifles[i] = s.rif i := by unfold Sc.rif; rw [getI hi']
 refine cN (Sat.nil w M0) Tryz.func120 Z (by simp [Tryz.ntmps120]) ?_;(refine aC (aB ?_));refine bR Z Z (fun b5 => ?_);refine bF dR Z (fun b6 => ?_);(refine aD (aC (aB ?_)); (iterate 4 refine aA1 zq ?_); refine gA U Z Z Z (by assumption) (by rfl) ?_; refine aA1 zq ?_);refine aA7 Wa J J ?_;refine bI (v := .int .i64 (s.rif i)) U Z Z Z (fun w hs => by have := RdI.at (RdE.keep h.r hs.chg0) i hi'; rw [er] at this; exact this) ?_;(refine aA1 zq (aD (aC ?_)));refine bZ _ [.pt b6 _ _] (Sp.cons O (Sp.refl _)) qB qB ?_;(refine aA2 xq (aA2 xq ?_); refine bB U Z Z Z ?_; refine aA9 uq J J ?_; (iterate 4 refine aA2 xq ?_); refine dV U Z Z Z (by assumption) (by rfl) ?_; refine aA9 uq J J (aA2 xq (aA2 xq ?_)); refine bB U Z Z Z ?_; refine aA9 uq J J ?_; (iterate 4 refine aA2 xq ?_); refine dV U Z Z Z (by assumption) (by rfl) ?_; refine aA9 uq J J ?_);refine kH #[.int .i64 (s.rif i - o.2 - s.err), .int .i64 (s.rif i - o.1 + s.err)] Z qB Z ?_;(refine aB7 Wa O Z ?_; refine aN (aS ?_));refine aA5 wq O fun w hs => ?_;exact ⟨Z, hs.chg0⟩
abbrev lightF : Value := .func (.func 165) #[] #[]
abbrev heavyF : Value := .func (.func 198) #[] #[]
theorem light_ca (w : World) : Ca Tryz.prog 123 [] w fun x w' => x = .agg #[lightF] ∧ Chg [] w w' := by
 refine cN (Sat.nil w M0) Tryz.func123 Z (by simp [Tryz.ntmps123]) ?_;(refine aC (aB ?_));refine bF zero195 Z (fun b0 => ?_);(refine aD (aC (aB ?_)));refine fQ #[lightF] Z qB Z ?_;(refine aB6 Wa O Z ?_; refine aD (aS ?_));refine aA5 wq O fun w hs => ?_;exact ⟨Z, hs.chg0⟩
theorem heavy_ca (w : World) : Ca Tryz.prog 168 [] w fun x w' => x = .agg #[heavyF] ∧ Chg [] w w' := by
 refine cN (Sat.nil w M0) Tryz.func168 Z (by simp [Tryz.ntmps168]) ?_;(refine aC (aB ?_));refine bF zero195 Z (fun b0 => ?_);(refine aD (aC (aB ?_)));refine fQ #[heavyF] Z qB Z ?_;(refine aB6 Wa O Z ?_; refine aD (aS ?_));refine aA5 wq O fun w hs => ?_;exact ⟨Z, hs.chg0⟩
theorem light1_ca (o : Int × Int) (w : World) : Ca Tryz.prog 165 [iN o] w fun x w' => x = .int .i64 o.1 ∧ Chg [] w w' := by
 refine cN (Sat.nil w M0) Tryz.func165 Z (by simp [Tryz.ntmps165]) ?_;(refine aC (aB ?_));refine bR Z Z (fun b1 => ?_);(refine aA1 zq (aD (aC (aB (aA1 zq ?_)))); refine aJ U Z Z Z ?_; refine aA1 zq (aD (aS ?_)));refine aA5 wq O fun w hs => ?_;exact ⟨Z, hs.chg0⟩
theorem heavy1_ca (o : Int × Int) (w : World) : Ca Tryz.prog 198 [iN o] w fun x w' => x = .int .i64 o.2 ∧ Chg [] w w' := by
 refine cN (Sat.nil w M0) Tryz.func198 Z (by simp [Tryz.ntmps198]) ?_;(refine aC (aB ?_));refine bR Z Z (fun b1 => ?_);(refine aA1 zq (aD (aC (aB (aA1 zq ?_)))); refine aJ U Z Z Z ?_; refine aA1 zq (aD (aS ?_)));refine aA5 wq O fun w hs => ?_;exact ⟨Z, hs.chg0⟩
structure Kn.Bd (k : Kn) : Prop where
 p8 : k.p.length = 8
 f8 : k.f.length = 8
 lo : -100000 ≤ k.lo ∧ k.lo ≤ 100000
 hi : -100000 ≤ k.hi ∧ k.hi ≤ 100000
theorem Kn.Fit.bd {k : Kn} (h : k.Fit) : k.Bd := ⟨h.p8, h.f8, by have := h.lo; have := h.hi; have := h.le; omega, by have := h.lo; have := h.hi; have := h.le; omega⟩
theorem canL_ca (w : World) (lo hi bd : Nat) (s : Sc) (tv rv : Value) (k0 k : Kn) (h : ScR w lo hi tv rv s) (hb : Blk w bd (dskC s tv rv k0) 184) (hs0 : s.Ok) (hk : k.Bd) (i : Nat) (hi' : i < s.rifles.length) : Ca Tryz.prog 122 [aC0 bd, .int .i64 i, knV k, .agg #[lightF]] w fun x w' => x = .bool (decide (s.least ≤ (gL s i k.off).1)) ∧ Chg [] w w' := by
 refine cN (Sat.nil w M0) Tryz.func122 Z (by simp [Tryz.ntmps122]) ?_;(refine aC (aB ?_));refine bR Z Z (fun b6 => ?_);refine bR Z Z (fun b7 => ?_);rw [bL];(refine aA1 zq (aD (aC ?_)));refine bZ _ [] (Sp.refl _) qB qB ?_;(refine aA2 xq ?_; refine bB U Z Z Z ?_; (iterate 3 refine aA2 xq ?_); refine aV U Z Z Z ?_);refine bN (val := iN (gL s i k.off)) U Z Z Z Z (fun w hs => ?_) ?_; exact weight_ca w lo hi bd s tv rv k0 (h.keep hs.chg0) (hb.keep hs.chg0) hs0 i hi' k.off ⟨hk.lo, hk.hi⟩;refine bN (val := .int .i64 (gL s i k.off).1) U Z Z Z Z (fun w hs => ?_) ?_; exact light1_ca (gL s i k.off) w
 ((iterate 4 refine aA2 xq ?_); refine dV U Z Z Z (by assumption) (by rfl) ?_; refine aA2 xq (aA2 xq (aN (aS ?_))))
 refine aA5 wq O fun w hs => ?_;exact ⟨by simp [Eng.retV, ge_iff_le], hs.chg0⟩
theorem canH_ca (w : World) (lo hi bd : Nat) (s : Sc) (tv rv : Value) (k0 k : Kn) (h : ScR w lo hi tv rv s) (hb : Blk w bd (dskC s tv rv k0) 184) (hs0 : s.Ok) (hk : k.Bd) (i : Nat) (hi' : i < s.rifles.length) : Ca Tryz.prog 122 [aC0 bd, .int .i64 i, knV k, .agg #[heavyF]] w fun x w' => x = .bool (decide (s.least ≤ (gL s i k.off).2)) ∧ Chg [] w w' := by
 refine cN (Sat.nil w M0) Tryz.func122 Z (by simp [Tryz.ntmps122]) ?_;(refine aC (aB ?_));refine bR Z Z (fun b6 => ?_);refine bR Z Z (fun b7 => ?_);rw [bL];(refine aA1 zq (aD (aC ?_)));refine bZ _ [] (Sp.refl _) qB qB ?_;(refine aA2 xq ?_; refine bB U Z Z Z ?_; (iterate 3 refine aA2 xq ?_); refine aV U Z Z Z ?_);refine bN (val := iN (gL s i k.off)) U Z Z Z Z (fun w hs => ?_) ?_; exact weight_ca w lo hi bd s tv rv k0 (h.keep hs.chg0) (hb.keep hs.chg0) hs0 i hi' k.off ⟨hk.lo, hk.hi⟩;refine bN (val := .int .i64 (gL s i k.off).2) U Z Z Z Z (fun w hs => ?_) ?_; exact heavy1_ca (gL s i k.off) w
 ((iterate 4 refine aA2 xq ?_); refine dV U Z Z Z (by assumption) (by rfl) ?_; refine aA2 xq (aA2 xq (aN (aS ?_))))
 refine aA5 wq O fun w hs => ?_;exact ⟨by simp [Eng.retV, ge_iff_le], hs.chg0⟩
def wgtL (s : Sc) (k : Nat) : List (Int × Int) := (List.range k).map fun i => gL s i (dS s)
theorem wgtL_succ (s : Sc) (k : Nat) : spC (wgtL s (k + 1)) = spC (wgtL s k) ++ [.int .i64 (gL s k (dS s)).1, .int .i64 (gL s k (dS s)).2] := by
 unfold wgtL;rw [List.range_succ, List.map_append];simp [spC]
theorem wgtL_len (s : Sc) (k : Nat) : (wgtL s k).length = k := by simp [wgtL]
theorem weights_no (w : World) (lo hi : Nat) (s : Sc) (tv rv : Value) (h : ScR w lo hi tv rv s) (hl1 : s.tests.length ≤ maxLen) (hl2 : s.rifles.length ≤ maxLen) (h0 : eY s ≠ 0) : Ca Tryz.prog 38 [.agg (scC s tv rv).toArray] w fun x w' => x = .tuple #[.slice none 0 0, .int .i64 (eY s)] ∧ Chg [] w w' := by
 refine cN (Sat.nil w M0) Tryz.func38 Z (by simp [Tryz.ntmps38]) ?_;(refine aC (aB ?_));refine bR Z Z (fun b1 => ?_);rw [bL];(refine aA1 zq (aA1 zq (aD (aC (aB ?_)))); refine aP U Z Z Z ?_);refine aI (val := .tuple #[.pointer none, .int .i64 (eY s)]) U Z Z Z Z (fun w hs => ?_) ?_; exact oB w lo hi s tv rv (h.keep hs.chg0) hl1 hl2 h0;(refine aA1 zq (aB5 xq (aB5 xq (aA1 zq (aA1 zq (aD (aC (aC (aB (aA1 zq (aB0 xq J (aD ?_))))))))))); refine aH Z (aC (aB ?_)); (iterate 3 refine aA1 zq ?_); refine aD (aS ?_));refine aA5 wq O fun w hs => ?_;exact ⟨Z, hs.chg0⟩
theorem weights_ok (w : World) (lo hi : Nat) (s : Sc) (tv rv : Value) (h : ScR w lo hi tv rv s) (hs0 : SOk s) : Ca Tryz.prog 38 [.agg (scC s tv rv).toArray] w fun x w' => ∃ u : Value, x = .tuple #[u, .int .i64 0] ∧ Sat w M0 [.ow u 56 2 s.rifles.length (spC (wgtL s s.rifles.length))] w' := by
 have hrn := hs0.ok.rn8;have hob := off_bd s;have hle := hs0.le;obtain ⟨ra, rc, rfl, hra⟩ := RdI.outI h.r;refine cN (Sat.nil w M0) Tryz.func38 Z (by simp [Tryz.ntmps38]) ?_;(refine aC (aB ?_));refine bR Z Z (fun b1 => ?_);rw [bL];(refine aA1 zq (aA1 zq (aD (aC (aB ?_)))); refine aP U Z Z Z ?_);refine bC (β := Nat) U [] _ M0 Z Z Z Z (Sp.refl _) qC (fun w' hs => lW w' lo hi s tv _ (h.keep hs.chg0) hs0.ok hs0.le) ?_;rintro bd _ rfl;dsimp only [List.cons_append, List.nil_append];(refine aA1 zq (aB5 xq (aB5 xq (aA1 zq (aA1 zq (aD (aC (aC (aB (aA1 zq (aA6 xq J (aD ?_))))))))))); refine aG Z (aK (aC (aB (aA1 zq (aD (aC (aC (aB ?_)))))))); (iterate 4 refine aA1 zq ?_); refine aJ U Z Z Z ?_; refine aA1 zq (aA1 zq (aD (aM ?_))));refine dG (H' := [.ow (.slice none 0 0) 56 2 0 (spC (wgtL s 0)), .pt bd (dskC s tv (.slice ra s.rifles.length rc) (bP s)) 184]) (fun w' hs => Sat.ownil (hs.sp O) 56 2) ?_;refine bM (σ := Nat × Value) (fun z => z.1 ≤ s.rifles.length) (fun z => s.rifles.length - z.1) (fun z => [(4, aC0 bd), (6, z.2), (21, .int .i64 s.rifles.length), (22, .int .i64 z.1)]) (fun z => [.ow z.2 56 2 z.1 (spC (wgtL s z.1)), .pt bd (dskC s tv (.slice ra s.rifles.length rc) (bP s)) 184]) (0, .slice none 0 0) (Nat.zero_le _) ⟨Z, Z, Z, Z, trivial⟩ O ?_;rintro ⟨i, u⟩ hi2 K hK;dsimp only at hi2 hK ⊢;(refine aC (aB (aA1 zq (aD (aC ?_)))));refine dN Z (fun hc => ?_) (fun hc => ?_)
 ·have hi3 : i < s.rifles.length := by omega
  clear hc;(refine aK (aC (aM (aC (aB (aA1 zq (aA1 zq (aD (aB ?_)))))))); (iterate 7 refine aA1 zq ?_); refine aP U Z Z Z ?_);refine aI (val := iN (gL s i (dS s))) U Z Z Z Z (fun w hs => ?_) ?_; exact weight_ca w lo hi bd s tv _ (bP s) (h.keep hs.chg0) (hs.blk O) hs0.ok i hi3 (dS s) J;refine cT 56 [.int .i64 (gL s i (dS s)).1, .int .i64 (gL s i (dS s)).2] Z qB Z (fun bn => ?_);refine cW (q := 1) (news := [.int .i64 (gL s i (dS s)).1, .int .i64 (gL s i (dS s)).2]) slS Z Z Z (fun v' => by repeat constructor) (fun w' hs => ⟨_, _, Blk.rdN (hs.blk (b := bn) O) Z⟩) (by simp [dJ]) J J (fun u' => ?_);(refine aA1 zq (aD (bK (aB (aA4 uq J J (aA1 zq (aD ?_)))))));exact hK (i + 1, u') _ _ (by simp only; omega) (by simp only; omega) ⟨Z, Z, Z, Z, trivial⟩ (by dsimp only; rw [wgtL_succ]; repeat constructor)
 ·obtain rfl : i = s.rifles.length := by omega
  (refine bH _ Z (aC (aB ?_)); (iterate 3 refine aA1 zq ?_); refine aD (aS ?_))
  refine aA5 wq O fun w hs => ?_;exact ⟨u, Z, hs.sp O⟩
def pasL (s : Sc) (k : Nat) : List Nat := (List.range k).filter fun i => decide (s.least ≤ (gL s i (dS s)).1)
theorem pasL_succ (s : Sc) (k : Nat) : pasL s (k + 1) = if s.least ≤ (gL s k (dS s)).1 then pasL s k ++ [k] else pasL s k := by
 unfold pasL;rw [List.range_succ, List.filter_append];by_cases e : s.least ≤ (gL s k (dS s)).1 <;> simp [e]
theorem pasL_len (s : Sc) (k : Nat) : (pasL s k).length ≤ k := by
 have := List.length_filter_le (fun i => decide (s.least ≤ (gL s i (dS s)).1)) (List.range k)
 rwa [List.length_range] at this
theorem passed_no (w : World) (lo hi : Nat) (s : Sc) (tv rv : Value) (h : ScR w lo hi tv rv s) (hl1 : s.tests.length ≤ maxLen) (hl2 : s.rifles.length ≤ maxLen) (h0 : eY s ≠ 0) : Ca Tryz.prog 41 [.agg (scC s tv rv).toArray] w fun x w' => x = .tuple #[.slice none 0 0, .int .i64 (eY s)] ∧ Chg [] w w' := by
 refine cN (Sat.nil w M0) Tryz.func41 Z (by simp [Tryz.ntmps41]) ?_;(refine aC (aB ?_));refine bR Z Z (fun b1 => ?_);rw [bL];(refine aA1 zq (aA1 zq (aD (aC (aB ?_)))); refine aP U Z Z Z ?_);refine aI (val := .tuple #[.pointer none, .int .i64 (eY s)]) U Z Z Z Z (fun w hs => ?_) ?_; exact oB w lo hi s tv rv (h.keep hs.chg0) hl1 hl2 h0;(refine aA1 zq (aB5 xq (aB5 xq (aA1 zq (aA1 zq (aD (aC (aC (aB (aA1 zq (aB0 xq J (aD ?_))))))))))); refine aH Z (aC (aB ?_)); (iterate 3 refine aA1 zq ?_); refine aD (aS ?_));refine aA5 wq O fun w hs => ?_;exact ⟨Z, hs.chg0⟩
theorem passed_ok (w : World) (lo hi : Nat) (s : Sc) (tv rv : Value) (h : ScR w lo hi tv rv s) (hs0 : SOk s) : Ca Tryz.prog 41 [.agg (scC s tv rv).toArray] w fun x w' => ∃ u : Value, x = .tuple #[u, .int .i64 0] ∧ Sat w M0 [.ow u 3 1 (pasL s s.rifles.length).length (aX (nI (pasL s s.rifles.length)))] w' := by
 have hrn := hs0.ok.rn8;have hfit := (eK hs0.le).bd;obtain ⟨ra, rc, rfl, hra⟩ := RdI.outI h.r;refine cN (Sat.nil w M0) Tryz.func41 Z (by simp [Tryz.ntmps41]) ?_;(refine aC (aB ?_));refine bR Z Z (fun b1 => ?_);rw [bL];(refine aA1 zq (aA1 zq (aD (aC (aB ?_)))); refine aP U Z Z Z ?_);refine bC (β := Nat) U [] _ M0 Z Z Z Z (Sp.refl _) qC (fun w' hs => lW w' lo hi s tv _ (h.keep hs.chg0) hs0.ok hs0.le) ?_;rintro bd _ rfl;dsimp only [List.cons_append, List.nil_append];(refine aA1 zq (aB5 xq (aB5 xq (aA1 zq (aA1 zq (aD (aC (aC (aB (aA1 zq (aA6 xq J (aD ?_))))))))))); refine aG Z (aK (aC (aB (aA1 zq (aD (aC (aC (aB ?_)))))))); (iterate 4 refine aA1 zq ?_); refine aJ U Z Z Z ?_; refine aA1 zq (aA1 zq (aD (aM ?_))));refine dG (H' := [.ow (.slice none 0 0) 3 1 0 (aX (nI (pasL s 0))), .pt bd (dskC s tv (.slice ra s.rifles.length rc) (bP s)) 184]) (fun w' hs => Sat.ownil (hs.sp O) 3 1) ?_;refine bM (σ := Nat × Value) (fun z => z.1 ≤ s.rifles.length) (fun z => s.rifles.length - z.1) (fun z => [(4, aC0 bd), (6, z.2), (21, .int .i64 s.rifles.length), (22, .int .i64 z.1)]) (fun z => [.ow z.2 3 1 (pasL s z.1).length (aX (nI (pasL s z.1))), .pt bd (dskC s tv (.slice ra s.rifles.length rc) (bP s)) 184]) (0, .slice none 0 0) (Nat.zero_le _) ⟨Z, Z, Z, Z, trivial⟩ O ?_;rintro ⟨i, u⟩ hi2 K hK;dsimp only at hi2 hK ⊢;(refine aC (aB (aA1 zq (aD (aC ?_)))));refine dN Z (fun hc => ?_) (fun hc => ?_)
 ·have hi3 : i < s.rifles.length := by omega
  clear hc;have hsu := pasL_succ s i;have hpl := pasL_len s i;(refine aK (aC (aM (aC (aB (aA1 zq (aA1 zq (aD (aC ?_)))))))));refine bZ _ [] (Sp.refl _) qB qB ?_
  ((iterate 5 refine aA2 xq ?_); refine aV U Z Z Z ?_)
  refine bN (val := .agg #[lightF]) U Z Z Z Z (fun w hs => ?_) ?_; exact light_ca w;refine bN (val := .bool (decide (s.least ≤ (gL s i (dS s)).1))) U Z Z Z Z (fun w hs => ?_) ?_; exact by have := canL_ca w lo hi bd s tv _ (bP s) (bP s) (h.keep hs.chg0) (hs.blk O) hs0.ok hfit i hi3; exact this
  cases hp : decide (s.least ≤ (gL s i (dS s)).1) with
  | true =>
   rw [if_pos (of_decide_eq_true hp)] at hsu;(refine aN (aH Z (aB (aA1 zq (aA1 zq ?_)))));refine cT 3 [.int .i64 i] Z qB Z (fun bn => ?_);refine cW (q := 1) (news := [.int .i64 i]) slI Z Z Z (fun v' => by repeat constructor) (fun w' hs => ⟨_, _, Blk.rdN (hs.blk (b := bn) O) Z⟩) (by simp [dJ]) J J (fun u' => ?_);(refine aA1 zq (aD (bK (aB (aA4 uq J J (aA1 zq (aD ?_)))))));exact hK (i + 1, u') _ _ (by simp only; omega) (by simp only; omega) ⟨Z, Z, Z, Z, trivial⟩ (by dsimp only; rw [hsu, nI_snoc, List.length_append, List.length_singleton]; repeat constructor)
  | false =>
   rw [if_neg (of_decide_eq_false hp)] at hsu;(refine aN (aG Z (aK (bK (aB (aA4 uq J J (aA1 zq (aD ?_))))))));exact hK (i + 1, u) _ _ (by simp only; omega) (by simp only; omega) ⟨Z, Z, Z, Z, trivial⟩ (by dsimp only; rw [hsu]; repeat constructor)
 ·obtain rfl : i = s.rifles.length := by omega
  (refine bH _ Z (aC (aB ?_)); (iterate 3 refine aA1 zq ?_); refine aD (aS ?_))
  refine aA5 wq O fun w hs => ?_;exact ⟨u, Z, hs.sp O⟩
theorem lit8 {l : List Bool} (h : l.length = 8) : ∃ a b c d e f g h : Bool, l = [a, b, c, d, e, f, g, h] := by
 match l, h with
 | [a, b, c, d, e, f, g, h], _ => exact ⟨a, b, c, d, e, f, g, h, rfl⟩
theorem bool_b : boolB Tryz.prog 4 = true := by kernel_rfl
theorem b8_arr : arrB Tryz.prog 180 8 4 1 = true := by kernel_rfl
theorem kn_p (x y : Value) {p f : List Bool} {i : Nat} (hp : p.length = 8) (hi : i < 8) : (x :: y :: (cK p ++ cK f))[0 + 2 + (i : Int).toNat * 1]? = some (.bool (p.getD i false)) := by
 rw [show 0 + 2 + (i : Int).toNat * 1 = i + 1 + 1 from by omega, List.getElem?_cons_succ, List.getElem?_cons_succ, List.getElem?_append_left (by simp [cK]; omega)];simp [cK, List.getD_eq_getElem?_getD, show i < p.length by omega]
theorem kn_f (x y : Value) {p f : List Bool} {i : Nat} (hp : p.length = 8) (hf : f.length = 8) (hi : i < 8) : (x :: y :: (cK p ++ cK f))[0 + 10 + (i : Int).toNat * 1]? = some (.bool (f.getD i false)) := by
 rw [show 0 + 10 + (i : Int).toNat * 1 = (8 + i) + 1 + 1 from by omega, List.getElem?_cons_succ, List.getElem?_cons_succ, List.getElem?_append_right (by simp [cK]; omega)];simp [cK, List.getD_eq_getElem?_getD, hp, show i < f.length by omega]
theorem kn_sp (x y : Value) {p f : List Bool} {i : Nat} (hp : p.length = 8) (hi : i < 8) (b : Bool) : (x :: y :: (cK p ++ cK f)).set (0 + 2 + (i : Int).toNat * 1) (.bool b) = x :: y :: (cK (p.set i b) ++ cK f) := by
 rw [show 0 + 2 + (i : Int).toNat * 1 = i + 1 + 1 from by omega, List.set_cons_succ, List.set_cons_succ, List.set_append_left _ _ (by simp [cK]; omega)];simp [cK]
theorem kn_sf (x y : Value) {p f : List Bool} {i : Nat} (hp : p.length = 8) (hi : i < 8) (b : Bool) : (x :: y :: (cK p ++ cK f)).set (0 + 10 + (i : Int).toNat * 1) (.bool b) = x :: y :: (cK p ++ cK (f.set i b)) := by
 rw [show 0 + 10 + (i : Int).toNat * 1 = (8 + i) + 1 + 1 from by omega, List.set_cons_succ, List.set_cons_succ, List.set_append_right _ _ (by simp [cK]; omega)];simp [cK, hp]
theorem jE (w : World) (lo hi bd : Nat) (s : Sc) (tv rv : Value) (k0 k : Kn) (h : ScR w lo hi tv rv s) (hb : Blk w bd (dskC s tv rv k0) 184) (hs0 : s.Ok) (hk : k.Bd) (i : Nat) (hi2 : i < s.rifles.length) (b : Bool) : Ca Tryz.prog 131 [aC0 bd, knV k, .int .i64 i, .bool b] w fun x w' => x = .tuple #[knV (cQ s k i b).1, .bool (cQ s k i b).2] ∧ Chg [] w w' := by
 obtain ⟨lo', hi', p, f⟩ := k;have hlo := hk.lo;have hhi := hk.hi;dsimp only at hlo hhi;obtain ⟨p0, p1, p2, p3, p4, p5, p6, p7, rfl⟩ := lit8 hk.p8;obtain ⟨f0, f1, f2, f3, f4, f5, f6, f7, rfl⟩ := lit8 hk.f8;have he := hs0.err;have hle := hs0.least;have hrn := hs0.rn8;have hri := hs0.rif hi2;have hi8 : i < 8 := by omega
 obtain ⟨ra, rc, rfl, hra⟩ := RdI.outI h.r;obtain ⟨rb, ro, rfl⟩ := hra J;have er : s.rifles[i] = s.rif i := by unfold Sc.rif; rw [getI hi2]
 have hcell : ∀ w', Chg [] w w' → w'.cell? ⟨rb, ro + (i : Int).toNat * 1, none⟩ = some (.int .i64 (s.rif i)) := fun w' hs => by have := RdI.at (RdE.keep h.r hs) i hi2; rw [er] at this; exact this
 obtain ⟨pb, hpb⟩ : ∃ pb, pb = [p0, p1, p2, p3, p4, p5, p6, p7].getD i false := ⟨_, rfl⟩;obtain ⟨fb, hfb⟩ : ∃ fb, fb = [f0, f1, f2, f3, f4, f5, f6, f7].getD i false := ⟨_, rfl⟩;refine cN (Sat.nil w M0) Tryz.func131 Z (by simp [Tryz.ntmps131]) ?_;(refine aC (aB ?_));refine bR Z Z (fun b5 => ?_);rw [bL];dsimp only [knC, cK, List.map_cons, List.map_nil, List.cons_append, List.nil_append];refine bF lA Z (fun b8 => ?_);(refine aA1 zq (aD (aC (aC (aB (aA1 zq (aA1 zq ?_)))))));refine pF (len := 8) b8_arr Z Z Z J J ?_;refine bI (v := .bool pb) U Z Z Z (fun w hs => by rw [(hs.blk (b := b5) O).cell]; exact (kn_p _ _ (p := [p0, p1, p2, p3, p4, p5, p6, p7]) (f := [f0, f1, f2, f3, f4, f5, f6, f7]) Z hi8).trans (by rw [← hpb])) ?_;(refine aA1 zq ?_);cases pb with
 | true =>
  have e0 : cQ s ⟨lo', hi', [p0, p1, p2, p3, p4, p5, p6, p7], [f0, f1, f2, f3, f4, f5, f6, f7]⟩ i b = (⟨lo', hi', [p0, p1, p2, p3, p4, p5, p6, p7], [f0, f1, f2, f3, f4, f5, f6, f7]⟩, true == b) := by
   unfold cQ;rw [if_pos (by show (![p0, p1, p2, p3, p4, p5, p6, p7].getD i false && ![f0, f1, f2, f3, f4, f5, f6, f7].getD i false) = false; rw [← hpb]; rfl)]
   show ((⟨lo', hi', [p0, p1, p2, p3, p4, p5, p6, p7], [f0, f1, f2, f3, f4, f5, f6, f7]⟩, [p0, p1, p2, p3, p4, p5, p6, p7].getD i false == b) : Kn × Bool) = _
   rw [← hpb]
  rw [e0]
  ((iterate 4 refine aA8 yq ?_); refine aA1 zq (aD (aH Z (aC ?_))))
  refine bZ _ [.pt b8 _ _] (Sp.cons O (Sp.refl _)) qB qB ?_;(refine aV U Z Z Z ?_; refine aA2 xq (aA2 xq ?_));refine pK (len := 8) b8_arr Z Z Z J J ?_;refine aR (v := .bool true) U Z Z Z (fun w hs => by rw [(hs.blk (b := b5) O).cell]; exact (kn_p _ _ (p := [p0, p1, p2, p3, p4, p5, p6, p7]) (f := [f0, f1, f2, f3, f4, f5, f6, f7]) Z hi8).trans (by rw [← hpb])) ?_;(refine aA2 xq ?_);refine qf_eqb bool_b Z Z Z ?_;(refine aB7 Wa O Z ?_; refine aA2 xq (aN (aS ?_)));refine aA5 wq O fun w hs => ?_;exact ⟨Z, hs.chg0⟩
 | false =>
  (refine aE Z (aA1 zq (aE Z (aA1 zq (aE Z ?_)))))
  refine pF (len := 8) b8_arr Z Z Z J J ?_;(refine aE Z ?_);refine bI (v := .bool fb) U Z Z Z (fun w hs => by rw [(hs.blk (b := b5) O).cell]; exact (kn_f _ _ (p := [p0, p1, p2, p3, p4, p5, p6, p7]) (f := [f0, f1, f2, f3, f4, f5, f6, f7]) Z Z hi8).trans (by rw [← hfb])) ?_;(refine aA1 zq (aD ?_));cases fb with
  | true =>
   have e0 : cQ s ⟨lo', hi', [p0, p1, p2, p3, p4, p5, p6, p7], [f0, f1, f2, f3, f4, f5, f6, f7]⟩ i b = (⟨lo', hi', [p0, p1, p2, p3, p4, p5, p6, p7], [f0, f1, f2, f3, f4, f5, f6, f7]⟩, false == b) := by
    unfold cQ;rw [if_pos (by show (![p0, p1, p2, p3, p4, p5, p6, p7].getD i false && ![f0, f1, f2, f3, f4, f5, f6, f7].getD i false) = false; rw [← hfb]; simp)]
    show ((⟨lo', hi', [p0, p1, p2, p3, p4, p5, p6, p7], [f0, f1, f2, f3, f4, f5, f6, f7]⟩, [p0, p1, p2, p3, p4, p5, p6, p7].getD i false == b) : Kn × Bool) = _
    rw [← hpb]
   rw [e0];(refine aH Z (aC ?_));refine bZ _ [.pt b8 _ _] (Sp.cons O (Sp.refl _)) qB qB ?_;(refine aV U Z Z Z ?_; refine aA2 xq (aA2 xq ?_));refine pK (len := 8) b8_arr Z Z Z J J ?_;refine aR (v := .bool false) U Z Z Z (fun w hs => by rw [(hs.blk (b := b5) O).cell]; exact (kn_p _ _ (p := [p0, p1, p2, p3, p4, p5, p6, p7]) (f := [f0, f1, f2, f3, f4, f5, f6, f7]) Z hi8).trans (by rw [← hpb])) ?_;(refine aA2 xq ?_);refine qf_eqb bool_b Z Z Z ?_;(refine aB7 Wa O Z ?_; refine aA2 xq (aN (aS ?_)));refine aA5 wq O fun w hs => ?_
   exact ⟨Z, hs.chg0⟩
  | false =>
   (refine aG Z (aK (aC ?_)))
   refine bZ _ [] (Sp.refl _) qB qB ?_
   ((iterate 4 refine aA2 xq ?_); refine dV U Z Z Z (by assumption) (by rfl) ?_; refine aA2 xq ?_)
   refine aA3 Wa J J ?_;refine aR (v := .int .i64 (s.rif i)) U Z Z Z (fun w hs => hcell _ hs.chg0) ?_
   ((iterate 4 refine aA2 xq ?_); refine dV U Z Z Z (by assumption) (by rfl) ?_; refine aA9 uq J J (aA2 xq (aN (aC (aC (aB (aA1 zq (aD ?_))))))))
   cases b with
   | true =>
    obtain ⟨q0, q1, q2, q3, q4, q5, q6, q7, hq⟩ := lit8 (l := [p0, p1, p2, p3, p4, p5, p6, p7].set i true) (by rw [List.length_set]; rfl)
    have e1 : cQ s ⟨lo', hi', [p0, p1, p2, p3, p4, p5, p6, p7], [f0, f1, f2, f3, f4, f5, f6, f7]⟩ i true = (⟨max lo' (-1000), min hi' (s.rif i - s.least + s.err), [q0, q1, q2, q3, q4, q5, q6, q7], [f0, f1, f2, f3, f4, f5, f6, f7]⟩, decide (max lo' (-1000) ≤ min hi' (s.rif i - s.least + s.err))) := by
     unfold cQ;rw [if_neg (by show ¬ (![p0, p1, p2, p3, p4, p5, p6, p7].getD i false && ![f0, f1, f2, f3, f4, f5, f6, f7].getD i false) = false; rw [← hpb, ← hfb]; decide), if_pos rfl, ← hq]
     show ((cI s ⟨lo', hi', [p0, p1, p2, p3, p4, p5, p6, p7], [f0, f1, f2, f3, f4, f5, f6, f7]⟩ i, decide _ && true) : Kn × Bool) = _
     rw [Bool.and_true]
     rfl
    rw [e1];(refine aH Z (aC (aB (aA1 zq (aA1 zq ?_)))));refine pF (len := 8) b8_arr Z Z Z J J ?_;refine ql_stN [.int .i64 lo', .int .i64 hi', .bool q0, .bool q1, .bool q2, .bool q3, .bool q4, .bool q5, .bool q6, .bool q7, .bool f0, .bool f1, .bool f2, .bool f3, .bool f4, .bool f5, .bool f6, .bool f7] U Z Z Z Z O ((kn_sp _ _ (p := [p0, p1, p2, p3, p4, p5, p6, p7]) (f := [f0, f1, f2, f3, f4, f5, f6, f7]) Z hi8 true).trans (by rw [hq]; rfl)) (by rw [Nat.blt_eq]; simp; omega) ?_;(refine aD ?_);refine q_drawS 12 _ [.pt b5 _ _] (Sp.cons O (Sp.refl _)) qB qB qB fun K1 hK1 => ?_
    (refine aA2 xq ?_; refine aV U Z Z Z ?_; (iterate 5 refine aA2 xq ?_); refine dV U Z Z Z (by assumption) (by rfl) ?_; refine aA9 uq J J ?_)
    refine kH #[.int .i64 (-1000), .int .i64 (s.rif i - s.least + s.err)] Z qB Z ?_;refine bN (val := iN (max lo' (-1000), min hi' (s.rif i - s.least + s.err))) U Z Z Z Z (fun w hs => ?_) ?_; exact iO (lo', hi') (-1000, s.rif i - s.least + s.err) w;(refine aA2 xq (aN ?_));refine hK1 _ _ [.pt b5 _ _] (Sp.cons O (O)) ?_;refine qf_stA [.int .i64 (max lo' (-1000)), .int .i64 (min hi' (s.rif i - s.least + s.err)), .bool q0, .bool q1, .bool q2, .bool q3, .bool q4, .bool q5, .bool q6, .bool q7, .bool f0, .bool f1, .bool f2, .bool f3, .bool f4, .bool f5, .bool f6, .bool f7] U Z Z Z Z Z O Z Z ?_;(refine aN (aC ?_));refine bZ _ [.pt b8 _ _] (Sp.cons O (Sp.refl _)) qB qB ?_;(refine aV U Z Z Z ?_; refine aA2 xq (aA2 xq ?_); refine bB U Z Z Z ?_; refine aA2 xq (aA2 xq ?_); refine bB U Z Z Z ?_; refine aA2 xq ?_; refine aB7 Wa O Z ?_; refine aA2 xq (aN (aS ?_)));refine aA5 wq O fun w hs => ?_;exact ⟨Z, hs.chg0⟩
   | false =>
    obtain ⟨q0, q1, q2, q3, q4, q5, q6, q7, hq⟩ := lit8 (l := [f0, f1, f2, f3, f4, f5, f6, f7].set i true) (by rw [List.length_set]; rfl)
    have e1 : cQ s ⟨lo', hi', [p0, p1, p2, p3, p4, p5, p6, p7], [f0, f1, f2, f3, f4, f5, f6, f7]⟩ i false = (⟨max lo' (s.rif i - s.least + 1 - s.err), min hi' 1000, [p0, p1, p2, p3, p4, p5, p6, p7], [q0, q1, q2, q3, q4, q5, q6, q7]⟩, decide (max lo' (s.rif i - s.least + 1 - s.err) ≤ min hi' 1000)) := by
     unfold cQ;rw [if_neg (by show ¬ (![p0, p1, p2, p3, p4, p5, p6, p7].getD i false && ![f0, f1, f2, f3, f4, f5, f6, f7].getD i false) = false; rw [← hpb, ← hfb]; decide), if_neg (by simp), ← hq]
     show ((cD s ⟨lo', hi', [p0, p1, p2, p3, p4, p5, p6, p7], [f0, f1, f2, f3, f4, f5, f6, f7]⟩ i, decide _ && true) : Kn × Bool) = _
     rw [Bool.and_true]
     rfl
    rw [e1];(refine aG Z (aC (aB (aA1 zq (aA1 zq ?_)))));refine pF (len := 8) b8_arr Z Z Z J J ?_;refine ql_stN [.int .i64 lo', .int .i64 hi', .bool p0, .bool p1, .bool p2, .bool p3, .bool p4, .bool p5, .bool p6, .bool p7, .bool q0, .bool q1, .bool q2, .bool q3, .bool q4, .bool q5, .bool q6, .bool q7] U Z Z Z Z O ((kn_sf _ _ (p := [p0, p1, p2, p3, p4, p5, p6, p7]) (f := [f0, f1, f2, f3, f4, f5, f6, f7]) Z hi8 true).trans (by rw [hq]; rfl)) (by rw [Nat.blt_eq]; simp; omega) ?_;(refine aD ?_);refine q_drawS 13 _ [.pt b5 _ _] (Sp.cons O (Sp.refl _)) qB qB qB fun K1 hK1 => ?_
    (refine aA2 xq ?_; refine aV U Z Z Z ?_; refine aA2 xq (aA9 uq J J ?_); (iterate 4 refine aA2 xq ?_); refine dV U Z Z Z (by assumption) (by rfl) ?_; refine aA9 uq J J ?_)
    refine kH #[.int .i64 (s.rif i - s.least + 1 - s.err), .int .i64 (1000)] Z qB Z ?_;refine bN (val := iN (max lo' (s.rif i - s.least + 1 - s.err), min hi' 1000)) U Z Z Z Z (fun w hs => ?_) ?_; exact iO (lo', hi') (s.rif i - s.least + 1 - s.err, 1000) w;(refine aA2 xq (aN ?_));refine hK1 _ _ [.pt b5 _ _] (Sp.cons O (O)) ?_;refine qf_stA [.int .i64 (max lo' (s.rif i - s.least + 1 - s.err)), .int .i64 (min hi' 1000), .bool p0, .bool p1, .bool p2, .bool p3, .bool p4, .bool p5, .bool p6, .bool p7, .bool q0, .bool q1, .bool q2, .bool q3, .bool q4, .bool q5, .bool q6, .bool q7] U Z Z Z Z Z O Z Z ?_;(refine aN (aC ?_));refine bZ _ [.pt b8 _ _] (Sp.cons O (Sp.refl _)) qB qB ?_;(refine aV U Z Z Z ?_; refine aA2 xq (aA2 xq ?_); refine bB U Z Z Z ?_; refine aA2 xq (aA2 xq ?_); refine bB U Z Z Z ?_; refine aA2 xq ?_; refine aB7 Wa O Z ?_; refine aA2 xq (aN (aS ?_)));refine aA5 wq O fun w hs => ?_;exact ⟨Z, hs.chg0⟩
theorem dL {k : Kn} (hk : k.Bd) : (knC k).length = 18 := by
 have h1 := hk.p8;have h2 := hk.f8;simp [knC, cK, h1, h2]
theorem mS (k : Kn) : (knC k).all dJ = true := by
 simp [knC, cK, dJ]
def opnL (s : Sc) (k : Kn) (n : Nat) : List Nat := (List.range n).filter (eG s k)
theorem opnL_all (s : Sc) (k : Kn) : opnL s k s.rifles.length = dO s k := rfl
theorem opnL_succ (s : Sc) (k : Kn) (n : Nat) : opnL s k (n + 1) = if eG s k n = true then opnL s k n ++ [n] else opnL s k n := by
 unfold opnL;rw [List.range_succ, List.filter_append];cases ho : eG s k n <;> simp [ho]
theorem opnL_split (s : Sc) (k : Kn) {n m : Nat} (h : n ≤ m) : ∃ suf, opnL s k m = opnL s k n ++ suf := by
 obtain ⟨d, rfl⟩ : ∃ d, m = n + d := ⟨m - n, by omega⟩
 induction d with
 | zero => exact ⟨[], by simp⟩
 | succ d ih =>
  obtain ⟨suf, hs⟩ := ih J;have h1 := opnL_succ s k (n + d);rw [show n + (d + 1) = n + d + 1 from rfl];cases ho : eG s k (n + d)
  ·rw [ho, if_neg (by simp)] at h1;exact ⟨suf, by rw [h1, hs]⟩
  ·rw [ho, if_pos rfl] at h1;exact ⟨suf ++ [n + d], by rw [h1, hs, List.append_assoc]⟩
def natE (i : Nat) : List Value := [.int .i64 i]
theorem open_it (w : World) (D : Nat → Prop) (lo hi b1 b2 bd : Nat) (s : Sc) (tv rv : Value) (k0 k : Kn) (h : ∀ w', ChgP D w w' → ScR w' lo hi tv rv s) (hs0 : s.Ok) (hk : k.Bd) {t1 t2 : TypeId} (hb1 : Blk w b1 [aC0 bd] t1) (hb2 : Blk w b2 (knC k) t2) (hbd : Blk w bd (dskC s tv rv k0) 184) (hD : ¬ D b1 ∧ ¬ D b2 ∧ ¬ D bd) :
  ItOk Tryz.prog 167 [aC0 b1, aC0 b2] natE (dO s k) w D := by
 obtain ⟨klo, khi, p, f⟩ := k;obtain ⟨p0, p1, p2, p3, p4, p5, p6, p7, rfl⟩ := lit8 hk.p8;obtain ⟨f0, f1, f2, f3, f4, f5, f6, f7, rfl⟩ := lit8 hk.f8;obtain ⟨K0, hK0⟩ : ∃ K, K = (⟨klo, khi, [p0, p1, p2, p3, p4, p5, p6, p7], [f0, f1, f2, f3, f4, f5, f6, f7]⟩ : Kn) := ⟨_, rfl⟩;have hkc : knC K0 = [.int .i64 klo, .int .i64 khi, .bool p0, .bool p1, .bool p2, .bool p3, .bool p4, .bool p5, .bool p6, .bool p7, .bool f0, .bool f1, .bool f2, .bool f3, .bool f4, .bool f5, .bool f6, .bool f7] := by rw [hK0]; rfl
 rw [← hK0] at hk hb2 ⊢;have hrn := hs0.rn8;intro fv σ L I E s0 hI0 hLD hsat hcb;obtain ⟨ra, rc, rfl, hra⟩ := RdI.outI (h w (ChgP.refl _ _)).r;have hm : ∀ w', ChgP (DL (L s0)) w w' → ChgP D w w' := fun w' hc => ⟨hc.os, hc.tape, hc.output, hc.size, fun k hk hk2 => hc.block k hk (fun h => hk2 (hLD k h))⟩
 have hP1 : ∀ w', ChgP (DL (L s0)) w w' → Blk w' b1 _ t1 := fun w' hc => (hc.block b1 hb1.lt (fun h => hD.1 (hLD b1 h))).trans hb1
 have hP2 : ∀ w', ChgP (DL (L s0)) w w' → Blk w' b2 _ t2 := fun w' hc => (hc.block b2 hb2.lt (fun h => hD.2.1 (hLD b2 h))).trans hb2
 have hP3 : ∀ w', ChgP (DL (L s0)) w w' → Blk w' bd _ _ := fun w' hc => (hc.block bd hbd.lt (fun h => hD.2.2 (hLD bd h))).trans hbd
 have hP2b := hP2;rw [hkc] at hP2
 have hcp : ∀ i : Nat, i < 8 → ∀ w', ChgP (DL (L s0)) w w' → w'.cell? ⟨b2, 0 + 2 + ((i : Nat) : Int).toNat * 1, none⟩ = some (.bool (K0.p.getD i false)) := fun i hi w' hc => by
  have h8 : i = 0 ∨ i = 1 ∨ i = 2 ∨ i = 3 ∨ i = 4 ∨ i = 5 ∨ i = 6 ∨ i = 7 := by omega
  rw [(hP2 w' hc).cell, hK0];rcases h8 with rfl | rfl | rfl | rfl | rfl | rfl | rfl | rfl <;> rfl
 have hcf : ∀ i : Nat, i < 8 → ∀ w', ChgP (DL (L s0)) w w' → w'.cell? ⟨b2, 0 + 10 + ((i : Nat) : Int).toNat * 1, none⟩ = some (.bool (K0.f.getD i false)) := fun i hi w' hc => by
  have h8 : i = 0 ∨ i = 1 ∨ i = 2 ∨ i = 3 ∨ i = 4 ∨ i = 5 ∨ i = 6 ∨ i = 7 := by omega
  rw [(hP2 w' hc).cell, hK0];rcases h8 with rfl | rfl | rfl | rfl | rfl | rfl | rfl | rfl <;> rfl
 clear hP2 hK0 hkc;refine cN (H := [un (L s0)]) (Sat.un1.2 hsat) Tryz.func167 Z (by simp [Tryz.ntmps167]) ?_;(refine aC (aB ?_); refine gC U Z Z Z (by assumption) (by rfl) ?_; (iterate 3 refine aA1 zq ?_); refine gC U Z Z Z (by assumption) (by rfl) ?_; refine aA1 zq (aA1 zq (aD (aM ?_))))
 refine bM (σ := Nat × σ) (fun z => z.1 ≤ s.rifles.length ∧ I (opnL s K0 z.1) z.2) (fun z => s.rifles.length - z.1) (fun z => [(0, fv), (1, aC0 b1), (2, aC0 b2), (10, .int .i64 s.rifles.length), (11, .int .i64 z.1)])
  (fun z => [un (L z.2)]) (0, s0) ⟨by omega, hI0⟩ ⟨rfl, rfl, rfl, rfl, rfl, trivial⟩ (Sp.refl _) ?_
 rintro ⟨n, z⟩ ⟨hn, hI⟩ K hK;dsimp only at hn hI ⊢;(refine aC (aB (aA1 zq (aD (aC ?_)))));refine dN Z (fun hc => ?_) (fun hc => ?_)
 ·have hn2 : n < s.rifles.length := by first | omega | (simp at hc; omega)
  clear hc;have hsu := opnL_succ s K0 n;have hop : eG s K0 n = (K0.free n && (decide ((gL s n K0.off).1 < s.least) && decide (s.least ≤ (gL s n K0.off).2))) := rfl;have hfr : K0.free n = (!K0.p.getD n false && !K0.f.getD n false) := rfl;(refine aK (aC (aM (aC (aB (aA1 zq (aA1 zq (aD (aC ?_)))))))));refine bZ _ [un (L z)] (Sp.refl _) qB qB ?_;(refine aA2 xq (aA2 xq ?_));refine pK (len := 8) b8_arr Z Z Z J J ?_;refine aR (v := .bool (K0.p.getD n false)) U Z Z Z (fun w hs => hcp n J _ hs.chg) ?_;cases hp : K0.p.getD n false with
  | true =>
   (refine aA2 xq (aA2 xq ?_); (iterate 5 refine dH Z Z Z ?_); refine aA2 xq (aA2 xq ?_); (iterate 6 refine dH Z Z Z ?_); refine aA2 xq (aA2 xq ?_); (iterate 5 refine dH Z Z Z ?_); refine aA2 xq (aA2 xq ?_); (iterate 4 refine dH Z Z Z ?_); refine aA2 xq (aN (aG Z (aK (bK (aB (aA4 uq J J (aA1 zq (aD ?_)))))))))
   exact hK (n + 1, z) _ _ ⟨by simp only; omega, by rw [hsu, if_neg (by rw [hop, hfr, hp]; simp)]; exact hI⟩ (by simp only; omega) ⟨Z, Z, Z, Z, Z, trivial⟩ O
  | false =>
   (refine aA2 xq (aA2 xq (aL Z (aA2 xq (aL Z (aA2 xq (aL Z ?_)))))))
   refine pK (len := 8) b8_arr Z Z Z J J ?_;(refine aL Z ?_);refine aR (v := .bool (K0.f.getD n false)) U Z Z Z (fun w hs => hcf n J _ hs.chg) ?_;cases hf : K0.f.getD n false with
   | true =>
    (refine aL Z ?_; (iterate 3 refine aA2 xq ?_); (iterate 6 refine dH Z Z Z ?_); refine aA2 xq (aA2 xq ?_); (iterate 5 refine dH Z Z Z ?_); refine aA2 xq (aA2 xq ?_); (iterate 4 refine dH Z Z Z ?_); refine aA2 xq (aN (aG Z (aK (bK (aB (aA4 uq J J (aA1 zq (aD ?_)))))))))
    exact hK (n + 1, z) _ _ ⟨by simp only; omega, by rw [hsu, if_neg (by rw [hop, hfr, hp, hf]; simp)]; exact hI⟩ (by simp only; omega) ⟨Z, Z, Z, Z, Z, trivial⟩ O
   | false =>
    (refine aL Z ?_; (iterate 3 refine aA2 xq ?_); refine aL Z ?_; refine lD U Z Z Z (by assumption) (by rfl) ?_; refine aL Z (aA2 xq (aL Z ?_)))
    refine cV (cs := knC K0) U Z Z Z (dL hk) (fun w hs q hq => by rw [(hP2b _ hs.chg).cell, Nat.zero_add]) ?_;(refine aL Z ?_);refine bN (val := .agg #[lightF]) U Z Z Z Z (fun w hs => ?_) ?_; exact light_ca w;(refine aL Z ?_);refine bN (val := .bool (decide (s.least ≤ (gL s n K0.off).1))) U Z Z Z Z (fun w hs => ?_) ?_; exact canL_ca w lo hi bd s tv _ k0 K0 (h _ (hm _ hs.chg)) (hP3 _ hs.chg) hs0 hk n hn2;cases hl : decide (s.least ≤ (gL s n K0.off).1) with
    | true =>
     have hl2 := of_decide_eq_true hl;(refine aL Z ?_; (iterate 3 refine aA2 xq ?_); (iterate 5 refine dH Z Z Z ?_); refine aA2 xq (aA2 xq ?_); (iterate 4 refine dH Z Z Z ?_); refine aA2 xq (aN (aG Z (aK (bK (aB (aA4 uq J J (aA1 zq (aD ?_)))))))));exact hK (n + 1, z) _ _ ⟨by simp only; omega, by rw [hsu, if_neg (by rw [hop, hfr, hp, hf, decide_eq_false J]; simp)]; exact hI⟩ (by simp only; omega) ⟨Z, Z, Z, Z, Z, trivial⟩ O
    | false =>
     have hl2 := of_decide_eq_false hl;(refine aL Z ?_; (iterate 3 refine aA2 xq ?_); refine aL Z ?_; refine lD U Z Z Z (by assumption) (by rfl) ?_; refine aL Z (aA2 xq (aL Z ?_)));refine cV (cs := knC K0) U Z Z Z (dL hk) (fun w hs q hq => by rw [(hP2b _ hs.chg).cell, Nat.zero_add]) ?_;(refine aL Z ?_);refine bN (val := .agg #[heavyF]) U Z Z Z Z (fun w hs => ?_) ?_; exact heavy_ca w;(refine aL Z ?_);refine bN (val := .bool (decide (s.least ≤ (gL s n K0.off).2))) U Z Z Z Z (fun w hs => ?_) ?_; exact canH_ca w lo hi bd s tv _ k0 K0 (h _ (hm _ hs.chg)) (hP3 _ hs.chg) hs0 hk n hn2;cases hh : decide (s.least ≤ (gL s n K0.off).2) with
     | false =>
      (refine aA2 xq (aA2 xq ?_); (iterate 4 refine dH Z Z Z ?_); refine aA2 xq (aN (aG Z (aK (bK (aB (aA4 uq J J (aA1 zq (aD ?_)))))))))
      exact hK (n + 1, z) _ _ ⟨by simp only; omega, by rw [hsu, if_neg (by rw [hop, hfr, hp, hf, hh]; simp)]; exact hI⟩ (by simp only; omega) ⟨Z, Z, Z, Z, Z, trivial⟩ O
     | true =>
      have hon : eG s K0 n = true := by rw [hop, hfr, hp, hf, hh, decide_eq_true J]; rfl
      rw [if_pos hon] at hsu;obtain ⟨suf, hsuf⟩ := opnL_split s K0 (show n + 1 ≤ s.rifles.length from hn2);have hxs : dO s K0 = opnL s K0 n ++ n :: suf := by rw [← opnL_all, hsuf, hsu]; simp
      (refine aA2 xq (aA2 xq (aL Z (aA2 xq (aL Z (aA2 xq (aL Z ?_)))))))
      refine iX (β := σ) [un (L z)] [] (DL (L z)) Z Z Z O (fun b hb => ⟨_, .head _, hb⟩) (yieldF hcb hxs hI) ?_;rintro z' v (⟨rfl, hI'⟩ | ⟨rfl, hE⟩)
      ·(refine aL Z (aA2 xq (aA2 xq (aN (aG Z (aK (bK (aB (aA4 uq J J (aA1 zq (aD ?_)))))))))))
       exact hK (n + 1, z') _ _ ⟨by simp only; omega, by rw [hsu]; exact hI'⟩ (by simp only; omega) ⟨Z, Z, Z, Z, Z, trivial⟩ O
      ·(refine aL Z (aA2 xq (aA2 xq (aN (aH Z (aS ?_))))))
       refine aA5 wq O fun w hs => ?_;exact ⟨z', .inr hE, Sat.un1.1 (hs.sp O)⟩
 ·have hne : n = s.rifles.length := by omega
  subst hne;(refine bH _ Z ?_);refine q_end U Z O fun w hs => ?_
  exact ⟨z, .inl hI, Sat.un1.1 (hs.sp O)⟩
abbrev openF (b1 b2 : Nat) : Value := .func (.func 167) #[] #[aC0 b1, aC0 b2]
theorem open_ca (w : World) (bd : Nat) (k : Kn) : Ca Tryz.prog 125 [aC0 bd, knV k] w fun x w' => ∃ y : Nat × Nat, x = openF y.1 y.2 ∧ Sat w M0 [.pt y.1 [aC0 bd] 177, .pt y.2 (knC k) 182] w' := by
 refine cN (Sat.nil w M0) Tryz.func125 Z (by simp [Tryz.ntmps125]) ?_;(refine aC (aB ?_));refine bR Z Z (fun b2 => ?_);refine bR Z Z (fun b3 => ?_);rw [bL];(refine aA1 zq (aD (aC (aB (aA1 zq (aA1 zq (aD (aS ?_))))))));refine aA5 wq O fun w hs => ?_;exact ⟨(b2, b3), Z, hs.sp O⟩
theorem openL_len (s : Sc) (k : Kn) : (dO s k).length ≤ s.rifles.length := by
 have := List.length_filter_le (eG s k) (List.range s.rifles.length)
 rwa [List.length_range] at this
theorem appendSeq_ca (w : World) (lo hi b1 b2 bd : Nat) (s : Sc) (tv rv : Value) (k0 k : Kn) (h : ScR w lo hi tv rv s) (hs0 : s.Ok) (hk : k.Bd) {t1 t2 : TypeId} (hb1 : Blk w b1 [aC0 bd] t1) (hb2 : Blk w b2 (knC k) t2) (hbd : Blk w bd (dskC s tv rv k0) 184) : Ca Tryz.prog 166 [.slice none 0 0, openF b1 b2] w fun x w' => ∃ u : Value, x = u ∧ Sat w M0 [.ow u 3 1 (dO s k).length (aX (nI (dO s k)))] w' := by
 have hol := openL_len s k;have hrn := hs0.rn8;refine q_ofM (Sat.nil w M0) Tryz.func166 Z (by simp [Tryz.ntmps166]) ?_;(refine aC (aB ?_));refine bR Z Z (fun b3 => ?_);(refine aA1 zq (aD (aC (aC (aB (aA1 zq (aD (aM ?_))))))));refine dG (H' := [.ow (.slice none 0 0) 3 1 0 (aX (nI [])), .pt b3 [.slice none 0 0] 29]) (fun w' hs => Sat.ownil hs 3 1) ?_
 refine q_range natE (List Nat × Value) (dO s k) (fun pre z => z.1 = pre) (fun _ _ => False) (fun z => [.ow z.2 3 1 z.1.length (aX (nI z.1)), .pt b3 [z.2] 29]) [] ([], .slice none 0 0)
  rfl qB rfl (fun _ _ => rfl) rfl O ?_ ?_ ?_ (fun _ _ _ h => h.elim)
 ·intro w1 D hs hD
  have old : ∀ b cs t, Blk w b cs t → Blk w1 b cs t ∧ ¬ D b := fun b cs t hb => ⟨hb.keep hs.chg0, fun h => by
   have := (hD b h).2.resolve_left (fun h => h);have := hb.lt;omega⟩
  exact open_it w1 D lo hi b1 b2 bd s tv rv k0 k (fun w' hc => h.keep (hs.chg0.old hc (fun k hk => (hD k hk).2.resolve_left (fun h => h)))) hs0 hk (old _ _ _ hb1).1 (old _ _ _ hb2).1 (old _ _ _ hbd).1 ⟨(old _ _ _ hb1).2, (old _ _ _ hb2).2, (old _ _ _ hbd).2⟩
 ·intro pre x post z w1 lb rdy bsy K F' hx hI hsat hR hbegin hend hret hexit;obtain ⟨z1, z2⟩ := z;dsimp only at hI;subst hI
  have hlt : z1.length ≤ 8 := by
   have := congrArg List.length hx;simp at this;omega
  dsimp only [natE, List.zip_cons_cons, List.zip_nil_left, List.zip_nil_right, List.foldl_cons, List.foldl_nil];(refine aB (aA1 zq (aD ?_)));refine hbegin _ _ ?_;(refine aM (aB ?_); refine aJ U Z Z Z ?_; refine aA1 zq ?_);refine cT 3 [.int .i64 x] Z qB Z (fun bn => ?_);refine cW (q := 1) (news := [.int .i64 x]) slI Z Z Z (fun v' => by repeat constructor) (fun w' hs => ⟨_, _, Blk.rdN (hs.blk (b := bn) O) Z⟩) (by simp [dJ]) J J (fun u' => ?_);refine cU (fun w' hs => hs.own_one (v := u') O) (fun hone => ?_);refine eM U Z Z Z hone O ?_;(refine aD (bK ?_));exact hend _ _ (z1 ++ [x], u') Z (by dsimp only; rw [nI_snoc, List.length_append, List.length_singleton]; repeat constructor)
 ·rintro D ⟨z1, z2⟩ hz;dsimp only at hz;subst hz;dsimp only [List.cons_append, List.nil_append];(refine bK (aC (aB ?_)); refine aJ U Z Z Z ?_; refine aA1 zq (aD (aS ?_)));refine q_finMD U O Z O fun w hs => ?_
  exact ⟨z2, Z, hs.sp O⟩
theorem collect_ca (w : World) (lo hi b1 b2 bd : Nat) (s : Sc) (tv rv : Value) (k0 k : Kn) (h : ScR w lo hi tv rv s) (hs0 : s.Ok) (hk : k.Bd) {t1 t2 : TypeId} (hb1 : Blk w b1 [aC0 bd] t1) (hb2 : Blk w b2 (knC k) t2) (hbd : Blk w bd (dskC s tv rv k0) 184) : Ca Tryz.prog 124 [openF b1 b2] w fun x w' => ∃ u : Value, x = u ∧ Sat w M0 [.ow u 3 1 (dO s k).length (aX (nI (dO s k)))] w' := by
 refine cN (Sat.nil w M0) Tryz.func124 Z (by simp [Tryz.ntmps124]) ?_;(refine aC (aB (aA1 zq (aD (aC (aB (aA1 zq ?_)))))));refine bC (β := Value) U [] _ M0 Z Z Z Z (Sp.refl _) qC (fun w' hs => appendSeq_ca w' lo hi b1 b2 bd s tv rv k0 k (h.keep hs.chg0) hs0 hk (hb1.keep hs.chg0) (hb2.keep hs.chg0) (hbd.keep hs.chg0)) ?_;rintro _ u hu;subst hu;dsimp only [List.cons_append, List.nil_append];(refine aA1 zq (aD (aS ?_)));refine aA5 wq O fun w hs => ?_;exact ⟨u, Z, hs.sp O⟩
theorem ropen_no (w : World) (lo hi : Nat) (s : Sc) (tv rv : Value) (h : ScR w lo hi tv rv s) (hl1 : s.tests.length ≤ maxLen) (hl2 : s.rifles.length ≤ maxLen) (h0 : eY s ≠ 0) : Ca Tryz.prog 42 [.agg (scC s tv rv).toArray] w fun x w' => x = .tuple #[.slice none 0 0, .int .i64 (eY s)] ∧ Chg [] w w' := by
 refine cN (Sat.nil w M0) Tryz.func42 Z (by simp [Tryz.ntmps42]) ?_;(refine aC (aB ?_));refine bR Z Z (fun b1 => ?_);rw [bL];(refine aA1 zq (aA1 zq (aD (aC (aB ?_)))); refine aP U Z Z Z ?_);refine aI (val := .tuple #[.pointer none, .int .i64 (eY s)]) U Z Z Z Z (fun w hs => ?_) ?_; exact oB w lo hi s tv rv (h.keep hs.chg0) hl1 hl2 h0;(refine aA1 zq (aB5 xq (aB5 xq (aA1 zq (aA1 zq (aD (aC (aC (aB (aA1 zq (aB0 xq J (aD ?_))))))))))); refine aH Z (aC (aB ?_)); (iterate 3 refine aA1 zq ?_); refine aD (aS ?_));refine aA5 wq O fun w hs => ?_;exact ⟨Z, hs.chg0⟩
theorem ropen_ok (w : World) (lo hi : Nat) (s : Sc) (tv rv : Value) (h : ScR w lo hi tv rv s) (hs0 : SOk s) : Ca Tryz.prog 42 [.agg (scC s tv rv).toArray] w fun x w' => ∃ u : Value, x = .tuple #[u, .int .i64 0] ∧ Sat w M0 [.ow u 3 1 (dO s (bP s)).length (aX (nI (dO s (bP s))))] w' := by
 have hfit := (eK hs0.le).bd;refine cN (Sat.nil w M0) Tryz.func42 Z (by simp [Tryz.ntmps42]) ?_;(refine aC (aB ?_));refine bR Z Z (fun b1 => ?_);rw [bL];(refine aA1 zq (aA1 zq (aD (aC (aB ?_)))); refine aP U Z Z Z ?_);refine bC (β := Nat) U [] _ M0 Z Z Z Z (Sp.refl _) qC (fun w' hs => lW w' lo hi s tv _ (h.keep hs.chg0) hs0.ok hs0.le) ?_;rintro bd _ rfl;dsimp only [List.cons_append, List.nil_append];(refine aA1 zq (aB5 xq (aB5 xq (aA1 zq (aA1 zq (aD (aC (aC (aB (aA1 zq (aA6 xq J (aD ?_))))))))))); refine aG Z (aK (aC (aB ?_))); (iterate 4 refine aA1 zq ?_); refine aP U Z Z Z ?_);refine bC (β := Nat × Nat) (ψ := fun y v => v = openF y.1 y.2) (L' := fun y => [.pt y.1 [aC0 bd] 177, .pt y.2 (knC (bP s)) 182]) U [] _ M0 Z Z Z Z (Sp.refl _) qC (fun w' hs => open_ca w' bd (bP s)) ?_;rintro ⟨b2, b3⟩ _ rfl;dsimp only [List.cons_append, List.nil_append];refine bC (β := Value) (ψ := fun u v => v = u) (L' := fun u => [.ow u 3 1 (dO s (bP s)).length (aX (nI (dO s (bP s))))]) U [] _ M0 Z Z Z Z (Sp.refl _) qC (fun w' hs => collect_ca w' lo hi b2 b3 bd s tv rv (bP s) (bP s) (h.keep hs.chg0) hs0.ok hfit (hs.blk (b := b2) O) (hs.blk (b := b3) O) (hs.blk (b := bd) O)) ?_;rintro _ u hu;subst hu;dsimp only [List.cons_append, List.nil_append];(refine aA1 zq (aA1 zq (aD (aS ?_))));refine aA5 wq O fun w hs => ?_
 exact ⟨_, Z, hs.sp O⟩
def stPs : List PK := [.fl [some .i64, some .i64], .ar 8 4, .ar 8 4]
abbrev ksK : Value → Prop := keyF (mixK stPs)
theorem st_key : KeyT Tryz.prog 182 ksK eqV := keyT_mix qB
theorem knV_key {k : Kn} (hk : k.Bd) : ksK (knV k) := by
 obtain ⟨klo, khi, p, f⟩ := k;obtain ⟨p0, p1, p2, p3, p4, p5, p6, p7, rfl⟩ := lit8 hk.p8;obtain ⟨f0, f1, f2, f3, f4, f5, f6, f7, rfl⟩ := lit8 hk.f8;exact ⟨_, Z, Z⟩
theorem knV_inj {k j : Kn} (hk : k.Bd) (hj : j.Bd) (h : eqV (knV k) (knV j) = true) : k = j := by
 have h1 := st_key.eq _ _ (knV_key hk) (knV_key hj) h;obtain ⟨klo, khi, p, f⟩ := k;obtain ⟨p0, p1, p2, p3, p4, p5, p6, p7, rfl⟩ := lit8 hk.p8;obtain ⟨f0, f1, f2, f3, f4, f5, f6, f7, rfl⟩ := lit8 hk.f8;obtain ⟨jlo, jhi, p', f'⟩ := j;obtain ⟨q0, q1, q2, q3, q4, q5, q6, q7, rfl⟩ := lit8 hj.p8;obtain ⟨g0, g1, g2, g3, g4, g5, g6, g7, rfl⟩ := lit8 hj.f8;injection h1 with h1
 have h2 := congrArg Array.toList h1;simp only [knC, cK, List.map_cons, List.map_nil, List.cons_append, List.nil_append, List.cons.injEq, Value.int.injEq, Value.bool.injEq, true_and, and_true] at h2;simp only [Kn.mk.injEq, List.cons.injEq, and_true];obtain ⟨rfl, rfl, rfl, rfl, rfl, rfl, rfl, rfl, rfl, rfl, rfl, rfl, rfl, rfl, rfl, rfl, rfl, rfl⟩ := h2;simp
theorem st_map : Tryz.prog.underlying 243 = some (.map 182 204) := by kernel_rfl
abbrev pkV (z : Int × Int) : Value := .agg #[.int .i64 z.1, .int .i64 z.2]
theorem zero_pk : ZeroOf Tryz.prog 204 (pkV (0, 0)) := ⟨by kernel_rfl⟩
theorem pk_flat : nQ Tryz.prog 204 [some .i64, some .i64] = true := by kernel_rfl
def GoodB (s : Sc) (f : Value → Option Value) : Prop := ∀ k : Kn, k.Fit → ∀ v, f (knV k) = some v → v = pkV (mK s k)
theorem goodB_nil (s : Sc) : GoodB s (fun _ => none) := fun _ _ _ h => by cases h
theorem goodB_upd {s : Sc} {f : Value → Option Value} (h : GoodB s f) {k : Kn} (hk : k.Fit) : GoodB s (fun x => if eqV x (knV k) then some (pkV (mK s k)) else f x) := fun j hj v hv => by
 dsimp only at hv;split at hv
 ·rename_i he
  obtain rfl := knV_inj hj.bd hk.bd he;cases hv
  rfl
 ·exact h j hj v hv
abbrev bstF (b1 b2 b3 : Nat) : Value := .func (.func 169) #[] #[aC0 b1, aC0 b2, aC0 b3]
abbrev mpB (bm : Nat) (f : Value → Option Value) : Ck := mpP ksK eqV bm f
structure PnE (w : World) (bm b1 b2 b3 bd : Nat) (s : Sc) (tv rv : Value) (k0 : Kn) : Prop where
 h1 : ∃ t, Blk w b1 [.map (some bm)] t
 h2 : ∃ t, Blk w b2 [aC0 bd] t
 h3 : ∃ t, Blk w b3 [bstF b1 b2 b3] t
 hd : Blk w bd (dskC s tv rv k0) 184
theorem PnE.mapC {w w' : World} {b : Nat} {K : Value → Prop} {q : Value → Value → Bool} {f : Value → Option Value} {bm b1 b2 b3 bd : Nat} {s : Sc} {tv rv : Value} {k0 : Kn} (h : PnE w bm b1 b2 b3 bd s tv rv k0) (hm : MapAt w b K q f) (c : ChgP (· = b) w w') : PnE w' bm b1 b2 b3 bd s tv rv k0 :=
 ⟨h.h1.imp fun _ h => Blk.mapC h hm c, h.h2.imp fun _ h => Blk.mapC h hm c, h.h3.imp fun _ h => Blk.mapC h hm c, Blk.mapC h.hd hm c⟩
theorem Rd.mapC {w w' : World} {b : Nat} {K : Value → Prop} {q : Value → Value → Bool} {f : Value → Option Value} {lo hi : Nat} {v : Value} {size n : Nat} {cs : List Value} (h : Rd w lo hi v size n cs) (hm : MapAt w b K q f) (c : ChgP (· = b) w w') : Rd w' lo hi v size n cs := by
 obtain ⟨es, clock, hb1, _⟩ := hm;obtain ⟨h1, h2⟩ := h;refine ⟨h1, ?_⟩;rcases h2 with h2 | ⟨x, off, cap, hv, hb, hc⟩
 ·exact .inl h2
 ·refine .inr ⟨x, off, cap, hv, fun hp => ⟨(hb hp).1, (hb hp).2.1, Nat.lt_of_lt_of_le (hb hp).2.2 c.size⟩, fun j hj => ?_⟩;have hb' := hb J;have hc' := hc j hj
  have hne : ¬ x = b := by
   rintro rfl;rw [List.getElem?_eq_getElem hj] at hc';simp [World.cell?, hb1] at hc'
  rw [← hc'];exact World.cell?_of_block (w := w) (c.block x hb'.2.2 hne)
theorem ScR.mapC {w w' : World} {b : Nat} {K : Value → Prop} {q : Value → Value → Bool} {f : Value → Option Value} {lo hi : Nat} {tv rv : Value} {s : Sc} (h : ScR w lo hi tv rv s) (hm : MapAt w b K q f) (c : ChgP (· = b) w w') : ScR w' lo hi tv rv s :=
 ⟨⟨Rd.mapC h.t.rd hm c, h.t.sz⟩, ⟨Rd.mapC h.r.rd hm c, h.r.sz⟩⟩
theorem kT {s : Sc} {k : Kn} {i : Nat} (hk : k.Fit) (ho : eG s k i = true) : cQ s k i true = (cI s k i, true) ∧ cQ s k i false = (cD s k i, true) := by
 have hf := (eP.1 ho).1;constructor
 ·unfold cQ;rw [if_neg (by rw [hf]; simp), if_pos rfl, decide_eq_true (fN hk ho).le]
  rfl
 ·unfold cQ;rw [if_neg (by rw [hf]; simp), if_neg (by simp), decide_eq_true (fI hk ho).le]
  rfl
theorem dep_8 {s : Sc} (h8 : s.rifles.length ≤ 8) {k : Kn} (hk : k.Fit) : 0 ≤ dE s k ∧ dE s k ≤ 8 := by
 have h1 := dep_open h8 _ k rfl hk;have h2 := openL_len s k;have h3 := dep_nn s k;omega
def tF13_d35aed8 : OT := .alt (bE [10, 11, 12, 13, 14] (.nil)) (bE [13, 10, 11, 12, 14] (.nil))
def tF13_0b6f6fa : OT := .alt (bE [9] (tF13_d35aed8)) (bE [13, 9, 10, 11, 12, 14] (.nil))
def tF13_59abf1e : OT := .alt (bE [5, 6, 7, 8, 0] (tF13_0b6f6fa)) (bE [13, 5, 6, 7, 8, 0, 9, 10, 11, 12, 14] (.nil))
def tF13_298e05f : OT := .alt (bE [1, 2, 3, 4] (tF13_59abf1e)) (bE [13, 1, 2, 3, 4, 5, 6, 7, 8, 0, 9, 10, 11, 12, 14] (.nil))
theorem best_ca (lo hi bm b1 b2 b3 bd : Nat) (s : Sc) (tv rv : Value) (k0 : Kn) (hs0 : s.Ok) : ∀ (n : Nat) (k : Kn) (w : World) (f : Value → Option Value), cntK s k = n → k.Fit → ScR w lo hi tv rv s → PnE w bm b1 b2 b3 bd s tv rv k0 → MapAt w bm ksK eqV f → GoodB s f →
  Ca Tryz.prog 169 [knV k, aC0 b1, aC0 b2, aC0 b3] w fun v w' => ∃ g, (v = pkV (mK s k) ∧ GoodB s g) ∧ Sat w (· = bm) [mpB bm g] w' := by
 have h8 := hs0.rn8;intro n
 induction n using Nat.strongRecOn with
 | ind n ih =>
 intro k w f hcn hk h hE hm hg;have hkb := hk.bd;obtain ⟨t1, hb1⟩ := hE.h1;obtain ⟨t2, hb2⟩ := hE.h2;obtain ⟨t3, hb3⟩ := hE.h3;have hb1 := fun w' (c : ChgP (· = bm) w w') => Blk.mapC hb1 hm c
 have hb2 := fun w' (c : ChgP (· = bm) w w') => Blk.mapC hb2 hm c
 have hb3 := fun w' (c : ChgP (· = bm) w w') => Blk.mapC hb3 hm c
 refine q_ofM (H := [mpB bm f]) (map_sat hm) Tryz.func169 Z (by simp [Tryz.ntmps169]) ?_;(refine aC (aB ?_));refine bR Z Z (fun b4 => ?_);rw [bL];refine bF jV Z (fun b5 => ?_);(refine aD (aC (aC (aB ?_))); refine gC U Z Z Z (by assumption) (by rfl) ?_);refine dC (cs := knC k) U Z Z Z (dL hkb) (fun w hs q hq => by rw [(hs.blk (b := b4) O).cell, Nat.zero_add]) ?_;refine ql_look2 st_key st_map zero_pk Z Z Z O (knV_key hkb) ?_;cases hf : f (knV k) with
 | some v =>
  obtain rfl := hg k hk v hf;(refine aA1 zq (aB5 xq (aB5 xq ?_)));refine bF jV Z (fun b6 => ?_);(refine aB6 Wa O Z ?_; refine aA1 zq (aD (aC (aB (aA1 zq (aD (aH Z (aC (aB ?_)))))))); refine aP U Z Z Z ?_; refine aB6 Wa O Z ?_; refine aD (aS ?_));refine q_finM U Z O fun w hs => ?_
  exact ⟨f, ⟨Z, hg⟩, hs.sp O⟩
 | none =>
  (refine aA1 zq (aB5 xq (aB5 xq ?_)))
  refine bF jV Z (fun b6 => ?_);(refine aB6 Wa O Z ?_; refine aA1 zq (aD (aC (aB (aA1 zq (aD (aG Z (aK (aC (aB ?_))))))))));refine bF jV Z (fun b8 => ?_);(refine aD (aC (aC (aB ?_))); refine gC U Z Z Z (by assumption) (by rfl) ?_);refine dC (cs := knC k) U Z Z Z (dL hkb) (fun w hs q hq => by rw [(hs.blk (b := b4) O).cell, Nat.zero_add]) ?_;refine bC (β := Nat × Nat) (ψ := fun y v => v = openF y.1 y.2) (L' := fun y => [.pt y.1 [aC0 bd] 177, .pt y.2 (knC k) 182]) U [] _ M0 Z Z Z Z (Sp.refl _) qC (fun w' hs => open_ca w' bd k) ?_;rintro ⟨o1, o2⟩ _ rfl;dsimp only [List.cons_append, List.nil_append];(refine aD (aM ?_))
  refine q_range natE ((Value → Option Value) × (Int × Int)) (dO s k) (fun pre z => z.2 = pre.foldl (pickS (dE s) s k) (0, 0) ∧ GoodB s z.1) (fun _ _ => False) (fun z => [mpB bm z.1, .pt b8 [.int .i64 z.2.1, .int .i64 z.2.2] 204]) [.pt o1 [aC0 bd] 177, .pt o2 (knC k) 182, .pt b4 (knC k) 182, .pt b5 [.int .i64 0, .int .i64 0] 204] (f, (0, 0))
   rfl qB rfl (fun _ _ => rfl) ⟨rfl, hg⟩ O ?_ ?_ ?_ (fun _ _ _ h => h.elim)
  ·intro w1 D hs hD;have hup : ∀ w', ChgP D w1 w' → ChgP (· = bm) w w' := fun w' hc => hs.chg.upP hc fun k hk => (hD k hk).2
   have hE1 := hE.mapC hm hs.chg
   have hnd : ¬ D bd := fun e => by
    rcases (hD bd e).2 with e2 | e2
    ·obtain ⟨es, cl, h1, _⟩ := hm;have h2 := hE.hd;rw [e2] at h2;unfold Blk at h2;rw [h2] at h1;cases h1
    ·have := hE.hd.lt;omega
   exact open_it w1 D lo hi o1 o2 bd s tv rv k0 k (fun w' hc => h.mapC hm (hup w' hc)) hs0 hkb (hs.blk (b := o1) O) (hs.blk (b := o2) O) hE1.hd ⟨fun e => (hD _ e).1 ⟨.pt o1 _ _, O, Z⟩, fun e => (hD _ e).1 ⟨.pt o2 _ _, O, Z⟩, hnd⟩
  ·intro pre x post z w1 lb rdy bsy K F' hx hI hsat hR hbegin hend hret hexit;obtain ⟨z1, out⟩ := z;obtain ⟨hout, hgz⟩ := hI;dsimp only at hout hgz;have hxm : x ∈ dO s k := by rw [hx]; simp
   obtain ⟨hx1, hxo⟩ := iC.1 hxm;have hfr := (eP.1 hxo).1;have c1 := nM hk h8 hx1 hfr;have c2 := nG hk h8 hx1 hfr;have fp := fN hk hxo;have ff := fI hk hxo;have dp := dep_8 h8 fp;have df := dep_8 h8 ff;have hW : ∀ w', ChgP (DL (rdy :: [mpB bm z1, .pt b8 [.int .i64 out.1, .int .i64 out.2] 204])) w1 w' → ChgP (· = bm) w w' := fun w' hc => (hR w' hc).chg
   have hb1' := fun w' hc => hb1 w' (hW w' hc)
   have hb2' := fun w' hc => hb2 w' (hW w' hc)
   have hb3' := fun w' hc => hb3 w' (hW w' hc)
   have hb4' := fun w' hc => (hR w' hc).blk (b := b4) O
   dsimp only [natE, List.zip_cons_cons, List.zip_nil_left, List.zip_nil_right, List.foldl_cons, List.foldl_nil];(refine aB (aA1 zq (aD ?_)));refine hbegin _ _ ?_;(refine aM (aC (aB ?_)); refine gC U Z Z Z (by assumption) (by rfl) ?_);refine dC (cs := knC k) U Z Z Z (dL hkb) (fun w hs q hq => by rw [(hb4' _ hs.chg).cell, Nat.zero_add]) ?_;(refine aA1 zq ?_);refine aI (val := .tuple #[knV (cI s k x), .bool true]) U Z Z Z Z (fun w hs => ?_) ?_; exact by have := jE w lo hi bd s tv rv k0 k (h.mapC hm (hW _ hs.chg)) ((hE.mapC hm (hW _ hs.chg)).hd) hs0 hkb x hx1 true; rw [(kT hk hxo).1] at this; exact this
   (refine aA1 zq (aB5 xq (aB5 xq ?_)))
   refine bF lA Z (fun b10 => ?_);refine bW (us := knC (cI s k x)) U Z Z Z (dL fp.bd) (mS _) O Z ?_;(refine aA1 zq (aD (aC (aB ?_))); refine gC U Z Z Z (by assumption) (by rfl) ?_);refine dC (cs := knC k) U Z Z Z (dL hkb) (fun w hs q hq => by rw [(hb4' _ hs.chg).cell, Nat.zero_add]) ?_;(refine aA1 zq ?_);refine aI (val := .tuple #[knV (cD s k x), .bool true]) U Z Z Z Z (fun w hs => ?_) ?_; exact by have := jE w lo hi bd s tv rv k0 k (h.mapC hm (hW _ hs.chg)) ((hE.mapC hm (hW _ hs.chg)).hd) hs0 hkb x hx1 false; rw [(kT hk hxo).2] at this; exact this
   (refine aA1 zq (aB5 xq (aB5 xq ?_)))
   refine bF lA Z (fun b12 => ?_);refine bW (us := knC (cD s k x)) U Z Z Z (dL ff.bd) (mS _) O Z ?_;(refine aA1 zq (aD (aC ?_)));have dpd : ∀ j, (mK s j).2 = dE s j := fun _ => rfl
   refine fT (σ := { y : (Value → Option Value) × Nat // GoodB s y.1 }) (fun y => [(8, aC0 b8), (14, aC0 y.1.2)]) (fun y => [bsy, .pt y.1.2 [.int .i64 x, .int .i64 (1 + max (dE s (cI s k x)) (dE s (cD s k x)))] 204, mpB bm y.1.1, .pt b8 [.int .i64 out.1, .int .i64 out.2] 204]) ?_ ?_;rotate_left
   ·intro K2 hK2;refine eQ (tF13_298e05f) _ [mpB bm z1] (Sp.cons O (Sp.refl _)) qB qB ?_;refine cA ?_ ?_
    ·refine bA qA fun K1 hK1 => ?_;(refine lD U Z Z Z (by assumption) (by rfl) ?_)
     refine cV (cs := knC (cI s k x)) U Z Z Z (dL fp.bd) (fun w hs q hq => by rw [(hs.blk (b := b10) O).cell, Nat.zero_add]) ?_;refine iX (β := Value → Option Value) (ψ := fun g v => v = pkV (mK s (cI s k x)) ∧ GoodB s g) (L' := fun g => [mpB bm g]) [mpB bm z1] _ (· = bm) Z Z Z (Sp.cons O (Sp.refl _)) (fun x hx => ⟨_, .head _, hx⟩) (fun w' hs => CaF.of U Z (ih _ J (cI s k x) w' z1 Z fp (h.mapC hm (hW _ hs.chg)) (hE.mapC hm (hW _ hs.chg)) (hs.mem (c := mpB bm z1) O) hgz)) ?_;clear hgz;rintro z1 v ⟨rfl, hgz⟩;refine qf_fld U 1 3 qB Z Z Z Z ?_;(refine aN ?_);refine hK1 _ _ ?_;refine cA ?_ ?_
     ·refine bA qA fun K1 hK1 => ?_;(refine lD U Z Z Z (by assumption) (by rfl) ?_)
      refine cV (cs := knC (cD s k x)) U Z Z Z (dL ff.bd) (fun w hs q hq => by rw [(hs.blk (b := b12) O).cell, Nat.zero_add]) ?_;refine iX (β := Value → Option Value) (ψ := fun g v => v = pkV (mK s (cD s k x)) ∧ GoodB s g) (L' := fun g => [mpB bm g]) [mpB bm z1] _ (· = bm) Z Z Z (Sp.cons O (Sp.refl _)) (fun x hx => ⟨_, .head _, hx⟩) (fun w' hs => CaF.of U Z (ih _ J (cD s k x) w' z1 Z ff (h.mapC hm (hW _ hs.chg)) (hE.mapC hm (hW _ hs.chg)) (hs.mem (c := mpB bm z1) O) hgz)) ?_;clear hgz;rintro z1 v ⟨rfl, hgz⟩;refine qf_fld U 1 3 qB Z Z Z Z ?_;(refine aA2 xq (aN ?_));refine hK1 _ _ ?_;refine cA ?_ ?_
      ·refine bA qA fun K1 hK1 => ?_;refine eX 3 [.int .i64 (dE s (cD s k x))] Z qB Z (fun bn => ?_)
       (refine aN ?_)
       refine hK1 _ _ ?_;refine cA ?_ ?_
       ·refine bA qA fun K1 hK1 => ?_;refine bN U Z Z Z Z (fun w' hs => jC w' _ _ (dE s (cI s k x)) _ [dE s (cD s k x)] (Blk.rdI (c := 1) (hs.blk (b := bn) (cs := aX [dE s (cD s k x)]) O)) (by simp)) ?_
        rw [show mxF (dE s (cI s k x)) [dE s (cD s k x)] = max (dE s (cI s k x)) (dE s (cD s k x)) from rfl];(refine aA9 uq J J ?_);refine kH #[.int .i64 x, .int .i64 (1 + max (dE s (cI s k x)) (dE s (cD s k x)))] Z qB Z ?_;refine bG jV Z (fun b14 => ?_);(refine aB7 Wa O Z ?_; refine aN ?_);exact hK1 _ _ (dD (hK2 ⟨(z1, b14), hgz⟩ _ _ ⟨Z, Z, trivial⟩ O))
       ·refine bA qA fun K1 hK1 => ?_;refine bG jV Z (fun b14 => ?_)
        refine bN U Z Z Z Z (fun w' hs => jC w' _ _ (dE s (cI s k x)) _ [dE s (cD s k x)] (Blk.rdI (c := 1) (hs.blk (b := bn) (cs := aX [dE s (cD s k x)]) O)) (by simp)) ?_;rw [show mxF (dE s (cI s k x)) [dE s (cD s k x)] = max (dE s (cI s k x)) (dE s (cD s k x)) from rfl];(refine aA9 uq J J ?_);refine kH #[.int .i64 x, .int .i64 (1 + max (dE s (cI s k x)) (dE s (cD s k x)))] Z qB Z ?_;(refine aB7 Wa O Z ?_; refine aN ?_);exact hK1 _ _ (dD (hK2 ⟨(z1, b14), hgz⟩ _ _ ⟨Z, Z, trivial⟩ O))
      ·refine bA qA fun K1 hK1 => ?_;refine bG jV Z (fun b14 => ?_)
       refine eX 3 [.int .i64 (dE s (cD s k x))] Z qB Z (fun bn => ?_);refine bN U Z Z Z Z (fun w' hs => jC w' _ _ (dE s (cI s k x)) _ [dE s (cD s k x)] (Blk.rdI (c := 1) (hs.blk (b := bn) (cs := aX [dE s (cD s k x)]) O)) (by simp)) ?_;rw [show mxF (dE s (cI s k x)) [dE s (cD s k x)] = max (dE s (cI s k x)) (dE s (cD s k x)) from rfl];(refine aA9 uq J J ?_);refine kH #[.int .i64 x, .int .i64 (1 + max (dE s (cI s k x)) (dE s (cD s k x)))] Z qB Z ?_;(refine aB7 Wa O Z ?_; refine aN ?_);exact hK1 _ _ (dD (hK2 ⟨(z1, b14), hgz⟩ _ _ ⟨Z, Z, trivial⟩ O))
     ·refine bA qA fun K1 hK1 => ?_;refine bG jV Z (fun b14 => ?_)
      (refine lD U Z Z Z (by assumption) (by rfl) ?_)
      refine cV (cs := knC (cD s k x)) U Z Z Z (dL ff.bd) (fun w hs q hq => by rw [(hs.blk (b := b12) O).cell, Nat.zero_add]) ?_;refine iX (β := Value → Option Value) (ψ := fun g v => v = pkV (mK s (cD s k x)) ∧ GoodB s g) (L' := fun g => [mpB bm g]) [mpB bm z1] _ (· = bm) Z Z Z (Sp.cons O (Sp.refl _)) (fun x hx => ⟨_, .head _, hx⟩) (fun w' hs => CaF.of U Z (ih _ J (cD s k x) w' z1 Z ff (h.mapC hm (hW _ hs.chg)) (hE.mapC hm (hW _ hs.chg)) (hs.mem (c := mpB bm z1) O) hgz)) ?_;clear hgz;rintro z1 v ⟨rfl, hgz⟩;refine qf_fld U 1 3 qB Z Z Z Z ?_;(refine aA2 xq ?_);refine eX 3 [.int .i64 (dE s (cD s k x))] Z qB Z (fun bn => ?_);refine bN U Z Z Z Z (fun w' hs => jC w' _ _ (dE s (cI s k x)) _ [dE s (cD s k x)] (Blk.rdI (c := 1) (hs.blk (b := bn) (cs := aX [dE s (cD s k x)]) O)) (by simp)) ?_;rw [show mxF (dE s (cI s k x)) [dE s (cD s k x)] = max (dE s (cI s k x)) (dE s (cD s k x)) from rfl];(refine aA9 uq J J ?_);refine kH #[.int .i64 x, .int .i64 (1 + max (dE s (cI s k x)) (dE s (cD s k x)))] Z qB Z ?_;(refine aB7 Wa O Z ?_; refine aN ?_);exact hK1 _ _ (dD (hK2 ⟨(z1, b14), hgz⟩ _ _ ⟨Z, Z, trivial⟩ O))
    ·refine bA qA fun K1 hK1 => ?_;refine bG jV Z (fun b14 => ?_)
     (refine lD U Z Z Z (by assumption) (by rfl) ?_)
     refine cV (cs := knC (cI s k x)) U Z Z Z (dL fp.bd) (fun w hs q hq => by rw [(hs.blk (b := b10) O).cell, Nat.zero_add]) ?_;refine iX (β := Value → Option Value) (ψ := fun g v => v = pkV (mK s (cI s k x)) ∧ GoodB s g) (L' := fun g => [mpB bm g]) [mpB bm z1] _ (· = bm) Z Z Z (Sp.cons O (Sp.refl _)) (fun x hx => ⟨_, .head _, hx⟩) (fun w' hs => CaF.of U Z (ih _ J (cI s k x) w' z1 Z fp (h.mapC hm (hW _ hs.chg)) (hE.mapC hm (hW _ hs.chg)) (hs.mem (c := mpB bm z1) O) hgz)) ?_;clear hgz;rintro z1 v ⟨rfl, hgz⟩;refine qf_fld U 1 3 qB Z Z Z Z ?_;(refine lD U Z Z Z (by assumption) (by rfl) ?_);refine cV (cs := knC (cD s k x)) U Z Z Z (dL ff.bd) (fun w hs q hq => by rw [(hs.blk (b := b12) O).cell, Nat.zero_add]) ?_;refine iX (β := Value → Option Value) (ψ := fun g v => v = pkV (mK s (cD s k x)) ∧ GoodB s g) (L' := fun g => [mpB bm g]) [mpB bm z1] _ (· = bm) Z Z Z (Sp.cons O (Sp.refl _)) (fun x hx => ⟨_, .head _, hx⟩) (fun w' hs => CaF.of U Z (ih _ J (cD s k x) w' z1 Z ff (h.mapC hm (hW _ hs.chg)) (hE.mapC hm (hW _ hs.chg)) (hs.mem (c := mpB bm z1) O) hgz)) ?_;clear hgz;rintro z1 v ⟨rfl, hgz⟩;refine qf_fld U 1 3 qB Z Z Z Z ?_;(refine aA2 xq ?_);refine eX 3 [.int .i64 (dE s (cD s k x))] Z qB Z (fun bn => ?_);refine bN U Z Z Z Z (fun w' hs => jC w' _ _ (dE s (cI s k x)) _ [dE s (cD s k x)] (Blk.rdI (c := 1) (hs.blk (b := bn) (cs := aX [dE s (cD s k x)]) O)) (by simp)) ?_;rw [show mxF (dE s (cI s k x)) [dE s (cD s k x)] = max (dE s (cI s k x)) (dE s (cD s k x)) from rfl];(refine aA9 uq J J ?_);refine kH #[.int .i64 x, .int .i64 (1 + max (dE s (cI s k x)) (dE s (cD s k x)))] Z qB Z ?_;(refine aB7 Wa O Z ?_; refine aN ?_);exact hK1 _ _ (dD (hK2 ⟨(z1, b14), hgz⟩ _ _ ⟨Z, Z, trivial⟩ O))
   rintro ⟨⟨z1, b14⟩, hgz⟩;dsimp only at hgz ⊢;(refine aC (aB ?_); refine aP U Z Z Z ?_);refine fQ #[.int .i64 0, .int .i64 0] Z qB Z ?_;refine ql_eqF [some .i64, some .i64] pk_flat Z Z Z Z Z ?_;(refine aA1 zq ?_)
   have e0 : eqL (List.take 2 (List.drop 0 [Value.int .i64 out.1, Value.int .i64 out.2])) [Value.int .i64 0, Value.int .i64 0] = decide (out = (0, 0)) := by
    obtain ⟨u1, u2⟩ := out;simp [eqL, Prod.ext_iff]
   rw [e0];have hps : pickS (dE s) s k out x = if out = (0, 0) ∨ 1 + max (dE s (cI s k x)) (dE s (cD s k x)) < out.2 then ((x : Int), 1 + max (dE s (cI s k x)) (dE s (cD s k x))) else out := rfl
   have hfl : ∀ z : Int × Int, pickS (dE s) s k out x = z → (pre ++ [x]).foldl (pickS (dE s) s k) (0, 0) = z := fun z hz => by
    rw [List.foldl_append, ← hout];exact hz
   cases hz : decide (out = (0, 0)) with
   | true =>
    have hz := of_decide_eq_true hz;rw [if_pos (.inl hz)] at hps
    ((iterate 5 refine aA8 yq ?_); refine aA1 zq (aD (aH Z (aB ?_))); refine aP U Z Z Z ?_; refine aB6 Wa O rfl ?_; refine aD (bK ?_))
    exact hend _ _ (z1, ((x : Int), 1 + max (dE s (cI s k x)) (dE s (cD s k x)))) ⟨(hfl _ hps).symm, hgz⟩ O
   | false =>
    have hz := of_decide_eq_false hz;by_cases hl : 1 + max (dE s (cI s k x)) (dE s (cD s k x)) < out.2
    ·rw [if_pos (.inr hl)] at hps;(refine aE Z (aA1 zq (aE Z ?_)); refine aJ U Z Z Z ?_; refine aE Z (aA1 zq (aE Z ?_)); refine aJ U Z Z Z ?_; refine aE Z (aB3 xq J (aA1 zq (aD (aH Z (aB ?_))))); refine aP U Z Z Z ?_; refine aB6 Wa O Z ?_; refine aD (bK ?_));exact hend _ _ (z1, ((x : Int), 1 + max (dE s (cI s k x)) (dE s (cD s k x)))) ⟨(hfl _ hps).symm, hgz⟩ O
    ·rw [if_neg (by rintro (h | h); exact hz h; exact hl h)] at hps;(refine aE Z (aA1 zq (aE Z ?_)); refine aJ U Z Z Z ?_; refine aE Z (aA1 zq (aE Z ?_)); refine aJ U Z Z Z ?_; refine aE Z (aB4 xq J (aA1 zq (aD (aG Z (aK (bK ?_)))))));exact hend _ _ (z1, out) ⟨(hfl _ hps).symm, hgz⟩ O
  ·rintro D ⟨z1, out⟩ ⟨hout, hgz⟩;dsimp only [List.cons_append, List.nil_append] at hout hgz ⊢;rw [← bstK_eq h8 hk] at hout;subst hout;(refine bK (aC (aB ?_)); refine gC U Z Z Z (by assumption) (by rfl) ?_);refine dC (cs := knC k) U Z Z Z (dL hkb) (fun w hs q hq => by rw [(hs.blk (b := b4) O).cell, Nat.zero_add]) ?_;(refine aP U Z Z Z ?_);refine ql_mapUpd st_key st_map Z Z Z (knV_key hkb) O ?_;(refine aD (aC (aB ?_)); refine aP U Z Z Z ?_; refine aB6 Wa O Z ?_; refine aD (aS ?_));refine q_finMD U O Z O fun w hs => ?_
   exact ⟨_, ⟨Z, goodB_upd hgz hk⟩, hs.sp O⟩
abbrev plnL (bd : Nat) (y : Nat × Nat × Nat × Nat) : List Ck := [mpB y.1 (fun _ => none), .pt y.2.1 [.map (some y.1)] 243, .pt y.2.2.1 [aC0 bd] 177, .pt y.2.2.2 [bstF y.2.1 y.2.2.1 y.2.2.2] 205]
theorem rplanner_ca (w : World) (bd : Nat) : Ca Tryz.prog 128 [aC0 bd] w fun x w' => ∃ y : Nat × Nat × Nat × Nat, x = bstF y.2.1 y.2.2.1 y.2.2.2 ∧ Sat w M0 (plnL bd y) w' := by
 refine cN (Sat.nil w M0) Tryz.func128 Z (by simp [Tryz.ntmps128]) ?_;(refine aC (aB ?_));refine bR Z Z (fun b2 => ?_);(refine aA1 zq (aD (aC (aB ?_))));refine ql_makeMap ksK eqV Z (fun bm => ?_);refine bF zero243 Z (fun b1 => ?_);(refine eM U Z Z Z Z O ?_; refine aD (aC (aB ?_)));refine bF zero205 Z (fun b3 => ?_);(refine aD (aC (aB (aA1 zq ?_))); refine eM U Z Z Z Z O ?_; refine aD (aC (aB ?_)); refine aJ U Z Z Z ?_; refine aA1 zq (aD (aS ?_)));refine aA5 wq O fun w hs => ?_;exact ⟨(bm, b1, b2, b3), Z, hs.sp O⟩
theorem dsk_take (s : Sc) (tv rv : Value) : List.take 18 (List.drop (0 + 4) (Value.int .i64 s.err :: .int .i64 s.least :: tv :: rv :: knC (bP s))) = knC (bP s) := rfl
theorem rfewest_no (w : World) (lo hi : Nat) (s : Sc) (tv rv : Value) (h : ScR w lo hi tv rv s) (hl1 : s.tests.length ≤ maxLen) (hl2 : s.rifles.length ≤ maxLen) (h0 : eY s ≠ 0) : Ca Tryz.prog 52 [.agg (scC s tv rv).toArray] w fun x w' => x = .tuple #[.int .i64 0, .int .i64 (eY s)] ∧ Chg [] w w' := by
 refine cN (Sat.nil w M0) Tryz.func52 Z (by simp [Tryz.ntmps52]) ?_;(refine aC (aB ?_));refine bR Z Z (fun b1 => ?_);rw [bL];(refine aA1 zq (aA1 zq (aD (aC (aB ?_)))); refine aP U Z Z Z ?_);refine aI (val := .tuple #[.pointer none, .int .i64 (eY s)]) U Z Z Z Z (fun w hs => ?_) ?_; exact oB w lo hi s tv rv (h.keep hs.chg0) hl1 hl2 h0;(refine aA1 zq (aB5 xq (aB5 xq (aA1 zq (aA1 zq (aD (aC (aC (aB (aA1 zq (aB0 xq J (aD ?_))))))))))); refine aH Z (aC (aB ?_)); (iterate 3 refine aA1 zq ?_); refine aD (aS ?_));refine aA5 wq O fun w hs => ?_;exact ⟨Z, hs.chg0⟩
def tF14_393f534 : OT := bE [0, 1, 2, 3, 4, 5, 6, 7, 8, 9] (.nil)
theorem rfewest_ok (w : World) (lo hi : Nat) (s : Sc) (tv rv : Value) (h : ScR w lo hi tv rv s) (hs0 : SOk s) : Ca Tryz.prog 52 [.agg (scC s tv rv).toArray] w fun x w' => x = .tuple #[.int .i64 (dE s (bP s)), .int .i64 0] ∧ Chg [] w w' := by
 have hfit := eK hs0.le;refine cN (Sat.nil w M0) Tryz.func52 Z (by simp [Tryz.ntmps52]) ?_;(refine aC (aB ?_));refine bR Z Z (fun b1 => ?_);rw [bL];(refine aA1 zq (aA1 zq (aD (aC (aB ?_)))); refine aP U Z Z Z ?_);refine bC (β := Nat) U [] _ M0 Z Z Z Z (Sp.refl _) qC (fun w' hs => lW w' lo hi s tv _ (h.keep hs.chg0) hs0.ok hs0.le) ?_;rintro bd _ rfl;dsimp only [List.cons_append, List.nil_append];(refine aA1 zq (aB5 xq (aB5 xq (aA1 zq (aA1 zq (aD (aC (aC (aB (aA1 zq (aA6 xq J (aD ?_))))))))))); refine aG Z (aK (aC ?_)));refine fT (σ := Unit) (fun _ => [(2, .int .i64 (dE s (bP s))), (3, .int .i64 0)]) (fun _ => []) ?_ ?_;rotate_left
 ·intro K2 hK2;refine eQ (tF14_393f534) _ [] (Sp.refl _) qB qB ?_;refine bA qA fun K1 hK1 => ?_
  (refine aA2 xq ?_)
  refine bX (β := Nat × Nat × Nat × Nat) (ψ := fun y v => v = bstF y.2.1 y.2.2.1 y.2.2.2) (L' := fun y => plnL bd y) U [] _ M0 Z Z Z Z (Sp.refl _) qC (fun w' hs => rplanner_ca w' bd) ?_;rintro ⟨bm, p1, p2, p3⟩ _ rfl;dsimp only [plnL, List.cons_append, List.nil_append]
  ((iterate 3 refine aA2 xq ?_); refine aV U Z Z Z ?_)
  rw [dsk_take s tv rv];refine iX (β := Value → Option Value) (ψ := fun g v => v = pkV (mK s (bP s)) ∧ GoodB s g) (L' := fun g => [mpB bm g]) [mpB bm (fun _ => none)] _ (· = bm) Z Z Z (Sp.cons O (Sp.refl _)) (fun x hx => ⟨_, .head _, hx⟩) (fun w' hs => CaF.of U Z (best_ca lo hi bm p1 p2 p3 bd s tv _ (bP s) hs0.ok _ _ w' _ Z hfit (h.keep hs.chg0) ⟨⟨_, hs.blk (b := p1) O⟩, ⟨_, hs.blk (b := p2) O⟩, ⟨_, hs.blk (b := p3) O⟩, hs.blk (b := bd) O⟩ (hs.mem (c := mpB bm (fun _ => none)) O) (goodB_nil s))) ?_;rintro g v ⟨rfl, hg⟩;refine qf_fld U 1 3 qB Z Z Z Z ?_;(refine aA2 xq (aA2 xq (aN ?_)));exact hK1 _ _ (dD (hK2 () _ _ ⟨Z, Z, trivial⟩ O))
 rintro _;(refine aS ?_);refine aA5 wq O fun w hs => ?_
 exact ⟨Z, hs.chg0⟩
def nxB (i : Nat) (plan : List Nd) (k : Int) : Bool := decide (k = -1) || inB k ((i : Int) + 1) ((plan.length : Int) - 1)
theorem rnext_ca (w : World) (lo hi b1 b2 i : Nat) (plan : List Nd) (vp : Value) (k : Int) (t1 t2 : TypeId) (h1 : Blk w b1 [.int .i64 i] t1) (h2 : Blk w b2 [vp] t2) (hp : RdN w lo hi vp plan) (hl : plan.length ≤ 300) (hi3 : i ≤ 300) :
  Ca Tryz.prog 133 [.int .i64 k, aC0 b1, aC0 b2] w fun x w' => x = .bool (nxB i plan k) ∧ Chg [] w w' := by
 obtain ⟨p, cap, rfl, hs0⟩ := hp.outI;refine cN (Sat.nil w M0) Tryz.func133 Z (by simp [Tryz.ntmps133]) ?_;by_cases hk : k = -1
 ·(refine aC (aB (aA1 zq (aD (aC (aB (aA1 zq (aB2 xq J (aA1 zq ?_)))))))); (iterate 7 refine aA8 yq ?_); refine aA1 zq (aA1 zq (aD (aS ?_))))
  refine aA5 wq (by repeat (first | exact RVs.nil | apply RVs.tmp Z | apply RVs.cellA Z Z (by repeat first | exact .head _ | refine .tail _ ?_) (by rfl) | apply RVs.cell1 Z Z (by repeat first | exact .head _ | refine .tail _ ?_))) fun w hs => ?_;exact ⟨by simp [nxB, hk, retV], hs.chg0⟩
 ·(refine aC (aB (aA1 zq (aD (aC (aB (aA1 zq (cZ U Z Z Z J (aA1 zq (aE Z (aA1 zq (aE Z ?_))))))))))); refine gA U Z Z Z (by assumption) (by rfl) ?_; refine aE Z (aA4 uq J J (aE Z ?_)); refine gA U Z Z Z (by assumption) (by rfl) ?_; refine aE Z (aA1 zq (aE Z (aA4 uq J J (aE Z ?_)))))
  refine aI (val := .bool (inB k ((i : Int) + 1) ((plan.length : Int) - 1))) U Z Z Z Z (fun w hs => ?_) ?_; exact eZ _ _ _ w;(refine aA1 zq (aA1 zq (aD (aS ?_))));refine aA5 wq (by repeat (first | exact RVs.nil | apply RVs.tmp Z | apply RVs.cellA Z Z (by repeat first | exact .head _ | refine .tail _ ?_) (by rfl) | apply RVs.cell1 Z Z (by repeat first | exact .head _ | refine .tail _ ?_))) fun w hs => ?_;exact ⟨by simp [nxB, hk, retV], hs.chg0⟩
def ndB (s : Sc) (plan : List Nd) (i : Nat) : Bool := inB (ndV plan i).r 0 ((s.rifles.length : Int) - 1) && (nxB i plan (ndV plan i).p && nxB i plan (ndV plan i).f)
theorem rp_iff {s : Sc} {plan : List Nd} : RpOk s plan ↔ ∀ i, i < plan.length → ndB s plan i = true := by
 unfold RpOk;refine forall_congr' fun i => forall_congr' fun hi => ?_
 unfold ndB nxB;simp only [Bool.and_eq_true, Bool.or_eq_true, decide_eq_true_iff, bV];constructor
 ·rintro ⟨h1, h2, h3⟩;refine ⟨by omega, ?_, ?_⟩ <;> omega
 ·rintro ⟨h1, h2, h3⟩;refine ⟨by omega, ?_, ?_⟩ <;> omega
abbrev folV (b1 b2 b3 : Nat) : Value := .func (.func 134) #[] #[aC0 b1, aC0 b2, aC0 b3]
structure FoE (w : World) (b1 b2 b3 bd : Nat) (s : Sc) (tv rv : Value) (k0 : Kn) (vp : Value) : Prop where
 h1 : ∃ t, Blk w b1 [aC0 bd] t
 h2 : ∃ t, Blk w b2 [vp] t
 h3 : ∃ t, Blk w b3 [folV b1 b2 b3] t
 hd : Blk w bd (dskC s tv rv k0) 184
theorem FoE.keep {w w' : World} {b1 b2 b3 bd : Nat} {s : Sc} {tv rv : Value} {k0 : Kn} {vp : Value} (h : FoE w b1 b2 b3 bd s tv rv k0 vp) (c : Chg [] w w') : FoE w' b1 b2 b3 bd s tv rv k0 vp :=
 ⟨h.h1.imp fun _ h => h.keep c, h.h2.imp fun _ h => h.keep c, h.h3.imp fun _ h => h.keep c, h.hd.keep c⟩
theorem fol_neg (s : Sc) (plan : List Nd) (k : Kn) : ∀ g, jL s plan g (-1) k = if dO s k = [] then 0 else -1
 | 0 => rfl
 | g + 1 => by
  simp only [jL];rw [if_pos J]
theorem follow_end (lo hi b1 b2 b3 bd : Nat) (s : Sc) (tv rv : Value) (k0 : Kn) (vp : Value) (hs0 : s.Ok) (k : Kn) (w : World) (hk : k.Fit) (h : ScR w lo hi tv rv s) (hE : FoE w b1 b2 b3 bd s tv rv k0 vp) :
  Ca Tryz.prog 134 [.int .i64 (-1), knV k, aC0 b1, aC0 b2, aC0 b3] w fun v w' => v = .int .i64 (if dO s k = [] then 0 else -1) ∧ Chg [] w w' := by
 have h8 := hs0.rn8;have hkb := hk.bd;obtain ⟨⟨t1, hb1⟩, ⟨t2, hb2⟩, ⟨t3, hb3⟩, hbd⟩ := id hE;refine q_ofM (Sat.nil w M0) Tryz.func134 Z (by simp [Tryz.ntmps134]) ?_;(refine aC (aB ?_));refine bR Z Z (fun b6 => ?_);rw [bL];refine bF zero3 Z (fun b7 => ?_);(refine aD (aC (aC (aB (aA1 zq (aB2 xq J (aD (aH Z (aC (aC (aB ?_)))))))))); refine gA U Z Z Z (by assumption) (by rfl) ?_);refine dC (cs := knC k) U Z Z Z (dL hkb) (fun w hs q hq => by rw [(hs.blk (b := b6) (by repeat first | exact .head _ | refine .tail _ ?_)).cell, Nat.zero_add]) ?_;refine bC (β := Nat × Nat) (ψ := fun y v => v = openF y.1 y.2) (L' := fun y => [.pt y.1 [aC0 bd] 177, .pt y.2 (knC k) 182]) U [] _ M0 Z Z Z Z (Sp.refl _) qC (fun w' hs => open_ca w' bd k) ?_;rintro ⟨o1, o2⟩ _ rfl;dsimp only [List.cons_append, List.nil_append];(refine aD (aM ?_))
 refine q_range natE Int (dO s k) (fun pre z => pre = [] ∧ z = 0) (fun c z => c = .ret ∧ z = -1 ∧ dO s k ≠ []) (fun z => [.pt b7 [.int .i64 z] 3]) [.pt o1 [aC0 bd] 177, .pt o2 (knC k) 182] 0
  rfl qB rfl (fun _ _ => rfl) ⟨rfl, rfl⟩ (by repeat (first | exact Sp.nil | exact Sp.refl _ | refine Sp.cons O ?_)) ?_ ?_ ?_ ?_
 ·intro w1 D hs hD
  have old : ∀ b cs t, Blk w b cs t → Blk w1 b cs t ∧ ¬ D b := fun b cs t hb => ⟨hb.keep hs.chg0, fun h => by
   have := (hD b h).2.resolve_left (fun h => h);have := hb.lt;omega⟩
  exact open_it w1 D lo hi o1 o2 bd s tv rv k0 k (fun w' hc => h.keep (hs.chg0.old hc (fun k hk => (hD k hk).2.resolve_left (fun h => h)))) hs0 hkb (hs.blk (b := o1) (by repeat first | exact .head _ | refine .tail _ ?_)) (hs.blk (b := o2) (by repeat first | exact .head _ | refine .tail _ ?_)) (old _ _ _ hbd).1 ⟨fun e => (hD _ e).1 ⟨.pt o1 _ _, (by repeat first | exact .head _ | refine .tail _ ?_), Z⟩, fun e => (hD _ e).1 ⟨.pt o2 _ _, (by repeat first | exact .head _ | refine .tail _ ?_), Z⟩, (old _ _ _ hbd).2⟩
 ·intro pre x post z w1 lb rdy bsy K F' hx hI hsat hR hbegin hend hret hexit;obtain ⟨rfl, rfl⟩ := hI;dsimp only [natE, List.zip_cons_cons, List.zip_nil_left, List.zip_nil_right, List.foldl_cons, List.foldl_nil];(refine aK ?_);refine hbegin _ _ ?_;(refine aM (aC (aB ?_)); refine eM U Z Z Z Z O ?_; refine aD (aS ?_));refine hret _ _ (-1) ⟨Z, Z, by rw [hx]; simp⟩ (by repeat (first | exact Sp.nil | exact Sp.refl _ | refine Sp.cons O ?_))
 ·rintro D z ⟨h1, rfl⟩;rw [if_pos h1];dsimp only [List.cons_append, List.nil_append];(refine bK (aC (aB ?_)); refine eM U Z Z Z Z O ?_; refine aD (aS ?_));refine q_finMD U O Z (by repeat (first | exact RVs.nil | apply RVs.tmp Z | apply RVs.cellA Z Z (by repeat first | exact .head _ | refine .tail _ ?_) (by rfl) | apply RVs.cell1 Z Z (by repeat first | exact .head _ | refine .tail _ ?_))) fun w hs => ?_
  exact ⟨Z, hs.chg0⟩
 ·rintro D z c ⟨rfl, rfl, h1⟩;rw [if_neg h1];dsimp only [List.cons_append, List.nil_append];(refine aS ?_);refine q_finMD U O Z (by repeat (first | exact RVs.nil | apply RVs.tmp Z | apply RVs.cellA Z Z (by repeat first | exact .head _ | refine .tail _ ?_) (by rfl) | apply RVs.cell1 Z Z (by repeat first | exact .head _ | refine .tail _ ?_))) fun w hs => ?_
  exact ⟨Z, hs.chg0⟩
theorem nT (s : Sc) (plan : List Nd) : ∀ (g : Nat) (n : Int) (k : Kn), -1 ≤ jL s plan g n k ∧ jL s plan g n k ≤ g
 | 0, n, k => by
  simp only [jL];split <;> omega
 | g + 1, n, k => by
  simp only [jL];have h1 := nT s plan g (ndV plan n).p (cQ s k (ndV plan n).r.toNat true).1;have h2 := nT s plan g (ndV plan n).f (cQ s k (ndV plan n).r.toNat false).1;split
  ·split <;> omega
  split
  ·omega
  split
  ·omega
  split <;> split <;> omega
def pbJ (j : Nat) : Bool := decide (j = 0)
def nxJ (x : Nd) (j : Nat) : Int := if j = 0 then x.p else x.f
def cJ (s : Sc) (k : Kn) (i j : Nat) : Kn × Bool := cQ s k i (pbJ j)
def fJ (s : Sc) (plan : List Nd) (g : Nat) (x : Nd) (k : Kn) (i j : Nat) : Int := jL s plan g (nxJ x j) (cJ s k i j).1
def pN (s : Sc) (plan : List Nd) (g : Nat) (x : Nd) (k : Kn) (i : Nat) : Nat → Int
 | 0 => 0
 | j + 1 => if (cJ s k i j).2 = true then max (pN s plan g x k i j) (1 + fJ s plan g x k i j) else pN s plan g x k i j
theorem out_bd (s : Sc) (plan : List Nd) (g : Nat) (x : Nd) (k : Kn) (i : Nat) : ∀ j, 0 ≤ pN s plan g x k i j ∧ pN s plan g x k i j ≤ g + 1
 | 0 => by simp [pN]; omega
 | j + 1 => by
  have h1 := out_bd s plan g x k i j;have h2 := nT s plan g (nxJ x j) (cJ s k i j).1;simp only [pN, fJ];split <;> omega
theorem nB {s : Sc} {plan : List Nd} {g m i : Nat} {k : Kn} (hi : (ndV plan m).r = i) {j : Nat} (hj : j < 2) (h1 : (cJ s k i j).2 = true) (h2 : fJ s plan g (ndV plan m) k i j < 0) : jL s plan (g + 1) m k = -1 := by
 simp only [jL];rw [if_neg J, hi, Int.toNat_natCast];obtain rfl | rfl : j = 0 ∨ j = 1 := by omega
 ·rw [if_pos ⟨h1, h2⟩]
 ·split
  ·rfl
  ·rw [if_pos ⟨h1, h2⟩]
theorem fol_out {s : Sc} {plan : List Nd} {g m i : Nat} {k : Kn} (hi : (ndV plan m).r = i) (h : ∀ j, j < 2 → ¬ ((cJ s k i j).2 = true ∧ fJ s plan g (ndV plan m) k i j < 0)) : jL s plan (g + 1) m k = pN s plan g (ndV plan m) k i 2 := by
 have h0 : ¬ ((cQ s k i true).2 = true ∧ jL s plan g (ndV plan m).p (cQ s k i true).1 < 0) := h 0 J;have h1 : ¬ ((cQ s k i false).2 = true ∧ jL s plan g (ndV plan m).f (cQ s k i false).1 < 0) := h 1 J;simp only [jL];rw [if_neg J, hi, Int.toNat_natCast, if_neg h0, if_neg h1]
 show _ = if (cQ s k i false).2 = true then max (if (cQ s k i true).2 = true then max 0 (1 + jL s plan g (ndV plan m).p (cQ s k i true).1) else 0) (1 + jL s plan g (ndV plan m).f (cQ s k i false).1) else (if (cQ s k i true).2 = true then max 0 (1 + jL s plan g (ndV plan m).p (cQ s k i true).1) else 0)
 by_cases e1 : (cQ s k i true).2 = true <;> by_cases e2 : (cQ s k i false).2 = true
 ·rw [if_pos e1, if_pos e2, if_pos e1, if_pos e2];have : ¬ _ < _ := fun e => h0 ⟨e1, e⟩
  omega
 ·rw [if_pos e1, if_neg e2, if_pos e1, if_neg e2];have : ¬ _ < _ := fun e => h0 ⟨e1, e⟩
  omega
 ·rw [if_neg e1, if_pos e2, if_neg e1, if_pos e2]
 ·rw [if_neg e1, if_neg e2, if_neg e1, if_neg e2];omega
theorem ndV_get {plan : List Nd} {m : Nat} (hm : m < plan.length) : ndV plan m = plan[m] := by
 unfold ndV;rw [Int.toNat_natCast, List.getD_eq_getElem?_getD, List.getElem?_eq_getElem hm]
 rfl
theorem after_len {s : Sc} {k : Kn} {i : Nat} {b : Bool} (hk : k.Fit) : (cQ s k i b).1.p.length = 8 ∧ (cQ s k i b).1.f.length = 8 := by
 have h1 := hk.p8;have h2 := hk.f8;unfold cQ;split
 ·exact ⟨h1, h2⟩
 split
 ·exact ⟨by unfold cI; simp only; rw [List.length_set]; exact h1, h2⟩
 ·exact ⟨h1, by unfold cD; simp only; rw [List.length_set]; exact h2⟩
def tF15_e6b7b30 : OT := .alt (bE [0, 1, 2, 3, 4, 5, 6, 7, 8, 9, 10, 11, 12, 13, 14] (.nil)) (bE [12, 0, 1, 2, 3, 4, 5, 6, 7, 8, 9, 10, 11, 13, 14] (.nil))
theorem follow_ca (lo hi b1 b2 b3 bd : Nat) (s : Sc) (tv rv : Value) (k0 : Kn) (plan : List Nd) (vp : Value) (hs0 : s.Ok) (hp : RpOk s plan) (hpl : plan.length ≤ 300) : ∀ (g : Nat), g ≤ 1000 → ∀ (n : Int) (k : Kn) (w : World), (n = -1 ∨ 0 ≤ n ∧ n < plan.length ∧ plan.length ≤ g + n.toNat) → k.Fit → ScR w lo hi tv rv s → RdN w lo hi vp plan → FoE w b1 b2 b3 bd s tv rv k0 vp →
  Ca Tryz.prog 134 [.int .i64 n, knV k, aC0 b1, aC0 b2, aC0 b3] w fun v w' => v = .int .i64 (jL s plan g n k) ∧ Chg [] w w' := by
 have h8 := hs0.rn8;intro g
 induction g with
 | zero =>
  intro hg n k w hn hk h hr hE;obtain rfl : n = -1 := by omega
  rw [fol_neg];exact follow_end lo hi b1 b2 b3 bd s tv rv k0 vp hs0 k w hk h hE
 | succ g ih =>
 intro hg n k w hn hk h hr hE;by_cases hn1 : n = -1
 ·subst hn1;rw [fol_neg];exact follow_end lo hi b1 b2 b3 bd s tv rv k0 vp hs0 k w hk h hE
 have hkb := hk.bd;obtain ⟨⟨t1, hb1⟩, ⟨t2, hb2⟩, ⟨t3, hb3⟩, hbd⟩ := id hE;obtain ⟨n0, n1, n2⟩ := hn.resolve_left hn1;obtain ⟨m, rfl⟩ := Int.eq_ofNat_of_zero_le n0;have hm : m < plan.length := by omega
 obtain ⟨⟨r0, r1⟩, p0, f0⟩ := hp m hm;obtain ⟨i, hri⟩ := Int.eq_ofNat_of_zero_le r0;have hil : i < s.rifles.length := by omega
 have hnd := ndV_get hm;obtain ⟨pa, pcap, rfl, hps⟩ := hr.outI;obtain ⟨pb', po, rfl⟩ := hps J;refine q_ofM (Sat.nil w M0) Tryz.func134 Z (by simp [Tryz.ntmps134]) ?_;(refine aC (aB ?_));refine bR Z Z (fun b6 => ?_);rw [bL];refine bF zero3 Z (fun b7 => ?_);(refine aD (aC (aC (aB (aA1 zq (cZ U Z Z Z J (aD (aG Z (aK (aC (aB (aA1 zq ?_))))))))))); refine aD (aC (aC (aB ?_))));refine cT 4 [.bool true, .bool false] Z qB Z (fun bn => ?_);(refine aA1 zq (aA1 zq (aD (aM ?_))));refine bM (σ := Nat) (fun j => j ≤ 2 ∧ ∀ i', i' < j → ¬ ((cJ s k i i').2 = true ∧ fJ s plan g (ndV plan m) k i i' < 0)) (fun j => 2 - j) (fun j => [(0, .int .i64 m), (2, aC0 b1), (3, aC0 b2), (4, aC0 b3), (6, aC0 b6), (7, aC0 b7), (8, .int .i64 (pN s plan g (ndV plan m) k i j)), (21, aB9 bn 2 2), (22, .int .i64 2), (23, .int .i64 j)]) (fun _ => [.pt b7 [.int .i64 0] 3, .pt b6 (knC k) 182, .pt bn [.bool true, .bool false] 4]) 0 ⟨by omega, fun _ h => by omega⟩ ⟨Z, Z, Z, Z, Z, Z, Z, Z, Z, Z, trivial⟩ (by repeat (first | exact Sp.nil | exact Sp.refl _ | refine Sp.cons O ?_)) ?_;rintro j ⟨hj, hno⟩ K hK;have hob := out_bd s plan g (ndV plan m) k i j;(refine aC (aB (aA1 zq (aD (aC ?_)))));refine dN Z (fun hc => ?_) (fun hc => ?_)
 ·have hj2 : j < 2 := by omega
  clear hc;have hFb := nT s plan g (nxJ (ndV plan m) j) (cJ s k i j).1
  obtain ⟨pb, nx, hpv, hpj, hnx, hpt, hpf, hnxr⟩ : ∃ (pb : Bool) (nx : Int), [Value.bool true, Value.bool false][j]? = some (.bool pb) ∧ pbJ j = pb ∧ nxJ (ndV plan m) j = nx ∧ (pb = true → nx = plan[m].p) ∧ (pb = false → nx = plan[m].f) ∧ (nx = -1 ∨ 0 ≤ nx ∧ nx < plan.length ∧ plan.length ≤ g + nx.toNat) := by
   obtain rfl | rfl : j = 0 ∨ j = 1 := by omega
   ·exact ⟨true, _, Z, Z, Z, fun _ => by simp [nxJ, hnd], fun h => by simp at h, by simp only [nxJ, if_pos]; omega⟩
   ·exact ⟨false, _, Z, Z, Z, fun h => by simp at h, fun _ => by simp [nxJ, hnd], by simp only [nxJ]; rw [if_neg J]; omega⟩
  (refine aK (aC (aM (aC (aB ?_)))))
  refine aA7 Wa J J ?_;refine bI (v := .bool pb) U Z Z Z (fun w hs => by rw [(hs.blk (b := bn) (by repeat first | exact .head _ | refine .tail _ ?_)).cell]; simpa using hpv) ?_
  have hclen : (knC (cJ s k i j).1).length = 18 := by
   obtain ⟨h1, h2⟩ := after_len (s := s) (i := i) (b := pbJ j) hk;simp [knC, cK, cJ, h1, h2]
  have hcv : cJ s k i j = cQ s k i pb := by rw [← hpj]; rfl
  (refine aA1 zq (aD (aC (aB ?_))); refine gA U Z Z Z (by assumption) (by rfl) ?_; refine aA1 zq ?_)
  refine aA7 Wa J J ?_;(refine aA1 zq ?_);refine bI (v := .int .i64 plan[m].f) U Z Z Z (fun w hs => by simpa using RdN.at2 (RdE.keep hr hs.chg0) m hm) ?_;cases pb with
  | true =>
   (refine aA1 zq (aD (aC (aC (aB (aA1 zq (aD (aH Z (aB ?_)))))))); refine gA U Z Z Z (by assumption) (by rfl) ?_; refine aA1 zq ?_)
   refine aA7 Wa J J ?_;(refine aA1 zq ?_);refine bI (v := .int .i64 plan[m].p) U Z Z Z (fun w hs => by simpa using RdN.at1 (RdE.keep hr hs.chg0) m hm) ?_;rw [← hpt rfl];(refine aA1 zq (aD (aC ?_)));refine fT (σ := Nat) (fun b12 => [(0, .int .i64 m), (2, aC0 b1), (3, aC0 b2), (4, aC0 b3), (6, aC0 b6), (7, aC0 b7), (8, .int .i64 (pN s plan g (ndV plan m) k i j)), (11, .int .i64 nx), (12, aC0 b12), (13, .bool (cJ s k i j).2), (21, aB9 bn 2 2), (22, .int .i64 2), (23, .int .i64 j)]) (fun b12 => [.pt b7 [.int .i64 0] 3, .pt b6 (knC k) 182, .pt bn [.bool true, .bool false] 4, .pt b12 (knC (cJ s k i j).1) 182]) ?_ ?_;rotate_left
   ·intro K2 hK2;refine eQ (tF15_e6b7b30) _ [] (Sp.refl _) qB qB ?_;refine cA ?_ ?_
    ·refine bA qA fun K1 hK1 => ?_;(refine dV U Z Z Z (by assumption) (by rfl) ?_)
     refine cV (cs := knC k) U Z Z Z (dL hkb) (fun w hs q hq => by rw [(hs.blk (b := b6) (by repeat first | exact .head _ | refine .tail _ ?_)).cell, Nat.zero_add]) ?_;(refine dV U Z Z Z (by assumption) (by rfl) ?_; refine aA2 xq ?_);refine aA3 Wa J J ?_;(refine aA2 xq ?_);refine aR (v := .int .i64 i) U Z Z Z (fun w hs => by have := RdN.at0 (RdE.keep hr hs.chg0) m hm; rw [← hnd, hri] at this; simpa using this) ?_;(refine aA2 xq ?_);refine bN (val := .tuple #[knV (cJ s k i j).1, .bool (cJ s k i j).2]) U Z Z Z Z (fun w' hs => by rw [hcv]; exact jE w' lo hi bd s tv rv k0 k (h.keep hs.chg0) (hbd.keep hs.chg0) hs0 hkb i hil _) ?_;(refine aA2 xq (aB8 xq (aB8 xq ?_)));refine bG lA Z (fun b12 => ?_);refine cL (us := knC (cJ s k i j).1) U Z Z Z hclen (mS _) O Z ?_;(refine aA2 xq (aN ?_));exact hK1 _ _ (dD (hK2 b12 _ _ ⟨Z, Z, Z, Z, Z, Z, Z, Z, Z, Z, Z, Z, Z, trivial⟩ (by repeat (first | exact Sp.nil | exact Sp.refl _ | refine Sp.cons O ?_))))
    ·refine bA qA fun K1 hK1 => ?_;refine bG lA Z (fun b12 => ?_)
     (refine dV U Z Z Z (by assumption) (by rfl) ?_)
     refine cV (cs := knC k) U Z Z Z (dL hkb) (fun w hs q hq => by rw [(hs.blk (b := b6) (by repeat first | exact .head _ | refine .tail _ ?_)).cell, Nat.zero_add]) ?_;(refine dV U Z Z Z (by assumption) (by rfl) ?_; refine aA2 xq ?_);refine aA3 Wa J J ?_;(refine aA2 xq ?_);refine aR (v := .int .i64 i) U Z Z Z (fun w hs => by have := RdN.at0 (RdE.keep hr hs.chg0) m hm; rw [← hnd, hri] at this; simpa using this) ?_;(refine aA2 xq ?_);refine bN (val := .tuple #[knV (cJ s k i j).1, .bool (cJ s k i j).2]) U Z Z Z Z (fun w' hs => by rw [hcv]; exact jE w' lo hi bd s tv rv k0 k (h.keep hs.chg0) (hbd.keep hs.chg0) hs0 hkb i hil _) ?_;(refine aA2 xq (aB8 xq (aB8 xq ?_)));refine cL (us := knC (cJ s k i j).1) U Z Z Z hclen (mS _) O Z ?_;(refine aA2 xq (aN ?_));exact hK1 _ _ (dD (hK2 b12 _ _ ⟨Z, Z, Z, Z, Z, Z, Z, Z, Z, Z, Z, Z, Z, trivial⟩ (by repeat (first | exact Sp.nil | exact Sp.refl _ | refine Sp.cons O ?_))))
   intro b12;cases hc2 : (cJ s k i j).2 with
   | false =>
    (refine aC (aC (aB (aA1 zq (aA1 zq (aD (aH Z (bH _ Z (aB (aA4 uq J J (aA1 zq (aD ?_))))))))))))
    exact hK (j + 1) _ _ ⟨by omega, fun i' h' => by
     by_cases he : i' = j
     ·rw [he, hc2]; simp
     ·exact hno i' J⟩ J ⟨Z, Z, Z, Z, Z, Z, by simp only [pN]; rw [hc2]; rfl, Z, Z, Z, trivial⟩ (by repeat (first | exact Sp.nil | exact Sp.refl _ | refine Sp.cons O ?_))
   | true =>
    have hcf : (cJ s k i j).1.Fit := pX hk hc2;(refine aC (aC (aB (aA1 zq (aA1 zq (aD (aG Z (aK (aC (aB ?_))))))))); refine gA U Z Z Z (by assumption) (by rfl) ?_; refine aA1 zq ?_);refine dC (cs := knC (cJ s k i j).1) U Z Z Z hclen (fun w hs q hq => by rw [(hs.blk (b := b12) (by repeat first | exact .head _ | refine .tail _ ?_)).cell, Nat.zero_add]) ?_;refine pJ (val := .int .i64 (fJ s plan g (ndV plan m) k i j)) Z Z Z (fun w' hs => CaF.of U Z (by have := ih J nx (cJ s k i j).1 w' hnxr hcf (h.keep hs.chg0) (RdE.keep hr hs.chg0) (hE.keep hs.chg0); unfold fJ; rw [hnx]; exact this)) ?_;have hfb : -1 ≤ fJ s plan g (ndV plan m) k i j ∧ fJ s plan g (ndV plan m) k i j ≤ g := by unfold fJ; exact hFb
    by_cases hneg : fJ s plan g (ndV plan m) k i j < 0
    ·(refine aA1 zq (aD (aC (aC (aB (aA1 zq (aB3 xq J (aD (aH Z (aC (aB ?_)))))))))); refine eM U Z Z Z Z O ?_; refine aD (aS ?_))
     refine q_finM U Z (by repeat (first | exact RVs.nil | apply RVs.tmp Z | apply RVs.cellA Z Z (by repeat first | exact .head _ | refine .tail _ ?_) (by rfl) | apply RVs.cell1 Z Z (by repeat first | exact .head _ | refine .tail _ ?_))) fun w hs => ?_;exact ⟨by rw [nB hri hj2 hc2 hneg]; rfl, hs.chg0⟩
    ·(refine aA1 zq (aD (aC (aC (aB (aA1 zq (aB4 xq J (aD (aG Z (aK (aB (aA1 zq ?_))))))))))); refine aA1 zq (aA4 uq J J ?_))
     refine cT 3 [.int .i64 (1 + fJ s plan g (ndV plan m) k i j)] Z qB Z (fun bq => ?_);refine aI (val := .int .i64 (max (pN s plan g (ndV plan m) k i j) (1 + fJ s plan g (ndV plan m) k i j))) U Z Z Z Z (fun w hs => ?_) ?_; exact by have := jC w _ _ (pN s plan g (ndV plan m) k i j) _ [1 + fJ s plan g (ndV plan m) k i j] (Blk.rdI (c := 1) (hs.blk (b := bq) (cs := aX [1 + fJ s plan g (ndV plan m) k i j]) (by repeat first | exact .head _ | refine .tail _ ?_))) (by simp); exact this
     (refine aA1 zq (aD (bK (aB (aA4 uq J J (aA1 zq (aD ?_)))))))
     exact hK (j + 1) _ _ ⟨by omega, fun i' h' => by
      by_cases he : i' = j
      ·rw [he]; exact fun e => hneg e.2
      ·exact hno i' J⟩ J ⟨Z, Z, Z, Z, Z, Z, by simp only [pN]; rw [hc2]; rfl, Z, Z, Z, trivial⟩ (by repeat (first | exact Sp.nil | exact Sp.refl _ | refine Sp.cons O ?_))
  | false =>
   rw [← hpf rfl];(refine aA1 zq (aD (aC (aC (aB (aA1 zq (aD (aG Z (aK (aC ?_))))))))));refine fT (σ := Nat) (fun b12 => [(0, .int .i64 m), (2, aC0 b1), (3, aC0 b2), (4, aC0 b3), (6, aC0 b6), (7, aC0 b7), (8, .int .i64 (pN s plan g (ndV plan m) k i j)), (11, .int .i64 nx), (12, aC0 b12), (13, .bool (cJ s k i j).2), (21, aB9 bn 2 2), (22, .int .i64 2), (23, .int .i64 j)]) (fun b12 => [.pt b7 [.int .i64 0] 3, .pt b6 (knC k) 182, .pt bn [.bool true, .bool false] 4, .pt b12 (knC (cJ s k i j).1) 182]) ?_ ?_;rotate_left
   ·intro K2 hK2;refine eQ (tF15_e6b7b30) _ [] (Sp.refl _) qB qB ?_;refine cA ?_ ?_
    ·refine bA qA fun K1 hK1 => ?_;(refine dV U Z Z Z (by assumption) (by rfl) ?_)
     refine cV (cs := knC k) U Z Z Z (dL hkb) (fun w hs q hq => by rw [(hs.blk (b := b6) (by repeat first | exact .head _ | refine .tail _ ?_)).cell, Nat.zero_add]) ?_;(refine dV U Z Z Z (by assumption) (by rfl) ?_; refine aA2 xq ?_);refine aA3 Wa J J ?_;(refine aA2 xq ?_);refine aR (v := .int .i64 i) U Z Z Z (fun w hs => by have := RdN.at0 (RdE.keep hr hs.chg0) m hm; rw [← hnd, hri] at this; simpa using this) ?_;(refine aA2 xq ?_);refine bN (val := .tuple #[knV (cJ s k i j).1, .bool (cJ s k i j).2]) U Z Z Z Z (fun w' hs => by rw [hcv]; exact jE w' lo hi bd s tv rv k0 k (h.keep hs.chg0) (hbd.keep hs.chg0) hs0 hkb i hil _) ?_;(refine aA2 xq (aB8 xq (aB8 xq ?_)));refine bG lA Z (fun b12 => ?_);refine cL (us := knC (cJ s k i j).1) U Z Z Z hclen (mS _) O Z ?_;(refine aA2 xq (aN ?_));exact hK1 _ _ (dD (hK2 b12 _ _ ⟨Z, Z, Z, Z, Z, Z, Z, Z, Z, Z, Z, Z, Z, trivial⟩ (by repeat (first | exact Sp.nil | exact Sp.refl _ | refine Sp.cons O ?_))))
    ·refine bA qA fun K1 hK1 => ?_;refine bG lA Z (fun b12 => ?_)
     (refine dV U Z Z Z (by assumption) (by rfl) ?_)
     refine cV (cs := knC k) U Z Z Z (dL hkb) (fun w hs q hq => by rw [(hs.blk (b := b6) (by repeat first | exact .head _ | refine .tail _ ?_)).cell, Nat.zero_add]) ?_;(refine dV U Z Z Z (by assumption) (by rfl) ?_; refine aA2 xq ?_);refine aA3 Wa J J ?_;(refine aA2 xq ?_);refine aR (v := .int .i64 i) U Z Z Z (fun w hs => by have := RdN.at0 (RdE.keep hr hs.chg0) m hm; rw [← hnd, hri] at this; simpa using this) ?_;(refine aA2 xq ?_);refine bN (val := .tuple #[knV (cJ s k i j).1, .bool (cJ s k i j).2]) U Z Z Z Z (fun w' hs => by rw [hcv]; exact jE w' lo hi bd s tv rv k0 k (h.keep hs.chg0) (hbd.keep hs.chg0) hs0 hkb i hil _) ?_;(refine aA2 xq (aB8 xq (aB8 xq ?_)));refine cL (us := knC (cJ s k i j).1) U Z Z Z hclen (mS _) O Z ?_;(refine aA2 xq (aN ?_));exact hK1 _ _ (dD (hK2 b12 _ _ ⟨Z, Z, Z, Z, Z, Z, Z, Z, Z, Z, Z, Z, Z, trivial⟩ (by repeat (first | exact Sp.nil | exact Sp.refl _ | refine Sp.cons O ?_))))
   intro b12;cases hc2 : (cJ s k i j).2 with
   | false =>
    (refine aC (aC (aB (aA1 zq (aA1 zq (aD (aH Z (bH _ Z (aB (aA4 uq J J (aA1 zq (aD ?_))))))))))))
    exact hK (j + 1) _ _ ⟨by omega, fun i' h' => by
     by_cases he : i' = j
     ·rw [he, hc2]; simp
     ·exact hno i' J⟩ J ⟨Z, Z, Z, Z, Z, Z, by simp only [pN]; rw [hc2]; rfl, Z, Z, Z, trivial⟩ (by repeat (first | exact Sp.nil | exact Sp.refl _ | refine Sp.cons O ?_))
   | true =>
    have hcf : (cJ s k i j).1.Fit := pX hk hc2;(refine aC (aC (aB (aA1 zq (aA1 zq (aD (aG Z (aK (aC (aB ?_))))))))); refine gA U Z Z Z (by assumption) (by rfl) ?_; refine aA1 zq ?_);refine dC (cs := knC (cJ s k i j).1) U Z Z Z hclen (fun w hs q hq => by rw [(hs.blk (b := b12) (by repeat first | exact .head _ | refine .tail _ ?_)).cell, Nat.zero_add]) ?_;refine pJ (val := .int .i64 (fJ s plan g (ndV plan m) k i j)) Z Z Z (fun w' hs => CaF.of U Z (by have := ih J nx (cJ s k i j).1 w' hnxr hcf (h.keep hs.chg0) (RdE.keep hr hs.chg0) (hE.keep hs.chg0); unfold fJ; rw [hnx]; exact this)) ?_;have hfb : -1 ≤ fJ s plan g (ndV plan m) k i j ∧ fJ s plan g (ndV plan m) k i j ≤ g := by unfold fJ; exact hFb
    by_cases hneg : fJ s plan g (ndV plan m) k i j < 0
    ·(refine aA1 zq (aD (aC (aC (aB (aA1 zq (aB3 xq J (aD (aH Z (aC (aB ?_)))))))))); refine eM U Z Z Z Z O ?_; refine aD (aS ?_))
     refine q_finM U Z (by repeat (first | exact RVs.nil | apply RVs.tmp Z | apply RVs.cellA Z Z (by repeat first | exact .head _ | refine .tail _ ?_) (by rfl) | apply RVs.cell1 Z Z (by repeat first | exact .head _ | refine .tail _ ?_))) fun w hs => ?_;exact ⟨by rw [nB hri hj2 hc2 hneg]; rfl, hs.chg0⟩
    ·(refine aA1 zq (aD (aC (aC (aB (aA1 zq (aB4 xq J (aD (aG Z (aK (aB (aA1 zq ?_))))))))))); refine aA1 zq (aA4 uq J J ?_))
     refine cT 3 [.int .i64 (1 + fJ s plan g (ndV plan m) k i j)] Z qB Z (fun bq => ?_);refine aI (val := .int .i64 (max (pN s plan g (ndV plan m) k i j) (1 + fJ s plan g (ndV plan m) k i j))) U Z Z Z Z (fun w hs => ?_) ?_; exact by have := jC w _ _ (pN s plan g (ndV plan m) k i j) _ [1 + fJ s plan g (ndV plan m) k i j] (Blk.rdI (c := 1) (hs.blk (b := bq) (cs := aX [1 + fJ s plan g (ndV plan m) k i j]) (by repeat first | exact .head _ | refine .tail _ ?_))) (by simp); exact this
     (refine aA1 zq (aD (bK (aB (aA4 uq J J (aA1 zq (aD ?_)))))))
     exact hK (j + 1) _ _ ⟨by omega, fun i' h' => by
      by_cases he : i' = j
      ·rw [he]; exact fun e => hneg e.2
      ·exact hno i' J⟩ J ⟨Z, Z, Z, Z, Z, Z, by simp only [pN]; rw [hc2]; rfl, Z, Z, Z, trivial⟩ (by repeat (first | exact Sp.nil | exact Sp.refl _ | refine Sp.cons O ?_))
 ·obtain rfl : j = 2 := by omega
  rw [fol_out hri hno];(refine bH _ Z (aC (aB (aA1 zq ?_))); refine eM U Z Z Z Z O ?_; refine aD (aS ?_));refine q_finM U Z (by repeat (first | exact RVs.nil | apply RVs.tmp Z | apply RVs.cellA Z Z (by repeat first | exact .head _ | refine .tail _ ?_) (by rfl) | apply RVs.cell1 Z Z (by repeat first | exact .head _ | refine .tail _ ?_))) fun w hs => ?_
  exact ⟨Z, hs.chg0⟩
theorem rdepth_no (w : World) (lo hi : Nat) (s : Sc) (tv rv vp : Value) (plan : List Nd) (h : ScR w lo hi tv rv s) (hl1 : s.tests.length ≤ maxLen) (hl2 : s.rifles.length ≤ maxLen) (hr : RdN w lo hi vp plan) (h0 : eY s ≠ 0) : Ca Tryz.prog 59 [.agg (scC s tv rv).toArray, vp] w fun x w' => x = .tuple #[.int .i64 0, .int .i64 (eY s)] ∧ Chg [] w w' := by
 obtain ⟨pa, pcap, rfl, hps⟩ := hr.outI;refine cN (Sat.nil w M0) Tryz.func59 Z (by simp [Tryz.ntmps59]) ?_;(refine aC (aB ?_));refine bR Z Z (fun b2 => ?_);rw [bL];refine bR Z Z (fun b3 => ?_);(refine aA1 zq (aA1 zq (aD (aC (aB ?_)))); refine aP U Z Z Z ?_);refine aI (val := .tuple #[.pointer none, .int .i64 (eY s)]) U Z Z Z Z (fun w hs => ?_) ?_; exact oB w lo hi s tv rv (h.keep hs.chg0) hl1 hl2 h0;(refine aA1 zq (aB5 xq (aB5 xq ?_)));refine bF zero177 Z (fun b6 => ?_);(refine eM U Z Z Z Z O ?_; refine aA1 zq (aD (aC (aM (aC (aB (aA1 zq (aB0 xq J (aA1 zq (aD (aH Z (aC ?_))))))))))); refine aB ?_; (iterate 3 refine aA1 zq ?_); refine aD (aS ?_));refine aA5 wq O fun w hs => ?_
 exact ⟨Z, hs.chg0⟩
theorem dsk_take2 (s : Sc) (tv rv : Value) : List.take 18 (List.drop (0 + 4) (dskC s tv rv (bP s))) = knC (bP s) := rfl
def fW (plan : List Nd) : Int := if plan.length = 0 then -1 else 0
def depP (s : Sc) (plan : List Nd) : Int := jL s plan plan.length (fW plan) (bP s)
def rpB (s : Sc) (plan : List Nd) : Bool := (List.range plan.length).all (ndB s plan)
theorem rpB_iff {s : Sc} {plan : List Nd} : rpB s plan = true ↔ RpOk s plan := by
 rw [rp_iff];simp [rpB]
theorem rdepth_ok (w : World) (lo hi : Nat) (s : Sc) (tv rv vp : Value) (plan : List Nd) (h : ScR w lo hi tv rv s) (hs0 : SOk s) (hr : RdN w lo hi vp plan) (hpl : plan.length ≤ 300) : Ca Tryz.prog 59 [.agg (scC s tv rv).toArray, vp] w fun x w' => x = (if rpB s plan = true then (if depP s plan < 0 then .tuple #[.int .i64 0, .int .i64 8] else .tuple #[.int .i64 (depP s plan), .int .i64 0]) else .tuple #[.int .i64 0, .int .i64 1]) ∧ Chg [] w w' := by
 have hfit := eK hs0.le;have hrn := hs0.ok.rn8;obtain ⟨pa, pcap, rfl, hps⟩ := hr.outI;obtain ⟨ra, rcap, rfl, _⟩ := h.r.outI;refine cN (Sat.nil w M0) Tryz.func59 Z (by simp [Tryz.ntmps59]) ?_;(refine aC (aB ?_));refine bR Z Z (fun b2 => ?_);rw [bL];refine bR Z Z (fun b3 => ?_);(refine aA1 zq (aA1 zq (aD (aC (aB ?_)))); refine aP U Z Z Z ?_);refine bC (β := Nat) U [] _ M0 Z Z Z Z (Sp.refl _) qC (fun w' hs => lW w' lo hi s tv _ (h.keep hs.chg0) hs0.ok hs0.le) ?_;rintro bd _ rfl;dsimp only [List.cons_append, List.nil_append];(refine aA1 zq (aB5 xq (aB5 xq ?_)));refine bF zero177 Z (fun b6 => ?_);(refine eM U Z Z Z Z O ?_; refine aA1 zq (aD (aC (aM (aC (aB (aA1 zq (aA6 xq J (aA1 zq (aD (aG Z (aC ?_))))))))))); refine aB ?_; refine aJ U Z Z Z ?_; refine aA1 zq (aB1 xq J (aA1 zq (aD (aG Z (aK (bK (aC (aC (aB ?_))))))))); refine aJ U Z Z Z ?_; refine aA1 zq (aA1 zq (aD (aM ?_))));refine bM (σ := Nat) (fun i => i ≤ plan.length ∧ ∀ i', i' < i → ndB s plan i' = true) (fun i => plan.length - i) (fun i => [(2, aC0 b2), (3, aC0 b3), (6, aC0 b6), (27, .slice pa plan.length pcap), (28, .int .i64 plan.length), (29, .int .i64 i)]) (fun _ => [.pt b2 (scC s tv (.slice ra s.rifles.length rcap)) 46, .pt b3 [.slice pa plan.length pcap] 88, .pt b6 [aC0 bd] 177, .pt bd (dskC s tv (.slice ra s.rifles.length rcap) (bP s)) 184]) 0 ⟨by omega, fun _ h => by omega⟩ ⟨Z, Z, Z, Z, Z, Z, trivial⟩ O ?_;rintro i ⟨hi1, hno⟩ K hK;(refine aC (aB (aA1 zq (aD (aC ?_)))));refine dN Z (fun hc => ?_) (fun hc => ?_)
 ·have hil : i < plan.length := by omega
  clear hc;obtain ⟨pb', po, rfl⟩ := hps J;have hnd := ndV_get hil;(refine aK (aC (aM (aC (aB (aA1 zq ?_))))));refine aA7 Wa J J ?_;refine dC (cs := [.int .i64 plan[i].r, .int .i64 plan[i].p, .int .i64 plan[i].f]) U Z Z Z Z (fun w hs q hq => by simpa using RdN.at (RdE.keep hr hs.chg0) i hil q hq) ?_;refine bF zero3 Z (fun b8 => ?_);refine bF zero91 Z (fun b9 => ?_);(refine eM U Z Z Z Z O ?_; refine aB6 Wa O Z ?_; refine aD (aC (aB (aA1 zq (aA1 zq (aD (aC (aB (aA1 zq ?_)))))))); refine aJ U Z Z Z ?_; refine aA1 zq ?_; refine aJ U Z Z Z ?_; refine aA1 zq (aA4 uq J J ?_));refine aI (val := .bool (inB plan[i].r 0 ((s.rifles.length : Int) - 1))) U Z Z Z Z (fun w hs => ?_) ?_; exact eZ _ _ _ w;have hndb : ndB s plan i = (inB plan[i].r 0 ((s.rifles.length : Int) - 1) && (nxB i plan plan[i].p && nxB i plan plan[i].f)) := by unfold ndB; rw [hnd]
  have hbad : ndB s plan i = false → rpB s plan = false := fun e => by
   cases h1 : rpB s plan with
   | false => rfl
   | true =>
    have := rp_iff.1 (rpB_iff.1 h1) i hil;rw [e] at this;cases this
  cases h1 : inB plan[i].r 0 ((s.rifles.length : Int) - 1) with
  | false =>
   rw [hbad (by rw [hndb, h1]; rfl)];(refine aA1 zq (aA1 zq ?_); (iterate 5 refine aA8 yq ?_); refine aA1 zq (aA1 zq ?_); (iterate 5 refine aA8 yq ?_); refine aA1 zq (aD (aH Z (aC (aB (aA1 zq (aA1 zq (aD (aS ?_)))))))));refine aA5 wq O fun w hs => ?_
   exact ⟨Z, hs.chg0⟩
  | true =>
   (refine aA1 zq (aA1 zq (aE Z (aA1 zq (aE Z (aA1 zq (aE Z ?_)))))); refine aJ U Z Z Z ?_; refine aE Z ?_)
   refine pJ (val := .bool (nxB i plan plan[i].p)) Z Z Z (fun w' hs => CaF.of U Z (rnext_ca w' lo hi b8 b3 i plan _ plan[i].p _ _ (hs.blk (b := b8) O) (hs.blk (b := b3) O) (RdE.keep hr hs.chg0) hpl J)) ?_;cases h2 : nxB i plan plan[i].p with
   | false =>
    rw [hbad (by rw [hndb, h1, h2]; rfl)];(refine aE Z ?_; (iterate 3 refine aA1 zq ?_); (iterate 5 refine aA8 yq ?_); refine aA1 zq (aD (aH Z (aC (aB (aA1 zq (aA1 zq (aD (aS ?_)))))))));refine aA5 wq O fun w hs => ?_
    exact ⟨Z, hs.chg0⟩
   | true =>
    (refine aE Z ?_; (iterate 3 refine aA1 zq ?_); refine aE Z (aA1 zq (aE Z (aA1 zq (aE Z ?_)))); refine aJ U Z Z Z ?_; refine aE Z ?_)
    refine pJ (val := .bool (nxB i plan plan[i].f)) Z Z Z (fun w' hs => CaF.of U Z (rnext_ca w' lo hi b8 b3 i plan _ plan[i].f _ _ (hs.blk (b := b8) O) (hs.blk (b := b3) O) (RdE.keep hr hs.chg0) hpl J)) ?_;cases h3 : nxB i plan plan[i].f with
    | false =>
     rw [hbad (by rw [hndb, h1, h2, h3]; rfl)];(refine aE Z (aA1 zq (aA1 zq (aD (aH Z (aC (aB (aA1 zq (aA1 zq (aD (aS ?_)))))))))));refine aA5 wq O fun w hs => ?_
     exact ⟨Z, hs.chg0⟩
    | true =>
     (refine aE Z (aA1 zq (aA1 zq (aD (aG Z (aK (bK (aB (aA4 uq J J (aA1 zq (aD ?_)))))))))))
     exact hK (i + 1) _ _ ⟨by omega, fun i' h' => by
      by_cases he : i' = i
      ·rw [he, hndb, h1, h2, h3]; rfl
      ·exact hno i' J⟩ J ⟨Z, Z, Z, Z, Z, Z, trivial⟩ O
 ·obtain rfl : i = plan.length := by omega
  have hrp : RpOk s plan := rp_iff.2 hno;rw [if_pos (rpB_iff.2 hrp)];(refine bH _ Z (aC (aB ?_)));refine bF zero215 Z (fun b11 => ?_);have hdb := nT s plan plan.length (fW plan) (bP s)
  have hst : fW plan = -1 ∨ 0 ≤ fW plan ∧ fW plan < plan.length ∧ plan.length ≤ plan.length + (fW plan).toNat := by
   unfold fW;split <;> omega
  by_cases hz : plan.length = 0
  ·have hst2 : fW plan = -1 := by unfold fW; rw [if_pos hz]
   (refine aD (aC (aB (aA1 zq ?_))); refine eM U Z Z Z Z O ?_; refine aD (aC (aB (aA1 zq (aD (aC (aC (aB ?_))))))); refine aJ U Z Z Z ?_; refine aA1 zq (aB2 xq J (aD (aH Z (aB (aA1 zq (aD (aC (aC ?_)))))))))
   refine bZ _ [] (Sp.refl _) qB qB ?_;(refine bB U Z Z Z ?_; refine aA2 xq ?_; refine bB U Z Z Z ?_; refine aA2 xq (aA2 xq ?_); refine aV U Z Z Z ?_);rw [dsk_take2 s tv _];refine kD (val := .int .i64 (depP s plan)) Z Z Z (fun w' hs => CaF.of U Z (by have := follow_ca lo hi b6 b3 b11 bd s tv _ (bP s) plan _ hs0.ok hrp hpl plan.length J (fW plan) (bP s) w' hst hfit (h.keep hs.chg0) (RdE.keep hr hs.chg0) ⟨⟨_, hs.blk (b := b6) O⟩, ⟨_, hs.blk (b := b3) O⟩, ⟨_, hs.blk (b := b11) O⟩, hs.blk (b := bd) O⟩; rw [show jL s plan plan.length (fW plan) (bP s) = depP s plan from rfl, hst2] at this; exact this)) ?_;by_cases hneg : depP s plan < 0
   ·rw [if_pos hneg];(refine aA2 xq (aN (aC (aB (aA1 zq (jT U Z Z Z J (aD (aG Z (aK (aC (aB (aA1 zq ?_))))))))))); refine aA1 zq (aD (aS ?_)));refine aA5 wq O fun w hs => ?_
    exact ⟨Z, hs.chg0⟩
   ·rw [if_neg hneg];(refine aA2 xq (aN (aC (aB (aA1 zq (jP U Z Z Z J (aD (aH Z (aC (aB ?_))))))))); (iterate 3 refine aA1 zq ?_); refine aD (aS ?_));refine aA5 wq O fun w hs => ?_
    exact ⟨Z, hs.chg0⟩
  ·have hst2 : fW plan = 0 := by unfold fW; rw [if_neg hz]
   (refine aD (aC (aB (aA1 zq ?_))); refine eM U Z Z Z Z O ?_; refine aD (aC (aB (aA1 zq (aD (aC (aC (aB ?_))))))); refine aJ U Z Z Z ?_; refine aA1 zq (cZ U Z Z Z J (aD (aG Z (aK (aC (aC ?_)))))))
   refine bZ _ [] (Sp.refl _) qB qB ?_;(refine bB U Z Z Z ?_; refine aA2 xq ?_; refine bB U Z Z Z ?_; refine aA2 xq (aA2 xq ?_); refine aV U Z Z Z ?_);rw [dsk_take2 s tv _];refine kD (val := .int .i64 (depP s plan)) Z Z Z (fun w' hs => CaF.of U Z (by have := follow_ca lo hi b6 b3 b11 bd s tv _ (bP s) plan _ hs0.ok hrp hpl plan.length J (fW plan) (bP s) w' hst hfit (h.keep hs.chg0) (RdE.keep hr hs.chg0) ⟨⟨_, hs.blk (b := b6) O⟩, ⟨_, hs.blk (b := b3) O⟩, ⟨_, hs.blk (b := b11) O⟩, hs.blk (b := bd) O⟩; rw [show jL s plan plan.length (fW plan) (bP s) = depP s plan from rfl, hst2] at this; exact this)) ?_;by_cases hneg : depP s plan < 0
   ·rw [if_pos hneg];(refine aA2 xq (aN (aC (aB (aA1 zq (jT U Z Z Z J (aD (aG Z (aK (aC (aB (aA1 zq ?_))))))))))); refine aA1 zq (aD (aS ?_)));refine aA5 wq O fun w hs => ?_
    exact ⟨Z, hs.chg0⟩
   ·rw [if_neg hneg];(refine aA2 xq (aN (aC (aB (aA1 zq (jP U Z Z Z J (aD (aH Z (aC (aB ?_))))))))); (iterate 3 refine aA1 zq ?_); refine aD (aS ?_));refine aA5 wq O fun w hs => ?_
    exact ⟨Z, hs.chg0⟩
theorem hold_flat : nQ Tryz.prog 28 [some .i64, some .i64, some .i64] = true := by kernel_rfl
theorem eqH_ca (w : World) (lo hi lo2 hi2 : Nat) (v u : Value) (l : List Hd) (h1 : RdH w lo hi v l) (h2 : RdH w lo2 hi2 u l) (hlen : l.length ≤ 1000000) :
  Ca Tryz.prog 80 [v, u] w fun r w' => r = .bool true ∧ Chg [] w w' := by
 obtain ⟨a, ca, rfl, hsa⟩ := RdH.outI h1;obtain ⟨b, cb, rfl, hsb⟩ := RdH.outI h2;refine cN (Sat.nil w M0) Tryz.func80 Z (by simp [Tryz.ntmps80]) ?_;(refine aC (aB (aA1 zq (aD (aC (aC (aB ?_)))))); (iterate 4 refine aA1 zq ?_); refine aA6 xq J (aD (aG Z (aK (aC (aC (aB ?_)))))); (iterate 3 refine aA1 zq ?_); refine aD (aM ?_));refine bM (σ := Nat) (fun s => s ≤ l.length) (fun s => l.length - s) (fun s => [(0, .slice a l.length ca), (1, .slice b l.length cb), (12, .int .i64 l.length), (13, .int .i64 s)]) (fun _ => []) 0 J ⟨Z, Z, Z, Z, trivial⟩ O ?_;intro i hi K hK;(refine aC (aB (aA1 zq (aD (aC ?_)))));refine dN Z (fun hc => ?_) (fun hc => ?_)
 ·have hi2 : i < l.length := by omega
  clear hc;obtain ⟨ba, oa, rfl⟩ := hsa J;obtain ⟨bb, ob, rfl⟩ := hsb J;(refine aK (aC (aM (aC (aB (aA1 zq (aA1 zq (aD (aC ?_)))))))));refine bZ _ [] (Sp.refl _) qB qB ?_;(refine aA2 xq (aA2 xq ?_));refine aA3 Wa J J ?_;refine cV U Z Z Z Z (fun w hs => RdH.at (RdE.keep h1 hs.chg0) i hi2) ?_;(refine aA2 xq (aA2 xq ?_));refine aA3 Wa J J ?_;refine cV U Z Z Z Z (fun w hs => RdH.at (RdE.keep h2 hs.chg0) i hi2) ?_;refine qf_neF [some .i64, some .i64, some .i64] hold_flat Z Z Z Z Z ?_;rw [kK];(refine aN (aG Z (aK (bK (aB (aA4 uq J J (aA1 zq (aD ?_))))))));exact hK (i + 1) _ _ J J ⟨Z, Z, Z, Z, trivial⟩ O
 ·(refine bH _ Z (aC (aB (aA1 zq (aD (aS ?_))))))
  refine aA5 wq O fun w hs => ?_;exact ⟨Z, hs.chg0⟩
theorem node_flat : nQ Tryz.prog 91 [some .i64, some .i64, some .i64] = true := by kernel_rfl
theorem eqN_ca (w : World) (lo hi lo2 hi2 : Nat) (v u : Value) (l : List Nd) (h1 : RdN w lo hi v l) (h2 : RdN w lo2 hi2 u l) (hlen : l.length ≤ 1000000) :
  Ca Tryz.prog 60 [v, u] w fun r w' => r = .bool true ∧ Chg [] w w' := by
 obtain ⟨a, ca, rfl, hsa⟩ := RdN.outI h1;obtain ⟨b, cb, rfl, hsb⟩ := RdN.outI h2;refine cN (Sat.nil w M0) Tryz.func60 Z (by simp [Tryz.ntmps60]) ?_;(refine aC (aB (aA1 zq (aD (aC (aC (aB ?_)))))); (iterate 4 refine aA1 zq ?_); refine aA6 xq J (aD (aG Z (aK (aC (aC (aB ?_)))))); (iterate 3 refine aA1 zq ?_); refine aD (aM ?_));refine bM (σ := Nat) (fun s => s ≤ l.length) (fun s => l.length - s) (fun s => [(0, .slice a l.length ca), (1, .slice b l.length cb), (12, .int .i64 l.length), (13, .int .i64 s)]) (fun _ => []) 0 J ⟨Z, Z, Z, Z, trivial⟩ O ?_;intro i hi K hK;(refine aC (aB (aA1 zq (aD (aC ?_)))));refine dN Z (fun hc => ?_) (fun hc => ?_)
 ·have hi2 : i < l.length := by omega
  clear hc;obtain ⟨ba, oa, rfl⟩ := hsa J;obtain ⟨bb, ob, rfl⟩ := hsb J;(refine aK (aC (aM (aC (aB (aA1 zq (aA1 zq (aD (aC ?_)))))))));refine bZ _ [] (Sp.refl _) qB qB ?_;(refine aA2 xq (aA2 xq ?_));refine aA3 Wa J J ?_;refine cV U Z Z Z Z (fun w hs => RdN.at (RdE.keep h1 hs.chg0) i hi2) ?_;(refine aA2 xq (aA2 xq ?_));refine aA3 Wa J J ?_;refine cV U Z Z Z Z (fun w hs => RdN.at (RdE.keep h2 hs.chg0) i hi2) ?_;refine qf_neF [some .i64, some .i64, some .i64] node_flat Z Z Z Z Z ?_;rw [kK];(refine aN (aG Z (aK (bK (aB (aA4 uq J J (aA1 zq (aD ?_))))))));exact hK (i + 1) _ _ J J ⟨Z, Z, Z, Z, trivial⟩ O
 ·(refine bH _ Z (aC (aB (aA1 zq (aD (aS ?_))))))
  refine aA5 wq O fun w hs => ?_;exact ⟨Z, hs.chg0⟩
theorem test_flat : nQ Tryz.prog 78 [some .i64, some .i64] = true := by kernel_rfl
theorem eqTs_ca (w : World) (lo hi lo2 hi2 : Nat) (v u : Value) (l : List (Int × Int)) (h1 : RdS w lo hi v l) (h2 : RdS w lo2 hi2 u l) (hlen : l.length ≤ 1000000) :
  Ca Tryz.prog 126 [v, u] w fun r w' => r = .bool true ∧ Chg [] w w' := by
 obtain ⟨a, ca, rfl, hsa⟩ := RdS.outI h1;obtain ⟨b, cb, rfl, hsb⟩ := RdS.outI h2;refine cN (Sat.nil w M0) Tryz.func126 Z (by simp [Tryz.ntmps126]) ?_;(refine aC (aB (aA1 zq (aD (aC (aC (aB ?_)))))); (iterate 4 refine aA1 zq ?_); refine aA6 xq J (aD (aG Z (aK (aC (aC (aB ?_)))))); (iterate 3 refine aA1 zq ?_); refine aD (aM ?_));refine bM (σ := Nat) (fun s => s ≤ l.length) (fun s => l.length - s) (fun s => [(0, .slice a l.length ca), (1, .slice b l.length cb), (12, .int .i64 l.length), (13, .int .i64 s)]) (fun _ => []) 0 J ⟨Z, Z, Z, Z, trivial⟩ O ?_;intro i hi K hK;(refine aC (aB (aA1 zq (aD (aC ?_)))));refine dN Z (fun hc => ?_) (fun hc => ?_)
 ·have hi2 : i < l.length := by omega
  clear hc;obtain ⟨ba, oa, rfl⟩ := hsa J;obtain ⟨bb, ob, rfl⟩ := hsb J;(refine aK (aC (aM (aC (aB (aA1 zq (aA1 zq (aD (aC ?_)))))))));refine bZ _ [] (Sp.refl _) qB qB ?_;(refine aA2 xq (aA2 xq ?_));refine aA3 Wa J J ?_;refine cV U Z Z Z Z (fun w hs => RdS.at (RdE.keep h1 hs.chg0) i hi2) ?_;(refine aA2 xq (aA2 xq ?_));refine aA3 Wa J J ?_;refine cV U Z Z Z Z (fun w hs => RdS.at (RdE.keep h2 hs.chg0) i hi2) ?_;refine qf_neF [some .i64, some .i64] test_flat Z Z Z Z Z ?_;rw [kK];(refine aN (aG Z (aK (bK (aB (aA4 uq J J (aA1 zq (aD ?_))))))));exact hK (i + 1) _ _ J J ⟨Z, Z, Z, Z, trivial⟩ O
 ·(refine bH _ Z (aC (aB (aA1 zq (aD (aS ?_))))))
  refine aA5 wq O fun w hs => ?_;exact ⟨Z, hs.chg0⟩
def fB : Sc := ⟨2, 3500, [(1000, 1005), (2000, 2009)], [3510, 3509, 3504, 3506]⟩
def oneS : Sc := ⟨2, 3500, [(1000, 1005)], [3510, 3509, 3504, 3506]⟩
def planN : List Nd := [⟨3, -1, -1⟩]
def fiveH : List Hd := [⟨0, 0, 10⟩, ⟨0, 5, 30⟩, ⟨0, 8, 20⟩, ⟨0, 20, 40⟩, ⟨0, 29, 60⟩]
def twoA : List (List Int) := [[500, 300, 200, 150], [400, 350, 320]]
theorem rw_four : SOk fB := dU.1 (by decide +kernel)
theorem rw_one : SOk oneS := dU.1 (by decide +kernel)
theorem rw_wgt : wgtL fB 4 = [(3501, 3505), (3500, 3504), (3495, 3499), (3497, 3501)] := by decide +kernel
theorem rw_pas : nI (pasL fB 4) = [0, 1] := by decide +kernel
theorem rw_opn : nI (dO fB (bP fB)) = [3] := by decide +kernel
theorem rw_rp : rpB fB planN = true := by decide +kernel
theorem rw_dep : depP fB planN = 1 := by decide +kernel
theorem rw_few : dE oneS (bP oneS) = 2 := by decide +kernel
theorem rw_sp : SpOk fiveH 0 60 := eJ.1 (by decide +kernel)
theorem rw_mk : mkK fiveH 0 60 [0, 10, 30] 3 = true := by decide +kernel
theorem rw_aim : AimOk twoA := dP.1 (by decide +kernel)
theorem rw_many : manyN twoA = 6 := by decide +kernel
theorem rw_curve : eD twoA 6 = [900, 700, 600, 550, 500, 470] := by decide +kernel
theorem rw_price : mostV twoA (wtsV twoA 3) = 50 := by decide +kernel
theorem rw_lk : Lk fiveH 60 0 [0, 1, 4] [0, 10, 30] 60 := .step (by decide) (by decide) (by decide) (by decide) (.step (by decide) (by decide) (by decide) (by decide) (.step (by decide) (by decide) (by decide) (by decide) (.done (by decide))))
theorem rw_chn {C : List Int} {e : Int} (h : ChnR fiveH 0 60 C e) : e = 0 ∧ C.length = 3 := by
 rcases h with ⟨h1, hs, ms, h2, h3, h4⟩ | ⟨h1, h2, h3⟩
 ·refine ⟨h1, ?_⟩;have := lk_mono h2 rw_lk (Int.le_refl _) (Int.le_refl _) fun _ h => h
  have := lk_mono rw_lk h2 (Int.le_refl _) (Int.le_refl _) fun _ h => h
  rw [h3.length_eq];simp [nI] at *;omega
 ·refine absurd (fun m a b => ?_) h3;obtain ⟨x, hx, hc⟩ := Lk.gd rw_lk m a b;obtain ⟨i, hi, rfl⟩ := List.mem_map.1 hx;have := Lk.idx rw_lk i hi;exact ⟨_, hdL_mem this, hc⟩
theorem Blk.rdH' {w : World} {b c n : Nat} {l : List Hd} {t : TypeId} (h : Blk w b (hdC l) t) (hn : n = l.length) : RdH w 0 w.heap.size (aB9 b n c) l := by
 subst hn;exact RdH.of (Blk.rdN (sz := 3) h (hdC_length l))
theorem Blk.rdNd {w : World} {b c n : Nat} {l : List Nd} {t : TypeId} (h : Blk w b (dK l) t) (hn : n = l.length) : RdN w 0 w.heap.size (aB9 b n c) l := by
 subst hn;exact RdN.of (Blk.rdN (sz := 3) h (fK l))
theorem kI (w : World) : Ca Tryz.prog 98 [] w fun x w' => ∃ y : Nat × Nat, x = .agg (scC fB (aB9 y.1 2 2) (aB9 y.2 4 4)).toArray ∧ Sat w M0 [.pt y.1 (spC fB.tests) 78, .pt y.2 (aX fB.rifles) 3] w' := by
 refine cN (Sat.nil w M0) Tryz.func98 Z (by simp [Tryz.ntmps98]) ?_;(refine aC (aB ?_));refine bF dY Z (fun b0 => ?_);(refine aD (aC (aB ?_)));refine fQ #[.int .i64 1000, .int .i64 1005] Z qB Z ?_;refine fQ #[.int .i64 2000, .int .i64 2009] Z qB Z ?_;refine cT 78 (spC fB.tests) Z qB Z (fun c1 => ?_);refine cT 3 (aX fB.rifles) Z qB Z (fun c2 => ?_);refine fQ #[.int .i64 2, .int .i64 3500, aB9 c1 2 2, aB9 c2 4 4] Z qB Z ?_;(refine aB6 Wa O Z ?_; refine aD (aS ?_));refine aA5 wq O fun w hs => ?_;exact ⟨(c1, c2), Z, hs.sp O⟩
theorem rfive_ca (w : World) : Ca Tryz.prog 99 [] w fun x w' => ∃ b : Nat, x = aB9 b 5 5 ∧ Sat w M0 [.pt b (hdC fiveH) 28] w' := by
 refine cN (Sat.nil w M0) Tryz.func99 Z (by simp [Tryz.ntmps99]) ?_;(refine aC (aB (aA1 zq (aD (aC (aB ?_))))));refine fQ #[.int .i64 0, .int .i64 0, .int .i64 10] Z qB Z ?_;refine fQ #[.int .i64 0, .int .i64 5, .int .i64 30] Z qB Z ?_;refine fQ #[.int .i64 0, .int .i64 8, .int .i64 20] Z qB Z ?_;refine fQ #[.int .i64 0, .int .i64 20, .int .i64 40] Z qB Z ?_;refine fQ #[.int .i64 0, .int .i64 29, .int .i64 60] Z qB Z ?_;refine cT 28 (hdC fiveH) Z qB Z (fun c1 => ?_);(refine aA1 zq (aD (aS ?_)));refine aA5 wq O fun w hs => ?_;exact ⟨c1, Z, hs.sp O⟩
theorem rtwo_ca (w : World) : Ca Tryz.prog 100 [] w fun x w' => ∃ y : Nat × Nat × Nat, x = aB9 y.2.2 2 2 ∧ Sat w M0 [.pt y.2.2 [aB9 y.1 4 4, aB9 y.2.1 3 3] 29, .pt y.2.1 (aX [400, 350, 320]) 3, .pt y.1 (aX [500, 300, 200, 150]) 3] w' := by
 refine cN (Sat.nil w M0) Tryz.func100 Z (by simp [Tryz.ntmps100]) ?_;(refine aC (aB (aA1 zq (aD (aC (aB ?_))))));refine cT 3 (aX [500, 300, 200, 150]) Z qB Z (fun c1 => ?_);refine cT 3 (aX [400, 350, 320]) Z qB Z (fun c2 => ?_);refine cT 29 [aB9 c1 4 4, aB9 c2 3 3] Z qB Z (fun c4 => ?_);(refine aA1 zq (aD (aS ?_)));refine aA5 wq O fun w hs => ?_;exact ⟨(c1, c2, c4), Z, hs.sp O⟩
theorem rspan_ca (lo hi : Int) (w : World) : Ca Tryz.prog 47 [.int .i64 lo, .int .i64 hi] w fun x w' => x = rtV (lo, hi) ∧ Chg [] w w' := by
 refine cN (Sat.nil w M0) Tryz.func47 Z (by simp [Tryz.ntmps47]) ?_;(refine aC (aB ?_));refine bF dR Z (fun b4 => ?_);(refine aD (aC (aB (aA1 zq (aA1 zq ?_)))));refine fQ #[.int .i64 lo, .int .i64 hi] Z qB Z ?_;(refine aB6 Wa O Z ?_; refine aD (aS ?_));refine aA5 wq O fun w hs => ?_;exact ⟨Z, hs.chg0⟩
theorem blk_II2 {w : World} {c1 c2 c4 : Nat} {t1 t2 t4 : TypeId} {l1 l2 : List Int} {n1 n2 : Nat} (e1 : n1 = l1.length) (e2 : n2 = l2.length) (h1 : Blk w c1 (aX l1) t1) (h2 : Blk w c2 (aX l2) t2)
  (h4 : Blk w c4 [aB9 c1 n1 n1, aB9 c2 n2 n2] t4) : RdII w 0 w.heap.size (aB9 c4 2 2) [l1, l2] := by
 subst e1 e2;refine ⟨[aB9 c1 l1.length l1.length, aB9 c2 l2.length l2.length], RdE.one (by have := Blk.rdN (c := 2) (sz := 1) (q := 2) h4 rfl; exact this) (by simp [dJ]), Z, fun i hi hi' => ?_⟩;obtain rfl | rfl : i = 0 ∨ i = 1 := by simp at hi; omega
 ·exact Blk.rdI h1
 ·exact Blk.rdI h2
theorem Blk.rdS1 {w : World} {b : Nat} {t : TypeId} (h : Blk w b (spC fB.tests) t) : RdS w 0 w.heap.size (aB9 b 1 2) oneS.tests := by
 refine RdS.of ⟨Z, .inr ⟨b, 0, 2, Z, fun _ => ⟨Nat.zero_le _, h.lt, h.lt⟩, fun j hj => ?_⟩⟩;rw [h.cell, Nat.zero_add];have hj2 : j < 2 := hj;obtain rfl | rfl : j = 0 ∨ j = 1 := by omega
 ·rfl
 ·rfl
set_option maxRecDepth 4000 in
theorem cY (w : World) : Ca Tryz.prog 23 [] w fun v w' => v = .bool true ∧ Chg [] w w' := by
 refine cN (Sat.nil w M0) Tryz.func23 Z (by simp [Tryz.ntmps23]) ?_;have hF : ∀ w' c1 c2, Blk w' c1 (spC fB.tests) 78 → Blk w' c2 (aX fB.rifles) 3 → ScR w' 0 w'.heap.size (aB9 c1 2 2) (aB9 c2 4 4) fB := fun w' c1 c2 h1 h2 => ⟨Blk.rdS' h1 rfl, Blk.rdI (l := fB.rifles) h2⟩;(refine aC (aB (aA1 zq (aD (aC (aB ?_))))))
 refine bC (β := Nat × Nat) U [] _ M0 Z Z Z Z (Sp.refl _) qC (fun w' hs => kI w') ?_;rintro ⟨c1, c2⟩ _ rfl;dsimp only [List.cons_append, List.nil_append];refine bC (β := Value) U [] _ M0 Z Z Z Z (Sp.refl _) qC (fun w' hs => weights_ok w' 0 w'.heap.size fB _ _ (hF w' c1 c2 (hs.blk O) (hs.blk O)) rw_four) ?_;rintro va _ rfl;rw [show fB.rifles.length = 4 from rfl, rw_wgt];dsimp only [List.cons_append, List.nil_append];refine cU (fun w hs => hs.ownSome (v := va) O (by decide)) ?_;rintro ⟨a1, a2, rfl⟩;(refine aA1 zq (aB5 xq (aB5 xq (aA1 zq (aA1 zq (aD (aC (aB ?_))))))));refine bC (β := Nat × Nat) U [] _ M0 Z Z Z Z (Sp.refl _) qC (fun w' hs => kI w') ?_;rintro ⟨d1, d2⟩ _ rfl;dsimp only [List.cons_append, List.nil_append];refine bC (β := Value) U [] _ M0 Z Z Z Z (Sp.refl _) qC (fun w' hs => passed_ok w' 0 w'.heap.size fB _ _ (hF w' d1 d2 (hs.blk O) (hs.blk O)) rw_four) ?_;rintro vb _ rfl;rw [show fB.rifles.length = 4 from rfl, show (pasL fB 4).length = 2 from by have := congrArg List.length rw_pas; simpa [nI] using this, rw_pas];dsimp only [List.cons_append, List.nil_append];refine cU (fun w hs => hs.ownSome (v := vb) O (by decide)) ?_;rintro ⟨b1, b2, rfl⟩;(refine aA1 zq (aB5 xq (aB5 xq (aA1 zq (aA1 zq (aD (aC (aB ?_))))))));refine bC (β := Nat × Nat) U [] _ M0 Z Z Z Z (Sp.refl _) qC (fun w' hs => kI w') ?_;rintro ⟨e1, e2⟩ _ rfl;dsimp only [List.cons_append, List.nil_append];refine bC (β := Value) U [] _ M0 Z Z Z Z (Sp.refl _) qC (fun w' hs => ropen_ok w' 0 w'.heap.size fB _ _ (hF w' e1 e2 (hs.blk O) (hs.blk O)) rw_four) ?_;rintro vc _ rfl;rw [show (dO fB (bP fB)).length = 1 from by have := congrArg List.length rw_opn; simpa [nI] using this, rw_opn];dsimp only [List.cons_append, List.nil_append];refine cU (fun w hs => hs.ownSome (v := vc) O (by decide)) ?_;rintro ⟨o1, o2, rfl⟩;(refine aA1 zq (aB5 xq (aB5 xq (aA1 zq (aA1 zq (aD (aC (aB ?_))))))));refine bC (β := Nat × Nat) U [] _ M0 Z Z Z Z (Sp.refl _) qC (fun w' hs => kI w') ?_;rintro ⟨f1, f2⟩ _ rfl;dsimp only [List.cons_append, List.nil_append];refine fQ #[.int .i64 3, .int .i64 (-1), .int .i64 (-1)] Z qB Z ?_;refine cT 91 (dK planN) Z qB Z (fun c4 => ?_);refine aI (val := .tuple #[.int .i64 1, .int .i64 0]) U Z Z Z Z (fun w hs => ?_) ?_; exact by have := rdepth_ok w 0 w.heap.size fB _ _ _ planN (hF w f1 f2 (hs.blk O) (hs.blk O)) rw_four (Blk.rdNd (c := 1) (n := 1) (hs.blk (b := c4) O) Z) (by decide); rw [rw_rp, rw_dep] at this; exact this
 (refine aA1 zq (aB5 xq (aB5 xq (aA1 zq (aA1 zq (aD (aC (aC (aB (aA1 zq (aA6 xq J (aA1 zq ?_))))))))))); refine aE Z (aA1 zq (aE Z (aA6 xq J (aA1 zq (aA1 zq (aE Z (aA1 zq (aE Z (aA6 xq J (aA1 zq (aA1 zq ?_))))))))))); refine aE Z (aA1 zq (aE Z (aA6 xq J (aA1 zq (aA1 zq (aE Z (aA1 zq (aE Z ?_)))))))))
 refine aI (val := rtV (3501, 3505)) U Z Z Z Z (fun w hs => ?_) ?_; exact rspan_ca 3501 3505 w;refine aE Z ?_;refine aI (val := rtV (3500, 3504)) U Z Z Z Z (fun w hs => ?_) ?_; exact rspan_ca 3500 3504 w;refine aE Z ?_;refine aI (val := rtV (3495, 3499)) U Z Z Z Z (fun w hs => ?_) ?_; exact rspan_ca 3495 3499 w;refine aE Z ?_;refine aI (val := rtV (3497, 3501)) U Z Z Z Z (fun w hs => ?_) ?_; exact rspan_ca 3497 3501 w;refine aE Z ?_;refine cT 56 (spC [(3501, 3505), (3500, 3504), (3495, 3499), (3497, 3501)]) Z qB Z (fun c5 => ?_);refine aE Z ?_;refine aI (val := .bool true) U Z Z Z Z (fun w hs => ?_) ?_; exact eqS_ca w 0 w.heap.size 0 w.heap.size _ _ [(3501, 3505), (3500, 3504), (3495, 3499), (3497, 3501)] (bY (t := 56) (hs.mem (c := .ow (aB9 a1 4 a2) 56 2 4 (spC [(3501, 3505), (3500, 3504), (3495, 3499), (3497, 3501)])) O) Z) (Blk.rdS' (c := 4) (hs.blk (b := c5) O) Z) (by decide);(refine aE Z ?_; (iterate 3 refine aA1 zq ?_); refine aE Z (aA1 zq (aE Z ?_)));refine cT 3 (aX [0, 1]) Z qB Z (fun c6 => ?_);refine aE Z ?_;refine aI (val := .bool true) U Z Z Z Z (fun w hs => ?_) ?_; exact gR w 0 w.heap.size 0 w.heap.size _ _ [0, 1] (hs.rdI (v := aB9 b1 2 b2) (l := [0, 1]) (t := 3) (n := 2) O Z) (Blk.rdI (c := 2) (l := [0, 1]) (hs.blk (b := c6) O)) (by decide);(refine aE Z ?_; (iterate 3 refine aA1 zq ?_); refine aE Z (aA1 zq (aE Z ?_)));refine cT 3 (aX [3]) Z qB Z (fun c7 => ?_);refine aE Z ?_;refine aI (val := .bool true) U Z Z Z Z (fun w hs => ?_) ?_; exact gR w 0 w.heap.size 0 w.heap.size _ _ [3] (hs.rdI (v := aB9 o1 1 o2) (l := [3]) (t := 3) (n := 1) O Z) (Blk.rdI (c := 1) (l := [3]) (hs.blk (b := c7) O)) (by decide);(refine aE Z ?_; (iterate 3 refine aA1 zq ?_); refine aE Z (aA1 zq (aE Z (aA6 xq J (aA1 zq (aD (aG Z (aK (aC (aB ?_))))))))));refine bC (β := Nat × Nat) U [] _ M0 Z Z Z Z (Sp.refl _) qC (fun w' hs => kI w') ?_;rintro ⟨g1, g2⟩ _ rfl;dsimp only [List.cons_append, List.nil_append];refine bF dY Z (fun b9 => ?_);(refine aB6 Wa O Z ?_; refine aD (aC (aB (aA1 zq ?_))); refine aJ U Z Z Z ?_);refine jW (et := 78) (sz := 2) qB qB Z Z Z J J ?_;rw [show Value.slice (if (2 : Nat) = 0 then some (⟨g1, 0, none⟩ : Addr) else (some (⟨g1, 0, none⟩ : Addr)).map (·.add 0)) (1 : Int).toNat 2 = aB9 g1 1 2 from rfl];(refine aA1 zq ?_; refine ql_st2 U Z Z Z Z O ?_; refine aD (aC (aB ?_)); refine aP U Z Z Z ?_);refine aI (val := .tuple #[.int .i64 2, .int .i64 0]) U Z Z Z Z (fun w hs => ?_) ?_; exact by have := rfewest_ok w 0 w.heap.size oneS (aB9 g1 1 2) (aB9 g2 4 4) ⟨Blk.rdS1 (hs.blk (b := g1) O), Blk.rdI (l := oneS.rifles) (hs.blk (b := g2) O)⟩ rw_one; rw [rw_few] at this; exact this
 (refine aA1 zq (aB5 xq (aB5 xq (aA1 zq (aA1 zq (aD (aC (aB ?_))))))))
 refine bC (β := Nat) U [] _ M0 Z Z Z Z (Sp.refl _) qC (fun w' hs => rfive_ca w') ?_;rintro h1 _ rfl;dsimp only [List.cons_append, List.nil_append];refine bC (β := (Value × List Int) × Int) U [] _ M0 Z Z Z Z (Sp.refl _) qC (fun w' hs => chn_ok w' 0 w'.heap.size fiveH _ 0 60 (Blk.rdH' (c := 5) (hs.blk (b := h1) O) Z) (by decide) rw_sp) ?_;rintro ⟨⟨vl, C⟩, e⟩ _ ⟨rfl, hC⟩;obtain ⟨he, hCl⟩ := rw_chn hC;dsimp only at he hCl ⊢;subst he;rw [hCl];dsimp only [List.cons_append, List.nil_append];refine cU (fun w hs => hs.ownSome (v := vl) O (by decide)) ?_;rintro ⟨l1, l2, rfl⟩;(refine aA1 zq (aB5 xq (aB5 xq (aA1 zq (aA1 zq (aD (aC (aB ?_))))))));refine bC (β := Nat) U [] _ M0 Z Z Z Z (Sp.refl _) qC (fun w' hs => rfive_ca w') ?_;rintro h2 _ rfl;dsimp only [List.cons_append, List.nil_append];refine cT 3 (aX [0, 10, 30]) Z qB Z (fun c8 => ?_);refine aI (val := .tuple #[.bool true, .int .i64 0]) U Z Z Z Z (fun w hs => ?_) ?_; exact by have := mks_ok w 0 w.heap.size 0 w.heap.size fiveH _ _ [0, 10, 30] 0 60 (Blk.rdH' (c := 5) (hs.blk (b := h2) O) Z) (Blk.rdI (c := 3) (l := [0, 10, 30]) (hs.blk (b := c8) O)) (by decide) rw_sp; rw [show ([0, 10, 30] : List Int).length = 3 from rfl, rw_mk] at this; exact this
 (refine aA1 zq (aB5 xq (aB5 xq (aA1 zq (aA1 zq (aD (aC (aB ?_))))))))
 have hT : ∀ w' x1 x2 x4, Blk w' x4 [aB9 x1 4 4, aB9 x2 3 3] 29 → Blk w' x2 (aX [400, 350, 320]) 3 → Blk w' x1 (aX [500, 300, 200, 150]) 3 → RdII w' 0 w'.heap.size (aB9 x4 2 2) twoA := fun w' x1 x2 x4 h4 h2 h1 => blk_II2 (l1 := [500, 300, 200, 150]) (l2 := [400, 350, 320]) rfl rfl h1 h2 h4
 refine bC (β := Nat × Nat × Nat) U [] _ M0 Z Z Z Z (Sp.refl _) qC (fun w' hs => rtwo_ca w') ?_;rintro ⟨x1, x2, x4⟩ _ rfl;dsimp only [List.cons_append, List.nil_append];refine bC (β := Value) U [] _ M0 Z Z Z Z (Sp.refl _) qC (fun w' hs => acurve_ok w' 0 w'.heap.size _ twoA (hT w' x1 x2 x4 (hs.blk O) (hs.blk O) (hs.blk O)) rw_aim) ?_;rintro vk _ rfl;rw [rw_many, rw_curve];dsimp only [List.cons_append, List.nil_append];refine cU (fun w hs => hs.ownSome (v := vk) O (by decide)) ?_;rintro ⟨k1, k2, rfl⟩;(refine aA1 zq (aB5 xq (aB5 xq (aA1 zq (aA1 zq (aD (aC (aB ?_))))))));refine bC (β := Nat × Nat × Nat) U [] _ M0 Z Z Z Z (Sp.refl _) qC (fun w' hs => rtwo_ca w') ?_;rintro ⟨y1, y2, y4⟩ _ rfl;dsimp only [List.cons_append, List.nil_append];refine aI (val := .tuple #[.int .i64 50, .int .i64 0]) U Z Z Z Z (fun w hs => ?_) ?_; exact by have := aprice_ok w 0 w.heap.size _ twoA 3 (hT w y1 y2 y4 (hs.blk O) (hs.blk O) (hs.blk O)) rw_aim (by decide); rw [rw_price] at this; exact this
 (refine aA1 zq (aB5 xq (aB5 xq (aA1 zq (aA1 zq (aD (aC (aB (aA1 zq (aB2 xq J (aA1 zq (aE Z ?_))))))))))); refine aA1 zq (aE Z (aB2 xq J (aA1 zq (aA1 zq (aE Z (aA1 zq (aE Z (aB2 xq J (aA1 zq (aA1 zq (aE Z ?_))))))))))); refine aA1 zq (aE Z (aB2 xq J (aA1 zq (aA1 zq (aE Z (aA1 zq (aE Z (aB2 xq J (aA1 zq (aA1 zq (aE Z ?_))))))))))); refine aA1 zq (aE Z (aB2 xq J (aA1 zq (aA1 zq (aE Z (aA1 zq (aE Z (aA1 zq (aE Z (aB2 xq J (aA1 zq ?_))))))))))); refine aA1 zq (aE Z ?_); (iterate 3 refine aA1 zq ?_); refine aE Z (aA1 zq (aE Z ?_)))
 refine cT 3 (aX [900, 700, 600, 550, 500, 470]) Z qB Z (fun c9 => ?_);refine aE Z ?_;refine aI (val := .bool true) U Z Z Z Z (fun w hs => ?_) ?_; exact gR w 0 w.heap.size 0 w.heap.size _ _ [900, 700, 600, 550, 500, 470] (hs.rdI (v := aB9 k1 6 k2) (l := [900, 700, 600, 550, 500, 470]) (t := 3) (n := 6) O Z) (Blk.rdI (c := 6) (l := [900, 700, 600, 550, 500, 470]) (hs.blk (b := c9) O)) (by decide);(refine aA1 zq (aA1 zq (aE Z (aA1 zq (aE Z (aB2 xq J (aA1 zq (aA1 zq (aD (aS ?_))))))))));refine aA5 wq O fun w hs => ?_;exact ⟨Z, hs.chg0⟩
def tD3_563eb24 : OT := bE [0, 1, 2, 3, 4, 5, 6, 7, 8] (.nil)
abbrev LbM := Lb × Option Addr × Nat
def labCs (M : List LbM) : List Value := M.flatMap fun m => [.int .i64 m.1.skis, .int .i64 m.1.err, .slice m.2.1 m.1.runs.length m.2.2]
def labOs (t : Nat) (M : List LbM) : List Ck := M.map fun m => .ow (.slice m.2.1 m.1.runs.length m.2.2) t 3 m.1.runs.length (rnC m.1.runs)
def plOs (t : Nat) (M : List LbM) (ps : List Value) : List Ck := (M.zip ps).map fun x => .ow x.2 t 2 x.1.1.n (spC (plC x.1.1 x.1.1.ord x.1.1.n))
def filA (f : Nat → Int) (n j : Nat) : List Int := (List.range n).map fun i => if i < j then f i else 0
def lbM (M : List LbM) (i : Nat) : Lb := (M.getD i (⟨0, 0, []⟩, none, 0)).1
def oM (M : List LbM) (i : Nat) : Int := cnt (lbM M i).ord (lbM M i).n (2 ^ (lbM M i).n - 1)
def rM (M : List LbM) (k i : Nat) : Int := (planO (lbM M i).n k (lbM M i).ord : Nat)
structure AllOk (sk : Nat) (m : LbM) : Prop where
 ok : m.1.Ok
 noC : NoC m.1.ord m.1.n
 skis : m.1.skis = (sk : Int)
theorem AllOk.n {sk : Nat} {m : LbM} (h : AllOk sk m) : m.1.n = sk := by unfold Lb.n; rw [h.skis]; omega
def prA (o n : Nat) (L : List Nat) : List (Int × Int) := L.flatMap fun a => ((List.range n).filter fun b => fa o a b).map fun (b : Nat) => ((a : Int), (b : Int))
def fasL (o n : Nat) : List (Int × Int) := prA o n (List.range n)
def fasI (o n a b : Nat) : List (Int × Int) := prA o n (List.range a) ++ ((List.range b).filter fun b => fa o a b).map fun (b : Nat) => ((a : Int), (b : Int))
def idxP (L : List (Int × Int)) (p : Int × Int) : Int := if p ∈ L then (L.idxOf p : Int) else -1
def earL (l : Lb) (x : Nat) : Nat → Lb
 | 0 => l
 | k + 1 => if k = x ∨ fa l.ord k x = true then earL l x k else (earL l x k).add ⟨x, k, (earL l x k).err + 1⟩
def latL (l : Lb) (x : Nat) : Nat → Lb
 | 0 => l
 | k + 1 => if k = x ∨ fa l.ord x k = true then latL l x k else (latL l x k).add ⟨k, x, (latL l x k).err + 1⟩
theorem run_more {e : Int} {a b : Nat} (he : 0 ≤ e) : runV e ⟨a, b, e + 1⟩ = some (a, b) := by
 unfold runV;rw [if_pos (show e < e + 1 by omega), Int.toNat_natCast, Int.toNat_natCast]
structure More (l m : Lb) (k : Nat) (R : Nat × Nat → Prop) : Prop where
 sk : m.skis = l.skis
 err : m.err = l.err
 ok : m.Ok
 len : m.runs.length ≤ l.runs.length + k
 has : ∀ p, p ∈ m.pairs ↔ p ∈ l.pairs ∨ R p
theorem More.n {l m : Lb} {k : Nat} {R : Nat × Nat → Prop} (h : More l m k R) : m.n = l.n := by unfold Lb.n; rw [h.sk]
theorem More.le {l m : Lb} {k : Nat} {R : Nat × Nat → Prop} (h : More l m k R) (hl : l.Ok) : LeO l.ord m.ord := order_le hl.in8 h.ok.in8 fun p hp => (h.has p).2 (.inl hp)
theorem More.add {l m : Lb} {k a b : Nat} {R R' : Nat × Nat → Prop} (h : More l m k R) (ha : a < l.n) (hb : b < l.n) (hne : a ≠ b) (hlen : l.runs.length + k < 40) (hR : ∀ p, R' p ↔ R p ∨ p = (a, b)) : More l (m.add ⟨a, b, m.err + 1⟩) (k + 1) R' := by
 have hs0 := h.ok.s0;have hs1 := h.ok.s1;have he0 := h.ok.e0;have he1 := h.ok.e1;have hsk := h.sk;have hl := h.len;have ha2 : (a : Int) < m.skis := by unfold Lb.n at ha; omega
 have hb2 : (b : Int) < m.skis := by unfold Lb.n at hb; omega
 refine ⟨h.sk, h.err, h.ok.add J (run_ok J J J J), ?_, fun p => ?_⟩
 ·show (m.runs ++ [_]).length ≤ _
  rw [List.length_append, List.length_singleton];omega
 ·rw [add_pairs, run_more he0, hR, List.mem_append, h.has];simp only [Option.toList, List.mem_singleton];exact or_assoc
theorem More.up {l m : Lb} {k : Nat} {R R' : Nat × Nat → Prop} (h : More l m k R) (hR : ∀ p, R' p ↔ R p) : More l m (k + 1) R' :=
 ⟨h.sk, h.err, h.ok, by have := h.len; omega, fun p => by rw [h.has, hR]⟩
theorem More.start {l : Lb} {R : Nat × Nat → Prop} (h : l.Ok) (hR : ∀ p, ¬ R p) : More l l 0 R := ⟨rfl, rfl, h, by omega, fun p => by simp [hR p]⟩
abbrev slV (m : LbM) : Value := .slice m.2.1 m.1.runs.length m.2.2
structure GrdL (most : Nat) (l : List Hd) : Prop where
 n1 : 1 ≤ l.length
 n2 : l.length ≤ most
 all : ∀ h ∈ l, (0 ≤ h.who ∧ h.who ≤ 99) ∧ (0 ≤ h.f ∧ h.f ≤ h.t) ∧ h.t ≤ 1000
theorem GrdL.ok {most : Nat} {l : List Hd} (h : GrdL most l) (hm : most ≤ 30) : GOk l := ⟨h.n1, by have := h.n2; omega, fun x hx => by have := h.all x hx; omega⟩
theorem slH : SlT Tryz.prog 23 28 3 24 (.agg #[.int .i64 0, .int .i64 0, .int .i64 0]) := ⟨by kernel_rfl, by kernel_rfl, by kernel_rfl, by decide⟩
theorem hdC_one (l : List Hd) : ∀ c ∈ hdC l, dJ c = true := fun c hc => by obtain ⟨y, _, hy⟩ := List.mem_flatMap.1 hc; simp at hy; rcases hy with rfl | rfl | rfl <;> rfl
structure MadS (most : Nat) (s : Sc) (o : Int) (X : List (Int × Int)) : Prop where
 err : 0 ≤ s.err ∧ s.err ≤ 7
 least : s.least = 3500
 off : -15 ≤ o ∧ o ≤ 15
 tn : s.tests.length ≤ 3
 tst : ∀ t ∈ s.tests, (1000 ≤ t.1 ∧ t.1 ≤ 4900) ∧ -s.err ≤ t.2 - t.1 - o ∧ t.2 - t.1 - o ≤ s.err
 n1 : 1 ≤ X.length
 n2 : X.length ≤ most
 rif : s.rifles = X.map (·.2)
 rifle : ∀ p ∈ X, (3475 ≤ p.1 ∧ p.1 ≤ 3525) ∧ -s.err ≤ p.2 - p.1 - o ∧ p.2 - p.1 - o ≤ s.err
theorem slT : SlT Tryz.prog 44 78 2 16 (.agg #[.int .i64 0, .int .i64 0]) := ⟨by kernel_rfl, by kernel_rfl, by kernel_rfl, by decide⟩
theorem spC_snoc2 (l : List (Int × Int)) (r : Int × Int) : spC (l ++ [r]) = spC l ++ [.int .i64 r.1, .int .i64 r.2] := by simp [spC]
theorem nK (l : List Int) (r : Int) : aX (l ++ [r]) = aX l ++ [.int .i64 r] := by simp [aX]
def tstN (s : Sc) (i : Nat) : Int × Int := s.tests.getD i (0, 0)
def clB (s : Sc) (i k : Nat) : Bool := decide ((lQ (gB s (tstN s i)) (gB s (tstN s k))).2 < (lQ (gB s (tstN s i)) (gB s (tstN s k))).1)
def ClR (s : Sc) (i k : Nat) (e : Int) : Prop := (e = 6 ∧ i = 0 ∧ k = 0 ∧ ∀ a b, a ≤ b → b < s.tests.length → clB s a b = false) ∨ (e = 0 ∧ i ≤ k ∧ k < s.tests.length ∧ clB s i k = true ∧ ∀ a b, a ≤ b → b < s.tests.length → (a < i ∨ a = i ∧ b < k) → clB s a b = false)
def tF23_bb62d8e : OT := .alt (bE [10, 11, 12] (.nil)) (bE [11, 10, 12] (.nil))
def tF23_827570c : OT := .alt (bE [3, 4, 5, 6, 7, 8, 9] (tF23_bb62d8e)) (bE [11, 3, 4, 5, 6, 7, 8, 9, 10, 12] (.nil))
def tF23_6a6effc : OT := .alt (bE [0, 1, 2] (tF23_827570c)) (bE [11, 0, 1, 2, 3, 4, 5, 6, 7, 8, 9, 10, 12] (.nil))
theorem clash_ok (w : World) (lo hi : Nat) (s : Sc) (tv rv : Value) (h : ScR w lo hi tv rv s) (hs0 : s.Ok) : Ca Tryz.prog 36 [.agg (scC s tv rv).toArray] w fun x w' => ∃ y : Nat × Nat × Int, (x = .tuple #[.int .i64 y.1, .int .i64 y.2.1, .int .i64 y.2.2] ∧ ClR s y.1 y.2.1 y.2.2) ∧ Sat w M0 [] w' := by
 have htn := hs0.tn;have hrn := hs0.rn8;have hgt : ∀ (i : Nat) (hi : i < s.tests.length), tstN s i = s.tests[i] := fun i hi => by unfold tstN; rw [List.getD_eq_getElem?_getD, List.getElem?_eq_getElem hi]; rfl
 obtain ⟨ta, tcap, rfl, hts⟩ := RdS.outI h.t;refine cN (Sat.nil w M0) Tryz.func36 Z (by simp [Tryz.ntmps36]) ?_;(refine aC (aB ?_));refine bR Z Z (fun b1 => ?_);rw [bL]
 ((iterate 3 refine aA1 zq ?_); refine aD (aC (aC (aB ?_))); refine aP U Z Z Z ?_)
 refine aI (val := .int .i64 0) U Z Z Z Z (fun w hs => ?_) ?_; exact by have := lO w lo hi s _ rv (h.keep hs.chg0) (by simp only [maxLen]; omega) (by simp only [maxLen]; omega); rw [gN.2 hs0] at this; exact this
 (refine aA1 zq (aD (aC (aB (aA1 zq (aA6 xq J (aD (aG Z (aK (aC (aC (aB ?_))))))))))); refine aA1 zq ?_; refine aJ U Z Z Z ?_; refine aA1 zq (aA1 zq (aD (aM ?_))))
 refine bM (σ := Nat) (fun i => i ≤ s.tests.length ∧ ∀ a b, a ≤ b → b < s.tests.length → a < i → clB s a b = false) (fun i => s.tests.length - i) (fun i => [(1, aC0 b1), (16, .slice ta s.tests.length tcap), (17, .int .i64 s.tests.length), (18, .int .i64 i)]) (fun _ => [.pt b1 (scC s (.slice ta s.tests.length tcap) rv) 46]) 0 ⟨by omega, fun _ _ _ _ h => by omega⟩ ⟨Z, Z, Z, Z, trivial⟩ O ?_;rintro i ⟨hi1, hno⟩ K hK;(refine aC (aB (aA1 zq (aD (aC ?_)))));refine dN Z (fun hc => ?_) (fun hc => ?_)
 ·have hil : i < s.tests.length := by omega
  clear hc;obtain ⟨tb, to, rfl⟩ := hts J;have hti := hs0.test _ (List.getElem_mem hil);(refine aK (aC (aM (aC (aB (aA1 zq ?_))))));refine aA7 Wa J J ?_;refine dC (cs := [.int .i64 s.tests[i].1, .int .i64 s.tests[i].2]) U Z Z Z Z (fun w hs q hq => by simpa using RdS.at (RdE.keep h.t hs.chg0) i hil q hq) ?_;refine bF zero78 Z (fun b7 => ?_);(refine aA1 zq ?_; refine aB6 Wa O Z ?_; refine aD (aC (aB (aA1 zq (aA1 zq (aD (aM ?_)))))));refine bM (σ := Nat) (fun k => i ≤ k ∧ k ≤ s.tests.length ∧ ∀ b, i ≤ b → b < k → clB s i b = false) (fun k => s.tests.length - k) (fun k => [(1, aC0 b1), (6, .int .i64 i), (7, aC0 b7), (8, .int .i64 k), (16, .slice (some ⟨tb, to, none⟩) s.tests.length tcap), (17, .int .i64 s.tests.length), (18, .int .i64 i)]) (fun _ => [.pt b1 (scC s (.slice (some ⟨tb, to, none⟩) s.tests.length tcap) rv) 46, .pt b7 [.int .i64 s.tests[i].1, .int .i64 s.tests[i].2] 78]) i ⟨by omega, by omega, fun _ _ h => by omega⟩ ⟨Z, Z, Z, Z, Z, Z, Z, trivial⟩ O ?_;rintro k ⟨hk1, hk2, hno2⟩ K2 hK2;(refine aC (aC (aB (aA1 zq (aA1 zq ?_)))); refine aJ U Z Z Z ?_; refine aA1 zq (aA1 zq (aD ?_)));refine dN Z (fun hc => ?_) (fun hc => ?_)
  ·have hkl : k < s.tests.length := by omega
   clear hc;have htk := hs0.test _ (List.getElem_mem hkl);have hcb : clB s i k = decide ((lQ (gB s s.tests[i]) (gB s s.tests[k])).2 < (lQ (gB s s.tests[i]) (gB s s.tests[k])).1) := by unfold clB; rw [hgt i hil, hgt k hkl]
   (refine aK (aC (aM (aC ?_))))
   refine fT (σ := Nat) (fun b9 => [(1, aC0 b1), (6, .int .i64 i), (7, aC0 b7), (8, .int .i64 k), (9, aC0 b9), (16, .slice (some ⟨tb, to, none⟩) s.tests.length tcap), (17, .int .i64 s.tests.length), (18, .int .i64 i)]) (fun b9 => [.pt b1 (scC s (.slice (some ⟨tb, to, none⟩) s.tests.length tcap) rv) 46, .pt b7 [.int .i64 s.tests[i].1, .int .i64 s.tests[i].2] 78, .pt b9 [.int .i64 (lQ (gB s s.tests[i]) (gB s s.tests[k])).1, .int .i64 (lQ (gB s s.tests[i]) (gB s s.tests[k])).2] 56]) ?_ ?_;rotate_left
   ·intro K3 hK3;refine eQ (tF23_6a6effc) _ [] (Sp.refl _) qB qB ?_;refine cA ?_ ?_
    ·refine bA qA fun K1 hK1 => ?_
     ((iterate 2 refine aV U Z Z Z ?_))
     refine bN (val := iN (gB s s.tests[i])) U Z Z Z Z (fun w hs => jZ s _ rv _ hs0.err hti w) ?_;(refine aN ?_);refine hK1 _ _ ?_;refine cA ?_ ?_
     ·refine bA qA fun K1 hK1 => ?_;(refine aV U Z Z Z ?_; refine aA2 xq ?_; refine bB U Z Z Z ?_; refine aA2 xq ?_)
      refine aA3 Wa J J ?_;refine cV (cs := [.int .i64 s.tests[k].1, .int .i64 s.tests[k].2]) U Z Z Z Z (fun w hs q hq => by simpa using RdS.at (RdE.keep h.t hs.chg0) k hkl q hq) ?_;refine bN (val := iN (gB s s.tests[k])) U Z Z Z Z (fun w hs => jZ s _ rv _ hs0.err htk w) ?_;(refine aN ?_);refine hK1 _ _ ?_;refine cA ?_ ?_
      ·refine bA qA fun K1 hK1 => ?_;refine bN (val := iN (lQ (gB s s.tests[i]) (gB s s.tests[k]))) U Z Z Z Z (fun w hs => iO _ _ w) ?_
       refine bG dR Z (fun b9 => ?_);(refine aB7 Wa O Z ?_; refine aN ?_);exact hK1 _ _ (dD (hK3 b9 _ _ ⟨Z, Z, Z, Z, Z, Z, Z, Z, trivial⟩ O))
      ·refine bA qA fun K1 hK1 => ?_;refine bG dR Z (fun b9 => ?_)
       refine bN (val := iN (lQ (gB s s.tests[i]) (gB s s.tests[k]))) U Z Z Z Z (fun w hs => iO _ _ w) ?_;(refine aB7 Wa O Z ?_; refine aN ?_);exact hK1 _ _ (dD (hK3 b9 _ _ ⟨Z, Z, Z, Z, Z, Z, Z, Z, trivial⟩ O))
     ·refine bA qA fun K1 hK1 => ?_;refine bG dR Z (fun b9 => ?_)
      (refine aV U Z Z Z ?_; refine aA2 xq ?_; refine bB U Z Z Z ?_; refine aA2 xq ?_)
      refine aA3 Wa J J ?_;refine cV (cs := [.int .i64 s.tests[k].1, .int .i64 s.tests[k].2]) U Z Z Z Z (fun w hs q hq => by simpa using RdS.at (RdE.keep h.t hs.chg0) k hkl q hq) ?_;refine bN (val := iN (gB s s.tests[k])) U Z Z Z Z (fun w hs => jZ s _ rv _ hs0.err htk w) ?_;refine bN (val := iN (lQ (gB s s.tests[i]) (gB s s.tests[k]))) U Z Z Z Z (fun w hs => iO _ _ w) ?_;(refine aB7 Wa O Z ?_; refine aN ?_);exact hK1 _ _ (dD (hK3 b9 _ _ ⟨Z, Z, Z, Z, Z, Z, Z, Z, trivial⟩ O))
    ·refine bA qA fun K1 hK1 => ?_;refine bG dR Z (fun b9 => ?_)
     ((iterate 2 refine aV U Z Z Z ?_))
     refine bN (val := iN (gB s s.tests[i])) U Z Z Z Z (fun w hs => jZ s _ rv _ hs0.err hti w) ?_;(refine aV U Z Z Z ?_; refine aA2 xq ?_; refine bB U Z Z Z ?_; refine aA2 xq ?_);refine aA3 Wa J J ?_;refine cV (cs := [.int .i64 s.tests[k].1, .int .i64 s.tests[k].2]) U Z Z Z Z (fun w hs q hq => by simpa using RdS.at (RdE.keep h.t hs.chg0) k hkl q hq) ?_;refine bN (val := iN (gB s s.tests[k])) U Z Z Z Z (fun w hs => jZ s _ rv _ hs0.err htk w) ?_;refine bN (val := iN (lQ (gB s s.tests[i]) (gB s s.tests[k]))) U Z Z Z Z (fun w hs => iO _ _ w) ?_;(refine aB7 Wa O Z ?_; refine aN ?_);exact hK1 _ _ (dD (hK3 b9 _ _ ⟨Z, Z, Z, Z, Z, Z, Z, Z, trivial⟩ O))
   intro b9;cases hcl : clB s i k with
   | true =>
    have hlt : (lQ (gB s s.tests[i]) (gB s s.tests[k])).2 < (lQ (gB s s.tests[i]) (gB s s.tests[k])).1 := of_decide_eq_true (hcb.symm.trans hcl);(refine aC (aB (aA1 zq ?_)); refine aJ U Z Z Z ?_; refine aA1 zq ?_; refine aJ U Z Z Z ?_; refine cR U Z Z Z J (aD (aH Z (aC (aB ?_)))); (iterate 5 refine aA1 zq ?_); refine aD (aS ?_));refine aA5 wq O fun w hs => ?_
    exact ⟨(i, k, 0), ⟨Z, .inr ⟨Z, hk1, hkl, hcl, fun a b h1 h2 h3 => h3.elim (fun h3 => hno a b h1 h2 h3) (fun ⟨h3, h4⟩ => by rw [h3] at h1 ⊢; exact hno2 b h1 h4)⟩⟩, hs.sp O⟩
   | false =>
    have hlt : ¬ (lQ (gB s s.tests[i]) (gB s s.tests[k])).2 < (lQ (gB s s.tests[i]) (gB s s.tests[k])).1 := of_decide_eq_false (hcb.symm.trans hcl);(refine aC (aB (aA1 zq ?_)); refine aJ U Z Z Z ?_; refine aA1 zq ?_; refine aJ U Z Z Z ?_; refine aB1 xq J (aD (aG Z (aK (bK (aB (aA1 zq (aA4 uq J J (aA1 zq (aD ?_))))))))))
    exact hK2 (k + 1) _ _ ⟨by omega, by omega, fun b h1 h2 => by
     by_cases he : b = k
     ·rw [he]; exact hcl
     ·exact hno2 b h1 J⟩ J ⟨Z, Z, Z, Z, Z, Z, Z, trivial⟩ O
  ·obtain rfl : k = s.tests.length := by omega
   (refine bH _ Z (bK (aB (aA4 uq J J (aA1 zq (aD ?_))))))
   exact hK (i + 1) _ _ ⟨by omega, fun a b h1 h2 h3 => by
    by_cases he : a = i
    ·rw [he] at h1 ⊢; exact hno2 b h1 h2
    ·exact hno a b h1 h2 J⟩ J ⟨Z, Z, Z, Z, trivial⟩ O
 ·obtain rfl : i = s.tests.length := by omega
  (refine bH _ Z (aC (aB ?_)); (iterate 3 refine aA1 zq ?_); refine aD (aS ?_))
  refine aA5 wq O fun w hs => ?_;exact ⟨(0, 0, 6), ⟨Z, .inl ⟨Z, Z, Z, fun a b h1 h2 => hno a b h1 h2 J⟩⟩, hs.sp O⟩
theorem idxI_ca (w : World) (lo hi : Nat) (v : Value) (L : List Int) (x : Int) (h : RdI w lo hi v L) (hlen : L.length ≤ 1000000) :
  Ca Tryz.prog 127 [v, .int .i64 x] w fun r w' => ∃ i : Int, (r = .int .i64 i ∧ (0 ≤ i ↔ x ∈ L)) ∧ Sat w M0 [] w' := by
 obtain ⟨a, ca, rfl, hsa⟩ := RdI.outI h;refine cN (Sat.nil w M0) Tryz.func127 Z (by simp [Tryz.ntmps127]) ?_;(refine aC (aB (aA1 zq (aD (aC (aC (aB ?_)))))); (iterate 3 refine aA1 zq ?_); refine aD (aM ?_));refine bM (σ := Nat) (fun s => s ≤ L.length ∧ x ∉ L.take s) (fun s => L.length - s) (fun s => [(0, .slice a L.length ca), (1, .int .i64 x), (7, .int .i64 L.length), (8, .int .i64 s)]) (fun _ => []) 0 (by simp) ⟨Z, Z, Z, Z, trivial⟩ O ?_;rintro i ⟨hi, ht⟩ K hK;(refine aC (aB (aA1 zq (aD (aC ?_)))));refine dN Z (fun hc => ?_) (fun hc => ?_)
 ·have hi2 : i < L.length := by omega
  clear hc;obtain ⟨ba, oa, rfl⟩ := hsa J;by_cases he : x = L[i]
  ·(refine aK (aC (aM (aC (aB (aA1 zq (aA1 zq (aD (aC (aB ?_))))))))); (iterate 3 refine aA1 zq ?_))
   refine aA7 Wa J J ?_;refine bI (v := .int .i64 L[i]) U Z Z Z (fun w hs => RdI.at (RdE.keep h hs.chg0) i hi2) ?_;(refine aB2 xq J (aD (aH Z (aC (aB (aA1 zq (aA1 zq (aD (aS ?_)))))))));refine aA5 wq O fun w hs => ?_;exact ⟨(i : Int), ⟨Z, ⟨fun _ => he ▸ List.getElem_mem hi2, fun _ => by omega⟩⟩, hs.sp O⟩
  ·(refine aK (aC (aM (aC (aB (aA1 zq (aA1 zq (aD (aC (aB ?_))))))))); (iterate 3 refine aA1 zq ?_))
   refine aA7 Wa J J ?_;refine bI (v := .int .i64 L[i]) U Z Z Z (fun w hs => RdI.at (RdE.keep h hs.chg0) i hi2) ?_;(refine cZ U Z Z Z J (aD (aG Z (aK (bK (aB (aA4 uq J J (aA1 zq (aD ?_)))))))))
   exact hK (i + 1) _ _ ⟨by omega, fun hm => by
    rw [List.take_succ_eq_append_getElem hi2] at hm;rcases List.mem_append.1 hm with hm | hm
    ·exact ht hm
    ·exact he (List.mem_singleton.1 hm)⟩ J ⟨Z, Z, Z, Z, trivial⟩ O
 ·obtain rfl : i = L.length := by omega
  rw [List.take_length] at ht;(refine bH _ Z (aC (aB (aA1 zq (aD (aS ?_))))));refine aA5 wq O fun w hs => ?_
  exact ⟨-1, ⟨Z, ⟨fun h => by omega, fun h => absurd h ht⟩⟩, hs.sp O⟩
theorem contI_ca (w : World) (lo hi : Nat) (v : Value) (L : List Int) (x : Int) (h : RdI w lo hi v L) (hlen : L.length ≤ 1000000) :
  Ca Tryz.prog 51 [v, .int .i64 x] w fun r w' => r = .bool (decide (x ∈ L)) ∧ Chg [] w w' := by
 refine cN (Sat.nil w M0) Tryz.func51 Z (by simp [Tryz.ntmps51]) ?_;(refine aC (aB (aA1 zq (aD (aC (aB (aA1 zq (aA1 zq ?_))))))));refine bC (β := Int) (ψ := fun i r => r = .int .i64 i ∧ (0 ≤ i ↔ x ∈ L)) (L' := fun _ => []) U [] _ M0 Z Z Z Z (Sp.refl _) qC (fun w' hs => idxI_ca w' lo hi v L x (RdE.keep h hs.chg0) hlen) ?_;rintro i _ ⟨rfl, hi⟩;dsimp only [List.cons_append, List.nil_append];by_cases h0 : 0 ≤ i
 ·rw [decide_eq_true (hi.1 h0)];(refine jP U Z Z Z J (aA1 zq (aD (aS ?_))));refine aA5 wq O fun w hs => ?_
  exact ⟨Z, hs.chg0⟩
 ·rw [decide_eq_false (fun h => h0 (hi.2 h))];(refine jT U Z Z Z J (aA1 zq (aD (aS ?_))));refine aA5 wq O fun w hs => ?_
  exact ⟨Z, hs.chg0⟩
theorem spC_one (l : List (Int × Int)) : ∀ c ∈ spC l, dJ c = true := fun c hc => by obtain ⟨y, _, hy⟩ := List.mem_flatMap.1 hc; simp at hy; rcases hy with rfl | rfl <;> rfl
theorem cloneTs_ca (w : World) (lo hi : Nat) (v : Value) (l : List (Int × Int)) (h : RdS w lo hi v l) (hlen : l.length ≤ 1000) : Ca Tryz.prog 108 [v] w fun x w' => ∃ u : Value, x = u ∧ Sat w M0 [.ow u 78 2 l.length (spC l)] w' := by
 obtain ⟨a, c, rfl, ha⟩ := RdS.outI h;refine cN (Sat.nil w M0) Tryz.func108 Z (by simp [Tryz.ntmps108]) ?_;refine dG (H' := [.ow (.slice none 0 0) 78 2 0 (spC [])]) (fun w' hs => Sat.ownil hs 78 2) ?_;(refine aC (aB (aA1 zq (aD (aC (aB (aA1 zq ?_)))))));refine cW (q := l.length) (news := spC l) slT Z Z Z (fun v' => by repeat constructor) (fun w' hs => ⟨_, _, RdS.row (RdE.keep h hs.chg0)⟩) (spC_one l) J J (fun u' => ?_);(refine aA1 zq (aD (aS ?_)));refine aA5 wq O fun w hs => ?_
 exact ⟨u', Z, hs.sp (by simp only [spC, List.flatMap_nil, List.nil_append, Nat.zero_add]; repeat constructor)⟩
def tF25_6b4554a : OT := bE [0, 1, 2, 3, 4, 5, 6, 7, 8, 9, 10, 11] (.nil)
theorem eS (w : World) (lo hi : Nat) (s : Sc) (tv rv : Value) (h : ScR w lo hi tv rv s) (hl1 : s.tests.length ≤ 1000) (hl2 : s.rifles.length ≤ 1000) : Ca Tryz.prog 30 [.agg (scC s tv rv).toArray] w fun x w' => ∃ y : Value × Value, x = .agg (scC s y.1 y.2).toArray ∧ Sat w M0 [.ow y.1 78 2 s.tests.length (spC s.tests), .ow y.2 3 1 s.rifles.length (aX s.rifles)] w' := by
 obtain ⟨ta, tc, rfl, _⟩ := RdS.outI h.t;obtain ⟨ra, rc, rfl, _⟩ := RdI.outI h.r;refine cN (Sat.nil w M0) Tryz.func30 Z (by simp [Tryz.ntmps30]) ?_;(refine aC (aB ?_));refine bR Z Z (fun b1 => ?_);rw [bL];refine bF dY Z (fun b2 => ?_);(refine aD (aC ?_))
 refine fT (σ := Value × Value) (fun y => [(2, aC0 b2)])
   (fun y => [.pt b2 (scC s y.1 y.2) 46, .ow y.1 78 2 s.tests.length (spC s.tests), .ow y.2 3 1 s.rifles.length (aX s.rifles)]) ?_ ?_
 rotate_left
 ·intro K2 hK2;refine eQ (tF25_6b4554a) _ [.pt b2 [.int .i64 0, .int .i64 0, .slice none 0 0, .slice none 0 0] 46] (Sp.cons O (Sp.refl _)) qB qB ?_;refine bA qA fun K1 hK1 => ?_
  (refine aA2 xq ?_; refine bB U Z Z Z ?_; refine aA2 xq ?_; refine bB U Z Z Z ?_; refine aA2 xq ?_; refine bB U Z Z Z ?_)
  refine bX (β := Value) (ψ := fun u x => x = u) (L' := fun u => [.ow u 78 2 s.tests.length (spC s.tests)]) U [] _ M0 Z Z Z Z (Sp.refl _) qC (fun w' hs => cloneTs_ca w' lo hi _ s.tests (RdE.keep h.t hs.chg0) hl1) ?_;rintro _ u1 hu1;subst hu1;dsimp only [List.cons_append, List.nil_append];refine bO (fun w hs => hs.slice2 (v := u1) O) ?_;rintro ⟨a1, c1, rfl⟩;(refine aA2 xq ?_; refine bB U Z Z Z ?_);refine bX (β := Value) (ψ := fun u x => x = u) (L' := fun u => [.ow u 3 1 s.rifles.length (aX s.rifles)]) U [] _ M0 Z Z Z Z (Sp.refl _) qC (fun w' hs => lY w' lo hi _ s.rifles (RdE.keep h.r hs.chg0) J) ?_;rintro _ u2 hu2;subst hu2;dsimp only [List.cons_append, List.nil_append];refine bO (fun w hs => hs.slice2 (v := u2) O) ?_;rintro ⟨a2, c2, rfl⟩;refine kH #[.int .i64 s.err, .int .i64 s.least, .slice a1 s.tests.length c1, .slice a2 s.rifles.length c2] Z qB Z ?_;(refine aB7 Wa O Z ?_; refine aN ?_);exact hK1 _ _ (dD (hK2 (.slice a1 s.tests.length c1, .slice a2 s.rifles.length c2) _ _ ⟨Z, trivial⟩ O))
 rintro ⟨u1, u2⟩;(refine aS ?_);refine aA5 wq O fun w hs => ?_
 exact ⟨(u1, u2), Z, hs.sp O⟩
theorem slBo : SlT Tryz.prog 76 4 1 1 (.bool false) := ⟨by kernel_rfl, by kernel_rfl, rfl, by omega⟩
theorem fD (n a b : Int) (w : World) : Ca Tryz.prog 114 [.int .i64 n, .int .i64 a, .int .i64 b] w fun v w' => v = .bool (!(inB n a b)) ∧ Chg [] w w' := by
 refine cN (Sat.nil w M0) Tryz.func114 Z (by simp [Tryz.ntmps114]) ?_;by_cases h1 : n < a
 ·have e : inB n a b = false := by simp [inB]; omega
  rw [e];(refine aC (aB (aA1 zq (aD (aC (aB (aA1 zq (aA1 zq (aB3 xq J (aA1 zq ?_))))))))); (iterate 3 refine aA8 yq ?_); refine aA1 zq (aA1 zq (aD (aS ?_))));refine aA5 wq O fun w hs => ?_
  exact ⟨Z, hs.chg0⟩
 ·by_cases h2 : b < n
  ·have e : inB n a b = false := by simp [inB]; omega
   rw [e];(refine aC (aB (aA1 zq (aD (aC (aB (aA1 zq (aA1 zq (aB4 xq J (aA1 zq (aE Z (aA1 zq ?_))))))))))); refine aE Z (aA1 zq (aE Z (cR U Z Z Z J (aA1 zq (aA1 zq (aD (aS ?_))))))));refine aA5 wq O fun w hs => ?_
   exact ⟨Z, hs.chg0⟩
  ·have e : inB n a b = true := bV.2 J;rw [e];(refine aC (aB (aA1 zq (aD (aC (aB (aA1 zq (aA1 zq (aB4 xq J (aA1 zq (aE Z (aA1 zq ?_))))))))))); refine aE Z (aA1 zq (aE Z (aB1 xq J (aA1 zq (aA1 zq (aD (aS ?_))))))));refine aA5 wq O fun w hs => ?_
   exact ⟨Z, hs.chg0⟩
theorem kM {α : Type} {p : α → Bool} {l : List α} {k : Nat} (hk : k < l.length) (h : (l.take k).all p = true) (hp : p l[k] = true) : (l.take (k + 1)).all p = true := by
 rw [List.take_succ_eq_append_getElem hk, List.all_append, h];simp [hp]
theorem mI {α : Type} {p : α → Bool} {l : List α} {k : Nat} (hk : k < l.length) (hp : p l[k] = false) : l.all p = false := List.all_eq_false.2 ⟨_, List.getElem_mem hk, by rw [hp]; simp⟩
theorem rchkS_ca (w : World) (lo hi : Nat) (s : Sc) (tv rv : Value) (h : ScR w lo hi tv rv s) (hl1 : s.tests.length ≤ maxLen) (hl2 : s.rifles.length ≤ maxLen) : Ca Tryz.prog 33 [.agg (scC s tv rv).toArray] w fun x w' => x = .int .i64 (mC s) ∧ Chg [] w w' := by
 obtain ⟨ta, tc, rfl, hta⟩ := RdS.outI h.t;obtain ⟨ra, rc, rfl, hra⟩ := RdI.outI h.r;simp only [maxLen] at hl1 hl2;refine cN (Sat.nil w M0) Tryz.func33 Z (by simp [Tryz.ntmps33]) ?_;(refine aC (aB ?_));refine bR Z Z (fun b1 => ?_);rw [bL];by_cases c1 : 10 < s.tests.length ∨ inB s.rifles.length 1 8 = false
 ·have e : mC s = 2 := by unfold mC; rw [if_pos c1]
  rw [e];by_cases c2 : 10 < s.tests.length
  ·(refine aA1 zq (aD (aC (aC (aB (aA1 zq ?_))))); refine aJ U Z Z Z ?_; refine aA1 zq (cR U Z Z Z J (aA1 zq ?_)); (iterate 4 refine aA8 yq ?_); refine aA1 zq (aA1 zq ?_); (iterate 4 refine aA8 yq ?_); refine aA1 zq (aD (aH Z (aC (aB (aA1 zq (aD (aS ?_))))))))
   refine aA5 wq O fun w hs => ?_;exact ⟨Z, hs.chg0⟩
  ·have c3 : ¬ ((1 : Int) ≤ s.rifles.length ∧ (s.rifles.length : Int) ≤ 8) := by
    rw [← bV];rcases c1 with c1 | c1
    ·exact absurd c1 c2
    ·rw [c1]; simp
   by_cases c4 : s.rifles.length < 1
   ·(refine aA1 zq (aD (aC (aC (aB (aA1 zq ?_))))); refine aJ U Z Z Z ?_; refine aA1 zq (aB1 xq J (aA1 zq (aE Z (aA1 zq (aE Z ?_))))); refine aJ U Z Z Z ?_; refine aE Z (aA1 zq (aE Z (aB3 xq J (aA1 zq (aA1 zq ?_))))); (iterate 4 refine aA8 yq ?_); refine aA1 zq (aD (aH Z (aC (aB (aA1 zq (aD (aS ?_))))))))
    refine aA5 wq O fun w hs => ?_;exact ⟨Z, hs.chg0⟩
   ·(refine aA1 zq (aD (aC (aC (aB (aA1 zq ?_))))); refine aJ U Z Z Z ?_; refine aA1 zq (aB1 xq J (aA1 zq (aE Z (aA1 zq (aE Z ?_))))); refine aJ U Z Z Z ?_; refine aE Z (aA1 zq (aE Z (aB4 xq J (aA1 zq (aA1 zq (aE Z (aA1 zq (aE Z ?_)))))))); refine aJ U Z Z Z ?_; refine aE Z (aA1 zq (aE Z (cR U Z Z Z J (aA1 zq (aD (aH Z (aC (aB (aA1 zq (aD (aS ?_))))))))))))
    refine aA5 wq O fun w hs => ?_;exact ⟨Z, hs.chg0⟩
 ·have c2 : s.tests.length ≤ 10 := by omega
  have c3 : (1 : Int) ≤ s.rifles.length ∧ (s.rifles.length : Int) ≤ 8 := bV.1 (by simpa using fun h => c1 (.inr h));have e1 : mC s = if (inB s.err 0 100 && inB s.least 1 10000) = false then 3 else if s.tests.all tstB = false then 3 else if (s.rifles.all fun n => inB n 0 20000) = false then 3 else 0 := by unfold mC; rw [if_neg c1]
  rw [e1];clear e1 c1;(refine aA1 zq (aD (aC (aC (aB (aA1 zq ?_))))); refine aJ U Z Z Z ?_; refine aA1 zq (aB1 xq J (aA1 zq (aE Z (aA1 zq (aE Z ?_))))); refine aJ U Z Z Z ?_; refine aE Z (aA1 zq (aE Z (aB4 xq J (aA1 zq (aA1 zq (aE Z (aA1 zq (aE Z ?_)))))))); refine aJ U Z Z Z ?_; refine aE Z (aA1 zq (aE Z (aB1 xq J (aA1 zq (aD (aG Z (aK (aC (aC (aB (aA1 zq ?_))))))))))); refine aJ U Z Z Z ?_);refine aI (val := .bool (!(inB s.err 0 100))) U Z Z Z Z (fun w hs => ?_) ?_; exact fD s.err 0 100 w;cases d1 : inB s.err 0 100 with
  | false =>
   (refine aA1 zq ?_; (iterate 3 refine aA8 yq ?_); refine aA1 zq (aD (aH Z (aC (aB (aA1 zq (aD (aS ?_))))))))
   refine aA5 wq O fun w hs => ?_;exact ⟨Z, hs.chg0⟩
  | true =>
   (refine aA1 zq (aE Z (aA1 zq (aE Z ?_))); refine aJ U Z Z Z ?_; refine aE Z ?_)
   refine aI (val := .bool (!(inB s.least 1 10000))) U Z Z Z Z (fun w hs => ?_) ?_; exact fD s.least 1 10000 w;cases d2 : inB s.least 1 10000 with
   | false =>
    (refine aA1 zq (aD (aH Z (aC (aB (aA1 zq (aD (aS ?_))))))))
    refine aA5 wq O fun w hs => ?_;exact ⟨Z, hs.chg0⟩
   | true =>
    rw [if_neg (by simp)];(refine aA1 zq (aD (aG Z (aK (aC (aC (aB (aA1 zq (aD (aM ?_))))))))));refine bM (σ := Nat) (fun k => k ≤ s.tests.length ∧ (s.tests.take k).all tstB = true) (fun k => s.tests.length - k) (fun k => [(1, aC0 b1), (3, .int .i64 k)]) (fun _ => [.pt b1 (scC s (.slice ta s.tests.length tc) (.slice ra s.rifles.length rc)) 51]) 0 ⟨by omega, Z⟩ ⟨Z, Z, trivial⟩ O ?_;rintro k ⟨hk, hok⟩ K hK;(refine aC (aC (aB (aA1 zq (aA1 zq ?_)))); refine aJ U Z Z Z ?_; refine aA1 zq (aA1 zq (aD ?_)));refine dN Z (fun hc => ?_) (fun hc => ?_)
    ·have hk2 : k < s.tests.length := by omega
     clear hc;obtain ⟨tb, to, rfl⟩ := hta J;(refine aK (aC (aM (aC (aB (aA1 zq ?_))))); refine aJ U Z Z Z ?_; refine aA1 zq ?_);refine aA7 Wa J J ?_;(refine aA1 zq ?_);refine bI (v := .int .i64 s.tests[k].1) U Z Z Z (fun w hs => RdS.at (RdE.keep h.t hs.chg0) k hk2 0 J) ?_;refine aI (val := .bool (!(inB s.tests[k].1 1 10000))) U Z Z Z Z (fun w hs => ?_) ?_; exact fD s.tests[k].1 1 10000 w;cases d3 : inB s.tests[k].1 1 10000 with
     | false =>
      rw [mI (p := tstB) hk2 (by unfold tstB; rw [d3]; rfl), if_pos rfl];(refine aA1 zq ?_; (iterate 7 refine aA8 yq ?_); refine aA1 zq (aD (aH Z (aC (aB (aA1 zq (aD (aS ?_))))))));refine aA5 wq O fun w hs => ?_
      exact ⟨Z, hs.chg0⟩
     | true =>
      (refine aA1 zq (aE Z (aA1 zq (aE Z ?_))); refine aJ U Z Z Z ?_; refine aE Z (aA1 zq (aE Z ?_)))
      refine aA7 Wa J J ?_;(refine aE Z (aA1 zq (aE Z ?_)));refine bI (v := .int .i64 s.tests[k].2) U Z Z Z (fun w hs => RdS.at (RdE.keep h.t hs.chg0) k hk2 1 J) ?_;(refine aE Z ?_);refine aI (val := .bool (!(inB s.tests[k].2 0 20000))) U Z Z Z Z (fun w hs => ?_) ?_; exact fD s.tests[k].2 0 20000 w;cases d4 : inB s.tests[k].2 0 20000 with
      | false =>
       rw [mI (p := tstB) hk2 (by unfold tstB; rw [d3, d4]; rfl), if_pos rfl];(refine aA1 zq (aD (aH Z (aC (aB (aA1 zq (aD (aS ?_))))))));refine aA5 wq O fun w hs => ?_
       exact ⟨Z, hs.chg0⟩
      | true =>
       (refine aA1 zq (aD (aG Z (aK (bK (aB (aA1 zq (aA4 uq J J (aA1 zq (aD ?_))))))))))
       exact hK (k + 1) _ _ ⟨by omega, kM hk2 hok (by unfold tstB; rw [d3, d4]; rfl)⟩ J ⟨Z, Z, trivial⟩ O
    ·obtain rfl : k = s.tests.length := by omega
     rw [List.take_length] at hok;rw [hok, if_neg (by simp)];clear hc hK hk;(refine bH _ Z (aC (aC (aB (aA1 zq (aD (aM ?_)))))));refine bM (σ := Nat) (fun k => k ≤ s.rifles.length ∧ ((s.rifles.take k).all fun n => inB n 0 20000) = true) (fun k => s.rifles.length - k) (fun k => [(1, aC0 b1), (4, .int .i64 k)]) (fun _ => [.pt b1 (scC s (.slice ta s.tests.length tc) (.slice ra s.rifles.length rc)) 51]) 0 ⟨by omega, Z⟩ ⟨Z, Z, trivial⟩ O ?_;rintro k ⟨hk, hok2⟩ K hK;(refine aC (aC (aB (aA1 zq (aA1 zq ?_)))); refine aJ U Z Z Z ?_; refine aA1 zq (aA1 zq (aD ?_)));refine dN Z (fun hc => ?_) (fun hc => ?_)
     ·have hk2 : k < s.rifles.length := by omega
      clear hc;obtain ⟨rb, ro, rfl⟩ := hra J;(refine aK (aC (aM (aC (aB (aA1 zq ?_))))); refine aJ U Z Z Z ?_; refine aA1 zq ?_);refine aA7 Wa J J ?_;refine bI (v := .int .i64 s.rifles[k]) U Z Z Z (fun w hs => RdI.at (RdE.keep h.r hs.chg0) k hk2) ?_;refine aI (val := .bool (!(inB s.rifles[k] 0 20000))) U Z Z Z Z (fun w hs => ?_) ?_; exact fD s.rifles[k] 0 20000 w;cases d3 : inB s.rifles[k] 0 20000 with
      | false =>
       rw [mI (p := fun n => inB n 0 20000) hk2 d3, if_pos rfl];(refine aD (aH Z (aC (aB (aA1 zq (aD (aS ?_)))))));refine aA5 wq O fun w hs => ?_
       exact ⟨Z, hs.chg0⟩
      | true =>
       (refine aD (aG Z (aK (bK (aB (aA1 zq (aA4 uq J J (aA1 zq (aD ?_)))))))))
       exact hK (k + 1) _ _ ⟨by omega, kM (p := fun n => inB n 0 20000) hk2 hok2 d3⟩ J ⟨Z, Z, trivial⟩ O
     ·obtain rfl : k = s.rifles.length := by omega
      rw [List.take_length] at hok2;rw [hok2, if_neg (by simp)];(refine bH _ Z (aC (aB (aA1 zq (aD (aS ?_))))));refine aA5 wq O fun w hs => ?_
      exact ⟨Z, hs.chg0⟩
def ofsB (lo hi : Int) (i : Nat) : Bool := decide (lo ≤ (i : Int) - 1000) && decide ((i : Int) - 1000 ≤ hi)
def fU (lo hi : Int) : List Bool := (List.range 2001).map (ofsB lo hi)
theorem cM (lo hi : Int) : (fU lo hi).length = 2001 := by simp [fU]
theorem pU (lo hi : Int) {i : Nat} (h : i < (fU lo hi).length) : (fU lo hi)[i] = ofsB lo hi i := by simp [fU]
def ofsP (lo hi : Int) (i : Nat) : List Bool := (fU lo hi).take i ++ List.replicate (2001 - i) false
theorem ofsP_len (lo hi : Int) {i : Nat} (h : i ≤ 2001) : (ofsP lo hi i).length = 2001 := by
 unfold ofsP;rw [List.length_append, List.length_take, List.length_replicate, cM];omega
theorem ofsP_zero (lo hi : Int) : ofsP lo hi 0 = List.replicate 2001 false := rfl
theorem ofsP_full (lo hi : Int) : ofsP lo hi 2001 = fU lo hi := by
 unfold ofsP;rw [Nat.sub_self, List.replicate_zero, List.append_nil, List.take_of_length_le (by rw [cM]; exact Nat.le_refl _)]
theorem ofsP_set (lo hi : Int) {i : Nat} (h : i < 2001) : (ofsP lo hi i).set i (ofsB lo hi i) = ofsP lo hi (i + 1) := by
 unfold ofsP;have hl : i < (fU lo hi).length := by rw [cM]; exact h
 rw [List.set_append_right _ _ (by rw [List.length_take]; omega), List.length_take, show i - min i (fU lo hi).length = 0 from by omega, show 2001 - i = (2001 - (i + 1)) + 1 from by omega, List.replicate_succ, List.set_cons_zero, List.take_succ_eq_append_getElem hl, pU lo hi hl, List.append_assoc]
 rfl
def alwB (s : Sc) (o : Int) (t : Int × Int) : Bool := inB (t.2 - t.1 - o) (-s.err) s.err
theorem alw_all (s : Sc) (T : List (Int × Int)) {i : Nat} (hi : i < 2001) : T.all (alwB s ((i : Int) - 1000)) = ofsB (offL s T).1 (offL s T).2 i := by
 have h := offL_iff s ((i : Int) - 1000) T (-1000, 1000);rw [Bool.eq_iff_iff];unfold ofsB;rw [Bool.and_eq_true, decide_eq_true_iff, decide_eq_true_iff, List.all_eq_true];unfold offL;rw [h];constructor
 ·intro g;exact ⟨by simp only; omega, fun t ht => by have := bV.1 (g t ht); unfold alwP; omega⟩
 ·intro g t ht;have := g.2 t ht;unfold alwP at this;exact bV.2 this.2
structure TstOk (T : List (Int × Int)) : Prop where
 n : T.length ≤ 10
 test : ∀ t ∈ T, (1 ≤ t.1 ∧ t.1 ≤ 10000) ∧ 0 ≤ t.2 ∧ t.2 ≤ 20000
theorem eH (w : World) (lo hi lo2 hi2 : Nat) (s : Sc) (tv rv uv : Value) (T : List (Int × Int)) (h : ScR w lo hi tv rv s) (hT : RdS w lo2 hi2 uv T) (hs0 : s.Ok) (hTo : TstOk T) : Ca Tryz.prog 117 [.agg (scC s tv rv).toArray, uv] w fun x w' => ∃ b : Nat, x = aB9 b 2001 2001 ∧ Sat w M0 [.pt b (cK (fU (offL s T).1 (offL s T).2)) 4] w' := by
 obtain ⟨ta, tc, rfl, _⟩ := RdS.outI h.t;obtain ⟨ra, rc, rfl, _⟩ := RdI.outI h.r;obtain ⟨ua, uc, rfl, hua⟩ := RdS.outI hT;have he := hs0.err;have hTn := hTo.n;refine cN (Sat.nil w M0) Tryz.func117 Z (by simp [Tryz.ntmps117]) ?_;(refine aC (aB ?_));refine bR Z Z (fun b2 => ?_);rw [bL];(refine aA1 zq (aD (aC (aB ?_))));refine ql_makeZ (m := 2001) slBo Z Z Z Z J J (fun b5 => ?_);obtain ⟨N, hN⟩ : ∃ N : Nat, N = 2001 := ⟨_, rfl⟩;rw [← hN];(refine aA1 zq (aD (aC (aC (aB (aA1 zq (aD (aM ?_))))))));refine dG (H' := [.pt b5 (cK (ofsP (offL s T).1 (offL s T).2 0)) 4, .pt b2 (scC s (.slice ta s.tests.length tc) (.slice ra s.rifles.length rc)) 51]) (fun w' hs => by rw [hN] at hs; rw [ofsP_zero, show cK (List.replicate 2001 false) = List.replicate 2001 (.bool false) from List.map_replicate]; exact hs.sp O) ?_
 refine bM (σ := Nat) (fun i => i ≤ N) (fun i => N - i) (fun i => [(1, .slice ua T.length uc), (2, aC0 b2), (5, aB9 b5 N N), (6, .int .i64 i)])
  (fun i => [.pt b5 (cK (ofsP (offL s T).1 (offL s T).2 i)) 4, .pt b2 (scC s (.slice ta s.tests.length tc) (.slice ra s.rifles.length rc)) 51]) 0 J ⟨rfl, rfl, rfl, rfl, trivial⟩ O ?_
 rintro i hi' K hK;(refine aC (aC (aB ?_)); (iterate 4 refine aA1 zq ?_); refine aD ?_);refine dN Z (fun hc => ?_) (fun hc => ?_)
 ·have hi2 : i < N := by omega
  clear hc;(refine aK (aC (aM (aC (aB (aA1 zq (aA1 zq ?_)))))));refine aA7 Wa J J ?_;refine ql_storeBo U i Z Z Z O J (by rw [ofsP_len _ _ (show i ≤ 2001 by omega)]; omega) ?_;(refine aD (aC (aB (aA1 zq (aD (aM ?_))))));have hs0 : ∀ (l : List Bool) (a b : Bool), (l.set i a).set i b = l.set i b := fun l a b => List.set_set a
  have hend := alw_all s T (show i < 2001 by omega)
  refine bM (σ := Nat) (fun k => k ≤ T.length) (fun k => T.length - k) (fun k => [(1, .slice ua T.length uc), (2, aC0 b2), (5, aB9 b5 N N), (6, .int .i64 i), (7, .int .i64 k)])
   (fun k => [.pt b5 (cK ((ofsP (offL s T).1 (offL s T).2 i).set i ((T.take k).all (alwB s ((i : Int) - 1000))))) 4, .pt b2 (scC s (.slice ta s.tests.length tc) (.slice ra s.rifles.length rc)) 51]) 0 J ⟨rfl, rfl, rfl, rfl, rfl, trivial⟩ O ?_
  rintro k hk K2 hK2;(refine aC (aC (aB ?_)); (iterate 4 refine aA1 zq ?_); refine aD ?_);refine dN Z (fun hc => ?_) (fun hc => ?_)
  ·have hk2 : k < T.length := by omega
   clear hc;have ht := hTo.test _ (List.getElem_mem hk2)
   have hsu : (T.take (k + 1)).all (alwB s ((i : Int) - 1000)) = ((T.take k).all (alwB s ((i : Int) - 1000)) && alwB s ((i : Int) - 1000) T[k]) := by
    rw [List.take_succ_eq_append_getElem hk2, List.all_append];simp
   obtain ⟨ub, uo, rfl⟩ := hua J;(refine aK (aC (aM (aC ?_))));refine bZ _ [] (Sp.refl _) qB qB ?_;(refine aA2 xq (aA2 xq ?_));refine aA3 Wa J J ?_;(refine aA2 xq ?_);refine aR (v := .int .i64 T[k].2) U Z Z Z (fun w hs => RdS.at (RdE.keep hT hs.chg0) k hk2 1 J) ?_;(refine aA2 xq (aA2 xq ?_));refine aA3 Wa J J ?_;(refine aA2 xq ?_);refine aR (v := .int .i64 T[k].1) U Z Z Z (fun w hs => RdS.at (RdE.keep hT hs.chg0) k hk2 0 J) ?_;(refine aA9 uq J J (aA2 xq (aA9 uq J J (aA9 uq J J (aA2 xq (aN (aC (aB (aA1 zq (aA1 zq ?_))))))))); refine aJ U Z Z Z ?_; refine ql_neg U Z Z J J (aA1 zq ?_); refine aJ U Z Z Z ?_);refine aI (val := .bool (!(alwB s ((i : Int) - 1000) T[k]))) U Z Z Z Z (fun w hs => ?_) ?_; exact fD (T[k].2 - T[k].1 - ((i : Int) - 1000)) (-s.err) s.err w;cases ha : alwB s ((i : Int) - 1000) T[k] with
   | true =>
    rw [ha, Bool.and_true] at hsu;(refine aD (aG Z (aK (bK (aB (aA1 zq (aA4 uq J J (aA1 zq (aD ?_)))))))));exact hK2 (k + 1) _ _ J J ⟨Z, Z, Z, Z, Z, trivial⟩ (by rw [hsu]; repeat constructor)
   | false =>
    rw [ha, Bool.and_false] at hsu;(refine aD (aH Z (aB (aA1 zq (aA1 zq ?_)))));refine aA7 Wa J J ?_;refine ql_storeBo U i Z Z Z O J (by rw [List.length_set, ofsP_len _ _ (show i ≤ 2001 by omega)]; omega) ?_;rw [hs0];(refine aD (bK (aB (aA1 zq (aA4 uq J J (aA1 zq (aD ?_)))))));exact hK2 (k + 1) _ _ J J ⟨Z, Z, Z, Z, Z, trivial⟩ (by rw [hsu]; repeat constructor)
  ·obtain rfl : k = T.length := by omega
   rw [List.take_length, hend, ofsP_set _ _ (show i < 2001 by omega)];clear hc hK2;(refine bH _ Z (bK (aB (aA1 zq (aA4 uq J J (aA1 zq (aD ?_)))))));exact hK (i + 1) _ _ J J ⟨Z, Z, Z, Z, trivial⟩ O
 ·obtain rfl : i = N := by omega
  rw [hN, ofsP_full];(refine bH _ Z (aC (aB (aA1 zq (aA1 zq (aD (aS ?_)))))));refine aA5 wq O fun w hs => ?_
  exact ⟨b5, Z, hs.sp O⟩
def ofsS (lo hi : Int) : Int × Int := if lo ≤ hi then (lo, hi) else (0, 0)
theorem mG (w : World) (l2 h2 : Nat) (v : Value) (lo hi : Int) (h : RdB w l2 h2 v (fU lo hi)) (hlo : -1000 ≤ lo) (hhi : hi ≤ 1000) : Ca Tryz.prog 116 [v] w fun x w' => x = .tuple #[iN (ofsS lo hi), .bool (decide (lo ≤ hi))] ∧ Chg [] w w' := by
 obtain ⟨ba, bc, rfl, hba⟩ := h.out;obtain ⟨N, hN⟩ : ∃ N : Nat, N = 2001 := ⟨_, rfl⟩;have el : (cK (fU lo hi)).length = N := by rw [List.length_map, cM, hN]
 rw [el] at hba h ⊢;obtain ⟨bb, bo, rfl⟩ := hba J
 have hcell : ∀ i, i < N → ∀ w', Chg [] w w' → w'.cell? ⟨bb, bo + i * 1, none⟩ = some (.bool (ofsB lo hi i)) := fun i hi' w' hw => by
  have h1 : i < (cK (fU lo hi)).length := by rw [el]; exact hi'
  have h2 := (RdE.keep h hw).cell1 i h1 (by rw [List.getElem_map]; rfl);rw [h2, List.getElem_map, pU]
 refine cN (Sat.nil w M0) Tryz.func116 Z (by simp [Tryz.ntmps116]) ?_;(refine aC (aB ?_));refine bF dR Z (fun b2 => ?_);(refine aA1 zq (aD (aC (aB ?_))));refine fQ #[.int .i64 0, .int .i64 0] Z qB Z ?_;refine bF dR Z (fun b4 => ?_);(refine aB6 Wa O Z ?_; refine aA1 zq (aD (aC (aC (aB (aA1 zq (aD (aM ?_))))))))
 refine bM (σ := Nat × Bool × Int × Int) (fun s => s.1 ≤ N ∧ (s.2.1 = true → lo ≤ hi ∧ lo + 1000 < s.1 ∧ s.2.2.1 = lo ∧ s.2.2.2 = min hi ((s.1 : Int) - 1001)) ∧ (s.2.1 = false → (lo ≤ hi → (s.1 : Int) ≤ lo + 1000) ∧ s.2.2 = (0, 0))) (fun s => N - s.1) (fun s => [(0, .slice (some ⟨bb, bo, none⟩) N bc), (2, aC0 b2), (4, aC0 b4), (5, .bool s.2.1), (6, .int .i64 s.1)])
  (fun s => [.pt b4 [.int .i64 s.2.2.1, .int .i64 s.2.2.2] 56, .pt b2 [.int .i64 0, .int .i64 0] 56]) (0, false, 0, 0) ⟨by simp, (fun h => by cases h), fun _ => ⟨fun _ => by simp only; omega, rfl⟩⟩ ⟨rfl, rfl, rfl, rfl, rfl, trivial⟩ O ?_
 rintro ⟨i, f, a, b⟩ ⟨hi', hf1, hf2⟩ K hK;dsimp only at hi' hf1 hf2 ⊢;(refine aC (aC (aB ?_)); (iterate 4 refine aA1 zq ?_); refine aD ?_);refine dN Z (fun hc => ?_) (fun hc => ?_)
 ·have hi2 : i < N := by omega
  clear hc;(refine aK (aC (aM (aC (aB (aA1 zq (aA1 zq ?_)))))));refine aA7 Wa J J ?_;refine bI U Z Z Z (fun w hs => hcell i hi2 _ hs.chg0) ?_;cases hb : ofsB lo hi i with
  | true =>
   have hb2 : lo ≤ (i : Int) - 1000 ∧ (i : Int) - 1000 ≤ hi := by
    unfold ofsB at hb;simpa using hb
   cases f with
   | true =>
    obtain ⟨g1, g2, g3, g4⟩ := hf1 rfl;(refine aD (aH Z (aC (aC (aB (aA1 zq (aA1 zq (aD (aG Z (aK (aC (aB ?_))))))))))); refine aA1 zq (aA4 uq J J (aA1 zq ?_)); refine ql_st1 U Z Z Z Z O ?_; refine aD (aB (aA1 zq (aD (bK (aB (aA1 zq (aA4 uq J J (aA1 zq (aD ?_))))))))));exact hK (i + 1, true, a, (i : Int) - 1000) _ _ ⟨by simp only; omega, (fun _ => ⟨g1, by simp only; omega, g3, by simp only; omega⟩), (fun h => by cases h)⟩ (by simp only; omega) ⟨rfl, rfl, rfl, rfl, rfl, trivial⟩ O
   | false =>
    obtain ⟨g1, g2⟩ := hf2 rfl;have g3 := g1 J;(refine aD (aH Z (aC (aC (aB (aA1 zq (aA1 zq (aD (aH Z (aB (aA1 zq (aA4 uq J J ?_))))))))))); refine aA1 zq ?_; refine ql_st0 U Z Z Z Z O ?_; refine aD (aC (aB (aA1 zq (aA4 uq J J (aA1 zq ?_))))); refine ql_st1 U Z Z Z Z O ?_; refine aD (aB (aA1 zq (aD (bK (aB (aA1 zq (aA4 uq J J (aA1 zq (aD ?_))))))))));exact hK (i + 1, true, (i : Int) - 1000, (i : Int) - 1000) _ _ ⟨by simp only; omega, fun _ => ⟨by omega, by simp only; omega, by simp only; omega, by simp only; omega⟩, (fun h => by cases h)⟩ (by simp only; omega) ⟨rfl, rfl, rfl, rfl, rfl, trivial⟩ O
  | false =>
   have hb2 : ¬ (lo ≤ (i : Int) - 1000 ∧ (i : Int) - 1000 ≤ hi) := by
    unfold ofsB at hb;simpa using hb
   (refine aD (aG Z (aK (bK (aB (aA1 zq (aA4 uq J J (aA1 zq (aD ?_)))))))))
   exact hK (i + 1, f, a, b) _ _ ⟨by simp only; omega, fun hf => by
    obtain ⟨g1, g2, g3, g4⟩ := hf1 hf;exact ⟨g1, by simp only; omega, g3, by simp only; omega⟩, fun hf => by
    obtain ⟨g1, g2⟩ := hf2 hf;exact ⟨fun g => by have := g1 g; simp only; omega, g2⟩⟩ (by simp only; omega) ⟨Z, Z, Z, Z, Z, trivial⟩ O
 ·have hiN : i = 2001 := by omega
  have e : f = decide (lo ≤ hi) ∧ (a, b) = ofsS lo hi := by
   cases f with
   | true =>
    obtain ⟨g1, g2, g3, g4⟩ := hf1 rfl;refine ⟨(decide_eq_true g1).symm, ?_⟩;unfold ofsS;rw [if_pos g1, g3, g4, show min hi ((i : Int) - 1001) = hi from by omega]
   | false =>
    obtain ⟨g1, g2⟩ := hf2 rfl;have g3 : ¬ lo ≤ hi := fun g => by have := g1 g; omega
    refine ⟨(decide_eq_false g3).symm, ?_⟩;unfold ofsS;rw [if_neg g3, g2]
  obtain ⟨e1, e2⟩ := e;rw [← e1, ← e2];(refine bH _ Z (aC (aB ?_)); refine aP U Z Z Z ?_; refine aA1 zq ?_; refine aB6 Wa O Z ?_; refine aA1 zq (aD (aS ?_)));refine aA5 wq O fun w hs => ?_
  exact ⟨Z, hs.chg0⟩
end Go.Proofs.YtopdmadgkjdgcaaGreat
