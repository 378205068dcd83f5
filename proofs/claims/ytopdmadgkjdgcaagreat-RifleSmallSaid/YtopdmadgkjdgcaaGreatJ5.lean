/- My texts, joined: lemmas for RifleSmall. -/
import Derived.Test.YtopdmadgkjdgcaaGreatJ4
set_option linter.unusedVariables false
set_option maxHeartbeats 16000000
namespace Go.Proofs.YtopdmadgkjdgcaaGreat
open Go Go.Eng
set_option maxRecDepth 4000
open Go Go.Eng
def offU (s : Sc) : Int × Int := if eY s = 0 then dS s else (0, 0)
theorem roff_u (w : World) (lo hi : Nat) (s : Sc) (tv rv : Value) (h : ScR w lo hi tv rv s) (hl1 : s.tests.length ≤ maxLen) (hl2 : s.rifles.length ≤ maxLen) : Ca Tryz.prog 34 [.agg (scC s tv rv).toArray] w fun x w' => x = .tuple #[iN (offU s), .int .i64 (eY s)] ∧ Chg [] w w' := by
 by_cases h0 : eY s = 0
 ·have := roff_ok w lo hi s tv rv h (dU.1 h0);unfold offU;rw [if_pos h0, h0];exact this
 ·have := roff_no w lo hi s tv rv h hl1 hl2 h0;unfold offU;rw [if_neg h0];exact this
theorem Sc.Ok.tst {s : Sc} (h : s.Ok) : TstOk s.tests := ⟨h.tn, h.test⟩
theorem gV {w : World} {b n : Nat} {l : List Bool} {t c : Nat} (h : Blk w b (cK l) t) (hn : n = l.length) : RdB w 0 w.heap.size (aB9 b n c) l := by
 subst hn;have hl := h.lt;refine RdB.of ⟨by simp, .inr ⟨b, 0, c, Z, fun _ => ⟨by omega, hl, hl⟩, fun j hj => ?_⟩⟩;rw [Nat.zero_add, Blk.cell h]
theorem rroff_u (w : World) (lo hi : Nat) (s : Sc) (tv rv : Value) (h : ScR w lo hi tv rv s) (hl1 : s.tests.length ≤ maxLen) (hl2 : s.rifles.length ≤ maxLen) : Ca Tryz.prog 35 [.agg (scC s tv rv).toArray] w fun x w' => x = .tuple #[iN (offU s), .int .i64 (eY s)] ∧ Chg [] w w' := by
 obtain ⟨ta, tc, rfl, _⟩ := RdS.outI h.t;obtain ⟨ra, rc, rfl, _⟩ := RdI.outI h.r;refine cN (Sat.nil w M0) Tryz.func35 Z (by simp [Tryz.ntmps35]) ?_;(refine aC (aB ?_));refine bR Z Z (fun b1 => ?_);rw [bL];refine bF dR Z (fun b2 => ?_);(refine aA1 zq (aD (aC (aC (aB ?_)))); refine aP U Z Z Z ?_);refine aI (val := .int .i64 (mC s)) U Z Z Z Z (fun w hs => ?_) ?_; exact rchkS_ca w lo hi s _ _ (h.keep hs.chg0) hl1 hl2;by_cases h0 : mC s = 0
 ·have hok := gN.1 h0;have hob := off_bd s;rw [h0];(refine aA1 zq (aD (aC (aB (aA1 zq (aA6 xq J (aD (aG Z (aK (aC (aB ?_)))))))))); refine aP U Z Z Z ?_; refine aA1 zq ?_; refine aJ U Z Z Z ?_);refine bC (β := Nat) U [] _ M0 Z Z Z Z (Sp.refl _) qC (fun w' hs => eH w' lo hi lo hi s _ _ _ s.tests (h.keep hs.chg0) (RdE.keep h.t hs.chg0) hok hok.tst) ?_;rintro b3 _ rfl;dsimp only [List.cons_append, List.nil_append];by_cases hle : (dS s).1 ≤ (dS s).2
  ·have e1 : eY s = 0 := dU.2 ⟨hok, hle⟩;have e2 : offU s = dS s := by unfold offU; rw [if_pos e1]
   have e3 : ofsS (dS s).1 (dS s).2 = dS s := by unfold ofsS; rw [if_pos hle]
   rw [e1, e2, ← e3];refine aI (val := .tuple #[iN (ofsS (dS s).1 (dS s).2), .bool true]) U Z Z Z Z (fun w hs => ?_) ?_; exact by have := mG w 0 w.heap.size _ _ _ (gV (c := 2001) (hs.blk (b := b3) O) (by rw [cM])) hob.1 hob.2; rw [decide_eq_true hle] at this; exact this
   (refine aA1 zq (aB5 xq (aB5 xq ?_)))
   refine bF dR Z (fun b5 => ?_);(refine aB6 Wa O Z ?_; refine aA1 zq (aD (aC (aC (aB (aA1 zq (aA1 zq (aD (aG Z (aK (aC (aB ?_))))))))))); refine aP U Z Z Z ?_; refine aB6 Wa O Z ?_; refine aA1 zq (aD (aS ?_)));refine aA5 wq O fun w hs => ?_;exact ⟨Z, hs.chg0⟩
  ·have e1 : eY s = 7 := by unfold eY; rw [if_neg (by rw [h0]; simp), if_neg hle]
   have e2 : offU s = (0, 0) := by unfold offU; rw [if_neg (by rw [e1]; decide)]
   rw [e1, e2];refine aI (val := .tuple #[iN (ofsS (dS s).1 (dS s).2), .bool false]) U Z Z Z Z (fun w hs => ?_) ?_; exact by have := mG w 0 w.heap.size _ _ _ (gV (c := 2001) (hs.blk (b := b3) O) (by rw [cM])) hob.1 hob.2; rw [decide_eq_false hle] at this; exact this
   (refine aA1 zq (aB5 xq (aB5 xq ?_)))
   refine bF dR Z (fun b5 => ?_);(refine aB6 Wa O Z ?_; refine aA1 zq (aD (aC (aC (aB (aA1 zq (aA1 zq (aD (aH Z (aC (aB ?_)))))))))));refine fQ #[.int .i64 0, .int .i64 0] Z qB Z ?_;(refine aB6 Wa O Z ?_; refine aA1 zq (aD (aS ?_)));refine aA5 wq O fun w hs => ?_;exact ⟨Z, hs.chg0⟩
 ·have e1 : eY s = mC s := by unfold eY; rw [if_pos h0]
  have e2 : offU s = (0, 0) := by unfold offU; rw [if_neg (by rw [e1]; exact h0)]
  rw [e1, e2];(refine aA1 zq (aD (aC (aB (aA1 zq (aB0 xq J (aD (aH Z (aC (aB ?_))))))))));refine fQ #[.int .i64 0, .int .i64 0] Z qB Z ?_;(refine aA1 zq ?_; refine aB6 Wa O Z ?_; refine aA1 zq (aD (aS ?_)));refine aA5 wq O fun w hs => ?_
  exact ⟨Z, hs.chg0⟩
theorem clr_uniq {s : Sc} {i k i2 k2 : Nat} {e e2 : Int} (h : ClR s i k e) (h2 : ClR s i2 k2 e2) : i = i2 ∧ k = k2 ∧ e = e2 := by
 rcases h with ⟨rfl, rfl, rfl, h3⟩ | ⟨rfl, h3, h4, h5, h6⟩
 ·rcases h2 with ⟨rfl, rfl, rfl, _⟩ | ⟨_, g3, g4, g5, _⟩
  ·exact ⟨Z, Z, Z⟩
  ·rw [h3 _ _ g3 g4] at g5; cases g5
 ·rcases h2 with ⟨_, _, _, g3⟩ | ⟨rfl, g3, g4, g5, g6⟩
  ·rw [g3 _ _ h3 h4] at h5; cases h5
  ·have a1 : ¬ (i < i2 ∨ i = i2 ∧ k < k2) := fun c => by rw [g6 i k h3 h4 c] at h5; cases h5
   have a2 : ¬ (i2 < i ∨ i2 = i ∧ k2 < k) := fun c => by rw [h6 i2 k2 g3 g4 c] at g5; cases g5
   exact ⟨by omega, by omega, Z⟩
def ClU (s : Sc) (i k : Nat) (e : Int) : Prop := (mC s ≠ 0 ∧ i = 0 ∧ k = 0 ∧ e = mC s) ∨ (mC s = 0 ∧ ClR s i k e)
theorem clu_uniq {s : Sc} {i k i2 k2 : Nat} {e e2 : Int} (h : ClU s i k e) (h2 : ClU s i2 k2 e2) : i = i2 ∧ k = k2 ∧ e = e2 := by
 rcases h with ⟨h0, rfl, rfl, rfl⟩ | ⟨h0, h⟩
 ·rcases h2 with ⟨_, rfl, rfl, rfl⟩ | ⟨g0, _⟩
  ·exact ⟨Z, Z, Z⟩
  ·exact absurd g0 h0
 ·rcases h2 with ⟨g0, _⟩ | ⟨_, h2⟩
  ·exact absurd h0 g0
  ·exact clr_uniq h h2
theorem clash_u (w : World) (lo hi : Nat) (s : Sc) (tv rv : Value) (h : ScR w lo hi tv rv s) (hl1 : s.tests.length ≤ maxLen) (hl2 : s.rifles.length ≤ maxLen) : Ca Tryz.prog 36 [.agg (scC s tv rv).toArray] w fun x w' => ∃ y : Nat × Nat × Int, (x = .tuple #[.int .i64 y.1, .int .i64 y.2.1, .int .i64 y.2.2] ∧ ClU s y.1 y.2.1 y.2.2) ∧ Sat w M0 [] w' := by
 by_cases h0 : mC s = 0
 ·refine (clash_ok w lo hi s tv rv h (gN.1 h0)).mono fun x w' => ?_;rintro ⟨y, ⟨e, hy⟩, hs⟩
  exact ⟨y, ⟨e, .inr ⟨h0, hy⟩⟩, hs⟩
 ·refine cN (Sat.nil w M0) Tryz.func36 Z (by simp [Tryz.ntmps36]) ?_;(refine aC (aB ?_));refine bR Z Z (fun b1 => ?_);rw [bL]
  ((iterate 3 refine aA1 zq ?_); refine aD (aC (aC (aB ?_))); refine aP U Z Z Z ?_)
  refine aI (val := .int .i64 (mC s)) U Z Z Z Z (fun w hs => ?_) ?_; exact lO w lo hi s _ rv (h.keep hs.chg0) hl1 hl2;(refine aA1 zq (aD (aC (aB (aA1 zq (aB0 xq J (aD (aH Z (aC (aB ?_))))))))); (iterate 4 refine aA1 zq ?_); refine aD (aS ?_));refine aA5 wq O fun w hs => ?_;exact ⟨(0, 0, mC s), ⟨Z, .inl ⟨h0, Z, Z, Z⟩⟩, hs.sp O⟩
theorem off_two (s : Sc) (h : 0 ≤ s.err) (t u : Int × Int) : offL s [t, u] = lQ (gB s t) (gB s u) := by
 unfold offL;simp only [List.foldl_cons, List.foldl_nil, lQ, gB, Prod.mk.injEq];omega
def tF33_795a40e : OT := .alt (bE [13, 14, 15, 17, 18, 16, 19] (.nil)) (bE [17, 13, 14, 15, 18, 16, 19] (.nil))
def tF33_5987165 : OT := .alt (bE [12] (tF33_795a40e)) (bE [17, 12, 13, 14, 15, 18, 16, 19] (.nil))
def tF33_0520a61 : OT := .alt (bE [0, 1, 2, 3, 4, 5, 6, 7, 8, 9, 10, 11] (tF33_5987165)) (bE [17, 0, 1, 2, 3, 4, 5, 6, 7, 8, 9, 10, 11, 12, 13, 14, 15, 18, 16, 19] (.nil))
theorem rclash_u (w : World) (lo hi : Nat) (s : Sc) (tv rv : Value) (h : ScR w lo hi tv rv s) (hl1 : s.tests.length ≤ maxLen) (hl2 : s.rifles.length ≤ maxLen) : Ca Tryz.prog 37 [.agg (scC s tv rv).toArray] w fun x w' => ∃ y : Nat × Nat × Int, (x = .tuple #[.int .i64 y.1, .int .i64 y.2.1, .int .i64 y.2.2] ∧ ClU s y.1 y.2.1 y.2.2) ∧ Sat w M0 [] w' := by
 obtain ⟨ta, tc, rfl, hta⟩ := RdS.outI h.t;obtain ⟨ra, rc, rfl, _⟩ := RdI.outI h.r;refine cN (Sat.nil w M0) Tryz.func37 Z (by simp [Tryz.ntmps37]) ?_;(refine aC (aB ?_));refine bR Z Z (fun b1 => ?_);rw [bL]
 ((iterate 3 refine aA1 zq ?_); refine aD (aC (aC (aB ?_))); refine aP U Z Z Z ?_)
 refine aI (val := .int .i64 (mC s)) U Z Z Z Z (fun w hs => ?_) ?_; exact rchkS_ca w lo hi s _ _ (h.keep hs.chg0) hl1 hl2;by_cases h0 : mC s = 0
 ·have hok := gN.1 h0;have htn := hok.tn;have hgt : ∀ (i : Nat) (hi : i < s.tests.length), tstN s i = s.tests[i] := fun i hi => by unfold tstN; rw [List.getD_eq_getElem?_getD, List.getElem?_eq_getElem hi]; rfl
  rw [h0];(refine aA1 zq (aD (aC (aB (aA1 zq (aA6 xq J (aD (aG Z (aK (aC (aC (aB ?_))))))))))); refine aA1 zq (aD (aM ?_)));refine bM (σ := Nat) (fun i => i ≤ s.tests.length ∧ ∀ a b, a ≤ b → b < s.tests.length → a < i → clB s a b = false) (fun i => s.tests.length - i) (fun i => [(1, aC0 b1), (6, .int .i64 i)]) (fun _ => [.pt b1 (scC s (.slice ta s.tests.length tc) (.slice ra s.rifles.length rc)) 51]) 0 ⟨by omega, fun a b _ _ h => by omega⟩ ⟨Z, Z, trivial⟩ O ?_;rintro i ⟨hi1, hno⟩ K hK;(refine aC (aC (aB (aA1 zq (aA1 zq ?_)))); refine aJ U Z Z Z ?_; refine aA1 zq (aA1 zq (aD ?_)));refine dN Z (fun hc => ?_) (fun hc => ?_)
  ·have hil : i < s.tests.length := by omega
   clear hc;obtain ⟨tb, to, rfl⟩ := hta J;(refine aK (aC (aM (aC (aB (aA1 zq (aA1 zq (aD (aM ?_)))))))));refine bM (σ := Nat) (fun k => i ≤ k ∧ k ≤ s.tests.length ∧ ∀ b, i ≤ b → b < k → clB s i b = false) (fun k => s.tests.length - k) (fun k => [(1, aC0 b1), (6, .int .i64 i), (7, .int .i64 k)]) (fun _ => [.pt b1 (scC s (.slice (some ⟨tb, to, none⟩) s.tests.length tc) (.slice ra s.rifles.length rc)) 51]) i ⟨by omega, by omega, fun b h1 h2 => by omega⟩ ⟨Z, Z, Z, trivial⟩ O ?_;rintro k ⟨hk1, hk2, hno2⟩ K2 hK2;(refine aC (aC (aB (aA1 zq (aA1 zq ?_)))); refine aJ U Z Z Z ?_; refine aA1 zq (aA1 zq (aD ?_)));refine dN Z (fun hc => ?_) (fun hc => ?_)
   ·have hkl : k < s.tests.length := by omega
    clear hc;have hcb : clB s i k = decide ((lQ (gB s s.tests[i]) (gB s s.tests[k])).2 < (lQ (gB s s.tests[i]) (gB s s.tests[k])).1) := by unfold clB; rw [hgt i hil, hgt k hkl]
    have hbd := offL_bd s [s.tests[i], s.tests[k]] (-1000, 1000);have e2 := off_two s hok.err.1 s.tests[i] s.tests[k]
    have hdec : decide ((offL s [s.tests[i], s.tests[k]]).1 ≤ (offL s [s.tests[i], s.tests[k]]).2) = !(clB s i k) := by
     rw [hcb, e2, ← decide_not, decide_eq_decide, Int.not_lt]
    (refine aK (aC (aM (aC ?_))))
    refine fT (σ := Unit) (fun _ => [(1, aC0 b1), (6, .int .i64 i), (7, .int .i64 k), (9, .bool (!(clB s i k)))]) (fun _ => [.pt b1 (scC s (.slice (some ⟨tb, to, none⟩) s.tests.length tc) (.slice ra s.rifles.length rc)) 51]) ?_ ?_;rotate_left
    ·intro K3 hK3;refine eQ (tF33_0520a61) _ [] (Sp.refl _) qB qB ?_;refine cA ?_ ?_
     ·refine bA qA fun K1 hK1 => ?_;(refine aV U Z Z Z ?_; refine aA2 xq ?_; refine bB U Z Z Z ?_; refine aA2 xq ?_)
      refine aA3 Wa J J ?_;refine cV (cs := [.int .i64 s.tests[i].1, .int .i64 s.tests[i].2]) U Z Z Z Z (fun w hs q hq => by simpa using RdS.at (RdE.keep h.t hs.chg0) i hil q hq) ?_;(refine aA2 xq ?_; refine bB U Z Z Z ?_; refine aA2 xq ?_);refine aA3 Wa J J ?_;refine cV (cs := [.int .i64 s.tests[k].1, .int .i64 s.tests[k].2]) U Z Z Z Z (fun w hs q hq => by simpa using RdS.at (RdE.keep h.t hs.chg0) k hkl q hq) ?_;refine eX 172 (spC [s.tests[i], s.tests[k]]) Z qB Z (fun bn => ?_);(refine aN ?_);refine hK1 _ _ ?_;refine cA ?_ ?_
      ·refine bA qA fun K1 hK1 => ?_;refine bX (β := Nat) (ψ := fun b v => v = aB9 b 2001 2001) (L' := fun b => [.pt b (cK (fU (offL s [s.tests[i], s.tests[k]]).1 (offL s [s.tests[i], s.tests[k]]).2)) 4]) U [] _ M0 rfl rfl rfl rfl (Sp.refl _) qC (fun w' hs => eH w' lo hi 0 w'.heap.size s _ _ (aB9 bn 2 2) [s.tests[i], s.tests[k]] (h.keep hs.chg0) (Blk.rdS' (c := 2) (hs.blk (b := bn) O) rfl) hok ⟨by simp, fun t ht => by rcases List.mem_cons.1 ht with rfl | ht; exact hok.test _ (List.getElem_mem hil); rw [List.mem_singleton.1 ht]; exact hok.test _ (List.getElem_mem hkl)⟩) ?_
       rintro b3 _ rfl;dsimp only [List.cons_append, List.nil_append];(refine aN ?_);refine hK1 _ _ ?_;refine cA ?_ ?_
       ·refine bA qA fun K1 hK1 => ?_;refine bN (val := .tuple #[iN (ofsS (offL s [s.tests[i], s.tests[k]]).1 (offL s [s.tests[i], s.tests[k]]).2), .bool (decide ((offL s [s.tests[i], s.tests[k]]).1 ≤ (offL s [s.tests[i], s.tests[k]]).2))]) U Z Z Z Z (fun w hs => mG w 0 w.heap.size _ _ _ (gV (hs.blk (b := b3) O) (by rw [cM])) hbd.1 hbd.2) ?_
        (refine aA2 xq (aB8 xq ?_))
        refine bG dR Z (fun b8 => ?_);(refine aB7 Wa O Z ?_; refine aB8 xq (aA2 xq (aN ?_)));exact hK1 _ _ (dD (hK3 () _ _ ⟨Z, Z, Z, by rw [← hdec]; rfl, trivial⟩ O))
       ·refine bA qA fun K1 hK1 => ?_;refine bG dR Z (fun b8 => ?_)
        refine bN (val := .tuple #[iN (ofsS (offL s [s.tests[i], s.tests[k]]).1 (offL s [s.tests[i], s.tests[k]]).2), .bool (decide ((offL s [s.tests[i], s.tests[k]]).1 ≤ (offL s [s.tests[i], s.tests[k]]).2))]) U Z Z Z Z (fun w hs => mG w 0 w.heap.size _ _ _ (gV (hs.blk (b := b3) O) (by rw [cM])) hbd.1 hbd.2) ?_;(refine aA2 xq (aB8 xq ?_); refine aB7 Wa O Z ?_; refine aB8 xq (aA2 xq (aN ?_)));exact hK1 _ _ (dD (hK3 () _ _ ⟨Z, Z, Z, by rw [← hdec]; rfl, trivial⟩ O))
      ·refine bA qA fun K1 hK1 => ?_;refine bG dR Z (fun b8 => ?_)
       refine bX (β := Nat) (ψ := fun b v => v = aB9 b 2001 2001) (L' := fun b => [.pt b (cK (fU (offL s [s.tests[i], s.tests[k]]).1 (offL s [s.tests[i], s.tests[k]]).2)) 4]) U [] _ M0 rfl rfl rfl rfl (Sp.refl _) qC (fun w' hs => eH w' lo hi 0 w'.heap.size s _ _ (aB9 bn 2 2) [s.tests[i], s.tests[k]] (h.keep hs.chg0) (Blk.rdS' (c := 2) (hs.blk (b := bn) O) rfl) hok ⟨by simp, fun t ht => by rcases List.mem_cons.1 ht with rfl | ht; exact hok.test _ (List.getElem_mem hil); rw [List.mem_singleton.1 ht]; exact hok.test _ (List.getElem_mem hkl)⟩) ?_;rintro b3 _ rfl;dsimp only [List.cons_append, List.nil_append];refine bN (val := .tuple #[iN (ofsS (offL s [s.tests[i], s.tests[k]]).1 (offL s [s.tests[i], s.tests[k]]).2), .bool (decide ((offL s [s.tests[i], s.tests[k]]).1 ≤ (offL s [s.tests[i], s.tests[k]]).2))]) U Z Z Z Z (fun w hs => mG w 0 w.heap.size _ _ _ (gV (hs.blk (b := b3) O) (by rw [cM])) hbd.1 hbd.2) ?_;(refine aA2 xq (aB8 xq ?_); refine aB7 Wa O Z ?_; refine aB8 xq (aA2 xq (aN ?_)));exact hK1 _ _ (dD (hK3 () _ _ ⟨Z, Z, Z, by rw [← hdec]; rfl, trivial⟩ O))
     ·refine bA qA fun K1 hK1 => ?_;refine bG dR Z (fun b8 => ?_)
      (refine aV U Z Z Z ?_; refine aA2 xq ?_; refine bB U Z Z Z ?_; refine aA2 xq ?_)
      refine aA3 Wa J J ?_;refine cV (cs := [.int .i64 s.tests[i].1, .int .i64 s.tests[i].2]) U Z Z Z Z (fun w hs q hq => by simpa using RdS.at (RdE.keep h.t hs.chg0) i hil q hq) ?_;(refine aA2 xq ?_; refine bB U Z Z Z ?_; refine aA2 xq ?_);refine aA3 Wa J J ?_;refine cV (cs := [.int .i64 s.tests[k].1, .int .i64 s.tests[k].2]) U Z Z Z Z (fun w hs q hq => by simpa using RdS.at (RdE.keep h.t hs.chg0) k hkl q hq) ?_;refine eX 172 (spC [s.tests[i], s.tests[k]]) Z qB Z (fun bn => ?_);refine bX (β := Nat) (ψ := fun b v => v = aB9 b 2001 2001) (L' := fun b => [.pt b (cK (fU (offL s [s.tests[i], s.tests[k]]).1 (offL s [s.tests[i], s.tests[k]]).2)) 4]) U [] _ M0 rfl rfl rfl rfl (Sp.refl _) qC (fun w' hs => eH w' lo hi 0 w'.heap.size s _ _ (aB9 bn 2 2) [s.tests[i], s.tests[k]] (h.keep hs.chg0) (Blk.rdS' (c := 2) (hs.blk (b := bn) O) rfl) hok ⟨by simp, fun t ht => by rcases List.mem_cons.1 ht with rfl | ht; exact hok.test _ (List.getElem_mem hil); rw [List.mem_singleton.1 ht]; exact hok.test _ (List.getElem_mem hkl)⟩) ?_;rintro b3 _ rfl;dsimp only [List.cons_append, List.nil_append];refine bN (val := .tuple #[iN (ofsS (offL s [s.tests[i], s.tests[k]]).1 (offL s [s.tests[i], s.tests[k]]).2), .bool (decide ((offL s [s.tests[i], s.tests[k]]).1 ≤ (offL s [s.tests[i], s.tests[k]]).2))]) U Z Z Z Z (fun w hs => mG w 0 w.heap.size _ _ _ (gV (hs.blk (b := b3) O) (by rw [cM])) hbd.1 hbd.2) ?_;(refine aA2 xq (aB8 xq ?_); refine aB7 Wa O Z ?_; refine aB8 xq (aA2 xq (aN ?_)));exact hK1 _ _ (dD (hK3 () _ _ ⟨Z, Z, Z, by rw [← hdec]; rfl, trivial⟩ O))
    intro _;cases hcl : clB s i k with
    | true =>
     (refine aC (aB (aA1 zq (aA1 zq (aD (aH Z (aC (aB ?_))))))); (iterate 5 refine aA1 zq ?_); refine aD (aS ?_))
     refine aA5 wq O fun w hs => ?_;exact ⟨(i, k, 0), ⟨Z, .inr ⟨h0, .inr ⟨Z, hk1, hkl, hcl, fun a b h1 h2 h3 => h3.elim (fun h3 => hno a b h1 h2 h3) (fun ⟨h3, h4⟩ => by rw [h3] at h1 ⊢; exact hno2 b h1 h4)⟩⟩⟩, hs.sp O⟩
    | false =>
     (refine aC (aB (aA1 zq (aA1 zq (aD (aG Z (aK (bK (aB (aA1 zq (aA4 uq J J (aA1 zq ?_))))))))))); refine aD ?_)
     exact hK2 (k + 1) _ _ ⟨by omega, by omega, fun b h1 h2 => by
      by_cases he : b = k
      ·rw [he]; exact hcl
      ·exact hno2 b h1 J⟩ J ⟨Z, Z, Z, trivial⟩ O
   ·obtain rfl : k = s.tests.length := by omega
    (refine bH _ Z (bK (aB (aA1 zq (aA4 uq J J (aA1 zq (aD ?_)))))))
    exact hK (i + 1) _ _ ⟨by omega, fun a b h1 h2 h3 => by
     by_cases he : a = i
     ·rw [he] at h1 ⊢; exact hno2 b h1 h2
     ·exact hno a b h1 h2 J⟩ J ⟨Z, Z, trivial⟩ O
  ·obtain rfl : i = s.tests.length := by omega
   (refine bH _ Z (aC (aB ?_)); (iterate 3 refine aA1 zq ?_); refine aD (aS ?_))
   refine aA5 wq O fun w hs => ?_;exact ⟨(0, 0, 6), ⟨Z, .inr ⟨h0, .inl ⟨Z, Z, Z, fun a b h1 h2 => hno a b h1 h2 J⟩⟩⟩, hs.sp O⟩
 ·(refine aA1 zq (aD (aC (aB (aA1 zq (aB0 xq J (aD (aH Z (aC (aB ?_))))))))); (iterate 4 refine aA1 zq ?_); refine aD (aS ?_))
  refine aA5 wq O fun w hs => ?_;exact ⟨(0, 0, mC s), ⟨Z, .inl ⟨h0, Z, Z, Z⟩⟩, hs.sp O⟩
section
variable {most : Nat} {s : Sc} {o : Int} {X : List (Int × Int)}
theorem MadS.len (h : MadS most s o X) : s.rifles.length = X.length := by rw [h.rif, List.length_map]
theorem MadS.at (h : MadS most s o X) {r : Nat} (hr : r < X.length) : s.rif r = X[r].2 := by
 unfold Sc.rif;rw [List.getD_eq_getElem?_getD, h.rif, List.getElem?_map, List.getElem?_eq_getElem hr]
 rfl
theorem MadS.ok (h : MadS most s o X) (hm : most ≤ 8) : s.Ok := by
 have he := h.err;have ho := h.off;have h1 := h.n1;have h2 := h.n2;have h3 := h.len;have h4 := h.tn;refine ⟨by omega, by omega, by omega, by omega, by rw [h.least]; omega, fun t ht => ?_, fun n hn => ?_⟩
 ·have := h.tst t ht;omega
 ·rw [h.rif] at hn;obtain ⟨p, hp, rfl⟩ := List.mem_map.1 hn;have := h.rifle p hp;omega
theorem MadS.in (h : MadS most s o X) : (dS s).1 ≤ o ∧ o ≤ (dS s).2 := by
 have he := h.err;have ho := h.off;refine off_iff.2 ⟨by omega, fun t ht => ?_⟩;have := h.tst t ht;unfold alwP;omega
theorem MadS.cl (h : MadS most s o X) : ∀ a b, a ≤ b → b < s.tests.length → clB s a b = false := fun a b hab hb => by
 have he := h.err;have ho := h.off
 have g : ∀ i, i < s.tests.length → (gB s (tstN s i)).1 ≤ o ∧ o ≤ (gB s (tstN s i)).2 := fun i hi => by
  have : tstN s i ∈ s.tests := by
   unfold tstN;rw [List.getD_eq_getElem?_getD, List.getElem?_eq_getElem hi];exact List.getElem_mem hi
  have := h.tst _ this;simp only [gB];omega
 have h1 := g a J;have h2 := g b hb;unfold clB;refine decide_eq_false fun hc => ?_
 simp only [lQ] at hc;omega
theorem MadS.has (h : MadS most s o X) {r : Nat} (hr : r < X.length) : (gL s r (dS s)).1 ≤ X[r].1 ∧ X[r].1 ≤ (gL s r (dS s)).2 := by
 have h1 := h.in;have h2 := h.rifle _ (List.getElem_mem hr);simp only [gL, h.at hr];omega
end
theorem rweight_ca (w : World) (lo hi l2 h2 : Nat) (s : Sc) (tv rv v : Value) (h : ScR w lo hi tv rv s) (hs0 : s.Ok) (i : Nat) (hi' : i < s.rifles.length) (a b : Int) (hb : RdB w l2 h2 v (fU a b)) (ha1 : -1000 ≤ a) (hb1 : b ≤ 1000) : Ca Tryz.prog 121 [.agg (scC s tv rv).toArray, .int .i64 i, v] w fun x w' => x = iN (gL s i (ofsS a b)) ∧ Chg [] w w' := by
 obtain ⟨ta, tc, rfl, _⟩ := RdS.outI h.t;obtain ⟨ra, rc, rfl, hra⟩ := RdI.outI h.r;obtain ⟨rb, ro, rfl⟩ := hra J;have he := hs0.err;have hr := hs0.rif hi'
 have hsb : (-1000 ≤ (ofsS a b).1 ∧ (ofsS a b).1 ≤ 1000) ∧ -1000 ≤ (ofsS a b).2 ∧ (ofsS a b).2 ≤ 1000 := by
  unfold ofsS;split
  ·simp only; omega
  ·simp only; omega
 obtain ⟨o, ho⟩ : ∃ o, o = ofsS a b := ⟨_, rfl⟩;rw [← ho] at hsb;have hrf : s.rifles[i] = s.rif i := by unfold Sc.rif; rw [List.getD_eq_getElem?_getD, List.getElem?_eq_getElem hi']; rfl
 refine cN (Sat.nil w M0) Tryz.func121 Z (by simp [Tryz.ntmps121]) ?_;(refine aC (aB ?_));refine bR Z Z (fun b3 => ?_);rw [bL];refine bF dR Z (fun b6 => ?_);(refine aD (aC (aB (aA1 zq ?_))));refine aI (val := .tuple #[iN (ofsS a b), .bool (decide (a ≤ b))]) U Z Z Z Z (fun w hs => ?_) ?_; exact mG w l2 h2 v a b (RdE.keep hb hs.chg0) ha1 hb1;rw [← ho];(refine aA1 zq (aB5 xq (aB5 xq ?_)));refine bF dR Z (fun b7 => ?_);(refine aB6 Wa O Z ?_; refine aA1 zq (aD (aC ?_)));refine bZ _ [.pt b6 _ _] (Sp.cons O (Sp.refl _)) qB qB ?_;(refine aA2 xq ?_; refine bB U Z Z Z ?_; refine aA2 xq ?_);refine aA3 Wa J J ?_;refine aR (v := .int .i64 (s.rif i)) U Z Z Z (fun w hs => by rw [← hrf]; exact RdI.at (RdE.keep h.r hs.chg0) i hi') ?_;(refine aA2 xq ?_; refine bB U Z Z Z ?_; refine aA9 uq J J (aA2 xq ?_); refine bB U Z Z Z ?_; refine aA9 uq J J (aA2 xq ?_); refine bB U Z Z Z ?_; refine aA2 xq ?_);refine aA3 Wa J J ?_;refine aR (v := .int .i64 (s.rif i)) U Z Z Z (fun w hs => by rw [← hrf]; exact RdI.at (RdE.keep h.r hs.chg0) i hi') ?_;(refine aA2 xq ?_; refine bB U Z Z Z ?_; refine aA9 uq J J (aA2 xq ?_); refine bB U Z Z Z ?_; refine aA9 uq J J ?_);refine kH #[.int .i64 (s.rif i - o.2 - s.err), .int .i64 (s.rif i - o.1 + s.err)] Z qB Z ?_;(refine aB7 Wa O Z ?_; refine aN (aS ?_));refine aA5 wq O fun w hs => ?_;exact ⟨Z, hs.chg0⟩
theorem rweights_no (w : World) (lo hi : Nat) (s : Sc) (tv rv : Value) (h : ScR w lo hi tv rv s) (hl1 : s.tests.length ≤ maxLen) (hl2 : s.rifles.length ≤ maxLen) (h0 : eY s ≠ 0) : Ca Tryz.prog 39 [.agg (scC s tv rv).toArray] w fun x w' => x = .tuple #[.slice none 0 0, .int .i64 (eY s)] ∧ Chg [] w w' := by
 refine cN (Sat.nil w M0) Tryz.func39 Z (by simp [Tryz.ntmps39]) ?_;(refine aC (aB ?_));refine bR Z Z (fun b1 => ?_);rw [bL];(refine aA1 zq (aA1 zq (aD (aC (aC (aB ?_))))); refine aP U Z Z Z ?_);refine aI (val := .tuple #[iN (offU s), .int .i64 (eY s)]) U Z Z Z Z (fun w hs => ?_) ?_; exact rroff_u w lo hi s tv rv (h.keep hs.chg0) hl1 hl2;(refine aA1 zq (aB5 xq (aB5 xq ?_)));refine bF dR Z (fun b4 => ?_);(refine aB6 Wa O Z ?_; refine aA1 zq (aD (aC (aB (aA1 zq (aB0 xq J (aD (aH Z (aC (aB ?_))))))))); (iterate 3 refine aA1 zq ?_); refine aD (aS ?_));refine aA5 wq O fun w hs => ?_;exact ⟨Z, hs.chg0⟩
theorem rweights_ok (w : World) (lo hi : Nat) (s : Sc) (tv rv : Value) (h : ScR w lo hi tv rv s) (hs0 : SOk s) : Ca Tryz.prog 39 [.agg (scC s tv rv).toArray] w fun x w' => ∃ u : Value, x = .tuple #[u, .int .i64 0] ∧ Sat w M0 [.ow u 56 2 s.rifles.length (spC (wgtL s s.rifles.length))] w' := by
 have hok := hs0.ok;have hrn := hok.rn8;have htn := hok.tn;have hob := off_bd s;have hle := hs0.le;have e3 : ofsS (dS s).1 (dS s).2 = dS s := by unfold ofsS; rw [if_pos hle]
 obtain ⟨ta, tc, rfl, _⟩ := RdS.outI h.t;obtain ⟨ra, rc, rfl, hra⟩ := RdI.outI h.r;refine cN (Sat.nil w M0) Tryz.func39 Z (by simp [Tryz.ntmps39]) ?_;(refine aC (aB ?_));refine bR Z Z (fun b1 => ?_);rw [bL];(refine aA1 zq (aA1 zq (aD (aC (aC (aB ?_))))); refine aP U Z Z Z ?_);refine aI (val := .tuple #[iN (offU s), .int .i64 0]) U Z Z Z Z (fun w hs => ?_) ?_; exact by have := rroff_u w lo hi s _ _ (h.keep hs.chg0) (by simp only [maxLen]; omega) (by simp only [maxLen]; omega); rw [dU.2 hs0] at this; exact this
 (refine aA1 zq (aB5 xq (aB5 xq ?_)))
 refine bF dR Z (fun b4 => ?_);(refine aB6 Wa O Z ?_; refine aA1 zq (aD (aC (aB (aA1 zq (aA6 xq J (aD (aG Z (aK (aC (aB (aA1 zq ?_))))))))))); refine aD (aC (aC (aB (aA1 zq (aD (aM ?_)))))));refine dG (H' := [.ow (.slice none 0 0) 56 2 0 (spC (wgtL s 0)), .pt b1 (scC s (.slice ta s.tests.length tc) (.slice ra s.rifles.length rc)) 51]) (fun w' hs => Sat.ownil (hs.sp O) 56 2) ?_;refine bM (σ := Nat × Value) (fun z => z.1 ≤ s.rifles.length) (fun z => s.rifles.length - z.1) (fun z => [(1, aC0 b1), (6, z.2), (7, .int .i64 z.1)]) (fun z => [.ow z.2 56 2 z.1 (spC (wgtL s z.1)), .pt b1 (scC s (.slice ta s.tests.length tc) (.slice ra s.rifles.length rc)) 51]) (0, .slice none 0 0) (by simp) ⟨Z, Z, Z, trivial⟩ O ?_;rintro ⟨i, u⟩ hi2 K hK;dsimp only at hi2 hK ⊢;(refine aC (aC (aB (aA1 zq (aA1 zq ?_)))); refine aJ U Z Z Z ?_; refine aA1 zq (aA1 zq (aD ?_)));refine dN Z (fun hc => ?_) (fun hc => ?_)
 ·have hi3 : i < s.rifles.length := by omega
  clear hc;(refine aK (aC (aM ?_)));refine bZ _ [.ow u 56 2 i (spC (wgtL s i))] (Sp.cons O (Sp.refl _)) qB qB ?_;(refine aA2 xq ?_; refine aV U Z Z Z ?_; refine aA2 xq ?_; refine aV U Z Z Z ?_; refine aA2 xq ?_; refine bB U Z Z Z ?_);refine bX (β := Nat) (ψ := fun b v => v = aB9 b 2001 2001) (L' := fun b => [.pt b (cK (fU (dS s).1 (dS s).2)) 4]) U [] _ M0 Z Z Z Z (Sp.refl _) qC (fun w' hs => eH w' lo hi lo hi s _ _ _ s.tests (h.keep hs.chg0) (RdE.keep h.t hs.chg0) hok hok.tst) ?_;rintro b3 _ rfl;dsimp only [List.cons_append, List.nil_append];refine bN (val := iN (gL s i (dS s))) U Z Z Z Z (fun w hs => ?_) ?_; exact by have := rweight_ca w lo hi 0 w.heap.size s _ _ _ (h.keep hs.chg0) hok i hi3 (dS s).1 (dS s).2 (gV (c := 2001) (hs.blk (b := b3) O) (by rw [cM])) hob.1 hob.2; rw [e3] at this; exact this
  refine eX 56 [.int .i64 (gL s i (dS s)).1, .int .i64 (gL s i (dS s)).2] Z qB Z (fun bn => ?_);refine dB (q := 1) (news := [.int .i64 (gL s i (dS s)).1, .int .i64 (gL s i (dS s)).2]) slS Z Z Z (fun v' => by repeat constructor) (fun w' hs => ⟨_, _, Blk.rdN (hs.blk (b := bn) O) Z⟩) (by simp [dJ]) J J (fun u' => ?_);(refine aA2 xq (aN (bK (aB (aA1 zq (aA4 uq J J (aA1 zq (aD ?_))))))));exact hK (i + 1, u') _ _ (by simp only; omega) (by simp only; omega) ⟨Z, Z, Z, trivial⟩ (by dsimp only; rw [wgtL_succ]; repeat constructor)
 ·obtain rfl : i = s.rifles.length := by omega
  (refine bH _ Z (aC (aB ?_)); (iterate 3 refine aA1 zq ?_); refine aD (aS ?_))
  refine aA5 wq O fun w hs => ?_;exact ⟨u, Z, hs.sp O⟩
def opfL (s : Sc) (k : Nat) : List Nat := (List.range k).filter fun i => decide ((gL s i (dS s)).1 < s.least) && decide (s.least ≤ (gL s i (dS s)).2)
theorem opfL_succ (s : Sc) (k : Nat) : opfL s (k + 1) = if (gL s k (dS s)).1 < s.least ∧ s.least ≤ (gL s k (dS s)).2 then opfL s k ++ [k] else opfL s k := by
 unfold opfL;rw [List.range_succ, List.filter_append];by_cases e : (gL s k (dS s)).1 < s.least
 ·by_cases e2 : s.least ≤ (gL s k (dS s)).2 <;> simp [e, e2]
 ·simp [e]
theorem opfL_len (s : Sc) (k : Nat) : (opfL s k).length ≤ k := by
 have := List.length_filter_le (fun i => decide ((gL s i (dS s)).1 < s.least) && decide (s.least ≤ (gL s i (dS s)).2)) (List.range k)
 rwa [List.length_range] at this
theorem opfL_full (s : Sc) : opfL s s.rifles.length = dO s (bP s) := by
 unfold opfL dO;refine List.filter_congr fun i _ => ?_
 have e : ∀ r, (List.replicate 8 false).getD r false = false := fun r => by
  rw [List.getD_eq_getElem?_getD, List.getElem?_replicate];split <;> rfl
 have e2 : (bP s).free i = true := by
  unfold Kn.free bP none8;simp only [e]
  rfl
 unfold eG openI;rw [e2, Bool.true_and]
 rfl
theorem rpassed_no (w : World) (lo hi : Nat) (s : Sc) (tv rv : Value) (h : ScR w lo hi tv rv s) (hl1 : s.tests.length ≤ maxLen) (hl2 : s.rifles.length ≤ maxLen) (h0 : eY s ≠ 0) : Ca Tryz.prog 43 [.agg (scC s tv rv).toArray] w fun x w' => x = .tuple #[.slice none 0 0, .slice none 0 0, .int .i64 (eY s)] ∧ Chg [] w w' := by
 refine cN (Sat.nil w M0) Tryz.func43 Z (by simp [Tryz.ntmps43]) ?_;(refine aC (aB ?_));refine bR Z Z (fun b1 => ?_);rw [bL]
 ((iterate 3 refine aA1 zq ?_); refine aD (aC (aB ?_)); refine aP U Z Z Z ?_)
 refine aI (val := .tuple #[.slice none 0 0, .int .i64 (eY s)]) U Z Z Z Z (fun w hs => ?_) ?_; exact rweights_no w lo hi s tv rv (h.keep hs.chg0) hl1 hl2 h0;(refine aA1 zq (aB5 xq (aB5 xq (aA1 zq (aA1 zq (aD (aC (aC (aB (aA1 zq (aB0 xq J (aD ?_))))))))))); refine aH Z (aC (aB ?_)); (iterate 4 refine aA1 zq ?_); refine aD (aS ?_));refine aA5 wq O fun w hs => ?_;exact ⟨Z, hs.chg0⟩
theorem rpassed_ok (w : World) (lo hi : Nat) (s : Sc) (tv rv : Value) (h : ScR w lo hi tv rv s) (hs0 : SOk s) : Ca Tryz.prog 43 [.agg (scC s tv rv).toArray] w fun x w' => ∃ y : Value × Value, x = .tuple #[y.1, y.2, .int .i64 0] ∧ Sat w M0 [.ow y.1 3 1 (pasL s s.rifles.length).length (aX (nI (pasL s s.rifles.length))), .ow y.2 3 1 (dO s (bP s)).length (aX (nI (dO s (bP s))))] w' := by
 have hok := hs0.ok;have hrn := hok.rn8;have hn1 := hok.rn1;obtain ⟨ta, tc, rfl, _⟩ := RdS.outI h.t;obtain ⟨ra, rc, rfl, hra⟩ := RdI.outI h.r;refine cN (Sat.nil w M0) Tryz.func43 Z (by simp [Tryz.ntmps43]) ?_;(refine aC (aB ?_));refine bR Z Z (fun b1 => ?_);rw [bL]
 ((iterate 3 refine aA1 zq ?_); refine aD (aC (aB ?_)); refine aP U Z Z Z ?_)
 refine bC (β := Value) U [] _ M0 Z Z Z Z (Sp.refl _) qC (fun w' hs => rweights_ok w' lo hi s _ _ (h.keep hs.chg0) hs0) ?_;rintro vl _ rfl;dsimp only [List.cons_append, List.nil_append];refine cU (fun w hs => hs.ownSome (v := vl) O J) ?_;rintro ⟨la, lc, rfl⟩;(refine aA1 zq (aB5 xq (aB5 xq (aA1 zq (aA1 zq (aD (aC (aC (aB (aA1 zq (aA6 xq J (aD ?_))))))))))); refine aG Z (aK (aC (aB (aA1 zq (aA1 zq (aD (aC (aC (aB (aA1 zq (aD ?_))))))))))); refine aM ?_);refine dG (H' := [.ow (.slice none 0 0) 3 1 (pasL s 0).length (aX (nI (pasL s 0))), .ow (.slice none 0 0) 3 1 (opfL s 0).length (aX (nI (opfL s 0))), .ow (aB9 la s.rifles.length lc) 56 2 s.rifles.length (spC (wgtL s s.rifles.length)), .pt b1 (scC s (.slice ta s.tests.length tc) (.slice ra s.rifles.length rc)) 51]) (fun w' hs => Sat.ownil (Sat.ownil (hs.sp O) 3 1) 3 1) ?_;refine bM (σ := Nat × Value × Value) (fun z => z.1 ≤ s.rifles.length) (fun z => s.rifles.length - z.1) (fun z => [(1, aC0 b1), (5, aB9 la s.rifles.length lc), (7, z.2.1), (8, z.2.2), (9, .int .i64 z.1)]) (fun z => [.ow z.2.1 3 1 (pasL s z.1).length (aX (nI (pasL s z.1))), .ow z.2.2 3 1 (opfL s z.1).length (aX (nI (opfL s z.1))), .ow (aB9 la s.rifles.length lc) 56 2 s.rifles.length (spC (wgtL s s.rifles.length)), .pt b1 (scC s (.slice ta s.tests.length tc) (.slice ra s.rifles.length rc)) 51]) (0, .slice none 0 0, .slice none 0 0) (by simp) ⟨Z, Z, Z, Z, Z, trivial⟩ O ?_;rintro ⟨i, u, u2⟩ hi2 K hK;dsimp only at hi2 hK ⊢;(refine aC (aC (aB ?_)); (iterate 4 refine aA1 zq ?_); refine aD ?_);refine dN Z (fun hc => ?_) (fun hc => ?_)
 ·have hi3 : i < s.rifles.length := by omega
  clear hc;have hsu := pasL_succ s i;have hso := opfL_succ s i;have hpl := pasL_len s i;have hol := opfL_len s i;have hwl := wgtL_len s s.rifles.length;have hwi : (wgtL s s.rifles.length)[i]'J = gL s i (dS s) := by simp [wgtL]
  (refine aK (aC (aM (aC ?_))))
  refine bZ _ [] (Sp.refl _) qB qB ?_;(refine aA2 xq (aA2 xq ?_));refine aA3 Wa J J ?_;(refine aA2 xq ?_);refine aR (v := .int .i64 (gL s i (dS s)).1) U Z Z Z (fun w hs => by have := RdS.at (bY (t := 56) (hs.mem (c := .ow (aB9 la s.rifles.length lc) 56 2 s.rifles.length (spC (wgtL s s.rifles.length))) O) hwl.symm) i J 0 J; rw [hwi] at this; simpa using this) ?_;by_cases hp : s.least ≤ (gL s i (dS s)).1
  ·rw [if_pos hp] at hsu;rw [if_neg J] at hso;(refine aA2 xq ?_; refine bB U Z Z Z ?_; refine qf_geqT U Z Z Z J (aN (aH Z (aB (aA1 zq (aA1 zq ?_))))));refine cT 3 [.int .i64 i] Z qB Z (fun bn => ?_);refine cW (q := 1) (news := [.int .i64 i]) slI Z Z Z (fun v' => by repeat constructor) (fun w' hs => ⟨_, _, Blk.rdN (hs.blk (b := bn) O) Z⟩) (by simp [dJ]) J J (fun u' => ?_);(refine aA1 zq (aD (bK (aB (aA1 zq (aA4 uq J J (aA1 zq (aD ?_))))))));exact hK (i + 1, u', u2) _ _ (by simp only; omega) (by simp only; omega) ⟨Z, Z, Z, Z, Z, trivial⟩ (by dsimp only; rw [hsu, hso, nI_snoc, List.length_append, List.length_singleton]; repeat constructor)
  ·rw [if_neg hp] at hsu;(refine aA2 xq ?_; refine bB U Z Z Z ?_; refine qf_geqF U Z Z Z J (aN (aG Z (aC ?_))));refine bZ _ [] (Sp.refl _) qB qB ?_;(refine aA2 xq (aA2 xq ?_));refine aA3 Wa J J ?_;(refine aA2 xq ?_);refine aR (v := .int .i64 (gL s i (dS s)).2) U Z Z Z (fun w hs => by have := RdS.at (bY (t := 56) (hs.mem (c := .ow (aB9 la s.rifles.length lc) 56 2 s.rifles.length (spC (wgtL s s.rifles.length))) O) hwl.symm) i J 1 J; rw [hwi] at this; simpa using this) ?_;by_cases hq : s.least ≤ (gL s i (dS s)).2
   ·rw [if_pos J] at hso;(refine aA2 xq ?_; refine bB U Z Z Z ?_; refine qf_geqT U Z Z Z J (aN (aH Z (aB (aA1 zq (aA1 zq ?_))))));refine cT 3 [.int .i64 i] Z qB Z (fun bn => ?_);refine cW (q := 1) (news := [.int .i64 i]) slI Z Z Z (fun v' => by repeat constructor) (fun w' hs => ⟨_, _, Blk.rdN (hs.blk (b := bn) O) Z⟩) (by simp [dJ]) J J (fun u' => ?_);(refine aA1 zq (aD (bK (aB (aA1 zq (aA4 uq J J (aA1 zq (aD ?_))))))));exact hK (i + 1, u, u') _ _ (by simp only; omega) (by simp only; omega) ⟨Z, Z, Z, Z, Z, trivial⟩ (by dsimp only; rw [hsu, hso, nI_snoc, List.length_append, List.length_singleton]; repeat constructor)
   ·rw [if_neg J] at hso;(refine aA2 xq ?_; refine bB U Z Z Z ?_; refine qf_geqF U Z Z Z J (aN (aG Z (aK (bK (aB (aA1 zq (aA4 uq J J (aA1 zq (aD ?_))))))))));exact hK (i + 1, u, u2) _ _ (by simp only; omega) (by simp only; omega) ⟨Z, Z, Z, Z, Z, trivial⟩ (by dsimp only; rw [hsu, hso]; repeat constructor)
 ·obtain rfl : i = s.rifles.length := by omega
  rw [opfL_full];(refine bH _ Z (aC (aB ?_)); (iterate 5 refine aA1 zq ?_); refine aD (aS ?_));refine aA5 wq O fun w hs => ?_
  exact ⟨(u, u2), Z, hs.sp O⟩
def skV (k : Kn) (i : Nat) : Int := if k.p.getD i false = true then 1 else if k.f.getD i false = true then 2 else 0
def skL (s : Sc) (k : Kn) : List Int := (List.range s.rifles.length).map (skV k)
theorem fA (s : Sc) (k : Kn) : (skL s k).length = s.rifles.length := by simp [skL]
theorem mF (s : Sc) (k : Kn) {i : Nat} (h : i < (skL s k).length) : (skL s k)[i] = skV k i := by simp [skL]
theorem pB {k : Kn} {i : Nat} : skV k i = 0 ↔ k.free i = true := by
 unfold skV Kn.free;cases k.p.getD i false <;> cases k.f.getD i false <;> simp
theorem skL_pass {s : Sc} {k : Kn} {i : Nat} (hk : k.p.length = 8) (hi : i < s.rifles.length) (h8 : s.rifles.length ≤ 8) : (skL s k).set i 1 = skL s (cI s k i) := by
 refine List.ext_getElem (by rw [List.length_set, fA, fA]) fun j h1 h2 => ?_;rw [mF, List.getElem_set]
 have e : skV (cI s k i) j = if i = j then 1 else skV k j := by
  unfold skV cI;simp only;rw [pM J];by_cases c : i = j
  ·simp [c]
  ·simp [c]
 rw [e, mF s k (by rw [fA]; rw [List.length_set, fA] at h1; exact h1)]
theorem skL_fail {s : Sc} {k : Kn} {i : Nat} (hk : k.f.length = 8) (hi : i < s.rifles.length) (h8 : s.rifles.length ≤ 8) (hf : k.free i = true) : (skL s k).set i 2 = skL s (cD s k i) := by
 have hp : k.p.getD i false = false := by
  unfold Kn.free at hf;cases h : k.p.getD i false
  ·rfl
  ·rw [h] at hf; cases hf
 refine List.ext_getElem (by rw [List.length_set, fA, fA]) fun j h1 h2 => ?_;rw [mF, List.getElem_set]
 have e : skV (cD s k i) j = if i = j then 2 else skV k j := by
  unfold skV cD;simp only;rw [pM J];by_cases c : i = j
  ·subst c;rw [hp];simp
  ·simp [c]
 rw [e, mF s k (by rw [fA]; rw [List.length_set, fA] at h1; exact h1)]
structure KnR (w : World) (lo hi : Nat) (ov sv : Value) (s : Sc) (k : Kn) : Prop where
 o : RdB w lo hi ov (fU k.lo k.hi)
 s : RdI w lo hi sv (skL s k)
theorem KnR.keep {w w' : World} {lo hi : Nat} {ov sv : Value} {s : Sc} {k : Kn} (h : KnR w lo hi ov sv s k) (c : Chg [] w w') : KnR w' lo hi ov sv s k := ⟨RdE.keep h.o c, RdE.keep h.s c⟩
theorem rdB_row {w : World} {lo hi N : Nat} {v : Value} {a b : Int} (h : RdB w lo hi v (fU a b)) (hN : N = 2001) : Rd w lo hi v 1 N (cK (fU a b)) := by
 have := h.rd;rw [oN] at this;rw [List.length_map, cM, ← hN] at this;exact this
theorem rdI_row {w : World} {lo hi N : Nat} {v : Value} {l : List Int} (h : RdI w lo hi v l) (hN : l.length = N) : Rd w lo hi v 1 N (aX l) := by
 have := h.rd;rw [mM] at this;rw [List.length_map, hN] at this;exact this
theorem pP (l : List Bool) : ∀ c ∈ cK l, dJ c = true := fun c hc => by obtain ⟨b, _, rfl⟩ := List.mem_map.1 hc; rfl
theorem ints_one (l : List Int) : ∀ c ∈ aX l, dJ c = true := fun c hc => by obtain ⟨b, _, rfl⟩ := List.mem_map.1 hc; rfl
theorem own_rdB {w : World} {t n : Nat} {v : Value} {l : List Bool} (h : w.ownsRow 0 t 1 v n (cK l)) (hn : n = l.length) : RdB w 0 w.heap.size v l := by
 subst hn;exact RdB.of (own_rd h)
def ofsM (a b c d : Int) (j : Nat) : List Bool := (fU c d).take j ++ (fU a b).drop j
theorem ofsM_len (a b c d : Int) {j : Nat} (h : j ≤ 2001) : (ofsM a b c d j).length = 2001 := by
 unfold ofsM;rw [List.length_append, List.length_take, List.length_drop, cM, cM];omega
theorem ofsM_zero (a b c d : Int) : ofsM a b c d 0 = fU a b := rfl
theorem ofsM_full (a b c d : Int) : ofsM a b c d 2001 = fU c d := by
 unfold ofsM;rw [List.take_of_length_le (by rw [cM]; exact Nat.le_refl _), List.drop_of_length_le (by rw [cM]; exact Nat.le_refl _), List.append_nil]
theorem ofsM_set (a b c d : Int) {j : Nat} (h : j < 2001) : (ofsM a b c d j).set j (ofsB c d j) = ofsM a b c d (j + 1) := by
 have h1 : j < (fU a b).length := by rw [cM]; exact h
 have h2 : j < (fU c d).length := by rw [cM]; exact h
 unfold ofsM;rw [List.set_append_right _ _ (by rw [List.length_take]; omega), List.length_take, show j - min j (fU c d).length = 0 from by omega, List.drop_eq_getElem_cons h1, List.set_cons_zero, List.take_succ_eq_append_getElem h2, pU c d h2, List.append_assoc]
 rfl
theorem ofsM_same (a b c d : Int) {j : Nat} (h : j < 2001) (e : ofsB a b j = ofsB c d j) : ofsM a b c d j = ofsM a b c d (j + 1) := by
 have h1 : j < (fU a b).length := by rw [cM]; exact h
 have h2 : j < (fU c d).length := by rw [cM]; exact h
 unfold ofsM;rw [List.drop_eq_getElem_cons h1, List.take_succ_eq_append_getElem h2, pU a b h1, pU c d h2, e, List.append_assoc]
 rfl
theorem nE (w : World) (lo hi l2 h2 : Nat) (s : Sc) (tv rv ov sv : Value) (k : Kn) (h : ScR w lo hi tv rv s) (hkr : KnR w l2 h2 ov sv s k) (i : Nat) (hi' : i < s.rifles.length) (hf : k.free i = false) (b : Bool) : Ca Tryz.prog 171 [.agg (scC s tv rv).toArray, .agg #[ov, sv], .int .i64 i, .int .i64 (if b then 1 else 2)] w fun x w' => x = .tuple #[.agg #[ov, sv], .bool (k.p.getD i false == b)] ∧ Chg [] w w' := by
 obtain ⟨ta, tc, rfl, _⟩ := RdS.outI h.t;obtain ⟨ra, rc, rfl, _⟩ := RdI.outI h.r;obtain ⟨sa, sc, rfl, hsa⟩ := RdI.outI hkr.s;obtain ⟨oa, oc, rfl, _⟩ := hkr.o.out;have hsl := fA s k;obtain ⟨sb, so, rfl⟩ := hsa J
 have hpos : 0 < skV k i := by
  have h1 : skV k i ≠ 0 := fun e => by rw [pB, hf] at e; cases e
  have h2 : 0 ≤ skV k i := by unfold skV; split; decide; split; decide; decide
  omega
 have hcell : ∀ w', Chg [] w w' → w'.cell? ⟨sb, so + i * 1, none⟩ = some (.int .i64 (skV k i)) := fun w' hw => by
  have := RdI.at (RdE.keep hkr.s hw) i (by rw [hsl]; exact hi');rw [mF] at this;exact this
 have heq : (skV k i = (if b then 1 else 2)) ↔ (k.p.getD i false == b) = true := by
  unfold Kn.free at hf;unfold skV;cases hp : k.p.getD i false <;> cases hq : k.f.getD i false <;> cases b <;> simp_all
 obtain ⟨x, hx⟩ : ∃ x, x = skV k i := ⟨_, rfl⟩;rw [← hx] at hpos hcell heq;refine cN (Sat.nil w M0) Tryz.func171 Z (by simp [Tryz.ntmps171]) ?_;(refine aC (aB ?_));refine bR Z Z (fun b4 => ?_);rw [bL];refine bR Z Z (fun b5 => ?_);refine bF eR Z (fun b8 => ?_);(refine aA1 zq (aD (aC (aC (aB (aA1 zq ?_))))); refine aJ U Z Z Z ?_; refine aA1 zq ?_);refine aA7 Wa J (by rw [hsl]; omega) ?_;refine bI U Z Z Z (fun w hs => hcell _ hs.chg0) ?_;(refine cR U Z Z Z J (aD (aH Z (aC ?_))));refine bZ _ [.pt b8 _ _] (Sp.cons O (Sp.refl _)) qB qB ?_;(refine aV U Z Z Z ?_; refine aA2 xq ?_; refine bB U Z Z Z ?_; refine aA2 xq ?_);refine aA3 Wa J (by rw [hsl]; omega) ?_;refine aR U Z Z Z (fun w hs => hcell _ hs.chg0) ?_
 have hfin : (decide (x = if b = true then 1 else 2)) = (k.p.getD i false == b) := by
  rw [Bool.eq_iff_iff, decide_eq_true_iff];exact heq
 rw [← hfin];(refine aA2 xq (aA2 xq ?_); refine aB7 Wa O Z ?_; refine aA2 xq (aN (aS ?_)));refine aA5 wq O fun w hs => ?_
 exact ⟨Z, hs.chg0⟩
def kB (s : Sc) (k : Kn) (i : Nat) (b : Bool) : Kn := if b = true then cI s k i else cD s k i
theorem kB_bd {s : Sc} {k : Kn} (hk : k.Fit) (i : Nat) (b : Bool) : -1000 ≤ (kB s k i b).lo ∧ (kB s k i b).hi ≤ 1000 := by
 have h1 := hk.lo;have h2 := hk.hi;unfold kB;cases b
 ·rw [if_neg (by decide)];unfold cD;simp only;omega
 ·rw [if_pos rfl];unfold cI;simp only;omega
theorem skL_set {s : Sc} {k : Kn} {i : Nat} (hk : k.Fit) (hi : i < s.rifles.length) (h8 : s.rifles.length ≤ 8) (hf : k.free i = true) (b : Bool) : (skL s k).set i (if b = true then 1 else 2) = skL s (kB s k i b) := by
 unfold kB;cases b
 ·rw [if_neg (by decide), if_neg (by decide)];exact skL_fail hk.f8 hi h8 hf
 ·rw [if_pos rfl, if_pos rfl];exact skL_pass hk.p8 hi h8
def cutB (s : Sc) (i : Nat) (b : Bool) (j : Nat) : Bool := if b = true then decide (s.rif i - ((j : Int) - 1000) + s.err < s.least) else decide (s.least ≤ s.rif i - ((j : Int) - 1000) - s.err)
theorem cut_ofs {s : Sc} {k : Kn} (i : Nat) (b : Bool) {j : Nat} (hj : j < 2001) : ofsB (kB s k i b).lo (kB s k i b).hi j = (ofsB k.lo k.hi j && !(cutB s i b j)) := by
 rw [Bool.eq_iff_iff];unfold kB cutB ofsB;cases b
 ·rw [if_neg (by decide), if_neg (by decide)];unfold cD edgeV;simp only [Bool.and_eq_true, decide_eq_true_iff, Bool.not_eq_true', decide_eq_false_iff_not];omega
 ·rw [if_pos rfl, if_pos rfl];unfold cI edgeV;simp only [Bool.and_eq_true, decide_eq_true_iff, Bool.not_eq_true', decide_eq_false_iff_not];omega
def mA : OT := bE [10] (.nil)
def tF37_e92e7b8 : OT := bE [9] (mA)
def jD : OT := bE [5, 6, 7, 8] (mA)
def mT : OT := .alt (bE [5, 6, 7, 8] (tF37_e92e7b8)) (bE [9] (jD))
def mE : OT := bE [4] (jD)
def tF37_ef2443a : OT := .alt (bE [4] (mT)) (bE [9] (mE))
def jB : OT := bE [1, 2, 3] (jD)
def lS : OT := .alt (bE [1, 2, 3] (mT)) (bE [9] (jB))
def lK : OT := .alt (bE [1, 2, 3] (mE)) (bE [4] (jB))
def tF37_6c26d9f : OT := .alt (bE [1, 2, 3] (tF37_ef2443a)) (.alt (bE [4] (lS)) (bE [9] (lK)))
def lJ : OT := bE [0] (jB)
def tF37_b8c2c40 : OT := .alt (bE [0] (lS)) (bE [9] (lJ))
def tF37_aaf68eb : OT := .alt (bE [0] (lK)) (bE [4] (lJ))
def tF37_3bf612e : OT := .alt (bE [0] (tF37_6c26d9f)) (.alt (bE [4] (tF37_b8c2c40)) (bE [9] (tF37_aaf68eb)))
theorem gW (w : World) (lo hi l2 h2 : Nat) (s : Sc) (tv rv ov sv : Value) (k : Kn) (h : ScR w lo hi tv rv s) (hs0 : s.Ok) (hkr : KnR w l2 h2 ov sv s k) (hk : k.Fit) (i : Nat) (hi' : i < s.rifles.length) (hf : k.free i = true) (b : Bool) : Ca Tryz.prog 171 [.agg (scC s tv rv).toArray, .agg #[ov, sv], .int .i64 i, .int .i64 (if b = true then 1 else 2)] w fun x w' => ∃ y : Value × Value, x = .tuple #[.agg #[y.1, y.2], .bool (decide ((kB s k i b).lo ≤ (kB s k i b).hi))] ∧ Sat w M0 [.ow y.1 4 1 2001 (cK (fU (kB s k i b).lo (kB s k i b).hi)), .ow y.2 3 1 s.rifles.length (aX (skL s (kB s k i b)))] w' := by
 have h8 := hs0.rn8;have herr := hs0.err;have hlea := hs0.least;have hr := hs0.rif hi';have hrf : s.rifles[i] = s.rif i := by unfold Sc.rif; rw [List.getD_eq_getElem?_getD, List.getElem?_eq_getElem hi']; rfl
 obtain ⟨ta, tc, rfl, _⟩ := RdS.outI h.t;obtain ⟨ra, rc, rfl, hra⟩ := RdI.outI h.r;obtain ⟨rb, ro, rfl⟩ := hra J;obtain ⟨sa, sc, rfl, hsa⟩ := RdI.outI hkr.s;obtain ⟨oa, oc, rfl, hoa⟩ := hkr.o.out;have hsl := fA s k;obtain ⟨N, hN⟩ : ∃ N : Nat, N = 2001 := ⟨_, rfl⟩;have el : (cK (fU k.lo k.hi)).length = N := by rw [List.length_map, cM, hN]
 rw [el] at hkr hoa ⊢;rw [hsl] at hkr hsa ⊢;obtain ⟨sa, so, rfl⟩ := hsa J;obtain ⟨oa, oo, rfl⟩ := hoa J
 have hcell : ∀ w', Chg [] w w' → w'.cell? ⟨sa, so + i * 1, none⟩ = some (.int .i64 0) := fun w' hw => by
  have := RdI.at (RdE.keep hkr.s hw) i (by rw [hsl]; exact hi');rw [mF, pB.2 hf] at this;exact this
 obtain ⟨sh, hsh⟩ : ∃ sh : Int, sh = if b = true then 1 else 2 := ⟨_, rfl⟩
 rw [← hsh];refine cN (Sat.nil w M0) Tryz.func171 Z (by simp [Tryz.ntmps171]) ?_;(refine aC (aB ?_));refine bR Z Z (fun b4 => ?_);rw [bL];refine bR Z Z (fun b5 => ?_);refine bF eR Z (fun b8 => ?_);(refine aA1 zq (aD (aC (aC (aB (aA1 zq ?_))))); refine aJ U Z Z Z ?_; refine aA1 zq ?_);refine aA7 Wa J J ?_;refine bI U Z Z Z (fun w hs => hcell _ hs.chg0) ?_;(refine aB1 xq J (aD (aG Z (aK (aC ?_)))));refine dG (H' := [.pt b4 (scC s (.slice ta s.tests.length tc) (.slice (some ⟨rb, ro, none⟩) s.rifles.length rc)) 51, .pt b5 [(.slice (some ⟨oa, oo, none⟩) N oc), (.slice (some ⟨sa, so, none⟩) s.rifles.length sc)] 209, .pt b8 [.slice none 0 0, .slice none 0 0] 209]) (fun w' hs => hs.sp O) ?_
 refine fT (σ := Option Addr × Nat × Option Addr × Nat × Nat) (fun ⟨p3, q3, p7, q7, b10⟩ => [(2, .int .i64 i), (3, .int .i64 sh), (4, aC0 b4), (8, aC0 b8), (10, aC0 b10)])
  (fun ⟨p3, q3, p7, q7, b10⟩ => [.ow (.slice p3 N q3) 4 1 N (cK (fU k.lo k.hi)), .ow (.slice p7 s.rifles.length q7) 3 1 s.rifles.length (aX (skL s k)), .pt b10 [.slice p3 N q3, .slice p7 s.rifles.length q7] 209, .pt b4 (scC s (.slice ta s.tests.length tc) (.slice (some ⟨rb, ro, none⟩) s.rifles.length rc)) 51, .pt b8 [.slice none 0 0, .slice none 0 0] 209]) ?_ ?_
 rotate_left
 ·intro K2 hK2;refine eQ (tF37_3bf612e) _ [] (Sp.refl _) qB qB ?_;refine cH (σ := Nat × Option Addr × Nat × Nat × Option Addr × Nat × Nat × Unit) (.nil) (fun ⟨x0, p3, q3, x4, p7, q7, b10, ()⟩ => [(2, .int .i64 i), (3, .int .i64 sh), (4, aC0 b4), (8, aC0 b8), (5, aC0 b5), (10, aC0 b10)]) (fun ⟨x0, p3, q3, x4, p7, q7, b10, ()⟩ => [.ow (.slice p3 N q3) 4 1 N (cK (fU k.lo k.hi)), .ow (.slice p7 s.rifles.length q7) 3 1 s.rifles.length (aX (skL s k)), .pt b10 [.slice p3 N q3, .slice p7 s.rifles.length q7] 209]) ?_ (fun hS0_3_4_7_9_10 => ?_)
  ·rintro ⟨x0, p3, q3, x4, p7, q7, b10, _⟩;exact dD (hK2 (p3, q3, p7, q7, b10) _ _ ⟨Z, Z, Z, Z, Z, trivial⟩ O)
  refine cH (σ := Nat × Option Addr × Nat × Nat × Option Addr × Nat × Nat × Unit) (mA) (fun ⟨x0, p3, q3, x4, p7, q7, b10, ()⟩ => [(2, .int .i64 i), (3, .int .i64 sh), (4, aC0 b4), (8, aC0 b8), (5, aC0 b5), (37, .agg #[.slice p3 N q3, .slice p7 s.rifles.length q7]), (10, aC0 b10)]) (fun ⟨x0, p3, q3, x4, p7, q7, b10, ()⟩ => [.ow (.slice p3 N q3) 4 1 N (cK (fU k.lo k.hi)), .ow (.slice p7 s.rifles.length q7) 3 1 s.rifles.length (aX (skL s k)), .pt b10 [.slice none 0 0, .slice none 0 0] 209]) ?_ (fun hS0_3_4_7_9 => ?_)
  ·rintro ⟨x0, p3, q3, x4, p7, q7, b10, _⟩;refine bA qA fun K1 hK1 => ?_
   (refine aB7 Wa O Z ?_; refine aN ?_)
   exact hK1 _ _ (hS0_3_4_7_9_10 ⟨x0, p3, q3, x4, p7, q7, b10, ()⟩ _ _ ⟨Z, Z, Z, Z, Z, Z, trivial⟩ O)
  refine cH (σ := Nat × Option Addr × Nat × Nat × Option Addr × Nat × Unit) (tF37_e92e7b8) (fun ⟨x0, p3, q3, x4, p7, q7, ()⟩ => [(2, .int .i64 i), (3, .int .i64 sh), (4, aC0 b4), (8, aC0 b8), (5, aC0 b5), (37, .agg #[.slice p3 N q3, .slice p7 s.rifles.length q7])]) (fun ⟨x0, p3, q3, x4, p7, q7, ()⟩ => [.ow (.slice p3 N q3) 4 1 N (cK (fU k.lo k.hi)), .ow (.slice p7 s.rifles.length q7) 3 1 s.rifles.length (aX (skL s k))]) ?_ (fun hS0_3_4_7 => ?_)
  ·rintro ⟨x0, p3, q3, x4, p7, q7, _⟩;refine bA qA fun K1 hK1 => ?_
   refine bG eR Z (fun b10 => ?_);(refine aN ?_);exact hK1 _ _ (hS0_3_4_7_9 ⟨x0, p3, q3, x4, p7, q7, b10, ()⟩ _ _ ⟨Z, Z, Z, Z, Z, Z, Z, trivial⟩ O)
  refine cH (σ := Nat × Option Addr × Nat × Nat × Nat × Unit) (jD) (fun ⟨x0, p3, q3, x4, b10, ()⟩ => [(2, .int .i64 i), (3, .int .i64 sh), (4, aC0 b4), (8, aC0 b8), (5, aC0 b5), (32, (.slice p3 N q3)), (33, aB9 x4 0 0), (10, aC0 b10)]) (fun ⟨x0, p3, q3, x4, b10, ()⟩ => [.ow (.slice p3 N q3) 4 1 N (cK (fU k.lo k.hi)), .ow (aB9 x4 0 0) 3 1 0 [], .pt b10 [.slice none 0 0, .slice none 0 0] 209]) ?_ (fun hS0_3_4_9 => ?_)
  ·rintro ⟨x0, p3, q3, x4, b10, _⟩;refine bA qA fun K1 hK1 => ?_
   (refine aA2 xq ?_; refine bB U Z Z Z ?_)
   refine dB (q := s.rifles.length) (news := aX (skL s k)) slI Z Z Z (fun v' => by repeat constructor) (fun w' hs => ⟨_, _, rdI_row (RdE.keep hkr.s hs.chg0) (fA s k)⟩) (ints_one _) J J (fun u7 => ?_);rw [Nat.zero_add s.rifles.length, List.nil_append];refine bO (fun w hs => hs.slice2 (v := u7) O) ?_;rintro ⟨p7, q7, rfl⟩;refine kH #[.slice p3 N q3, .slice p7 s.rifles.length q7] Z qB Z ?_;(refine aN ?_);exact hK1 _ _ (hS0_3_4_7_9 ⟨x0, p3, q3, x4, p7, q7, b10, ()⟩ _ _ ⟨Z, Z, Z, Z, Z, Z, Z, trivial⟩ O)
  refine cH (σ := Nat × Option Addr × Nat × Nat × Unit) (mT) (fun ⟨x0, p3, q3, x4, ()⟩ => [(2, .int .i64 i), (3, .int .i64 sh), (4, aC0 b4), (8, aC0 b8), (5, aC0 b5), (32, (.slice p3 N q3)), (33, aB9 x4 0 0)]) (fun ⟨x0, p3, q3, x4, ()⟩ => [.ow (.slice p3 N q3) 4 1 N (cK (fU k.lo k.hi)), .ow (aB9 x4 0 0) 3 1 0 []]) ?_ (fun hS0_3_4 => ?_)
  ·rintro ⟨x0, p3, q3, x4, _⟩;refine cA ?_ ?_
   ·refine bA qA fun K1 hK1 => ?_;(refine aA2 xq ?_; refine bB U Z Z Z ?_)
    refine dB (q := s.rifles.length) (news := aX (skL s k)) slI Z Z Z (fun v' => by repeat constructor) (fun w' hs => ⟨_, _, rdI_row (RdE.keep hkr.s hs.chg0) (fA s k)⟩) (ints_one _) J J (fun u7 => ?_);rw [Nat.zero_add s.rifles.length, List.nil_append];refine bO (fun w hs => hs.slice2 (v := u7) O) ?_;rintro ⟨p7, q7, rfl⟩;refine kH #[.slice p3 N q3, .slice p7 s.rifles.length q7] Z qB Z ?_;(refine aN ?_);exact hK1 _ _ (hS0_3_4_7 ⟨x0, p3, q3, x4, p7, q7, ()⟩ _ _ ⟨Z, Z, Z, Z, Z, Z, trivial⟩ O)
   ·refine bA qA fun K1 hK1 => ?_;refine bG eR Z (fun b10 => ?_)
    (refine aN ?_)
    exact hK1 _ _ (hS0_3_4_9 ⟨x0, p3, q3, x4, b10, ()⟩ _ _ ⟨Z, Z, Z, Z, Z, Z, Z, Z, trivial⟩ O)
  refine cH (σ := Nat × Option Addr × Nat × Nat × Unit) (mE) (fun ⟨x0, p3, q3, b10, ()⟩ => [(2, .int .i64 i), (3, .int .i64 sh), (4, aC0 b4), (8, aC0 b8), (5, aC0 b5), (32, (.slice p3 N q3)), (10, aC0 b10)]) (fun ⟨x0, p3, q3, b10, ()⟩ => [.ow (.slice p3 N q3) 4 1 N (cK (fU k.lo k.hi)), .pt b10 [.slice none 0 0, .slice none 0 0] 209]) ?_ (fun hS0_3_9 => ?_)
  ·rintro ⟨x0, p3, q3, b10, _⟩;refine bA qA fun K1 hK1 => ?_
   refine jR 3 1 qB qB Z (fun x4 => ?_);(refine aN ?_);exact hK1 _ _ (hS0_3_4_9 ⟨x0, p3, q3, x4, b10, ()⟩ _ _ ⟨Z, Z, Z, Z, Z, Z, Z, Z, trivial⟩ O)
  refine cH (σ := Nat × Nat × Nat × Unit) (jB) (fun ⟨x0, x4, b10, ()⟩ => [(2, .int .i64 i), (3, .int .i64 sh), (4, aC0 b4), (8, aC0 b8), (5, aC0 b5), (29, aB9 x0 0 0), (33, aB9 x4 0 0), (10, aC0 b10)]) (fun ⟨x0, x4, b10, ()⟩ => [.ow (aB9 x0 0 0) 4 1 0 [], .ow (aB9 x4 0 0) 3 1 0 [], .pt b10 [.slice none 0 0, .slice none 0 0] 209]) ?_ (fun hS0_4_9 => ?_)
  ·rintro ⟨x0, x4, b10, _⟩;refine bA qA fun K1 hK1 => ?_
   (refine aA2 xq ?_; refine bB U Z Z Z ?_)
   refine dB (q := N) (news := cK (fU k.lo k.hi)) slBo Z Z Z (fun v' => by repeat constructor) (fun w' hs => ⟨_, _, rdB_row (RdE.keep hkr.o hs.chg0) hN⟩) (pP _) J J (fun u3 => ?_);rw [Nat.zero_add N, List.nil_append];refine bO (fun w hs => hs.slice2 (v := u3) O) ?_;rintro ⟨p3, q3, rfl⟩;(refine aN ?_);exact hK1 _ _ (hS0_3_4_9 ⟨x0, p3, q3, x4, b10, ()⟩ _ _ ⟨Z, Z, Z, Z, Z, Z, Z, Z, trivial⟩ O)
  refine cH (σ := Nat × Option Addr × Nat × Unit) (tF37_ef2443a) (fun ⟨x0, p3, q3, ()⟩ => [(2, .int .i64 i), (3, .int .i64 sh), (4, aC0 b4), (8, aC0 b8), (5, aC0 b5), (32, (.slice p3 N q3))]) (fun ⟨x0, p3, q3, ()⟩ => [.ow (.slice p3 N q3) 4 1 N (cK (fU k.lo k.hi))]) ?_ (fun hS0_3 => ?_)
  ·rintro ⟨x0, p3, q3, _⟩;refine cA ?_ ?_
   ·refine bA qA fun K1 hK1 => ?_;refine jR 3 1 qB qB Z (fun x4 => ?_)
    (refine aN ?_)
    exact hK1 _ _ (hS0_3_4 ⟨x0, p3, q3, x4, ()⟩ _ _ ⟨Z, Z, Z, Z, Z, Z, Z, trivial⟩ O)
   ·refine bA qA fun K1 hK1 => ?_;refine bG eR Z (fun b10 => ?_)
    (refine aN ?_)
    exact hK1 _ _ (hS0_3_9 ⟨x0, p3, q3, b10, ()⟩ _ _ ⟨Z, Z, Z, Z, Z, Z, Z, trivial⟩ O)
  refine cH (σ := Nat × Nat × Unit) (lS) (fun ⟨x0, x4, ()⟩ => [(2, .int .i64 i), (3, .int .i64 sh), (4, aC0 b4), (8, aC0 b8), (5, aC0 b5), (29, aB9 x0 0 0), (33, aB9 x4 0 0)]) (fun ⟨x0, x4, ()⟩ => [.ow (aB9 x0 0 0) 4 1 0 [], .ow (aB9 x4 0 0) 3 1 0 []]) ?_ (fun hS0_4 => ?_)
  ·rintro ⟨x0, x4, _⟩;refine cA ?_ ?_
   ·refine bA qA fun K1 hK1 => ?_;(refine aA2 xq ?_; refine bB U Z Z Z ?_)
    refine dB (q := N) (news := cK (fU k.lo k.hi)) slBo Z Z Z (fun v' => by repeat constructor) (fun w' hs => ⟨_, _, rdB_row (RdE.keep hkr.o hs.chg0) hN⟩) (pP _) J J (fun u3 => ?_);rw [Nat.zero_add N, List.nil_append];refine bO (fun w hs => hs.slice2 (v := u3) O) ?_;rintro ⟨p3, q3, rfl⟩;(refine aN ?_);exact hK1 _ _ (hS0_3_4 ⟨x0, p3, q3, x4, ()⟩ _ _ ⟨Z, Z, Z, Z, Z, Z, Z, trivial⟩ O)
   ·refine bA qA fun K1 hK1 => ?_;refine bG eR Z (fun b10 => ?_)
    (refine aN ?_)
    exact hK1 _ _ (hS0_4_9 ⟨x0, x4, b10, ()⟩ _ _ ⟨Z, Z, Z, Z, Z, Z, Z, Z, trivial⟩ O)
  refine cH (σ := Nat × Nat × Unit) (lK) (fun ⟨x0, b10, ()⟩ => [(2, .int .i64 i), (3, .int .i64 sh), (4, aC0 b4), (8, aC0 b8), (5, aC0 b5), (29, aB9 x0 0 0), (10, aC0 b10)]) (fun ⟨x0, b10, ()⟩ => [.ow (aB9 x0 0 0) 4 1 0 [], .pt b10 [.slice none 0 0, .slice none 0 0] 209]) ?_ (fun hS0_9 => ?_)
  ·rintro ⟨x0, b10, _⟩;refine cA ?_ ?_
   ·refine bA qA fun K1 hK1 => ?_;(refine aA2 xq ?_; refine bB U Z Z Z ?_)
    refine dB (q := N) (news := cK (fU k.lo k.hi)) slBo Z Z Z (fun v' => by repeat constructor) (fun w' hs => ⟨_, _, rdB_row (RdE.keep hkr.o hs.chg0) hN⟩) (pP _) J J (fun u3 => ?_);rw [Nat.zero_add N, List.nil_append];refine bO (fun w hs => hs.slice2 (v := u3) O) ?_;rintro ⟨p3, q3, rfl⟩;(refine aN ?_);exact hK1 _ _ (hS0_3_9 ⟨x0, p3, q3, b10, ()⟩ _ _ ⟨Z, Z, Z, Z, Z, Z, Z, trivial⟩ O)
   ·refine bA qA fun K1 hK1 => ?_;refine jR 3 1 qB qB Z (fun x4 => ?_)
    (refine aN ?_)
    exact hK1 _ _ (hS0_4_9 ⟨x0, x4, b10, ()⟩ _ _ ⟨Z, Z, Z, Z, Z, Z, Z, Z, trivial⟩ O)
  refine cH (σ := Nat × Nat × Unit) (lJ) (fun ⟨x4, b10, ()⟩ => [(2, .int .i64 i), (3, .int .i64 sh), (4, aC0 b4), (8, aC0 b8), (5, aC0 b5), (33, aB9 x4 0 0), (10, aC0 b10)]) (fun ⟨x4, b10, ()⟩ => [.ow (aB9 x4 0 0) 3 1 0 [], .pt b10 [.slice none 0 0, .slice none 0 0] 209]) ?_ (fun hS4_9 => ?_)
  ·rintro ⟨x4, b10, _⟩;refine bA qA fun K1 hK1 => ?_
   refine jR 4 1 qB qB Z (fun x0 => ?_);(refine aN ?_);exact hK1 _ _ (hS0_4_9 ⟨x0, x4, b10, ()⟩ _ _ ⟨Z, Z, Z, Z, Z, Z, Z, Z, trivial⟩ O)
  refine cH (σ := Nat × Unit) (tF37_6c26d9f) (fun ⟨x0, ()⟩ => [(2, .int .i64 i), (3, .int .i64 sh), (4, aC0 b4), (8, aC0 b8), (5, aC0 b5), (29, aB9 x0 0 0)]) (fun ⟨x0, ()⟩ => [.ow (aB9 x0 0 0) 4 1 0 []]) ?_ (fun hS0 => ?_)
  ·rintro ⟨x0, _⟩;refine cA ?_ (cA ?_ ?_)
   ·refine bA qA fun K1 hK1 => ?_;(refine aA2 xq ?_; refine bB U Z Z Z ?_)
    refine dB (q := N) (news := cK (fU k.lo k.hi)) slBo Z Z Z (fun v' => by repeat constructor) (fun w' hs => ⟨_, _, rdB_row (RdE.keep hkr.o hs.chg0) hN⟩) (pP _) J J (fun u3 => ?_);rw [Nat.zero_add N, List.nil_append];refine bO (fun w hs => hs.slice2 (v := u3) O) ?_;rintro ⟨p3, q3, rfl⟩;(refine aN ?_);exact hK1 _ _ (hS0_3 ⟨x0, p3, q3, ()⟩ _ _ ⟨Z, Z, Z, Z, Z, Z, trivial⟩ O)
   ·refine bA qA fun K1 hK1 => ?_;refine jR 3 1 qB qB Z (fun x4 => ?_)
    (refine aN ?_)
    exact hK1 _ _ (hS0_4 ⟨x0, x4, ()⟩ _ _ ⟨Z, Z, Z, Z, Z, Z, Z, trivial⟩ O)
   ·refine bA qA fun K1 hK1 => ?_;refine bG eR Z (fun b10 => ?_)
    (refine aN ?_)
    exact hK1 _ _ (hS0_9 ⟨x0, b10, ()⟩ _ _ ⟨Z, Z, Z, Z, Z, Z, Z, trivial⟩ O)
  refine cH (σ := Nat × Unit) (tF37_b8c2c40) (fun ⟨x4, ()⟩ => [(2, .int .i64 i), (3, .int .i64 sh), (4, aC0 b4), (8, aC0 b8), (5, aC0 b5), (33, aB9 x4 0 0)]) (fun ⟨x4, ()⟩ => [.ow (aB9 x4 0 0) 3 1 0 []]) ?_ (fun hS4 => ?_)
  ·rintro ⟨x4, _⟩;refine cA ?_ ?_
   ·refine bA qA fun K1 hK1 => ?_;refine jR 4 1 qB qB Z (fun x0 => ?_)
    (refine aN ?_)
    exact hK1 _ _ (hS0_4 ⟨x0, x4, ()⟩ _ _ ⟨Z, Z, Z, Z, Z, Z, Z, trivial⟩ O)
   ·refine bA qA fun K1 hK1 => ?_;refine bG eR Z (fun b10 => ?_)
    (refine aN ?_)
    exact hK1 _ _ (hS4_9 ⟨x4, b10, ()⟩ _ _ ⟨Z, Z, Z, Z, Z, Z, Z, trivial⟩ O)
  refine cH (σ := Nat × Unit) (tF37_aaf68eb) (fun ⟨b10, ()⟩ => [(2, .int .i64 i), (3, .int .i64 sh), (4, aC0 b4), (8, aC0 b8), (5, aC0 b5), (10, aC0 b10)]) (fun ⟨b10, ()⟩ => [.pt b10 [.slice none 0 0, .slice none 0 0] 209]) ?_ (fun hS9 => ?_)
  ·rintro ⟨b10, _⟩;refine cA ?_ ?_
   ·refine bA qA fun K1 hK1 => ?_;refine jR 4 1 qB qB Z (fun x0 => ?_)
    (refine aN ?_)
    exact hK1 _ _ (hS0_9 ⟨x0, b10, ()⟩ _ _ ⟨Z, Z, Z, Z, Z, Z, Z, trivial⟩ O)
   ·refine bA qA fun K1 hK1 => ?_;refine jR 3 1 qB qB Z (fun x4 => ?_)
    (refine aN ?_)
    exact hK1 _ _ (hS4_9 ⟨x4, b10, ()⟩ _ _ ⟨Z, Z, Z, Z, Z, Z, Z, trivial⟩ O)
  refine cA ?_ (cA ?_ ?_)
  ·refine bA qA fun K1 hK1 => ?_;refine jR 4 1 qB qB Z (fun x0 => ?_)
   (refine aN ?_)
   exact hK1 _ _ (hS0 ⟨x0, ()⟩ _ _ ⟨Z, Z, Z, Z, Z, Z, trivial⟩ O)
  ·refine bA qA fun K1 hK1 => ?_;refine jR 3 1 qB qB Z (fun x4 => ?_)
   (refine aN ?_)
   exact hK1 _ _ (hS4 ⟨x4, ()⟩ _ _ ⟨Z, Z, Z, Z, Z, Z, trivial⟩ O)
  ·refine bA qA fun K1 hK1 => ?_;refine bG eR Z (fun b10 => ?_)
   (refine aN ?_)
   exact hK1 _ _ (hS9 ⟨b10, ()⟩ _ _ ⟨Z, Z, Z, Z, Z, Z, trivial⟩ O)
 rintro ⟨p3, q3, p7, q7, b10⟩;dsimp only;refine q_fact (fun w hs => hs.ownSome (v := .slice p3 N q3) O J) ?_;rintro ⟨g3, c3, hg3⟩;cases hg3
 refine q_fact (fun w hs => hs.ownSome (v := .slice p7 s.rifles.length q7) O J) ?_;rintro ⟨g7, c7, hg7⟩;cases hg7
 (refine aC (aB (aA1 zq ?_)); refine aJ U Z Z Z ?_; refine aA1 zq (aA1 zq ?_))
 refine aA7 Wa J J ?_;refine ql_storeW U i Z Z Z Z O J (by simp only [aX, List.length_map]; rw [hsl]; exact hi') ?_
 have hset : (aX (skL s k)).set i (.int .i64 sh) = aX (skL s (kB s k i b)) := by
  rw [← skL_set hk hi' h8 hf b, ← hsh];simp [aX, List.map_set]
 rw [hset];(refine aD (aC (aC (aB (aA1 zq (aD (aM ?_)))))));refine dG (H' := [.ow (aB9 g3 N q3) 4 1 N (cK (ofsM k.lo k.hi (kB s k i b).lo (kB s k i b).hi 0)), .ow (aB9 g7 s.rifles.length q7) 3 1 s.rifles.length (aX (skL s (kB s k i b))), .pt b10 [aB9 g3 N q3, aB9 g7 s.rifles.length q7] 209, .pt b4 (scC s (.slice ta s.tests.length tc) (.slice (some ⟨rb, ro, none⟩) s.rifles.length rc)) 51, .pt b8 [.slice none 0 0, .slice none 0 0] 209]) (fun w' hs => by rw [ofsM_zero]; exact hs.sp O) ?_
 refine bM (σ := Nat) (fun j => j ≤ N) (fun j => N - j) (fun j => [(2, .int .i64 i), (3, .int .i64 sh), (4, aC0 b4), (8, aC0 b8), (10, aC0 b10), (11, .int .i64 j)])
  (fun j => [.ow (aB9 g3 N q3) 4 1 N (cK (ofsM k.lo k.hi (kB s k i b).lo (kB s k i b).hi j)), .ow (aB9 g7 s.rifles.length q7) 3 1 s.rifles.length (aX (skL s (kB s k i b))), .pt b10 [aB9 g3 N q3, aB9 g7 s.rifles.length q7] 209, .pt b4 (scC s (.slice ta s.tests.length tc) (.slice (some ⟨rb, ro, none⟩) s.rifles.length rc)) 51, .pt b8 [.slice none 0 0, .slice none 0 0] 209]) 0 J ⟨rfl, rfl, rfl, rfl, rfl, rfl, trivial⟩ O ?_
 rintro j hj K hK;(refine aC (aC (aB (aA1 zq (aA1 zq ?_)))); refine aJ U Z Z Z ?_; refine aA1 zq (aA1 zq (aD ?_)));refine dN Z (fun hc => ?_) (fun hc => ?_)
 ·have hj2 : j < N := by omega
  clear hc;have hj3 : j < 2001 := by omega
  have hlen := ofsM_len k.lo k.hi (kB s k i b).lo (kB s k i b).hi (j := j) J;have hcut := cut_ofs (s := s) (k := k) i b hj3
  have hst : (cK (ofsM k.lo k.hi (kB s k i b).lo (kB s k i b).hi j)).set j (.bool (ofsB (kB s k i b).lo (kB s k i b).hi j)) = cK (ofsM k.lo k.hi (kB s k i b).lo (kB s k i b).hi (j + 1)) := by
   rw [← ofsM_set _ _ _ _ hj3];simp [List.map_set]
  have hsm := ofsM_same k.lo k.hi (kB s k i b).lo (kB s k i b).hi hj3;(refine aK (aC (aM (aC (aB (aA1 zq ?_))))); refine aJ U Z Z Z ?_; refine aA1 zq ?_);refine aA7 Wa J J ?_;refine bI (v := .int .i64 (s.rif i)) U Z Z Z (fun w hs => by rw [← hrf]; exact RdI.at (RdE.keep h.r hs.chg0) i hi') ?_;cases hcc : cutB s i b j with
  | true =>
   rw [hcc] at hcut;simp only [Bool.not_true, Bool.and_false] at hcut;rw [hcut] at hst;unfold cutB at hcc;cases b with
   | true =>
    rw [if_pos rfl] at hcc hsh;subst hsh;have hcc := of_decide_eq_true hcc;(refine aA1 zq (aA4 uq J J (aA4 uq J J (aA1 zq (aD (aC (aB (aA1 zq (aB2 xq J (aA1 zq (aE Z (aA1 zq ?_))))))))))); refine aE Z (aA1 zq (aE Z ?_)); refine aJ U Z Z Z ?_; refine aE Z (aA4 uq J J (aE Z (aA1 zq (aE Z ?_)))); refine aJ U Z Z Z ?_; refine aE Z (aB3 xq J (aA1 zq (aA1 zq ?_))); (iterate 3 refine aA8 yq ?_); (iterate 7 refine oU Z Z ?_); refine aA8 yq (aA1 zq (aD (aH Z (aB (aA1 zq ?_))))); refine aJ U Z Z Z ?_; refine aA1 zq ?_);refine aA7 Wa J J ?_;refine ql_storeW U j Z Z Z Z O J (by rw [List.length_map, hlen]; omega) ?_;rw [hst];(refine aD (bK (aB (aA1 zq (aA4 uq J J (aA1 zq (aD ?_)))))));exact hK (j + 1) _ _ J J ⟨Z, Z, Z, Z, Z, Z, trivial⟩ O
   | false =>
    rw [if_neg (by decide)] at hcc hsh;subst hsh;have hcc := of_decide_eq_true hcc;(refine aA1 zq (aA4 uq J J (aA4 uq J J (aA1 zq (aD (aC (aB (aA1 zq (cZ U Z Z Z J (aA1 zq ?_))))))))); (iterate 7 refine aA8 yq ?_); refine aA1 zq (aA1 zq (aE Z (aA1 zq (aE Z (aB2 xq J (aE Z (aA1 zq (aE Z (aA1 zq (aE Z (aA1 zq ?_))))))))))); refine aE Z ?_; refine aJ U Z Z Z ?_; refine aE Z (aA4 uq J J (aE Z (aA1 zq (aE Z ?_)))); refine aJ U Z Z Z ?_; refine aE Z (jP U Z Z Z J (aE Z (aA1 zq (aA1 zq (aD (aH Z (aB (aA1 zq ?_)))))))); refine aJ U Z Z Z ?_; refine aA1 zq ?_);refine aA7 Wa J J ?_;refine ql_storeW U j Z Z Z Z O J (by rw [List.length_map, hlen]; omega) ?_;rw [hst];(refine aD (bK (aB (aA1 zq (aA4 uq J J (aA1 zq (aD ?_)))))));exact hK (j + 1) _ _ J J ⟨Z, Z, Z, Z, Z, Z, trivial⟩ O
  | false =>
   rw [hcc] at hcut;simp only [Bool.not_false, Bool.and_true] at hcut;rw [hsm hcut.symm];unfold cutB at hcc;cases b with
   | true =>
    rw [if_pos rfl] at hcc hsh;subst hsh;have hcc := of_decide_eq_false hcc;(refine aA1 zq (aA4 uq J J (aA4 uq J J (aA1 zq (aD (aC (aB (aA1 zq (aB2 xq J (aA1 zq (aE Z (aA1 zq ?_))))))))))); refine aE Z (aA1 zq (aE Z ?_)); refine aJ U Z Z Z ?_; refine aE Z (aA4 uq J J (aE Z (aA1 zq (aE Z ?_)))); refine aJ U Z Z Z ?_; refine aE Z (aB4 xq J (aA1 zq (aA1 zq (aE Z (aA1 zq (aE Z (cZ U Z Z Z J (aE Z (aA1 zq ?_))))))))); (iterate 7 refine aA8 yq ?_); refine aE Z (aA1 zq (aA1 zq (aD (aG Z (aK (bK (aB (aA1 zq (aA4 uq J J (aA1 zq (aD ?_))))))))))));exact hK (j + 1) _ _ J J ⟨Z, Z, Z, Z, Z, Z, trivial⟩ O
   | false =>
    rw [if_neg (by decide)] at hcc hsh;subst hsh;have hcc := of_decide_eq_false hcc;(refine aA1 zq (aA4 uq J J (aA4 uq J J (aA1 zq (aD (aC (aB (aA1 zq (cZ U Z Z Z J (aA1 zq ?_))))))))); (iterate 7 refine aA8 yq ?_); refine aA1 zq (aA1 zq (aE Z (aA1 zq (aE Z (aB2 xq J (aE Z (aA1 zq (aE Z (aA1 zq (aE Z (aA1 zq ?_))))))))))); refine aE Z ?_; refine aJ U Z Z Z ?_; refine aE Z (aA4 uq J J (aE Z (aA1 zq (aE Z ?_)))); refine aJ U Z Z Z ?_; refine aE Z (jT U Z Z Z J (aE Z (aA1 zq (aA1 zq (aD (aG Z (aK (bK (aB (aA1 zq (aA4 uq J J ?_))))))))))); refine aA1 zq (aD ?_));exact hK (j + 1) _ _ J J ⟨Z, Z, Z, Z, Z, Z, trivial⟩ O
 ·have hjN : j = 2001 := by omega
  rw [hjN, ofsM_full];clear hc hK;have hbd := kB_bd (s := s) hk i b;(refine bH _ Z (aC (aB (aA1 zq ?_))); refine aJ U Z Z Z ?_);refine aI (val := .tuple #[iN (ofsS (kB s k i b).lo (kB s k i b).hi), .bool (decide ((kB s k i b).lo ≤ (kB s k i b).hi))]) U Z Z Z Z (fun w hs => ?_) ?_; exact mG w 0 w.heap.size _ _ _ (own_rdB (hs.mem (c := .ow (aB9 g3 N q3) 4 1 N (cK (fU (kB s k i b).lo (kB s k i b).hi))) O) (by rw [cM, hN])) hbd.1 hbd.2;(refine aA1 zq (aB5 xq (aB5 xq ?_)));refine bF dR Z (fun b13 => ?_);(refine aB6 Wa O Z ?_; refine aA1 zq (aD (aC (aB ?_))); refine aP U Z Z Z ?_; refine aA1 zq ?_; refine aB6 Wa O Z ?_; refine aA1 zq (aD (aS ?_)));refine aA5 wq O fun w hs => ?_
  exact ⟨(aB9 g3 N q3, aB9 g7 s.rifles.length q7), Z, by rw [← hN]; exact hs.sp O⟩
theorem rropen_ca (w : World) (lo hi l2 h2 : Nat) (s : Sc) (tv rv ov sv : Value) (k : Kn) (h : ScR w lo hi tv rv s) (hs0 : s.Ok) (hkr : KnR w l2 h2 ov sv s k) (hk : k.Fit) (i : Nat) (hi' : i < s.rifles.length) : Ca Tryz.prog 170 [.agg (scC s tv rv).toArray, .agg #[ov, sv], .int .i64 i] w fun x w' => x = .bool (eG s k i) ∧ Chg [] w w' := by
 obtain ⟨ta, tc, rfl, _⟩ := RdS.outI h.t;obtain ⟨ra, rc, rfl, _⟩ := RdI.outI h.r;obtain ⟨sa, sc, rfl, hsa⟩ := RdI.outI hkr.s;obtain ⟨oa, oc, rfl, _⟩ := hkr.o.out;have hsl := fA s k;have hr := hs0.rif hi';have herr := hs0.err;have f1 := hk.lo;have f2 := hk.hi;have f3 := hk.le;obtain ⟨sb, so, rfl⟩ := hsa J
 have hcell : ∀ w', Chg [] w w' → w'.cell? ⟨sb, so + i * 1, none⟩ = some (.int .i64 (skV k i)) := fun w' hw => by
  have := RdI.at (RdE.keep hkr.s hw) i (by rw [hsl]; exact hi');rw [mF] at this;exact this
 have e3 : ofsS k.lo k.hi = (k.lo, k.hi) := by unfold ofsS; rw [if_pos f3]
 have hop := eP (s := s) (k := k) (i := i);refine cN (Sat.nil w M0) Tryz.func170 Z (by simp [Tryz.ntmps170]) ?_;(refine aC (aB ?_));refine bR Z Z (fun b3 => ?_);rw [bL];refine bR Z Z (fun b4 => ?_);(refine aA1 zq (aD (aC (aB ?_))); refine aP U Z Z Z ?_; refine aA1 zq (aA1 zq ?_); refine aJ U Z Z Z ?_);refine aI (val := iN (gL s i (k.lo, k.hi))) U Z Z Z Z (fun w hs => ?_) ?_; exact by have := rweight_ca w lo hi l2 h2 s _ _ _ (h.keep hs.chg0) hs0 i hi' k.lo k.hi (RdE.keep hkr.o hs.chg0) f1 f2; rw [e3] at this; exact this
 refine bF dR Z (fun b7 => ?_);(refine aB6 Wa O Z ?_; refine aD (aC (aB (aA1 zq ?_))); refine aJ U Z Z Z ?_; refine aA1 zq ?_);refine aA7 Wa J (by rw [hsl]; omega) ?_;refine bI U Z Z Z (fun w hs => hcell _ hs.chg0) ?_;have e5 : (gL s i (k.lo, k.hi)).1 = s.rif i - k.hi - s.err := rfl;have e6 : (gL s i (k.lo, k.hi)).2 = s.rif i - k.lo + s.err := rfl;by_cases c1 : skV k i = 0
 ·have g1 := pB.1 c1;by_cases c2 : (gL s i (k.lo, k.hi)).1 < s.least
  ·by_cases c3 : s.least ≤ (gL s i (k.lo, k.hi)).2
   ·rw [show eG s k i = true from hop.2 ⟨g1, by omega, by omega⟩];(refine aB2 xq J (aA1 zq (aE Z (aA1 zq (aE Z ?_)))); refine aJ U Z Z Z ?_; refine aE Z (aA1 zq (aE Z ?_)); refine aJ U Z Z Z ?_; refine aE Z (aB3 xq J (aA1 zq (aA1 zq (aE Z (aA1 zq (aE Z ?_)))))); refine aJ U Z Z Z ?_; refine aE Z (aA1 zq (aE Z ?_)); refine aJ U Z Z Z ?_; refine aE Z (jP U Z Z Z J (aA1 zq (aA1 zq (aD (aS ?_))))));refine aA5 wq O fun w hs => ?_
    exact ⟨Z, hs.chg0⟩
   ·rw [show eG s k i = false from Bool.eq_false_iff.2 fun e => by have := hop.1 e; omega];(refine aB2 xq J (aA1 zq (aE Z (aA1 zq (aE Z ?_)))); refine aJ U Z Z Z ?_; refine aE Z (aA1 zq (aE Z ?_)); refine aJ U Z Z Z ?_; refine aE Z (aB3 xq J (aA1 zq (aA1 zq (aE Z (aA1 zq (aE Z ?_)))))); refine aJ U Z Z Z ?_; refine aE Z (aA1 zq (aE Z ?_)); refine aJ U Z Z Z ?_; refine aE Z (jT U Z Z Z J (aA1 zq (aA1 zq (aD (aS ?_))))));refine aA5 wq O fun w hs => ?_
    exact ⟨Z, hs.chg0⟩
  ·rw [show eG s k i = false from Bool.eq_false_iff.2 fun e => by have := hop.1 e; omega];(refine aB2 xq J (aA1 zq (aE Z (aA1 zq (aE Z ?_)))); refine aJ U Z Z Z ?_; refine aE Z (aA1 zq (aE Z ?_)); refine aJ U Z Z Z ?_; refine aE Z (aB4 xq J (aA1 zq (aA1 zq ?_))); (iterate 5 refine aA8 yq ?_); refine aA1 zq (aA1 zq (aD (aS ?_))));refine aA5 wq O fun w hs => ?_
   exact ⟨Z, hs.chg0⟩
 ·rw [show eG s k i = false from Bool.eq_false_iff.2 fun e => c1 (pB.2 (hop.1 e).1)];(refine cZ U Z Z Z J (aA1 zq ?_); (iterate 5 refine aA8 yq ?_); refine aA1 zq (aA1 zq ?_); (iterate 5 refine aA8 yq ?_); refine aA1 zq (aA1 zq (aD (aS ?_))));refine aA5 wq O fun w hs => ?_
  exact ⟨Z, hs.chg0⟩
def opX (s : Sc) (k : Kn) (i : Nat) : List Nat := (List.range i).filter (eG s k)
def bstP (s : Sc) (k : Kn) (i : Nat) : Int × Int := (opX s k i).foldl (pickS (dE s) s k) (0, 0)
theorem opX_succ (s : Sc) (k : Kn) (i : Nat) : opX s k (i + 1) = if eG s k i = true then opX s k i ++ [i] else opX s k i := by
 unfold opX;rw [List.range_succ, List.filter_append];by_cases e : eG s k i = true
 ·simp [e]
 ·simp [e]
theorem bstP_pk (s : Sc) (k : Kn) (i : Nat) : PkI s k (opX s k i) (bstP s k i) := by
 have := pk_all (s := s) (k := k) (try_pos s k) (opX s k i) [] (0, 0) ⟨fun _ => rfl, fun h => absurd rfl h, fun i hi => by cases hi⟩
 rwa [List.nil_append] at this
theorem bstP_skip {s : Sc} {k : Kn} {i : Nat} (h : eG s k i = false) : opX s k (i + 1) = opX s k i ∧ bstP s k (i + 1) = bstP s k i := by
 have e : opX s k (i + 1) = opX s k i := by rw [opX_succ, if_neg (by rw [h]; simp)]
 exact ⟨e, by unfold bstP; rw [e]⟩
theorem bstP_take {s : Sc} {k : Kn} {i : Nat} (h : eG s k i = true) : opX s k (i + 1) = opX s k i ++ [i] ∧ bstP s k (i + 1) = (if bstP s k i = (0, 0) ∨ tryV s k i < (bstP s k i).2 then ((i : Int), tryV s k i) else bstP s k i) := by
 have e : opX s k (i + 1) = opX s k i ++ [i] := by rw [opX_succ, if_pos h]
 refine ⟨e, ?_⟩;unfold bstP;rw [e, List.foldl_append]
 rfl
theorem bstP_full {s : Sc} (h8 : s.rifles.length ≤ 8) {k : Kn} (hk : k.Fit) : (bstP s k s.rifles.length).2 = dE s k := by
 unfold dE;rw [bstK_eq h8 hk]
 rfl
def smP (s : Sc) (k : Kn) (i : Nat) : Bool := !(opX s k i).isEmpty
theorem smP_false {s : Sc} {k : Kn} {i : Nat} (h : smP s k i = false) : bstP s k i = (0, 0) := (bstP_pk s k i).nil (by
 unfold smP at h;simpa using h)
theorem smP_true {s : Sc} {k : Kn} {i : Nat} (h : smP s k i = true) : bstP s k i ≠ (0, 0) := by
 obtain ⟨j, _, h1, h2⟩ := (bstP_pk s k i).at_ (by
  intro e;unfold smP at h;rw [e] at h;cases h)
 rw [h1];intro e;have := congrArg Prod.snd e;simp only at this;omega
theorem bstP_8 {s : Sc} (h8 : s.rifles.length ≤ 8) {k : Kn} (hk : k.Fit) {i : Nat} (hi : i ≤ s.rifles.length) : 0 ≤ (bstP s k i).2 ∧ (bstP s k i).2 ≤ 10 := by
 have h1 := bstP_pk s k i;by_cases e : opX s k i = []
 ·rw [h1.nil e]; simp
 ·obtain ⟨j, hj, h2, h3⟩ := h1.at_ e;rw [h2];unfold opX at hj;rw [List.mem_filter, List.mem_range] at hj;have d1 := dep_8 h8 (fN hk hj.2);have d2 := dep_8 h8 (fI hk hj.2);unfold tryV at h3 ⊢;simp only;omega
theorem rleast_ca (lo hi : Nat) (s : Sc) (tv rv : Value) (hs0 : s.Ok) : ∀ (n : Nat) (k : Kn) (w : World) (l2 h2 : Nat) (ov sv : Value), cntK s k = n → k.Fit → ScR w lo hi tv rv s → KnR w l2 h2 ov sv s k →
  Ca Tryz.prog 129 [.agg (scC s tv rv).toArray, .agg #[ov, sv]] w fun x w' => x = .int .i64 (dE s k) ∧ Chg [] w w' := by
 have h8 := hs0.rn8;intro n
 induction n using Nat.strongRecOn with
 | ind n ih =>
 intro k w l2 h2 ov sv hcn hk h hkr;obtain ⟨ta, tc, rfl, _⟩ := RdS.outI h.t;obtain ⟨ra, rc, rfl, _⟩ := RdI.outI h.r;obtain ⟨sa, sc, rfl, _⟩ := RdI.outI hkr.s;obtain ⟨oa, oc, rfl, _⟩ := hkr.o.out;obtain ⟨NS, hNS⟩ : ∃ N, N = (skL s k).length := ⟨_, rfl⟩;obtain ⟨NO, hNO⟩ : ∃ N, N = (cK (fU k.lo k.hi)).length := ⟨_, rfl⟩;rw [← hNS, ← hNO] at hkr ⊢;refine cN (Sat.nil w M0) Tryz.func129 Z (by simp [Tryz.ntmps129]) ?_;(refine aC (aB ?_));refine bR Z Z (fun b2 => ?_);rw [bL];refine bR Z Z (fun b3 => ?_);(refine aA1 zq (aD (aC (aB (aA1 zq (aA1 zq (aD (aC (aC (aB (aA1 zq (aD ?_))))))))))); refine aM ?_);refine dG (H' := [.pt b3 [.slice oa NO oc, .slice sa NS sc] 209, .pt b2 (scC s (.slice ta s.tests.length tc) (.slice ra s.rifles.length rc)) 51]) (fun w' hs => hs.sp O) ?_
 refine bM (σ := Nat) (fun i => i ≤ s.rifles.length) (fun i => s.rifles.length - i) (fun i => [(2, aC0 b2), (3, aC0 b3), (5, .int .i64 (bstP s k i).2), (6, .bool (smP s k i)), (7, .int .i64 i)])
  (fun _ => [.pt b3 [.slice oa NO oc, .slice sa NS sc] 209, .pt b2 (scC s (.slice ta s.tests.length tc) (.slice ra s.rifles.length rc)) 51]) 0 J ⟨rfl, rfl, rfl, rfl, rfl, trivial⟩ O ?_
 rintro i hi2 K hK;have hb8 := bstP_8 h8 hk hi2;(refine aC (aC (aB (aA1 zq (aA1 zq ?_)))); refine aJ U Z Z Z ?_; refine aA1 zq (aA1 zq (aD ?_)));refine dN Z (fun hc => ?_) (fun hc => ?_)
 ·have hi3 : i < s.rifles.length := by omega
  clear hc;(refine aK (aC (aM (aC (aC (aB ?_))))); (iterate 2 refine aP U Z Z Z ?_); refine aA1 zq ?_);refine aI (val := .bool (eG s k i)) U Z Z Z Z (fun w hs => ?_) ?_; exact rropen_ca w lo hi l2 h2 s _ _ _ _ k (h.keep hs.chg0) hs0 (hkr.keep hs.chg0) hk i hi3;cases ho : eG s k i with
  | false =>
   obtain ⟨e1, e2⟩ := bstP_skip ho;have e3 : smP s k (i + 1) = smP s k i := by unfold smP; rw [e1]
   (refine aA1 zq (aD (aH Z (bH _ Z (aB (aA1 zq (aA4 uq J J (aA1 zq (aD ?_)))))))))
   exact hK (i + 1) _ _ J J ⟨Z, Z, by rw [e2]; rfl, by rw [e3]; rfl, Z, trivial⟩ O
  | true =>
   obtain ⟨e1, e2⟩ := bstP_take ho;have hfr := (eP.1 ho).1;have c1 := nM hk h8 hi3 hfr;have c2 := nG hk h8 hi3 hfr;have fp := fN hk ho;have ff := fI hk ho;have dp := dep_8 h8 fp;have df := dep_8 h8 ff;have e3 : smP s k (i + 1) = true := by unfold smP; rw [e1]; simp
   (refine aA1 zq (aD (aG Z (aK (aC (aB ?_))))); (iterate 2 refine aP U Z Z Z ?_); refine aA1 zq ?_)
   obtain ⟨N, hN⟩ : ∃ N : Nat, N = 2001 := ⟨_, rfl⟩;refine bC (β := Value × Value) (ψ := fun y v => v = .tuple #[.agg #[y.1, y.2], .bool (decide ((kB s k i true).lo ≤ (kB s k i true).hi))]) (L' := fun y => [.ow y.1 4 1 2001 (cK (fU (kB s k i true).lo (kB s k i true).hi)), .ow y.2 3 1 s.rifles.length (aX (skL s (kB s k i true)))]) U [] _ M0 Z Z Z Z (Sp.refl _) qC (fun w' hs => gW w' lo hi l2 h2 s _ _ _ _ k (h.keep hs.chg0) hs0 (hkr.keep hs.chg0) hk i hi3 hfr true) ?_;rintro ⟨u1, u2⟩ _ rfl;dsimp only [List.cons_append, List.nil_append];rw [show kB s k i true = cI s k i from rfl, ← hN];refine cU (fun w hs => hs.slice2 (v := u1) O) ?_;rintro ⟨p1, p2, rfl⟩;refine cU (fun w hs => hs.slice2 (v := u2) O) ?_;rintro ⟨p3, p4, rfl⟩;(refine aA1 zq (aB5 xq (aB5 xq ?_)));refine bF eR Z (fun b8 => ?_);(refine aB6 Wa O Z ?_; refine aA1 zq (aD (aC (aB ?_))); (iterate 2 refine aP U Z Z Z ?_); refine aA1 zq ?_);refine bC (β := Value × Value) (ψ := fun y v => v = .tuple #[.agg #[y.1, y.2], .bool (decide ((kB s k i false).lo ≤ (kB s k i false).hi))]) (L' := fun y => [.ow y.1 4 1 2001 (cK (fU (kB s k i false).lo (kB s k i false).hi)), .ow y.2 3 1 s.rifles.length (aX (skL s (kB s k i false)))]) U [] _ M0 Z Z Z Z (Sp.refl _) qC (fun w' hs => gW w' lo hi l2 h2 s _ _ _ _ k (h.keep hs.chg0) hs0 (hkr.keep hs.chg0) hk i hi3 hfr false) ?_;rintro ⟨u3, u4⟩ _ rfl;dsimp only [List.cons_append, List.nil_append];rw [show kB s k i false = cD s k i from rfl, ← hN];refine cU (fun w hs => hs.slice2 (v := u3) O) ?_;rintro ⟨q1, q2, rfl⟩;refine cU (fun w hs => hs.slice2 (v := u4) O) ?_;rintro ⟨q3, q4, rfl⟩;(refine aA1 zq (aB5 xq (aB5 xq ?_)));refine bF eR Z (fun b10 => ?_);(refine aB6 Wa O Z ?_; refine aA1 zq (aD (aC ?_)));refine bZ _ [] (Sp.refl _) qB qB ?_
   ((iterate 2 refine aV U Z Z Z ?_))
   refine bN (val := .int .i64 (dE s (cI s k i))) U Z Z Z Z (fun w hs => ?_) ?_; exact ih _ J (cI s k i) w 0 w.heap.size (.slice p1 N p2) (.slice p3 s.rifles.length p4) Z fp (h.keep hs.chg0) ⟨own_rdB (hs.mem (c := .ow (.slice p1 N p2) 4 1 N (cK (fU (cI s k i).lo (cI s k i).hi))) O) (by rw [cM, hN]), hs.rdI (v := .slice p3 s.rifles.length p4) (t := 3) (n := s.rifles.length) O (fA _ _).symm⟩
   ((iterate 2 refine aV U Z Z Z ?_))
   refine bN (val := .int .i64 (dE s (cD s k i))) U Z Z Z Z (fun w hs => ?_) ?_; exact ih _ J (cD s k i) w 0 w.heap.size (.slice q1 N q2) (.slice q3 s.rifles.length q4) Z ff (h.keep hs.chg0) ⟨own_rdB (hs.mem (c := .ow (.slice q1 N q2) 4 1 N (cK (fU (cD s k i).lo (cD s k i).hi))) O) (by rw [cM, hN]), hs.rdI (v := .slice q3 s.rifles.length q4) (t := 3) (n := s.rifles.length) O (fA _ _).symm⟩;(refine aA2 xq (aA9 uq J J (aA2 xq (aN (aC (aB ?_))))); (iterate 3 refine aA1 zq ?_));have et : tryV s k i = 1 + max (dE s (cI s k i)) (dE s (cD s k i)) := rfl;cases hsm : smP s k i with
   | false =>
    have e4 : bstP s k (i + 1) = ((i : Int), tryV s k i) := by rw [e2, if_pos (.inl (smP_false hsm))]
    ((iterate 3 refine aA8 yq ?_); refine aA1 zq (aD (aH Z (aB ?_))); (iterate 3 refine aA1 zq ?_); refine aD (bK (aB (aA1 zq (aA4 uq J J (aA1 zq (aD ?_)))))))
    exact hK (i + 1) _ _ J J ⟨Z, Z, by rw [e4]; rfl, by rw [e3]; rfl, Z, trivial⟩ O
   | true =>
    have hne := smP_true hsm;by_cases hlt : tryV s k i < (bstP s k i).2
    ·have e4 : bstP s k (i + 1) = ((i : Int), tryV s k i) := by rw [e2, if_pos (.inr hlt)]
     (refine aE Z (aA1 zq (aE Z (aA1 zq (aE Z (aB3 xq J (aA1 zq (aD (aH Z (aB ?_))))))))); (iterate 3 refine aA1 zq ?_); refine aD (bK (aB (aA1 zq (aA4 uq J J (aA1 zq (aD ?_)))))))
     exact hK (i + 1) _ _ J J ⟨Z, Z, by rw [e4]; rfl, by rw [e3]; rfl, Z, trivial⟩ O
    ·have e4 : bstP s k (i + 1) = bstP s k i := by rw [e2, if_neg (by rintro (g | g); exact hne g; exact hlt g)]
     (refine aE Z (aA1 zq (aE Z (aA1 zq (aE Z (aB4 xq J (aA1 zq (aD (aG Z (aK (bK (aB ?_))))))))))); refine aA1 zq (aA4 uq J J (aA1 zq (aD ?_))))
     exact hK (i + 1) _ _ J J ⟨Z, Z, by rw [e4]; rfl, by rw [e3, ← hsm]; rfl, Z, trivial⟩ O
 ·obtain rfl : i = s.rifles.length := by omega
  rw [bstP_full h8 hk];(refine bH _ Z (aC (aB (aA1 zq (aA1 zq (aD (aS ?_)))))));refine aA5 wq O fun w hs => ?_
  exact ⟨Z, hs.chg0⟩
theorem free_first (s : Sc) (i : Nat) : (bP s).free i = true := by
 have e : ∀ r, (List.replicate 8 false).getD r false = false := fun r => by
  rw [List.getD_eq_getElem?_getD, List.getElem?_replicate];split <;> rfl
 unfold Kn.free bP none8;simp only [e]
 rfl
theorem blk_rdI' {w : World} {b n c : Nat} {l : List Int} {t : TypeId} (h : Blk w b (aX l) t) (hn : n = l.length) : RdI w 0 w.heap.size (aB9 b n c) l := by
 subst hn;exact Blk.rdI h
theorem kA (s : Sc) : skL s (bP s) = List.replicate s.rifles.length 0 := List.ext_getElem (by rw [fA, List.length_replicate]) fun i h1 h2 => by
 rw [mF, List.getElem_replicate];exact pB.2 (free_first s i)
def fewU (s : Sc) : Int := if eY s = 0 then dE s (bP s) else 0
theorem rfewest_u (w : World) (lo hi : Nat) (s : Sc) (tv rv : Value) (h : ScR w lo hi tv rv s) (hl1 : s.tests.length ≤ maxLen) (hl2 : s.rifles.length ≤ maxLen) : Ca Tryz.prog 52 [.agg (scC s tv rv).toArray] w fun x w' => x = .tuple #[.int .i64 (fewU s), .int .i64 (eY s)] ∧ Chg [] w w' := by
 by_cases h0 : eY s = 0
 ·have := rfewest_ok w lo hi s tv rv h (dU.1 h0);unfold fewU;rw [if_pos h0, h0];exact this
 ·have := rfewest_no w lo hi s tv rv h hl1 hl2 h0;unfold fewU;rw [if_neg h0];exact this
def tF39_267b938 : OT := .alt (bE [0, 1, 2, 3, 4, 5, 6, 7, 8, 9, 10, 11, 12] (.nil)) (bE [5, 6, 7, 8, 0, 1, 2, 3, 4, 9, 10, 11, 12] (.nil))
theorem rrfewest_u (w : World) (lo hi : Nat) (s : Sc) (tv rv : Value) (h : ScR w lo hi tv rv s) (hl1 : s.tests.length ≤ maxLen) (hl2 : s.rifles.length ≤ maxLen) : Ca Tryz.prog 55 [.agg (scC s tv rv).toArray] w fun x w' => x = .tuple #[.int .i64 (fewU s), .int .i64 (eY s)] ∧ Chg [] w w' := by
 obtain ⟨ta, tc, rfl, _⟩ := RdS.outI h.t;obtain ⟨ra, rc, rfl, _⟩ := RdI.outI h.r;refine cN (Sat.nil w M0) Tryz.func55 Z (by simp [Tryz.ntmps55]) ?_;(refine aC (aB ?_));refine bR Z Z (fun b1 => ?_);rw [bL];(refine aA1 zq (aA1 zq (aD (aC (aC (aB ?_))))); refine aP U Z Z Z ?_);refine aI (val := .tuple #[iN (offU s), .int .i64 (eY s)]) U Z Z Z Z (fun w hs => ?_) ?_; exact rroff_u w lo hi s _ _ (h.keep hs.chg0) hl1 hl2;by_cases h0 : eY s = 0
 ·have hsok := dU.1 h0;have hok := hsok.ok;have hfit := eK hsok.le;have h8 := hok.rn8;have e1 : fewU s = dE s (bP s) := by unfold fewU; rw [if_pos h0]
  rw [h0, e1];(refine aA1 zq (aB5 xq (aB5 xq ?_)));refine bF dR Z (fun b4 => ?_);(refine aB6 Wa O Z ?_; refine aA1 zq (aD (aC (aB (aA1 zq (aA6 xq J (aD (aG Z (aK (aC ?_))))))))));refine fT (σ := Unit) (fun _ => [(2, .int .i64 (dE s (bP s))), (3, .int .i64 0)]) (fun _ => []) ?_ ?_;rotate_left
  ·intro K3 hK3;refine eQ (tF39_267b938) _ [] (Sp.refl _) qB qB ?_;refine cA ?_ ?_
   ·refine bA qA fun K1 hK1 => ?_
    ((iterate 2 refine aV U Z Z Z ?_); refine aA2 xq ?_; refine bB U Z Z Z ?_)
    refine bX (β := Nat) (ψ := fun b v => v = aB9 b 2001 2001) (L' := fun b => [.pt b (cK (fU (dS s).1 (dS s).2)) 4]) U [] _ M0 Z Z Z Z (Sp.refl _) qC (fun w' hs => eH w' lo hi lo hi s _ _ _ s.tests (h.keep hs.chg0) (RdE.keep h.t hs.chg0) hok hok.tst) ?_;rintro b5 _ rfl;dsimp only [List.cons_append, List.nil_append];(refine aA2 xq ?_; refine bB U Z Z Z ?_; refine aA2 xq ?_);refine iJ (m := s.rifles.length) slI Z Z Z J (fun b6 => ?_);refine kH #[aB9 b5 2001 2001, aB9 b6 s.rifles.length s.rifles.length] Z qB Z ?_;refine bN (val := .int .i64 (dE s (bP s))) U Z Z Z Z (fun w hs => rleast_ca lo hi s _ _ hok _ (bP s) w 0 w.heap.size _ _ Z hfit (h.keep hs.chg0) ⟨gV (c := 2001) (hs.blk (b := b5) O) (by rw [cM]), by rw [kA]; exact blk_rdI' (hs.blk (b := b6) (cs := aX (List.replicate s.rifles.length 0)) O) (by simp)⟩) ?_;(refine aA2 xq (aA2 xq (aN ?_)));exact hK1 _ _ (dD (hK3 () _ _ ⟨Z, Z, trivial⟩ O))
   ·refine bA qA fun K1 hK1 => ?_;(refine aA2 xq ?_; refine bB U Z Z Z ?_; refine aA2 xq ?_)
    refine iJ (m := s.rifles.length) slI Z Z Z J (fun b6 => ?_)
    ((iterate 2 refine aV U Z Z Z ?_); refine aA2 xq ?_; refine bB U Z Z Z ?_)
    refine bX (β := Nat) (ψ := fun b v => v = aB9 b 2001 2001) (L' := fun b => [.pt b (cK (fU (dS s).1 (dS s).2)) 4]) U [] _ M0 Z Z Z Z (Sp.refl _) qC (fun w' hs => eH w' lo hi lo hi s _ _ _ s.tests (h.keep hs.chg0) (RdE.keep h.t hs.chg0) hok hok.tst) ?_;rintro b5 _ rfl;dsimp only [List.cons_append, List.nil_append];refine kH #[aB9 b5 2001 2001, aB9 b6 s.rifles.length s.rifles.length] Z qB Z ?_;refine bN (val := .int .i64 (dE s (bP s))) U Z Z Z Z (fun w hs => rleast_ca lo hi s _ _ hok _ (bP s) w 0 w.heap.size _ _ Z hfit (h.keep hs.chg0) ⟨gV (c := 2001) (hs.blk (b := b5) O) (by rw [cM]), by rw [kA]; exact blk_rdI' (hs.blk (b := b6) (cs := aX (List.replicate s.rifles.length 0)) O) (by simp)⟩) ?_;(refine aA2 xq (aA2 xq (aN ?_)));exact hK1 _ _ (dD (hK3 () _ _ ⟨Z, Z, trivial⟩ O))
  intro _;(refine aS ?_);refine aA5 wq O fun w hs => ?_
  exact ⟨Z, hs.chg0⟩
 ·have e1 : fewU s = 0 := by unfold fewU; rw [if_neg h0]
  rw [e1];(refine aA1 zq (aB5 xq (aB5 xq ?_)));refine bF dR Z (fun b4 => ?_);(refine aB6 Wa O Z ?_; refine aA1 zq (aD (aC (aB (aA1 zq (aB0 xq J (aD (aH Z (aC (aB ?_))))))))); (iterate 3 refine aA1 zq ?_); refine aD (aS ?_));refine aA5 wq O fun w hs => ?_
  exact ⟨Z, hs.chg0⟩
theorem aft_free {s : Sc} {k : Kn} {i : Nat} (hf : k.free i = true) (b : Bool) : cQ s k i b = (kB s k i b, decide ((kB s k i b).lo ≤ (kB s k i b).hi)) := by
 unfold cQ kB;rw [if_neg (by rw [hf]; simp)];cases b
 ·rw [if_neg (by decide), if_neg (by decide), Bool.and_true]
 ·rw [if_pos rfl, if_pos rfl, Bool.and_true]
theorem aft_old {s : Sc} {k : Kn} {i : Nat} (hf : k.free i = false) (b : Bool) : cQ s k i b = (k, k.p.getD i false == b) := by
 unfold cQ;rw [if_pos hf]
theorem out_no {s : Sc} {plan : List Nd} {g : Nat} {x : Nd} {k : Kn} {i j : Nat} (h : (cJ s k i j).2 = false) : pN s plan g x k i (j + 1) = pN s plan g x k i j := by
 simp only [pN];rw [if_neg (by rw [h]; simp)]
theorem out_yes {s : Sc} {plan : List Nd} {g : Nat} {x : Nd} {k : Kn} {i j : Nat} (h : (cJ s k i j).2 = true) : pN s plan g x k i (j + 1) = max (pN s plan g x k i j) (fJ s plan g x k i j + 1) := by
 simp only [pN];rw [if_pos h, Int.add_comm 1]
theorem rfollow_end (w : World) (lo hi l2 h2 : Nat) (s : Sc) (tv rv ov sv vp : Value) (plan : List Nd) (k : Kn) (g : Nat) (h : ScR w lo hi tv rv s) (hs0 : s.Ok) (hk : k.Fit) (hkr : KnR w l2 h2 ov sv s k) : Ca Tryz.prog 132 [.agg (scC s tv rv).toArray, vp, .int .i64 (-1), .agg #[ov, sv]] w fun x w' => x = .int .i64 (jL s plan g (-1) k) ∧ Chg [] w w' := by
 have h8 := hs0.rn8;obtain ⟨ta, tc, rfl, _⟩ := RdS.outI h.t;obtain ⟨ra, rc, rfl, _⟩ := RdI.outI h.r;obtain ⟨sa, sc, rfl, _⟩ := RdI.outI hkr.s;obtain ⟨oa, oc, rfl, _⟩ := hkr.o.out;obtain ⟨NS, hNS⟩ : ∃ N, N = (skL s k).length := ⟨_, rfl⟩;obtain ⟨NO, hNO⟩ : ∃ N, N = (cK (fU k.lo k.hi)).length := ⟨_, rfl⟩;rw [← hNS, ← hNO] at hkr ⊢;rw [fol_neg];refine cN (Sat.nil w M0) Tryz.func132 Z (by simp [Tryz.ntmps132]) ?_;(refine aC (aB ?_));refine bR Z Z (fun b4 => ?_);rw [bL];refine bR Z Z (fun b7 => ?_);(refine aA1 zq (aD (aC (aC (aB (aA1 zq (aB3 xq J (aD (aH Z (aC (aC (aB ?_))))))))))); refine aA1 zq (aD (aM ?_)));refine dG (H' := [.pt b7 [.slice oa NO oc, .slice sa NS sc] 209, .pt b4 (scC s (.slice ta s.tests.length tc) (.slice ra s.rifles.length rc)) 51]) (fun w' hs => hs.sp O) ?_;refine bM (σ := Nat) (fun i => i ≤ s.rifles.length ∧ ∀ j, j < i → eG s k j = false) (fun i => s.rifles.length - i) (fun i => [(4, aC0 b4), (7, aC0 b7), (9, .int .i64 i)]) (fun _ => [.pt b7 [.slice oa NO oc, .slice sa NS sc] 209, .pt b4 (scC s (.slice ta s.tests.length tc) (.slice ra s.rifles.length rc)) 51]) 0 ⟨by omega, fun j hj => by omega⟩ ⟨Z, Z, Z, trivial⟩ O ?_;rintro i ⟨hi2, hno⟩ K hK;(refine aC (aC (aB (aA1 zq (aA1 zq ?_)))); refine aJ U Z Z Z ?_; refine aA1 zq (aA1 zq (aD ?_)));refine dN Z (fun hc => ?_) (fun hc => ?_)
 ·have hi3 : i < s.rifles.length := by omega
  clear hc;(refine aK (aC (aM (aC (aB ?_)))); (iterate 2 refine aP U Z Z Z ?_); refine aA1 zq ?_);refine aI (val := .bool (eG s k i)) U Z Z Z Z (fun w hs => ?_) ?_; exact rropen_ca w lo hi l2 h2 s _ _ _ _ k (h.keep hs.chg0) hs0 (hkr.keep hs.chg0) hk i hi3;cases ho : eG s k i with
  | false =>
   (refine aD (aG Z (aK (bK (aB (aA1 zq (aA4 uq J J (aA1 zq (aD ?_)))))))))
   exact hK (i + 1) _ _ ⟨by omega, fun j hj => (by omega : j < i ∨ j = i).elim (hno j) (fun e => by rw [e]; exact ho)⟩ J ⟨Z, Z, Z, trivial⟩ O
  | true =>
   rw [if_neg (fun e => by have := iC.2 ⟨hi3, ho⟩; rw [e] at this; cases this)];(refine aD (aH Z (aC (aB (aA1 zq (aD (aS ?_)))))));refine aA5 wq O fun w hs => ?_
   exact ⟨Z, hs.chg0⟩
 ·obtain rfl : i = s.rifles.length := by omega
  rw [if_pos (List.eq_nil_iff_forall_not_mem.2 fun j hj => by obtain ⟨g1, g2⟩ := iC.1 hj; rw [hno j g1] at g2; cases g2)];(refine bH _ Z (aC (aB (aA1 zq (aD (aS ?_))))));refine aA5 wq O fun w hs => ?_
  exact ⟨Z, hs.chg0⟩
def iS : OT := .alt (bE [0, 1, 2, 3, 4, 5, 6, 7, 8, 9, 10, 12, 13, 11, 14] (.nil)) (bE [12, 0, 1, 2, 3, 4, 5, 6, 7, 8, 9, 10, 13, 11, 14] (.nil))
theorem nC (lo hi : Nat) (s : Sc) (tv rv : Value) (plan : List Nd) (vp : Value) (hs0 : s.Ok) (hp : RpOk s plan) (hpl : plan.length ≤ 300) : ∀ (g : Nat), g ≤ 1000 → ∀ (n : Int) (k : Kn) (w : World) (l2 h2 : Nat) (ov sv : Value), (n = -1 ∨ 0 ≤ n ∧ n < plan.length ∧ plan.length ≤ g + n.toNat) → k.Fit → ScR w lo hi tv rv s → RdN w lo hi vp plan → KnR w l2 h2 ov sv s k →
  Ca Tryz.prog 132 [.agg (scC s tv rv).toArray, vp, .int .i64 n, .agg #[ov, sv]] w fun x w' => x = .int .i64 (jL s plan g n k) ∧ Chg [] w w' := by
 have h8 := hs0.rn8;have hn1 := hs0.rn1;intro g
 induction g with
 | zero =>
  intro hg n k w l2 h2 ov sv hn hk h hr hkr;obtain rfl : n = -1 := by omega
  exact rfollow_end w lo hi l2 h2 s tv rv ov sv vp plan k 0 h hs0 hk hkr
 | succ g ih =>
  intro hg n k w l2 h2 ov sv hn hk h hr hkr;by_cases hneg : n = -1
  ·subst hneg;exact rfollow_end w lo hi l2 h2 s tv rv ov sv vp plan k (g + 1) h hs0 hk hkr
  ·obtain ⟨m, rfl⟩ := Int.eq_ofNat_of_zero_le (show 0 ≤ n by omega);have hm2 : m < plan.length := by omega
   have hnd := ndV_get hm2;obtain ⟨⟨r0, r1⟩, p0, f0⟩ := hp m hm2;obtain ⟨i, hri⟩ := Int.eq_ofNat_of_zero_le r0;have hil : i < s.rifles.length := by omega
   obtain ⟨NN, hNN⟩ : ∃ N : Nat, N = 2001 := ⟨_, rfl⟩;obtain ⟨pa, pc, rfl, hpa⟩ := RdN.outI hr;obtain ⟨pa, po, rfl⟩ := hpa J;obtain ⟨ta, tc, rfl, _⟩ := RdS.outI h.t;obtain ⟨ra, rc, rfl, _⟩ := RdI.outI h.r;obtain ⟨sa, sc, rfl, _⟩ := RdI.outI hkr.s;obtain ⟨oa, oc, rfl, _⟩ := hkr.o.out;obtain ⟨NS, hNS⟩ : ∃ N, N = (skL s k).length := ⟨_, rfl⟩;obtain ⟨NO, hNO⟩ : ∃ N, N = (cK (fU k.lo k.hi)).length := ⟨_, rfl⟩;rw [← hNS, ← hNO] at hkr ⊢;refine cN (Sat.nil w M0) Tryz.func132 Z (by simp [Tryz.ntmps132]) ?_;(refine aC (aB ?_));refine bR Z Z (fun b4 => ?_);rw [bL];refine bR Z Z (fun b7 => ?_);(refine aA1 zq (aD (aC (aC (aB (aA1 zq (aB4 xq J (aD (aG Z (aK (aC (aB ?_))))))))))); refine aA1 zq (aD (aC (aC (aB (aA1 zq (aD (aM ?_))))))));refine dG (H' := [.pt b7 [.slice oa NO oc, .slice sa NS sc] 209, .pt b4 (scC s (.slice ta s.tests.length tc) (.slice ra s.rifles.length rc)) 51]) (fun w' hs => hs.sp O) ?_;refine bM (σ := Nat) (fun j => j ≤ 2 ∧ ∀ j', j' < j → ¬ ((cJ s k i j').2 = true ∧ fJ s plan g (ndV plan m) k i j' < 0)) (fun j => 2 - j) (fun j => [(1, .slice (some ⟨pa, po, none⟩) plan.length pc), (2, .int .i64 (m : Nat)), (4, aC0 b4), (7, aC0 b7), (10, .int .i64 (pN s plan g (ndV plan m) k i j)), (11, .int .i64 ((j + 1 : Nat)))]) (fun _ => [.pt b7 [.slice oa NO oc, .slice sa NS sc] 209, .pt b4 (scC s (.slice ta s.tests.length tc) (.slice ra s.rifles.length rc)) 51]) 0 ⟨by omega, fun j hj => by omega⟩ ⟨Z, Z, Z, Z, Z, Z, trivial⟩ O ?_;rintro j ⟨hj2, hno⟩ K2 hK2;have hob := out_bd s plan g (ndV plan m) k i j;by_cases hj0 : j = 0
   ·subst hj0;cases hf : k.free i with
    | true =>
     (refine aC (aC (aB (aA1 zq (aB3 xq J (aD (aH Z (aK (aC (aM (aC (aB ?_))))))))))); refine aA1 zq (aA1 zq ?_))
     refine aA7 Wa J J ?_;(refine aA1 zq ?_);refine bI (v := .int .i64 (ndV plan m).p) U Z Z Z (fun w hs => by rw [hnd]; exact RdN.at1 (RdE.keep hr hs.chg0) m hm2) ?_;(refine aA1 zq (aD (aC (aC (aB (aA1 zq (cZ U Z Z Z J (aD (aG Z (aK (aC ?_)))))))))));refine fT (σ := (Option Addr × Nat) × (Option Addr × Nat) × Nat) (fun ⟨⟨u1, v1⟩, ⟨u2, v2⟩, b13⟩ => [(1, .slice (some ⟨pa, po, none⟩) plan.length pc), (2, .int .i64 (m : Nat)), (4, aC0 b4), (7, aC0 b7), (10, .int .i64 (pN s plan g (ndV plan m) k i 0)), (11, .int .i64 ((0 + 1 : Nat))), (12, .int .i64 (nxJ (ndV plan m) 0)), (13, aC0 b13), (14, .bool (decide ((kB s k i true).lo ≤ (kB s k i true).hi)))]) (fun ⟨⟨u1, v1⟩, ⟨u2, v2⟩, b13⟩ => [.ow (.slice u1 NN v1) 4 1 NN (cK (fU (kB s k i true).lo (kB s k i true).hi)), .ow (.slice u2 s.rifles.length v2) 3 1 s.rifles.length (aX (skL s (kB s k i true))), .pt b13 [.slice u1 NN v1, .slice u2 s.rifles.length v2] 209, .pt b7 [.slice oa NO oc, .slice sa NS sc] 209, .pt b4 (scC s (.slice ta s.tests.length tc) (.slice ra s.rifles.length rc)) 51]) ?_ ?_;rotate_left
     ·intro K3 hK3;refine eQ (iS) _ [] (Sp.refl _) qB qB ?_;refine cA ?_ ?_
      ·refine bA qA fun K1 hK1 => ?_
       ((iterate 2 refine aV U Z Z Z ?_); refine aA2 xq (aA2 xq ?_))
       refine aA3 Wa J J ?_;(refine aA2 xq ?_);refine aR (v := .int .i64 (ndV plan m).r) U Z Z Z (fun w hs => by rw [hnd]; exact RdN.at0 (RdE.keep hr hs.chg0) m hm2) ?_;(refine aA2 xq ?_);rw [hri];refine bX (β := Value × Value) (ψ := fun y v => v = .tuple #[.agg #[y.1, y.2], .bool (decide ((kB s k i true).lo ≤ (kB s k i true).hi))]) (L' := fun y => [.ow y.1 4 1 NN (cK (fU (kB s k i true).lo (kB s k i true).hi)), .ow y.2 3 1 s.rifles.length (aX (skL s (kB s k i true)))]) U [] _ M0 Z Z Z Z (Sp.refl _) qC (fun w' hs => by rw [hNN]; exact gW w' lo hi l2 h2 s _ _ _ _ k (h.keep hs.chg0) hs0 (hkr.keep hs.chg0) hk i hil hf true) ?_;rintro ⟨y1, y2⟩ _ rfl;dsimp only [List.cons_append, List.nil_append];refine bO (fun w hs => hs.slice2 (v := y1) O) ?_;rintro ⟨u1, v1, rfl⟩;refine bO (fun w hs => hs.slice2 (v := y2) O) ?_;rintro ⟨u2, v2, rfl⟩;(refine aA2 xq (aB8 xq ?_));refine bG eR Z (fun b13 => ?_);(refine aB7 Wa O Z ?_; refine aB8 xq (aA2 xq (aN ?_)));exact hK1 _ _ (dD (hK3 ((u1, v1), (u2, v2), b13) _ _ ⟨Z, Z, Z, Z, Z, Z, Z, Z, Z, trivial⟩ O))
      ·refine bA qA fun K1 hK1 => ?_;refine bG eR Z (fun b13 => ?_)
       ((iterate 2 refine aV U Z Z Z ?_); refine aA2 xq (aA2 xq ?_))
       refine aA3 Wa J J ?_;(refine aA2 xq ?_);refine aR (v := .int .i64 (ndV plan m).r) U Z Z Z (fun w hs => by rw [hnd]; exact RdN.at0 (RdE.keep hr hs.chg0) m hm2) ?_;(refine aA2 xq ?_);rw [hri];refine bX (β := Value × Value) (ψ := fun y v => v = .tuple #[.agg #[y.1, y.2], .bool (decide ((kB s k i true).lo ≤ (kB s k i true).hi))]) (L' := fun y => [.ow y.1 4 1 NN (cK (fU (kB s k i true).lo (kB s k i true).hi)), .ow y.2 3 1 s.rifles.length (aX (skL s (kB s k i true)))]) U [] _ M0 Z Z Z Z (Sp.refl _) qC (fun w' hs => by rw [hNN]; exact gW w' lo hi l2 h2 s _ _ _ _ k (h.keep hs.chg0) hs0 (hkr.keep hs.chg0) hk i hil hf true) ?_;rintro ⟨y1, y2⟩ _ rfl;dsimp only [List.cons_append, List.nil_append];refine bO (fun w hs => hs.slice2 (v := y1) O) ?_;rintro ⟨u1, v1, rfl⟩;refine bO (fun w hs => hs.slice2 (v := y2) O) ?_;rintro ⟨u2, v2, rfl⟩;(refine aA2 xq (aB8 xq ?_); refine aB7 Wa O Z ?_; refine aB8 xq (aA2 xq (aN ?_)));exact hK1 _ _ (dD (hK3 ((u1, v1), (u2, v2), b13) _ _ ⟨Z, Z, Z, Z, Z, Z, Z, Z, Z, trivial⟩ O))
     rintro ⟨⟨u1, v1⟩, ⟨u2, v2⟩, b13⟩;dsimp only;have ea : cJ s k i 0 = ((kB s k i true), decide ((kB s k i true).lo ≤ (kB s k i true).hi)) := aft_free hf true;cases hfl : decide ((kB s k i true).lo ≤ (kB s k i true).hi) with
     | false =>
      rw [hfl] at ea;(refine aC (aC (aB (aA1 zq (aA1 zq (aD (aH Z (bH _ Z (aB (aA1 zq (aA4 uq J J (aA1 zq ?_))))))))))); refine aD ?_);exact hK2 (0 + 1) _ _ ⟨by omega, fun j' hj' => (by omega : j' < 0 ∨ j' = 0).elim (hno j') (fun e => by subst e; rw [ea]; simp)⟩ J ⟨rfl, rfl, rfl, rfl, by rw [out_no (j := 0) (by rw [ea])]; rfl, rfl, trivial⟩ O
     | true =>
      rw [hfl] at ea;have hfit : (kB s k i true).Fit := (by have := pX (s := s) (i := i) (b := true) hk (by rw [show cQ s k i true = cJ s k i 0 from rfl, ea]); rw [show cQ s k i true = cJ s k i 0 from rfl, ea] at this; exact this);have hfj : fJ s plan g (ndV plan m) k i 0 = jL s plan g (nxJ (ndV plan m) 0) (kB s k i true) := by unfold fJ; rw [ea]
      have hnx : nxJ (ndV plan m) 0 = -1 ∨ 0 ≤ nxJ (ndV plan m) 0 ∧ nxJ (ndV plan m) 0 < plan.length ∧ plan.length ≤ g + (nxJ (ndV plan m) 0).toNat := by
       rw [show nxJ (ndV plan m) 0 = (ndV plan m).p from rfl];omega
      have hfb := nT s plan g (nxJ (ndV plan m) 0) (kB s k i true);(refine aC (aC (aB (aA1 zq (aA1 zq (aD (aG Z (aK (aC (aB ?_))))))))); refine aP U Z Z Z ?_; refine aA1 zq (aA1 zq ?_); refine aP U Z Z Z ?_);refine aI (val := .int .i64 (jL s plan g (nxJ (ndV plan m) 0) (kB s k i true))) U Z Z Z Z (fun w hs => ?_) ?_; exact ih J (nxJ (ndV plan m) 0) (kB s k i true) w 0 w.heap.size (.slice u1 NN v1) (.slice u2 s.rifles.length v2) hnx hfit (h.keep hs.chg0) (RdE.keep hr hs.chg0) ⟨own_rdB (hs.mem (c := .ow (.slice u1 NN v1) 4 1 NN (cK (fU (kB s k i true).lo (kB s k i true).hi))) O) (by rw [cM, hNN]), hs.rdI (v := .slice u2 s.rifles.length v2) (t := 3) (n := s.rifles.length) O (fA _ _).symm⟩;rw [← hfj] at hfb ⊢;by_cases hneg : fJ s plan g (ndV plan m) k i 0 < 0
      ·rw [nB hri (show 0 < 2 by omega) (by rw [ea]) hneg];(refine aA1 zq (aD (aC (aC (aB (aA1 zq (aB3 xq J (aD (aH Z (aC (aB (aA1 zq ?_))))))))))); refine aD (aS ?_));refine aA5 wq O fun w hs => ?_
       exact ⟨Z, hs.chg0⟩
      ·(refine aA1 zq (aD (aC (aC (aB (aA1 zq (aB4 xq J (aD (aG Z (aK (aB (aA1 zq ?_))))))))))); refine aA1 zq (aA4 uq J J (aA1 zq (aA1 zq (aD (bK (aB (aA1 zq (aA4 uq J J (aA1 zq (aD ?_)))))))))))
       exact hK2 (0 + 1) _ _ ⟨by omega, fun j' hj' => (by omega : j' < 0 ∨ j' = 0).elim (hno j') (fun e => by subst e; exact fun h => hneg h.2)⟩ J ⟨rfl, rfl, rfl, rfl, by rw [out_yes (j := 0) (by rw [ea])]; rfl, rfl, trivial⟩ O
    | false =>
     (refine aC (aC (aB (aA1 zq (aB3 xq J (aD (aH Z (aK (aC (aM (aC (aB ?_))))))))))); refine aA1 zq (aA1 zq ?_))
     refine aA7 Wa J J ?_;(refine aA1 zq ?_);refine bI (v := .int .i64 (ndV plan m).p) U Z Z Z (fun w hs => by rw [hnd]; exact RdN.at1 (RdE.keep hr hs.chg0) m hm2) ?_;(refine aA1 zq (aD (aC (aC (aB (aA1 zq (cZ U Z Z Z J (aD (aG Z (aK (aC ?_)))))))))));refine fT (σ := Nat) (fun b13 => [(1, .slice (some ⟨pa, po, none⟩) plan.length pc), (2, .int .i64 (m : Nat)), (4, aC0 b4), (7, aC0 b7), (10, .int .i64 (pN s plan g (ndV plan m) k i 0)), (11, .int .i64 ((0 + 1 : Nat))), (12, .int .i64 (nxJ (ndV plan m) 0)), (13, aC0 b13), (14, .bool (k.p.getD i false == true))]) (fun b13 => [.pt b13 [.slice oa NO oc, .slice sa NS sc] 209, .pt b7 [.slice oa NO oc, .slice sa NS sc] 209, .pt b4 (scC s (.slice ta s.tests.length tc) (.slice ra s.rifles.length rc)) 51]) ?_ ?_;rotate_left
     ·intro K3 hK3;refine eQ (iS) _ [] (Sp.refl _) qB qB ?_;refine cA ?_ ?_
      ·refine bA qA fun K1 hK1 => ?_
       ((iterate 2 refine aV U Z Z Z ?_); refine aA2 xq (aA2 xq ?_))
       refine aA3 Wa J J ?_;(refine aA2 xq ?_);refine aR (v := .int .i64 (ndV plan m).r) U Z Z Z (fun w hs => by rw [hnd]; exact RdN.at0 (RdE.keep hr hs.chg0) m hm2) ?_;(refine aA2 xq ?_);rw [hri];refine bN (val := .tuple #[.agg #[.slice oa NO oc, .slice sa NS sc], .bool (k.p.getD i false == true)]) U Z Z Z Z (fun w hs => nE w lo hi l2 h2 s _ _ _ _ k (h.keep hs.chg0) (hkr.keep hs.chg0) i hil hf true) ?_;(refine aA2 xq (aB8 xq ?_));refine bG eR Z (fun b13 => ?_);(refine aB7 Wa O Z ?_; refine aB8 xq (aA2 xq (aN ?_)));exact hK1 _ _ (dD (hK3 b13 _ _ ⟨Z, Z, Z, Z, Z, Z, Z, Z, Z, trivial⟩ O))
      ·refine bA qA fun K1 hK1 => ?_;refine bG eR Z (fun b13 => ?_)
       ((iterate 2 refine aV U Z Z Z ?_); refine aA2 xq (aA2 xq ?_))
       refine aA3 Wa J J ?_;(refine aA2 xq ?_);refine aR (v := .int .i64 (ndV plan m).r) U Z Z Z (fun w hs => by rw [hnd]; exact RdN.at0 (RdE.keep hr hs.chg0) m hm2) ?_;(refine aA2 xq ?_);rw [hri];refine bN (val := .tuple #[.agg #[.slice oa NO oc, .slice sa NS sc], .bool (k.p.getD i false == true)]) U Z Z Z Z (fun w hs => nE w lo hi l2 h2 s _ _ _ _ k (h.keep hs.chg0) (hkr.keep hs.chg0) i hil hf true) ?_;(refine aA2 xq (aB8 xq ?_); refine aB7 Wa O Z ?_; refine aB8 xq (aA2 xq (aN ?_)));exact hK1 _ _ (dD (hK3 b13 _ _ ⟨Z, Z, Z, Z, Z, Z, Z, Z, Z, trivial⟩ O))
     rintro b13;have ea : cJ s k i 0 = (k, k.p.getD i false == true) := aft_old hf true;cases hfl : (k.p.getD i false == true) with
     | false =>
      rw [hfl] at ea;(refine aC (aC (aB (aA1 zq (aA1 zq (aD (aH Z (bH _ Z (aB (aA1 zq (aA4 uq J J (aA1 zq ?_))))))))))); refine aD ?_);exact hK2 (0 + 1) _ _ ⟨by omega, fun j' hj' => (by omega : j' < 0 ∨ j' = 0).elim (hno j') (fun e => by subst e; rw [ea]; simp)⟩ J ⟨rfl, rfl, rfl, rfl, by rw [out_no (j := 0) (by rw [ea])]; rfl, rfl, trivial⟩ O
     | true =>
      rw [hfl] at ea;have hfit : k.Fit := hk;have hfj : fJ s plan g (ndV plan m) k i 0 = jL s plan g (nxJ (ndV plan m) 0) k := by unfold fJ; rw [ea]
      have hnx : nxJ (ndV plan m) 0 = -1 ∨ 0 ≤ nxJ (ndV plan m) 0 ∧ nxJ (ndV plan m) 0 < plan.length ∧ plan.length ≤ g + (nxJ (ndV plan m) 0).toNat := by
       rw [show nxJ (ndV plan m) 0 = (ndV plan m).p from rfl];omega
      have hfb := nT s plan g (nxJ (ndV plan m) 0) k;(refine aC (aC (aB (aA1 zq (aA1 zq (aD (aG Z (aK (aC (aB ?_))))))))); refine aP U Z Z Z ?_; refine aA1 zq (aA1 zq ?_); refine aP U Z Z Z ?_);refine aI (val := .int .i64 (jL s plan g (nxJ (ndV plan m) 0) k)) U Z Z Z Z (fun w hs => ?_) ?_; exact ih J (nxJ (ndV plan m) 0) k w l2 h2 (.slice oa NO oc) (.slice sa NS sc) hnx hfit (h.keep hs.chg0) (RdE.keep hr hs.chg0) (hkr.keep hs.chg0);rw [← hfj] at hfb ⊢;by_cases hneg : fJ s plan g (ndV plan m) k i 0 < 0
      ·rw [nB hri (show 0 < 2 by omega) (by rw [ea]) hneg];(refine aA1 zq (aD (aC (aC (aB (aA1 zq (aB3 xq J (aD (aH Z (aC (aB (aA1 zq ?_))))))))))); refine aD (aS ?_));refine aA5 wq O fun w hs => ?_
       exact ⟨Z, hs.chg0⟩
      ·(refine aA1 zq (aD (aC (aC (aB (aA1 zq (aB4 xq J (aD (aG Z (aK (aB (aA1 zq ?_))))))))))); refine aA1 zq (aA4 uq J J (aA1 zq (aA1 zq (aD (bK (aB (aA1 zq (aA4 uq J J (aA1 zq (aD ?_)))))))))))
       exact hK2 (0 + 1) _ _ ⟨by omega, fun j' hj' => (by omega : j' < 0 ∨ j' = 0).elim (hno j') (fun e => by subst e; exact fun h => hneg h.2)⟩ J ⟨rfl, rfl, rfl, rfl, by rw [out_yes (j := 0) (by rw [ea])]; rfl, rfl, trivial⟩ O
   ·by_cases hj1 : j = 1
    ·subst hj1;cases hf : k.free i with
     | true =>
      (refine aC (aC (aB (aA1 zq (aB3 xq J (aD (aH Z (aK (aC (aM (aC (aB ?_))))))))))); refine aA1 zq (aA1 zq ?_))
      refine aA7 Wa J J ?_;(refine aA1 zq ?_);refine bI (v := .int .i64 (ndV plan m).p) U Z Z Z (fun w hs => by rw [hnd]; exact RdN.at1 (RdE.keep hr hs.chg0) m hm2) ?_;(refine aA1 zq (aD (aC (aC (aB (aA1 zq (aB2 xq J (aD (aH Z (aB (aA1 zq (aA1 zq ?_))))))))))));refine aA7 Wa J J ?_;(refine aA1 zq ?_);refine bI (v := .int .i64 (ndV plan m).f) U Z Z Z (fun w hs => by rw [hnd]; exact RdN.at2 (RdE.keep hr hs.chg0) m hm2) ?_;(refine aA1 zq (aD (aC ?_)));refine fT (σ := (Option Addr × Nat) × (Option Addr × Nat) × Nat) (fun ⟨⟨u1, v1⟩, ⟨u2, v2⟩, b13⟩ => [(1, .slice (some ⟨pa, po, none⟩) plan.length pc), (2, .int .i64 (m : Nat)), (4, aC0 b4), (7, aC0 b7), (10, .int .i64 (pN s plan g (ndV plan m) k i 1)), (11, .int .i64 ((1 + 1 : Nat))), (12, .int .i64 (nxJ (ndV plan m) 1)), (13, aC0 b13), (14, .bool (decide ((kB s k i false).lo ≤ (kB s k i false).hi)))]) (fun ⟨⟨u1, v1⟩, ⟨u2, v2⟩, b13⟩ => [.ow (.slice u1 NN v1) 4 1 NN (cK (fU (kB s k i false).lo (kB s k i false).hi)), .ow (.slice u2 s.rifles.length v2) 3 1 s.rifles.length (aX (skL s (kB s k i false))), .pt b13 [.slice u1 NN v1, .slice u2 s.rifles.length v2] 209, .pt b7 [.slice oa NO oc, .slice sa NS sc] 209, .pt b4 (scC s (.slice ta s.tests.length tc) (.slice ra s.rifles.length rc)) 51]) ?_ ?_;rotate_left
      ·intro K3 hK3;refine eQ (iS) _ [] (Sp.refl _) qB qB ?_;refine cA ?_ ?_
       ·refine bA qA fun K1 hK1 => ?_
        ((iterate 2 refine aV U Z Z Z ?_); refine aA2 xq (aA2 xq ?_))
        refine aA3 Wa J J ?_;(refine aA2 xq ?_);refine aR (v := .int .i64 (ndV plan m).r) U Z Z Z (fun w hs => by rw [hnd]; exact RdN.at0 (RdE.keep hr hs.chg0) m hm2) ?_;(refine aA2 xq ?_);rw [hri];refine bX (β := Value × Value) (ψ := fun y v => v = .tuple #[.agg #[y.1, y.2], .bool (decide ((kB s k i false).lo ≤ (kB s k i false).hi))]) (L' := fun y => [.ow y.1 4 1 NN (cK (fU (kB s k i false).lo (kB s k i false).hi)), .ow y.2 3 1 s.rifles.length (aX (skL s (kB s k i false)))]) U [] _ M0 Z Z Z Z (Sp.refl _) qC (fun w' hs => by rw [hNN]; exact gW w' lo hi l2 h2 s _ _ _ _ k (h.keep hs.chg0) hs0 (hkr.keep hs.chg0) hk i hil hf false) ?_;rintro ⟨y1, y2⟩ _ rfl;dsimp only [List.cons_append, List.nil_append];refine bO (fun w hs => hs.slice2 (v := y1) O) ?_;rintro ⟨u1, v1, rfl⟩;refine bO (fun w hs => hs.slice2 (v := y2) O) ?_;rintro ⟨u2, v2, rfl⟩;(refine aA2 xq (aB8 xq ?_));refine bG eR Z (fun b13 => ?_);(refine aB7 Wa O Z ?_; refine aB8 xq (aA2 xq (aN ?_)));exact hK1 _ _ (dD (hK3 ((u1, v1), (u2, v2), b13) _ _ ⟨Z, Z, Z, Z, Z, Z, Z, Z, Z, trivial⟩ O))
       ·refine bA qA fun K1 hK1 => ?_;refine bG eR Z (fun b13 => ?_)
        ((iterate 2 refine aV U Z Z Z ?_); refine aA2 xq (aA2 xq ?_))
        refine aA3 Wa J J ?_;(refine aA2 xq ?_);refine aR (v := .int .i64 (ndV plan m).r) U Z Z Z (fun w hs => by rw [hnd]; exact RdN.at0 (RdE.keep hr hs.chg0) m hm2) ?_;(refine aA2 xq ?_);rw [hri];refine bX (β := Value × Value) (ψ := fun y v => v = .tuple #[.agg #[y.1, y.2], .bool (decide ((kB s k i false).lo ≤ (kB s k i false).hi))]) (L' := fun y => [.ow y.1 4 1 NN (cK (fU (kB s k i false).lo (kB s k i false).hi)), .ow y.2 3 1 s.rifles.length (aX (skL s (kB s k i false)))]) U [] _ M0 Z Z Z Z (Sp.refl _) qC (fun w' hs => by rw [hNN]; exact gW w' lo hi l2 h2 s _ _ _ _ k (h.keep hs.chg0) hs0 (hkr.keep hs.chg0) hk i hil hf false) ?_;rintro ⟨y1, y2⟩ _ rfl;dsimp only [List.cons_append, List.nil_append];refine bO (fun w hs => hs.slice2 (v := y1) O) ?_;rintro ⟨u1, v1, rfl⟩;refine bO (fun w hs => hs.slice2 (v := y2) O) ?_;rintro ⟨u2, v2, rfl⟩;(refine aA2 xq (aB8 xq ?_); refine aB7 Wa O Z ?_; refine aB8 xq (aA2 xq (aN ?_)));exact hK1 _ _ (dD (hK3 ((u1, v1), (u2, v2), b13) _ _ ⟨Z, Z, Z, Z, Z, Z, Z, Z, Z, trivial⟩ O))
      rintro ⟨⟨u1, v1⟩, ⟨u2, v2⟩, b13⟩;dsimp only;have ea : cJ s k i 1 = ((kB s k i false), decide ((kB s k i false).lo ≤ (kB s k i false).hi)) := aft_free hf false;cases hfl : decide ((kB s k i false).lo ≤ (kB s k i false).hi) with
      | false =>
       rw [hfl] at ea;(refine aC (aC (aB (aA1 zq (aA1 zq (aD (aH Z (bH _ Z (aB (aA1 zq (aA4 uq J J (aA1 zq ?_))))))))))); refine aD ?_);exact hK2 (1 + 1) _ _ ⟨by omega, fun j' hj' => (by omega : j' < 1 ∨ j' = 1).elim (hno j') (fun e => by subst e; rw [ea]; simp)⟩ J ⟨rfl, rfl, rfl, rfl, by rw [out_no (j := 1) (by rw [ea])]; rfl, rfl, trivial⟩ O
      | true =>
       rw [hfl] at ea;have hfit : (kB s k i false).Fit := (by have := pX (s := s) (i := i) (b := false) hk (by rw [show cQ s k i false = cJ s k i 1 from rfl, ea]); rw [show cQ s k i false = cJ s k i 1 from rfl, ea] at this; exact this);have hfj : fJ s plan g (ndV plan m) k i 1 = jL s plan g (nxJ (ndV plan m) 1) (kB s k i false) := by unfold fJ; rw [ea]
       have hnx : nxJ (ndV plan m) 1 = -1 ∨ 0 ≤ nxJ (ndV plan m) 1 ∧ nxJ (ndV plan m) 1 < plan.length ∧ plan.length ≤ g + (nxJ (ndV plan m) 1).toNat := by
        rw [show nxJ (ndV plan m) 1 = (ndV plan m).f from rfl];omega
       have hfb := nT s plan g (nxJ (ndV plan m) 1) (kB s k i false);(refine aC (aC (aB (aA1 zq (aA1 zq (aD (aG Z (aK (aC (aB ?_))))))))); refine aP U Z Z Z ?_; refine aA1 zq (aA1 zq ?_); refine aP U Z Z Z ?_);refine aI (val := .int .i64 (jL s plan g (nxJ (ndV plan m) 1) (kB s k i false))) U Z Z Z Z (fun w hs => ?_) ?_; exact ih J (nxJ (ndV plan m) 1) (kB s k i false) w 0 w.heap.size (.slice u1 NN v1) (.slice u2 s.rifles.length v2) hnx hfit (h.keep hs.chg0) (RdE.keep hr hs.chg0) ⟨own_rdB (hs.mem (c := .ow (.slice u1 NN v1) 4 1 NN (cK (fU (kB s k i false).lo (kB s k i false).hi))) O) (by rw [cM, hNN]), hs.rdI (v := .slice u2 s.rifles.length v2) (t := 3) (n := s.rifles.length) O (fA _ _).symm⟩;rw [← hfj] at hfb ⊢;by_cases hneg : fJ s plan g (ndV plan m) k i 1 < 0
       ·rw [nB hri (show 1 < 2 by omega) (by rw [ea]) hneg];(refine aA1 zq (aD (aC (aC (aB (aA1 zq (aB3 xq J (aD (aH Z (aC (aB (aA1 zq ?_))))))))))); refine aD (aS ?_));refine aA5 wq O fun w hs => ?_
        exact ⟨Z, hs.chg0⟩
       ·(refine aA1 zq (aD (aC (aC (aB (aA1 zq (aB4 xq J (aD (aG Z (aK (aB (aA1 zq ?_))))))))))); refine aA1 zq (aA4 uq J J (aA1 zq (aA1 zq (aD (bK (aB (aA1 zq (aA4 uq J J (aA1 zq (aD ?_)))))))))))
        exact hK2 (1 + 1) _ _ ⟨by omega, fun j' hj' => (by omega : j' < 1 ∨ j' = 1).elim (hno j') (fun e => by subst e; exact fun h => hneg h.2)⟩ J ⟨rfl, rfl, rfl, rfl, by rw [out_yes (j := 1) (by rw [ea])]; rfl, rfl, trivial⟩ O
     | false =>
      (refine aC (aC (aB (aA1 zq (aB3 xq J (aD (aH Z (aK (aC (aM (aC (aB ?_))))))))))); refine aA1 zq (aA1 zq ?_))
      refine aA7 Wa J J ?_;(refine aA1 zq ?_);refine bI (v := .int .i64 (ndV plan m).p) U Z Z Z (fun w hs => by rw [hnd]; exact RdN.at1 (RdE.keep hr hs.chg0) m hm2) ?_;(refine aA1 zq (aD (aC (aC (aB (aA1 zq (aB2 xq J (aD (aH Z (aB (aA1 zq (aA1 zq ?_))))))))))));refine aA7 Wa J J ?_;(refine aA1 zq ?_);refine bI (v := .int .i64 (ndV plan m).f) U Z Z Z (fun w hs => by rw [hnd]; exact RdN.at2 (RdE.keep hr hs.chg0) m hm2) ?_;(refine aA1 zq (aD (aC ?_)));refine fT (σ := Nat) (fun b13 => [(1, .slice (some ⟨pa, po, none⟩) plan.length pc), (2, .int .i64 (m : Nat)), (4, aC0 b4), (7, aC0 b7), (10, .int .i64 (pN s plan g (ndV plan m) k i 1)), (11, .int .i64 ((1 + 1 : Nat))), (12, .int .i64 (nxJ (ndV plan m) 1)), (13, aC0 b13), (14, .bool (k.p.getD i false == false))]) (fun b13 => [.pt b13 [.slice oa NO oc, .slice sa NS sc] 209, .pt b7 [.slice oa NO oc, .slice sa NS sc] 209, .pt b4 (scC s (.slice ta s.tests.length tc) (.slice ra s.rifles.length rc)) 51]) ?_ ?_;rotate_left
      ·intro K3 hK3;refine eQ (iS) _ [] (Sp.refl _) qB qB ?_;refine cA ?_ ?_
       ·refine bA qA fun K1 hK1 => ?_
        ((iterate 2 refine aV U Z Z Z ?_); refine aA2 xq (aA2 xq ?_))
        refine aA3 Wa J J ?_;(refine aA2 xq ?_);refine aR (v := .int .i64 (ndV plan m).r) U Z Z Z (fun w hs => by rw [hnd]; exact RdN.at0 (RdE.keep hr hs.chg0) m hm2) ?_;(refine aA2 xq ?_);rw [hri];refine bN (val := .tuple #[.agg #[.slice oa NO oc, .slice sa NS sc], .bool (k.p.getD i false == false)]) U Z Z Z Z (fun w hs => nE w lo hi l2 h2 s _ _ _ _ k (h.keep hs.chg0) (hkr.keep hs.chg0) i hil hf false) ?_;(refine aA2 xq (aB8 xq ?_));refine bG eR Z (fun b13 => ?_);(refine aB7 Wa O Z ?_; refine aB8 xq (aA2 xq (aN ?_)));exact hK1 _ _ (dD (hK3 b13 _ _ ⟨Z, Z, Z, Z, Z, Z, Z, Z, Z, trivial⟩ O))
       ·refine bA qA fun K1 hK1 => ?_;refine bG eR Z (fun b13 => ?_)
        ((iterate 2 refine aV U Z Z Z ?_); refine aA2 xq (aA2 xq ?_))
        refine aA3 Wa J J ?_;(refine aA2 xq ?_);refine aR (v := .int .i64 (ndV plan m).r) U Z Z Z (fun w hs => by rw [hnd]; exact RdN.at0 (RdE.keep hr hs.chg0) m hm2) ?_;(refine aA2 xq ?_);rw [hri];refine bN (val := .tuple #[.agg #[.slice oa NO oc, .slice sa NS sc], .bool (k.p.getD i false == false)]) U Z Z Z Z (fun w hs => nE w lo hi l2 h2 s _ _ _ _ k (h.keep hs.chg0) (hkr.keep hs.chg0) i hil hf false) ?_;(refine aA2 xq (aB8 xq ?_); refine aB7 Wa O Z ?_; refine aB8 xq (aA2 xq (aN ?_)));exact hK1 _ _ (dD (hK3 b13 _ _ ⟨Z, Z, Z, Z, Z, Z, Z, Z, Z, trivial⟩ O))
      rintro b13;have ea : cJ s k i 1 = (k, k.p.getD i false == false) := aft_old hf false;cases hfl : (k.p.getD i false == false) with
      | false =>
       rw [hfl] at ea;(refine aC (aC (aB (aA1 zq (aA1 zq (aD (aH Z (bH _ Z (aB (aA1 zq (aA4 uq J J (aA1 zq ?_))))))))))); refine aD ?_);exact hK2 (1 + 1) _ _ ⟨by omega, fun j' hj' => (by omega : j' < 1 ∨ j' = 1).elim (hno j') (fun e => by subst e; rw [ea]; simp)⟩ J ⟨rfl, rfl, rfl, rfl, by rw [out_no (j := 1) (by rw [ea])]; rfl, rfl, trivial⟩ O
      | true =>
       rw [hfl] at ea;have hfit : k.Fit := hk;have hfj : fJ s plan g (ndV plan m) k i 1 = jL s plan g (nxJ (ndV plan m) 1) k := by unfold fJ; rw [ea]
       have hnx : nxJ (ndV plan m) 1 = -1 ∨ 0 ≤ nxJ (ndV plan m) 1 ∧ nxJ (ndV plan m) 1 < plan.length ∧ plan.length ≤ g + (nxJ (ndV plan m) 1).toNat := by
        rw [show nxJ (ndV plan m) 1 = (ndV plan m).f from rfl];omega
       have hfb := nT s plan g (nxJ (ndV plan m) 1) k;(refine aC (aC (aB (aA1 zq (aA1 zq (aD (aG Z (aK (aC (aB ?_))))))))); refine aP U Z Z Z ?_; refine aA1 zq (aA1 zq ?_); refine aP U Z Z Z ?_);refine aI (val := .int .i64 (jL s plan g (nxJ (ndV plan m) 1) k)) U Z Z Z Z (fun w hs => ?_) ?_; exact ih J (nxJ (ndV plan m) 1) k w l2 h2 (.slice oa NO oc) (.slice sa NS sc) hnx hfit (h.keep hs.chg0) (RdE.keep hr hs.chg0) (hkr.keep hs.chg0);rw [← hfj] at hfb ⊢;by_cases hneg : fJ s plan g (ndV plan m) k i 1 < 0
       ·rw [nB hri (show 1 < 2 by omega) (by rw [ea]) hneg];(refine aA1 zq (aD (aC (aC (aB (aA1 zq (aB3 xq J (aD (aH Z (aC (aB (aA1 zq ?_))))))))))); refine aD (aS ?_));refine aA5 wq O fun w hs => ?_
        exact ⟨Z, hs.chg0⟩
       ·(refine aA1 zq (aD (aC (aC (aB (aA1 zq (aB4 xq J (aD (aG Z (aK (aB (aA1 zq ?_))))))))))); refine aA1 zq (aA4 uq J J (aA1 zq (aA1 zq (aD (bK (aB (aA1 zq (aA4 uq J J (aA1 zq (aD ?_)))))))))))
        exact hK2 (1 + 1) _ _ ⟨by omega, fun j' hj' => (by omega : j' < 1 ∨ j' = 1).elim (hno j') (fun e => by subst e; exact fun h => hneg h.2)⟩ J ⟨rfl, rfl, rfl, rfl, by rw [out_yes (j := 1) (by rw [ea])]; rfl, rfl, trivial⟩ O
    ·obtain rfl : j = 2 := by omega
     rw [fol_out hri (fun j' hj' => hno j' hj')];(refine aC (aC (aB (aA1 zq (aB4 xq J (aD (aG Z (bH _ Z (aC (aB (aA1 zq (aA1 zq ?_))))))))))); refine aD (aS ?_));refine aA5 wq O fun w hs => ?_
     exact ⟨Z, hs.chg0⟩
theorem slNd : SlT Tryz.prog 88 91 3 24 (.agg #[.int .i64 0, .int .i64 0, .int .i64 0]) := ⟨by kernel_rfl, by kernel_rfl, by kernel_rfl, by decide⟩
theorem nodC_app (L M : List Nd) : dK (L ++ M) = dK L ++ dK M := by simp [dK]
theorem nodC_putP (L R : List Nd) (r p f q : Int) : (dK (L ++ ⟨r, p, f⟩ :: R)).set (L.length * 3 + 1) (.int .i64 q) = dK (L ++ ⟨r, q, f⟩ :: R) := by
 rw [nodC_app, nodC_app, List.set_append_right _ _ (by rw [fK]; omega), fK, show L.length * 3 + 1 - L.length * 3 = 1 from by omega]
 rfl
theorem nodC_putF (L R : List Nd) (r p f q : Int) : (dK (L ++ ⟨r, p, f⟩ :: R)).set (L.length * 3 + 2) (.int .i64 q) = dK (L ++ ⟨r, p, q⟩ :: R) := by
 rw [nodC_app, nodC_app, List.set_append_right _ _ (by rw [fK]; omega), fK, show L.length * 3 + 2 - L.length * 3 = 2 from by omega]
 rfl
abbrev plgF (bf bo bD bg : Nat) : Value := .func (.func 130) #[] #[aC0 bf, aC0 bo, aC0 bD, aC0 bg]
abbrev grP (bm bo : Nat) (f : Value → Option Value) (u : Value) (L : List Nd) : List Ck := [mpB bm f, .pt bo [u] 88, .ow u 91 3 L.length (dK L)]
theorem Sat.left {w0 w : World} {M : Nat → Prop} {A B : List Ck} (h : Sat w0 M (A ++ B) w) : Sat w0 M A w := ⟨h.chg, fun c hc => h.all c (List.mem_append_left _ hc), (List.pairwise_append.1 h.sep).1, fun c hc => h.bd c (List.mem_append_left _ hc)⟩
structure PlX (w : World) (lo hi bm b1 b2 b3 bd bf bo bD bg : Nat) (s : Sc) (tv rv : Value) (k0 : Kn) (t1 t2 t3 : TypeId) : Prop where
 sc : ScR w lo hi tv rv s
 pn : PnE w bm b1 b2 b3 bd s tv rv k0
 hf : Blk w bf [bstF b1 b2 b3] t1
 hD : Blk w bD [aC0 bd] t2
 hg : Blk w bg [plgF bf bo bD bg] t3
theorem bst_pair {s : Sc} (h8 : s.rifles.length ≤ 8) {k : Kn} (hk : k.Fit) (h : dE s k ≠ 0) : ∃ i : Nat, NodeAt s k i ∧ mK s k = ((i : Int), dE s k) ∧ (mK s k).1.toNat = i := by
 obtain ⟨i, h1, h2, h3⟩ := dep_at h8 hk fun e => h ((kS h8 hk).2 e)
 obtain ⟨g1, g2⟩ := iC.1 h1;exact ⟨i, ⟨g1, g2, h3⟩, h2, by rw [h2]; rfl⟩
theorem pgrow_ca (lo hi bm b1 b2 b3 bd bf bo bD bg : Nat) (s : Sc) (tv rv : Value) (k0 : Kn) (t1 t2 t3 : TypeId) (hs0 : s.Ok) : ∀ (g : Nat) (k : Kn) (w : World) (f : Value → Option Value) (u : Value) (L : List Nd), cntK s k ≤ g → k.Fit → GoodB s f → L.length + (dZ s g k L.length).length ≤ 1000 →
  Sat w (DL (grP bm bo f u L)) (grP bm bo f u L) w → (∀ w', ChgP (DL (grP bm bo f u L)) w w' → PlX w' lo hi bm b1 b2 b3 bd bf bo bD bg s tv rv k0 t1 t2 t3) →
  Ca Tryz.prog 130 [knV k, aC0 bf, aC0 bo, aC0 bD, aC0 bg] w fun v w' => ∃ y : (Value → Option Value) × Value, (v = .int .i64 (rtN L.length (dZ s g k L.length)) ∧ GoodB s y.1) ∧ Sat w (DL (grP bm bo f u L)) (grP bm bo y.1 y.2 (L ++ dZ s g k L.length)) w' := by
 have h8 := hs0.rn8;intro g
 induction g using Nat.strongRecOn with
 | ind g ih =>
 intro k w f u L hg hk hgd hL hS hX;have hkb := hk.bd;have hbf := fun w' hc => (hX w' hc).hf
 have hbD := fun w' hc => (hX w' hc).hD
 have hbg := fun w' hc => (hX w' hc).hg
 refine q_ofM hS Tryz.func130 Z (by simp [Tryz.ntmps130]) ?_;refine q_fact (fun w hs => hs.slice2 (v := u) O) ?_;rintro ⟨ua, uc, rfl⟩;(refine aC (aB ?_));refine bR Z Z (fun b5 => ?_);rw [bL];(refine aA1 zq (aD (aC (aB ?_))); refine gC U Z Z Z (by assumption) (by rfl) ?_);refine dC (cs := knC k) U Z Z Z (dL hkb) (fun w hs q hq => by rw [(hs.blk (b := b5) O).cell, Nat.zero_add]) ?_;refine ql_callF (β := Value → Option Value) (ψ := fun g v => v = pkV (mK s k) ∧ GoodB s g) (L' := fun g => [mpB bm g]) [mpB bm f] _ (· = bm) Z Z Z (Sp.cons O (Sp.refl _)) (fun x hx => ⟨_, .head _, hx⟩) (fun w' hs => CaF.of U Z (best_ca lo hi bm b1 b2 b3 bd s tv rv k0 hs0 _ k w' f Z hk (hX w' hs.chg).sc (hX w' hs.chg).pn (hs.mem (c := mpB bm f) O) hgd)) ?_;rintro f1 _ ⟨rfl, hgd1⟩;dsimp only [List.cons_append, List.nil_append];refine bF jV Z (fun b7 => ?_);by_cases e : dE s k = 0
 ·have e2 : (mK s k).2 = 0 := e;have e3 : dZ s g k L.length = [] := (grow_nil h8 hk hg).2 e;rw [e3, List.append_nil];(refine aB6 Wa O Z ?_; refine aD (aC (aC (aB (aA1 zq ?_)))); refine aJ U Z Z Z ?_; refine aB2 xq J (aD (aH Z (aC (aB (aA1 zq (aD (aS ?_))))))));refine q_finM U Z O fun w hs => ?_
  exact ⟨(f1, .slice ua L.length uc), ⟨Z, hgd1⟩, hs.sp O⟩
 ·obtain ⟨i, hn, hb, hbi⟩ := bst_pair h8 hk e;have dp := dep_8 h8 hk
  obtain ⟨g, rfl⟩ : ∃ g', g = g' + 1 := by
   cases g with
   | zero => exact absurd ((kS h8 hk).2 (oR J)) e
   | succ g => exact ⟨g, rfl⟩
  have hfr := (eP.1 hn.op).1;have c1 := nM hk h8 hn.lt hfr;have c2 := nG hk h8 hn.lt hfr;have fp := fN hk hn.op;have ff := fI hk hn.op;obtain ⟨A, hA⟩ : ∃ A, dZ s g (cI s k i) (L.length + 1) = A := ⟨_, rfl⟩;obtain ⟨B, hB⟩ : ∃ B, dZ s g (cD s k i) (L.length + 1 + A.length) = B := ⟨_, rfl⟩
  have hG : dZ s (g + 1) k L.length = ⟨i, rtN (L.length + 1) A, rtN (L.length + 1 + A.length) B⟩ :: (A ++ B) := by
   simp only [dZ, if_neg e, hbi, hA, hB, rtN]
  rw [hG] at hL ⊢;rw [List.length_cons, List.length_append] at hL;rw [hb];(refine aB6 Wa O Z ?_; refine aD (aC (aC (aB (aA1 zq ?_)))); refine aJ U Z Z Z ?_; refine cZ U Z Z Z J (aD (aG Z (aK (aC (aB ?_))))); refine aJ U Z Z Z ?_; refine aA1 zq (aA1 zq (aD (aC (aB ?_)))); refine aJ U Z Z Z ?_; refine aA1 zq ?_; refine aJ U Z Z Z ?_);refine fQ #[.int .i64 i, .int .i64 0, .int .i64 0] Z qB Z ?_;refine cT 91 [.int .i64 i, .int .i64 0, .int .i64 0] Z qB Z (fun bn => ?_);refine cW (q := 1) (news := [.int .i64 i, .int .i64 0, .int .i64 0]) slNd Z Z Z (fun v' => by repeat constructor) (fun w' hs => ⟨_, _, Blk.rdN (hs.blk (b := bn) O) Z⟩) (by simp [dJ]) J J (fun u1 => ?_);refine cU (fun w hs => hs.slice2 (v := u1) O) ?_;rintro ⟨a1, m1, rfl⟩;(refine eM U Z Z Z Z O ?_; refine aD (aC (aB ?_)); refine gC U Z Z Z (by assumption) (by rfl) ?_);refine dC (cs := knC k) U Z Z Z (dL hkb) (fun w hs q hq => by rw [(hs.blk (b := b5) O).cell, Nat.zero_add]) ?_;(refine aA1 zq ?_; refine aJ U Z Z Z ?_);refine aI (val := .tuple #[knV (cI s k i), .bool true]) U Z Z Z Z (fun w hs => ?_) ?_; exact by have := jE w lo hi bd s tv rv k0 k (hX w hs.chg).sc (hX w hs.chg).pn.hd hs0 hkb i hn.lt true; rw [(kT hk hn.op).1] at this; exact this
  (refine aA1 zq (aB5 xq (aB5 xq ?_)))
  refine bF lA Z (fun b9 => ?_);refine bW (us := knC (cI s k i)) U Z Z Z (dL fp.bd) (mS _) O Z ?_;(refine aA1 zq (aD (aC (aB ?_))); refine gC U Z Z Z (by assumption) (by rfl) ?_);refine dC (cs := knC k) U Z Z Z (dL hkb) (fun w hs q hq => by rw [(hs.blk (b := b5) O).cell, Nat.zero_add]) ?_;(refine aA1 zq ?_; refine aJ U Z Z Z ?_);refine aI (val := .tuple #[knV (cD s k i), .bool true]) U Z Z Z Z (fun w hs => ?_) ?_; exact by have := jE w lo hi bd s tv rv k0 k (hX w hs.chg).sc (hX w hs.chg).pn.hd hs0 hkb i hn.lt false; rw [(kT hk hn.op).2] at this; exact this
  (refine aA1 zq (aB5 xq (aB5 xq ?_)))
  refine bF lA Z (fun b11 => ?_);refine bW (us := knC (cD s k i)) U Z Z Z (dL ff.bd) (mS _) O Z ?_;(refine aA1 zq (aD (aC (aB ?_))); refine gC U Z Z Z (by assumption) (by rfl) ?_);rw [← nodC_snoc L ⟨i, 0, 0⟩];have e1 : (L ++ [(⟨i, 0, 0⟩ : Nd)]).length = L.length + 1 := by simp only [List.length_append, List.length_singleton]
  have e1a : dZ s g (cI s k i) (L ++ [(⟨i, 0, 0⟩ : Nd)]).length = A := by rw [e1]; exact hA
  refine ql_conv (H' := grP bm bo f1 (.slice a1 (L.length + 1) m1) (L ++ [(⟨i, 0, 0⟩ : Nd)]) ++ [.pt b9 (knC (cI s k i)) 182, .pt b11 (knC (cD s k i)) 182]) (fun w hs => by
   dsimp only [grP];rw [e1];exact hs.sp O) ?_
  refine dC (cs := knC (cI s k i)) U Z Z Z (dL fp.bd) (fun w hs q hq => by rw [(hs.blk (b := b9) O).cell, Nat.zero_add]) ?_;refine ql_callF (β := (Value → Option Value) × Value) (ψ := fun y v => v = .int .i64 (rtN (L ++ [(⟨i, 0, 0⟩ : Nd)]).length (dZ s g (cI s k i) (L ++ [(⟨i, 0, 0⟩ : Nd)]).length)) ∧ GoodB s y.1) (L' := fun y => grP bm bo y.1 y.2 (L ++ [(⟨i, 0, 0⟩ : Nd)] ++ dZ s g (cI s k i) (L ++ [(⟨i, 0, 0⟩ : Nd)]).length)) (grP bm bo f1 (.slice a1 (L.length + 1) m1) (L ++ [(⟨i, 0, 0⟩ : Nd)])) [.pt b9 (knC (cI s k i)) 182, .pt b11 (knC (cD s k i)) 182] (DL (grP bm bo f1 (.slice a1 (L.length + 1) m1) (L ++ [(⟨i, 0, 0⟩ : Nd)]))) Z Z Z (Sp.refl _) (fun x hx => hx) (fun w' hs => CaF.of U Z (ih g J (cI s k i) w' f1 (.slice a1 (L.length + 1) m1) (L ++ [(⟨i, 0, 0⟩ : Nd)]) J fp hgd1 (by rw [e1a, e1]; omega) hs.self (fun w'' hc => hX w'' ((Sat.left hs).later hc)))) ?_;rintro ⟨f2, u2⟩ _ ⟨rfl, hgd2⟩;dsimp only at hgd2 ⊢;rw [e1a, show rtN (L ++ [(⟨i, 0, 0⟩ : Nd)]).length A = rtN (L.length + 1) A from by rw [e1]];refine cU (fun w hs => hs.slice2 (v := u2) O) ?_;rintro ⟨u2a, u2c, rfl⟩;(refine aA1 zq (aD (aC (aB ?_))); refine gC U Z Z Z (by assumption) (by rfl) ?_);have e2 : (L ++ [(⟨i, 0, 0⟩ : Nd)] ++ A).length = L.length + 1 + A.length := by simp only [List.length_append, List.length_singleton]
  have e2a : dZ s g (cD s k i) (L ++ [(⟨i, 0, 0⟩ : Nd)] ++ A).length = B := by rw [e2]; exact hB
  refine dC (cs := knC (cD s k i)) U Z Z Z (dL ff.bd) (fun w hs q hq => by rw [(hs.blk (b := b11) O).cell, Nat.zero_add]) ?_;refine ql_callF (β := (Value → Option Value) × Value) (ψ := fun y v => v = .int .i64 (rtN (L ++ [(⟨i, 0, 0⟩ : Nd)] ++ A).length (dZ s g (cD s k i) (L ++ [(⟨i, 0, 0⟩ : Nd)] ++ A).length)) ∧ GoodB s y.1) (L' := fun y => grP bm bo y.1 y.2 (L ++ [(⟨i, 0, 0⟩ : Nd)] ++ A ++ dZ s g (cD s k i) (L ++ [(⟨i, 0, 0⟩ : Nd)] ++ A).length)) (grP bm bo f2 (.slice u2a (L ++ [(⟨i, 0, 0⟩ : Nd)] ++ A).length u2c) (L ++ [(⟨i, 0, 0⟩ : Nd)] ++ A)) [.pt b9 (knC (cI s k i)) 182, .pt b11 (knC (cD s k i)) 182] (DL (grP bm bo f2 (.slice u2a (L ++ [(⟨i, 0, 0⟩ : Nd)] ++ A).length u2c) (L ++ [(⟨i, 0, 0⟩ : Nd)] ++ A))) Z Z Z (Sp.refl _) (fun x hx => hx) (fun w' hs => CaF.of U Z (ih g J (cD s k i) w' f2 (.slice u2a (L ++ [(⟨i, 0, 0⟩ : Nd)] ++ A).length u2c) (L ++ [(⟨i, 0, 0⟩ : Nd)] ++ A) J ff hgd2 (by rw [e2a, e2]; omega) hs.self (fun w'' hc => hX w'' ((Sat.left hs).later hc)))) ?_;rintro ⟨f3, u3⟩ _ ⟨rfl, hgd3⟩;dsimp only at hgd3 ⊢;rw [e2a, show rtN (L ++ [(⟨i, 0, 0⟩ : Nd)] ++ A).length B = rtN (L.length + 1 + A.length) B from by rw [e2]];refine cU (fun w hs => hs.slice2 (v := u3) O) ?_;rintro ⟨u3a, u3c, rfl⟩;(refine aA1 zq (aD (aC ?_)));have el : L ++ [(⟨i, 0, 0⟩ : Nd)] ++ A ++ B = L ++ ⟨i, 0, 0⟩ :: (A ++ B) := by simp
  rw [el];obtain ⟨N, hN⟩ : ∃ N, N = (L ++ (⟨i, 0, 0⟩ : Nd) :: (A ++ B)).length := ⟨_, rfl⟩;have hN2 : N = L.length + 1 + A.length + B.length := by rw [hN]; simp only [List.length_append, List.length_cons]; omega
  dsimp only [grP];rw [← hN];refine q_fact (fun w hs => hs.ownSome (v := .slice u3a N u3c) O J) ?_;rintro ⟨g3, c3, hg3⟩;cases hg3
  refine bZ _ [.ow (aB9 g3 N u3c) 91 3 N (dK (L ++ ⟨i, 0, 0⟩ :: (A ++ B)))] (Sp.cons O (Sp.refl _)) qB qB ?_;(refine bB U Z Z Z ?_; refine aA2 xq ?_; refine bB U Z Z Z ?_; (iterate 3 refine aA2 xq ?_));refine aA3 Wa J J ?_;(refine aA2 xq ?_);refine qf_storeWs U (L.length * 3 + 1) Z Z Z Z O J (by rw [fK, ← hN]; omega) ?_;rw [nodC_putP];refine aA3 Wa J J ?_;(refine aA2 xq ?_);refine qf_storeWs U (L.length * 3 + 2) Z Z Z Z O J (by rw [fK]; simp only [List.length_append, List.length_cons]; omega) ?_;rw [nodC_putF];(refine aN (aC (aB (aA1 zq (aA1 zq (aD (aS ?_)))))));refine q_finM U Z O fun w hs => ?_;have hret : rtN L.length ((⟨i, rtN (L.length + 1) A, rtN (L.length + 1 + A.length) B⟩ : Nd) :: (A ++ B)) = (L.length : Int) := by simp [rtN]
  have hN3 : (L ++ (⟨i, rtN (L.length + 1) A, rtN (L.length + 1 + A.length) B⟩ : Nd) :: (A ++ B)).length = N := by rw [hN2]; simp only [List.length_append, List.length_cons]; omega
  exact ⟨(f3, aB9 g3 N u3c), ⟨by rw [hret]; rfl, hgd3⟩, by
   dsimp only [grP];rw [hN3];exact hs.sp O⟩
theorem rplan_no (w : World) (lo hi : Nat) (s : Sc) (tv rv : Value) (h : ScR w lo hi tv rv s) (hl1 : s.tests.length ≤ maxLen) (hl2 : s.rifles.length ≤ maxLen) (h0 : eY s ≠ 0) : Ca Tryz.prog 56 [.agg (scC s tv rv).toArray] w fun x w' => x = .tuple #[.slice none 0 0, .int .i64 (eY s)] ∧ Chg [] w w' := by
 refine cN (Sat.nil w M0) Tryz.func56 Z (by simp [Tryz.ntmps56]) ?_;(refine aC (aB ?_));refine bR Z Z (fun b1 => ?_);rw [bL];(refine aA1 zq (aA1 zq (aD (aC (aB ?_)))); refine aP U Z Z Z ?_);refine aI (val := .tuple #[.pointer none, .int .i64 (eY s)]) U Z Z Z Z (fun w hs => ?_) ?_; exact oB w lo hi s tv rv (h.keep hs.chg0) hl1 hl2 h0;(refine aA1 zq (aB5 xq (aB5 xq ?_)));refine bF zero177 Z (fun b4 => ?_);(refine eM U Z Z Z Z O ?_; refine aA1 zq (aD (aC (aC (aB (aA1 zq (aB0 xq J (aD (aH Z (aC (aB ?_)))))))))); (iterate 3 refine aA1 zq ?_); refine aD (aS ?_));refine aA5 wq O fun w hs => ?_;exact ⟨Z, hs.chg0⟩
theorem rplan_ok (w : World) (lo hi : Nat) (s : Sc) (tv rv : Value) (h : ScR w lo hi tv rv s) (hs0 : SOk s) : Ca Tryz.prog 56 [.agg (scC s tv rv).toArray] w fun x w' => ∃ u : Value, x = .tuple #[u, .int .i64 0] ∧ Sat w M0 [.ow u 91 3 (jX s).length (dK (jX s))] w' := by
 have hfit := eK hs0.le;have h8 := hs0.ok.rn8;have hpl := oY h8 hs0.le;refine cN (Sat.nil w M0) Tryz.func56 Z (by simp [Tryz.ntmps56]) ?_;(refine aC (aB ?_));refine bR Z Z (fun b1 => ?_);rw [bL];(refine aA1 zq (aA1 zq (aD (aC (aB ?_)))); refine aP U Z Z Z ?_);refine bC (β := Nat) U [] _ M0 Z Z Z Z (Sp.refl _) qC (fun w' hs => lW w' lo hi s tv _ (h.keep hs.chg0) hs0.ok hs0.le) ?_;rintro bd _ rfl;dsimp only [List.cons_append, List.nil_append];(refine aA1 zq (aB5 xq (aB5 xq ?_)));refine bF zero177 Z (fun b4 => ?_);(refine eM U Z Z Z Z O ?_; refine aA1 zq (aD (aC (aC (aB (aA1 zq (aA6 xq J (aD (aG Z (aK (aC (aB ?_))))))))))); refine aJ U Z Z Z ?_);refine bC (β := Nat × Nat × Nat × Nat) (ψ := fun y v => v = bstF y.2.1 y.2.2.1 y.2.2.2) (L' := fun y => plnL bd y) U [] _ M0 Z Z Z Z (Sp.refl _) qC (fun w' hs => rplanner_ca w' bd) ?_;rintro ⟨bm, p1, p2, p3⟩ _ rfl;dsimp only [plnL, List.cons_append, List.nil_append];refine bF zero205 Z (fun b6 => ?_);(refine eM U Z Z Z Z O ?_; refine aD (aC (aB ?_)));refine bF zero88 Z (fun b7 => ?_);(refine aD (aC (aB ?_)));refine bF zero210 Z (fun b8 => ?_);(refine aD (aC (aB (aA1 zq ?_))); refine eM U Z Z Z Z O ?_; refine aD (aC ?_));refine dG (H' := grP bm b7 (fun _ => none) (.slice none 0 0) [] ++ [.pt p1 [.map (some bm)] 243, .pt p2 [aC0 bd] 177, .pt p3 [bstF p1 p2 p3] 205, .pt b6 [bstF p1 p2 p3] 205, .pt b4 [aC0 bd] 177, .pt b8 [plgF b6 b7 b4 b8] 210, .pt bd (dskC s tv rv (bP s)) 184]) (fun w' hs => (Sat.ownil hs 91 3).sp O) ?_;refine bZ [.pt p1 [.map (some bm)] 243, .pt p2 [aC0 bd] 177, .pt p3 [bstF p1 p2 p3] 205, .pt b6 [bstF p1 p2 p3] 205, .pt b4 [aC0 bd] 177, .pt b8 [plgF b6 b7 b4 b8] 210, .pt bd (dskC s tv rv (bP s)) 184] (grP bm b7 (fun _ => none) (.slice none 0 0) []) (Sp.refl _) qB qB ?_
 ((iterate 2 refine bB U Z Z Z ?_); refine aA2 xq (aA2 xq ?_); refine aV U Z Z Z ?_)
 rw [dsk_take2 s tv rv];refine iX (β := (Value → Option Value) × Value) (ψ := fun y v => v = .int .i64 (rtN 0 (dZ s (cntK s (bP s)) (bP s) 0)) ∧ GoodB s y.1) (L' := fun y => grP bm b7 y.1 y.2 ([] ++ dZ s (cntK s (bP s)) (bP s) 0)) (grP bm b7 (fun _ => none) (.slice none 0 0) []) [] (DL (grP bm b7 (fun _ => none) (.slice none 0 0) [])) Z Z Z (Sp.refl _) (fun x hx => hx) (fun w' hs => CaF.of U Z (pgrow_ca lo hi bm p1 p2 p3 bd b6 b7 b4 b8 s tv rv (bP s) _ _ _ hs0.ok (cntK s (bP s)) (bP s) w' (fun _ => none) (.slice none 0 0) [] (Nat.le_refl _) hfit (goodB_nil s) (by show 0 + (jX s).length ≤ 1000; omega) hs.self (fun w'' c => ⟨h.keep (hs.asideOld c), ⟨⟨_, (Sat.aside (A := grP bm b7 (fun _ => none) (.slice none 0 0) []) hs c (x := .pt p1 [.map (some bm)] 243) O)⟩, ⟨_, (Sat.aside (A := grP bm b7 (fun _ => none) (.slice none 0 0) []) hs c (x := .pt p2 [aC0 bd] 177) O)⟩, ⟨_, (Sat.aside (A := grP bm b7 (fun _ => none) (.slice none 0 0) []) hs c (x := .pt p3 [bstF p1 p2 p3] 205) O)⟩, (Sat.aside (A := grP bm b7 (fun _ => none) (.slice none 0 0) []) hs c (x := .pt bd (dskC s tv rv (bP s)) 184) O)⟩, (Sat.aside (A := grP bm b7 (fun _ => none) (.slice none 0 0) []) hs c (x := .pt b6 [bstF p1 p2 p3] 205) O), (Sat.aside (A := grP bm b7 (fun _ => none) (.slice none 0 0) []) hs c (x := .pt b4 [aC0 bd] 177) O), (Sat.aside (A := grP bm b7 (fun _ => none) (.slice none 0 0) []) hs c (x := .pt b8 [plgF b6 b7 b4 b8] 210) O)⟩))) ?_;rintro ⟨g, u⟩ _ ⟨rfl, _⟩;rw [List.nil_append, show dZ s (cntK s (bP s)) (bP s) 0 = jX s from rfl];dsimp only [grP];refine bO (fun w hs => hs.slice2 (v := u) O) ?_;rintro ⟨ua, uc, rfl⟩;(refine aN (aC (aB ?_)); refine aJ U Z Z Z ?_; refine aA1 zq (aA1 zq (aD (aS ?_))));refine aA5 wq O fun w hs => ?_
 exact ⟨.slice ua (jX s).length uc, Z, hs.sp O⟩
theorem slRT : SlT Tryz.prog 49 172 2 16 (.agg #[.int .i64 0, .int .i64 0]) := ⟨by kernel_rfl, by kernel_rfl, by kernel_rfl, by decide⟩
theorem eU (w : World) (lo hi : Nat) (s : Sc) (tv rv : Value) (h : ScR w lo hi tv rv s) (hl1 : s.tests.length ≤ 1000) : Ca Tryz.prog 31 [.agg (scC s tv rv).toArray] w fun x w' => ∃ u : Value, x = .agg (scC s u rv).toArray ∧ Sat w M0 [.ow u 172 2 s.tests.length (spC s.tests)] w' := by
 obtain ⟨ta, tc, rfl, hta⟩ := RdS.outI h.t;obtain ⟨ra, rc, rfl, _⟩ := RdI.outI h.r;refine cN (Sat.nil w M0) Tryz.func31 Z (by simp [Tryz.ntmps31]) ?_;(refine aC (aB ?_));refine bR Z Z (fun b1 => ?_);rw [bL];refine bF fE Z (fun b2 => ?_);(refine aD (aC (aB (aA1 zq ?_))); refine aJ U Z Z Z ?_; refine aA1 zq ?_; refine aJ U Z Z Z ?_; refine aA1 zq ?_; refine aJ U Z Z Z ?_);refine fQ #[.int .i64 s.err, .int .i64 s.least, .slice none 0 0, .slice ra s.rifles.length rc] Z qB Z ?_;refine bF fE Z (fun b3 => ?_);(refine aB6 Wa O Z ?_; refine aD (aC (aC (aB (aA1 zq ?_)))); refine aJ U Z Z Z ?_; refine aA1 zq (aA1 zq (aD (aM ?_))));refine dG (H' := [.ow (.slice none 0 0) 172 2 0 (spC (s.tests.take 0)), .pt b3 [.int .i64 s.err, .int .i64 s.least, .slice none 0 0, .slice ra s.rifles.length rc] 51, .pt b2 [.int .i64 0, .int .i64 0, .slice none 0 0, .slice none 0 0] 51]) (fun w' hs => Sat.ownil (hs.sp O) 172 2) ?_
 refine bM (σ := Nat × Option Addr × Nat) (fun z => z.1 ≤ s.tests.length) (fun z => s.tests.length - z.1) (fun z => [(2, aC0 b2), (3, aC0 b3), (14, .slice ta s.tests.length tc), (15, .int .i64 s.tests.length), (16, .int .i64 z.1)])
  (fun z => [.ow (.slice z.2.1 z.1 z.2.2) 172 2 z.1 (spC (s.tests.take z.1)), .pt b3 [.int .i64 s.err, .int .i64 s.least, .slice z.2.1 z.1 z.2.2, .slice ra s.rifles.length rc] 51, .pt b2 [.int .i64 0, .int .i64 0, .slice none 0 0, .slice none 0 0] 51]) (0, none, 0) (by simp) ⟨rfl, rfl, rfl, rfl, rfl, trivial⟩ O ?_
 rintro ⟨i, u1, u2⟩ hi2 K hK;dsimp only at hi2 hK ⊢;(refine aC (aB (aA1 zq (aD (aC ?_)))));refine dN Z (fun hc => ?_) (fun hc => ?_)
 ·have hi3 : i < s.tests.length := by omega
  clear hc;obtain ⟨tb, to, rfl⟩ := hta J;(refine aK (aC (aM (aC (aB ?_)))));refine aA7 Wa J J ?_;refine dC (cs := [.int .i64 s.tests[i].1, .int .i64 s.tests[i].2]) U Z Z Z Z (fun w hs q hq => by simpa using RdS.at (RdE.keep h.t hs.chg0) i hi3 q hq) ?_;refine bF zero78 Z (fun b5 => ?_);(refine aB6 Wa O Z ?_; refine aD (aB (aA1 zq ?_)); refine aJ U Z Z Z ?_; refine aP U Z Z Z ?_);refine cT 172 [.int .i64 s.tests[i].1, .int .i64 s.tests[i].2] Z qB Z (fun bn => ?_);refine cW (q := 1) (news := [.int .i64 s.tests[i].1, .int .i64 s.tests[i].2]) slRT Z Z Z (fun v' => by repeat constructor) (fun w' hs => ⟨_, _, Blk.rdN (hs.blk (b := bn) O) Z⟩) (by simp [dJ]) J J (fun u' => ?_);refine cU (fun w hs => hs.slice2 (v := u') O) ?_;rintro ⟨a1, c1, rfl⟩;(refine aA1 zq ?_; refine ql_st2 U Z Z Z Z O ?_; refine aD (bK (aB (aA4 uq J J (aA1 zq (aD ?_))))))
  have e : spC (s.tests.take (i + 1)) = spC (s.tests.take i) ++ [.int .i64 s.tests[i].1, .int .i64 s.tests[i].2] := by
   rw [List.take_succ_eq_append_getElem hi3, spC_snoc2]
  exact hK (i + 1, a1, c1) _ _ (by simp only; omega) (by simp only; omega) ⟨Z, Z, Z, Z, Z, trivial⟩ (by dsimp only; rw [e]; repeat constructor)
 ·obtain rfl : i = s.tests.length := by omega
  rw [List.take_length];(refine bH _ Z (aC (aB ?_)); refine aP U Z Z Z ?_; refine aB6 Wa O Z ?_; refine aD (aS ?_));refine aA5 wq O fun w hs => ?_
  exact ⟨_, Z, hs.sp O⟩
theorem nF (w : World) (lo hi lo2 hi2 : Nat) (s : Sc) (tv rv tv2 rv2 : Value) (h : ScR w lo hi tv rv s) (h2 : ScR w lo2 hi2 tv2 rv2 s) (hl1 : s.tests.length ≤ 1000) (hl2 : s.rifles.length ≤ 1000) : Ca Tryz.prog 45 [.agg (scC s tv rv).toArray, .agg (scC s tv2 rv2).toArray] w fun x w' => x = .bool true ∧ Chg [] w w' := by
 refine cN (Sat.nil w M0) Tryz.func45 Z (by simp [Tryz.ntmps45]) ?_;(refine aC (aB ?_));refine bR Z Z (fun b2 => ?_);rw [bL];refine bR Z Z (fun b3 => ?_);rw [bL];(refine aA1 zq (aD (aC (aB (aA1 zq ?_)))); refine aJ U Z Z Z ?_; refine aA1 zq ?_; refine aJ U Z Z Z ?_; refine aB2 xq J (aA1 zq (aE Z (aA1 zq (aE Z ?_)))); refine aJ U Z Z Z ?_; refine aE Z (aA1 zq (aE Z ?_)); refine aJ U Z Z Z ?_; refine aE Z (aB2 xq J (aA1 zq (aA1 zq (aE Z (aA1 zq (aE Z ?_)))))); refine aJ U Z Z Z ?_; refine aE Z (aA1 zq (aE Z ?_)); refine aJ U Z Z Z ?_; refine aE Z ?_);refine aI (val := .bool true) U Z Z Z Z (fun w hs => ?_) ?_; exact eqTs_ca w lo hi lo2 hi2 tv tv2 s.tests (RdE.keep h.t hs.chg0) (RdE.keep h2.t hs.chg0) J;(refine aA1 zq (aA1 zq (aE Z (aA1 zq (aE Z ?_)))); refine aJ U Z Z Z ?_; refine aE Z (aA1 zq (aE Z ?_)); refine aJ U Z Z Z ?_; refine aE Z ?_);refine aI (val := .bool true) U Z Z Z Z (fun w hs => ?_) ?_; exact gR w lo hi lo2 hi2 rv rv2 s.rifles (RdE.keep h.r hs.chg0) (RdE.keep h2.r hs.chg0) J;(refine aA1 zq (aA1 zq (aD (aS ?_))));refine aA5 wq O fun w hs => ?_;exact ⟨Z, hs.chg0⟩
def grtB (s : Sc) (m : Int) : Bool := ((decide (m < s.rifles.length) && decide (s.rifles.length ≤ 8)) || decide (12 < s.rifles.length)) || decide (14 < s.tests.length)
theorem grtB_false {s : Sc} {m : Int} (h : grtB s m = false) : ¬ (m < s.rifles.length ∧ s.rifles.length ≤ 8) ∧ s.rifles.length ≤ 12 ∧ s.tests.length ≤ 14 := by
 unfold grtB at h;simp only [Bool.or_eq_false_iff, Bool.and_eq_false_iff, decide_eq_false_iff_not] at h;omega
theorem pV (w : World) (lo hi : Nat) (s : Sc) (tv rv : Value) (m : Int) (h : ScR w lo hi tv rv s) : Ca Tryz.prog 29 [.agg (scC s tv rv).toArray, .int .i64 m] w fun x w' => x = .bool (grtB s m) ∧ Chg [] w w' := by
 obtain ⟨ta, tc, rfl, _⟩ := RdS.outI h.t;obtain ⟨ra, rc, rfl, _⟩ := RdI.outI h.r;refine cN (Sat.nil w M0) Tryz.func29 Z (by simp [Tryz.ntmps29]) ?_;(refine aC (aB ?_));refine bR Z Z (fun b2 => ?_);rw [bL];by_cases h1 : m < s.rifles.length
 ·by_cases h2 : s.rifles.length ≤ 8
  ·(refine aA1 zq (aD (aC (aB (aA1 zq ?_)))); refine aJ U Z Z Z ?_; refine aA1 zq (aA1 zq (cR U Z Z Z J (aA1 zq (aE Z (aA1 zq (aE Z ?_)))))); refine aJ U Z Z Z ?_; refine aE Z (aA1 zq (aE Z (jU U Z Z Z J (aA1 zq (aA1 zq ?_))))); (iterate 4 refine aA8 yq ?_); refine aA1 zq (aA1 zq ?_); (iterate 4 refine aA8 yq ?_); refine aA1 zq (aA1 zq (aD (aS ?_))))
   refine aA5 wq O fun w hs => ?_;exact ⟨by simp [retV, grtB, h1, h2], hs.chg0⟩
  ·by_cases h3 : 12 < s.rifles.length
   ·(refine aA1 zq (aD (aC (aB (aA1 zq ?_)))); refine aJ U Z Z Z ?_; refine aA1 zq (aA1 zq (cR U Z Z Z J (aA1 zq (aE Z (aA1 zq (aE Z ?_)))))); refine aJ U Z Z Z ?_; refine aE Z (aA1 zq (aE Z (gO U Z Z Z J (aA1 zq (aA1 zq (aE Z (aA1 zq (aE Z ?_)))))))); refine aJ U Z Z Z ?_; refine aE Z (aA1 zq (aE Z (cR U Z Z Z J (aA1 zq (aA1 zq ?_))))); (iterate 4 refine aA8 yq ?_); refine aA1 zq (aA1 zq (aD (aS ?_))))
    refine aA5 wq O fun w hs => ?_;exact ⟨by simp [retV, grtB, h2, h3], hs.chg0⟩
   ·by_cases h4 : 14 < s.tests.length
    ·(refine aA1 zq (aD (aC (aB (aA1 zq ?_)))); refine aJ U Z Z Z ?_; refine aA1 zq (aA1 zq (cR U Z Z Z J (aA1 zq (aE Z (aA1 zq (aE Z ?_)))))); refine aJ U Z Z Z ?_; refine aE Z (aA1 zq (aE Z (gO U Z Z Z J (aA1 zq (aA1 zq (aE Z (aA1 zq (aE Z ?_)))))))); refine aJ U Z Z Z ?_; refine aE Z (aA1 zq (aE Z (aB1 xq J (aA1 zq (aA1 zq (aE Z (aA1 zq (aE Z ?_)))))))); refine aJ U Z Z Z ?_; refine aE Z (aA1 zq (aE Z (cR U Z Z Z J (aA1 zq (aA1 zq (aD (aS ?_))))))))
     refine aA5 wq O fun w hs => ?_;exact ⟨by simp [retV, grtB, h4], hs.chg0⟩
    ·(refine aA1 zq (aD (aC (aB (aA1 zq ?_)))); refine aJ U Z Z Z ?_; refine aA1 zq (aA1 zq (cR U Z Z Z J (aA1 zq (aE Z (aA1 zq (aE Z ?_)))))); refine aJ U Z Z Z ?_; refine aE Z (aA1 zq (aE Z (gO U Z Z Z J (aA1 zq (aA1 zq (aE Z (aA1 zq (aE Z ?_)))))))); refine aJ U Z Z Z ?_; refine aE Z (aA1 zq (aE Z (aB1 xq J (aA1 zq (aA1 zq (aE Z (aA1 zq (aE Z ?_)))))))); refine aJ U Z Z Z ?_; refine aE Z (aA1 zq (aE Z (aB1 xq J (aA1 zq (aA1 zq (aD (aS ?_))))))))
     refine aA5 wq O fun w hs => ?_;exact ⟨by simp [retV, grtB, h2, h3, h4], hs.chg0⟩
 ·by_cases h3 : 12 < s.rifles.length
  ·(refine aA1 zq (aD (aC (aB (aA1 zq ?_)))); refine aJ U Z Z Z ?_; refine aA1 zq (aA1 zq (aB1 xq J (aA1 zq ?_))); (iterate 4 refine aA8 yq ?_); refine aA1 zq (aA1 zq (aE Z (aA1 zq (aE Z ?_)))); refine aJ U Z Z Z ?_; refine aE Z (aA1 zq (aE Z (cR U Z Z Z J (aA1 zq (aA1 zq ?_))))); (iterate 4 refine aA8 yq ?_); refine aA1 zq (aA1 zq (aD (aS ?_))))
   refine aA5 wq O fun w hs => ?_;exact ⟨by simp [retV, grtB, h3], hs.chg0⟩
  ·by_cases h4 : 14 < s.tests.length
   ·(refine aA1 zq (aD (aC (aB (aA1 zq ?_)))); refine aJ U Z Z Z ?_; refine aA1 zq (aA1 zq (aB1 xq J (aA1 zq ?_))); (iterate 4 refine aA8 yq ?_); refine aA1 zq (aA1 zq (aE Z (aA1 zq (aE Z ?_)))); refine aJ U Z Z Z ?_; refine aE Z (aA1 zq (aE Z (aB1 xq J (aA1 zq (aA1 zq (aE Z (aA1 zq (aE Z ?_)))))))); refine aJ U Z Z Z ?_; refine aE Z (aA1 zq (aE Z (cR U Z Z Z J (aA1 zq (aA1 zq (aD (aS ?_))))))))
    refine aA5 wq O fun w hs => ?_;exact ⟨by simp [retV, grtB, h4], hs.chg0⟩
   ·(refine aA1 zq (aD (aC (aB (aA1 zq ?_)))); refine aJ U Z Z Z ?_; refine aA1 zq (aA1 zq (aB1 xq J (aA1 zq ?_))); (iterate 4 refine aA8 yq ?_); refine aA1 zq (aA1 zq (aE Z (aA1 zq (aE Z ?_)))); refine aJ U Z Z Z ?_; refine aE Z (aA1 zq (aE Z (aB1 xq J (aA1 zq (aA1 zq (aE Z (aA1 zq (aE Z ?_)))))))); refine aJ U Z Z Z ?_; refine aE Z (aA1 zq (aE Z (aB1 xq J (aA1 zq (aA1 zq (aD (aS ?_))))))))
    refine aA5 wq O fun w hs => ?_;exact ⟨by simp [retV, grtB, h1, h3, h4], hs.chg0⟩
theorem rdS_nil (w : World) (lo hi : Nat) : RdS w lo hi (.slice none 0 0) [] := ⟨⟨by simp [cellsOf], .inl ⟨.inl rfl, rfl⟩⟩, by simp⟩
theorem jS (w : World) (lo hi : Nat) : RdI w lo hi (.slice none 0 0) [] := ⟨⟨by simp [cellsOf], .inl ⟨.inl rfl, rfl⟩⟩, by simp⟩
def kJ (s : Sc) (plan : List Nd) : Int × Int := if eY s ≠ 0 then (0, eY s) else if 300 < plan.length then (0, 2) else if rpB s plan = true then (if depP s plan < 0 then (0, 8) else (depP s plan, 0)) else (0, 1)
theorem oW (w : World) (lo hi : Nat) (s : Sc) (tv rv vp : Value) (plan : List Nd) (h : ScR w lo hi tv rv s) (hl1 : s.tests.length ≤ maxLen) (hl2 : s.rifles.length ≤ maxLen) (hr : RdN w lo hi vp plan) (hlp : plan.length ≤ 1000) : Ca Tryz.prog 59 [.agg (scC s tv rv).toArray, vp] w fun x w' => x = .tuple #[.int .i64 (kJ s plan).1, .int .i64 (kJ s plan).2] ∧ Chg [] w w' := by
 by_cases h0 : eY s = 0
 ·have hsok := dU.1 h0;by_cases h3 : 300 < plan.length
  ·have e : kJ s plan = (0, 2) := by unfold kJ; rw [if_neg (by rw [h0]; simp), if_pos h3]
   rw [e];obtain ⟨pa, pcap, rfl, hps⟩ := hr.outI;refine cN (Sat.nil w M0) Tryz.func59 Z (by simp [Tryz.ntmps59]) ?_;(refine aC (aB ?_));refine bR Z Z (fun b2 => ?_);rw [bL];refine bR Z Z (fun b3 => ?_);(refine aA1 zq (aA1 zq (aD (aC (aB ?_)))); refine aP U Z Z Z ?_);refine bC (β := Nat) U [] _ M0 Z Z Z Z (Sp.refl _) qC (fun w' hs => lW w' lo hi s tv _ (h.keep hs.chg0) hsok.ok hsok.le) ?_;rintro bd _ rfl;dsimp only [List.cons_append, List.nil_append];(refine aA1 zq (aB5 xq (aB5 xq ?_)));refine bF zero177 Z (fun b6 => ?_);(refine eM U Z Z Z Z O ?_; refine aA1 zq (aD (aC (aM (aC (aB (aA1 zq (aA6 xq J (aA1 zq (aD (aG Z (aC ?_))))))))))); refine aB ?_; refine aJ U Z Z Z ?_; refine aA1 zq (cR U Z Z Z J (aA1 zq (aD (aH Z (aC (aB (aA1 zq (aA1 zq (aD (aS ?_)))))))))));refine aA5 wq O fun w hs => ?_
   exact ⟨Z, hs.chg0⟩
  ·have := rdepth_ok w lo hi s tv rv vp plan h hsok hr J;refine this.mono fun x w' => ?_
   rintro ⟨rfl, hc⟩;refine ⟨?_, hc⟩;have e : kJ s plan = if rpB s plan = true then (if depP s plan < 0 then (0, 8) else (depP s plan, 0)) else (0, 1) := by unfold kJ; rw [if_neg (by rw [h0]; simp), if_neg h3]
   rw [e];by_cases c : rpB s plan = true
   ·simp only [if_pos c];by_cases d : depP s plan < 0
    ·simp only [if_pos d]
    ·simp only [if_neg d]
   ·simp only [if_neg c]
 ·have := rdepth_no w lo hi s tv rv vp plan h hl1 hl2 hr h0;unfold kJ;rw [if_pos h0];exact this
def ndK (s : Sc) (plan : List Nd) (k : Nat) : Bool := (List.range k).all (ndB s plan)
theorem ndK_succ (s : Sc) (plan : List Nd) (k : Nat) : ndK s plan (k + 1) = (ndK s plan k && ndB s plan k) := by
 unfold ndK;rw [List.range_succ, List.all_append];simp
def tF41_8cc3c51 : OT := .alt (bE [0, 1, 2, 3, 4, 5, 6, 7, 8, 9, 10, 11, 12, 13] (.nil)) (bE [7, 8, 9, 10, 0, 1, 2, 3, 4, 5, 6, 11, 12, 13] (.nil))
theorem kG (w : World) (lo hi : Nat) (s : Sc) (tv rv vp : Value) (plan : List Nd) (h : ScR w lo hi tv rv s) (hl1 : s.tests.length ≤ maxLen) (hl2 : s.rifles.length ≤ maxLen) (hr : RdN w lo hi vp plan) (hlp : plan.length ≤ 1000) : Ca Tryz.prog 57 [.agg (scC s tv rv).toArray, vp] w fun x w' => x = .tuple #[.int .i64 (kJ s plan).1, .int .i64 (kJ s plan).2] ∧ Chg [] w w' := by
 obtain ⟨ta, tc, rfl, _⟩ := RdS.outI h.t;obtain ⟨ra, rc, rfl, _⟩ := RdI.outI h.r;obtain ⟨pa, pc, rfl, hpa⟩ := hr.outI;refine cN (Sat.nil w M0) Tryz.func57 Z (by simp [Tryz.ntmps57]) ?_;(refine aC (aB ?_));refine bR Z Z (fun b2 => ?_);rw [bL];(refine aA1 zq (aA1 zq (aD (aC (aC (aB ?_))))); refine aP U Z Z Z ?_);refine aI (val := .tuple #[iN (offU s), .int .i64 (eY s)]) U Z Z Z Z (fun w hs => ?_) ?_; exact rroff_u w lo hi s _ _ (h.keep hs.chg0) hl1 hl2;by_cases h0 : eY s = 0
 ·have hsok := dU.1 h0;have hok := hsok.ok;have hfit := eK hsok.le;have h8 := hok.rn8;have hn1 := hok.rn1;by_cases h3 : 300 < plan.length
  ·have e : kJ s plan = (0, 2) := by unfold kJ; rw [if_neg (by rw [h0]; simp), if_pos h3]
   rw [e, h0];(refine aA1 zq (aB5 xq (aB5 xq ?_)));refine bF dR Z (fun b6 => ?_);(refine aB6 Wa O Z ?_; refine aA1 zq (aD (aC (aB (aA1 zq (aA6 xq J (aD (aG Z (aK (aC (aC (aB ?_))))))))))); refine aA1 zq (aA1 zq (cR U Z Z Z J (aD (aH Z (aC (aB (aA1 zq (aA1 zq (aD (aS ?_)))))))))));refine aA5 wq O fun w hs => ?_
   exact ⟨Z, hs.chg0⟩
  ·have e : kJ s plan = if rpB s plan = true then (if depP s plan < 0 then (0, 8) else (depP s plan, 0)) else (0, 1) := by unfold kJ; rw [if_neg (by rw [h0]; simp), if_neg h3]
   rw [e, h0];(refine aA1 zq (aB5 xq (aB5 xq ?_)));refine bF dR Z (fun b6 => ?_);(refine aB6 Wa O Z ?_; refine aA1 zq (aD (aC (aB (aA1 zq (aA6 xq J (aD (aG Z (aK (aC (aC (aB ?_))))))))))); refine aA1 zq (aA1 zq (aB1 xq J (aD (aG Z (aK (aC (aC (aB (aA1 zq (aD (aM ?_))))))))))));refine bM (σ := Nat) (fun k => k ≤ plan.length ∧ ndK s plan k = true) (fun k => plan.length - k) (fun k => [(1, .slice pa plan.length pc), (2, aC0 b2), (8, .int .i64 k)]) (fun _ => [.pt b2 (scC s (.slice ta s.tests.length tc) (.slice ra s.rifles.length rc)) 51]) 0 ⟨by omega, Z⟩ ⟨Z, Z, Z, trivial⟩ O ?_;rintro k ⟨hk, hno⟩ K hK;(refine aC (aC (aB ?_)); (iterate 4 refine aA1 zq ?_); refine aD ?_);refine dN Z (fun hc => ?_) (fun hc => ?_)
   ·have hk2 : k < plan.length := by omega
    clear hc;obtain ⟨pb, po, rfl⟩ := hpa J;have hnd := ndV_get hk2;have hsu := ndK_succ s plan k;rw [hno, Bool.true_and] at hsu;have hbad : ndB s plan k = false → rpB s plan = false := fun e => iA (p := ndB s plan) e hk2
    have hnB : ndB s plan k = (inB plan[k].r 0 ((s.rifles.length : Int) - 1) && (nxB k plan plan[k].p && nxB k plan plan[k].f)) := by unfold ndB; rw [hnd]
    (refine aK (aC (aM (aC (aB (aA1 zq (aA1 zq ?_)))))))
    refine aA7 Wa J J ?_;refine dC (cs := [.int .i64 plan[k].r, .int .i64 plan[k].p, .int .i64 plan[k].f]) U Z Z Z Z (fun w hs q hq => by simpa using RdN.at (RdE.keep hr hs.chg0) k hk2 q hq) ?_;refine bF zero213 Z (fun b9 => ?_);(refine aB6 Wa O Z ?_; refine aD (aC (aB (aA1 zq ?_))); refine aJ U Z Z Z ?_; refine aA1 zq ?_; refine aJ U Z Z Z ?_; refine aA1 zq (aA4 uq J J ?_));refine aI (val := .bool (!(inB plan[k].r 0 ((s.rifles.length : Int) - 1)))) U Z Z Z Z (fun w hs => ?_) ?_; exact fD plan[k].r 0 ((s.rifles.length : Int) - 1) w;cases d1 : inB plan[k].r 0 ((s.rifles.length : Int) - 1) with
    | false =>
     rw [hbad (by rw [hnB, d1]; rfl), if_neg (by decide)];(refine aA1 zq ?_; (iterate 4 refine aA8 yq ?_); (iterate 8 refine oU Z Z ?_); refine aA8 yq (aA1 zq (aA1 zq ?_)); (iterate 4 refine aA8 yq ?_); (iterate 8 refine oU Z Z ?_); refine aA8 yq (aA1 zq (aD (aH Z (aC (aB (aA1 zq (aA1 zq (aD (aS ?_))))))))));refine aA5 wq O fun w hs => ?_
     exact ⟨Z, hs.chg0⟩
    | true =>
     have hP : ∀ x : Int, x = -1 ∨ x ≠ -1 := fun x => Classical.em _
     have n1 : ∀ x : Int, x = -1 → nxB k plan x = true := fun x hx => by unfold nxB; rw [decide_eq_true hx]; rfl
     have n2 : ∀ x : Int, x ≠ -1 → nxB k plan x = inB x ((k : Int) + 1) ((plan.length : Int) - 1) := fun x hx => by unfold nxB; rw [decide_eq_false hx]; rfl
     rcases hP plan[k].p with hp | hp
     ·have np := n1 _ hp;rcases hP plan[k].f with hf | hf
      ·have nf := n1 _ hf;(refine aA1 zq (aE Z (aA1 zq (aE Z ?_))); refine aJ U Z Z Z ?_; refine aE Z (aA6 xq J (aE Z (aA1 zq ?_))); (iterate 8 refine aA8 yq ?_); refine aE Z ?_; (iterate 3 refine aA1 zq ?_); refine aE Z (aA1 zq (aE Z ?_)); refine aJ U Z Z Z ?_; refine aE Z (aA6 xq J (aE Z (aA1 zq ?_))); (iterate 8 refine aA8 yq ?_); refine aE Z (aA1 zq (aA1 zq (aD (aG Z (aK (bK (aB (aA1 zq (aA4 uq J J (aA1 zq (aD ?_))))))))))));exact hK (k + 1) _ _ ⟨by omega, by rw [hsu, hnB, d1, np, nf]; rfl⟩ J ⟨Z, Z, Z, trivial⟩ O
      ·have nf := n2 _ hf;(refine aA1 zq (aE Z (aA1 zq (aE Z ?_))); refine aJ U Z Z Z ?_; refine aE Z (aA6 xq J (aE Z (aA1 zq ?_))); (iterate 8 refine aA8 yq ?_); refine aE Z ?_; (iterate 3 refine aA1 zq ?_); refine aE Z (aA1 zq (aE Z ?_)); refine aJ U Z Z Z ?_; refine aE Z (aB0 xq J (aE Z (aA1 zq (aE Z (aA1 zq (aE Z ?_)))))); refine aJ U Z Z Z ?_; refine aE Z (aA1 zq (aE Z (aA4 uq J J (aE Z (aA1 zq (aE Z (aA1 zq (aE Z (aA4 uq J J (aE Z ?_)))))))))));refine aI (val := .bool (!(inB plan[k].f ((k : Int) + 1) ((plan.length : Int) - 1)))) U Z Z Z Z (fun w hs => ?_) ?_; exact fD plan[k].f ((k : Int) + 1) ((plan.length : Int) - 1) w;cases d3 : inB plan[k].f ((k : Int) + 1) ((plan.length : Int) - 1) with
       | false =>
        rw [d3] at nf;rw [hbad (by rw [hnB, d1, np, nf]; rfl), if_neg (by decide)];(refine aE Z (aA1 zq (aA1 zq (aD (aH Z (aC (aB (aA1 zq (aA1 zq (aD (aS ?_)))))))))));refine aA5 wq O fun w hs => ?_
        exact ⟨Z, hs.chg0⟩
       | true =>
        rw [d3] at nf;(refine aE Z (aA1 zq (aA1 zq (aD (aG Z (aK (bK (aB (aA1 zq (aA4 uq J J (aA1 zq (aD ?_))))))))))));exact hK (k + 1) _ _ ⟨by omega, by rw [hsu, hnB, d1, np, nf]; rfl⟩ J ⟨Z, Z, Z, trivial⟩ O
     ·have np := n2 _ hp;(refine aA1 zq (aE Z (aA1 zq (aE Z ?_))); refine aJ U Z Z Z ?_; refine aE Z (aB0 xq J (aE Z (aA1 zq (aE Z (aA1 zq (aE Z ?_)))))); refine aJ U Z Z Z ?_; refine aE Z (aA1 zq (aE Z (aA4 uq J J (aE Z (aA1 zq (aE Z (aA1 zq (aE Z (aA4 uq J J (aE Z ?_)))))))))));refine aI (val := .bool (!(inB plan[k].p ((k : Int) + 1) ((plan.length : Int) - 1)))) U Z Z Z Z (fun w hs => ?_) ?_; exact fD plan[k].p ((k : Int) + 1) ((plan.length : Int) - 1) w;cases d2 : inB plan[k].p ((k : Int) + 1) ((plan.length : Int) - 1) with
      | false =>
       rw [d2] at np;rw [hbad (by rw [hnB, d1, np]; rfl), if_neg (by decide)];(refine aE Z ?_; (iterate 3 refine aA1 zq ?_); (iterate 4 refine aA8 yq ?_); (iterate 8 refine oU Z Z ?_); refine aA8 yq (aA1 zq (aD (aH Z (aC (aB (aA1 zq (aA1 zq (aD (aS ?_))))))))));refine aA5 wq O fun w hs => ?_
       exact ⟨Z, hs.chg0⟩
      | true =>
       rw [d2] at np;rcases hP plan[k].f with hf | hf
       ·have nf := n1 _ hf;(refine aE Z ?_; (iterate 3 refine aA1 zq ?_); refine aE Z (aA1 zq (aE Z ?_)); refine aJ U Z Z Z ?_; refine aE Z (aA6 xq J (aE Z (aA1 zq ?_))); (iterate 8 refine aA8 yq ?_); refine aE Z (aA1 zq (aA1 zq (aD (aG Z (aK (bK (aB (aA1 zq (aA4 uq J J (aA1 zq (aD ?_))))))))))));exact hK (k + 1) _ _ ⟨by omega, by rw [hsu, hnB, d1, np, nf]; rfl⟩ J ⟨Z, Z, Z, trivial⟩ O
       ·have nf := n2 _ hf;(refine aE Z ?_; (iterate 3 refine aA1 zq ?_); refine aE Z (aA1 zq (aE Z ?_)); refine aJ U Z Z Z ?_; refine aE Z (aB0 xq J (aE Z (aA1 zq (aE Z (aA1 zq (aE Z ?_)))))); refine aJ U Z Z Z ?_; refine aE Z (aA1 zq (aE Z (aA4 uq J J (aE Z (aA1 zq (aE Z (aA1 zq (aE Z (aA4 uq J J (aE Z ?_)))))))))));refine aI (val := .bool (!(inB plan[k].f ((k : Int) + 1) ((plan.length : Int) - 1)))) U Z Z Z Z (fun w hs => ?_) ?_; exact fD plan[k].f ((k : Int) + 1) ((plan.length : Int) - 1) w;cases d3 : inB plan[k].f ((k : Int) + 1) ((plan.length : Int) - 1) with
        | false =>
         rw [d3] at nf;rw [hbad (by rw [hnB, d1, np, nf]; rfl), if_neg (by decide)];(refine aE Z (aA1 zq (aA1 zq (aD (aH Z (aC (aB (aA1 zq (aA1 zq (aD (aS ?_)))))))))));refine aA5 wq O fun w hs => ?_
         exact ⟨Z, hs.chg0⟩
        | true =>
         rw [d3] at nf;(refine aE Z (aA1 zq (aA1 zq (aD (aG Z (aK (bK (aB (aA1 zq (aA4 uq J J (aA1 zq (aD ?_))))))))))));exact hK (k + 1) _ _ ⟨by omega, by rw [hsu, hnB, d1, np, nf]; rfl⟩ J ⟨Z, Z, Z, trivial⟩ O
   ·obtain rfl : k = plan.length := by omega
    have hrp : rpB s plan = true := hno;rw [hrp, if_pos rfl];clear hc hK;have hpo := rpB_iff.1 hrp;have hdp : depP s plan = jL s plan plan.length (fW plan) (bP s) := rfl;obtain ⟨st, hst⟩ : ∃ st, st = fW plan := ⟨_, rfl⟩
    have hst2 : st = -1 ∨ 0 ≤ st ∧ st < plan.length ∧ plan.length ≤ plan.length + st.toNat := by
     rw [hst];unfold fW;split
     ·exact .inl Z
     ·exact .inr ⟨by omega, by omega, by omega⟩
    have hfb := nT s plan plan.length st (bP s);rw [← hst] at hdp;by_cases hp0 : plan.length = 0
    ·have hs1 : st = -1 := by rw [hst]; unfold fW; rw [if_pos hp0]
     subst hs1;(refine bH _ Z (aC (aB (aA1 zq (aD (aC (aC (aB (aA1 zq (aA1 zq (aB2 xq J (aD ?_))))))))))); refine aH Z (aB (aA1 zq (aD (aC ?_)))));refine fT (σ := Unit) (fun _ => [(11, .int .i64 (depP s plan))]) (fun _ => []) ?_ ?_;rotate_left
     ·intro K3 hK3;refine eQ (tF41_8cc3c51) _ [] (Sp.refl _) qB qB ?_;refine cA ?_ ?_
      ·refine bA qA fun K1 hK1 => ?_;(refine aV U Z Z Z ?_; refine aA2 xq (aA2 xq ?_); refine aV U Z Z Z ?_; refine aA2 xq ?_; refine bB U Z Z Z ?_)
       refine bX (β := Nat) (ψ := fun b v => v = aB9 b 2001 2001) (L' := fun b => [.pt b (cK (fU (dS s).1 (dS s).2)) 4]) U [] _ M0 Z Z Z Z (Sp.refl _) qC (fun w' hs => eH w' lo hi lo hi s _ _ _ s.tests (h.keep hs.chg0) (RdE.keep h.t hs.chg0) hok hok.tst) ?_;rintro b5 _ rfl;dsimp only [List.cons_append, List.nil_append];(refine aA2 xq ?_; refine bB U Z Z Z ?_; refine aA2 xq ?_);refine iJ (m := s.rifles.length) slI Z Z Z J (fun b16 => ?_);refine kH #[aB9 b5 2001 2001, aB9 b16 s.rifles.length s.rifles.length] Z qB Z ?_;refine bN (val := .int .i64 (depP s plan)) U Z Z Z Z (fun w hs => by rw [hdp]; exact nC lo hi s _ _ plan _ hok hpo J plan.length J _ (bP s) w 0 w.heap.size _ _ hst2 hfit (h.keep hs.chg0) (RdE.keep hr hs.chg0) ⟨gV (c := 2001) (hs.blk (b := b5) O) (by rw [cM]), by rw [kA]; exact blk_rdI' (hs.blk (b := b16) (cs := aX (List.replicate s.rifles.length 0)) O) (by simp)⟩) ?_;(refine aA2 xq (aN ?_));exact hK1 _ _ (dD (hK3 () _ _ ⟨Z, trivial⟩ O))
      ·refine bA qA fun K1 hK1 => ?_;(refine aA2 xq ?_; refine bB U Z Z Z ?_; refine aA2 xq ?_)
       refine iJ (m := s.rifles.length) slI Z Z Z J (fun b16 => ?_);(refine aV U Z Z Z ?_; refine aA2 xq (aA2 xq ?_); refine aV U Z Z Z ?_; refine aA2 xq ?_; refine bB U Z Z Z ?_);refine bX (β := Nat) (ψ := fun b v => v = aB9 b 2001 2001) (L' := fun b => [.pt b (cK (fU (dS s).1 (dS s).2)) 4]) U [] _ M0 Z Z Z Z (Sp.refl _) qC (fun w' hs => eH w' lo hi lo hi s _ _ _ s.tests (h.keep hs.chg0) (RdE.keep h.t hs.chg0) hok hok.tst) ?_;rintro b5 _ rfl;dsimp only [List.cons_append, List.nil_append];refine kH #[aB9 b5 2001 2001, aB9 b16 s.rifles.length s.rifles.length] Z qB Z ?_;refine bN (val := .int .i64 (depP s plan)) U Z Z Z Z (fun w hs => by rw [hdp]; exact nC lo hi s _ _ plan _ hok hpo J plan.length J _ (bP s) w 0 w.heap.size _ _ hst2 hfit (h.keep hs.chg0) (RdE.keep hr hs.chg0) ⟨gV (c := 2001) (hs.blk (b := b5) O) (by rw [cM]), by rw [kA]; exact blk_rdI' (hs.blk (b := b16) (cs := aX (List.replicate s.rifles.length 0)) O) (by simp)⟩) ?_;(refine aA2 xq (aN ?_));exact hK1 _ _ (dD (hK3 () _ _ ⟨Z, trivial⟩ O))
     intro _;rw [← hdp] at hfb;by_cases hneg : depP s plan < 0
     ·rw [if_pos hneg];(refine aC (aC (aB (aA1 zq (aB3 xq J (aD (aH Z (aC (aB (aA1 zq (aA1 zq (aD ?_))))))))))); refine aS ?_);refine aA5 wq O fun w hs => ?_
      exact ⟨Z, hs.chg0⟩
     ·rw [if_neg hneg];(refine aC (aC (aB (aA1 zq (aB4 xq J (aD (aG Z (aK (aC (aB ?_))))))))); (iterate 3 refine aA1 zq ?_); refine aD (aS ?_));refine aA5 wq O fun w hs => ?_
      exact ⟨Z, hs.chg0⟩
    ·have hs1 : st = 0 := by rw [hst]; unfold fW; rw [if_neg hp0]
     subst hs1;(refine bH _ Z (aC (aB (aA1 zq (aD (aC (aC (aB (aA1 zq (aA1 zq (cZ U Z Z Z J (aD ?_))))))))))); refine aG Z (aK (aC ?_)));refine fT (σ := Unit) (fun _ => [(11, .int .i64 (depP s plan))]) (fun _ => []) ?_ ?_;rotate_left
     ·intro K3 hK3;refine eQ (tF41_8cc3c51) _ [] (Sp.refl _) qB qB ?_;refine cA ?_ ?_
      ·refine bA qA fun K1 hK1 => ?_;(refine aV U Z Z Z ?_; refine aA2 xq (aA2 xq ?_); refine aV U Z Z Z ?_; refine aA2 xq ?_; refine bB U Z Z Z ?_)
       refine bX (β := Nat) (ψ := fun b v => v = aB9 b 2001 2001) (L' := fun b => [.pt b (cK (fU (dS s).1 (dS s).2)) 4]) U [] _ M0 Z Z Z Z (Sp.refl _) qC (fun w' hs => eH w' lo hi lo hi s _ _ _ s.tests (h.keep hs.chg0) (RdE.keep h.t hs.chg0) hok hok.tst) ?_;rintro b5 _ rfl;dsimp only [List.cons_append, List.nil_append];(refine aA2 xq ?_; refine bB U Z Z Z ?_; refine aA2 xq ?_);refine iJ (m := s.rifles.length) slI Z Z Z J (fun b16 => ?_);refine kH #[aB9 b5 2001 2001, aB9 b16 s.rifles.length s.rifles.length] Z qB Z ?_;refine bN (val := .int .i64 (depP s plan)) U Z Z Z Z (fun w hs => by rw [hdp]; exact nC lo hi s _ _ plan _ hok hpo J plan.length J _ (bP s) w 0 w.heap.size _ _ hst2 hfit (h.keep hs.chg0) (RdE.keep hr hs.chg0) ⟨gV (c := 2001) (hs.blk (b := b5) O) (by rw [cM]), by rw [kA]; exact blk_rdI' (hs.blk (b := b16) (cs := aX (List.replicate s.rifles.length 0)) O) (by simp)⟩) ?_;(refine aA2 xq (aN ?_));exact hK1 _ _ (dD (hK3 () _ _ ⟨Z, trivial⟩ O))
      ·refine bA qA fun K1 hK1 => ?_;(refine aA2 xq ?_; refine bB U Z Z Z ?_; refine aA2 xq ?_)
       refine iJ (m := s.rifles.length) slI Z Z Z J (fun b16 => ?_);(refine aV U Z Z Z ?_; refine aA2 xq (aA2 xq ?_); refine aV U Z Z Z ?_; refine aA2 xq ?_; refine bB U Z Z Z ?_);refine bX (β := Nat) (ψ := fun b v => v = aB9 b 2001 2001) (L' := fun b => [.pt b (cK (fU (dS s).1 (dS s).2)) 4]) U [] _ M0 Z Z Z Z (Sp.refl _) qC (fun w' hs => eH w' lo hi lo hi s _ _ _ s.tests (h.keep hs.chg0) (RdE.keep h.t hs.chg0) hok hok.tst) ?_;rintro b5 _ rfl;dsimp only [List.cons_append, List.nil_append];refine kH #[aB9 b5 2001 2001, aB9 b16 s.rifles.length s.rifles.length] Z qB Z ?_;refine bN (val := .int .i64 (depP s plan)) U Z Z Z Z (fun w hs => by rw [hdp]; exact nC lo hi s _ _ plan _ hok hpo J plan.length J _ (bP s) w 0 w.heap.size _ _ hst2 hfit (h.keep hs.chg0) (RdE.keep hr hs.chg0) ⟨gV (c := 2001) (hs.blk (b := b5) O) (by rw [cM]), by rw [kA]; exact blk_rdI' (hs.blk (b := b16) (cs := aX (List.replicate s.rifles.length 0)) O) (by simp)⟩) ?_;(refine aA2 xq (aN ?_));exact hK1 _ _ (dD (hK3 () _ _ ⟨Z, trivial⟩ O))
     intro _;rw [← hdp] at hfb;by_cases hneg : depP s plan < 0
     ·rw [if_pos hneg];(refine aC (aC (aB (aA1 zq (aB3 xq J (aD (aH Z (aC (aB (aA1 zq (aA1 zq (aD ?_))))))))))); refine aS ?_);refine aA5 wq O fun w hs => ?_
      exact ⟨Z, hs.chg0⟩
     ·rw [if_neg hneg];(refine aC (aC (aB (aA1 zq (aB4 xq J (aD (aG Z (aK (aC (aB ?_))))))))); (iterate 3 refine aA1 zq ?_); refine aD (aS ?_));refine aA5 wq O fun w hs => ?_
      exact ⟨Z, hs.chg0⟩
 ·have e : kJ s plan = (0, eY s) := by unfold kJ; rw [if_pos h0]
  rw [e];(refine aA1 zq (aB5 xq (aB5 xq ?_)));refine bF dR Z (fun b6 => ?_);(refine aB6 Wa O Z ?_; refine aA1 zq (aD (aC (aB (aA1 zq (aB0 xq J (aD (aH Z (aC (aB ?_))))))))); (iterate 3 refine aA1 zq ?_); refine aD (aS ?_));refine aA5 wq O fun w hs => ?_
  exact ⟨Z, hs.chg0⟩
theorem nodC_one (l : List Nd) : ∀ c ∈ dK l, dJ c = true := fun c hc => by obtain ⟨y, _, hy⟩ := List.mem_flatMap.1 hc; simp at hy; rcases hy with rfl | rfl | rfl <;> rfl
theorem gH (w : World) (lo hi : Nat) (v : Value) (l : List Nd) (h : RdN w lo hi v l) (hlen : l.length ≤ 1000) : Ca Tryz.prog 54 [v] w fun x w' => ∃ u : Value, x = u ∧ Sat w M0 [.ow u 91 3 l.length (dK l)] w' := by
 obtain ⟨a, c, rfl, ha⟩ := RdN.outI h;refine cN (Sat.nil w M0) Tryz.func54 Z (by simp [Tryz.ntmps54]) ?_;refine dG (H' := [.ow (.slice none 0 0) 91 3 0 (dK [])]) (fun w' hs => Sat.ownil hs 91 3) ?_;(refine aC (aB (aA1 zq (aD (aC (aB (aA1 zq ?_)))))));refine cW (q := l.length) (news := dK l) slNd Z Z Z (fun v' => by repeat constructor) (fun w' hs => ⟨_, _, RdN.row (RdE.keep h hs.chg0)⟩) (nodC_one l) J J (fun u' => ?_);(refine aA1 zq (aD (aS ?_)));refine aA5 wq O fun w hs => ?_
 exact ⟨u', Z, hs.sp (by simp only [dK, List.flatMap_nil, List.nil_append, Nat.zero_add]; repeat constructor)⟩
theorem slRN : SlT Tryz.prog 96 213 3 24 (.agg #[.int .i64 0, .int .i64 0, .int .i64 0]) := ⟨by kernel_rfl, by kernel_rfl, by kernel_rfl, by decide⟩
theorem kF (w : World) (lo hi : Nat) (v : Value) (l : List Nd) (h : RdN w lo hi v l) (hlen : l.length ≤ 1000) : Ca Tryz.prog 58 [v] w fun x w' => ∃ u : Value, x = u ∧ Sat w M0 [.ow u 213 3 l.length (dK l)] w' := by
 obtain ⟨a, c, rfl, ha⟩ := RdN.outI h;refine cN (Sat.nil w M0) Tryz.func58 Z (by simp [Tryz.ntmps58]) ?_;(refine aC (aB (aA1 zq (aD (aC (aB (aA1 zq (aD (aC (aC (aB ?_)))))))))); (iterate 3 refine aA1 zq ?_); refine aD (aM ?_));refine dG (H' := [.ow (.slice none 0 0) 213 3 0 (dK (l.take 0))]) (fun w' hs => Sat.ownil hs 213 3) ?_
 refine bM (σ := Nat × Value) (fun z => z.1 ≤ l.length) (fun z => l.length - z.1) (fun z => [(3, z.2), (6, .slice a l.length c), (7, .int .i64 l.length), (8, .int .i64 z.1)])
  (fun z => [.ow z.2 213 3 z.1 (dK (l.take z.1))]) (0, .slice none 0 0) (by simp) ⟨rfl, rfl, rfl, rfl, trivial⟩ O ?_
 rintro ⟨i, u⟩ hi2 K hK;dsimp only at hi2 hK ⊢;(refine aC (aB (aA1 zq (aD (aC ?_)))));refine dN Z (fun hc => ?_) (fun hc => ?_)
 ·have hi3 : i < l.length := by omega
  clear hc;obtain ⟨tb, to, rfl⟩ := ha J;(refine aK (aC (aM (aC (aB ?_)))));refine aA7 Wa J J ?_;refine dC (cs := [.int .i64 l[i].r, .int .i64 l[i].p, .int .i64 l[i].f]) U Z Z Z Z (fun w hs q hq => by simpa using RdN.at (RdE.keep h hs.chg0) i hi3 q hq) ?_;refine bF zero91 Z (fun b5 => ?_);(refine aB6 Wa O Z ?_; refine aD (aB (aA1 zq ?_)); refine aP U Z Z Z ?_);refine cT 213 [.int .i64 l[i].r, .int .i64 l[i].p, .int .i64 l[i].f] Z qB Z (fun bn => ?_);refine cW (q := 1) (news := [.int .i64 l[i].r, .int .i64 l[i].p, .int .i64 l[i].f]) slRN Z Z Z (fun v' => by repeat constructor) (fun w' hs => ⟨_, _, Blk.rdN (hs.blk (b := bn) O) Z⟩) (by simp [dJ]) J J (fun u' => ?_);(refine aA1 zq (aD (bK (aB (aA4 uq J J (aA1 zq (aD ?_)))))))
  have e : dK (l.take (i + 1)) = dK (l.take i) ++ [.int .i64 l[i].r, .int .i64 l[i].p, .int .i64 l[i].f] := by
   rw [List.take_succ_eq_append_getElem hi3, nodC_snoc]
  exact hK (i + 1, u') _ _ (by simp only; omega) (by simp only; omega) ⟨Z, Z, Z, Z, trivial⟩ (by dsimp only; rw [e]; repeat constructor)
 ·obtain rfl : i = l.length := by omega
  rw [List.take_length];(refine bH _ Z (aC (aB (aA1 zq (aA1 zq (aD (aS ?_)))))));refine aA5 wq O fun w hs => ?_
  exact ⟨_, Z, hs.sp O⟩
theorem depU_plan {s : Sc} (h0 : eY s = 0) : kJ s (jX s) = (dE s (bP s), 0) := by
 have hsok := dU.1 h0;have h8 := hsok.ok.rn8;have hl := oY h8 hsok.le;have h1 := plan_fol h8 hsok.le (f := (jX s).length) (Nat.le_refl _);have h2 := rpB_iff.2 (plan_ok h8 hsok.le);have h3 := dep_nn s (bP s)
 have e : depP s (jX s) = dE s (bP s) := by
  rw [← h1];unfold depP fW
  congr 1
  by_cases c : jX s = []
  ·rw [if_pos (by rw [c]; rfl), if_pos c]
  ·rw [if_neg (fun e => c (List.length_eq_zero_iff.1 e)), if_neg c]
 unfold kJ;rw [if_neg (by rw [h0]; simp), if_neg J, if_pos h2, e, if_neg J]
theorem RdE.wide {w : World} {lo hi l2 h2 : Nat} {v : Value} {sz : Nat} {es : List Value} (h : RdE w lo hi v sz es) (h1 : l2 ≤ lo) (h3 : hi ≤ h2) : RdE w l2 h2 v sz es := by
 obtain ⟨⟨hl, hr⟩, h4⟩ := h;refine ⟨⟨hl, ?_⟩, h4⟩;rcases hr with hr | ⟨b, off, cap, e, hp, hc⟩
 ·exact .inl hr
 ·exact .inr ⟨b, off, cap, e, fun hq => by have := hp hq; omega, hc⟩
theorem ScR.self {w w0 : World} {s : Sc} {tv rv : Value} (h : ScR w0 0 w0.heap.size tv rv s) (c : Chg [] w0 w) (hs : w0.heap.size ≤ w.heap.size) : ScR w 0 w.heap.size tv rv s := ⟨RdE.wide (RdE.keep h.t c) (Nat.le_refl _) hs, RdE.wide (RdE.keep h.r c) (Nat.le_refl _) hs⟩
theorem gD {w : World} {hi : Nat} {s : Sc} {tv rv uv : Value} (h : ScR w 0 hi tv rv s) (hu : RdS w 0 w.heap.size uv s.tests) (hw : hi ≤ w.heap.size) : ScR w 0 w.heap.size uv rv s := ⟨hu, RdE.wide h.r (Nat.le_refl _) hw⟩
def tLwG_9f6b35e : OT := bE [7] (.nil)
def iT : OT := bE [6] (tLwG_9f6b35e)
def lV : OT := bE [5] (iT)
def mR : OT := bE [4] (iT)
def tLwG_cae5bd2 : OT := .alt (bE [4] (lV)) (bE [5] (mR))
def jA : OT := bE [2, 3] (iT)
def mB : OT := .alt (bE [2, 3] (lV)) (bE [5] (jA))
def lN : OT := .alt (bE [2, 3] (mR)) (bE [4] (jA))
def tLwG_54d3bd4 : OT := .alt (bE [2, 3] (tLwG_cae5bd2)) (.alt (bE [4] (mB)) (bE [5] (lN)))
def mP : OT := bE [0, 1] (jA)
def tLwG_95e93e2 : OT := .alt (bE [0, 1] (mB)) (bE [5] (mP))
def tLwG_ae3c7f7 : OT := .alt (bE [0, 1] (lN)) (bE [4] (mP))
def tLwG_d8f867d : OT := .alt (bE [0, 1] (tLwG_54d3bd4)) (.alt (bE [4] (tLwG_95e93e2)) (bE [5] (tLwG_ae3c7f7)))
set_option maxRecDepth 20000 in
theorem fH (w : World) (s : Sc) (tv rv : Value) (h : ScR w 0 w.heap.size tv rv s) : Ca Tryz.prog 5 [.agg (scC s tv rv).toArray] w fun r w' => r = .bool true ∧ Chg [] w w' := by
 obtain ⟨ta, tc, rfl, _⟩ := RdS.outI h.t;obtain ⟨ra, rc, rfl, _⟩ := RdI.outI h.r;refine cN (Sat.nil w M0) Tryz.func5 Z (by simp [Tryz.ntmps5]) ?_;(refine aC (aB ?_));refine bR Z Z (fun b1 => ?_);rw [bL];(refine aA1 zq (aD (aC (aC (aB ?_)))); refine aP U Z Z Z ?_);cases hg : grtB s 8 with
 | true =>
  refine aI (val := .bool true) U Z Z Z Z (fun w hs => ?_) ?_; exact by have := pV w 0 w.heap.size s (.slice ta s.tests.length tc) (.slice ra s.rifles.length rc) 8 (ScR.self h hs.chg0 hs.chg.size); rw [hg] at this; exact this
  (refine aD (aH Z (aC (aB ?_))))
  refine aI (val := .bool true) U Z Z Z Z (fun w hs => ?_) ?_; exact cY w;(refine aA1 zq (aD (aS ?_)));refine aA5 wq O fun w hs => ?_;exact ⟨Z, hs.chg0⟩
 | false =>
  obtain ⟨_, hr12, ht14⟩ := grtB_false hg;refine aI (val := .bool false) U Z Z Z Z (fun w hs => ?_) ?_; exact by have := pV w 0 w.heap.size s (.slice ta s.tests.length tc) (.slice ra s.rifles.length rc) 8 (ScR.self h hs.chg0 hs.chg.size); rw [hg] at this; exact this
  (refine aD (aG Z (aK (aC ?_))))
  refine fT (σ := Option Addr × Nat × Option Addr × Nat × Option Addr × Nat × Nat × Nat) (fun ⟨p1, q1, r1, z1, p3, q3, b3, b4⟩ => [(1, aC0 b1), (3, aC0 b3), (4, aC0 b4)]) (fun ⟨p1, q1, r1, z1, p3, q3, b3, b4⟩ => [.ow (.slice p1 s.tests.length q1) 78 2 s.tests.length (spC s.tests), .ow (.slice r1 s.rifles.length z1) 3 1 s.rifles.length (aX s.rifles), .ow (.slice p3 s.tests.length q3) 172 2 s.tests.length (spC s.tests), .pt b3 (scC s (.slice p1 s.tests.length q1) (.slice r1 s.rifles.length z1)) 46, .pt b4 (scC s (.slice p3 s.tests.length q3) (.slice ra s.rifles.length rc)) 51, .pt b1 (scC s (.slice ta s.tests.length tc) (.slice ra s.rifles.length rc)) 46]) ?_ ?_;rotate_left
  ·intro K2 hK2;refine eQ (tLwG_d8f867d) _ [] (Sp.refl _) qB qB ?_;refine cH (σ := Option Addr × Nat × Option Addr × Nat × Option Addr × Nat × Nat × Nat × Unit) (.nil) (fun ⟨p1, q1, r1, z1, p3, q3, b3, b4, ()⟩ => [(1, aC0 b1), (3, aC0 b3), (4, aC0 b4)]) (fun ⟨p1, q1, r1, z1, p3, q3, b3, b4, ()⟩ => [.ow (.slice p1 s.tests.length q1) 78 2 s.tests.length (spC s.tests), .ow (.slice r1 s.rifles.length z1) 3 1 s.rifles.length (aX s.rifles), .ow (.slice p3 s.tests.length q3) 172 2 s.tests.length (spC s.tests), .pt b3 (scC s (.slice p1 s.tests.length q1) (.slice r1 s.rifles.length z1)) 46, .pt b4 (scC s (.slice p3 s.tests.length q3) (.slice ra s.rifles.length rc)) 51]) ?_ (fun hS1_3_4_5_6_7 => ?_)
   ·rintro ⟨p1, q1, r1, z1, p3, q3, b3, b4, _⟩;exact dD (hK2 (p1, q1, r1, z1, p3, q3, b3, b4) _ _ ⟨Z, Z, Z, trivial⟩ O)
   refine cH (σ := Option Addr × Nat × Option Addr × Nat × Option Addr × Nat × Nat × Nat × Unit) (tLwG_9f6b35e) (fun ⟨p1, q1, r1, z1, p3, q3, b3, b4, ()⟩ => [(1, aC0 b1), (26, .agg (scC s (.slice p3 s.tests.length q3) (.slice ra s.rifles.length rc)).toArray), (3, aC0 b3), (4, aC0 b4)]) (fun ⟨p1, q1, r1, z1, p3, q3, b3, b4, ()⟩ => [.ow (.slice p1 s.tests.length q1) 78 2 s.tests.length (spC s.tests), .ow (.slice r1 s.rifles.length z1) 3 1 s.rifles.length (aX s.rifles), .ow (.slice p3 s.tests.length q3) 172 2 s.tests.length (spC s.tests), .pt b3 (scC s (.slice p1 s.tests.length q1) (.slice r1 s.rifles.length z1)) 46, .pt b4 [.int .i64 0, .int .i64 0, .slice none 0 0, .slice none 0 0] 51]) ?_ (fun hS1_3_4_5_6 => ?_)
   ·rintro ⟨p1, q1, r1, z1, p3, q3, b3, b4, _⟩;refine bA qA fun K1 hK1 => ?_
    (refine aB7 Wa O Z ?_; refine aN ?_)
    exact hK1 _ _ (hS1_3_4_5_6_7 ⟨p1, q1, r1, z1, p3, q3, b3, b4, ()⟩ _ _ ⟨Z, Z, Z, trivial⟩ O)
   refine cH (σ := Option Addr × Nat × Option Addr × Nat × Option Addr × Nat × Nat × Nat × Unit) (iT) (fun ⟨p1, q1, r1, z1, p3, q3, b3, b4, ()⟩ => [(1, aC0 b1), (24, .agg (scC s (.slice p1 s.tests.length q1) (.slice r1 s.rifles.length z1)).toArray), (26, .agg (scC s (.slice p3 s.tests.length q3) (.slice ra s.rifles.length rc)).toArray), (3, aC0 b3), (4, aC0 b4)]) (fun ⟨p1, q1, r1, z1, p3, q3, b3, b4, ()⟩ => [.ow (.slice p1 s.tests.length q1) 78 2 s.tests.length (spC s.tests), .ow (.slice r1 s.rifles.length z1) 3 1 s.rifles.length (aX s.rifles), .ow (.slice p3 s.tests.length q3) 172 2 s.tests.length (spC s.tests), .pt b3 [.int .i64 0, .int .i64 0, .slice none 0 0, .slice none 0 0] 46, .pt b4 [.int .i64 0, .int .i64 0, .slice none 0 0, .slice none 0 0] 51]) ?_ (fun hS1_3_4_5 => ?_)
   ·rintro ⟨p1, q1, r1, z1, p3, q3, b3, b4, _⟩;refine bA qA fun K1 hK1 => ?_
    (refine aB7 Wa O Z ?_; refine aN ?_)
    exact hK1 _ _ (hS1_3_4_5_6 ⟨p1, q1, r1, z1, p3, q3, b3, b4, ()⟩ _ _ ⟨Z, Z, Z, Z, trivial⟩ O)
   refine cH (σ := Option Addr × Nat × Option Addr × Nat × Option Addr × Nat × Nat × Unit) (lV) (fun ⟨p1, q1, r1, z1, p3, q3, b3, ()⟩ => [(1, aC0 b1), (24, .agg (scC s (.slice p1 s.tests.length q1) (.slice r1 s.rifles.length z1)).toArray), (26, .agg (scC s (.slice p3 s.tests.length q3) (.slice ra s.rifles.length rc)).toArray), (3, aC0 b3)]) (fun ⟨p1, q1, r1, z1, p3, q3, b3, ()⟩ => [.ow (.slice p1 s.tests.length q1) 78 2 s.tests.length (spC s.tests), .ow (.slice r1 s.rifles.length z1) 3 1 s.rifles.length (aX s.rifles), .ow (.slice p3 s.tests.length q3) 172 2 s.tests.length (spC s.tests), .pt b3 [.int .i64 0, .int .i64 0, .slice none 0 0, .slice none 0 0] 46]) ?_ (fun hS1_3_4 => ?_)
   ·rintro ⟨p1, q1, r1, z1, p3, q3, b3, _⟩;refine bA qA fun K1 hK1 => ?_
    refine bG fE Z (fun b4 => ?_);(refine aN ?_);exact hK1 _ _ (hS1_3_4_5 ⟨p1, q1, r1, z1, p3, q3, b3, b4, ()⟩ _ _ ⟨Z, Z, Z, Z, Z, trivial⟩ O)
   refine cH (σ := Option Addr × Nat × Option Addr × Nat × Option Addr × Nat × Nat × Unit) (mR) (fun ⟨p1, q1, r1, z1, p3, q3, b4, ()⟩ => [(1, aC0 b1), (24, .agg (scC s (.slice p1 s.tests.length q1) (.slice r1 s.rifles.length z1)).toArray), (26, .agg (scC s (.slice p3 s.tests.length q3) (.slice ra s.rifles.length rc)).toArray), (4, aC0 b4)]) (fun ⟨p1, q1, r1, z1, p3, q3, b4, ()⟩ => [.ow (.slice p1 s.tests.length q1) 78 2 s.tests.length (spC s.tests), .ow (.slice r1 s.rifles.length z1) 3 1 s.rifles.length (aX s.rifles), .ow (.slice p3 s.tests.length q3) 172 2 s.tests.length (spC s.tests), .pt b4 [.int .i64 0, .int .i64 0, .slice none 0 0, .slice none 0 0] 51]) ?_ (fun hS1_3_5 => ?_)
   ·rintro ⟨p1, q1, r1, z1, p3, q3, b4, _⟩;refine bA qA fun K1 hK1 => ?_
    refine bG dY Z (fun b3 => ?_);(refine aN ?_);exact hK1 _ _ (hS1_3_4_5 ⟨p1, q1, r1, z1, p3, q3, b3, b4, ()⟩ _ _ ⟨Z, Z, Z, Z, Z, trivial⟩ O)
   refine cH (σ := Option Addr × Nat × Option Addr × Nat × Nat × Nat × Unit) (jA) (fun ⟨p1, q1, r1, z1, b3, b4, ()⟩ => [(1, aC0 b1), (24, .agg (scC s (.slice p1 s.tests.length q1) (.slice r1 s.rifles.length z1)).toArray), (3, aC0 b3), (4, aC0 b4)]) (fun ⟨p1, q1, r1, z1, b3, b4, ()⟩ => [.ow (.slice p1 s.tests.length q1) 78 2 s.tests.length (spC s.tests), .ow (.slice r1 s.rifles.length z1) 3 1 s.rifles.length (aX s.rifles), .pt b3 [.int .i64 0, .int .i64 0, .slice none 0 0, .slice none 0 0] 46, .pt b4 [.int .i64 0, .int .i64 0, .slice none 0 0, .slice none 0 0] 51]) ?_ (fun hS1_4_5 => ?_)
   ·rintro ⟨p1, q1, r1, z1, b3, b4, _⟩;refine bA qA fun K1 hK1 => ?_
    (refine aV U Z Z Z ?_)
    refine bX (β := Value) (ψ := fun y v => v = .agg (scC s y (.slice ra s.rifles.length rc)).toArray) (L' := fun y => [.ow y 172 2 s.tests.length (spC s.tests)]) U [] _ M0 Z Z Z Z (Sp.refl _) qC (fun w' hs => eU w' 0 w.heap.size s _ _ (h.keep hs.chg0) J) ?_;rintro u3 _ rfl;dsimp only [List.cons_append, List.nil_append];refine bO (fun w hs => hs.slice2 (v := u3) O) ?_;rintro ⟨p3, q3, rfl⟩;(refine aN ?_);exact hK1 _ _ (hS1_3_4_5 ⟨p1, q1, r1, z1, p3, q3, b3, b4, ()⟩ _ _ ⟨Z, Z, Z, Z, Z, trivial⟩ O)
   refine cH (σ := Option Addr × Nat × Option Addr × Nat × Option Addr × Nat × Unit) (tLwG_cae5bd2) (fun ⟨p1, q1, r1, z1, p3, q3, ()⟩ => [(1, aC0 b1), (24, .agg (scC s (.slice p1 s.tests.length q1) (.slice r1 s.rifles.length z1)).toArray), (26, .agg (scC s (.slice p3 s.tests.length q3) (.slice ra s.rifles.length rc)).toArray)]) (fun ⟨p1, q1, r1, z1, p3, q3, ()⟩ => [.ow (.slice p1 s.tests.length q1) 78 2 s.tests.length (spC s.tests), .ow (.slice r1 s.rifles.length z1) 3 1 s.rifles.length (aX s.rifles), .ow (.slice p3 s.tests.length q3) 172 2 s.tests.length (spC s.tests)]) ?_ (fun hS1_3 => ?_)
   ·rintro ⟨p1, q1, r1, z1, p3, q3, _⟩;refine cA ?_ ?_
    ·refine bA qA fun K1 hK1 => ?_;refine bG dY Z (fun b3 => ?_)
     (refine aN ?_)
     exact hK1 _ _ (hS1_3_4 ⟨p1, q1, r1, z1, p3, q3, b3, ()⟩ _ _ ⟨Z, Z, Z, Z, trivial⟩ O)
    ·refine bA qA fun K1 hK1 => ?_;refine bG fE Z (fun b4 => ?_)
     (refine aN ?_)
     exact hK1 _ _ (hS1_3_5 ⟨p1, q1, r1, z1, p3, q3, b4, ()⟩ _ _ ⟨Z, Z, Z, Z, trivial⟩ O)
   refine cH (σ := Option Addr × Nat × Option Addr × Nat × Nat × Unit) (mB) (fun ⟨p1, q1, r1, z1, b3, ()⟩ => [(1, aC0 b1), (24, .agg (scC s (.slice p1 s.tests.length q1) (.slice r1 s.rifles.length z1)).toArray), (3, aC0 b3)]) (fun ⟨p1, q1, r1, z1, b3, ()⟩ => [.ow (.slice p1 s.tests.length q1) 78 2 s.tests.length (spC s.tests), .ow (.slice r1 s.rifles.length z1) 3 1 s.rifles.length (aX s.rifles), .pt b3 [.int .i64 0, .int .i64 0, .slice none 0 0, .slice none 0 0] 46]) ?_ (fun hS1_4 => ?_)
   ·rintro ⟨p1, q1, r1, z1, b3, _⟩;refine cA ?_ ?_
    ·refine bA qA fun K1 hK1 => ?_;(refine aV U Z Z Z ?_)
     refine bX (β := Value) (ψ := fun y v => v = .agg (scC s y (.slice ra s.rifles.length rc)).toArray) (L' := fun y => [.ow y 172 2 s.tests.length (spC s.tests)]) U [] _ M0 Z Z Z Z (Sp.refl _) qC (fun w' hs => eU w' 0 w.heap.size s _ _ (h.keep hs.chg0) J) ?_;rintro u3 _ rfl;dsimp only [List.cons_append, List.nil_append];refine bO (fun w hs => hs.slice2 (v := u3) O) ?_;rintro ⟨p3, q3, rfl⟩;(refine aN ?_);exact hK1 _ _ (hS1_3_4 ⟨p1, q1, r1, z1, p3, q3, b3, ()⟩ _ _ ⟨Z, Z, Z, Z, trivial⟩ O)
    ·refine bA qA fun K1 hK1 => ?_;refine bG fE Z (fun b4 => ?_)
     (refine aN ?_)
     exact hK1 _ _ (hS1_4_5 ⟨p1, q1, r1, z1, b3, b4, ()⟩ _ _ ⟨Z, Z, Z, Z, trivial⟩ O)
   refine cH (σ := Option Addr × Nat × Option Addr × Nat × Nat × Unit) (lN) (fun ⟨p1, q1, r1, z1, b4, ()⟩ => [(1, aC0 b1), (24, .agg (scC s (.slice p1 s.tests.length q1) (.slice r1 s.rifles.length z1)).toArray), (4, aC0 b4)]) (fun ⟨p1, q1, r1, z1, b4, ()⟩ => [.ow (.slice p1 s.tests.length q1) 78 2 s.tests.length (spC s.tests), .ow (.slice r1 s.rifles.length z1) 3 1 s.rifles.length (aX s.rifles), .pt b4 [.int .i64 0, .int .i64 0, .slice none 0 0, .slice none 0 0] 51]) ?_ (fun hS1_5 => ?_)
   ·rintro ⟨p1, q1, r1, z1, b4, _⟩;refine cA ?_ ?_
    ·refine bA qA fun K1 hK1 => ?_;(refine aV U Z Z Z ?_)
     refine bX (β := Value) (ψ := fun y v => v = .agg (scC s y (.slice ra s.rifles.length rc)).toArray) (L' := fun y => [.ow y 172 2 s.tests.length (spC s.tests)]) U [] _ M0 Z Z Z Z (Sp.refl _) qC (fun w' hs => eU w' 0 w.heap.size s _ _ (h.keep hs.chg0) J) ?_;rintro u3 _ rfl;dsimp only [List.cons_append, List.nil_append];refine bO (fun w hs => hs.slice2 (v := u3) O) ?_;rintro ⟨p3, q3, rfl⟩;(refine aN ?_);exact hK1 _ _ (hS1_3_5 ⟨p1, q1, r1, z1, p3, q3, b4, ()⟩ _ _ ⟨Z, Z, Z, Z, trivial⟩ O)
    ·refine bA qA fun K1 hK1 => ?_;refine bG dY Z (fun b3 => ?_)
     (refine aN ?_)
     exact hK1 _ _ (hS1_4_5 ⟨p1, q1, r1, z1, b3, b4, ()⟩ _ _ ⟨Z, Z, Z, Z, trivial⟩ O)
   refine cH (σ := Nat × Nat × Unit) (mP) (fun ⟨b3, b4, ()⟩ => [(1, aC0 b1), (3, aC0 b3), (4, aC0 b4)]) (fun ⟨b3, b4, ()⟩ => [.pt b3 [.int .i64 0, .int .i64 0, .slice none 0 0, .slice none 0 0] 46, .pt b4 [.int .i64 0, .int .i64 0, .slice none 0 0, .slice none 0 0] 51]) ?_ (fun hS4_5 => ?_)
   ·rintro ⟨b3, b4, _⟩;refine bA qA fun K1 hK1 => ?_
    (refine aV U Z Z Z ?_)
    refine bX (β := Value × Value) (ψ := fun y v => v = .agg (scC s y.1 y.2).toArray) (L' := fun y => [.ow y.1 78 2 s.tests.length (spC s.tests), .ow y.2 3 1 s.rifles.length (aX s.rifles)]) U [] _ M0 Z Z Z Z (Sp.refl _) qC (fun w' hs => eS w' 0 w.heap.size s _ _ (h.keep hs.chg0) J J) ?_;rintro ⟨u1, v1⟩ _ rfl;dsimp only [List.cons_append, List.nil_append];refine bO (fun w hs => hs.slice2 (v := u1) O) ?_;rintro ⟨p1, q1, rfl⟩;refine bO (fun w hs => hs.slice2 (v := v1) O) ?_;rintro ⟨r1, z1, rfl⟩;(refine aN ?_);exact hK1 _ _ (hS1_4_5 ⟨p1, q1, r1, z1, b3, b4, ()⟩ _ _ ⟨Z, Z, Z, Z, trivial⟩ O)
   refine cH (σ := Option Addr × Nat × Option Addr × Nat × Unit) (tLwG_54d3bd4) (fun ⟨p1, q1, r1, z1, ()⟩ => [(1, aC0 b1), (24, .agg (scC s (.slice p1 s.tests.length q1) (.slice r1 s.rifles.length z1)).toArray)]) (fun ⟨p1, q1, r1, z1, ()⟩ => [.ow (.slice p1 s.tests.length q1) 78 2 s.tests.length (spC s.tests), .ow (.slice r1 s.rifles.length z1) 3 1 s.rifles.length (aX s.rifles)]) ?_ (fun hS1 => ?_)
   ·rintro ⟨p1, q1, r1, z1, _⟩;refine cA ?_ (cA ?_ ?_)
    ·refine bA qA fun K1 hK1 => ?_;(refine aV U Z Z Z ?_)
     refine bX (β := Value) (ψ := fun y v => v = .agg (scC s y (.slice ra s.rifles.length rc)).toArray) (L' := fun y => [.ow y 172 2 s.tests.length (spC s.tests)]) U [] _ M0 Z Z Z Z (Sp.refl _) qC (fun w' hs => eU w' 0 w.heap.size s _ _ (h.keep hs.chg0) J) ?_;rintro u3 _ rfl;dsimp only [List.cons_append, List.nil_append];refine bO (fun w hs => hs.slice2 (v := u3) O) ?_;rintro ⟨p3, q3, rfl⟩;(refine aN ?_);exact hK1 _ _ (hS1_3 ⟨p1, q1, r1, z1, p3, q3, ()⟩ _ _ ⟨Z, Z, Z, trivial⟩ O)
    ·refine bA qA fun K1 hK1 => ?_;refine bG dY Z (fun b3 => ?_)
     (refine aN ?_)
     exact hK1 _ _ (hS1_4 ⟨p1, q1, r1, z1, b3, ()⟩ _ _ ⟨Z, Z, Z, trivial⟩ O)
    ·refine bA qA fun K1 hK1 => ?_;refine bG fE Z (fun b4 => ?_)
     (refine aN ?_)
     exact hK1 _ _ (hS1_5 ⟨p1, q1, r1, z1, b4, ()⟩ _ _ ⟨Z, Z, Z, trivial⟩ O)
   refine cH (σ := Nat × Unit) (tLwG_95e93e2) (fun ⟨b3, ()⟩ => [(1, aC0 b1), (3, aC0 b3)]) (fun ⟨b3, ()⟩ => [.pt b3 [.int .i64 0, .int .i64 0, .slice none 0 0, .slice none 0 0] 46]) ?_ (fun hS4 => ?_)
   ·rintro ⟨b3, _⟩;refine cA ?_ ?_
    ·refine bA qA fun K1 hK1 => ?_;(refine aV U Z Z Z ?_)
     refine bX (β := Value × Value) (ψ := fun y v => v = .agg (scC s y.1 y.2).toArray) (L' := fun y => [.ow y.1 78 2 s.tests.length (spC s.tests), .ow y.2 3 1 s.rifles.length (aX s.rifles)]) U [] _ M0 Z Z Z Z (Sp.refl _) qC (fun w' hs => eS w' 0 w.heap.size s _ _ (h.keep hs.chg0) J J) ?_;rintro ⟨u1, v1⟩ _ rfl;dsimp only [List.cons_append, List.nil_append];refine bO (fun w hs => hs.slice2 (v := u1) O) ?_;rintro ⟨p1, q1, rfl⟩;refine bO (fun w hs => hs.slice2 (v := v1) O) ?_;rintro ⟨r1, z1, rfl⟩;(refine aN ?_);exact hK1 _ _ (hS1_4 ⟨p1, q1, r1, z1, b3, ()⟩ _ _ ⟨Z, Z, Z, trivial⟩ O)
    ·refine bA qA fun K1 hK1 => ?_;refine bG fE Z (fun b4 => ?_)
     (refine aN ?_)
     exact hK1 _ _ (hS4_5 ⟨b3, b4, ()⟩ _ _ ⟨Z, Z, Z, trivial⟩ O)
   refine cH (σ := Nat × Unit) (tLwG_ae3c7f7) (fun ⟨b4, ()⟩ => [(1, aC0 b1), (4, aC0 b4)]) (fun ⟨b4, ()⟩ => [.pt b4 [.int .i64 0, .int .i64 0, .slice none 0 0, .slice none 0 0] 51]) ?_ (fun hS5 => ?_)
   ·rintro ⟨b4, _⟩;refine cA ?_ ?_
    ·refine bA qA fun K1 hK1 => ?_;(refine aV U Z Z Z ?_)
     refine bX (β := Value × Value) (ψ := fun y v => v = .agg (scC s y.1 y.2).toArray) (L' := fun y => [.ow y.1 78 2 s.tests.length (spC s.tests), .ow y.2 3 1 s.rifles.length (aX s.rifles)]) U [] _ M0 Z Z Z Z (Sp.refl _) qC (fun w' hs => eS w' 0 w.heap.size s _ _ (h.keep hs.chg0) J J) ?_;rintro ⟨u1, v1⟩ _ rfl;dsimp only [List.cons_append, List.nil_append];refine bO (fun w hs => hs.slice2 (v := u1) O) ?_;rintro ⟨p1, q1, rfl⟩;refine bO (fun w hs => hs.slice2 (v := v1) O) ?_;rintro ⟨r1, z1, rfl⟩;(refine aN ?_);exact hK1 _ _ (hS1_5 ⟨p1, q1, r1, z1, b4, ()⟩ _ _ ⟨Z, Z, Z, trivial⟩ O)
    ·refine bA qA fun K1 hK1 => ?_;refine bG dY Z (fun b3 => ?_)
     (refine aN ?_)
     exact hK1 _ _ (hS4_5 ⟨b3, b4, ()⟩ _ _ ⟨Z, Z, Z, trivial⟩ O)
   refine cA ?_ (cA ?_ ?_)
   ·refine bA qA fun K1 hK1 => ?_;(refine aV U Z Z Z ?_)
    refine bX (β := Value × Value) (ψ := fun y v => v = .agg (scC s y.1 y.2).toArray) (L' := fun y => [.ow y.1 78 2 s.tests.length (spC s.tests), .ow y.2 3 1 s.rifles.length (aX s.rifles)]) U [] _ M0 Z Z Z Z (Sp.refl _) qC (fun w' hs => eS w' 0 w.heap.size s _ _ (h.keep hs.chg0) J J) ?_;rintro ⟨u1, v1⟩ _ rfl;dsimp only [List.cons_append, List.nil_append];refine bO (fun w hs => hs.slice2 (v := u1) O) ?_;rintro ⟨p1, q1, rfl⟩;refine bO (fun w hs => hs.slice2 (v := v1) O) ?_;rintro ⟨r1, z1, rfl⟩;(refine aN ?_);exact hK1 _ _ (hS1 ⟨p1, q1, r1, z1, ()⟩ _ _ ⟨Z, Z, trivial⟩ O)
   ·refine bA qA fun K1 hK1 => ?_;refine bG dY Z (fun b3 => ?_)
    (refine aN ?_)
    exact hK1 _ _ (hS4 ⟨b3, ()⟩ _ _ ⟨Z, Z, trivial⟩ O)
   ·refine bA qA fun K1 hK1 => ?_;refine bG fE Z (fun b4 => ?_)
    (refine aN ?_)
    exact hK1 _ _ (hS5 ⟨b4, ()⟩ _ _ ⟨Z, Z, trivial⟩ O)
  rintro ⟨p1, q1, r1, z1, p3, q3, b3, b4⟩;dsimp only;have m1 : s.tests.length ≤ maxLen := by simp only [maxLen]; omega
  have m2 : s.rifles.length ≤ maxLen := by simp only [maxLen]; omega
  (refine aC (aC ?_))
  refine bZ _ [] (Sp.refl _) qB qB ?_;(refine aV U Z Z Z ?_);refine bN (val := .int .i64 (mC s)) U Z Z Z Z (fun w hs => ?_) ?_; exact lO w 0 w.heap.size s _ _ ⟨bY (hs.mem (c := .ow (.slice p1 s.tests.length q1) 78 2 s.tests.length (spC s.tests)) O) rfl, bU (hs.mem (c := .ow (.slice r1 s.rifles.length z1) 3 1 s.rifles.length (aX s.rifles)) O) Z⟩ m1 m2;(refine aV U Z Z Z ?_);refine bN (val := .int .i64 (mC s)) U Z Z Z Z (fun w hs => ?_) ?_; exact rchkS_ca w 0 w.heap.size s _ _ (gD (h.keep hs.chg0) (bY (hs.mem (c := .ow (.slice p3 s.tests.length q3) 172 2 s.tests.length (spC s.tests)) O) Z) hs.chg.size) m1 m2;(refine qf_neqF U Z Z Z J (aN (aG Z (aK (aC (aB ?_))))); refine aP U Z Z Z ?_);refine aI (val := .tuple #[iN (offU s), .int .i64 (eY s)]) U Z Z Z Z (fun w hs => ?_) ?_; exact roff_u w 0 w.heap.size s _ _ ⟨bY (hs.mem (c := .ow (.slice p1 s.tests.length q1) 78 2 s.tests.length (spC s.tests)) O) rfl, bU (hs.mem (c := .ow (.slice r1 s.rifles.length z1) 3 1 s.rifles.length (aX s.rifles)) O) Z⟩ m1 m2;(refine aA1 zq (aB5 xq (aB5 xq ?_)));refine bF dR Z (fun b5 => ?_);(refine aB6 Wa O Z ?_; refine aA1 zq (aD (aC (aB ?_))); refine aP U Z Z Z ?_);refine aI (val := .tuple #[iN (offU s), .int .i64 (eY s)]) U Z Z Z Z (fun w hs => ?_) ?_; exact rroff_u w 0 w.heap.size s _ _ (gD (h.keep hs.chg0) (bY (hs.mem (c := .ow (.slice p3 s.tests.length q3) 172 2 s.tests.length (spC s.tests)) O) Z) hs.chg.size) m1 m2;(refine aA1 zq (aB5 xq (aB5 xq ?_)));refine bF dR Z (fun b7 => ?_);(refine aB6 Wa O Z ?_; refine aA1 zq (aD (aC (aC (aB ?_)))); (iterate 2 refine aP U Z Z Z ?_));refine ql_neF [some .i64, some .i64] spn_flat Z Z Z Z Z ?_;rw [show eqL (List.take 2 (List.drop 0 [Value.int .i64 (offU s).1, .int .i64 (offU s).2])) (List.take 2 (List.drop 0 [Value.int .i64 (offU s).1, .int .i64 (offU s).2])) = true from kK _];(refine aA1 zq (aE Z (aA1 zq (aE Z (aA1 zq (aE Z (aA6 xq J (aA1 zq (aD (aG Z (aK (aC ?_))))))))))); refine aB ?_; refine aP U Z Z Z ?_);refine bC (β := Nat × Nat × Int) (ψ := fun y v => v = .tuple #[.int .i64 y.1, .int .i64 y.2.1, .int .i64 y.2.2] ∧ ClU s y.1 y.2.1 y.2.2) (L' := fun _ => []) U [] _ M0 Z Z Z Z (Sp.refl _) qC (fun w' hs => (clash_u w' 0 w'.heap.size s _ _ ⟨bY (hs.mem (c := .ow (.slice p1 s.tests.length q1) 78 2 s.tests.length (spC s.tests)) O) rfl, bU (hs.mem (c := .ow (.slice r1 s.rifles.length z1) 3 1 s.rifles.length (aX s.rifles)) O) Z⟩ m1 m2)) ?_;rintro ⟨i1, k1, e1⟩ _ ⟨rfl, hc1⟩;dsimp only [List.cons_append, List.nil_append] at hc1 ⊢;(refine aA1 zq ?_; (iterate 3 refine aB5 xq ?_); (iterate 3 refine aA1 zq ?_); refine aD (aC (aB ?_)); refine aP U Z Z Z ?_);refine bC (β := Nat × Nat × Int) (ψ := fun y v => v = .tuple #[.int .i64 y.1, .int .i64 y.2.1, .int .i64 y.2.2] ∧ ClU s y.1 y.2.1 y.2.2) (L' := fun _ => []) U [] _ M0 Z Z Z Z (Sp.refl _) qC (fun w' hs => rclash_u w' 0 w'.heap.size s _ _ (gD (h.keep hs.chg0) (bY (hs.mem (c := .ow (.slice p3 s.tests.length q3) 172 2 s.tests.length (spC s.tests)) O) Z) hs.chg.size) m1 m2) ?_;rintro ⟨i2, k2, e2⟩ _ ⟨rfl, hc2⟩
  dsimp only [List.cons_append, List.nil_append] at hc2 ⊢;obtain ⟨c1, c2, c3⟩ := clu_uniq hc1 hc2;subst c1 c2 c3;(refine aA1 zq ?_; (iterate 3 refine aB5 xq ?_); (iterate 3 refine aA1 zq ?_); refine aD (aC (aC (aB (aA1 zq (aA1 zq (aA6 xq J (aA1 zq (aE Z (aA1 zq (aE Z (aA1 zq ?_))))))))))); refine aE Z (aA6 xq J (aA1 zq (aA1 zq (aE Z (aA1 zq (aE Z (aA1 zq (aE Z (aA6 xq J (aA1 zq (aD ?_))))))))))); refine aG Z (aK (aC (aB ?_))); refine aP U Z Z Z ?_);by_cases h0 : eY s = 0
  ·have hsok := dU.1 h0;have hol := openL_len s (bP s);have hpl := pasL_len s s.rifles.length;have hrn8 := hsok.ok.rn8;refine bC (β := Value) U [] _ M0 Z Z Z Z (Sp.refl _) qC (fun w' hs => weights_ok w' 0 w'.heap.size s _ _ ⟨bY (hs.mem (c := .ow (.slice p1 s.tests.length q1) 78 2 s.tests.length (spC s.tests)) O) rfl, bU (hs.mem (c := .ow (.slice r1 s.rifles.length z1) 3 1 s.rifles.length (aX s.rifles)) O) Z⟩ hsok) ?_;rintro vl _ rfl;dsimp only [List.cons_append, List.nil_append];(refine aA1 zq (aB5 xq (aB5 xq (aA1 zq (aA1 zq (aD (aC (aB ?_))))))); refine aP U Z Z Z ?_);refine bC (β := Value) U [] _ M0 Z Z Z Z (Sp.refl _) qC (fun w' hs => rweights_ok w' 0 w'.heap.size s _ _ (gD (h.keep hs.chg0) (bY (hs.mem (c := .ow (.slice p3 s.tests.length q3) 172 2 s.tests.length (spC s.tests)) O) Z) hs.chg.size) hsok) ?_;rintro vm _ rfl;dsimp only [List.cons_append, List.nil_append];(refine aA1 zq (aB5 xq (aB5 xq (aA1 zq (aA1 zq (aD (aC (aC (aB (aA1 zq (aA1 zq (aA6 xq J ?_))))))))))); refine aA1 zq (aE Z (aA1 zq (aE Z (aA1 zq (aE Z ?_))))));refine aI (val := .bool true) U Z Z Z Z (fun w hs => ?_) ?_; exact eqS_ca w 0 w.heap.size 0 w.heap.size vl vm (wgtL s s.rifles.length) (bY (hs.mem (c := .ow vl 56 2 s.rifles.length (spC (wgtL s s.rifles.length))) O) (wgtL_len _ _).symm) (bY (hs.mem (c := .ow vm 56 2 s.rifles.length (spC (wgtL s s.rifles.length))) O) (wgtL_len _ _).symm) (by rw [wgtL_len]; omega);(refine aE Z (aA1 zq (aA1 zq (aD (aG Z (aK (aC (aB ?_))))))); refine aP U Z Z Z ?_);refine bC (β := Value) U [] _ M0 Z Z Z Z (Sp.refl _) qC (fun w' hs => passed_ok w' 0 w'.heap.size s _ _ ⟨bY (hs.mem (c := .ow (.slice p1 s.tests.length q1) 78 2 s.tests.length (spC s.tests)) O) rfl, bU (hs.mem (c := .ow (.slice r1 s.rifles.length z1) 3 1 s.rifles.length (aX s.rifles)) O) Z⟩ hsok) ?_;rintro vp _ rfl;dsimp only [List.cons_append, List.nil_append];(refine aA1 zq (aB5 xq (aB5 xq (aA1 zq (aA1 zq (aD (aC (aB ?_))))))); refine aP U Z Z Z ?_);refine bC (β := Value) U [] _ M0 Z Z Z Z (Sp.refl _) qC (fun w' hs => ropen_ok w' 0 w'.heap.size s _ _ ⟨bY (hs.mem (c := .ow (.slice p1 s.tests.length q1) 78 2 s.tests.length (spC s.tests)) O) rfl, bU (hs.mem (c := .ow (.slice r1 s.rifles.length z1) 3 1 s.rifles.length (aX s.rifles)) O) Z⟩ hsok) ?_;rintro vo _ rfl;dsimp only [List.cons_append, List.nil_append];(refine aA1 zq (aB5 xq (aB5 xq (aA1 zq (aA1 zq (aD (aC (aB ?_))))))); refine aP U Z Z Z ?_);refine bC (β := Value × Value) U [] _ M0 Z Z Z Z (Sp.refl _) qC (fun w' hs => rpassed_ok w' 0 w'.heap.size s _ _ (gD (h.keep hs.chg0) (bY (hs.mem (c := .ow (.slice p3 s.tests.length q3) 172 2 s.tests.length (spC s.tests)) O) Z) hs.chg.size) hsok) ?_;rintro ⟨vq, vr⟩ _ rfl;dsimp only [List.cons_append, List.nil_append];(refine aA1 zq ?_; (iterate 3 refine aB5 xq ?_); (iterate 3 refine aA1 zq ?_); refine aD (aC (aB (aA1 zq (aA1 zq (aB2 xq J (aA1 zq (aE Z (aA1 zq (aE Z (aA1 zq (aE Z ?_))))))))))); refine aB2 xq J (aA1 zq (aA1 zq (aE Z (aA1 zq (aE Z (aA1 zq (aE Z ?_))))))));refine aI (val := .bool true) U Z Z Z Z (fun w hs => ?_) ?_; exact gR w 0 w.heap.size 0 w.heap.size vp vq (nI (pasL s s.rifles.length)) (hs.rdI (v := vp) (t := 3) (n := (pasL s s.rifles.length).length) O (eC _).symm) (hs.rdI (v := vq) (t := 3) (n := (pasL s s.rifles.length).length) O (eC _).symm) (by rw [eC]; omega)
   (refine aA1 zq (aA1 zq (aE Z (aA1 zq (aE Z (aA1 zq (aE Z ?_)))))))
   refine aI (val := .bool true) U Z Z Z Z (fun w hs => ?_) ?_; exact gR w 0 w.heap.size 0 w.heap.size vo vr (nI (dO s (bP s))) (hs.rdI (v := vo) (t := 3) (n := (dO s (bP s)).length) O (eC _).symm) (hs.rdI (v := vr) (t := 3) (n := (dO s (bP s)).length) O (eC _).symm) (by rw [eC]; omega);(refine aA1 zq (aA1 zq (aE Z ?_)); refine aP U Z Z Z ?_; refine aE Z ?_; refine aP U Z Z Z ?_; refine aE Z ?_);refine aI (val := .bool true) U Z Z Z Z (fun w hs => ?_) ?_; exact nF w 0 w.heap.size 0 w.heap.size s _ _ (.slice ta s.tests.length tc) (.slice ra s.rifles.length rc) ⟨bY (hs.mem (c := .ow (.slice p1 s.tests.length q1) 78 2 s.tests.length (spC s.tests)) O) rfl, bU (hs.mem (c := .ow (.slice r1 s.rifles.length z1) 3 1 s.rifles.length (aX s.rifles)) O) Z⟩ (ScR.self h hs.chg0 hs.chg.size) J J;(refine aA1 zq (aA1 zq (aE Z ?_)));refine aI (val := .bool true) U Z Z Z Z (fun w hs => ?_) ?_; exact cY w;(refine aA1 zq (aA1 zq (aD (aS ?_))));refine aA5 wq O fun w hs => ?_;exact ⟨Z, hs.chg0⟩
  ·refine aI (val := .tuple #[.slice none 0 0, .int .i64 (eY s)]) U Z Z Z Z (fun w hs => ?_) ?_; exact weights_no w 0 w.heap.size s _ _ ⟨bY (hs.mem (c := .ow (.slice p1 s.tests.length q1) 78 2 s.tests.length (spC s.tests)) O) rfl, bU (hs.mem (c := .ow (.slice r1 s.rifles.length z1) 3 1 s.rifles.length (aX s.rifles)) O) Z⟩ m1 m2 h0;(refine aA1 zq (aB5 xq (aB5 xq (aA1 zq (aA1 zq (aD (aC (aB ?_))))))); refine aP U Z Z Z ?_);refine aI (val := .tuple #[.slice none 0 0, .int .i64 (eY s)]) U Z Z Z Z (fun w hs => ?_) ?_; exact rweights_no w 0 w.heap.size s _ _ (gD (h.keep hs.chg0) (bY (hs.mem (c := .ow (.slice p3 s.tests.length q3) 172 2 s.tests.length (spC s.tests)) O) Z) hs.chg.size) m1 m2 h0;(refine aA1 zq (aB5 xq (aB5 xq (aA1 zq (aA1 zq (aD (aC (aC (aB (aA1 zq (aA1 zq (aA6 xq J ?_))))))))))); refine aA1 zq (aE Z (aA1 zq (aE Z (aA1 zq (aE Z ?_))))));refine aI (val := .bool true) U Z Z Z Z (fun w hs => ?_) ?_; exact eqS_ca w 0 w.heap.size 0 w.heap.size _ _ [] (rdS_nil _ _ _) (rdS_nil _ _ _) (by simp);(refine aE Z (aA1 zq (aA1 zq (aD (aG Z (aK (aC (aB ?_))))))); refine aP U Z Z Z ?_);refine aI (val := .tuple #[.slice none 0 0, .int .i64 (eY s)]) U Z Z Z Z (fun w hs => ?_) ?_; exact passed_no w 0 w.heap.size s _ _ ⟨bY (hs.mem (c := .ow (.slice p1 s.tests.length q1) 78 2 s.tests.length (spC s.tests)) O) rfl, bU (hs.mem (c := .ow (.slice r1 s.rifles.length z1) 3 1 s.rifles.length (aX s.rifles)) O) Z⟩ m1 m2 h0;(refine aA1 zq (aB5 xq (aB5 xq (aA1 zq (aA1 zq (aD (aC (aB ?_))))))); refine aP U Z Z Z ?_);refine aI (val := .tuple #[.slice none 0 0, .int .i64 (eY s)]) U Z Z Z Z (fun w hs => ?_) ?_; exact ropen_no w 0 w.heap.size s _ _ ⟨bY (hs.mem (c := .ow (.slice p1 s.tests.length q1) 78 2 s.tests.length (spC s.tests)) O) rfl, bU (hs.mem (c := .ow (.slice r1 s.rifles.length z1) 3 1 s.rifles.length (aX s.rifles)) O) Z⟩ m1 m2 h0;(refine aA1 zq (aB5 xq (aB5 xq (aA1 zq (aA1 zq (aD (aC (aB ?_))))))); refine aP U Z Z Z ?_);refine aI (val := .tuple #[.slice none 0 0, .slice none 0 0, .int .i64 (eY s)]) U Z Z Z Z (fun w hs => ?_) ?_; exact rpassed_no w 0 w.heap.size s _ _ (gD (h.keep hs.chg0) (bY (hs.mem (c := .ow (.slice p3 s.tests.length q3) 172 2 s.tests.length (spC s.tests)) O) Z) hs.chg.size) m1 m2 h0;(refine aA1 zq ?_; (iterate 3 refine aB5 xq ?_); (iterate 3 refine aA1 zq ?_); refine aD (aC (aB (aA1 zq (aA1 zq (aB2 xq J (aA1 zq (aE Z (aA1 zq (aE Z (aA1 zq (aE Z ?_))))))))))); refine aB2 xq J (aA1 zq (aA1 zq (aE Z (aA1 zq (aE Z (aA1 zq (aE Z ?_))))))));refine aI (val := .bool true) U Z Z Z Z (fun w hs => ?_) ?_; exact gR w 0 w.heap.size 0 w.heap.size _ _ [] (jS _ _ _) (jS _ _ _) (by simp);(refine aA1 zq (aA1 zq (aE Z (aA1 zq (aE Z (aA1 zq (aE Z ?_)))))));refine aI (val := .bool true) U Z Z Z Z (fun w hs => ?_) ?_; exact gR w 0 w.heap.size 0 w.heap.size _ _ [] (jS _ _ _) (jS _ _ _) (by simp);(refine aA1 zq (aA1 zq (aE Z ?_)); refine aP U Z Z Z ?_; refine aE Z ?_; refine aP U Z Z Z ?_; refine aE Z ?_);refine aI (val := .bool true) U Z Z Z Z (fun w hs => ?_) ?_; exact nF w 0 w.heap.size 0 w.heap.size s _ _ (.slice ta s.tests.length tc) (.slice ra s.rifles.length rc) ⟨bY (hs.mem (c := .ow (.slice p1 s.tests.length q1) 78 2 s.tests.length (spC s.tests)) O) rfl, bU (hs.mem (c := .ow (.slice r1 s.rifles.length z1) 3 1 s.rifles.length (aX s.rifles)) O) Z⟩ (ScR.self h hs.chg0 hs.chg.size) J J
   (refine aA1 zq (aA1 zq (aE Z ?_)))
   refine aI (val := .bool true) U Z Z Z Z (fun w hs => ?_) ?_; exact cY w;(refine aA1 zq (aA1 zq (aD (aS ?_))));refine aA5 wq O fun w hs => ?_;exact ⟨Z, hs.chg0⟩
end Go.Proofs.YtopdmadgkjdgcaaGreat
