/- My texts U0, U1, D1, D2, D3, D4, D5, D6, B13, D7, D8, R1, X0, Y0, X1, X2, X3, X4, X5, X6, X7, X8, X9, X10, X11, Y1, E2, E3, B14, B15, H0, H1, H2, H3, E4, E5, E6, H4, H5, H6, M0, joined: a claim takes at most 60 files. -/
import Derived.Test.YtohlillcaadidaaGreatJ3

/- Walks: Two, Winds. -/
namespace Go.Proofs.YtohlillcaadidaaGreat
open Go Go.Eng

theorem Blk.rdI {w : World} {b : Nat} {l : List Int} {t : TypeId} {c : Nat} (h : Blk w b (aZ l) t) : RdI w 0 w.heap.size (.slice (some ⟨b, 0, none⟩) l.length c) l :=
 RdI.of ((Blk.rd h (by simp) c).wide (Nat.zero_le _) h.lt)
theorem RdII.of {w : World} {lo hi : Nat} {v : Value} {ll : List (List Int)} {vs : List Value} (h : Rd w lo hi v 1 vs.length vs) (h1 : vs.length = ll.length) (h2 : ∀ i (h : i < vs.length) (h' : i < ll.length), RdI w lo hi vs[i] ll[i]) (h3 : ∀ e ∈ vs, dY e = true) : RdII w lo hi v ll :=
 ⟨vs, RdE.one h h3, h1, h2⟩

/-- Pieces that hold a range. -/
def OwnR (L : List Ck) (cs : List Value) (r : Rg) : Prop := ∀ w, (∀ c ∈ L, c.p w) → RgC w cs r
theorem OwnR.at {L : List Ck} {cs : List Value} {r : Rg} {w0 w : World} {M : Nat → Prop} {H : List Ck} (h : OwnR L cs r) (hs : Sat w0 M H w) (hm : un L ∈ H) : RgC w cs r := h w (hs.mem hm).1

/-- The range of example 1. -/
def fP : Rg := ⟨2, 2, 1, 2, [1, 2, 1], [0, 3], [1, 1], [[2, 0], [0, 2]]⟩
abbrev twoC (b1 b2 b3 b6 : Nat) : List Value := [.int .i64 2, .int .i64 2, .int .i64 1, .int .i64 2, .slice (some ⟨b1, 0, none⟩) 3 3, .slice (some ⟨b2, 0, none⟩) 2 2, .slice (some ⟨b3, 0, none⟩) 2 2, .slice (some ⟨b6, 0, none⟩) 2 2]
abbrev twoL (n1 n2 n3 n4 : Int) (b1 b2 b3 b4 b5 b6 : Nat) : List Ck := [.pt b6 [.slice (some ⟨b4, 0, none⟩) 2 2, .slice (some ⟨b5, 0, none⟩) 2 2] 22, .pt b5 (aZ [n3, n4]) 3, .pt b4 (aZ [n1, n2]) 3, .pt b3 (aZ [1, 1]) 3, .pt b2 (aZ [0, 3]) 3, .pt b1 (aZ [1, 2, 1]) 3]
theorem gE {w : World} {n1 n2 n3 n4 : Int} {b1 b2 b3 b4 b5 b6 : Nat} {t1 t2 t3 t4 t5 t6 : TypeId} (g1 : Blk w b1 (aZ [1, 2, 1]) t1) (g2 : Blk w b2 (aZ [0, 3]) t2) (g3 : Blk w b3 (aZ [1, 1]) t3) (g4 : Blk w b4 (aZ [n1, n2]) t4) (g5 : Blk w b5 (aZ [n3, n4]) t5)
  (g6 : Blk w b6 [.slice (some ⟨b4, 0, none⟩) 2 2, .slice (some ⟨b5, 0, none⟩) 2 2] t6) : RgC w (twoC b1 b2 b3 b6) ⟨2, 2, 1, 2, [1, 2, 1], [0, 3], [1, 1], [[n1, n2], [n3, n4]]⟩ := by
 refine ⟨0, w.heap.size, _, _, _, _, _, _, _, _, Z, Blk.rdI g1, Blk.rdI g2, Blk.rdI g3, ?_⟩
 refine RdII.of ((Blk.rd g6 Z 2).wide (Nat.zero_le _) g6.lt) Z (fun i hi hi' => ?_) (by simp [dY])
 have : i = 0 ∨ i = 1 := by simp at hi; omega
 rcases this with rfl | rfl
 ·exact Blk.rdI g4
 ·exact Blk.rdI g5
theorem twoL_own (n1 n2 n3 n4 : Int) (b1 b2 b3 b4 b5 b6 : Nat) : OwnR (twoL n1 n2 n3 n4 b1 b2 b3 b4 b5 b6) (twoC b1 b2 b3 b6) ⟨2, 2, 1, 2, [1, 2, 1], [0, 3], [1, 1], [[n1, n2], [n3, n4]]⟩ := by
 intro w h
 have g6 : Blk w b6 _ _ := h _ (.head _)
 have g5 : Blk w b5 _ _ := h _ (.tail _ (.head _))
 have g4 : Blk w b4 _ _ := h _ (.tail _ (.tail _ (.head _)))
 have g3 : Blk w b3 _ _ := h _ (.tail _ (.tail _ (.tail _ (.head _))))
 have g2 : Blk w b2 _ _ := h _ (.tail _ (.tail _ (.tail _ (.tail _ (.head _)))))
 have g1 : Blk w b1 _ _ := h _ (.tail _ (.tail _ (.tail _ (.tail _ (.tail _ (.head _))))))
 exact gE g1 g2 g3 g4 g5 g6

theorem fC (w : World) : Ca Tryz.prog 21 [] w fun v w' => ∃ x : Nat × Nat × Nat × Nat × Nat × Nat, v = .agg (twoC x.1 x.2.1 x.2.2.1 x.2.2.2.2.2).toArray ∧ Sat w M0 (twoL 2 0 0 2 x.1 x.2.1 x.2.2.1 x.2.2.2.1 x.2.2.2.2.1 x.2.2.2.2.2) w' := by
 refine dB (Sat.nil w M0) Tryz.func21 Z (by simp [Tryz.ntmps21]) ?_
 (refine aE (aB ?_))
 refine aV cU Z (fun b0 => ?_)
 (refine aF (aE (aB ?_)))
 refine dP 3 [.int .i64 1, .int .i64 2, .int .i64 1] Z qR Z (fun b1 => ?_)
 refine dP 3 [.int .i64 0, .int .i64 3] Z qR Z (fun b2 => ?_)
 refine dP 3 [.int .i64 1, .int .i64 1] Z qR Z (fun b3 => ?_)
 refine dP 3 [.int .i64 2, .int .i64 0] Z qR Z (fun b4 => ?_)
 refine dP 3 [.int .i64 0, .int .i64 2] Z qR Z (fun b5 => ?_)
 refine dP 22 [.slice (some ⟨b4, 0, none⟩) 2 2, .slice (some ⟨b5, 0, none⟩) 2 2] Z qR Z (fun b6 => ?_)
 refine cE (twoC b1 b2 b3 b6).toArray Z qR Z ?_
 (refine aY V Z Z Z Z Z U Z ?_; refine aF (aW ?_))
 refine aX V Z U fun w hs => ?_
 exact ⟨(b1, b2, b3, b4, b5, b6), Z, hs.sp U⟩
theorem eW (w : World) : Ca Tryz.prog 21 [] w fun v w' => ∃ x : List Ck × List Value, (v = .agg x.2.toArray ∧ OwnR x.1 x.2 fP) ∧ Sat w M0 [un x.1] w' :=
 (fC w).mono fun v w' ⟨(b1, b2, b3, b4, b5, b6), hv, hs⟩ => ⟨(_, _), ⟨hv, twoL_own 2 0 0 2 b1 b2 b3 b4 b5 b6⟩, Sat.un1.2 hs⟩

theorem qB (lo hi : Int) (w : World) : Ca Tryz.prog 22 [.int .i64 lo, .int .i64 hi] w fun v w' => ∃ b : Nat, v = .slice (some ⟨b, 0, none⟩) 5 5 ∧ Sat w M0 [.pt b [.int .i64 lo, .int .i64 hi, .int .i64 lo, .int .i64 hi, .int .i64 lo, .int .i64 hi, .int .i64 lo, .int .i64 hi, .int .i64 lo, .int .i64 hi] 32] w' := by
 refine dB (Sat.nil w M0) Tryz.func22 Z (by simp [Tryz.ntmps22]) ?_
 (refine aE (aB (aA V Z Z (aF (aE (aB (aA V Z Z (aA V Z Z ?_))))))))
 refine cE #[.int .i64 lo, .int .i64 hi] Z qR Z ?_
 refine aV qI Z (fun b0 => ?_)
 (refine aY V Z Z Z Z Z U Z ?_; refine aF (aE (aB ?_)); (iterate 5 refine aI V Z Z Z ?_))
 refine dP 32 [.int .i64 lo, .int .i64 hi, .int .i64 lo, .int .i64 hi, .int .i64 lo, .int .i64 hi, .int .i64 lo, .int .i64 hi, .int .i64 lo, .int .i64 hi] Z qR Z (fun b => ?_)
 (refine aA V Z Z (aF (aW ?_)))
 refine aX V Z U fun w hs => ?_
 exact ⟨b, Z, hs.sp U⟩

end Go.Proofs.YtohlillcaadidaaGreat

/- Walks: awake. -/
namespace Go.Proofs.YtohlillcaadidaaGreat
open Go Go.Eng

def ruA : Ru := ⟨240, 20, 0, 0⟩
def ruB : Ru := ⟨240, 100, 30, 1⟩
def twoX : Rg := ⟨2, 2, 1, 2, [1, 2, 1], [0, 3], [1, 1], [[1, 1], [1, 1]]⟩
def winds03 : List (Int × Int) := [(0, 3), (0, 3), (0, 3), (0, 3), (0, 3)]
theorem bP : fP.Small := ⟨by decide, by decide, by decide, by decide, by decide⟩
theorem twoX_small : twoX.Small := ⟨by decide, by decide, by decide, by decide, by decide⟩
theorem aw_hit : hitV fP 1 0 = ((1, 4), 0) := by decide +kernel
theorem aw_exp : mG fP 1 = ((25, 8), 0) := by decide +kernel
theorem aw_best : jS fP = (-1, (5, 8), 0) := by decide +kernel
theorem aw_rob : nF fP winds03 = (-1, (5, 4), 0) := by decide +kernel
theorem aw_zero : iV fP [4, 5, -1] = (0, 0) := by decide +kernel
theorem aw_rules : cH fP ruA = 0 := by decide +kernel
theorem aw_drift : eR [(10, 20), (-5, 5)] [3, 1] = ((25, 65), 0) := by decide +kernel
theorem aw_len : (plcL fP ruA).length = 30 := by decide +kernel
theorem aw_ch : cZ fP ruA 0 0 1 0 = ((false, -1), 0) := by decide +kernel
theorem aw_chx : cZ twoX ruB 4 1 1 0 = ((true, 0), 0) := by decide +kernel
theorem eE : cG fP ruA [1, 1, 1, 1, 1] [0, 0, 0, 0, 1] = ((0, 20, 5), 0) := by decide +kernel
theorem aw_prove : eM fP ruA ((plcL fP ruA).map (nG fP ruA)) = ((10, 1), 0) := by decide +kernel
theorem eZ : oN Tryz.prog 36 [some .i64, some .i64] = true := by kernel_rfl
theorem spn_flat : oN Tryz.prog 32 [some .i64, some .i64] = true := by kernel_rfl
theorem ply_flat : oN Tryz.prog 78 [some .i64, some .i64, some .i64] = true := by kernel_rfl
theorem Blk.rdS {w : World} {b : Nat} {l : List (Int × Int)} {cs : List Value} {t : TypeId} {c : Nat} (h : Blk w b cs t) (hc : cs = cellsOf (l.map rtV)) : RdS w 0 w.heap.size (.slice (some ⟨b, 0, none⟩) l.length c) l := by
 refine ⟨?_, fun e he => ?_⟩
 ·subst hc
  have hl : (cellsOf (l.map rtV)).length = (l.map rtV).length * 2 := jE _ (fun e he => by obtain ⟨x, _, rfl⟩ := List.mem_map.1 he; rfl)
  refine ⟨hl, .inr ⟨b, 0, c, by simp, fun _ => ⟨Nat.zero_le _, h.lt, h.lt⟩, fun j _ => by rw [Blk.cell h]; simp⟩⟩
 ·obtain ⟨x, _, rfl⟩ := List.mem_map.1 he
  rfl

set_option maxHeartbeats 4000000 in
theorem dQ (w : World) : Ca Tryz.prog 6 [] w fun v w' => v = .bool true ∧ Chg [] w w' := by
 refine dB (Sat.nil w M0) Tryz.func6 Z (by simp [Tryz.ntmps6]) ?_
 (refine aE (aB (aA V Z Z (aF (aE (aB ?_))))))
 refine bO (β := List Ck × List Value) V [] _ M0 Z Z Z Z (Sp.refl _) qS (fun w' hs => eW w') ?_
 rintro ⟨L1, cs1⟩ _ ⟨rfl, ho1⟩
 refine aJ (val := .tuple #[.agg #[.int .i64 (1), .int .i64 (4)], .int .i64 (0)]) V Z Z Z Z (fun w hs => ?_) ?_; exact by have := hit_ca w cs1 fP 1 0 (ho1.at hs U) bP; rw [aw_hit] at this; exact this
 (refine aA V Z Z (bC V Z Z Z (bC V Z Z Z ?_)))
 refine aV cO Z (fun b1 => ?_)
 (refine aY V Z Z Z Z Z U Z ?_; refine aA V Z Z (aF (aE (aB ?_))))
 refine bO (β := List Ck × List Value) V [] _ M0 Z Z Z Z (Sp.refl _) qS (fun w' hs => eW w') ?_
 rintro ⟨L2, cs2⟩ _ ⟨rfl, ho2⟩
 refine aJ (val := .tuple #[.agg #[.int .i64 (25), .int .i64 (8)], .int .i64 (0)]) V Z Z Z Z (fun w hs => ?_) ?_; exact by have := expectedF_ca w cs2 fP 1 (ho2.at hs U) bP; rw [aw_exp] at this; exact this
 (refine aA V Z Z (bC V Z Z Z (bC V Z Z Z ?_)))
 refine aV cO Z (fun b3 => ?_)
 (refine aY V Z Z Z Z Z U Z ?_; refine aA V Z Z (aF (aE (aB ?_))))
 refine bO (β := List Ck × List Value) V [] _ M0 Z Z Z Z (Sp.refl _) qS (fun w' hs => eW w') ?_
 rintro ⟨L3, cs3⟩ _ ⟨rfl, ho3⟩
 refine aJ (val := .tuple #[.int .i64 (-1), .agg #[.int .i64 (5), .int .i64 (8)], .int .i64 (0)]) V Z Z Z Z (fun w hs => ?_) ?_; exact by have := bestF_ca w cs3 fP (ho3.at hs U) bP; rw [aw_best] at this; exact this
 (refine aA V Z Z ?_; (iterate 3 refine bC V Z Z Z ?_))
 refine aV cO Z (fun b6 => ?_)
 (refine aA V Z Z ?_; refine aY V Z Z Z Z Z U Z ?_; refine aA V Z Z (aF (aE (aB ?_))))
 refine bO (β := List Ck × List Value) V [] _ M0 Z Z Z Z (Sp.refl _) qS (fun w' hs => eW w') ?_
 rintro ⟨L4, cs4⟩ _ ⟨rfl, ho4⟩
 refine bO (β := Nat) V [] _ M0 Z Z Z Z (Sp.refl _) qS (fun w' hs => qB 0 3 w') ?_
 rintro bw _ rfl
 refine aJ (val := .tuple #[.int .i64 (-1), .agg #[.int .i64 (5), .int .i64 (4)], .int .i64 (0)]) V Z Z Z Z (fun w hs => ?_) ?_; exact by have := robF_ca w 0 w.heap.size cs4 fP _ winds03 (ho4.at hs U) bP (Blk.rdS (c := 5) (hs.blk (b := bw) U) Z) (by decide); rw [aw_rob] at this; exact this
 (refine aA V Z Z ?_; (iterate 3 refine bC V Z Z Z ?_))
 refine aV cO Z (fun b9 => ?_)
 (refine aA V Z Z ?_; refine aY V Z Z Z Z Z U Z ?_; refine aA V Z Z (aF (aE (aB ?_))))
 refine bO (β := List Ck × List Value) V [] _ M0 Z Z Z Z (Sp.refl _) qS (fun w' hs => eW w') ?_
 rintro ⟨L5, cs5⟩ _ ⟨rfl, ho5⟩
 refine dP 3 (aZ [4, 5, -1]) Z qR Z (fun bz => ?_)
 refine aJ (val := .tuple #[.int .i64 (0), .int .i64 (0)]) V Z Z Z Z (fun w hs => ?_) ?_; exact by have := zeroF_ca w 0 w.heap.size cs5 fP _ [4, 5, -1] (ho5.at hs U) bP (Blk.rdI (c := 3) (hs.blk (b := bz) U)) (by decide); rw [aw_zero] at this; exact this
 (refine aA V Z Z (bC V Z Z Z (bC V Z Z Z (aA V Z Z (aA V Z Z (aF (aE (aE (aB ?_)))))))); (iterate 3 refine aA V Z Z ?_); refine aC Z (aA V Z Z (aC Z ?_)); (iterate 3 refine aA V Z Z ?_); refine aC Z (aA V Z Z (aC Z ?_)); (iterate 3 refine aA V Z Z ?_); refine aC Z (aA V Z Z (aC Z ?_)); (iterate 3 refine aA V Z Z ?_); refine aC Z (aA V Z Z (aC Z ?_)); (iterate 3 refine aA V Z Z ?_); refine aC Z ?_; refine aI V Z Z Z ?_; refine aC Z ?_)
 refine cE #[.int .i64 1, .int .i64 4] Z qR Z ?_
 (refine aC Z ?_)
 refine mL (xs := [.int .i64 1, .int .i64 4]) (ys := [.int .i64 1, .int .i64 4]) [some .i64, some .i64] eZ Z Z Z Z Z ?_
 (refine aA V Z Z (aA V Z Z (aC Z ?_)); refine aI V Z Z Z ?_; refine aC Z ?_)
 refine cE #[.int .i64 25, .int .i64 8] Z qR Z ?_
 (refine aC Z ?_)
 refine mL (xs := [.int .i64 25, .int .i64 8]) (ys := [.int .i64 25, .int .i64 8]) [some .i64, some .i64] eZ Z Z Z Z Z ?_
 (refine aA V Z Z (aA V Z Z (aC Z (aA V Z Z (aC Z ?_)))); (iterate 3 refine aA V Z Z ?_); refine aC Z ?_; refine aI V Z Z Z ?_; refine aC Z ?_)
 refine cE #[.int .i64 5, .int .i64 8] Z qR Z ?_
 (refine aC Z ?_)
 refine mL (xs := [.int .i64 5, .int .i64 8]) (ys := [.int .i64 5, .int .i64 8]) [some .i64, some .i64] eZ Z Z Z Z Z ?_
 (refine aA V Z Z (aA V Z Z (aC Z (aA V Z Z (aC Z ?_)))); (iterate 3 refine aA V Z Z ?_); refine aC Z ?_; refine aI V Z Z Z ?_; refine aC Z ?_)
 refine cE #[.int .i64 5, .int .i64 4] Z qR Z ?_
 (refine aC Z ?_)
 refine mL (xs := [.int .i64 5, .int .i64 4]) (ys := [.int .i64 5, .int .i64 4]) [some .i64, some .i64] eZ Z Z Z Z Z ?_
 (refine aA V Z Z (aA V Z Z (aC Z (aA V Z Z (aC Z (aA V Z Z (aA V Z Z (aF (aL Z (aR (aE (aB ?_))))))))))))
 refine cE #[.int .i64 240, .int .i64 20, .int .i64 0, .int .i64 0] Z qR Z ?_
 refine aV zero56 Z (fun b13 => ?_)
 (refine aY V Z Z Z Z Z U Z ?_; refine aF (aE ?_))
 refine q_keep [(13, .pointer (some ⟨b13, 0, none⟩))] [.pt b13 [.int .i64 240, .int .i64 20, .int .i64 0, .int .i64 0] 56] ⟨Z, trivial⟩ U ?_
 refine bX _ [] (Sp.refl _) qR qR ?_
 refine bD (β := List Ck × List Value) V [] _ M0 Z Z Z Z (Sp.refl _) qS (fun w' hs => eW w') ?_
 rintro ⟨L6, cs6⟩ _ ⟨rfl, ho6⟩
 (refine aO V Z Z Z ?_)
 refine bD (β := Value) V [] _ M0 Z Z Z Z (Sp.refl _) qS (fun w' hs => by have := qK w' cs6 fP ruA (ho6.at hs U) bP aw_rules; rw [aw_len] at this; exact this) ?_
 rintro x14 _ rfl
 (refine aD V Z Z Z (bT V Z Z Z (bT V Z Z Z (aD V Z Z Z (aD V Z Z Z (aK (aE ?_)))))))
 refine lS (fun w hs => hs.slice2 (v := x14) U) ?_
 rintro ⟨a14, c14, rfl⟩
 refine q_keep [(13, .pointer (some ⟨b13, 0, none⟩)), (14, .slice a14 30 c14), (2, .int .i64 0)] [.ow (.slice a14 30 c14) 3 1 30 (aZ ((plcL fP ruA).map (nG fP ruA))), .pt b13 [.int .i64 240, .int .i64 20, .int .i64 0, .int .i64 0] 56] ⟨Z, Z, Z, trivial⟩ U ?_
 refine jG (σ := Nat) (fun b15 => [(13, .pointer (some ⟨b13, 0, none⟩)), (14, .slice a14 30 c14), (2, .int .i64 0), (4, .int .i64 0), (15, .pointer (some ⟨b15, 0, none⟩))]) (fun b15 => [.pt b15 [.int .i64 10, .int .i64 1] 36, .ow (.slice a14 30 c14) 3 1 30 (aZ ((plcL fP ruA).map (nG fP ruA))), .pt b13 [.int .i64 240, .int .i64 20, .int .i64 0, .int .i64 0] 56]) ?_ (fun K2 hK2 => ?_)
 rotate_left
 ·refine gU (.alt (aN [0, 1, 2] (.alt (aN [3, 4, 5, 6, 7, 8, 9] (.nil)) (aN [7, 3, 4, 5, 6, 8, 9] (.nil)))) (aN [7, 0, 1, 2, 3, 4, 5, 6, 8, 9] (.nil))) _ [] (Sp.refl _) qR qR ?_
  refine bE ?_ ?_
  ·refine aQ J fun K1 hK1 => ?_
   refine bD (β := List Ck × List Value) V [] _ M0 Z Z Z Z (Sp.refl _) qS (fun w' hs => eW w') ?_
   rintro ⟨L, cs⟩ _ ⟨rfl, ho⟩
   (refine aO V Z Z Z ?_; refine aD V Z Z Z (aK ?_))
   refine hK1 _ _ ?_
   refine bE ?_ ?_
   ·refine aQ J fun K1 hK1 => ?_
    refine aS (val := .tuple #[.agg #[.int .i64 (10), .int .i64 (1)], .int .i64 (0)]) V Z Z Z Z (fun w hs => ?_) ?_
    ·have := qL w 0 w.heap.size cs fP ruA _ _ (ho.at hs U) bP (hs.rdI (v := .slice a14 30 c14) (l := (plcL fP ruA).map (nG fP ruA)) U (by rw [List.length_map, aw_len])) (by rw [List.length_map, aw_len]; decide); rw [aw_prove] at this; exact this
    (refine aD V Z Z Z (bT V Z Z Z (bT V Z Z Z ?_)))
    refine aU cO Z (fun b15 => ?_)
    (refine bK V Z Z Z Z Z U Z ?_; refine aD V Z Z Z (aK ?_))
    exact hK1 _ _ (bZ (hK2 b15 _ _ ⟨Z, Z, Z, Z, Z, trivial⟩ U))
   ·refine aQ J fun K1 hK1 => ?_
    refine aU cO Z (fun b15 => ?_)
    refine aS (val := .tuple #[.agg #[.int .i64 (10), .int .i64 (1)], .int .i64 (0)]) V Z Z Z Z (fun w hs => ?_) ?_
    ·have := qL w 0 w.heap.size cs fP ruA _ _ (ho.at hs U) bP (hs.rdI (v := .slice a14 30 c14) (l := (plcL fP ruA).map (nG fP ruA)) U (by rw [List.length_map, aw_len])) (by rw [List.length_map, aw_len]; decide); rw [aw_prove] at this; exact this
    (refine aD V Z Z Z (bT V Z Z Z (bT V Z Z Z ?_)); refine bK V Z Z Z Z Z U Z ?_; refine aD V Z Z Z (aK ?_))
    exact hK1 _ _ (bZ (hK2 b15 _ _ ⟨Z, Z, Z, Z, Z, trivial⟩ U))
  ·refine aQ J fun K1 hK1 => ?_
   refine aU cO Z (fun b15 => ?_)
   refine bD (β := List Ck × List Value) V [] _ M0 Z Z Z Z (Sp.refl _) qS (fun w' hs => eW w') ?_
   rintro ⟨L, cs⟩ _ ⟨rfl, ho⟩
   (refine aO V Z Z Z ?_; refine aD V Z Z Z ?_)
   refine aS (val := .tuple #[.agg #[.int .i64 (10), .int .i64 (1)], .int .i64 (0)]) V Z Z Z Z (fun w hs => ?_) ?_
   ·have := qL w 0 w.heap.size cs fP ruA _ _ (ho.at hs U) bP (hs.rdI (v := .slice a14 30 c14) (l := (plcL fP ruA).map (nG fP ruA)) U (by rw [List.length_map, aw_len])) (by rw [List.length_map, aw_len]; decide); rw [aw_prove] at this; exact this
   (refine aD V Z Z Z (bT V Z Z Z (bT V Z Z Z ?_)); refine bK V Z Z Z Z Z U Z ?_; refine aD V Z Z Z (aK ?_))
   exact hK1 _ _ (bZ (hK2 b15 _ _ ⟨Z, Z, Z, Z, Z, trivial⟩ U))
 intro b15
 (refine aE ?_)
 refine jG (σ := Nat) (fun b16 => [(13, .pointer (some ⟨b13, 0, none⟩)), (14, .slice a14 30 c14), (2, .int .i64 0), (4, .int .i64 0), (15, .pointer (some ⟨b15, 0, none⟩)), (16, .pointer (some ⟨b16, 0, none⟩)), (7, .int .i64 0)]) (fun b16 => [.pt b16 [.bool false, .int .i64 (-1)] 74, .pt b15 [.int .i64 10, .int .i64 1] 36, .ow (.slice a14 30 c14) 3 1 30 (aZ ((plcL fP ruA).map (nG fP ruA))), .pt b13 [.int .i64 240, .int .i64 20, .int .i64 0, .int .i64 0] 56]) ?_ (fun K2 hK2 => ?_)
 rotate_left
 ·refine gU (.alt (aN [0, 1] (.alt (aN [2, 3, 4, 5, 6, 7, 8] (.nil)) (aN [6, 2, 3, 4, 5, 7, 8] (.nil)))) (aN [6, 0, 1, 2, 3, 4, 5, 7, 8] (.nil))) _ [] (Sp.refl _) qR qR ?_
  refine bE ?_ ?_
  ·refine aQ J fun K1 hK1 => ?_
   refine bD (β := List Ck × List Value) V [] _ M0 Z Z Z Z (Sp.refl _) qS (fun w' hs => eW w') ?_
   rintro ⟨L, cs⟩ _ ⟨rfl, ho⟩
   (refine aO V Z Z Z ?_; refine aK ?_)
   refine hK1 _ _ ?_
   refine bE ?_ ?_
   ·refine aQ J fun K1 hK1 => ?_
    refine aS (val := .tuple #[.agg #[.bool false, .int .i64 (-1)], .int .i64 (0)]) V Z Z Z Z (fun w hs => ?_) ?_
    ·have := jU w cs fP ruA 0 0 1 0 (ho.at hs U) bP; rw [aw_ch] at this; exact this
    (refine aD V Z Z Z (bT V Z Z Z (bT V Z Z Z ?_)))
    refine aU hU Z (fun b16 => ?_)
    (refine bK V Z Z Z Z Z U Z ?_; refine aD V Z Z Z (aK ?_))
    exact hK1 _ _ (bZ (hK2 b16 _ _ ⟨Z, Z, Z, Z, Z, Z, Z, trivial⟩ U))
   ·refine aQ J fun K1 hK1 => ?_
    refine aU hU Z (fun b16 => ?_)
    refine aS (val := .tuple #[.agg #[.bool false, .int .i64 (-1)], .int .i64 (0)]) V Z Z Z Z (fun w hs => ?_) ?_
    ·have := jU w cs fP ruA 0 0 1 0 (ho.at hs U) bP; rw [aw_ch] at this; exact this
    (refine aD V Z Z Z (bT V Z Z Z (bT V Z Z Z ?_)); refine bK V Z Z Z Z Z U Z ?_; refine aD V Z Z Z (aK ?_))
    exact hK1 _ _ (bZ (hK2 b16 _ _ ⟨Z, Z, Z, Z, Z, Z, Z, trivial⟩ U))
  ·refine aQ J fun K1 hK1 => ?_
   refine aU hU Z (fun b16 => ?_)
   refine bD (β := List Ck × List Value) V [] _ M0 Z Z Z Z (Sp.refl _) qS (fun w' hs => eW w') ?_
   rintro ⟨L, cs⟩ _ ⟨rfl, ho⟩
   (refine aO V Z Z Z ?_)
   refine aS (val := .tuple #[.agg #[.bool false, .int .i64 (-1)], .int .i64 (0)]) V Z Z Z Z (fun w hs => ?_) ?_
   ·have := jU w cs fP ruA 0 0 1 0 (ho.at hs U) bP; rw [aw_ch] at this; exact this
   (refine aD V Z Z Z (bT V Z Z Z (bT V Z Z Z ?_)); refine bK V Z Z Z Z Z U Z ?_; refine aD V Z Z Z (aK ?_))
   exact hK1 _ _ (bZ (hK2 b16 _ _ ⟨Z, Z, Z, Z, Z, Z, Z, trivial⟩ U))
 intro b16
 (refine aE (aB ?_))
 refine bO (β := Nat × Nat × Nat × Nat × Nat × Nat) V [] _ M0 Z Z Z Z (Sp.refl _) qS (fun w' hs => fC w') ?_
 rintro ⟨b41, b42, b43, b44, b45, b46⟩ _ rfl
 refine aV cU Z (fun b17 => ?_)
 (refine aY V Z Z Z Z Z U Z ?_; refine aF (aE (aB ?_)))
 refine dP 3 (aZ [1, 1]) Z qR Z (fun b51 => ?_)
 refine dP 3 (aZ [1, 1]) Z qR Z (fun b52 => ?_)
 refine dP 22 [.slice (some ⟨b51, 0, none⟩) 2 2, .slice (some ⟨b52, 0, none⟩) 2 2] Z qR Z (fun b53 => ?_)
 (refine aA V Z Z ?_; refine ql_st7 V Z Z Z Z U ?_; refine aF (aE (aB ?_)); refine aI V Z Z Z ?_)
 refine cE #[.int .i64 240, .int .i64 100, .int .i64 30, .int .i64 1] Z qR Z ?_
 refine aJ (val := .tuple #[.agg #[.bool true, .int .i64 0], .int .i64 0]) V Z Z Z Z (fun w hs => ?_) ?_; exact by have := jU w (twoC b41 b42 b43 b53) twoX ruB 4 1 1 0 (gE (hs.blk (b := b41) U) (hs.blk (b := b42) U) (hs.blk (b := b43) U) (hs.blk (b := b51) U) (hs.blk (b := b52) U) (hs.blk (b := b53) U)) twoX_small; rw [aw_chx] at this; exact this
 (refine aA V Z Z (bC V Z Z Z (bC V Z Z Z ?_)))
 refine aV hU Z (fun b18 => ?_)
 (refine aY V Z Z Z Z Z U Z ?_; refine aA V Z Z (aF (aE ?_)))
 refine jG (σ := Nat) (fun b19 => [(14, .slice a14 30 c14), (2, .int .i64 0), (4, .int .i64 0), (7, .int .i64 0), (10, .int .i64 0), (12, .int .i64 0), (15, .pointer (some ⟨b15, 0, none⟩)), (16, .pointer (some ⟨b16, 0, none⟩)), (18, .pointer (some ⟨b18, 0, none⟩)), (19, .pointer (some ⟨b19, 0, none⟩))]) (fun b19 => [.pt b19 [.int .i64 0, .int .i64 20, .int .i64 5] 78, .pt b18 [.bool true, .int .i64 0] 74, .pt b16 [.bool false, .int .i64 (-1)] 74, .pt b15 [.int .i64 10, .int .i64 1] 36]) ?_ (fun K2 hK2 => ?_)
 rotate_left
 ·refine gU (.alt (aN [0, 1] (.alt (aN [2] (.alt (aN [3] (.alt (aN [4, 5, 6, 7, 8, 9, 10] (.nil)) (aN [8, 4, 5, 6, 7, 9, 10] (.nil)))) (aN [8, 3, 4, 5, 6, 7, 9, 10] (.nil)))) (.alt (aN [3] (.alt (aN [2] (.alt (aN [4, 5, 6, 7, 8, 9, 10] (.nil)) (aN [8, 4, 5, 6, 7, 9, 10] (.nil)))) (aN [8, 2, 4, 5, 6, 7, 9, 10] (.nil)))) (aN [8] (.alt (aN [2, 3, 4, 5, 6, 7, 9, 10] (.nil)) (aN [3, 2, 4, 5, 6, 7, 9, 10] (.nil))))))) (.alt (aN [2] (.alt (aN [0, 1] (.alt (aN [3] (.alt (aN [4, 5, 6, 7, 8, 9, 10] (.nil)) (aN [8, 4, 5, 6, 7, 9, 10] (.nil)))) (aN [8, 3, 4, 5, 6, 7, 9, 10] (.nil)))) (.alt (aN [3] (.alt (aN [0, 1] (.alt (aN [4, 5, 6, 7, 8, 9, 10] (.nil)) (aN [8, 4, 5, 6, 7, 9, 10] (.nil)))) (aN [8, 0, 1, 4, 5, 6, 7, 9, 10] (.nil)))) (aN [8] (.alt (aN [0, 1, 3, 4, 5, 6, 7, 9, 10] (.nil)) (aN [3, 0, 1, 4, 5, 6, 7, 9, 10] (.nil))))))) (.alt (aN [3] (.alt (aN [0, 1] (.alt (aN [2] (.alt (aN [4, 5, 6, 7, 8, 9, 10] (.nil)) (aN [8, 4, 5, 6, 7, 9, 10] (.nil)))) (aN [8, 2, 4, 5, 6, 7, 9, 10] (.nil)))) (.alt (aN [2] (.alt (aN [0, 1] (.alt (aN [4, 5, 6, 7, 8, 9, 10] (.nil)) (aN [8, 4, 5, 6, 7, 9, 10] (.nil)))) (aN [8, 0, 1, 4, 5, 6, 7, 9, 10] (.nil)))) (aN [8] (.alt (aN [0, 1, 2, 4, 5, 6, 7, 9, 10] (.nil)) (aN [2, 0, 1, 4, 5, 6, 7, 9, 10] (.nil))))))) (aN [8] (.alt (aN [0, 1] (.alt (aN [2, 3, 4, 5, 6, 7, 9, 10] (.nil)) (aN [3, 2, 4, 5, 6, 7, 9, 10] (.nil)))) (.alt (aN [2] (.alt (aN [0, 1, 3, 4, 5, 6, 7, 9, 10] (.nil)) (aN [3, 0, 1, 4, 5, 6, 7, 9, 10] (.nil)))) (aN [3] (.alt (aN [0, 1, 2, 4, 5, 6, 7, 9, 10] (.nil)) (aN [2, 0, 1, 4, 5, 6, 7, 9, 10] (.nil)))))))))) _ [] (Sp.refl _) qR qR ?_
  refine bE ?_ (bE ?_ (bE ?_ ?_))
  ·refine aQ J fun K1 hK1 => ?_
   refine bD (β := List Ck × List Value) V [] _ M0 Z Z Z Z (Sp.refl _) qS (fun w' hs => eW w') ?_
   rintro ⟨L, cs⟩ _ ⟨rfl, ho⟩
   (refine aO V Z Z Z ?_; refine aK ?_)
   refine hK1 _ _ ?_
   refine bE ?_ (bE ?_ ?_)
   ·refine aQ J fun K1 hK1 => ?_
    refine cA 3 (aZ [1, 1, 1, 1, 1]) Z qR Z (fun b61 => ?_)
    (refine aK ?_)
    refine hK1 _ _ ?_
    refine bE ?_ ?_
    ·refine aQ J fun K1 hK1 => ?_
     refine cA 3 (aZ [0, 0, 0, 0, 1]) Z qR Z (fun b62 => ?_)
     (refine aK ?_)
     refine hK1 _ _ ?_
     refine bE ?_ ?_
     ·refine aQ J fun K1 hK1 => ?_
      refine aS (val := .tuple #[.agg #[.int .i64 (0), .int .i64 (20), .int .i64 (5)], .int .i64 (0)]) V Z Z Z Z (fun w hs => ?_) ?_
      ·have := cK w 0 w.heap.size 0 w.heap.size cs fP ruA _ _ [1, 1, 1, 1, 1] [0, 0, 0, 0, 1] (ho.at hs U) bP (Blk.rdI (c := 5) (hs.blk (b := b61) U)) (Blk.rdI (c := 5) (hs.blk (b := b62) U)) (by decide) (by decide); rw [eE] at this; exact this
      (refine aD V Z Z Z (bT V Z Z Z (bT V Z Z Z ?_)))
      refine aU fB Z (fun b19 => ?_)
      (refine bK V Z Z Z Z Z U Z ?_; refine aD V Z Z Z (aK ?_))
      exact hK1 _ _ (bZ (hK2 b19 _ _ ⟨Z, Z, Z, Z, Z, Z, Z, Z, Z, Z, trivial⟩ U))
     ·refine aQ J fun K1 hK1 => ?_
      refine aU fB Z (fun b19 => ?_)
      refine aS (val := .tuple #[.agg #[.int .i64 (0), .int .i64 (20), .int .i64 (5)], .int .i64 (0)]) V Z Z Z Z (fun w hs => ?_) ?_
      ·have := cK w 0 w.heap.size 0 w.heap.size cs fP ruA _ _ [1, 1, 1, 1, 1] [0, 0, 0, 0, 1] (ho.at hs U) bP (Blk.rdI (c := 5) (hs.blk (b := b61) U)) (Blk.rdI (c := 5) (hs.blk (b := b62) U)) (by decide) (by decide); rw [eE] at this; exact this
      (refine aD V Z Z Z (bT V Z Z Z (bT V Z Z Z ?_)); refine bK V Z Z Z Z Z U Z ?_; refine aD V Z Z Z (aK ?_))
      exact hK1 _ _ (bZ (hK2 b19 _ _ ⟨Z, Z, Z, Z, Z, Z, Z, Z, Z, Z, trivial⟩ U))
    ·refine aQ J fun K1 hK1 => ?_
     refine aU fB Z (fun b19 => ?_)
     refine cA 3 (aZ [0, 0, 0, 0, 1]) Z qR Z (fun b62 => ?_)
     refine aS (val := .tuple #[.agg #[.int .i64 (0), .int .i64 (20), .int .i64 (5)], .int .i64 (0)]) V Z Z Z Z (fun w hs => ?_) ?_
     ·have := cK w 0 w.heap.size 0 w.heap.size cs fP ruA _ _ [1, 1, 1, 1, 1] [0, 0, 0, 0, 1] (ho.at hs U) bP (Blk.rdI (c := 5) (hs.blk (b := b61) U)) (Blk.rdI (c := 5) (hs.blk (b := b62) U)) (by decide) (by decide); rw [eE] at this; exact this
     (refine aD V Z Z Z (bT V Z Z Z (bT V Z Z Z ?_)); refine bK V Z Z Z Z Z U Z ?_; refine aD V Z Z Z (aK ?_))
     exact hK1 _ _ (bZ (hK2 b19 _ _ ⟨Z, Z, Z, Z, Z, Z, Z, Z, Z, Z, trivial⟩ U))
   ·refine aQ J fun K1 hK1 => ?_
    refine cA 3 (aZ [0, 0, 0, 0, 1]) Z qR Z (fun b62 => ?_)
    (refine aK ?_)
    refine hK1 _ _ ?_
    refine bE ?_ ?_
    ·refine aQ J fun K1 hK1 => ?_
     refine cA 3 (aZ [1, 1, 1, 1, 1]) Z qR Z (fun b61 => ?_)
     (refine aK ?_)
     refine hK1 _ _ ?_
     refine bE ?_ ?_
     ·refine aQ J fun K1 hK1 => ?_
      refine aS (val := .tuple #[.agg #[.int .i64 (0), .int .i64 (20), .int .i64 (5)], .int .i64 (0)]) V Z Z Z Z (fun w hs => ?_) ?_
      ·have := cK w 0 w.heap.size 0 w.heap.size cs fP ruA _ _ [1, 1, 1, 1, 1] [0, 0, 0, 0, 1] (ho.at hs U) bP (Blk.rdI (c := 5) (hs.blk (b := b61) U)) (Blk.rdI (c := 5) (hs.blk (b := b62) U)) (by decide) (by decide); rw [eE] at this; exact this
      (refine aD V Z Z Z (bT V Z Z Z (bT V Z Z Z ?_)))
      refine aU fB Z (fun b19 => ?_)
      (refine bK V Z Z Z Z Z U Z ?_; refine aD V Z Z Z (aK ?_))
      exact hK1 _ _ (bZ (hK2 b19 _ _ ⟨Z, Z, Z, Z, Z, Z, Z, Z, Z, Z, trivial⟩ U))
     ·refine aQ J fun K1 hK1 => ?_
      refine aU fB Z (fun b19 => ?_)
      refine aS (val := .tuple #[.agg #[.int .i64 (0), .int .i64 (20), .int .i64 (5)], .int .i64 (0)]) V Z Z Z Z (fun w hs => ?_) ?_
      ·have := cK w 0 w.heap.size 0 w.heap.size cs fP ruA _ _ [1, 1, 1, 1, 1] [0, 0, 0, 0, 1] (ho.at hs U) bP (Blk.rdI (c := 5) (hs.blk (b := b61) U)) (Blk.rdI (c := 5) (hs.blk (b := b62) U)) (by decide) (by decide); rw [eE] at this; exact this
      (refine aD V Z Z Z (bT V Z Z Z (bT V Z Z Z ?_)); refine bK V Z Z Z Z Z U Z ?_; refine aD V Z Z Z (aK ?_))
      exact hK1 _ _ (bZ (hK2 b19 _ _ ⟨Z, Z, Z, Z, Z, Z, Z, Z, Z, Z, trivial⟩ U))
    ·refine aQ J fun K1 hK1 => ?_
     refine aU fB Z (fun b19 => ?_)
     refine cA 3 (aZ [1, 1, 1, 1, 1]) Z qR Z (fun b61 => ?_)
     refine aS (val := .tuple #[.agg #[.int .i64 (0), .int .i64 (20), .int .i64 (5)], .int .i64 (0)]) V Z Z Z Z (fun w hs => ?_) ?_
     ·have := cK w 0 w.heap.size 0 w.heap.size cs fP ruA _ _ [1, 1, 1, 1, 1] [0, 0, 0, 0, 1] (ho.at hs U) bP (Blk.rdI (c := 5) (hs.blk (b := b61) U)) (Blk.rdI (c := 5) (hs.blk (b := b62) U)) (by decide) (by decide); rw [eE] at this; exact this
     (refine aD V Z Z Z (bT V Z Z Z (bT V Z Z Z ?_)); refine bK V Z Z Z Z Z U Z ?_; refine aD V Z Z Z (aK ?_))
     exact hK1 _ _ (bZ (hK2 b19 _ _ ⟨Z, Z, Z, Z, Z, Z, Z, Z, Z, Z, trivial⟩ U))
   ·refine aQ J fun K1 hK1 => ?_
    refine aU fB Z (fun b19 => ?_)
    (refine aK ?_)
    refine hK1 _ _ ?_
    refine bE ?_ ?_
    ·refine aQ J fun K1 hK1 => ?_
     refine cA 3 (aZ [1, 1, 1, 1, 1]) Z qR Z (fun b61 => ?_)
     refine cA 3 (aZ [0, 0, 0, 0, 1]) Z qR Z (fun b62 => ?_)
     refine aS (val := .tuple #[.agg #[.int .i64 (0), .int .i64 (20), .int .i64 (5)], .int .i64 (0)]) V Z Z Z Z (fun w hs => ?_) ?_
     ·have := cK w 0 w.heap.size 0 w.heap.size cs fP ruA _ _ [1, 1, 1, 1, 1] [0, 0, 0, 0, 1] (ho.at hs U) bP (Blk.rdI (c := 5) (hs.blk (b := b61) U)) (Blk.rdI (c := 5) (hs.blk (b := b62) U)) (by decide) (by decide); rw [eE] at this; exact this
     (refine aD V Z Z Z (bT V Z Z Z (bT V Z Z Z ?_)); refine bK V Z Z Z Z Z U Z ?_; refine aD V Z Z Z (aK ?_))
     exact hK1 _ _ (bZ (hK2 b19 _ _ ⟨Z, Z, Z, Z, Z, Z, Z, Z, Z, Z, trivial⟩ U))
    ·refine aQ J fun K1 hK1 => ?_
     refine cA 3 (aZ [0, 0, 0, 0, 1]) Z qR Z (fun b62 => ?_)
     refine cA 3 (aZ [1, 1, 1, 1, 1]) Z qR Z (fun b61 => ?_)
     refine aS (val := .tuple #[.agg #[.int .i64 (0), .int .i64 (20), .int .i64 (5)], .int .i64 (0)]) V Z Z Z Z (fun w hs => ?_) ?_
     ·have := cK w 0 w.heap.size 0 w.heap.size cs fP ruA _ _ [1, 1, 1, 1, 1] [0, 0, 0, 0, 1] (ho.at hs U) bP (Blk.rdI (c := 5) (hs.blk (b := b61) U)) (Blk.rdI (c := 5) (hs.blk (b := b62) U)) (by decide) (by decide); rw [eE] at this; exact this
     (refine aD V Z Z Z (bT V Z Z Z (bT V Z Z Z ?_)); refine bK V Z Z Z Z Z U Z ?_; refine aD V Z Z Z (aK ?_))
     exact hK1 _ _ (bZ (hK2 b19 _ _ ⟨Z, Z, Z, Z, Z, Z, Z, Z, Z, Z, trivial⟩ U))
  ·refine aQ J fun K1 hK1 => ?_
   refine cA 3 (aZ [1, 1, 1, 1, 1]) Z qR Z (fun b61 => ?_)
   (refine aK ?_)
   refine hK1 _ _ ?_
   refine bE ?_ (bE ?_ ?_)
   ·refine aQ J fun K1 hK1 => ?_
    refine bD (β := List Ck × List Value) V [] _ M0 Z Z Z Z (Sp.refl _) qS (fun w' hs => eW w') ?_
    rintro ⟨L, cs⟩ _ ⟨rfl, ho⟩
    (refine aO V Z Z Z ?_; refine aK ?_)
    refine hK1 _ _ ?_
    refine bE ?_ ?_
    ·refine aQ J fun K1 hK1 => ?_
     refine cA 3 (aZ [0, 0, 0, 0, 1]) Z qR Z (fun b62 => ?_)
     (refine aK ?_)
     refine hK1 _ _ ?_
     refine bE ?_ ?_
     ·refine aQ J fun K1 hK1 => ?_
      refine aS (val := .tuple #[.agg #[.int .i64 (0), .int .i64 (20), .int .i64 (5)], .int .i64 (0)]) V Z Z Z Z (fun w hs => ?_) ?_
      ·have := cK w 0 w.heap.size 0 w.heap.size cs fP ruA _ _ [1, 1, 1, 1, 1] [0, 0, 0, 0, 1] (ho.at hs U) bP (Blk.rdI (c := 5) (hs.blk (b := b61) U)) (Blk.rdI (c := 5) (hs.blk (b := b62) U)) (by decide) (by decide); rw [eE] at this; exact this
      (refine aD V Z Z Z (bT V Z Z Z (bT V Z Z Z ?_)))
      refine aU fB Z (fun b19 => ?_)
      (refine bK V Z Z Z Z Z U Z ?_; refine aD V Z Z Z (aK ?_))
      exact hK1 _ _ (bZ (hK2 b19 _ _ ⟨Z, Z, Z, Z, Z, Z, Z, Z, Z, Z, trivial⟩ U))
     ·refine aQ J fun K1 hK1 => ?_
      refine aU fB Z (fun b19 => ?_)
      refine aS (val := .tuple #[.agg #[.int .i64 (0), .int .i64 (20), .int .i64 (5)], .int .i64 (0)]) V Z Z Z Z (fun w hs => ?_) ?_
      ·have := cK w 0 w.heap.size 0 w.heap.size cs fP ruA _ _ [1, 1, 1, 1, 1] [0, 0, 0, 0, 1] (ho.at hs U) bP (Blk.rdI (c := 5) (hs.blk (b := b61) U)) (Blk.rdI (c := 5) (hs.blk (b := b62) U)) (by decide) (by decide); rw [eE] at this; exact this
      (refine aD V Z Z Z (bT V Z Z Z (bT V Z Z Z ?_)); refine bK V Z Z Z Z Z U Z ?_; refine aD V Z Z Z (aK ?_))
      exact hK1 _ _ (bZ (hK2 b19 _ _ ⟨Z, Z, Z, Z, Z, Z, Z, Z, Z, Z, trivial⟩ U))
    ·refine aQ J fun K1 hK1 => ?_
     refine aU fB Z (fun b19 => ?_)
     refine cA 3 (aZ [0, 0, 0, 0, 1]) Z qR Z (fun b62 => ?_)
     refine aS (val := .tuple #[.agg #[.int .i64 (0), .int .i64 (20), .int .i64 (5)], .int .i64 (0)]) V Z Z Z Z (fun w hs => ?_) ?_
     ·have := cK w 0 w.heap.size 0 w.heap.size cs fP ruA _ _ [1, 1, 1, 1, 1] [0, 0, 0, 0, 1] (ho.at hs U) bP (Blk.rdI (c := 5) (hs.blk (b := b61) U)) (Blk.rdI (c := 5) (hs.blk (b := b62) U)) (by decide) (by decide); rw [eE] at this; exact this
     (refine aD V Z Z Z (bT V Z Z Z (bT V Z Z Z ?_)); refine bK V Z Z Z Z Z U Z ?_; refine aD V Z Z Z (aK ?_))
     exact hK1 _ _ (bZ (hK2 b19 _ _ ⟨Z, Z, Z, Z, Z, Z, Z, Z, Z, Z, trivial⟩ U))
   ·refine aQ J fun K1 hK1 => ?_
    refine cA 3 (aZ [0, 0, 0, 0, 1]) Z qR Z (fun b62 => ?_)
    (refine aK ?_)
    refine hK1 _ _ ?_
    refine bE ?_ ?_
    ·refine aQ J fun K1 hK1 => ?_
     refine bD (β := List Ck × List Value) V [] _ M0 Z Z Z Z (Sp.refl _) qS (fun w' hs => eW w') ?_
     rintro ⟨L, cs⟩ _ ⟨rfl, ho⟩
     (refine aO V Z Z Z ?_; refine aK ?_)
     refine hK1 _ _ ?_
     refine bE ?_ ?_
     ·refine aQ J fun K1 hK1 => ?_
      refine aS (val := .tuple #[.agg #[.int .i64 (0), .int .i64 (20), .int .i64 (5)], .int .i64 (0)]) V Z Z Z Z (fun w hs => ?_) ?_
      ·have := cK w 0 w.heap.size 0 w.heap.size cs fP ruA _ _ [1, 1, 1, 1, 1] [0, 0, 0, 0, 1] (ho.at hs U) bP (Blk.rdI (c := 5) (hs.blk (b := b61) U)) (Blk.rdI (c := 5) (hs.blk (b := b62) U)) (by decide) (by decide); rw [eE] at this; exact this
      (refine aD V Z Z Z (bT V Z Z Z (bT V Z Z Z ?_)))
      refine aU fB Z (fun b19 => ?_)
      (refine bK V Z Z Z Z Z U Z ?_; refine aD V Z Z Z (aK ?_))
      exact hK1 _ _ (bZ (hK2 b19 _ _ ⟨Z, Z, Z, Z, Z, Z, Z, Z, Z, Z, trivial⟩ U))
     ·refine aQ J fun K1 hK1 => ?_
      refine aU fB Z (fun b19 => ?_)
      refine aS (val := .tuple #[.agg #[.int .i64 (0), .int .i64 (20), .int .i64 (5)], .int .i64 (0)]) V Z Z Z Z (fun w hs => ?_) ?_
      ·have := cK w 0 w.heap.size 0 w.heap.size cs fP ruA _ _ [1, 1, 1, 1, 1] [0, 0, 0, 0, 1] (ho.at hs U) bP (Blk.rdI (c := 5) (hs.blk (b := b61) U)) (Blk.rdI (c := 5) (hs.blk (b := b62) U)) (by decide) (by decide); rw [eE] at this; exact this
      (refine aD V Z Z Z (bT V Z Z Z (bT V Z Z Z ?_)); refine bK V Z Z Z Z Z U Z ?_; refine aD V Z Z Z (aK ?_))
      exact hK1 _ _ (bZ (hK2 b19 _ _ ⟨Z, Z, Z, Z, Z, Z, Z, Z, Z, Z, trivial⟩ U))
    ·refine aQ J fun K1 hK1 => ?_
     refine aU fB Z (fun b19 => ?_)
     refine bD (β := List Ck × List Value) V [] _ M0 Z Z Z Z (Sp.refl _) qS (fun w' hs => eW w') ?_
     rintro ⟨L, cs⟩ _ ⟨rfl, ho⟩
     (refine aO V Z Z Z ?_)
     refine aS (val := .tuple #[.agg #[.int .i64 (0), .int .i64 (20), .int .i64 (5)], .int .i64 (0)]) V Z Z Z Z (fun w hs => ?_) ?_
     ·have := cK w 0 w.heap.size 0 w.heap.size cs fP ruA _ _ [1, 1, 1, 1, 1] [0, 0, 0, 0, 1] (ho.at hs U) bP (Blk.rdI (c := 5) (hs.blk (b := b61) U)) (Blk.rdI (c := 5) (hs.blk (b := b62) U)) (by decide) (by decide); rw [eE] at this; exact this
     (refine aD V Z Z Z (bT V Z Z Z (bT V Z Z Z ?_)); refine bK V Z Z Z Z Z U Z ?_; refine aD V Z Z Z (aK ?_))
     exact hK1 _ _ (bZ (hK2 b19 _ _ ⟨Z, Z, Z, Z, Z, Z, Z, Z, Z, Z, trivial⟩ U))
   ·refine aQ J fun K1 hK1 => ?_
    refine aU fB Z (fun b19 => ?_)
    (refine aK ?_)
    refine hK1 _ _ ?_
    refine bE ?_ ?_
    ·refine aQ J fun K1 hK1 => ?_
     refine bD (β := List Ck × List Value) V [] _ M0 Z Z Z Z (Sp.refl _) qS (fun w' hs => eW w') ?_
     rintro ⟨L, cs⟩ _ ⟨rfl, ho⟩
     (refine aO V Z Z Z ?_)
     refine cA 3 (aZ [0, 0, 0, 0, 1]) Z qR Z (fun b62 => ?_)
     refine aS (val := .tuple #[.agg #[.int .i64 (0), .int .i64 (20), .int .i64 (5)], .int .i64 (0)]) V Z Z Z Z (fun w hs => ?_) ?_
     ·have := cK w 0 w.heap.size 0 w.heap.size cs fP ruA _ _ [1, 1, 1, 1, 1] [0, 0, 0, 0, 1] (ho.at hs U) bP (Blk.rdI (c := 5) (hs.blk (b := b61) U)) (Blk.rdI (c := 5) (hs.blk (b := b62) U)) (by decide) (by decide); rw [eE] at this; exact this
     (refine aD V Z Z Z (bT V Z Z Z (bT V Z Z Z ?_)); refine bK V Z Z Z Z Z U Z ?_; refine aD V Z Z Z (aK ?_))
     exact hK1 _ _ (bZ (hK2 b19 _ _ ⟨Z, Z, Z, Z, Z, Z, Z, Z, Z, Z, trivial⟩ U))
    ·refine aQ J fun K1 hK1 => ?_
     refine cA 3 (aZ [0, 0, 0, 0, 1]) Z qR Z (fun b62 => ?_)
     refine bD (β := List Ck × List Value) V [] _ M0 Z Z Z Z (Sp.refl _) qS (fun w' hs => eW w') ?_
     rintro ⟨L, cs⟩ _ ⟨rfl, ho⟩
     (refine aO V Z Z Z ?_)
     refine aS (val := .tuple #[.agg #[.int .i64 (0), .int .i64 (20), .int .i64 (5)], .int .i64 (0)]) V Z Z Z Z (fun w hs => ?_) ?_
     ·have := cK w 0 w.heap.size 0 w.heap.size cs fP ruA _ _ [1, 1, 1, 1, 1] [0, 0, 0, 0, 1] (ho.at hs U) bP (Blk.rdI (c := 5) (hs.blk (b := b61) U)) (Blk.rdI (c := 5) (hs.blk (b := b62) U)) (by decide) (by decide); rw [eE] at this; exact this
     (refine aD V Z Z Z (bT V Z Z Z (bT V Z Z Z ?_)); refine bK V Z Z Z Z Z U Z ?_; refine aD V Z Z Z (aK ?_))
     exact hK1 _ _ (bZ (hK2 b19 _ _ ⟨Z, Z, Z, Z, Z, Z, Z, Z, Z, Z, trivial⟩ U))
  ·refine aQ J fun K1 hK1 => ?_
   refine cA 3 (aZ [0, 0, 0, 0, 1]) Z qR Z (fun b62 => ?_)
   (refine aK ?_)
   refine hK1 _ _ ?_
   refine bE ?_ (bE ?_ ?_)
   ·refine aQ J fun K1 hK1 => ?_
    refine bD (β := List Ck × List Value) V [] _ M0 Z Z Z Z (Sp.refl _) qS (fun w' hs => eW w') ?_
    rintro ⟨L, cs⟩ _ ⟨rfl, ho⟩
    (refine aO V Z Z Z ?_; refine aK ?_)
    refine hK1 _ _ ?_
    refine bE ?_ ?_
    ·refine aQ J fun K1 hK1 => ?_
     refine cA 3 (aZ [1, 1, 1, 1, 1]) Z qR Z (fun b61 => ?_)
     (refine aK ?_)
     refine hK1 _ _ ?_
     refine bE ?_ ?_
     ·refine aQ J fun K1 hK1 => ?_
      refine aS (val := .tuple #[.agg #[.int .i64 (0), .int .i64 (20), .int .i64 (5)], .int .i64 (0)]) V Z Z Z Z (fun w hs => ?_) ?_
      ·have := cK w 0 w.heap.size 0 w.heap.size cs fP ruA _ _ [1, 1, 1, 1, 1] [0, 0, 0, 0, 1] (ho.at hs U) bP (Blk.rdI (c := 5) (hs.blk (b := b61) U)) (Blk.rdI (c := 5) (hs.blk (b := b62) U)) (by decide) (by decide); rw [eE] at this; exact this
      (refine aD V Z Z Z (bT V Z Z Z (bT V Z Z Z ?_)))
      refine aU fB Z (fun b19 => ?_)
      (refine bK V Z Z Z Z Z U Z ?_; refine aD V Z Z Z (aK ?_))
      exact hK1 _ _ (bZ (hK2 b19 _ _ ⟨Z, Z, Z, Z, Z, Z, Z, Z, Z, Z, trivial⟩ U))
     ·refine aQ J fun K1 hK1 => ?_
      refine aU fB Z (fun b19 => ?_)
      refine aS (val := .tuple #[.agg #[.int .i64 (0), .int .i64 (20), .int .i64 (5)], .int .i64 (0)]) V Z Z Z Z (fun w hs => ?_) ?_
      ·have := cK w 0 w.heap.size 0 w.heap.size cs fP ruA _ _ [1, 1, 1, 1, 1] [0, 0, 0, 0, 1] (ho.at hs U) bP (Blk.rdI (c := 5) (hs.blk (b := b61) U)) (Blk.rdI (c := 5) (hs.blk (b := b62) U)) (by decide) (by decide); rw [eE] at this; exact this
      (refine aD V Z Z Z (bT V Z Z Z (bT V Z Z Z ?_)); refine bK V Z Z Z Z Z U Z ?_; refine aD V Z Z Z (aK ?_))
      exact hK1 _ _ (bZ (hK2 b19 _ _ ⟨Z, Z, Z, Z, Z, Z, Z, Z, Z, Z, trivial⟩ U))
    ·refine aQ J fun K1 hK1 => ?_
     refine aU fB Z (fun b19 => ?_)
     refine cA 3 (aZ [1, 1, 1, 1, 1]) Z qR Z (fun b61 => ?_)
     refine aS (val := .tuple #[.agg #[.int .i64 (0), .int .i64 (20), .int .i64 (5)], .int .i64 (0)]) V Z Z Z Z (fun w hs => ?_) ?_
     ·have := cK w 0 w.heap.size 0 w.heap.size cs fP ruA _ _ [1, 1, 1, 1, 1] [0, 0, 0, 0, 1] (ho.at hs U) bP (Blk.rdI (c := 5) (hs.blk (b := b61) U)) (Blk.rdI (c := 5) (hs.blk (b := b62) U)) (by decide) (by decide); rw [eE] at this; exact this
     (refine aD V Z Z Z (bT V Z Z Z (bT V Z Z Z ?_)); refine bK V Z Z Z Z Z U Z ?_; refine aD V Z Z Z (aK ?_))
     exact hK1 _ _ (bZ (hK2 b19 _ _ ⟨Z, Z, Z, Z, Z, Z, Z, Z, Z, Z, trivial⟩ U))
   ·refine aQ J fun K1 hK1 => ?_
    refine cA 3 (aZ [1, 1, 1, 1, 1]) Z qR Z (fun b61 => ?_)
    (refine aK ?_)
    refine hK1 _ _ ?_
    refine bE ?_ ?_
    ·refine aQ J fun K1 hK1 => ?_
     refine bD (β := List Ck × List Value) V [] _ M0 Z Z Z Z (Sp.refl _) qS (fun w' hs => eW w') ?_
     rintro ⟨L, cs⟩ _ ⟨rfl, ho⟩
     (refine aO V Z Z Z ?_; refine aK ?_)
     refine hK1 _ _ ?_
     refine bE ?_ ?_
     ·refine aQ J fun K1 hK1 => ?_
      refine aS (val := .tuple #[.agg #[.int .i64 (0), .int .i64 (20), .int .i64 (5)], .int .i64 (0)]) V Z Z Z Z (fun w hs => ?_) ?_
      ·have := cK w 0 w.heap.size 0 w.heap.size cs fP ruA _ _ [1, 1, 1, 1, 1] [0, 0, 0, 0, 1] (ho.at hs U) bP (Blk.rdI (c := 5) (hs.blk (b := b61) U)) (Blk.rdI (c := 5) (hs.blk (b := b62) U)) (by decide) (by decide); rw [eE] at this; exact this
      (refine aD V Z Z Z (bT V Z Z Z (bT V Z Z Z ?_)))
      refine aU fB Z (fun b19 => ?_)
      (refine bK V Z Z Z Z Z U Z ?_; refine aD V Z Z Z (aK ?_))
      exact hK1 _ _ (bZ (hK2 b19 _ _ ⟨Z, Z, Z, Z, Z, Z, Z, Z, Z, Z, trivial⟩ U))
     ·refine aQ J fun K1 hK1 => ?_
      refine aU fB Z (fun b19 => ?_)
      refine aS (val := .tuple #[.agg #[.int .i64 (0), .int .i64 (20), .int .i64 (5)], .int .i64 (0)]) V Z Z Z Z (fun w hs => ?_) ?_
      ·have := cK w 0 w.heap.size 0 w.heap.size cs fP ruA _ _ [1, 1, 1, 1, 1] [0, 0, 0, 0, 1] (ho.at hs U) bP (Blk.rdI (c := 5) (hs.blk (b := b61) U)) (Blk.rdI (c := 5) (hs.blk (b := b62) U)) (by decide) (by decide); rw [eE] at this; exact this
      (refine aD V Z Z Z (bT V Z Z Z (bT V Z Z Z ?_)); refine bK V Z Z Z Z Z U Z ?_; refine aD V Z Z Z (aK ?_))
      exact hK1 _ _ (bZ (hK2 b19 _ _ ⟨Z, Z, Z, Z, Z, Z, Z, Z, Z, Z, trivial⟩ U))
    ·refine aQ J fun K1 hK1 => ?_
     refine aU fB Z (fun b19 => ?_)
     refine bD (β := List Ck × List Value) V [] _ M0 Z Z Z Z (Sp.refl _) qS (fun w' hs => eW w') ?_
     rintro ⟨L, cs⟩ _ ⟨rfl, ho⟩
     (refine aO V Z Z Z ?_)
     refine aS (val := .tuple #[.agg #[.int .i64 (0), .int .i64 (20), .int .i64 (5)], .int .i64 (0)]) V Z Z Z Z (fun w hs => ?_) ?_
     ·have := cK w 0 w.heap.size 0 w.heap.size cs fP ruA _ _ [1, 1, 1, 1, 1] [0, 0, 0, 0, 1] (ho.at hs U) bP (Blk.rdI (c := 5) (hs.blk (b := b61) U)) (Blk.rdI (c := 5) (hs.blk (b := b62) U)) (by decide) (by decide); rw [eE] at this; exact this
     (refine aD V Z Z Z (bT V Z Z Z (bT V Z Z Z ?_)); refine bK V Z Z Z Z Z U Z ?_; refine aD V Z Z Z (aK ?_))
     exact hK1 _ _ (bZ (hK2 b19 _ _ ⟨Z, Z, Z, Z, Z, Z, Z, Z, Z, Z, trivial⟩ U))
   ·refine aQ J fun K1 hK1 => ?_
    refine aU fB Z (fun b19 => ?_)
    (refine aK ?_)
    refine hK1 _ _ ?_
    refine bE ?_ ?_
    ·refine aQ J fun K1 hK1 => ?_
     refine bD (β := List Ck × List Value) V [] _ M0 Z Z Z Z (Sp.refl _) qS (fun w' hs => eW w') ?_
     rintro ⟨L, cs⟩ _ ⟨rfl, ho⟩
     (refine aO V Z Z Z ?_)
     refine cA 3 (aZ [1, 1, 1, 1, 1]) Z qR Z (fun b61 => ?_)
     refine aS (val := .tuple #[.agg #[.int .i64 (0), .int .i64 (20), .int .i64 (5)], .int .i64 (0)]) V Z Z Z Z (fun w hs => ?_) ?_
     ·have := cK w 0 w.heap.size 0 w.heap.size cs fP ruA _ _ [1, 1, 1, 1, 1] [0, 0, 0, 0, 1] (ho.at hs U) bP (Blk.rdI (c := 5) (hs.blk (b := b61) U)) (Blk.rdI (c := 5) (hs.blk (b := b62) U)) (by decide) (by decide); rw [eE] at this; exact this
     (refine aD V Z Z Z (bT V Z Z Z (bT V Z Z Z ?_)); refine bK V Z Z Z Z Z U Z ?_; refine aD V Z Z Z (aK ?_))
     exact hK1 _ _ (bZ (hK2 b19 _ _ ⟨Z, Z, Z, Z, Z, Z, Z, Z, Z, Z, trivial⟩ U))
    ·refine aQ J fun K1 hK1 => ?_
     refine cA 3 (aZ [1, 1, 1, 1, 1]) Z qR Z (fun b61 => ?_)
     refine bD (β := List Ck × List Value) V [] _ M0 Z Z Z Z (Sp.refl _) qS (fun w' hs => eW w') ?_
     rintro ⟨L, cs⟩ _ ⟨rfl, ho⟩
     (refine aO V Z Z Z ?_)
     refine aS (val := .tuple #[.agg #[.int .i64 (0), .int .i64 (20), .int .i64 (5)], .int .i64 (0)]) V Z Z Z Z (fun w hs => ?_) ?_
     ·have := cK w 0 w.heap.size 0 w.heap.size cs fP ruA _ _ [1, 1, 1, 1, 1] [0, 0, 0, 0, 1] (ho.at hs U) bP (Blk.rdI (c := 5) (hs.blk (b := b61) U)) (Blk.rdI (c := 5) (hs.blk (b := b62) U)) (by decide) (by decide); rw [eE] at this; exact this
     (refine aD V Z Z Z (bT V Z Z Z (bT V Z Z Z ?_)); refine bK V Z Z Z Z Z U Z ?_; refine aD V Z Z Z (aK ?_))
     exact hK1 _ _ (bZ (hK2 b19 _ _ ⟨Z, Z, Z, Z, Z, Z, Z, Z, Z, Z, trivial⟩ U))
  ·refine aQ J fun K1 hK1 => ?_
   refine aU fB Z (fun b19 => ?_)
   (refine aK ?_)
   refine hK1 _ _ ?_
   refine bE ?_ (bE ?_ ?_)
   ·refine aQ J fun K1 hK1 => ?_
    refine bD (β := List Ck × List Value) V [] _ M0 Z Z Z Z (Sp.refl _) qS (fun w' hs => eW w') ?_
    rintro ⟨L, cs⟩ _ ⟨rfl, ho⟩
    (refine aO V Z Z Z ?_; refine aK ?_)
    refine hK1 _ _ ?_
    refine bE ?_ ?_
    ·refine aQ J fun K1 hK1 => ?_
     refine cA 3 (aZ [1, 1, 1, 1, 1]) Z qR Z (fun b61 => ?_)
     refine cA 3 (aZ [0, 0, 0, 0, 1]) Z qR Z (fun b62 => ?_)
     refine aS (val := .tuple #[.agg #[.int .i64 (0), .int .i64 (20), .int .i64 (5)], .int .i64 (0)]) V Z Z Z Z (fun w hs => ?_) ?_
     ·have := cK w 0 w.heap.size 0 w.heap.size cs fP ruA _ _ [1, 1, 1, 1, 1] [0, 0, 0, 0, 1] (ho.at hs U) bP (Blk.rdI (c := 5) (hs.blk (b := b61) U)) (Blk.rdI (c := 5) (hs.blk (b := b62) U)) (by decide) (by decide); rw [eE] at this; exact this
     (refine aD V Z Z Z (bT V Z Z Z (bT V Z Z Z ?_)); refine bK V Z Z Z Z Z U Z ?_; refine aD V Z Z Z (aK ?_))
     exact hK1 _ _ (bZ (hK2 b19 _ _ ⟨Z, Z, Z, Z, Z, Z, Z, Z, Z, Z, trivial⟩ U))
    ·refine aQ J fun K1 hK1 => ?_
     refine cA 3 (aZ [0, 0, 0, 0, 1]) Z qR Z (fun b62 => ?_)
     refine cA 3 (aZ [1, 1, 1, 1, 1]) Z qR Z (fun b61 => ?_)
     refine aS (val := .tuple #[.agg #[.int .i64 (0), .int .i64 (20), .int .i64 (5)], .int .i64 (0)]) V Z Z Z Z (fun w hs => ?_) ?_
     ·have := cK w 0 w.heap.size 0 w.heap.size cs fP ruA _ _ [1, 1, 1, 1, 1] [0, 0, 0, 0, 1] (ho.at hs U) bP (Blk.rdI (c := 5) (hs.blk (b := b61) U)) (Blk.rdI (c := 5) (hs.blk (b := b62) U)) (by decide) (by decide); rw [eE] at this; exact this
     (refine aD V Z Z Z (bT V Z Z Z (bT V Z Z Z ?_)); refine bK V Z Z Z Z Z U Z ?_; refine aD V Z Z Z (aK ?_))
     exact hK1 _ _ (bZ (hK2 b19 _ _ ⟨Z, Z, Z, Z, Z, Z, Z, Z, Z, Z, trivial⟩ U))
   ·refine aQ J fun K1 hK1 => ?_
    refine cA 3 (aZ [1, 1, 1, 1, 1]) Z qR Z (fun b61 => ?_)
    (refine aK ?_)
    refine hK1 _ _ ?_
    refine bE ?_ ?_
    ·refine aQ J fun K1 hK1 => ?_
     refine bD (β := List Ck × List Value) V [] _ M0 Z Z Z Z (Sp.refl _) qS (fun w' hs => eW w') ?_
     rintro ⟨L, cs⟩ _ ⟨rfl, ho⟩
     (refine aO V Z Z Z ?_)
     refine cA 3 (aZ [0, 0, 0, 0, 1]) Z qR Z (fun b62 => ?_)
     refine aS (val := .tuple #[.agg #[.int .i64 (0), .int .i64 (20), .int .i64 (5)], .int .i64 (0)]) V Z Z Z Z (fun w hs => ?_) ?_
     ·have := cK w 0 w.heap.size 0 w.heap.size cs fP ruA _ _ [1, 1, 1, 1, 1] [0, 0, 0, 0, 1] (ho.at hs U) bP (Blk.rdI (c := 5) (hs.blk (b := b61) U)) (Blk.rdI (c := 5) (hs.blk (b := b62) U)) (by decide) (by decide); rw [eE] at this; exact this
     (refine aD V Z Z Z (bT V Z Z Z (bT V Z Z Z ?_)); refine bK V Z Z Z Z Z U Z ?_; refine aD V Z Z Z (aK ?_))
     exact hK1 _ _ (bZ (hK2 b19 _ _ ⟨Z, Z, Z, Z, Z, Z, Z, Z, Z, Z, trivial⟩ U))
    ·refine aQ J fun K1 hK1 => ?_
     refine cA 3 (aZ [0, 0, 0, 0, 1]) Z qR Z (fun b62 => ?_)
     refine bD (β := List Ck × List Value) V [] _ M0 Z Z Z Z (Sp.refl _) qS (fun w' hs => eW w') ?_
     rintro ⟨L, cs⟩ _ ⟨rfl, ho⟩
     (refine aO V Z Z Z ?_)
     refine aS (val := .tuple #[.agg #[.int .i64 (0), .int .i64 (20), .int .i64 (5)], .int .i64 (0)]) V Z Z Z Z (fun w hs => ?_) ?_
     ·have := cK w 0 w.heap.size 0 w.heap.size cs fP ruA _ _ [1, 1, 1, 1, 1] [0, 0, 0, 0, 1] (ho.at hs U) bP (Blk.rdI (c := 5) (hs.blk (b := b61) U)) (Blk.rdI (c := 5) (hs.blk (b := b62) U)) (by decide) (by decide); rw [eE] at this; exact this
     (refine aD V Z Z Z (bT V Z Z Z (bT V Z Z Z ?_)); refine bK V Z Z Z Z Z U Z ?_; refine aD V Z Z Z (aK ?_))
     exact hK1 _ _ (bZ (hK2 b19 _ _ ⟨Z, Z, Z, Z, Z, Z, Z, Z, Z, Z, trivial⟩ U))
   ·refine aQ J fun K1 hK1 => ?_
    refine cA 3 (aZ [0, 0, 0, 0, 1]) Z qR Z (fun b62 => ?_)
    (refine aK ?_)
    refine hK1 _ _ ?_
    refine bE ?_ ?_
    ·refine aQ J fun K1 hK1 => ?_
     refine bD (β := List Ck × List Value) V [] _ M0 Z Z Z Z (Sp.refl _) qS (fun w' hs => eW w') ?_
     rintro ⟨L, cs⟩ _ ⟨rfl, ho⟩
     (refine aO V Z Z Z ?_)
     refine cA 3 (aZ [1, 1, 1, 1, 1]) Z qR Z (fun b61 => ?_)
     refine aS (val := .tuple #[.agg #[.int .i64 (0), .int .i64 (20), .int .i64 (5)], .int .i64 (0)]) V Z Z Z Z (fun w hs => ?_) ?_
     ·have := cK w 0 w.heap.size 0 w.heap.size cs fP ruA _ _ [1, 1, 1, 1, 1] [0, 0, 0, 0, 1] (ho.at hs U) bP (Blk.rdI (c := 5) (hs.blk (b := b61) U)) (Blk.rdI (c := 5) (hs.blk (b := b62) U)) (by decide) (by decide); rw [eE] at this; exact this
     (refine aD V Z Z Z (bT V Z Z Z (bT V Z Z Z ?_)); refine bK V Z Z Z Z Z U Z ?_; refine aD V Z Z Z (aK ?_))
     exact hK1 _ _ (bZ (hK2 b19 _ _ ⟨Z, Z, Z, Z, Z, Z, Z, Z, Z, Z, trivial⟩ U))
    ·refine aQ J fun K1 hK1 => ?_
     refine cA 3 (aZ [1, 1, 1, 1, 1]) Z qR Z (fun b61 => ?_)
     refine bD (β := List Ck × List Value) V [] _ M0 Z Z Z Z (Sp.refl _) qS (fun w' hs => eW w') ?_
     rintro ⟨L, cs⟩ _ ⟨rfl, ho⟩
     (refine aO V Z Z Z ?_)
     refine aS (val := .tuple #[.agg #[.int .i64 (0), .int .i64 (20), .int .i64 (5)], .int .i64 (0)]) V Z Z Z Z (fun w hs => ?_) ?_
     ·have := cK w 0 w.heap.size 0 w.heap.size cs fP ruA _ _ [1, 1, 1, 1, 1] [0, 0, 0, 0, 1] (ho.at hs U) bP (Blk.rdI (c := 5) (hs.blk (b := b61) U)) (Blk.rdI (c := 5) (hs.blk (b := b62) U)) (by decide) (by decide); rw [eE] at this; exact this
     (refine aD V Z Z Z (bT V Z Z Z (bT V Z Z Z ?_)); refine bK V Z Z Z Z Z U Z ?_; refine aD V Z Z Z (aK ?_))
     exact hK1 _ _ (bZ (hK2 b19 _ _ ⟨Z, Z, Z, Z, Z, Z, Z, Z, Z, Z, trivial⟩ U))
 intro b19
 (refine aE (aB ?_))
 refine cE #[.int .i64 10, .int .i64 20] Z qR Z ?_
 refine cE #[.int .i64 (-5), .int .i64 5] Z qR Z ?_
 refine dP 32 [.int .i64 10, .int .i64 20, .int .i64 (-5), .int .i64 5] Z qR Z (fun b71 => ?_)
 refine dP 3 (aZ [3, 1]) Z qR Z (fun b72 => ?_)
 refine aJ (val := .tuple #[.agg #[.int .i64 25, .int .i64 65], .int .i64 0]) V Z Z Z Z (fun w hs => ?_) ?_; exact by have := driftF_ca w 0 w.heap.size 0 w.heap.size _ _ [(10, 20), (-5, 5)] [3, 1] (Blk.rdS (c := 2) (hs.blk (b := b71) U) Z) (by decide) (Blk.rdI (c := 2) (hs.blk (b := b72) U)) (by decide); rw [aw_drift] at this; exact this
 (refine aA V Z Z (bC V Z Z Z (bC V Z Z Z ?_)))
 refine aV qI Z (fun b20 => ?_)
 (refine aY V Z Z Z Z Z U Z ?_; refine aA V Z Z (aF (aE (aB ?_))); (iterate 3 refine aA V Z Z ?_); refine aC Z (aA V Z Z (aC Z ?_)); (iterate 3 refine aA V Z Z ?_); refine aC Z (aA V Z Z (aC Z ?_)); (iterate 3 refine aA V Z Z ?_); refine aC Z (aA V Z Z (aC Z ?_)); (iterate 3 refine aA V Z Z ?_); refine aC Z (aA V Z Z (aC Z ?_)); (iterate 3 refine aA V Z Z ?_); refine aC Z (aA V Z Z (aC Z ?_)); (iterate 3 refine aA V Z Z ?_); refine aC Z (aA V Z Z (aC Z (aA V Z Z (aC Z ?_)))); (iterate 3 refine aA V Z Z ?_); refine aC Z ?_; refine aI V Z Z Z ?_; refine aC Z ?_)
 refine cE #[.int .i64 10, .int .i64 1] Z qR Z ?_
 (refine aC Z ?_)
 refine qD (xs := [.int .i64 10, .int .i64 1]) (ys := [.int .i64 10, .int .i64 1]) [some .i64, some .i64] eZ Z Z Z Z Z ?_
 (refine aA V Z Z (aA V Z Z (aC Z ?_)); refine aI V Z Z Z ?_; refine aC Z ?_)
 refine cE #[.bool false, .int .i64 (-1)] Z qR Z ?_
 (refine aC Z ?_)
 refine qD (xs := [.bool false, .int .i64 (-1)]) (ys := [.bool false, .int .i64 (-1)]) [none, some .i64] chc_flat Z Z Z Z Z ?_
 (refine aA V Z Z (aA V Z Z (aC Z ?_)); refine aI V Z Z Z ?_; refine aC Z ?_)
 refine cE #[.bool true, .int .i64 0] Z qR Z ?_
 (refine aC Z ?_)
 refine qD (xs := [.bool true, .int .i64 0]) (ys := [.bool true, .int .i64 0]) [none, some .i64] chc_flat Z Z Z Z Z ?_
 (refine aA V Z Z (aA V Z Z (aC Z ?_)); refine aI V Z Z Z ?_; refine aC Z ?_)
 refine cE #[.int .i64 0, .int .i64 20, .int .i64 5] Z qR Z ?_
 (refine aC Z ?_)
 refine qD (xs := [.int .i64 0, .int .i64 20, .int .i64 5]) (ys := [.int .i64 0, .int .i64 20, .int .i64 5]) [some .i64, some .i64, some .i64] ply_flat Z Z Z Z Z ?_
 (refine aA V Z Z (aA V Z Z (aC Z ?_)); refine aI V Z Z Z ?_; refine aC Z ?_)
 refine cE #[.int .i64 25, .int .i64 65] Z qR Z ?_
 (refine aC Z ?_)
 refine qD (xs := [.int .i64 25, .int .i64 65]) (ys := [.int .i64 25, .int .i64 65]) [some .i64, some .i64] spn_flat Z Z Z Z Z ?_
 (refine aA V Z Z (aA V Z Z (aF (aW ?_))))
 refine aX V Z U fun w hs => ?_
 exact ⟨Z, hs.chg0⟩

end Go.Proofs.YtohlillcaadidaaGreat

/- Walks: klisterkit's deck. Only the ranges of what it deals are told. -/
namespace Go.Proofs.YtohlillcaadidaaGreat
open Go Go.Eng
attribute [local irreducible] IntKind.wrap Int.tmod Int.tdiv

/-- Its bytes. -/
def DkB (w : World) (lo hi : Nat) (bs : Value) : Prop := ∃ nb cs, Rd w lo hi bs 1 nb cs ∧ (∀ c ∈ cs, ∃ x, c = .int .u8 x ∧ 0 ≤ x ∧ x < 256)
theorem DkB.keep {w w' : World} {lo hi : Nat} {bs : Value} (h : DkB w lo hi bs) (c : Chg [] w w') : DkB w' lo hi bs := by
 obtain ⟨nb, cs, h1, h2⟩ := h
 exact ⟨nb, cs, h1.keep c, h2⟩

end Go.Proofs.YtohlillcaadidaaGreat

/- Walks: the deck as a piece of memory. -/
namespace Go.Proofs.YtohlillcaadidaaGreat
open Go Go.Eng

end Go.Proofs.YtohlillcaadidaaGreat

/- Walks: Between, on engine 2. -/
namespace Go.Proofs.YtohlillcaadidaaGreat
open Go Go.Eng

end Go.Proofs.YtohlillcaadidaaGreat

/- Walks: Of. -/
namespace Go.Proofs.YtohlillcaadidaaGreat
open Go Go.Eng

end Go.Proofs.YtohlillcaadidaaGreat

/- Walks: shares. -/
namespace Go.Proofs.YtohlillcaadidaaGreat
open Go Go.Eng

end Go.Proofs.YtohlillcaadidaaGreat

/- Walks: Fold. -/
namespace Go.Proofs.YtohlillcaadidaaGreat
open Go Go.Eng

end Go.Proofs.YtohlillcaadidaaGreat

/- The engine, part B13: changing an element of a slice of our own. -/
namespace Go.Eng
open Go Go.RowKit

section
variable {P : Program} {T : Tab}
variable {ro : Cx} {n : Nat} {F : Fin} {w0 : World} {M : Nat → Prop} {k : List It} {ops : Array Oper} {rest : List Oper} {e : Env} {H Hq : List Ck}

theorem own_some {w : World} {et sz m : Nat} {v : Value} {xs : List Value} (h : w.ownsRow 0 et sz v m xs) (hm : 0 < m) : ∃ g c, v = .slice (some ⟨g, 0, none⟩) m c := by
 rcases h.2 with ⟨rfl, rfl⟩ | ⟨g, cap, cur, rfl, _⟩
 ·omega
 ·exact ⟨_, _, Z⟩
theorem Sat.ownSome {w : World} {et sz m : Nat} {v : Value} {xs : List Value} (h : Sat w0 M H w) (hc : Ck.ow v et sz m xs ∈ H) (hm : 0 < m) : ∃ g c, v = .slice (some ⟨g, 0, none⟩) m c := own_some (h.all _ hc) hm

theorem ql_storeW (hT : T.Ok P) {t : Nat} {x y : Operand} {g off m c et : Nat} {xs : List Value} {u : Value} {H' : List Ck} {ty : TypeId} {pos : String} {af : Array Edge} (i : Nat)
  (hx : opv e x = some (.pointer (some ⟨g, off, none⟩))) (hy : opv e y = some u) (h1 : has T.one t = true) (hv : dY u = true)
  (hr : Rp H (.ow (.slice (some ⟨g, 0, none⟩) m c) et 1 m xs) (.ow (.slice (some ⟨g, 0, none⟩) m c) et 1 m (xs.set i u)) H') (ho : off = i) (hi : i < xs.length)
  (h : QL P ro n F w0 M k ops rest e H') : QL P ro n F w0 M k ops (⟨none, .store t x y, ty, pos, af, none⟩ :: rest) e H := .mk fun w hs => by
 subst ho
 obtain ⟨hl, h2⟩ : w.ownsRow 0 et 1 (.slice (some ⟨g, 0, none⟩) m c) m xs := hs.mem hr.mem
 rcases h2 with ⟨hv', _⟩ | ⟨g', cap, cur, hv', hg, hh, hnc, hcm, hcs, ht⟩
 ·cases hv'
 cases hv'
 have hb : Blk w g cur.toList et := by simpa [Blk] using hh
 have hcl : off < cur.toList.length := by
  have := congrArg List.length ht
  simp at this
  simp
  omega
 refine yl_store1 hT hx hy h1 hv hb hcl (fun w' hc _ hb' => h.h w' (hs.rep hr hc (fun k hk => ?_) ?_ (fun b hb2 => ?_)))
 ·obtain rfl : k = g := by simpa using hk
  rfl
 ·refine ⟨by simpa using hl, .inr ⟨g, c, (cur.toList.set off u).toArray, Z, hg, by simpa [Blk] using hb', hnc, hcm, by simpa using hcs, ?_⟩⟩
  simp only [List.toList_toArray]
  rw [List.take_set, ht]
 ·have : b = g := by simpa [Ck.D, Value.ownBlock] using hb2.symm
  subst this
  exact ⟨.inl rfl, hb'.lt⟩

/-- A region that draws; what its first c operations read (Hq1) is not changed by them, and they stand ahead of all that changes Hm2. -/
theorem q_drawS2 {id : Nat} {l : List Oper} (c : Nat) (Hq1 Hm1 Hq2 Hm2 : List Ck) (hH1 : Sp H (Hm1 ++ Hq1)) (hH2 : Sp Hq1 (Hm2 ++ Hq2)) (hm : P.follows .mixedOrders = true) (hB : flB l.toArray = true)
  (hbs : flagB l.toArray (List.replicate c true ++ List.replicate (l.length - c) false) = true)
  (h : ∀ K1 : Act → World → Prop, (∀ e' H' Hm', Sp H' (Hm' ++ Hq2) → QF P ro n F w0 M k l.toArray Hq2 (l.drop c) e' Hm' → Q P ro n F w0 M (.k K1 :: k) e' H') → QF P ro n F w0 M (.k K1 :: k) l.toArray Hq1 (l.take c) e Hm1) :
  Q P ro n F w0 M (.code (.region id l.toArray true) :: k) e H := .mk fun w hs a hf hd => by
 have hs0 : Sat w0 M H { w with drawn := w.drawn + 1 } := hs.keep (Chg.drew (N := []) w)
 have hs1 : Sat w0 M Hq1 { w with drawn := w.drawn + 1 } := (hs0.sp hH1).right
 have h12 : ∀ w, Sat w0 M Hq1 w → Sat w0 M Hq2 w := fun w hw => (hw.sp hH2).right
 let bs := List.replicate c true ++ List.replicate (l.length - c) false
 refine lY hm (flB_spec hB) (K := fun a w => S P ro.ro F k .normal a w) (Cq := gB (Sat w0 M Hq1) (Sat w0 M Hq2) bs) (Ce := gB (Sat w0 M Hq1) (Sat w0 M Hq2) bs)
  (fun i j oi oj => flagB_spec hbs h12 i j oi oj) (fun i => ?_) (fun _ _ h => h) ?_
 ·unfold gB
  cases bs.getD i false
  ·exact h12 _ hs1
  ·exact hs1
 ·have h2 := wpFlB_eq (P := P) (ops := l.toArray) (C1 := Sat w0 M Hq1) (C2 := Sat w0 M Hq2) (bs := bs) (K := fun a w => S P ro.ro F k .normal a w) l 0 (by simp)
  rw [show List.range l.toArray.size = List.range' 0 l.length from by simp [List.range_eq_range'], h2]
  refine yb_seg (P := P) (ro := ro) (n := n) (F := F) (k := k) (C1 := Sat w0 M Hq1) (C2 := Sat w0 M Hq2) (bs := bs) (l := l) true c (by simp [bs]) (by simp [bs]) (fun K1 hK1 => ?_) a hf hd
  have h3 := h K1 (fun e' H' Hm' hsp hq => .mk fun w' hw' a' hf' hd' => ?_)
  ·exact h3.h _ (hs0.sp hH1)
  ·refine hK1 e' w' (fun a2 hf2 hd2 => ?_) a' hf' hd'
   have h4 : bs.drop c = List.replicate (l.length - c) false := by simp [bs]
   rw [h4]
   exact iQ _ _ (by simp) a2 w' (hq w' (hw'.sp hsp) a2 hf2 hd2)
end
end Go.Eng

/- Walks: Made. -/
namespace Go.Proofs.YtohlillcaadidaaGreat
open Go Go.Eng

/-- What Made makes. -/
structure MadeR (states clicks side : Nat) (r : Rg) : Prop where
 right : r.Right
 small : r.Small
 states : r.drifts.length ≤ states
 clicks : r.clicks ≤ clicks
 group : r.group.length ≤ 2 * side + 1
 radius : r.radius ≤ 12
 unit : r.unit ≤ 5
 total : r.total ≤ 6
 drift : ∀ x ∈ r.drifts, -15 ≤ x ∧ x ≤ 15
 gsum : r.group.sum ≤ 4 * r.group.length + 1
 weight : ∀ x ∈ r.group, x ≤ 5

theorem own_rdI {w : World} {t n : Nat} {v : Value} {l : List Int} (h : w.ownsRow 0 t 1 v n (aZ l)) (hn : n = l.length) : RdI w 0 w.heap.size v l := by
 subst hn
 exact RdI.of (jB h)
abbrev madeB (b9 : Nat) (a b c d : Int) (g h f n : Value) : Ck := .pt b9 [.int .i64 a, .int .i64 b, .int .i64 c, .int .i64 d, g, h, f, n] 25

end Go.Proofs.YtohlillcaadidaaGreat

/- Walks: draws of a deck that was made of bytes that came in. -/
namespace Go.Proofs.YtohlillcaadidaaGreat
open Go Go.Eng

section
variable {K b : Nat} {bs : Value} {w0 w : World} {R : List Ck}
end
end Go.Proofs.YtohlillcaadidaaGreat

/- The plain law of WindRead: what flags read. -/
namespace Go.Proofs.YtohlillcaadidaaGreat
open Go Go.Eng

/-- A flag: its span, what is read of it, its weight. -/
abbrev Flg := Int × Int × Int × Int
def flP (t : Flg) : Int × Int := (t.1, t.2.1)
def loP (t : Flg) : Int × Int := (t.1, t.1)
def hiP (t : Flg) : Int × Int := (t.2.1, t.2.1)
def soP (t : Flg) : Int × Int := (t.2.2.1, t.2.2.1)
def FlgOk (t : Flg) : Prop := -60 ≤ t.1 ∧ t.1 ≤ t.2.1 ∧ t.2.1 ≤ 69 ∧ t.1 ≤ t.2.2.1 ∧ t.2.2.1 ≤ t.2.1 ∧ 0 ≤ t.2.2.2 ∧ t.2.2.2 ≤ 9
abbrev weF (t : Flg) : Int := t.2.2.2
def itS (its : List Flg) (g : Flg → Int) : Int := cV (fun i => weF (its.getD i (0, 0, 0, 0)) * g (its.getD i (0, 0, 0, 0))) its.length
end Go.Proofs.YtohlillcaadidaaGreat

/- The plain laws of the wind, part 0. -/
namespace Go.Proofs.YtohlillcaadidaaGreat
open Go Go.Eng
theorem ratioV_scale (x y k : Int) (hk : 0 < k) : ratioV (x * k) (y * k) = ratioV x y := by
 unfold ratioV
 have e : ((Int.gcd (x * k) (y * k) : Nat) : Int) = (Int.gcd x y : Int) * k := by
  rw [Int.gcd_mul_right, Int.natCast_mul]
  congr 1
  omega
 rw [e, Int.mul_ediv_mul_of_pos_left _ _ hk, Int.mul_ediv_mul_of_pos_left _ _ hk]
theorem gcd_pos' (a : Int) {d : Int} (hd : 0 < d) : 0 < ((Int.gcd a d : Nat) : Int) := by
 have : Int.gcd a d ≠ 0 := by
  intro h
  have := (Int.gcd_eq_zero_iff.1 h).2
  omega
 omega
theorem ratioV_mul {a d : Int} (hd : 0 < d) : (ratioV a d).1 * d = a * (ratioV a d).2 := by
 unfold ratioV
 have h1 : ((Int.gcd a d : Nat) : Int) ∣ a := Int.gcd_dvd_left ..
 have h2 : ((Int.gcd a d : Nat) : Int) ∣ d := Int.gcd_dvd_right ..
 have h3 : a / ((Int.gcd a d : Nat) : Int) * d = a * d / ((Int.gcd a d : Nat) : Int) := by rw [Int.mul_comm, ← Int.mul_ediv_assoc d h1, Int.mul_comm]
 have h4 : a * (d / ((Int.gcd a d : Nat) : Int)) = a * d / ((Int.gcd a d : Nat) : Int) := by rw [Int.mul_ediv_assoc a h2]
 simp only
 rw [h3, h4]
theorem ratioV_pos {a d : Int} (ha : 0 ≤ a) (hd : 0 < d) : 0 ≤ (ratioV a d).1 ∧ (ratioV a d).1 ≤ a ∧ 1 ≤ (ratioV a d).2 ∧ (ratioV a d).2 ≤ d := by
 have hg := gcd_pos' a hd
 have h2 : ((Int.gcd a d : Nat) : Int) ∣ d := Int.gcd_dvd_right ..
 unfold ratioV
 refine ⟨Int.ediv_nonneg ha O, Int.ediv_le_self _ ha, ?_, Int.ediv_le_self _ O⟩
 have := Int.le_of_dvd hd h2
 exact (Int.le_ediv_iff_mul_le hg).2 (by rw [Int.one_mul]; exact this)
/-- Fractions of one denominator. -/
theorem mul_lt_iff {a b c : Int} (hc : 0 < c) : a * c < b * c ↔ a < b := ⟨fun h => Int.lt_of_mul_lt_mul_right h O, fun h => Int.mul_lt_mul_of_pos_right h hc⟩
theorem ratioV_lt {a b d : Int} (hd : 0 < d) (ha : 0 ≤ a) (hb : 0 ≤ b) : (ratioV a d).1 * (ratioV b d).2 < (ratioV b d).1 * (ratioV a d).2 ↔ a < b := by
 have h1 := ratioV_mul (a := a) hd
 have h2 := ratioV_mul (a := b) hd
 have p1 := ratioV_pos ha hd
 have p2 := ratioV_pos hb hd
 generalize ratioV a d = p at *
 generalize ratioV b d = q at *
 have hpp : 0 < p.2 * q.2 := Int.mul_pos O O
 rw [← mul_lt_iff (a := a) (b := b) (c := p.2 * q.2) hpp, ← mul_lt_iff (a := p.1 * q.2) (b := q.1 * p.2) hd]
 have e1 : p.1 * q.2 * d = a * (p.2 * q.2) := by rw [Int.mul_right_comm, h1, Int.mul_assoc]
 have e2 : q.1 * p.2 * d = b * (p.2 * q.2) := by rw [Int.mul_right_comm, h2, Int.mul_assoc, Int.mul_comm q.2]
 rw [e1, e2]
theorem mR {a b d : Int} (hd : 0 < d) (ha : 0 ≤ a) (hb : 0 ≤ b) : nW (ratioV a d) (ratioV b d) = (decide (a < b) && true) := by
 unfold nW
 rw [decide_eq_decide.2 (ratioV_lt hd ha hb)]
/-- The sum. -/
def plusV (a b : Int × Int) : Int × Int := ratioV (a.1 * b.2 + b.1 * a.2) (a.2 * b.2)
/-! The best click. -/
def kyC (c : Int) : Int := 2 * c.natAbs + if 0 < c then 1 else 0
theorem farL_key (C : Int) (far : Nat) : (∀ c ∈ farL C 0 far, c.natAbs = far) ∧ (farL C 0 far).Pairwise (fun a b => kyC a < kyC b) := by
 unfold farL
 split
 ·subst_vars
  simp
 ·rename_i h
  refine ⟨fun c hc => ?_, List.Pairwise.filter _ ?_⟩
  ·have := (List.mem_filter.1 hc).1
   simp at this
   omega
  ·simp [kyC]
   omega
theorem clickL_sorted (C : Int) : (cR C 0).Pairwise (fun a b => kyC a < kyC b) := by
 unfold cR gQ
 refine List.pairwise_flatMap.2 ⟨fun far _ => (farL_key C far).2, ?_⟩
 refine List.Pairwise.imp ?_ (List.pairwise_lt_range (n := (2 * C + 1).toNat))
 intro a b hab x hx y hy
 have h1 := (farL_key C a).1 x hx
 have h2 := (farL_key C b).1 y hy
 unfold kyC
 split <;> split <;> omega
theorem gR (C : Int) (hC : 0 ≤ C) (c : Int) : c ∈ cR C 0 ↔ -C ≤ c ∧ c ≤ C := by
 constructor
 ·intro h; exact bH.1 (iP C 0 (bH.2 O) c h)
 ·intro hc
  simp only [cR, gQ, List.mem_flatMap, List.mem_range]
  refine ⟨c.natAbs, by omega, ?_⟩
  unfold farL
  split
  ·simp; omega
  ·refine List.mem_filter.2 ⟨?_, bH.2 hc⟩
   simp
   omega
theorem best_first (q : Int → Int × Int) (f : Int → Int) : ∀ (l : List Int) (s : Int × (Int × Int)), s.2 = q s.1 → (∀ a b, (a = s.1 ∨ a ∈ l) → (b = s.1 ∨ b ∈ l) → nW (q a) (q b) = (decide (f a < f b) && true)) →
  (l.foldl (eP q) s).2 = q (l.foldl (eP q) s).1 ∧ (((l.foldl (eP q) s).1 = s.1 ∧ ∀ c ∈ l, f s.1 ≤ f c) ∨ ∃ pre post, l = pre ++ (l.foldl (eP q) s).1 :: post ∧ f (l.foldl (eP q) s).1 < f s.1 ∧ (∀ c ∈ pre, f (l.foldl (eP q) s).1 < f c) ∧ ∀ c ∈ post, f (l.foldl (eP q) s).1 ≤ f c)
 | [], s, hs, _ => ⟨hs, .inl ⟨rfl, by simp⟩⟩
 | c :: l, s, hs, hq => by
  rw [List.foldl_cons]
  have hb : eP q s c = if f c < f s.1 then (c, q c) else s := by
   unfold eP
   rw [hs, hq _ _ (.inr List.mem_cons_self) (.inl rfl)]
   by_cases h : f c < f s.1 <;> simp [h]
  rw [hb]
  by_cases h : f c < f s.1
  ·rw [if_pos h]
   obtain ⟨h1, h2⟩ := best_first q f l (c, q c) rfl (fun a b ha hb => hq a b (by rcases ha with rfl | ha; exact .inr List.mem_cons_self; exact .inr (List.mem_cons_of_mem _ ha)) (by rcases hb with rfl | hb; exact .inr List.mem_cons_self; exact .inr (List.mem_cons_of_mem _ hb)))
   refine ⟨h1, .inr ?_⟩
   rcases h2 with ⟨h3, h4⟩ | ⟨pre, post, h3, h4, h5, h6⟩
   ·refine ⟨[], l, by rw [h3]; rfl, by rw [h3]; exact h, by simp, fun d hd => by rw [h3]; exact h4 d hd⟩
   ·refine ⟨c :: pre, post, by rw [List.cons_append, ← h3], by simp only at h4; omega, fun d hd => ?_, h6⟩
    rcases List.mem_cons.1 hd with rfl | hd
    ·exact h4
    ·exact h5 d hd
  ·rw [if_neg h]
   obtain ⟨h1, h2⟩ := best_first q f l s hs (fun a b ha hb => hq a b (ha.imp_right (List.mem_cons_of_mem _)) (hb.imp_right (List.mem_cons_of_mem _)))
   refine ⟨h1, ?_⟩
   rcases h2 with ⟨h3, h4⟩ | ⟨pre, post, h3, h4, h5, h6⟩
   ·refine .inl ⟨h3, fun d hd => ?_⟩
    rcases List.mem_cons.1 hd with rfl | hd
    ·omega
    ·exact h4 d hd
   ·refine .inr ⟨c :: pre, post, by rw [List.cons_append, ← h3], h4, fun d hd => ?_, h6⟩
    rcases List.mem_cons.1 hd with rfl | hd
    ·omega
    ·exact h5 d hd
/-- The best click: it has the least number, and of those with it, it is the first. -/
theorem best_law (q : Int → Int × Int) (f : Int → Int) (C : Int) (hC : 0 ≤ C) (hq : ∀ a b, -C ≤ a ∧ a ≤ C → -C ≤ b ∧ b ≤ C → nW (q a) (q b) = (decide (f a < f b) && true)) :
  ∃ m, fH q (cR C 0) = (m, q m) ∧ (-C ≤ m ∧ m ≤ C) ∧ (∀ c, -C ≤ c ∧ c ≤ C → f m ≤ f c) ∧ ∀ c, -C ≤ c ∧ c ≤ C → f c = f m → ¬ (c * c < m * m ∨ c = -m ∧ c < m) := by
 have h0 : (0 : Int) ∈ cR C 0 := (gR C hC 0).2 O
 obtain ⟨h1, h2⟩ := best_first q f (cR C 0) (0, q 0) rfl (fun a b ha hb => hq a b (by rcases ha with rfl | ha; simp only; omega; exact (gR C hC a).1 ha) (by rcases hb with rfl | hb; simp only; omega; exact (gR C hC b).1 hb))
 refine ⟨(fH q (cR C 0)).1, Prod.ext Z h1, ?_⟩
 have hky : ∀ c m : Int, (c * c < m * m ∨ c = -m ∧ c < m) → kyC c < kyC m := by
  intro c m h
  unfold kyC
  rcases h with h | ⟨rfl, h⟩
  ·have : c.natAbs < m.natAbs := by
    refine Nat.lt_of_not_le fun hle => ?_
    have h1 := Nat.mul_le_mul hle hle
    have h2 : ((m.natAbs * m.natAbs : Nat) : Int) = m * m := Int.natAbs_mul_self
    have h3 : ((c.natAbs * c.natAbs : Nat) : Int) = c * c := Int.natAbs_mul_self
    omega
   split <;> split <;> omega
  ·split <;> split <;> omega
 unfold fH
 generalize List.foldl (eP q) (0, q 0) (cR C 0) = R at *
 rcases h2 with ⟨h3, h4⟩ | ⟨pre, post, h3, h4, h5, h6⟩
 ·simp only at h3 h4
  rw [h3]
  refine ⟨by omega, fun c hc => h4 c ((gR C hC c).2 hc), fun c hc he hn => ?_⟩
  have := hky _ _ hn
  simp only [kyC] at this
  split at this <;> simp at this <;> omega
 ·have hm : R.1 ∈ cR C 0 := by rw [h3]; simp
  have hs := clickL_sorted C
  rw [h3] at hs
  have hpw := List.pairwise_append.1 hs
  refine ⟨(gR C hC _).1 hm, fun c hc => ?_, fun c hc he hn => ?_⟩
  ·have := (gR C hC c).2 hc
   rw [h3] at this
   rcases List.mem_append.1 this with h | h
   ·have := h5 c h; omega
   ·rcases List.mem_cons.1 h with rfl | h
    ·omega
    ·exact h6 c h
  ·have := (gR C hC c).2 hc
   have hk := hky _ _ hn
   rw [h3] at this
   rcases List.mem_append.1 this with h | h
   ·have := h5 c h; omega
   ·rcases List.mem_cons.1 h with rfl | h
    ·omega
    ·have := (List.pairwise_cons.1 hpw.2.1).1 c h
     omega
end Go.Proofs.YtohlillcaadidaaGreat

/- The plain laws of the reference: the best of some clicks. -/
namespace Go.Proofs.YtohlillcaadidaaGreat
open Go Go.Eng

theorem sq_lt (c d : Int) : c * c < d * d ↔ c.natAbs < d.natAbs := by
 have h1 : ((c.natAbs * c.natAbs : Nat) : Int) = c * c := Int.natAbs_mul_self
 have h2 : ((d.natAbs * d.natAbs : Nat) : Int) = d * d := Int.natAbs_mul_self
 rw [← h1, ← h2]
 constructor
 ·intro h
  refine Nat.lt_of_not_le fun hle => ?_
  have := Nat.mul_le_mul hle hle
  omega
 ·intro h
  have := Nat.mul_lt_mul_of_lt_of_lt h h
  omega
theorem sq_eq (c d : Int) : c * c = d * d ↔ c.natAbs = d.natAbs := by
 have h1 := sq_lt c d
 have h2 := sq_lt d c
 omega
/-! Of some fractions. -/
/-- What comes before: the lesser one, then the nearer one, then the lesser click. -/
def lO (a : Int × Int) (c : Int) (b : Int × Int) (d : Int) : Bool :=
 if a.1 * b.2 = b.1 * a.2 then (if c * c = d * d then decide (c < d) && true else decide (c * c < d * d) && true) else decide (a.1 * b.2 < b.1 * a.2) && true
def pickI (C : Int) (bad : List (Int × Int)) : Nat → Nat
 | 0 => 0
 | k + 1 => if lO (bad.getD (k + 1) (0, 1)) (((k + 1 : Nat) : Int) - C) (bad.getD (pickI C bad k) (0, 1)) ((pickI C bad k : Int) - C) then k + 1 else pickI C bad k
theorem pickI_le (C : Int) (bad : List (Int × Int)) : ∀ k, pickI C bad k ≤ k
 | 0 => Nat.le_refl _
 | k + 1 => by
  have := pickI_le C bad k
  rw [pickI]
  split <;> omega
def Bef (f : Int → Int) (c d : Int) : Prop := f c < f d ∨ f c = f d ∧ (c * c < d * d ∨ c * c = d * d ∧ c < d)
theorem beats_bef {q : Int → Int × Int} {f : Int → Int} {c d : Int} (h1 : nW (q c) (q d) = (decide (f c < f d) && true)) (h2 : nW (q d) (q c) = (decide (f d < f c) && true)) : lO (q c) c (q d) d = true ↔ Bef f c d := by
 unfold lO Bef
 simp only [nW, Bool.and_true, decide_eq_decide] at h1 h2
 generalize (q c).1 * (q d).2 = x at *
 generalize (q d).1 * (q c).2 = y at *
 generalize c * c = u
 generalize d * d = v
 split
 ·split <;> simp <;> omega
 ·simp; omega
theorem allC_at (C : Int) (q : Int → Int × Int) (j : Nat) (hj : (j : Int) ≤ 2 * C) : ((eT C).map q).getD j (0, 1) = q ((j : Int) - C) := by
 have h : j < (2 * C + 1).toNat := by omega
 simp [eT, List.getD_eq_getElem?_getD, h]
theorem pick_best {q : Int → Int × Int} {f : Int → Int} {C : Int} (hC : 0 ≤ C) (hq : ∀ a b, -C ≤ a ∧ a ≤ C → -C ≤ b ∧ b ≤ C → nW (q a) (q b) = (decide (f a < f b) && true)) :
  ∀ k : Nat, (k : Int) ≤ 2 * C → ∀ j, j ≤ k → ¬ Bef f ((j : Int) - C) ((pickI C ((eT C).map q) k : Int) - C)
 | 0, _, j, hj => by
  obtain rfl : j = 0 := by omega
  unfold Bef pickI
  omega
 | k + 1, hk, j, hj => by
  have ih := pick_best hC hq k O
  have hle := pickI_le C ((eT C).map q) k
  have hb := beats_bef (q := q) (f := f) (c := ((k + 1 : Nat) : Int) - C) (d := (pickI C ((eT C).map q) k : Int) - C) (hq _ _ O O) (hq _ _ O O)
  rw [pickI, allC_at C q (k + 1) hk, allC_at C q _ O]
  generalize pickI C ((eT C).map q) k = i at *
  have hj2 := ih j
  by_cases h : lO (q (((k + 1 : Nat) : Int) - C)) (((k + 1 : Nat) : Int) - C) (q ((i : Int) - C)) ((i : Int) - C) = true
  ·rw [if_pos h]
   have h2 := hb.1 h
   by_cases hjk : j = k + 1
   ·subst hjk
    unfold Bef
    omega
   ·intro h3
    refine hj2 O ?_
    unfold Bef at h2 h3 ⊢
    generalize ((j : Int) - C) * ((j : Int) - C) = u at *
    generalize (((k + 1 : Nat) : Int) - C) * (((k + 1 : Nat) : Int) - C) = v at *
    generalize ((i : Int) - C) * ((i : Int) - C) = x at *
    generalize f ((j : Int) - C) = fu at *
    generalize f (((k + 1 : Nat) : Int) - C) = fv at *
    generalize f ((i : Int) - C) = fx at *
    omega
  ·rw [if_neg h]
   by_cases hjk : j = k + 1
   ·subst hjk
    exact fun h3 => h (hb.2 h3)
   ·exact hj2 O
/-- The reference picks the same click. -/
theorem pick_law (q : Int → Int × Int) (f : Int → Int) (C : Int) (hC : 0 ≤ C) (hq : ∀ a b, -C ≤ a ∧ a ≤ C → -C ≤ b ∧ b ≤ C → nW (q a) (q b) = (decide (f a < f b) && true)) :
  ∃ m, fH q (cR C 0) = (m, q m) ∧ (-C ≤ m ∧ m ≤ C) ∧ (pickI C ((eT C).map q) (2 * C).toNat : Int) = m + C := by
 obtain ⟨m, h1, h2, h3, h4⟩ := best_law q f C hC hq
 refine ⟨m, h1, h2, ?_⟩
 have hp := pick_best hC hq (2 * C).toNat O
 have hle := pickI_le C ((eT C).map q) (2 * C).toNat
 generalize pickI C ((eT C).map q) (2 * C).toNat = i at *
 have h5 := hp (m + C).toNat O
 rw [show (((m + C).toNat : Nat) : Int) - C = m by omega] at h5
 obtain ⟨x, hx⟩ : ∃ x, x = (i : Int) - C := ⟨_, rfl⟩
 rw [← hx] at h5
 have h6 := h3 x O
 have h7 := h4 x O
 unfold Bef at h5
 have e1 := sq_lt x m
 have e2 := sq_eq m x
 have e3 := sq_lt m x
 generalize x * x = u at *
 generalize m * m = v at *
 omega

/-! Of some numbers. -/
def kyN (n c : Int) : Int := kyC (c - n)
theorem kyN_inj {n a b : Int} (h : kyN n a = kyN n b) : a = b := by
 unfold kyN kyC at h
 split at h <;> split at h <;> omega
theorem near_key (n c d : Int) : ((c - n) * (c - n) < (d - n) * (d - n) ∨ (c - n) * (c - n) = (d - n) * (d - n) ∧ c < d) ↔ kyN n c < kyN n d := by
 rw [sq_lt, sq_eq]
 unfold kyN kyC
 split <;> split <;> omega
theorem farL_keyN (C n : Int) (far : Nat) : (∀ c ∈ farL C n far, (c - n).natAbs = far) ∧ (farL C n far).Pairwise (fun a b => kyN n a < kyN n b) := by
 unfold farL
 split
 ·subst_vars
  simp
 ·rename_i h
  refine ⟨fun c hc => ?_, List.Pairwise.filter _ ?_⟩
  ·have := (List.mem_filter.1 hc).1
   simp at this
   omega
  ·simp [kyN, kyC]
   omega
theorem clickL_sortedN (C n : Int) : (cR C n).Pairwise (fun a b => kyN n a < kyN n b) := by
 unfold cR gQ
 refine List.pairwise_flatMap.2 ⟨fun far _ => (farL_keyN C n far).2, ?_⟩
 refine List.Pairwise.imp ?_ (List.pairwise_lt_range (n := (2 * C + 1).toNat))
 intro a b hab x hx y hy
 have h1 := (farL_keyN C n a).1 x hx
 have h2 := (farL_keyN C n b).1 y hy
 unfold kyN kyC
 split <;> split <;> omega
theorem clickL_memN {C n : Int} (hn : -C ≤ n ∧ n ≤ C) (c : Int) : c ∈ cR C n ↔ -C ≤ c ∧ c ≤ C := by
 constructor
 ·intro h; exact bH.1 (iP C n (bH.2 hn) c h)
 ·intro hc
  simp only [cR, gQ, List.mem_flatMap, List.mem_range]
  refine ⟨(c - n).natAbs, by omega, ?_⟩
  unfold farL
  split
  ·simp; omega
  ·refine List.mem_filter.2 ⟨?_, bH.2 hc⟩
   simp
   omega
theorem allC_mem (C c : Int) : c ∈ eT C ↔ -C ≤ c ∧ c ≤ C := by
 unfold eT
 simp only [List.mem_map, List.mem_range]
 constructor
 ·rintro ⟨i, hi, rfl⟩; omega
 ·intro h; exact ⟨(c + C).toNat, by omega, by omega⟩
theorem amin (f K : Int → Int) : ∀ (l : List Int) (m : Int), (∀ c ∈ l, K m ≤ K c) → l.Pairwise (fun a b => K a < K b) →
  ∃ R, l.foldl (fun s c => if f c < s.2 then (c, f c) else s) (m, f m) = (R, f R) ∧ (R = m ∨ R ∈ l) ∧ ∀ c, (c = m ∨ c ∈ l) → f R < f c ∨ f R = f c ∧ K R ≤ K c
 | [], m, _, _ => ⟨m, rfl, .inl rfl, fun c hc => by
  rcases hc with rfl | h
  ·exact .inr ⟨Z, Int.le_refl _⟩
  ·cases h⟩
 | c :: l, m, hm, hs => by
  have hs2 := List.pairwise_cons.1 hs
  have hmc := hm c List.mem_cons_self
  rw [List.foldl_cons]
  by_cases h : f c < f m
  ·simp only [if_pos h]
   obtain ⟨R, h1, h2, h3⟩ := amin f K l c (fun d hd => by have := hs2.1 d hd; omega) hs2.2
   refine ⟨R, h1, .inr (List.mem_cons.2 h2), fun d hd => ?_⟩
   have h4 := h3 c (.inl rfl)
   rcases hd with rfl | hd
   ·omega
   ·exact h3 d (List.mem_cons.1 hd)
  ·simp only [if_neg h]
   obtain ⟨R, h1, h2, h3⟩ := amin f K l m (fun d hd => hm d (List.mem_cons_of_mem _ hd)) hs2.2
   refine ⟨R, h1, h2.imp_right (List.mem_cons_of_mem _), fun d hd => ?_⟩
   have h4 := h3 m (.inl rfl)
   rcases hd with rfl | hd
   ·exact h4
   ·rcases List.mem_cons.1 hd with rfl | hd
    ·omega
    ·exact h3 d (.inr hd)
theorem bmin (f K : Int → Int) : ∀ (l : List Int) (m : Int),
  ∃ R, l.foldl (fun s c => if f c < s.2 ∨ f c = s.2 ∧ K c < K s.1 then (c, f c) else s) (m, f m) = (R, f R) ∧ (R = m ∨ R ∈ l) ∧ ∀ c, (c = m ∨ c ∈ l) → f R < f c ∨ f R = f c ∧ K R ≤ K c
 | [], m => ⟨m, rfl, .inl rfl, fun c hc => by
  rcases hc with rfl | h
  ·exact .inr ⟨Z, Int.le_refl _⟩
  ·cases h⟩
 | c :: l, m => by
  rw [List.foldl_cons]
  by_cases h : f c < f m ∨ f c = f m ∧ K c < K m
  ·simp only [if_pos h]
   obtain ⟨R, h1, h2, h3⟩ := bmin f K l c
   refine ⟨R, h1, .inr (List.mem_cons.2 h2), fun d hd => ?_⟩
   have h4 := h3 c (.inl rfl)
   rcases hd with rfl | hd
   ·omega
   ·exact h3 d (List.mem_cons.1 hd)
  ·simp only [if_neg h]
   obtain ⟨R, h1, h2, h3⟩ := bmin f K l m
   refine ⟨R, h1, h2.imp_right (List.mem_cons_of_mem _), fun d hd => ?_⟩
   have h4 := h3 m (.inl rfl)
   rcases hd with rfl | hd
   ·exact h4
   ·rcases List.mem_cons.1 hd with rfl | hd
    ·omega
    ·exact h3 d (.inr hd)
/-- The reference's choice among clicks. -/
def rcStep (r : Rg) (p : Ru) (g : Nat → Int → Int) (shot wt st : Nat) (cl : Int) (s : Int × Int) (c : Int) : Int × Int :=
 if cS r p g shot wt st cl c < s.2 ∨ cS r p g shot wt st cl c = s.2 ∧ kyN cl c < kyN cl s.1 then (c, cS r p g shot wt st cl c) else s
def rcP (r : Rg) (p : Ru) (g : Nat → Int → Int) (shot wt st : Nat) (cl : Int) (k : Nat) : Int × Int := ((eT r.clicks).take k).foldl (rcStep r p g shot wt st cl) (cl, cS r p g shot wt st cl cl)
theorem rc_law (r : Rg) (p : Ru) (g : Nat → Int → Int) (shot wt st : Nat) (cl : Int) (hc : -r.clicks ≤ cl ∧ cl ≤ r.clicks) : rcP r p g shot wt st cl (2 * r.clicks + 1).toNat = dH r p g shot wt st cl := by
 have hl : (eT r.clicks).length = (2 * r.clicks + 1).toNat := by simp [eT]
 unfold rcP dH
 rw [← hl, List.take_length]
 obtain ⟨R, h1, h2, h3⟩ := amin (cS r p g shot wt st cl) (kyN cl) (cR r.clicks cl) cl (fun c _ => by unfold kyN kyC; split <;> split <;> omega) (clickL_sortedN _ _)
 obtain ⟨S, g1, g2, g3⟩ := bmin (cS r p g shot wt st cl) (kyN cl) (eT r.clicks) cl
 have e1 : (cR r.clicks cl).foldl (nO r p g shot wt st cl) (cl, cS r p g shot wt st cl cl) = (R, cS r p g shot wt st cl R) := h1
 have e2 : (eT r.clicks).foldl (rcStep r p g shot wt st cl) (cl, cS r p g shot wt st cl cl) = (S, cS r p g shot wt st cl S) := g1
 rw [e1, e2]
 have hR : -r.clicks ≤ R ∧ R ≤ r.clicks := by
  rcases h2 with rfl | h2
  ·exact hc
  ·exact (clickL_memN hc R).1 h2
 have hS : -r.clicks ≤ S ∧ S ≤ r.clicks := by
  rcases g2 with rfl | g2
  ·exact hc
  ·exact (allC_mem _ _).1 g2
 have a := h3 S (.inr ((clickL_memN hc S).2 hS))
 have b := g3 R (.inr ((allC_mem _ _).2 hR))
 obtain rfl : R = S := kyN_inj (n := cl) O
 rfl
theorem rcP_succ (r : Rg) (p : Ru) (g : Nat → Int → Int) (shot wt st : Nat) (cl : Int) (k : Nat) (hk : k < (2 * r.clicks + 1).toNat) : rcP r p g shot wt st cl (k + 1) = rcStep r p g shot wt st cl (rcP r p g shot wt st cl k) ((k : Int) - r.clicks) := by
 unfold rcP
 rw [List.take_succ_eq_append_getElem (by simpa [eT] using hk), List.foldl_append]
 simp [eT]
end Go.Proofs.YtohlillcaadidaaGreat

/- The plain laws of the wind, part 1. -/
namespace Go.Proofs.YtohlillcaadidaaGreat
open Go Go.Eng
theorem afterP_getD (r : Rg) (ws : List Int) (t : Nat) (ht : t < 5) : ∀ k, (eL r ws k).getD t 0 = cV (fun s => ws.getD s 0 * (r.next.getD s []).getD t 0) k
 | 0 => by
  simp only [eL, cV, List.getD_eq_getElem?_getD, List.getElem?_replicate, ht, if_true, Option.getD_some]
 | k + 1 => by
  have h1 : t < (eL r ws k).length := by rw [eJ]; exact ht
  have h2 : t < (gP (eL r ws k) (ws.getD k 0) (r.next.getD k [])).length := by rw [dU]; exact h1
  rw [eL, List.getD_eq_getElem?_getD, List.getElem?_eq_getElem h2, Option.getD_some, iE _ _ _ _ h1, afterP_getD r ws t ht k]
  rfl
theorem wts0_getD {r : Rg} (hr : r.Right) (t : Nat) : (wts r 0).getD t 0 = r.first.getD t 0 := by
 unfold wts
 simp only [List.getD_eq_getElem?_getD]
 by_cases h : t < r.first.length
 ·rw [List.getElem?_append_left h]
 ·rw [List.getElem?_append_right O, List.getElem?_eq_none (Nat.le_of_not_lt h)]
  rw [List.getElem?_drop, List.getElem?_replicate]
  split <;> rfl
theorem wtsS_getD (r : Rg) (k t : Nat) (ht : t < 5) : (wts r (k + 1)).getD t 0 = cV (fun s => (wts r k).getD s 0 * (r.next.getD s []).getD t 0) r.next.length := by
 rw [wts, lZ, afterP_getD r _ t ht]
end Go.Proofs.YtohlillcaadidaaGreat

/- The plain laws of the wind, part 2. -/
namespace Go.Proofs.YtohlillcaadidaaGreat
open Go Go.Eng
/-- Numbers of a range that was made: total at most 6, group at most 37. -/
structure Rg.Low (r : Rg) : Prop where
 right : r.Right
 total : r.total ≤ 6
 gsum : r.group.sum ≤ 37
abbrev chW (r : Rg) (k s : Nat) : Int := (wts r k).getD s 0
abbrev chX (r : Rg) (k s : Nat) : Int × Int := ratioV (chW r k s) (r.total ^ (k + 1))
def bsum (r : Rg) (c : Int) (k j : Nat) : Int × Int := ratioV ((lL r c k).1 * r.total + mulN r c (wts r k) j) (r.total ^ (k + 1) * r.group.sum)
def bone (r : Rg) (k j : Nat) : Int × Int := ratioV (cV (fun s => (wts r k).getD s 0) j) (r.total ^ (k + 1))
abbrev hitX (r : Rg) (s : Nat) (c : Int) : Int × Int := ratioV (r.group.sum - cX r (r.drifts.getD s 0) c) r.group.sum
end Go.Proofs.YtohlillcaadidaaGreat

/- The plain laws of the wind, part 3. -/
namespace Go.Proofs.YtohlillcaadidaaGreat
open Go Go.Eng
/-! Fractions, part by part. -/
/-- One fraction is less than another one. -/
def overB (a b : Int × Int) : Bool := decide (a.1 * b.2 < b.1 * a.2) && true
end Go.Proofs.YtohlillcaadidaaGreat

/- The plain laws of the wind, part 4. -/
namespace Go.Proofs.YtohlillcaadidaaGreat
open Go Go.Eng
/-- One range and rules do no worse than others. -/
structure SimR (r r' : Rg) (p p' : Ru) (e : Nat) : Prop where
 drifts : r'.drifts.length = r.drifts.length
 next : r'.next = r.next
 total : r'.total = r.total
 gsum : r'.group.sum = r.group.sum
 clicks : r.clicks ≤ r'.clicks
 miss : ∀ st c, st < r.drifts.length → cX r' (r'.drifts.getD st 0) c ≤ cX r (r.drifts.getD st 0) c
 pm : 0 ≤ p'.miss ∧ p'.miss ≤ p.miss
 pc : p'.click ≤ p.click
 pw : p'.wait ≤ p.wait
 waits : p.waits + e ≤ p'.waits
end Go.Proofs.YtohlillcaadidaaGreat

/- The plain laws of the wind, part 5. -/
namespace Go.Proofs.YtohlillcaadidaaGreat
open Go Go.Eng
/-! The values. -/
abbrev valsL (r : Rg) (p : Ru) : List Int := (plcL r p).map (nG r p)
def costP (r : Rg) (p : Ru) : Int := cV (fun s => r.first.getD s 0 * iU r p 0 p.waits.toNat s 0) r.drifts.length
def denP (r : Rg) (p : Ru) : Int := cJ r 0 p.waits.toNat * r.total
def planV (r : Rg) (p : Ru) : Int × Int := ratioV (costP r p) (denP r p)
theorem first_bd {r : Rg} (hr : r.Right) (s : Nat) : 0 ≤ r.first.getD s 0 ∧ r.first.getD s 0 ≤ r.total := getD_bd (by have := hr.total; omega) hr.chance s
end Go.Proofs.YtohlillcaadidaaGreat

/- The plain laws of the wind, part 6. -/
namespace Go.Proofs.YtohlillcaadidaaGreat
open Go Go.Eng
/-! Values that hold prove no more. -/
/-! One click for all shots. -/
/-- The misses that follow, if all shots are shot with a click; m shots are left. -/
def tailM (r : Rg) (c : Int) : Nat → Nat → Int
 | 0, _ => 0
 | m + 1, st => cX r (r.drifts.getD st 0) c * r.total ^ m + folS r (tailM r c m) st
/-- What it costs to shoot all with one click, as a fraction. -/
def clickV (r : Rg) (p : Ru) (c : Int) : Int × Int := (p.click * max c (-c) * (lK r c).2 + p.miss * (lK r c).1, (lK r c).2)
end Go.Proofs.YtohlillcaadidaaGreat

/- The plain laws of the wind, part 7. -/
namespace Go.Proofs.YtohlillcaadidaaGreat
open Go Go.Eng
/-! The worst case. -/
theorem worstO_in (r : Rg) (c : Int) (s : Int × Int) (h : s.1 ≤ s.2) : s.1 ≤ lG r c s ∧ lG r c s ≤ s.2 := by
 have h2 := wP_bd r c s.1 (s.2 - s.1 + 1).toNat
 unfold lG
 omega
theorem worstL_getD (r : Rg) (ws : List (Int × Int)) (c : Int) (i : Nat) (hi : i < ws.length) : (cF r ws c).getD i 0 = lG r c (ws.getD i (0, 0)) := by
 simp [cF, List.getD_eq_getElem?_getD, hi]
theorem ws_mem {ws : List (Int × Int)} {i : Nat} (hi : i < ws.length) : ws.getD i (0, 0) ∈ ws := by
 rw [List.getD_eq_getElem?_getD, List.getElem?_eq_getElem hi, Option.getD_some]
 exact List.getElem_mem hi
abbrev facN (r : Rg) (l : List Int) (c : Int) : Int := facS r l c 5
theorem facedV_5 (r : Rg) {l : List Int} (hl : l.length = 5) (c : Int) : fG r l c = ratioV (facN r l c) r.group.sum := by
 unfold fG
 rw [hl]
theorem facN_bd {r : Rg} (hr : r.Right) (l : List Int) (c : Int) : 0 ≤ facN r l c ∧ facN r l c ≤ 5 * r.group.sum := by
 have h1 := lW (fun _ => 0) (fun i => cX r (l.getD i 0) c) 5 (fun i _ => (eC r hr _ _).1)
 have h2 := lW (fun i => cX r (l.getD i 0) c) (fun _ => r.group.sum) 5 (fun i _ => (eC r hr _ _).2)
 rw [mH _ _ (fun _ _ => rfl)] at h1
 refine ⟨h1, Int.le_trans h2 ?_⟩
 simp only [cV]
 omega
theorem fac_less {r : Rg} (hr : r.Right) (l l' : List Int) (c c' : Int) : nW (ratioV (facN r l c) r.group.sum) (ratioV (facN r l' c') r.group.sum) = (decide (facN r l c < facN r l' c') && true) :=
 mR (by have := hr.gsum; omega) (facN_bd hr l c).1 (facN_bd hr l' c').1
theorem robQ_eq (r : Rg) {ws : List (Int × Int)} (hw : WindOk ws) (c : Int) : jD r ws c = ratioV (facN r (cF r ws c) c) r.group.sum :=
 facedV_5 r (by rw [dF, hw.len]) c
/-- The robust click. -/
theorem rob_of {r : Rg} (hr : r.Right) {ws : List (Int × Int)} (hw : WindOk ws) : ∃ m, nF r ws = (m, jD r ws m, 0) ∧ (-r.clicks ≤ m ∧ m ≤ r.clicks) ∧ (∀ c, -r.clicks ≤ c ∧ c ≤ r.clicks → facN r (cF r ws m) m ≤ facN r (cF r ws c) c) ∧
  ∀ c, -r.clicks ≤ c ∧ c ≤ r.clicks → facN r (cF r ws c) c = facN r (cF r ws m) m → ¬ (c * c < m * m ∨ c = -m ∧ c < m) := by
 obtain ⟨m, h1, h2, h3, h4⟩ := best_law (jD r ws) (fun c => facN r (cF r ws c) c) r.clicks hr.clicks.1 (fun a b _ _ => by rw [robQ_eq r hw, robQ_eq r hw]; exact fac_less hr _ _ _ _)
 refine ⟨m, ?_, h2, h3, h4⟩
 have hb : cN r ws = 0 := (dN r ws).2 ⟨(bM r).2 hr, hw⟩
 unfold nF
 rw [hb, h1]
 rfl
/-- What witnesses show: the least of them. -/
theorem shows_of {r : Rg} (hr : r.Right) {ws : List (Int × Int)} (hw : WindOk ws) (wl : List (List Int)) (hlen : (wl.length : Int) = 2 * r.clicks + 1) (h5 : ∀ l ∈ wl, l.length = 5) (hin : ∀ l ∈ wl, ∀ i, i < 5 → (ws.getD i (0, 0)).1 ≤ l.getD i 0 ∧ l.getD i 0 ≤ (ws.getD i (0, 0)).2) :
  ∃ m, eA r ws wl = (ratioV (facN r (wl.getD (m + r.clicks).toNat []) m) r.group.sum, 0) ∧ (-r.clicks ≤ m ∧ m ≤ r.clicks) ∧ ∀ c, -r.clicks ≤ c ∧ c ≤ r.clicks → facN r (wl.getD (m + r.clicks).toNat []) m ≤ facN r (wl.getD (c + r.clicks).toNat []) c := by
 have hmem : ∀ c, -r.clicks ≤ c ∧ c ≤ r.clicks → wl.getD (c + r.clicks).toNat [] ∈ wl := fun c hc => by
  have : (c + r.clicks).toNat < wl.length := by omega
  rw [List.getD_eq_getElem?_getD, List.getElem?_eq_getElem this, Option.getD_some]
  exact List.getElem_mem this
 have hq : ∀ c, -r.clicks ≤ c ∧ c ≤ r.clicks → shQ r wl c = ratioV (facN r (wl.getD (c + r.clicks).toNat []) c) r.group.sum := fun c hc => facedV_5 r (h5 _ (hmem c hc)) c
 obtain ⟨m, h1, h2, h3, _⟩ := best_law (shQ r wl) (fun c => facN r (wl.getD (c + r.clicks).toNat []) c) r.clicks hr.clicks.1 (fun a b ha hb => by rw [hq a ha, hq b hb]; exact fac_less hr _ _ _ _)
 refine ⟨m, ?_, h2, h3⟩
 have hb : cN r ws = 0 := (dN r ws).2 ⟨(bM r).2 hr, hw⟩
 have e1 : wl.all shB = true := List.all_eq_true.2 fun l hl => by simp [shB, h5 l hl]
 have e2 : wl.all (witB ws) = true := List.all_eq_true.2 fun l hl => witB_of fun i hi => bH.2 (hin l hl i (by rw [h5 l hl] at hi; exact hi))
 unfold eA
 rw [hb, e1, e2, h1, ← hq m h2]
 simp [hlen]
/-! What is more. -/
end Go.Proofs.YtohlillcaadidaaGreat

/- The plain laws of the wind, part 8. -/
namespace Go.Proofs.YtohlillcaadidaaGreat
open Go Go.Eng
/-! Left and right. -/
structure Turned (r r' : Rg) : Prop where
 n : r'.drifts.length = r.drifts.length
 next : r'.next = r.next
 first : r'.first = r.first
 total : r'.total = r.total
 gsum : r'.group.sum = r.group.sum
 clicks : r'.clicks = r.clicks
 miss : ∀ st c, st < r.drifts.length → cX r' (r'.drifts.getD st 0) (-c) = cX r (r.drifts.getD st 0) c
theorem Turned.symm {r r' : Rg} (h : Turned r r') : Turned r' r :=
 ⟨h.n.symm, h.next.symm, h.first.symm, h.total.symm, h.gsum.symm, h.clicks.symm, fun st c hs => by
  have := h.miss st (-c) (by rw [← h.n]; exact hs)
  rw [Int.neg_neg] at this
  exact this.symm⟩
def turnR (r : Rg) : Rg := { r with group := r.group.reverse, drifts := r.drifts.map (fun d => d * -1) }
/-! Turned winds. -/
def turnW (ws : List (Int × Int)) : List (Int × Int) := ws.map fun s => (-s.2, -s.1)
/-! States numbered otherwise. -/
structure Named (r r' : Rg) (σ : Nat → Nat) : Prop where
 n : r'.drifts.length = r.drifts.length
 nn : r'.next.length = r.next.length
 total : r'.total = r.total
 gsum : r'.group = r.group
 clicks : r'.clicks = r.clicks
 radius : r'.radius = r.radius
 unit : r'.unit = r.unit
 perm : ((List.range r.drifts.length).map σ).Perm (List.range r.drifts.length)
 drift : ∀ s, s < r.drifts.length → r'.drifts.getD (σ s) 0 = r.drifts.getD s 0
 first : ∀ s, s < r.drifts.length → r'.first.getD (σ s) 0 = r.first.getD s 0
 next : ∀ s t, s < r.drifts.length → t < r.drifts.length → (r'.next.getD (σ s) []).getD (σ t) 0 = (r.next.getD s []).getD t 0
theorem Named.lt {r r' : Rg} {σ : Nat → Nat} (h : Named r r' σ) {s : Nat} (hs : s < r.drifts.length) : σ s < r.drifts.length :=
 List.mem_range.1 (h.perm.mem_iff.1 (List.mem_map.2 ⟨s, List.mem_range.2 hs, rfl⟩))
end Go.Proofs.YtohlillcaadidaaGreat

/- The plain laws of the wind, part 9. -/
namespace Go.Proofs.YtohlillcaadidaaGreat
open Go Go.Eng
/-! A wind that never changes. -/
structure OneSt (r : Rg) : Prop where
 right : r.Right
 one : r.drifts.length = 1
abbrev mis0 (r : Rg) (c : Int) : Int := cX r (r.drifts.getD 0 0) c
/-- The winds of that drift. -/
abbrev calmW (r : Rg) : List (Int × Int) := List.replicate 5 (r.drifts.getD 0 0, r.drifts.getD 0 0)
end Go.Proofs.YtohlillcaadidaaGreat

/- The plain laws of the wind, part 10: plays. -/
namespace Go.Proofs.YtohlillcaadidaaGreat
open Go Go.Eng
/-! What comes of following the plan, over all courses of the wind. -/
/-- What it costs from a situation on, if all shots are that far off. -/
def dCost (r : Rg) (p : Ru) (far : Int) : Nat → Nat → Int → List Nat → Int
 | _, _, _, [] => 0
 | k, w, cl, st :: l =>
  if k = 5 then 0 else if (jW r p k w st cl).1.1 = true then p.wait + dCost r p far k (w - 1) cl l
  else p.click * max ((jW r p k w st cl).1.2 - cl) (cl - (jW r p k w st cl).1.2) + (if hitB r (r.drifts.getD st 0 + far + (jW r p k w st cl).1.2 * r.unit) then 0 else p.miss) + dCost r p far (k + 1) w (jW r p k w st cl).1.2 l
abbrev offL (far : Int) : List Int := List.replicate 5 far
/-- What is known on the way. -/
structure FIn (r : Rg) (p : Ru) (k : Nat) (x : FoS) : Prop where
 ok : FOk r p k x
 at_ : x.shot = 5 ∨ (x.shot : Int) + (p.waits - x.wt) = k
 steps : x.steps = x.shot + (p.waits - x.wt)
 misses : x.misses ≤ x.shot
 cost : p.miss * x.misses ≤ x.cost
/-- Sums over courses that go on from a state. -/
def cSum (r : Rg) : Nat → Nat → (List Nat → Int) → Int
 | 0, _, f => f []
 | n + 1, st, f => folS r (fun t => cSum r n t (fun l => f (t :: l))) st
theorem row_sum {r : Rg} (hr : r.Right) (st : Nat) (hs : st < r.drifts.length) : cV (fun t => (r.next.getD st []).getD t 0) r.drifts.length = r.total := by
 have hl : st < r.next.length := by rw [hr.next]; exact hs
 have hm : r.next[st] ∈ r.next := List.getElem_mem hl
 have e : r.next.getD st [] = r.next[st] := by simp [List.getD_eq_getElem?_getD, hl]
 rw [e, iM _ _ (by rw [hr.rows _ hm]; exact Nat.le_refl _), hr.nsum _ hm]
/-- How far an offset is off. -/
abbrev farO (r : Rg) (o : Nat) : Int := (o : Int) - (r.group.length : Int) / 2
abbrev wtO (r : Rg) (o : Nat) : Int := r.group.getD o 0
end Go.Proofs.YtohlillcaadidaaGreat

/- The plain laws of the wind, part 11: all courses. -/
namespace Go.Proofs.YtohlillcaadidaaGreat
open Go Go.Eng
/-! Courses of the wind, as bits. -/
def bitsL : Nat → Nat → List Nat
 | 0, _ => []
 | L + 1, i => (i % 2) :: bitsL L (i / 2)
def chN (r : Rg) : Nat → List Nat → Int
 | _, [] => 1
 | st, t :: l => (r.next.getD st []).getD t 0 * chN r t l
def chF (r : Rg) : List Nat → Int
 | [] => 1
 | s :: l => r.first.getD s 0 * chN r s l
/-- What a course adds, with the first m offsets. -/
def corS (r : Rg) (p : Ru) (i m : Nat) : Int := cV (fun o => chF r (bitsL (5 + p.waits.toNat) i) * wtO r o * dCost r p (farO r o) 0 p.waits.toNat 0 (bitsL (5 + p.waits.toNat) i)) m
def allS (r : Rg) (p : Ru) (i : Nat) : Int := cV (fun j => corS r p j r.group.length) i
end Go.Proofs.YtohlillcaadidaaGreat

/- The plain laws of the reference: courses of the wind by their numbers. -/
namespace Go.Proofs.YtohlillcaadidaaGreat
open Go Go.Eng

theorem sumR_app (G : Nat → Int) (x : Nat) : ∀ y, cV G (x + y) = cV G x + cV (fun i => G (x + i)) y
 | 0 => by simp [cV]
 | y + 1 => by
  rw [← Nat.add_assoc]
  simp only [cV]
  rw [sumR_app G x y]
  omega
theorem sumR_block (G : Nat → Int) (m : Nat) : ∀ a, cV G (a * m) = cV (fun t => cV (fun c => G (t * m + c)) m) a
 | 0 => by simp [cV]
 | a + 1 => by
  rw [Nat.succ_mul, sumR_app, sumR_block G m a]
  rfl
theorem mP (F : Nat → Nat → Int) (m : Nat) : ∀ n, cV (fun t => cV (fun c => F t c) m) n = cV (fun c => cV (fun t => F t c) n) m
 | 0 => by
  simp only [cV]
  exact (mH _ _ fun _ _ => Z).symm
 | n + 1 => by
  simp only [cV]
  rw [mP F m n, ← sumR_add]
/-- A digit of a course's number: the state at that shot. -/
def dig (n c i : Nat) : Nat := c / n ^ i % n
theorem dig_lt {n : Nat} (h : 0 < n) (c i : Nat) : dig n c i < n := Nat.mod_lt _ h
theorem dig_low {n k i : Nat} (h : 0 < n) (hi : i ≤ k) (t c : Nat) : dig n (t * n ^ (k + 1) + c) i = dig n c i := by
 unfold dig
 have e : t * n ^ (k + 1) = n ^ i * (n * (t * n ^ (k - i))) := by
  rw [show k + 1 = i + (1 + (k - i)) by omega, Nat.pow_add, Nat.pow_add, Nat.pow_one]
  ac_rfl
 rw [e, Nat.mul_add_div (Nat.pow_pos h), Nat.mul_add_mod]
theorem dig_top {n k t c : Nat} (ht : t < n) (hc : c < n ^ (k + 1)) : dig n (t * n ^ (k + 1) + c) (k + 1) = t := by
 have h : 0 < n := by omega
 unfold dig
 rw [Nat.mul_comm, Nat.mul_add_div (Nat.pow_pos h), Nat.div_eq_of_lt hc, Nat.add_zero, Nat.mod_eq_of_lt ht]
/-- The weight of a course, up to a shot. -/
def crW (r : Rg) (c : Nat) : Nat → Int
 | 0 => 1
 | 1 => r.first.getD (dig r.drifts.length c 0) 0
 | k + 2 => crW r c (k + 1) * (r.next.getD (dig r.drifts.length c k) []).getD (dig r.drifts.length c (k + 1)) 0
theorem crW_low {r : Rg} (h : 0 < r.drifts.length) (t c k : Nat) : ∀ j, j ≤ k + 1 → crW r (t * r.drifts.length ^ (k + 1) + c) j = crW r c j
 | 0, _ => rfl
 | 1, _ => by rw [crW, crW, dig_low h O]
 | j + 2, hj => by rw [crW, crW, crW_low h t c k (j + 1) O, dig_low h O, dig_low h O]
theorem next_bd2 {r : Rg} (hr : r.Right) (s t : Nat) : 0 ≤ (r.next.getD s []).getD t 0 ∧ (r.next.getD s []).getD t 0 ≤ 12 := by
 have ht := hr.total
 by_cases h : s < r.next.length
 ·rw [show r.next.getD s [] = r.next[s] by simp [List.getD_eq_getElem?_getD, h]]
  by_cases h2 : t < r.next[s].length
  ·have := hr.chances _ (List.getElem_mem h) _ (List.getElem_mem h2)
   rw [List.getD_eq_getElem?_getD, List.getElem?_eq_getElem h2, Option.getD_some]
   omega
  ·rw [List.getD_eq_getElem?_getD, List.getElem?_eq_none O]
   simp
 ·rw [show r.next.getD s [] = [] by simp [List.getD_eq_getElem?_getD, show r.next.length ≤ s by omega]]
  simp
theorem crW_bd {r : Rg} (hr : r.Right) (c : Nat) : ∀ k, 0 ≤ crW r c k ∧ crW r c k ≤ 12 ^ k
 | 0 => by simp [crW]
 | 1 => by have := first_bd hr (dig r.drifts.length c 0); have := hr.total; rw [crW]; omega
 | k + 2 => by
  have := bR (crW_bd hr c (k + 1)) (next_bd2 hr (dig r.drifts.length c k) (dig r.drifts.length c (k + 1)))
  rw [crW, Int.pow_succ]
  exact this
/-- A sum over all courses of so many shots. -/
def crS (r : Rg) (k : Nat) (φ : Nat → Int) : Int := cV (fun c => crW r c (k + 1) * φ c) (r.drifts.length ^ (k + 1))
theorem crS_succ {r : Rg} (h : 0 < r.drifts.length) (k : Nat) (φ : Nat → Int) : crS r (k + 1) φ = crS r k (fun c => cV (fun t => (r.next.getD (dig r.drifts.length c k) []).getD t 0 * φ (t * r.drifts.length ^ (k + 1) + c)) r.drifts.length) := by
 unfold crS
 rw [show r.drifts.length ^ (k + 1 + 1) = r.drifts.length * r.drifts.length ^ (k + 1) by rw [Nat.pow_succ, Nat.mul_comm], sumR_block, mP]
 refine dL _ _ _ (fun c hc => ?_)
 try simp only
 rw [← hJ]
 refine dL _ _ _ (fun t ht => ?_)
 try simp only
 rw [crW, crW_low h _ _ _ _ (Nat.le_refl _), dig_low h (Nat.le_refl _), dig_top ht hc, Int.mul_assoc]
/-- The states at a shot, each with its weight. -/
def wS (r : Rg) (k : Nat) (g : Nat → Int) : Int := cV (fun s => (wts r k).getD s 0 * g s) r.drifts.length
theorem wS_succ {r : Rg} (hr : r.Right) (k : Nat) (g : Nat → Int) : wS r (k + 1) g = wS r k (fun s => cV (fun t => (r.next.getD s []).getD t 0 * g t) r.drifts.length) := by
 have hd := hr.d2
 unfold wS
 rw [dL _ (fun t => cV (fun s => (wts r k).getD s 0 * ((r.next.getD s []).getD t 0 * g t)) r.drifts.length) _ (fun t ht => by
  try simp only
  rw [wtsS_getD r k t O, hr.next, Int.mul_comm, ← hJ]
  refine dL _ _ _ (fun s _ => ?_)
  try simp only
  rw [Int.mul_comm, Int.mul_assoc]), mP]
 refine dL _ _ _ (fun s _ => ?_)
 try simp only
 rw [hJ]
theorem crS_top {r : Rg} (hr : r.Right) : ∀ (k : Nat) (g : Nat → Int), crS r k (fun c => g (dig r.drifts.length c k)) = wS r k g
 | 0, g => by
  unfold crS wS
  rw [Nat.zero_add, Nat.pow_one]
  refine dL _ _ _ (fun c hc => ?_)
  try simp only
  have e : dig r.drifts.length c 0 = c := by unfold dig; rw [Nat.pow_zero, Nat.div_one, Nat.mod_eq_of_lt hc]
  rw [crW, e, wts0_getD hr]
 | k + 1, g => by
  have hd := hr.d1
  rw [crS_succ O, wS_succ hr, ← crS_top hr k]
  unfold crS
  refine dL _ _ _ (fun c hc => ?_)
  try simp only
  congr 1
  refine dL _ _ _ (fun t ht => ?_)
  try simp only
  rw [dig_top ht hc]
theorem crS_at {r : Rg} (hr : r.Right) (k : Nat) (g : Nat → Int) : ∀ d, crS r (k + d) (fun c => g (dig r.drifts.length c k)) = r.total ^ d * wS r k g
 | 0 => by rw [Nat.add_zero, crS_top hr]; simp
 | d + 1 => by
  have hd := hr.d1
  rw [← Nat.add_assoc, crS_succ O, Int.pow_succ, Int.mul_right_comm, ← crS_at hr k g d]
  unfold crS
  rw [Int.mul_comm, ← hJ]
  refine dL _ _ _ (fun c _ => ?_)
  try simp only
  rw [dL _ (fun t => g (dig r.drifts.length c k) * (r.next.getD (dig r.drifts.length c (k + d)) []).getD t 0) _ (fun t _ => by (try simp only); rw [dig_low O O, Int.mul_comm]), hJ, row_sum hr _ (dig_lt O _ _)]
  ac_rfl
/-- The sum of the weights of the courses with a state at a shot. -/
theorem chance_sum {r : Rg} (hr : r.Right) (i s : Nat) (hi : i < 5) (hs : s < r.drifts.length) : crS r 4 (fun c => if dig r.drifts.length c i = s then 1 else 0) = (wts r i).getD s 0 * r.total ^ (4 - i) := by
 have h := crS_at hr i (fun x => if x = s then 1 else 0) (4 - i)
 rw [show i + (4 - i) = 4 by omega] at h
 rw [h, Int.mul_comm]
 congr 1
 unfold wS
 rw [dL _ (fun x => if x = s then (wts r i).getD s 0 else 0) _ (fun x _ => by
  try simp only
  split
  ·subst_vars; simp
  ·simp)]
 have key : ∀ n, s < n → cV (fun x => if x = s then (wts r i).getD s 0 else 0) n = (wts r i).getD s 0 := by
  intro n
  induction n with
  | zero => intro h; omega
  | succ n ih =>
   intro h
   simp only [cV]
   by_cases h2 : s = n
   ·subst h2
    rw [mH _ _ (fun x hx => by (try simp only); rw [if_neg O]), if_pos rfl]
    omega
   ·rw [ih O, if_neg O]
    omega
 exact key _ hs
/-- The misses of all courses. -/
theorem miss_sum {r : Rg} (hr : r.Right) (click : Int) : cV (fun i => crS r 4 (fun c => cX r (r.drifts.getD (dig r.drifts.length c i) 0) click)) 5 = (lL r click 5).1 := by
 have e : ∀ i, i < 5 → crS r 4 (fun c => cX r (r.drifts.getD (dig r.drifts.length c i) 0) click) = r.total ^ (4 - i) * mulN r click (wts r i) r.drifts.length := fun i hi => by
  have h := crS_at hr i (fun s => cX r (r.drifts.getD s 0) click) (4 - i)
  rw [show i + (4 - i) = 4 by omega] at h
  rw [h]
  rfl
 simp only [cV]
 rw [e 0 O, e 1 O, e 2 O, e 3 O, e 4 O]
 rw [iJ r click 4 O, iJ r click 3 O, iJ r click 2 O, iJ r click 1 O, iJ r click 0 O]
 have z : (lL r click 0).1 = 0 := rfl
 rw [z]
 simp only [show (4 : Nat) - 0 = 4 from rfl, show (4 : Nat) - 1 = 3 from rfl, show (4 : Nat) - 2 = 2 from rfl, show (4 : Nat) - 3 = 1 from rfl, show (4 : Nat) - 4 = 0 from rfl]
 generalize mulN r click (wts r 0) r.drifts.length = m0
 generalize mulN r click (wts r 1) r.drifts.length = m1
 generalize mulN r click (wts r 2) r.drifts.length = m2
 generalize mulN r click (wts r 3) r.drifts.length = m3
 generalize mulN r click (wts r 4) r.drifts.length = m4
 generalize r.total = T
 have p2 : T ^ 2 = T * T := by rw [Int.pow_succ, Int.pow_succ, Int.pow_zero, Int.one_mul]
 have p3 : T ^ 3 = T * T * T := by rw [Int.pow_succ, p2]
 have p4 : T ^ 4 = T * T * T * T := by rw [Int.pow_succ, p3]
 have p1 : T ^ 1 = T := by rw [Int.pow_succ, Int.pow_zero, Int.one_mul]
 rw [p1, p2, p3, p4, Int.pow_zero]
 simp only [Int.zero_mul, Int.zero_add, Int.add_mul, Int.one_mul]
 have a0 : T * T * T * T * m0 = m0 * T * T * T * T := by ac_rfl
 have a1 : T * T * T * m1 = m1 * T * T * T := by ac_rfl
 have a2 : T * T * m2 = m2 * T * T := by ac_rfl
 have a3 : T * m3 = m3 * T := by ac_rfl
 omega
end Go.Proofs.YtohlillcaadidaaGreat

/- Walks of the reference: courses of the wind. -/
namespace Go.Proofs.YtohlillcaadidaaGreat
open Go Go.Eng

theorem nI : arrB Tryz.prog 157 5 3 1 = true := by kernel_rfl
/-- The states of a course, as far as they are computed. -/
def digP (n c k : Nat) : List Int := (List.range 5).map fun i => if i < k then ((dig n c i : Nat) : Int) else 0
theorem gT (n c k : Nat) : (digP n c k).length = 5 := by simp [digP]
theorem digP_0 (n c : Nat) : digP n c 0 = List.replicate 5 0 := by simp [digP, List.map_const']
theorem digP_at (n c k i : Nat) (h : i < k) (h5 : i < (digP n c k).length) : (digP n c k)[i] = ((dig n c i : Nat) : Int) := by
 simp [digP, h]
theorem digP_set (n c k : Nat) : (digP n c k).set k ((dig n c k : Nat) : Int) = digP n c (k + 1) := by
 refine List.ext_getElem (by simp [digP]) (fun i h1 h2 => ?_)
 simp only [digP, List.getElem_set, List.getElem_map, List.getElem_range]
 split
 ·subst_vars
  rw [if_pos O]
 ·split
  ·rw [if_pos O]
  ·rw [if_neg O]
theorem crW5 {r : Rg} (hr : r.Right) (c k : Nat) (hk : k ≤ 5) : 0 ≤ crW r c k ∧ crW r c k ≤ 248832 := by
 have h := crW_bd hr c k
 have h2 : (12 : Int) ^ k ≤ 12 ^ 5 := by
  have : (12 : Nat) ^ k ≤ 12 ^ 5 := Nat.pow_le_pow_right O hk
  exact_mod_cast this
 have h3 : (12 : Int) ^ 5 = 248832 := by decide
 omega
theorem pow5 {r : Rg} (hr : r.Right) : r.drifts.length ^ 5 ≤ 3125 := by
 have h := Nat.pow_le_pow_left hr.d2 5
 have h3 : (5 : Nat) ^ 5 = 3125 := by decide
 omega
theorem course_ca (w : World) (cs : List Value) (r : Rg) (c : Nat) (h : RgC w cs r) (hr : r.Right) (hc5 : c < r.drifts.length ^ 5) :
  Ca Tryz.prog 112 [.agg cs.toArray, .int .i64 c] w fun v w' => v = .tuple #[.agg (aZ (digP r.drifts.length c 5)).toArray, .int .i64 (crW r c 5)] ∧ Chg [] w w' := by
 obtain ⟨lo, hi, ag, cg, ad, cd, af, cf, an, cn, rfl, hg, hdr, hf, hn⟩ := h
 obtain ⟨_, _, hsl, hsn⟩ := RdII.outI hn
 cases hsl
 obtain ⟨_, _, hsl, hsf⟩ := RdI.outI hf
 cases hsl
 have hd1 := hr.d1
 have hd2 := hr.d2
 have hp5 := pow5 hr
 have hfl := hr.first
 have hnl := hr.next
 refine dB (Sat.nil w M0) Tryz.func112 Z (by simp [Tryz.ntmps112]) ?_
 (refine aE (aB ?_))
 refine bG Z Z (fun b2 => ?_)
 refine aV zero157 Z (fun b4 => ?_)
 (refine aA V Z Z (aF (aE (aB ?_))))
 refine aV zero157 Z (fun b6 => ?_)
 (refine aF (aE (aB (aA V Z Z (aF (aE (aE (aB (aA V Z Z (aF (aP ?_)))))))))))
 refine bN (σ := Nat) (fun k => k ≤ 5) (fun k => 5 - k) (fun k => [(1, .int .i64 ((c / r.drifts.length ^ k : Nat) : Int)), (2, .pointer (some ⟨b2, 0, none⟩)), (4, .pointer (some ⟨b4, 0, none⟩)), (6, .pointer (some ⟨b6, 0, none⟩)), (7, .int .i64 (crW r c k)), (8, .int .i64 k)])
  (fun k => [.pt b6 (aZ (digP r.drifts.length c k)) 157, .pt b4 (aZ (List.replicate 5 0)) 157, .pt b2 [.int .i64 r.radius, .int .i64 r.unit, .int .i64 r.clicks, .int .i64 r.total, .slice ag r.group.length cg, .slice ad r.drifts.length cd, .slice af r.first.length cf, .slice an r.next.length cn] 34]) 0 O ⟨by rw [Nat.pow_zero, Nat.div_one]; rfl, rfl, rfl, rfl, rfl, rfl, trivial⟩ (by rw [digP_0]; repeat constructor) ?_
 intro k hk K hK
 have hm0 : c / r.drifts.length ^ k ≤ c := Nat.div_le_self _ _
 have hmn : c / r.drifts.length ^ (k + 1) = c / r.drifts.length ^ k / r.drifts.length := by rw [Nat.pow_succ, Nat.div_div_eq_div_mul]
 have hdk : dig r.drifts.length c k = c / r.drifts.length ^ k % r.drifts.length := rfl
 obtain ⟨m, hm⟩ : ∃ m, m = c / r.drifts.length ^ k := ⟨_, rfl⟩
 rw [← hm] at hm0 hmn hdk ⊢
 have hdl := dig_lt (n := r.drifts.length) O c k
 have hz : ((m : Nat) : Int) % (r.drifts.length : Int) = ((dig r.drifts.length c k : Nat) : Int) := by rw [hdk]; simp
 have hq : ((m : Nat) : Int) / (r.drifts.length : Int) = ((c / r.drifts.length ^ (k + 1) : Nat) : Int) := by rw [hmn, Int.natCast_ediv]
 (refine aE (aE (aB (aA V Z Z (aA V Z Z (aF ?_))))))
 refine dD Z (fun hc => ?_) (fun hc => ?_)
 ·have hk5 : k < 5 := by omega
  clear hc
  have hlk : k < (digP r.drifts.length c k).length := by rw [gT]; omega
  (refine aR (aE (aP (aE (aB ?_)))); (iterate 3 refine aA V Z Z ?_); refine aH V Z Z Z ?_; refine aA V Z Z (dE Z Z Z O O ?_))
  rw [hz]
  refine ql_indexA nI Z Z Z O O ?_
  refine jT V (k) Z Z Z U (by first | rfl | omega | simp) hlk ?_
  rw [digP_set]
  (refine aF (aE (aB (aA V Z Z (aA V Z Z ?_)))); refine aH V Z Z Z ?_; refine aA V Z Z (iR Z Z Z O O O (aA V Z Z (aF (aE (aB (aA V Z Z (aA V Z Z (aF ?_)))))))))
  rw [hq]
  have hlk1 : k < (digP r.drifts.length c (k + 1)).length := by rw [gT]; omega
  refine dD Z (fun hc => ?_) (fun hc => ?_)
  ·obtain rfl : k = 0 := by omega
   clear hc
   have hdf : dig r.drifts.length c 0 < r.first.length := by omega
   obtain ⟨bf, off, rfl⟩ := hsf O
   (refine aB (aA V Z Z ?_); refine aH V Z Z Z ?_)
   refine ql_indexA nI Z Z Z O O ?_
   refine ql_loadI V (0) Z Z Z U (by first | rfl | omega | simp) hlk1 ?_
   rw [digP_at _ _ _ 0 O]
   (refine bW V Z Z Z Z Z O O ?_; refine cI V Z Z Z (fun w hs => RdI.at (RdE.keep hf hs.chg0) (dig r.drifts.length c 0) hdf) ?_)
   (refine aA V Z Z (aF (bL (aB (aA V Z Z (bB V Z Z Z Z O O (aA V Z Z (aF ?_))))))))
   have hw : crW r c 1 = r.first[dig r.drifts.length c 0] := by rw [crW]; simp [List.getD_eq_getElem?_getD, hdf]
   exact hK 1 _ _ O O ⟨Z, Z, Z, Z, by rw [hw]; rfl, Z, trivial⟩ U
  ·obtain ⟨j, rfl⟩ : ∃ j, k = j + 1 := ⟨k - 1, by omega⟩
   clear hc
   have hdj := dig_lt (n := r.drifts.length) O c j
   have hjn : dig r.drifts.length c j < r.next.length := by omega
   have hlj : j < (digP r.drifts.length c (j + 1 + 1)).length := by rw [gT]; omega
   obtain ⟨bs, off, rfl⟩ := hsn O
   obtain ⟨ar, cr, hrow, hcell⟩ := hn.row (dig r.drifts.length c j) hjn
   have hrl := hr.rows _ (List.getElem_mem hjn)
   have hw : crW r c (j + 1 + 1) = crW r c (j + 1) * r.next[dig r.drifts.length c j].getD (dig r.drifts.length c (j + 1)) 0 := by
    rw [crW]
    simp [List.getD_eq_getElem?_getD, hjn]
   have hwb := crW5 hr c (j + 1 + 1) O
   generalize hrw : r.next[dig r.drifts.length c j] = row at hrow hcell hrl hw
   have hdr : dig r.drifts.length c (j + 1) < row.length := by omega
   rw [List.getD_eq_getElem?_getD, List.getElem?_eq_getElem hdr, Option.getD_some] at hw
   obtain ⟨_, _, hsl2, hsr⟩ := RdI.outI hrow
   cases hsl2
   obtain ⟨br, offr, rfl⟩ := hsr O
   rw [hw] at hwb
   refine bX _ [] (Sp.refl _) qR qR ?_
   (refine aD V Z Z Z (aD V Z Z Z ?_); refine aT V Z Z Z ?_; refine aD V Z Z Z (bY V Z Z Z Z O O ?_))
   refine eB nI Z Z Z O O ?_
   refine fL V (j) Z Z Z U (by first | rfl | omega | simp) hlj ?_
   rw [digP_at _ _ _ j O]
   refine bF V Z Z Z Z Z O O ?_
   refine bI (v := .slice (some ⟨br, offr, none⟩) row.length cr) V Z Z Z (fun w' hs => hcell w' hs.chg0) ?_
   (refine aD V Z Z Z ?_)
   refine eB nI Z Z Z O O ?_
   refine fL V (j + 1) Z Z Z U (by first | rfl | omega | simp) hlk1 ?_
   rw [digP_at _ _ _ (j + 1) O]
   (refine bF V Z Z Z Z Z O O ?_; refine bI V Z Z Z (fun w hs => RdI.at (RdE.keep hrow hs.chg0) (dig r.drifts.length c (j + 1)) hdr) ?_)
   (refine bY V Z Z Z Z O O (aD V Z Z Z (aK (bL (aB (aA V Z Z (bB V Z Z Z Z O O (aA V Z Z (aF ?_)))))))))
   exact hK (j + 1 + 1) _ _ O O ⟨Z, Z, Z, Z, by rw [hw]; rfl, Z, trivial⟩ U
 ·obtain rfl : k = 5 := by omega
  have hal := gT r.drifts.length c 5
  clear hK
  generalize digP r.drifts.length c 5 = l at hal ⊢
  (refine bJ _ Z (aE (aB ?_)))
  refine lN (us := aZ l) V Z Z Z U (by rw [List.drop_zero]; exact List.take_of_length_le (by simp [hal])) (by simp [hal]) ?_
  (refine aA V Z Z ?_)
  refine aY V Z Z Z (by simp [hal]) (by simp [dY]) U (by simp) ?_
  (refine aA V Z Z (aF (aW ?_)))
  refine aX (vs := [.agg (aZ l).toArray, .int .i64 (crW r c 5)]) V Z (RVs.cellA Z Z U (by simp [hal]) (.tmp Z .nil)) fun w hs => ?_
  exact ⟨Z, hs.chg0⟩

theorem courses_ca (w : World) (cs : List Value) (r : Rg) (h : RgC w cs r) (hr : r.Right) :
  Ca Tryz.prog 111 [.agg cs.toArray] w fun v w' => v = .int .i64 ((r.drifts.length ^ 5 : Nat) : Int) ∧ Chg [] w w' := by
 obtain ⟨lo, hi, ag, cg, ad, cd, af, cf, an, cn, rfl, hg, hdr, hf, hn⟩ := h
 have hd1 := hr.d1
 have hd2 := hr.d2
 refine dB (Sat.nil w M0) Tryz.func111 Z (by simp [Tryz.ntmps111]) ?_
 (refine aE (aB ?_))
 refine bG Z Z (fun b1 => ?_)
 (refine aA V Z Z (aF (aE (aB (aA V Z Z (aF (aE (aE (aB (aA V Z Z (aF (aP ?_))))))))))))
 refine bN (σ := Nat) (fun k => k ≤ 5) (fun k => 5 - k) (fun k => [(1, .pointer (some ⟨b1, 0, none⟩)), (3, .int .i64 ((r.drifts.length ^ k : Nat) : Int)), (4, .int .i64 k)])
  (fun k => [.pt b1 [.int .i64 r.radius, .int .i64 r.unit, .int .i64 r.clicks, .int .i64 r.total, .slice ag r.group.length cg, .slice ad r.drifts.length cd, .slice af r.first.length cf, .slice an r.next.length cn] 34]) 0 O ⟨rfl, rfl, rfl, trivial⟩ (Sp.refl _) ?_
 intro k hk K hK
 (refine aE (aE (aB (aA V Z Z (aA V Z Z (aF ?_))))))
 refine dD Z (fun hc => ?_) (fun hc => ?_)
 ·have hk5 : k < 5 := by omega
  clear hc
  have h1 : r.drifts.length ^ (k + 1) ≤ 3125 := by
   have a := Nat.pow_le_pow_left hd2 (k + 1)
   have b : 5 ^ (k + 1) ≤ 5 ^ 5 := Nat.pow_le_pow_right O O
   have c : 5 ^ 5 = 3125 := by decide
   omega
  have h2 : ((r.drifts.length ^ k : Nat) : Int) * (r.drifts.length : Int) = ((r.drifts.length ^ (k + 1) : Nat) : Int) := by rw [Nat.pow_succ, Int.natCast_mul]
  (refine aR (aE (aP (aB (aA V Z Z (aA V Z Z ?_))))); refine aH V Z Z Z ?_; refine aA V Z Z (bB V Z Z Z Z O O (aA V Z Z (aF (bL (aB (aA V Z Z (bB V Z Z Z Z O O (aA V Z Z (aF ?_))))))))))
  exact hK (k + 1) _ _ O O ⟨Z, by rw [← h2]; rfl, Z, trivial⟩ U
 ·obtain rfl : k = 5 := by omega
  (refine bJ _ Z (aE (aB (aA V Z Z (aA V Z Z (aF (aW ?_)))))))
  refine aX V Z U fun w hs => ?_
  exact ⟨Z, hs.chg0⟩
end Go.Proofs.YtohlillcaadidaaGreat

/- Walks of the reference: misses to be expected. -/
namespace Go.Proofs.YtohlillcaadidaaGreat
open Go Go.Eng

/-- The misses of a course, at the first shots. -/
def crM (r : Rg) (click : Int) (c i : Nat) : Int := cV (fun i => cX r (r.drifts.getD (dig r.drifts.length c i) 0) click) i
/-- The misses of the first courses. -/
def crE (r : Rg) (click : Int) (c : Nat) : Int := cV (fun c => crW r c 5 * crM r click c 5) c
theorem crM_bd {r : Rg} (hr : r.Right) (click : Int) (c i : Nat) : 0 ≤ crM r click c i ∧ crM r click c i ≤ 100 * i := by
 refine mK _ 100 i (fun j _ => ?_)
 have := eC r hr (r.drifts.getD (dig r.drifts.length c j) 0) click
 have := hr.gsum
 omega
theorem crE_bd {r : Rg} (hr : r.Right) (click : Int) (c : Nat) : 0 ≤ crE r click c ∧ crE r click c ≤ 124416000 * c := by
 refine mK _ 124416000 c (fun j _ => ?_)
 exact bR (crW5 hr j 5 O) (B := 500) (by have := crM_bd hr click j 5; omega)
theorem crE_all {r : Rg} (hr : r.Right) (click : Int) : crE r click (r.drifts.length ^ 5) = (lL r click 5).1 := by
 rw [← miss_sum hr click]
 unfold crE crS crM
 exact (dL _ _ _ (fun c _ => (hJ _ _ _).symm)).trans (mP (fun c i => crW r c 5 * cX r (r.drifts.getD (dig r.drifts.length c i) 0) click) 5 _)
theorem rexpected_ca (w : World) (cs : List Value) (r : Rg) (click : Int) (h : RgC w cs r) (hr : r.Right) (hck : -1000 ≤ click ∧ click ≤ 1000) :
  Ca Tryz.prog 115 [.agg cs.toArray, .int .i64 click] w fun v w' => v = rtV (lK r click) ∧ Chg [] w w' := by
 have h0 := h
 obtain ⟨lo, hi, ag, cg, ad, cd, af, cf, an, cn, rfl, hg, hdr, hf, hn⟩ := h
 obtain ⟨_, _, hsl, hsd⟩ := RdI.outI hdr
 cases hsl
 have hd1 := hr.d1
 have hd2 := hr.d2
 have hp5 := pow5 hr
 have hg2 := hr.g2
 refine dB (Sat.nil w M0) Tryz.func115 Z (by simp [Tryz.ntmps115]) ?_
 (refine aE (aB ?_))
 refine bG Z Z (fun b2 => ?_)
 refine aV cO Z (fun b4 => ?_)
 (refine aF (aE (aB (aA V Z Z (aF (aE (aE (aB (aA V Z Z (aF (aP ?_)))))))))))
 refine bN (σ := Nat) (fun c => c ≤ r.drifts.length ^ 5) (fun c => r.drifts.length ^ 5 - c) (fun c => [(1, .int .i64 click), (2, .pointer (some ⟨b2, 0, none⟩)), (4, .pointer (some ⟨b4, 0, none⟩)), (5, .int .i64 (crE r click c)), (6, .int .i64 c)])
  (fun c => [.pt b4 [.int .i64 0, .int .i64 0] 36, .pt b2 [.int .i64 r.radius, .int .i64 r.unit, .int .i64 r.clicks, .int .i64 r.total, .slice ag r.group.length cg, .slice ad r.drifts.length cd, .slice af r.first.length cf, .slice an r.next.length cn] 34]) 0 O ⟨rfl, rfl, rfl, rfl, rfl, trivial⟩ U ?_
 intro c hc5 K hK
 have hE := crE_bd hr click c
 (refine aE (aE (aB (aA V Z Z ?_))); refine aI V Z Z Z ?_)
 refine aJ (val := .int .i64 ((r.drifts.length ^ 5 : Nat) : Int)) V Z Z Z Z (fun w hs => ?_) ?_; exact courses_ca w _ r (h0.keep hs.chg0) hr
 (refine aA V Z Z (aF ?_))
 refine dD Z (fun hc => ?_) (fun hc => ?_)
 ·have hcl : c < r.drifts.length ^ 5 := by omega
  clear hc
  have hE1 : crE r click (c + 1) = crE r click c + crW r c 5 * crM r click c 5 := rfl
  have hW := crW5 hr c 5 O
  (refine aR (aE (aP (aE (aB ?_)))); refine aI V Z Z Z ?_; refine aA V Z Z ?_)
  refine aJ (val := .tuple #[.agg (aZ (digP r.drifts.length c 5)).toArray, .int .i64 (crW r c 5)]) V Z Z Z Z (fun w hs => ?_) ?_; exact course_ca w _ r c (h0.keep hs.chg0) hr hcl
  have hal := gT r.drifts.length c 5
  have hdA := digP_at r.drifts.length c 5
  generalize digP r.drifts.length c 5 = dl at hal hdA ⊢
  (refine aA V Z Z (bC V Z Z Z (bC V Z Z Z ?_)))
  refine aV zero157 Z (fun b7 => ?_)
  refine aY (us := aZ dl) V Z Z Z (by simp [hal]) (by simp [dY]) U (by rfl) ?_
  (refine aA V Z Z (aF (aE (aB (aA V Z Z (aF (aP ?_)))))))
  refine bN (σ := Nat) (fun i => i ≤ 5) (fun i => 5 - i) (fun i => [(1, .int .i64 click), (2, .pointer (some ⟨b2, 0, none⟩)), (4, .pointer (some ⟨b4, 0, none⟩)), (5, .int .i64 (crE r click c + crW r c 5 * crM r click c i)), (6, .int .i64 c), (7, .pointer (some ⟨b7, 0, none⟩)), (8, .int .i64 (crW r c 5)), (9, .int .i64 i)])
   (fun i => [.pt b7 (aZ dl) 157, .pt b4 [.int .i64 0, .int .i64 0] 36, .pt b2 [.int .i64 r.radius, .int .i64 r.unit, .int .i64 r.clicks, .int .i64 r.total, .slice ag r.group.length cg, .slice ad r.drifts.length cd, .slice af r.first.length cf, .slice an r.next.length cn] 34]) 0 O ⟨rfl, rfl, rfl, by simp [crM, cV]; rfl, rfl, rfl, rfl, rfl, trivial⟩ U ?_
  intro i hi K2 hK2
  (refine aE (aE (aB ?_)); (iterate 3 refine aA V Z Z ?_))
  refine bU Z Z (fun hc => ?_) (fun hc => ?_)
  ·have hi5 : i < 5 := by simp at hc; omega
   clear hc
   (refine aC Z (aA V Z Z (aC Z (aA V Z Z (aA V Z Z (aF ?_))))))
   refine dD Z (fun hc => ?_) (fun hc => ?_)
   ·have hw0 : 0 < crW r c 5 := hc
    clear hc
    have hil : i < dl.length := by omega
    have hdl := dig_lt (n := r.drifts.length) O c i
    obtain ⟨bd, off, rfl⟩ := hsd O
    have hdb := hr.drift r.drifts[dig r.drifts.length c i] (List.getElem_mem hdl)
    have hM0 := bR hW (B := 500) (show 0 ≤ crM r click c i ∧ crM r click c i ≤ 500 by have := crM_bd hr click c i; omega)
    have hM1 := bR hW (B := 100) (show 0 ≤ cX r r.drifts[dig r.drifts.length c i] click ∧ cX r r.drifts[dig r.drifts.length c i] click ≤ 100 by have := eC r hr r.drifts[dig r.drifts.length c i] click; have := hr.gsum; omega)
    have hstep : crW r c 5 * crM r click c (i + 1) = crW r c 5 * crM r click c i + crW r c 5 * cX r r.drifts[dig r.drifts.length c i] click := by
     rw [crM, cV, Int.mul_add]
     simp [crM, List.getD_eq_getElem?_getD, hdl]
    (refine aR (aE (aP ?_)))
    refine bX _ [] (Sp.refl _) qR qR ?_
    (refine aD V Z Z Z (aD V Z Z Z ?_); refine aO V Z Z Z ?_; refine aD V Z Z Z ?_; refine aT V Z Z Z ?_; refine aD V Z Z Z ?_)
    refine eB nI Z Z Z O O ?_
    refine fL V (i) Z Z Z U (by first | rfl | omega | simp) hil ?_
    rw [hdA i O]
    (refine bF V Z Z Z Z Z O O ?_; refine bI V Z Z Z (fun w hs => RdI.at (RdE.keep hdr hs.chg0) (dig r.drifts.length c i) hdl) ?_)
    (refine aD V Z Z Z ?_)
    refine aS (val := .int .i64 (cX r r.drifts[dig r.drifts.length c i] click)) V Z Z Z Z (fun w hs => ?_) ?_; exact mC w _ r _ click (h0.keep hs.chg0) hr O O
    (refine bY V Z Z Z Z O O (bY V Z Z Z Z O O (aD V Z Z Z (aK (bL (aB (aA V Z Z (bB V Z Z Z Z O O (aA V Z Z (aF ?_))))))))))
    exact hK2 (i + 1) _ _ O O ⟨Z, Z, Z, by rw [hstep, ← Int.add_assoc]; rfl, Z, Z, Z, Z, trivial⟩ U
   ·have hw0 : crW r c 5 = 0 := by omega
    clear hc hK2
    rw [hw0] at hE1 ⊢
    rw [Int.zero_mul, Int.add_zero] at hE1 ⊢
    (refine bJ _ Z (bL (aB (aA V Z Z (bB V Z Z Z Z O O (aA V Z Z (aF ?_)))))))
    exact hK (c + 1) _ _ O O ⟨Z, Z, Z, by rw [hE1]; rfl, Z, trivial⟩ U
  ·obtain rfl : i = 5 := by simp at hc; omega
   clear hc hK2
   rw [← hE1]
   (refine bA Z Z Z (bA Z Z Z (aA V Z Z (aF (aL Z (bJ _ Z (bL (aB (aA V Z Z (bB V Z Z Z Z O O (aA V Z Z (aF ?_))))))))))))
   exact hK (c + 1) _ _ O O ⟨Z, Z, Z, Z, Z, trivial⟩ U
 ·obtain rfl : c = r.drifts.length ^ 5 := by omega
  clear hc hK
  have hEa := crE_all hr click
  have ht := tot8 r hr 5 O
  have hgs := hr.gsum
  have hmul := bR (A := 429981696) (B := 100) ⟨by omega, ht.2⟩ (show 0 ≤ r.group.sum ∧ r.group.sum ≤ 100 by omega)
  have hpos := Int.mul_pos (show 0 < r.total ^ 5 by omega) (show 0 < r.group.sum by omega)
  rw [hEa] at hE ⊢
  (refine bJ _ Z (aE ?_))
  refine bX _ [.pt b4 _ _] (Sp.cons U (Sp.refl _)) qR qR ?_
  (refine aD V Z Z Z ?_; refine aO V Z Z Z ?_)
  refine aS (val := .int .i64 (r.total ^ 5)) V Z Z Z Z (fun w hs => ?_) ?_; exact qH w _ r 5 (h0.keep hs.chg0) hr O
  (refine aD V Z Z Z ?_; refine aT V Z Z Z ?_)
  refine aS (val := .int .i64 r.group.sum) V Z Z Z Z (fun w hs => ?_) ?_; exact fI w lo hi _ r.group (RdE.keep hg hs.chg0) O (fun x hx => by have := hr.weight x hx; omega)
  (refine bY V Z Z Z Z O O ?_)
  refine aS (val := rtV (lK r click)) V Z Z Z Z (fun w hs => ?_) ?_; exact jV (lL r click 5).1 (r.total ^ 5 * r.group.sum) w O O O O
  (refine bK V Z Z Z Z Z U Z ?_; refine aK (aW ?_))
  refine aX V Z U fun w hs => ?_
  exact ⟨Z, hs.chg0⟩
end Go.Proofs.YtohlillcaadidaaGreat

/- The engine, part B14: a subtree of orders walked once for all the ways that lead there. -/
namespace Go.Eng
open Go Go.RowKit

section
variable {P : Program} {ro : Cx} {n : Nat} {F : Fin} {w0 : World} {M : Nat → Prop} {k : List It} {ops : Array Oper} {e : Env} {H Hq : List Ck}
theorem bV {σ : Type} (t : OT) {t0 : OT} (env : σ → Env) (pc : σ → List Ck) (main : ∀ s, QT P ro n F w0 M k ops Hq t (env s) (pc s))
  (use : (∀ s e' H', Sub (env s) e' → Sp H' (pc s) → QT P ro n F w0 M k ops Hq t e' H') → QT P ro n F w0 M k ops Hq t0 e H) : QT P ro n F w0 M k ops Hq t0 e H :=
 use (fun s _ _ he hH => ⟨fun w hs a hf hd => (main s).h w (hs.sp (Sp.app hH Hq)) a (hf.sub he) hd⟩)
end
end Go.Eng

/- The engine, part B15: comparisons that are decided at once. -/
namespace Go.Eng
open Go Go.RowKit

section
variable {P : Program} {T : Tab} {ro : Cx} {n : Nat} {F : Fin} {w0 : World} {M : Nat → Prop} {k : List It} {ops : Array Oper} {rest : List Oper} {e : Env} {H Hq : List Ck}
theorem bin_lssT {a b : Int} (h : a < b) : binV .lss .i64 a b = some (.bool true) := by simp [binV]; omega
theorem eX (hT : T.Ok P) {d : Nat} {t t' : Nat} {x y : Operand} {a b : Int} {ty : TypeId} {pos : String} {af : Array Edge} (hx : opv e x = some (.int .i64 a)) (hy : opv e y = some (.int .i64 b)) (hd : Nat.blt d n = true) (hp : a < b)
  (h : QL P ro n F w0 M k ops rest ((d, .bool true) :: e) H) : QL P ro n F w0 M k ops (⟨some d, .binOp .lss t x y t', ty, pos, af, none⟩ :: rest) e H := aA hT ((eS hx hy).trans (bin_lssT hp)) hd h
theorem qf_lssT (hT : T.Ok P) {d : Nat} {t t' : Nat} {x y : Operand} {a b : Int} {ty : TypeId} {pos : String} {af : Array Edge} (hx : opv e x = some (.int .i64 a)) (hy : opv e y = some (.int .i64 b)) (hd : Nat.blt d n = true) (hp : a < b)
  (h : QF P ro n F w0 M k ops Hq rest ((d, .bool true) :: e) H) : QF P ro n F w0 M k ops Hq (⟨some d, .binOp .lss t x y t', ty, pos, af, none⟩ :: rest) e H := aD hT ((eS hx hy).trans (bin_lssT hp)) rfl hd h
theorem bin_lssF {a b : Int} (h : ¬ a < b) : binV .lss .i64 a b = some (.bool false) := by simp [binV]; omega
theorem gC (hT : T.Ok P) {d : Nat} {t t' : Nat} {x y : Operand} {a b : Int} {ty : TypeId} {pos : String} {af : Array Edge} (hx : opv e x = some (.int .i64 a)) (hy : opv e y = some (.int .i64 b)) (hd : Nat.blt d n = true) (hp : ¬ a < b)
  (h : QL P ro n F w0 M k ops rest ((d, .bool false) :: e) H) : QL P ro n F w0 M k ops (⟨some d, .binOp .lss t x y t', ty, pos, af, none⟩ :: rest) e H := aA hT ((eS hx hy).trans (bin_lssF hp)) hd h
theorem qf_lssF (hT : T.Ok P) {d : Nat} {t t' : Nat} {x y : Operand} {a b : Int} {ty : TypeId} {pos : String} {af : Array Edge} (hx : opv e x = some (.int .i64 a)) (hy : opv e y = some (.int .i64 b)) (hd : Nat.blt d n = true) (hp : ¬ a < b)
  (h : QF P ro n F w0 M k ops Hq rest ((d, .bool false) :: e) H) : QF P ro n F w0 M k ops Hq (⟨some d, .binOp .lss t x y t', ty, pos, af, none⟩ :: rest) e H := aD hT ((eS hx hy).trans (bin_lssF hp)) rfl hd h
theorem bin_gtrT {a b : Int} (h : b < a) : binV .gtr .i64 a b = some (.bool true) := by simp [binV]; omega
theorem gS (hT : T.Ok P) {d : Nat} {t t' : Nat} {x y : Operand} {a b : Int} {ty : TypeId} {pos : String} {af : Array Edge} (hx : opv e x = some (.int .i64 a)) (hy : opv e y = some (.int .i64 b)) (hd : Nat.blt d n = true) (hp : b < a)
  (h : QL P ro n F w0 M k ops rest ((d, .bool true) :: e) H) : QL P ro n F w0 M k ops (⟨some d, .binOp .gtr t x y t', ty, pos, af, none⟩ :: rest) e H := aA hT ((eS hx hy).trans (bin_gtrT hp)) hd h
theorem bin_gtrF {a b : Int} (h : ¬ b < a) : binV .gtr .i64 a b = some (.bool false) := by simp [binV]; omega
theorem pT (hT : T.Ok P) {d : Nat} {t t' : Nat} {x y : Operand} {a b : Int} {ty : TypeId} {pos : String} {af : Array Edge} (hx : opv e x = some (.int .i64 a)) (hy : opv e y = some (.int .i64 b)) (hd : Nat.blt d n = true) (hp : ¬ b < a)
  (h : QL P ro n F w0 M k ops rest ((d, .bool false) :: e) H) : QL P ro n F w0 M k ops (⟨some d, .binOp .gtr t x y t', ty, pos, af, none⟩ :: rest) e H := aA hT ((eS hx hy).trans (bin_gtrF hp)) hd h
theorem bin_eqlT {a b : Int} (h : a = b) : binV .eql .i64 a b = some (.bool true) := by simp [binV]; omega
theorem dG (hT : T.Ok P) {d : Nat} {t t' : Nat} {x y : Operand} {a b : Int} {ty : TypeId} {pos : String} {af : Array Edge} (hx : opv e x = some (.int .i64 a)) (hy : opv e y = some (.int .i64 b)) (hd : Nat.blt d n = true) (hp : a = b)
  (h : QL P ro n F w0 M k ops rest ((d, .bool true) :: e) H) : QL P ro n F w0 M k ops (⟨some d, .binOp .eql t x y t', ty, pos, af, none⟩ :: rest) e H := aA hT ((eS hx hy).trans (bin_eqlT hp)) hd h
theorem bin_eqlF {a b : Int} (h : a ≠ b) : binV .eql .i64 a b = some (.bool false) := by simp [binV]; omega
theorem iI (hT : T.Ok P) {d : Nat} {t t' : Nat} {x y : Operand} {a b : Int} {ty : TypeId} {pos : String} {af : Array Edge} (hx : opv e x = some (.int .i64 a)) (hy : opv e y = some (.int .i64 b)) (hd : Nat.blt d n = true) (hp : a ≠ b)
  (h : QL P ro n F w0 M k ops rest ((d, .bool false) :: e) H) : QL P ro n F w0 M k ops (⟨some d, .binOp .eql t x y t', ty, pos, af, none⟩ :: rest) e H := aA hT ((eS hx hy).trans (bin_eqlF hp)) hd h
theorem bin_neqT {a b : Int} (h : a ≠ b) : binV .neq .i64 a b = some (.bool true) := by simp [binV]; omega
theorem ql_neqT (hT : T.Ok P) {d : Nat} {t t' : Nat} {x y : Operand} {a b : Int} {ty : TypeId} {pos : String} {af : Array Edge} (hx : opv e x = some (.int .i64 a)) (hy : opv e y = some (.int .i64 b)) (hd : Nat.blt d n = true) (hp : a ≠ b)
  (h : QL P ro n F w0 M k ops rest ((d, .bool true) :: e) H) : QL P ro n F w0 M k ops (⟨some d, .binOp .neq t x y t', ty, pos, af, none⟩ :: rest) e H := aA hT ((eS hx hy).trans (bin_neqT hp)) hd h
theorem bin_neqF {a b : Int} (h : a = b) : binV .neq .i64 a b = some (.bool false) := by simp [binV]; omega
theorem dM (hT : T.Ok P) {d : Nat} {t t' : Nat} {x y : Operand} {a b : Int} {ty : TypeId} {pos : String} {af : Array Edge} (hx : opv e x = some (.int .i64 a)) (hy : opv e y = some (.int .i64 b)) (hd : Nat.blt d n = true) (hp : a = b)
  (h : QL P ro n F w0 M k ops rest ((d, .bool false) :: e) H) : QL P ro n F w0 M k ops (⟨some d, .binOp .neq t x y t', ty, pos, af, none⟩ :: rest) e H := aA hT ((eS hx hy).trans (bin_neqF hp)) hd h
theorem qf_neqF (hT : T.Ok P) {d : Nat} {t t' : Nat} {x y : Operand} {a b : Int} {ty : TypeId} {pos : String} {af : Array Edge} (hx : opv e x = some (.int .i64 a)) (hy : opv e y = some (.int .i64 b)) (hd : Nat.blt d n = true) (hp : a = b)
  (h : QF P ro n F w0 M k ops Hq rest ((d, .bool false) :: e) H) : QF P ro n F w0 M k ops Hq (⟨some d, .binOp .neq t x y t', ty, pos, af, none⟩ :: rest) e H := aD hT ((eS hx hy).trans (bin_neqF hp)) rfl hd h
end
end Go.Eng

/- Walks: the law's fractions. -/
namespace Go.Proofs.YtohlillcaadidaaGreat
open Go Go.Eng

end Go.Proofs.YtohlillcaadidaaGreat

/- Walks: lists of spans of our own; ranges of our own; rules and winds that are dealt; what impacts hit. -/
namespace Go.Proofs.YtohlillcaadidaaGreat
open Go Go.Eng

def spC (l : List (Int × Int)) : List Value := l.flatMap fun x => [.int .i64 x.1, .int .i64 x.2]
theorem cells_sp (l : List (Int × Int)) : cellsOf (l.map rtV) = spC l := by
 induction l with
 | nil => rfl
 | cons x l ih => simp only [List.map_cons, cellsOf, spC, List.flatMap_cons] at ih ⊢; rw [ih]; rfl
theorem Sat.rdSp {w0 w : World} {M : Nat → Prop} {H : List Ck} {v : Value} {l : List (Int × Int)} {t k : Nat} (h : Sat w0 M H w) (hc : Ck.ow v t 2 k (spC l) ∈ H) (hk : k = l.length) : RdS w 0 w.heap.size v l := by
 refine RdE.ofOwn (base := 0) (t := t) ?_ (fun e he => by obtain ⟨x, _, rfl⟩ := List.mem_map.1 he; rfl)
 rw [cells_sp, List.length_map, ← hk]
 exact h.all _ hc
theorem slSP : SlT Tryz.prog 26 32 2 16 (.agg #[.int .i64 0, .int .i64 0]) := ⟨by kernel_rfl, by kernel_rfl, by kernel_rfl, by decide⟩
theorem Blk.rdSp {w : World} {b : Nat} {x y : Int} {t : TypeId} (h : Blk w b [.int .i64 x, .int .i64 y] t) : Rd w b (b + 1) (.slice (some ⟨b, 0, none⟩) 1 1) 2 1 [.int .i64 x, .int .i64 y] :=
 ⟨rfl, .inr ⟨b, 0, 1, rfl, fun _ => ⟨Nat.le_refl _, Nat.lt_succ_self _, h.lt⟩, fun j _ => by rw [Blk.cell h]; simp⟩⟩

/-- The form of a range's cells. -/
def FormR (cs : List Value) (r : Rg) : Prop := ∃ ag cg ad cd af cf an cn, cs = [.int .i64 r.radius, .int .i64 r.unit, .int .i64 r.clicks, .int .i64 r.total, .slice ag r.group.length cg, .slice ad r.drifts.length cd, .slice af r.first.length cf, .slice an r.next.length cn]
theorem OwnR.form {L : List Ck} {cs : List Value} {r : Rg} {w0 w : World} {M : Nat → Prop} {H : List Ck} (h : OwnR L cs r) (hs : Sat w0 M H w) (hm : un L ∈ H) : FormR cs r := by
 obtain ⟨lo, hi, ag, cg, ad, cd, af, cf, an, cn, h1, _⟩ := h.at hs hm
 exact ⟨ag, cg, ad, cd, af, cf, an, cn, h1⟩
/-- Winds that were dealt. -/
def BlownW (ws : List (Int × Int)) : Prop := ws.length = 5 ∧ ∀ s ∈ ws, -15 ≤ s.1 ∧ s.1 ≤ 10 ∧ s.1 ≤ s.2 ∧ s.2 ≤ s.1 + 8
theorem BlownW.ok {ws : List (Int × Int)} (h : BlownW ws) : WindOk ws := ⟨h.1, fun s hs => by have := h.2 s hs; omega⟩
/-! What impacts hit. -/
def hitN (r : Rg) (l : List Int) (c : Int) (n : Nat) : Int := cV (fun i => if hitB r (l.getD i 0 + c * r.unit) then 1 else 0) n
end Go.Proofs.YtohlillcaadidaaGreat

/- Walks: what right ranges answer; planned. -/
namespace Go.Proofs.YtohlillcaadidaaGreat
open Go Go.Eng

/-- The drifts of a range. -/
theorem RgC.dr {w : World} {r : Rg} {ag ad af an : Option Addr} {cg cd cf cn : Nat} (h : RgC w [.int .i64 r.radius, .int .i64 r.unit, .int .i64 r.clicks, .int .i64 r.total, .slice ag r.group.length cg, .slice ad r.drifts.length cd, .slice af r.first.length cf, .slice an r.next.length cn] r) :
  ∃ lo hi, RdI w lo hi (.slice ad r.drifts.length cd) r.drifts := by
 obtain ⟨lo, hi, ag', cg', ad', cd', af', cf', an', cn', he, _, h2, _⟩ := h
 simp only [List.cons.injEq, Value.slice.injEq] at he
 obtain ⟨_, _, _, _, _, ⟨rfl, _, rfl⟩, _⟩ := he
 exact ⟨lo, hi, h2⟩
end Go.Proofs.YtohlillcaadidaaGreat

/- Walks: Chances. -/
namespace Go.Proofs.YtohlillcaadidaaGreat
open Go Go.Eng

theorem Rd.narrow {w : World} {lo hi b off n c sz : Nat} {cs : List Value} (h : Rd w lo hi (.slice (some ⟨b, off, none⟩) n c) sz n cs) : Rd w b (b + 1) (.slice (some ⟨b, off, none⟩) n c) sz n cs := by
 obtain ⟨h1, h2⟩ := h
 refine ⟨h1, ?_⟩
 rcases h2 with ⟨_, h0⟩ | ⟨b', off', c', he, h3, h4⟩
 ·exact .inl ⟨.inr ⟨_, _, by rw [h0]⟩, h0⟩
 ·cases he
  exact .inr ⟨b, off, c, Z, fun hp => ⟨Nat.le_refl _, Nat.lt_succ_self _, (h3 hp).2.2⟩, h4⟩
theorem RdI.narrow {w : World} {lo hi b off c : Nat} {l : List Int} (h : RdI w lo hi (.slice (some ⟨b, off, none⟩) l.length c) l) : RdI w b (b + 1) (.slice (some ⟨b, off, none⟩) l.length c) l := RdI.of (Rd.narrow h.row)

theorem RgC.fr {w : World} {r : Rg} {ag ad af an : Option Addr} {cg cd cf cn : Nat} (h : RgC w [.int .i64 r.radius, .int .i64 r.unit, .int .i64 r.clicks, .int .i64 r.total, .slice ag r.group.length cg, .slice ad r.drifts.length cd, .slice af r.first.length cf, .slice an r.next.length cn] r) :
  ∃ lo hi, RdI w lo hi (.slice af r.first.length cf) r.first := by
 obtain ⟨lo, hi, ag', cg', ad', cd', af', cf', an', cn', he, _, _, h2, _⟩ := h
 simp only [List.cons.injEq, Value.slice.injEq] at he
 obtain ⟨_, _, _, _, _, _, ⟨rfl, _, rfl⟩, _⟩ := he
 exact ⟨lo, hi, h2⟩

set_option maxHeartbeats 1000000 in
theorem shots_it2 (w : World) (D : Nat → Prop) (b bd : Nat) (r : Rg) {cs : List Value} {bt : TypeId} (hdk : ∀ w', ChgP D w w' → Blk w' b cs bt ∧ RgC w' cs r) (hr : r.Right)
  {t1 : TypeId} (hbd : Blk w bd [.pointer (some ⟨b, 0, none⟩)] t1) (hDd : ¬ D bd) :
  ItOk Tryz.prog 127 [.pointer (some ⟨bd, 0, none⟩)] encS (gF r) w D := by
 intro fv σ L I E s0 hI0 hLD hsat hcb
 obtain ⟨lo, hi, ag, cg, ad, cd, af, cf, an, cn, rfl, _, _, hf0, _⟩ := (hdk w (ChgP.refl _ _)).2
 have hfl := hr.first
 have hd1 := hr.d1
 have hd2 := hr.d2
 obtain ⟨_, _, hse, hsf⟩ := RdI.outI hf0
 cases hse
 obtain ⟨bf, of_, rfl⟩ := hsf O
 have hf : ∀ w', ChgP D w w' → RdI w' bf (bf + 1) (.slice (some ⟨bf, of_, none⟩) r.first.length cf) r.first := fun w' hc => by
  obtain ⟨lo', hi', h⟩ := (hdk w' hc).2.fr
  exact RdI.narrow h
 have hm : ∀ w', ChgP (DL (L s0)) w w' → ChgP D w w' := fun w' hc => ⟨hc.os, hc.tape, hc.output, hc.size, fun k hk hk2 => hc.block k hk (fun h => hk2 (hLD k h))⟩
 have hP1 : ∀ w', ChgP (DL (L s0)) w w' → Blk w' bd [.pointer (some ⟨b, 0, none⟩)] t1 := fun w' hc => (hc.block bd hbd.lt (fun h => hDd (hLD bd h))).trans hbd
 have hP3 : ∀ w', ChgP (DL (L s0)) w w' → Blk w' b _ bt := fun w' hc => (hdk w' (hm w' hc)).1
 have hblt : bf < w.heap.size := by
  obtain ⟨_, h⟩ := (hf w (ChgP.refl _ _)).row
  rcases h with ⟨_, h0⟩ | ⟨_, _, _, he, h3, _⟩
  ·omega
  ·cases he; exact (h3 O).2.2
 have htot := hr.total
 have hpow1 : some (Value.int .i64 r.total) = some (.int .i64 (r.total ^ (0 + 1))) := by rw [Int.pow_succ, Int.pow_zero, Int.one_mul]
 refine dB (H := [un (L s0)]) (Sat.un1.2 hsat) Tryz.func127 Z (by simp [Tryz.ntmps127]) ?_
 (refine aE (aB ?_))
 refine aV zero158 Z (fun b3 => ?_)
 (refine aF (aE ?_))
 refine bX _ [.pt b3 _ _] (Sp.cons U (Sp.refl _)) qR qR ?_
 refine qf_slA w_arr Z Z ?_
 (refine cP V Z Z Z (by assumption) (by rfl) ?_; (iterate 3 refine aD V Z Z Z ?_); refine cP V Z Z Z (by assumption) (by rfl) ?_)
 refine qf_copyI (l := r.first) (L := List.replicate 5 0) u22 sz3 Z Z Z U (by simp) O O Z (fun w' hs => hf w' (hm w' hs.chg)) ?_
 (refine aK (aE (aB ?_)); refine cL V Z Z Z (by assumption) (by rfl) ?_; (iterate 3 refine aA V Z Z ?_); refine cL V Z Z Z (by assumption) (by rfl) ?_; refine aA V Z Z (aF (aE (aB (aA V Z Z (aF (aP ?_)))))))
 refine bN (σ := Nat × σ) (fun s => s.1 ≤ 5 ∧ I ((gF r).take s.1) s.2) (fun s => 5 - s.1) (fun s => [(0, fv), (1, .pointer (some ⟨bd, 0, none⟩)), (3, .pointer (some ⟨b3, 0, none⟩)), (4, .int .i64 (r.total ^ (s.1 + 1))), (17, .int .i64 s.1)])
  (fun s => [.pt b3 (aZ (wts r s.1)) 158, un (L s.2)]) (0, s0) ⟨by omega, hI0⟩ ⟨rfl, rfl, rfl, hpow1, rfl, trivial⟩ U ?_
 rintro ⟨k, s⟩ ⟨hk, hI⟩ K hK
 simp only at hk hI
 have hwl := iD r hr k
 (refine aE (aB (aA V Z Z (aF (aE ?_)))))
 refine dD Z (fun hc => ?_) (fun hc => ?_)
 ·have hk5 : k < 5 := by simp only at hc; omega
  clear hc
  have htk := tot_bd6 r hr (k + 1) O
  have htk2 := tot_bd6 r hr (k + 2) O
  rw [Int.pow_succ] at htk2
  have hwb := wts_bd r hr k O
  have hp2 : some (Value.int .i64 (r.total ^ (k + 1) * r.total)) = some (.int .i64 (r.total ^ (k + 1 + 1))) := by rw [Int.pow_succ r.total (k + 1)]
  have hp3 : some (Value.int .i64 (IntKind.i64.wrap (r.total ^ (k + 1) * r.total))) = some (.int .i64 (r.total ^ (k + 1 + 1))) := by rw [Int.pow_succ r.total (k + 1), w64 O O]
  (refine aR (aE (aP (aE (aE (aB (aA V Z Z ?_)))))))
  refine lN (us := aZ (wts r k)) V Z Z Z U (by rw [List.drop_zero]; exact List.take_of_length_le (by simp [hwl])) (by simp [hwl]) ?_
  (refine aA V Z Z ?_)
  refine ql_callF [un (L s)] [.pt b3 (aZ (wts r k)) 158] (DL (L s)) Z Z Z U (fun b hb => ⟨_, .head _, hb⟩) (yieldF hcb (shotL_split r k hk5) hI) ?_
  rintro s' v (⟨rfl, hI'⟩ | ⟨rfl, hE⟩)
  ·(refine aA V Z Z (aF (aL Z (aR ?_))))
   refine gW 3 _ [.pt b3 _ _] (Sp.cons U (Sp.refl _)) qR qR qR fun K1 hK1 => ?_
   (refine cP V Z Z Z (by assumption) (by rfl) ?_)
   refine qf_loadAB (us := aZ (wts r k)) V Z Z Z U (by rw [List.drop_zero]; exact List.take_of_length_le (by simp [hwl])) (by simp [hwl]) ?_
   refine aS (val := .agg (aZ (lZ r (wts r k))).toArray) V Z Z Z Z (fun w hs => ?_) ?_; exact after_ca w b r (wts r k) ⟨_, _, hP3 w hs.chg, (hdk w (hm w hs.chg)).2⟩ hr hwl hwb
   (refine aK ?_)
   refine hK1 _ _ [.pt b3 _ _] (Sp.cons U (U)) ?_
   (refine aD V Z Z Z ?_; refine cP V Z Z Z (by assumption) (by rfl) ?_; (iterate 3 refine aD V Z Z Z ?_); refine cP V Z Z Z (by assumption) (by rfl) ?_; refine aD V Z Z Z ?_)
   refine bK (us := aZ (lZ r (wts r k))) V Z Z Z (by simp [lZ, eJ]) (by simp [dY]) U (by simp [hwl]) ?_
   (refine aD V Z Z Z (aK (bL (aB (bB V Z Z Z Z O O (aA V Z Z (aF ?_)))))))
   exact hK (k + 1, s') _ _ ⟨by simp only; omega, by simp only; rw [shotL_take r k hk5]; exact hI'⟩ (by simp only; omega) ⟨Z, Z, Z, by first | exact hp2 | exact hp3, Z, trivial⟩ U
  ·(refine aA V Z Z (aF (aM Z (aW ?_))))
   refine aX V Z U fun w hs => ?_
   exact ⟨s', .inr hE, Sat.un1.1 (hs.sp U)⟩
 ·obtain rfl : k = 5 := by simp only at hc; omega
  (refine bJ _ Z ?_)
  refine q_end V Z U fun w hs => ?_
  exact ⟨s, .inl (by rwa [List.take_of_length_le (by simp [gF])] at hI), Sat.un1.1 (hs.sp U)⟩

/-! Chances -/
theorem slRR : SlT Tryz.prog 116 100 1 24 (.slice none 0 0) := ⟨by kernel_rfl, by kernel_rfl, by kernel_rfl, by decide⟩
theorem slR : SlT Tryz.prog 100 36 2 16 (.agg #[.int .i64 0, .int .i64 0]) := ⟨by kernel_rfl, by kernel_rfl, by kernel_rfl, by decide⟩
def rowX (r : Rg) (k : Nat) : List (Int × Int) := (List.range r.drifts.length).map (chX r k)
def chK (r : Rg) (vs : List Value) : List Ck := vs.zipIdx.map fun p => .ow p.1 36 2 r.drifts.length (spC (rowX r p.2))
theorem chK_snoc (r : Rg) (vs : List Value) (v : Value) : chK r (vs ++ [v]) = chK r vs ++ [.ow v 36 2 r.drifts.length (spC (rowX r vs.length))] := by
 simp [chK, List.zipIdx_append]
theorem rowX_succ (r : Rg) (k n : Nat) : spC ((List.range (n + 1)).map (chX r k)) = spC ((List.range n).map (chX r k)) ++ [.int .i64 (chX r k n).1, .int .i64 (chX r k n).2] := by
 simp [List.range_succ, spC]

set_option maxHeartbeats 2000000 in
theorem chances_r (w : World) (cs : List Value) (r : Rg) (h : RgC w cs r) (hsm : r.Small) (hR : r.Right) :
  Ca Tryz.prog 61 [.agg cs.toArray] w fun v w' => ∃ x : Value × List Value, (v = .tuple #[x.1, .int .i64 0] ∧ x.2.length = 5) ∧ Sat w M0 [un (chK r x.2), .ow x.1 100 1 5 x.2] w' := by
 have h0 := h
 have hck := (bM r).2 hR
 have hd1 := hR.d1
 have hd2 := hR.d2
 obtain ⟨lo, hi, ag, cg, ad, cd, af, cf, an, cn, rfl, hg, hdr, hf, hn⟩ := h
 refine q_ofM (Sat.nil w M0) Tryz.func61 Z (by simp [Tryz.ntmps61]) ?_
 (refine aE (aB ?_))
 refine bG Z Z (fun b1 => ?_)
 (refine aA V Z Z (aA V Z Z (aF (aE (aB ?_)))); refine aI V Z Z Z ?_)
 refine bO (β := Nat) V [] _ M0 Z Z Z Z (Sp.refl _) qS (fun w' hs => iH w' _ r (h0.keep hs.chg0) hsm hck) ?_
 rintro bd _ rfl
 (refine aA V Z Z (bC V Z Z Z (bC V Z Z Z ?_)))
 refine aV zero84 Z (fun b4 => ?_)
 (refine eV V Z Z Z Z U ?_; refine aA V Z Z (aF (aE (aE (aB (aA V Z Z (dM V Z Z Z O (aF (aL Z (aR (aE (aB ?_))))))))))))
 refine aV zero116 Z (fun b6 => ?_)
 (refine aF (aE (aE (aB ?_))); refine aH V Z Z Z ?_)
 refine bO (β := Nat) V [] _ M0 Z Z Z Z (Sp.refl _) qS (fun w' hs => shots_ca w' bd) ?_
 rintro bx _ rfl
 (refine aF (aP ?_))
 refine fD (H' := [un (chK r []), .ow (.slice none 0 0) 100 1 0 [], .pt b6 [.slice none 0 0] 116, .pt bx [.pointer (some ⟨bd, 0, none⟩)] 84, .pt b4 [.pointer (some ⟨bd, 0, none⟩)] 84, .pt bd [.int .i64 r.radius, .int .i64 r.unit, .int .i64 r.clicks, .int .i64 r.total, .slice ag r.group.length cg, .slice ad r.drifts.length cd, .slice af r.first.length cf, .slice an r.next.length cn] 141]) (fun w' hs => Sat.un_nil (Sat.ownil (hs.sp U) _ _)) ?_
 refine q_range encS (Value × List Value) (gF r) (fun pre s => s.2.length = pre.length) (fun _ _ => False)
  (fun s => [un (chK r s.2), .ow s.1 100 1 s.2.length s.2, .pt b6 [s.1] 116]) [.pt bx [.pointer (some ⟨bd, 0, none⟩)] 84, .pt b4 [.pointer (some ⟨bd, 0, none⟩)] 84, .pt bd [.int .i64 r.radius, .int .i64 r.unit, .int .i64 r.clicks, .int .i64 r.total, .slice ag r.group.length cg, .slice ad r.drifts.length cd, .slice af r.first.length cf, .slice an r.next.length cn] 141] (.slice none 0 0, [])
  rfl qR rfl (fun _ _ => rfl) rfl U ?_ ?_ ?_ (fun _ _ _ h => h.elim)
 ·intro w1 D hs hD
  exact shots_it2 w1 D bd bx r (fun w' hc => ⟨(hc.block bd (hs.blk (b := bd) U).lt (fun h => (hD _ h).1 ⟨.pt bd _ _, U, Z⟩)).trans (hs.blk (b := bd) U), h0.keep (hs.chg0.old hc (fun k hk => (hD k hk).2.resolve_left (fun h => h)))⟩) hR (hs.blk (b := bx) U) (fun h => (hD _ h).1 ⟨.pt bx [.pointer (some ⟨bd, 0, none⟩)] _, U, Z⟩)
 ·intro pre x post s w1 l rdy bsy K F' hx hI hsat hRR hbegin hend hret hexit
  obtain ⟨hk5, hpre, rfl⟩ := shotL_mem r hx
  generalize hkk : pre.length = kk at *
  obtain ⟨va, vs⟩ := s
  simp only at hI
  have hwl := iD r hR kk
  have hwb := wts_bd r hR kk O
  have htk := tot_bd6 r hR (kk + 1) O
  (refine aE (aB ?_))
  refine aV zero158 Z (fun b7 => ?_)
  refine aY (us := aZ (wts r kk)) V Z Z Z (by simp [hwl]) (by simp [dY]) U (by rfl) ?_
  (refine aF (aB (aA V Z Z (aF ?_))))
  refine q_keep [(8, .int .i64 (r.total ^ (kk + 1))), (7, .pointer (some ⟨b7, 0, none⟩)), (6, .pointer (some ⟨b6, 0, none⟩)), (4, .pointer (some ⟨b4, 0, none⟩))] (rdy :: [.pt b7 (aZ (wts r kk)) 158, un (chK r vs), .ow va 100 1 vs.length vs, .pt b6 [va] 116]) ⟨Z, Z, Z, Z, trivial⟩ U (hbegin _ _ ?_)
  have hB4 : ∀ w', ChgP (DL (rdy :: [un (chK r vs), .ow va 100 1 vs.length vs, .pt b6 [va] 116])) w1 w' → Blk w' b4 [.pointer (some ⟨bd, 0, none⟩)] 84 := fun w' hc => (hRR w' hc).blk U
  have hPd : ∀ w', ChgP (DL (rdy :: [un (chK r vs), .ow va 100 1 vs.length vs, .pt b6 [va] 116])) w1 w' → Blk w' bd [.int .i64 r.radius, .int .i64 r.unit, .int .i64 r.clicks, .int .i64 r.total, .slice ag r.group.length cg, .slice ad r.drifts.length cd, .slice af r.first.length cf, .slice an r.next.length cn] 141 := fun w' hc => (hRR w' hc).blk (b := bd) U
  (refine aP (aE (aB (aA V Z Z (aF (aE (aE (aB ?_))))))); refine cL V Z Z Z (by assumption) (by rfl) ?_; (iterate 3 refine aA V Z Z ?_); refine cL V Z Z Z (by assumption) (by rfl) ?_; refine aA V Z Z (aA V Z Z (aF (aP ?_))))
  refine fD (H' := [.ow (.slice none 0 0) 36 2 0 (spC ((List.range 0).map (chX r kk))), bsy, .pt b7 (aZ (wts r kk)) 158, un (chK r vs), .ow va 100 1 vs.length vs, .pt b6 [va] 116]) (fun w' hs => Sat.ownil (hs.sp U) _ _) ?_
  refine bN (σ := Nat × Value) (fun s => s.1 ≤ r.drifts.length) (fun s => r.drifts.length - s.1) (fun s => [(29, .int .i64 s.1), (28, .int .i64 r.drifts.length), (9, s.2), (4, .pointer (some ⟨b4, 0, none⟩)), (6, .pointer (some ⟨b6, 0, none⟩)), (7, .pointer (some ⟨b7, 0, none⟩)), (8, .int .i64 (r.total ^ (kk + 1)))])
   (fun s => [.ow s.2 36 2 s.1 (spC ((List.range s.1).map (chX r kk))), bsy, .pt b7 (aZ (wts r kk)) 158, un (chK r vs), .ow va 100 1 vs.length vs, .pt b6 [va] 116]) (0, .slice none 0 0) (by simp) ⟨rfl, rfl, rfl, rfl, rfl, rfl, rfl, trivial⟩ (Sp.refl _) ?_
  rintro ⟨j, vl⟩ hj K2 hK2
  simp only at hj
  dsimp only
  (refine aE (aB (aA V Z Z (aF (aE ?_)))))
  refine dD Z (fun hc => ?_) (fun hc => ?_)
  ·have hj2 : j < r.drifts.length := by omega
   clear hc
   have hjw : j < (wts r kk).length := by omega
   have hwx := hwb (wts r kk)[j] (List.getElem_mem hjw)
   have hcx : chX r kk j = ratioV (wts r kk)[j] (r.total ^ (kk + 1)) := by simp [chX, chW, List.getD_eq_getElem?_getD, hjw]
   (refine aR (aE (aP (aE (aB (aA V Z Z (aA V Z Z (aF (aB (aA V Z Z (aA V Z Z ?_)))))))))))
   refine ql_indexA w_arr Z Z Z O O ?_
   refine ql_loadI V (j) Z Z Z U (by first | rfl | omega | simp) hjw ?_
   (refine aA V Z Z ?_)
   refine aJ (val := .agg #[.int .i64 (chX r kk j).1, .int .i64 (chX r kk j).2]) V Z Z Z Z (fun w hs => ?_) ?_; exact by have := nD (wts r kk)[j] (r.total ^ (kk + 1)) w O O O O; rw [← hcx] at this; exact this
   refine dP 36 [.int .i64 (chX r kk j).1, .int .i64 (chX r kk j).2] Z qR Z (fun bn => ?_)
   refine eH (q := 1) slR Z Z Z (fun v' => by repeat constructor) (fun w' hs => ⟨_, _, Blk.rdSp (hs.blk (b := bn) U)⟩) (by simp [dY]) O O (fun vl' => ?_)
   (refine aA V Z Z (aF (bL (aB (bB V Z Z Z Z O O (aA V Z Z (aF ?_)))))))
   exact hK2 (j + 1, vl') _ _ (by simp only; omega) (by simp only; omega) ⟨Z, Z, Z, Z, Z, Z, Z, trivial⟩ (by simp only [rowX_succ]; repeat constructor)
  ·obtain rfl : j = r.drifts.length := by omega
   clear hc hK2
   refine lS (fun w hs => hs.slice2 (v := vl) U) ?_
   rintro ⟨al, cl, rfl⟩
   (refine bJ _ Z (aB ?_); refine aH V Z Z Z ?_; refine aA V Z Z ?_)
   refine dP 100 [.slice al r.drifts.length cl] Z qR Z (fun bn => ?_)
   refine eH (q := 1) slRR Z Z Z (fun v' => by repeat constructor) (fun w' hs => ⟨_, _, Blk.rd (hs.blk (b := bn) U) Z 1⟩) (by simp [dY]) O O (fun va' => ?_)
   refine mB (fun w hs => hs.slice (v := va') U) ?_
   rintro ⟨a1, m1, c1, rfl⟩
   (refine eV V Z Z Z Z U ?_; refine aF (bL ?_))
   refine fD (H' := [bsy, un (chK r (vs ++ [.slice al r.drifts.length cl])), .ow (.slice a1 m1 c1) 100 1 (vs ++ [Value.slice al r.drifts.length cl]).length (vs ++ [.slice al r.drifts.length cl]), .pt b6 [.slice a1 m1 c1] 116]) (fun w' hs => by
    have h1 := Sat.sp (H' := [.ow (.slice al r.drifts.length cl) 36 2 r.drifts.length (spC (rowX r kk)), un (chK r vs), bsy, .ow (.slice a1 m1 c1) 100 1 (vs.length + 1) (vs ++ [.slice al r.drifts.length cl]), .pt b6 [.slice a1 m1 c1] 116]) hs U
    have hrk : rowX r kk = rowX r vs.length := by rw [hI]
    rw [hrk] at h1
    have h2 := h1.un_in.un_perm (L' := chK r (vs ++ [.slice al r.drifts.length cl])) (by rw [chK_snoc]; exact (List.perm_append_comm (l₁ := [_])))
    have e : (vs ++ [Value.slice al r.drifts.length cl]).length = vs.length + 1 := by simp
    rw [e]
    exact h2.sp U) ?_
   refine hend _ _ (.slice a1 m1 c1, vs ++ [.slice al r.drifts.length cl]) (by simp [hI, hkk]) U
 ·rintro D ⟨va, vs⟩ hsx
  have h5 : vs.length = 5 := by simpa [gF] using hsx
  dsimp only
  refine lS (fun w hs => hs.slice (v := va) U) ?_
  rintro ⟨a1, m1, c1, rfl⟩
  (refine bL (aE (aB ?_)); refine aH V Z Z Z ?_; refine aA V Z Z (aA V Z Z (aF (aW ?_))))
  refine q_finMD V U Z U fun w hs => ?_
  refine ⟨(.slice a1 m1 c1, vs), ⟨Z, h5⟩, ?_⟩
  rw [← h5]
  exact hs.sp U
end Go.Proofs.YtohlillcaadidaaGreat

/- Walks of the reference: chances, hits, the best click. -/
namespace Go.Proofs.YtohlillcaadidaaGreat
open Go Go.Eng

theorem rhit_ca (w : World) (cs : List Value) (r : Rg) (state click : Int) (h : RgC w cs r) (hsm : r.Small) :
  Ca Tryz.prog 64 [.agg cs.toArray, .int .i64 state, .int .i64 click] w fun v w' => v = .tuple #[rtV (hitV r state click).1, .int .i64 (hitV r state click).2] ∧ Chg [] w w' := by
 have h0 := h
 obtain ⟨lo, hi, ag, cg, ad, cd, af, cf, an, cn, rfl, hg, hdr, hf, hn⟩ := h
 obtain ⟨_, _, hsl, hsd⟩ := RdI.outI hdr
 cases hsl
 have hs2 := hsm.drifts
 refine dB (Sat.nil w M0) Tryz.func64 Z (by simp [Tryz.ntmps64]) ?_
 (refine aE (aB ?_))
 refine bG Z Z (fun b3 => ?_)
 refine aV cO Z (fun b6 => ?_)
 (refine aA V Z Z (aF (aE (aE (aB ?_)))); refine aI V Z Z Z ?_)
 refine aJ (val := .int .i64 (checkV r)) V Z Z Z Z (fun w hs => ?_) ?_; exact gI w _ r (h0.keep hs.chg0) hsm
 (refine aA V Z Z (aF (aE (aB (aA V Z Z (aA V Z Z (aF ?_)))))))
 refine iN Z (fun hc => ?_) (fun hc => ?_)
 ·(refine aE (aB ?_))
  refine cE #[.int .i64 0, .int .i64 0] Z qR Z ?_
  (refine aA V Z Z ?_; refine aY V Z Z Z Z Z U Z ?_; refine aA V Z Z (aF (aW ?_)))
  refine aX V Z U fun w hs => ?_
  exact ⟨by simp [fT, hitV, hc, rtV], hs.chg0⟩
 have hck : checkV r = 0 := by simpa using hc
 have hr := (bM r).1 hck
 have hgs := hr.gsum
 have hg2 := hr.g2
 have hC := hr.clicks
 clear hc
 (refine aR (aE (aE (aB (aA V Z Z (aA V Z Z ?_))))); refine aH V Z Z Z ?_; refine aA V Z Z (bB V Z Z Z Z O O ?_))
 refine aJ (val := .bool (!(inB state 0 ((r.drifts.length : Int) - 1)))) V Z Z Z Z (fun w hs => ?_) ?_; exact fO state 0 ((r.drifts.length : Int) - 1) w
 (refine aF ?_)
 cases c1 : inB state 0 ((r.drifts.length : Int) - 1) with
 | false =>
  (refine aM Z (aE (aB ?_)))
  refine cE #[.int .i64 0, .int .i64 0] Z qR Z ?_
  (refine aY V Z Z Z Z Z U Z ?_; refine aA V Z Z (aF (aW ?_)))
  refine aX V Z U fun w hs => ?_
  exact ⟨by simp [fT, hitV, hck, c1, rtV], hs.chg0⟩
 | true =>
 have hst := bH.1 c1
 (refine aL Z (aR (aE (aE (aB (aA V Z Z (aA V Z Z ?_)))))); refine aH V Z Z Z ?_; refine fJ V Z Z O O (aA V Z Z ?_); refine aH V Z Z Z ?_)
 refine aJ (val := .bool (!(inB click (-r.clicks) r.clicks))) V Z Z Z Z (fun w hs => ?_) ?_; exact fO click (-r.clicks) r.clicks w
 (refine aF ?_)
 cases c2 : inB click (-r.clicks) r.clicks with
 | false =>
  (refine aM Z (aE (aB ?_)))
  refine cE #[.int .i64 0, .int .i64 0] Z qR Z ?_
  (refine aY V Z Z Z Z Z U Z ?_; refine aA V Z Z (aF (aW ?_)))
  refine aX V Z U fun w hs => ?_
  exact ⟨by simp [fT, hitV, hck, c1, c2, rtV], hs.chg0⟩
 | true =>
 have hcl := bH.1 c2
 obtain ⟨st, rfl⟩ : ∃ st : Nat, state = st := ⟨state.toNat, by omega⟩
 have hsl : st < r.drifts.length := by omega
 obtain ⟨bd, off, rfl⟩ := hsd O
 have hdb := hr.drift r.drifts[st] (List.getElem_mem hsl)
 have hm := eC r hr r.drifts[st] click
 (refine aL Z (aR (aE ?_)))
 refine bX _ [.pt b6 _ _] (Sp.cons U (Sp.refl _)) qR qR ?_
 (refine aD V Z Z Z ?_; refine aT V Z Z Z ?_)
 refine aS (val := .int .i64 r.group.sum) V Z Z Z Z (fun w hs => ?_) ?_; exact fI w lo hi _ r.group (RdE.keep hg hs.chg0) O (fun x hx => by have := hr.weight x hx; omega)
 (refine aO V Z Z Z ?_; refine aD V Z Z Z ?_; refine aT V Z Z Z ?_; refine aD V Z Z Z ?_)
 (refine bF V Z Z Z Z Z O O ?_; refine bI V Z Z Z (fun w hs => RdI.at (RdE.keep hdr hs.chg0) st hsl) ?_)
 (refine aD V Z Z Z ?_)
 refine aS (val := .int .i64 (cX r r.drifts[st] click)) V Z Z Z Z (fun w hs => ?_) ?_; exact mC w _ r _ click (h0.keep hs.chg0) hr O O
 (refine bY V Z Z Z Z O O (aD V Z Z Z ?_); refine aT V Z Z Z ?_)
 refine aS (val := .int .i64 r.group.sum) V Z Z Z Z (fun w hs => ?_) ?_; exact fI w lo hi _ r.group (RdE.keep hg hs.chg0) O (fun x hx => by have := hr.weight x hx; omega)
 refine aS (val := rtV (ratioV (r.group.sum - cX r r.drifts[st] click) r.group.sum)) V Z Z Z Z (fun w hs => ?_) ?_; exact jV (r.group.sum - cX r r.drifts[st] click) r.group.sum w O O O O
 (refine bK V Z Z Z Z Z U Z ?_; refine aD V Z Z Z (aK (aW ?_)))
 refine aX V Z U fun w hs => ?_
 exact ⟨by simp [fT, hitV, hck, c1, c2, rtV, List.getD_eq_getElem?_getD, hsl], hs.chg0⟩

theorem rexpectedF_ca (w : World) (cs : List Value) (r : Rg) (click : Int) (h : RgC w cs r) (hsm : r.Small) : Ca Tryz.prog 65 [.agg cs.toArray, .int .i64 click] w fun v w' => v = .tuple #[rtV (mG r click).1, .int .i64 (mG r click).2] ∧ Chg [] w w' := by
 have h0 := h
 obtain ⟨lo, hi, ag, cg, ad, cd, af, cf, an, cn, rfl, hg, hdr, hf, hn⟩ := h
 refine dB (Sat.nil w M0) Tryz.func65 Z (by simp [Tryz.ntmps65]) ?_
 (refine aE (aB ?_))
 refine bG Z Z (fun b2 => ?_)
 refine aV cO Z (fun b4 => ?_)
 (refine aA V Z Z (aF (aE (aE (aB ?_)))); refine aI V Z Z Z ?_)
 refine aJ (val := .int .i64 (checkV r)) V Z Z Z Z (fun w hs => ?_) ?_; exact gI w _ r (h0.keep hs.chg0) hsm
 (refine aA V Z Z (aF (aE (aB (aA V Z Z (aA V Z Z (aF ?_)))))))
 refine iN Z (fun hc => ?_) (fun hc => ?_)
 ·(refine aE (aB ?_))
  refine cE #[.int .i64 0, .int .i64 0] Z qR Z ?_
  (refine aA V Z Z ?_; refine aY V Z Z Z Z Z U Z ?_; refine aA V Z Z (aF (aW ?_)))
  refine aX V Z U fun w hs => ?_
  exact ⟨by simp [fT, mG, hc, rtV], hs.chg0⟩
 have hck : checkV r = 0 := by simpa using hc
 have hr := (bM r).1 hck
 have hC := hr.clicks
 clear hc
 (refine aR (aE (aE (aB (aA V Z Z (aA V Z Z ?_))))); refine aH V Z Z Z ?_; refine fJ V Z Z O O (aA V Z Z ?_); refine aH V Z Z Z ?_)
 refine aJ (val := .bool (!(inB click (-r.clicks) r.clicks))) V Z Z Z Z (fun w hs => ?_) ?_; exact fO click (-r.clicks) r.clicks w
 (refine aF ?_)
 cases c2 : inB click (-r.clicks) r.clicks with
 | false =>
  (refine aM Z (aE (aB ?_)))
  refine cE #[.int .i64 0, .int .i64 0] Z qR Z ?_
  (refine aY V Z Z Z Z Z U Z ?_; refine aA V Z Z (aF (aW ?_)))
  refine aX V Z U fun w hs => ?_
  exact ⟨by simp [fT, mG, hck, c2, rtV], hs.chg0⟩
 | true =>
 have hcl := bH.1 c2
 (refine aL Z (aR (aE (aB ?_))); refine aI V Z Z Z ?_; refine aA V Z Z ?_)
 refine aJ (val := rtV (lK r click)) V Z Z Z Z (fun w hs => ?_) ?_; exact rexpected_ca w _ r click (h0.keep hs.chg0) hr O
 (refine aY V Z Z Z Z Z U Z ?_; refine aA V Z Z (aF (aW ?_)))
 refine aX V Z U fun w hs => ?_
 exact ⟨by simp [fT, mG, hck, c2, rtV], hs.chg0⟩

theorem beats_ca (w : World) (a b : Int × Int) (c d : Int) (ha : Fine a) (hb : Fine b) (hc : -1000 ≤ c ∧ c ≤ 1000) (hd : -1000 ≤ d ∧ d ≤ 1000) :
  Ca Tryz.prog 104 [rtV a, .int .i64 c, rtV b, .int .i64 d] w fun v w' => v = .bool (lO a c b d) ∧ Chg [] w w' := by
 obtain ⟨a1, a2⟩ := a
 obtain ⟨b1, b2⟩ := b
 obtain ⟨h1, h2, h3, h4⟩ := ha
 obtain ⟨g1, g2, g3, g4⟩ := hb
 simp only at h1 h2 h3 h4 g1 g2 g3 g4
 have m1 := bR (A := 1000000000) (B := 1000000000) ⟨h1, h2⟩ (show 0 ≤ b2 ∧ b2 ≤ 1000000000 by omega)
 have m2 := bR (A := 1000000000) (B := 1000000000) ⟨g1, g2⟩ (show 0 ≤ a2 ∧ a2 ≤ 1000000000 by omega)
 have m3 := gK hc hc
 have m4 := gK hd hd
 refine dB (Sat.nil w M0) Tryz.func104 Z (by simp [Tryz.ntmps104]) ?_
 unfold rtV
 dsimp only
 (refine aE (aB ?_))
 refine bG Z Z (fun p4 => ?_)
 refine bG Z Z (fun p6 => ?_)
 (refine aA V Z Z (aF (aE (aE (aB (aA V Z Z ?_))))); refine aH V Z Z Z ?_; refine aA V Z Z ?_; refine aH V Z Z Z ?_; refine bB V Z Z Z Z O O (aA V Z Z ?_); refine aH V Z Z Z ?_; refine aA V Z Z ?_; refine aH V Z Z Z ?_; refine bB V Z Z Z Z O O (aA V Z Z (aF ?_)))
 refine iN Z (fun hc => ?_) (fun hc => ?_)
 ·(refine aE (aB (aA V Z Z ?_)); refine aH V Z Z Z ?_; refine aA V Z Z ?_; refine aH V Z Z Z ?_; refine bB V Z Z Z Z O O (aA V Z Z ?_); refine aH V Z Z Z ?_; refine aA V Z Z ?_; refine aH V Z Z Z ?_; refine bB V Z Z Z Z O O (aA V Z Z (aA V Z Z (aF (aW ?_)))))
  refine aX V Z U fun w hs => ?_
  exact ⟨by rw [lO, if_neg hc]; simp only [Bool.and_true]; rfl, hs.chg0⟩
 have e1 : a1 * b2 = b1 * a2 := by omega
 (refine aR (aE (aE (aB (aA V Z Z (aA V Z Z (bB V Z Z Z Z O O (aA V Z Z (aA V Z Z (bB V Z Z Z Z O O (aA V Z Z (aF ?_))))))))))))
 refine iN Z (fun hc => ?_) (fun hc => ?_)
 ·(refine aE (aB (aA V Z Z (aA V Z Z (bB V Z Z Z Z O O (aA V Z Z (aA V Z Z (bB V Z Z Z Z O O (aA V Z Z (aA V Z Z (aF (aW ?_))))))))))))
  refine aX V Z U fun w hs => ?_
  exact ⟨by rw [lO, if_pos e1, if_neg hc]; simp only [Bool.and_true]; rfl, hs.chg0⟩
 have e2 : c * c = d * d := by omega
 (refine aR (aE (aB ?_)); (iterate 4 refine aA V Z Z ?_); refine aF (aW ?_))
 refine aX V Z U fun w hs => ?_
 exact ⟨by rw [lO, if_pos e1, if_pos e2]; simp only [Bool.and_true]; rfl, hs.chg0⟩
end Go.Proofs.YtohlillcaadidaaGreat

/- Walks of the reference: the best of all clicks; chances. -/
namespace Go.Proofs.YtohlillcaadidaaGreat
open Go Go.Eng

theorem pick_ca (w : World) (l0 h1 : Nat) (cs : List Value) (r : Rg) (v : Value) (l : List (Int × Int)) (h : RgC w cs r) (hC : 0 ≤ r.clicks ∧ r.clicks ≤ 6) (hl : RdS w l0 h1 v l) (hl1 : 1 ≤ l.length) (hl2 : l.length ≤ 100) (hfi : ∀ x ∈ l, Fine x) :
  Ca Tryz.prog 51 [.agg cs.toArray, v] w fun v w' => v = .tuple #[.int .i64 ((pickI r.clicks l (l.length - 1) : Int) - r.clicks), rtV (l.getD (pickI r.clicks l (l.length - 1)) (0, 1))] ∧ Chg [] w w' := by
 have h0 := h
 obtain ⟨lo, hi, ag, cg, ad, cd, af, cf, an, cn, rfl, hg, hdr, hf, hn⟩ := h
 obtain ⟨a, cap, rfl, hsl⟩ := RdS.outI hl
 obtain ⟨b, off, rfl⟩ := hsl O
 refine dB (Sat.nil w M0) Tryz.func51 Z (by simp [Tryz.ntmps51]) ?_
 (refine aE (aB ?_))
 refine bG Z Z (fun b2 => ?_)
 (refine aA V Z Z ?_)
 refine aV cO Z (fun b5 => ?_)
 (refine aF (aE (aB (aA V Z Z (aF (aE (aE (aB (aA V Z Z (aF (aP ?_)))))))))))
 refine bN (σ := Nat) (fun j => j + 1 ≤ l.length) (fun j => l.length - j) (fun j => [(1, .slice (some ⟨b, off, none⟩) l.length cap), (2, .pointer (some ⟨b2, 0, none⟩)), (5, .pointer (some ⟨b5, 0, none⟩)), (6, .int .i64 (pickI r.clicks l j : Int)), (7, .int .i64 ((j + 1 : Nat) : Int))])
  (fun j => [.pt b5 [.int .i64 0, .int .i64 0] 36, .pt b2 [.int .i64 r.radius, .int .i64 r.unit, .int .i64 r.clicks, .int .i64 r.total, .slice ag r.group.length cg, .slice ad r.drifts.length cd, .slice af r.first.length cf, .slice an r.next.length cn] 34]) 0 O ⟨rfl, rfl, rfl, rfl, rfl, trivial⟩ U ?_
 intro j hj K hK
 have hle := pickI_le r.clicks l j
 have hps : pickI r.clicks l (j + 1) = if lO (l.getD (j + 1) (0, 1)) (((j + 1 : Nat) : Int) - r.clicks) (l.getD (pickI r.clicks l j) (0, 1)) ((pickI r.clicks l j : Int) - r.clicks) then j + 1 else pickI r.clicks l j := rfl
 have hej : pickI r.clicks l (l.length - 1) = pickI r.clicks l (l.length - 1) := rfl
 obtain ⟨m, hm⟩ : ∃ m, m = pickI r.clicks l j := ⟨_, rfl⟩
 rw [← hm] at hle hps ⊢
 have hml : m < l.length := by omega
 have hgm : l.getD m (0, 1) = l[m] := by simp [List.getD_eq_getElem?_getD, hml]
 (refine aE (aE (aB ?_)); (iterate 4 refine aA V Z Z ?_); refine aF ?_)
 refine dD Z (fun hc => ?_) (fun hc => ?_)
 ·have hj2 : j + 1 < l.length := by omega
  clear hc
  have hgj : l.getD (j + 1) (0, 1) = l[j + 1] := by simp [List.getD_eq_getElem?_getD, hj2]
  have f1 := hfi _ (List.getElem_mem hj2)
  have f2 := hfi _ (List.getElem_mem hml)
  rw [hgm, hgj] at hps
  (refine aR (aE (aP (aE ?_))))
  refine bX _ [] (Sp.refl _) qR qR ?_
  (refine aD V Z Z Z (aD V Z Z Z ?_))
  (refine bF V Z Z Z Z Z O O ?_; refine gY V Z Z Z Z (fun w hs => RdS.at (RdE.keep hl hs.chg0) (j + 1) hj2) ?_)
  (refine aD V Z Z Z (aD V Z Z Z ?_); refine aT V Z Z Z ?_; refine bY V Z Z Z Z O O (aD V Z Z Z (aD V Z Z Z ?_)))
  (refine bF V Z Z Z Z Z O O ?_; refine gY V Z Z Z Z (fun w hs => RdS.at (RdE.keep hl hs.chg0) m hml) ?_)
  (refine aD V Z Z Z (aD V Z Z Z ?_); refine aT V Z Z Z ?_; refine bY V Z Z Z Z O O ?_)
  refine aS (val := .bool (lO l[j + 1] (((j + 1 : Nat) : Int) - r.clicks) l[m] ((m : Int) - r.clicks))) V Z Z Z Z (fun w hs => ?_) ?_; exact beats_ca w l[j + 1] l[m] _ _ f1 f2 O O
  (refine aK ?_)
  cases hb : lO l[j + 1] (((j + 1 : Nat) : Int) - r.clicks) l[m] ((m : Int) - r.clicks) with
  | true =>
   rw [hb, if_pos rfl] at hps
   (refine aM Z (aB (aA V Z Z (aA V Z Z (aF (bL (aB (aA V Z Z (bB V Z Z Z Z O O (aA V Z Z (aF ?_)))))))))))
   exact hK (j + 1) _ _ O O ⟨Z, Z, Z, by rw [hps]; rfl, Z, trivial⟩ U
  | false =>
   rw [hb, if_neg (by simp)] at hps
   (refine aL Z (aR (bL (aB (aA V Z Z (bB V Z Z Z Z O O (aA V Z Z (aF ?_))))))))
   exact hK (j + 1) _ _ O O ⟨Z, Z, Z, by rw [hps]; rfl, Z, trivial⟩ U
 ·obtain rfl : j = l.length - 1 := by omega
  clear hc hK
  (refine bJ _ Z (aE ?_))
  refine bX _ [.pt b5 _ _] (Sp.cons U (Sp.refl _)) qR qR ?_
  (refine aD V Z Z Z (aD V Z Z Z ?_); refine aT V Z Z Z ?_; refine bY V Z Z Z Z O O (aD V Z Z Z (aD V Z Z Z ?_)))
  (refine bF V Z Z Z Z Z O O ?_; refine gY V Z Z Z Z (fun w hs => RdS.at (RdE.keep hl hs.chg0) m hml) ?_)
  (refine aD V Z Z Z ?_; refine bK V Z Z Z Z Z U Z ?_; refine aK (aW ?_))
  refine aX V Z U fun w hs => ?_
  exact ⟨by rw [← hm, hgm]; rfl, hs.chg0⟩

theorem expV_lessR {r : Rg} (hr : r.Right) (a b : Int) : nW (lK r a) (lK r b) = (decide ((lL r a 5).1 < (lL r b 5).1) && true) :=
 mR (Int.mul_pos (by have := tot8 r hr 5 O; omega) (by have := hr.gsum; omega)) (expP_bd r hr a 5 O).1 (expP_bd r hr b 5 O).1
theorem gA (C : Int) : (eT C).length = (2 * C + 1).toNat := by simp [eT]
theorem qQ (C : Int) (j : Nat) (hj : j < (2 * C + 1).toNat) : (eT C).take (j + 1) = (eT C).take j ++ [(j : Int) - C] := by
 rw [List.take_succ_eq_append_getElem (by rw [gA]; exact hj)]
 simp [eT]

theorem rbest_ca (w : World) (cs : List Value) (r : Rg) (h : RgC w cs r) (hsm : r.Small) : Ca Tryz.prog 66 [.agg cs.toArray] w fun v w' => v = .tuple #[.int .i64 (jS r).1, rtV (jS r).2.1, .int .i64 (jS r).2.2] ∧ Chg [] w w' := by
 have h0 := h
 obtain ⟨lo, hi, ag, cg, ad, cd, af, cf, an, cn, rfl, hg, hdr, hf, hn⟩ := h
 refine dB (Sat.nil w M0) Tryz.func66 Z (by simp [Tryz.ntmps66]) ?_
 (refine aE (aB ?_))
 refine bG Z Z (fun b1 => ?_)
 (refine aA V Z Z ?_)
 refine aV cO Z (fun b3 => ?_)
 (refine aA V Z Z (aF (aE (aE (aB ?_)))); refine aI V Z Z Z ?_)
 refine aJ (val := .int .i64 (checkV r)) V Z Z Z Z (fun w hs => ?_) ?_; exact gI w _ r (h0.keep hs.chg0) hsm
 (refine aA V Z Z (aF (aE (aB (aA V Z Z (aA V Z Z (aF ?_)))))))
 refine iN Z (fun hc => ?_) (fun hc => ?_)
 ·(refine aE (aB ?_))
  refine cE #[.int .i64 0, .int .i64 0] Z qR Z ?_
  (refine aA V Z Z (aA V Z Z ?_); refine aY V Z Z Z Z Z U Z ?_; refine aA V Z Z (aF (aW ?_)))
  refine aX V Z U fun w hs => ?_
  exact ⟨by simp [fT, jS, hc, rtV], hs.chg0⟩
 have hck : checkV r = 0 := by simpa using hc
 have hr := (bM r).1 hck
 have hC := hr.clicks
 clear hc
 obtain ⟨m, hm1, hm2, hm3⟩ := pick_law (lK r) (fun c => (lL r c 5).1) r.clicks hC.1 (fun a b _ _ => expV_lessR hr a b)
 have hbv : jS r = (m, lK r m, 0) := by unfold jS; rw [if_neg O, hm1]
 (refine aR (aE (aB (aA V Z Z (aF (aE (aE (aB (aA V Z Z ?_)))))))); refine aH V Z Z Z ?_; refine fJ V Z Z O O (aA V Z Z (aF (aP ?_))))
 refine fD (H' := [.ow (.slice none 0 0) 36 2 0 (spC (((eT r.clicks).take 0).map (lK r))), .pt b3 [.int .i64 0, .int .i64 0] 36, .pt b1 [.int .i64 r.radius, .int .i64 r.unit, .int .i64 r.clicks, .int .i64 r.total, .slice ag r.group.length cg, .slice ad r.drifts.length cd, .slice af r.first.length cf, .slice an r.next.length cn] 34]) (fun w' hs => Sat.ownil (hs.sp U) _ _) ?_
 refine bN (σ := Nat × Value) (fun s => s.1 ≤ (2 * r.clicks + 1).toNat) (fun s => (2 * r.clicks + 1).toNat - s.1) (fun s => [(1, .pointer (some ⟨b1, 0, none⟩)), (3, .pointer (some ⟨b3, 0, none⟩)), (6, s.2), (7, .int .i64 ((s.1 : Int) - r.clicks))])
  (fun s => [.ow s.2 36 2 s.1 (spC (((eT r.clicks).take s.1).map (lK r))), .pt b3 [.int .i64 0, .int .i64 0] 36, .pt b1 [.int .i64 r.radius, .int .i64 r.unit, .int .i64 r.clicks, .int .i64 r.total, .slice ag r.group.length cg, .slice ad r.drifts.length cd, .slice af r.first.length cf, .slice an r.next.length cn] 34]) (0, .slice none 0 0) (by simp) ⟨rfl, rfl, rfl, fE rfl (by simp), trivial⟩ U ?_
 rintro ⟨j, v⟩ hj K hK
 simp only at hj
 dsimp only
 (refine aE (aE (aB (aA V Z Z (aA V Z Z ?_)))); refine aH V Z Z Z ?_; refine aA V Z Z (aF ?_))
 refine dD Z (fun hc => ?_) (fun hc => ?_)
 ·have hj2 : j < (2 * r.clicks + 1).toNat := by omega
  clear hc
  have e1 : spC (((eT r.clicks).take (j + 1)).map (lK r)) = spC (((eT r.clicks).take j).map (lK r)) ++ [.int .i64 (lK r ((j : Int) - r.clicks)).1, .int .i64 (lK r ((j : Int) - r.clicks)).2] := by
   rw [qQ _ _ hj2]
   simp [spC]
  (refine aR (aE (aP (aB (aA V Z Z ?_)))); refine aI V Z Z Z ?_; refine aA V Z Z ?_)
  refine aJ (val := .agg #[.int .i64 (lK r ((j : Int) - r.clicks)).1, .int .i64 (lK r ((j : Int) - r.clicks)).2]) V Z Z Z Z (fun w hs => ?_) ?_; exact rexpected_ca w _ r _ (h0.keep hs.chg0) hr O
  refine dP 36 [.int .i64 (lK r ((j : Int) - r.clicks)).1, .int .i64 (lK r ((j : Int) - r.clicks)).2] Z qR Z (fun bn => ?_)
  refine eH (q := 1) slR Z Z Z (fun v' => by repeat constructor) (fun w' hs => ⟨_, _, Blk.rdSp (hs.blk (b := bn) U)⟩) (by simp [dY]) O O (fun v' => ?_)
  (refine aA V Z Z (aF (bL (aB (aA V Z Z (bB V Z Z Z Z O O (aA V Z Z (aF ?_))))))))
  exact hK (j + 1, v') _ _ (by simp only; omega) (by simp only; omega) ⟨Z, Z, Z, fE Z (by simp only; omega), trivial⟩ (by simp only [e1]; repeat constructor)
 ·obtain rfl : j = (2 * r.clicks + 1).toNat := by omega
  clear hc hK
  have hlen : ((eT r.clicks).map (lK r)).length = (2 * r.clicks + 1).toNat := by rw [List.length_map, gA]
  rw [List.take_of_length_le (by rw [gA]; omega)]
  have hm4 : pickI r.clicks ((eT r.clicks).map (lK r)) (((eT r.clicks).map (lK r)).length - 1) = (m + r.clicks).toNat := by
   rw [hlen, show (2 * r.clicks + 1).toNat - 1 = (2 * r.clicks).toNat by omega]
   omega
  have hm5 : ((eT r.clicks).map (lK r)).getD (m + r.clicks).toNat (0, 1) = lK r m := by
   rw [allC_at _ _ _ O]
   congr 1
   omega
  (refine bJ _ Z (aE (aB ?_)); refine aI V Z Z Z ?_; refine aA V Z Z ?_)
  refine aJ (val := .tuple #[.int .i64 m, .agg #[.int .i64 (lK r m).1, .int .i64 (lK r m).2]]) V rfl rfl rfl rfl (fun w hs => ?_) ?_; exact by have := pick_ca w 0 w.heap.size _ r v ((eT r.clicks).map (lK r)) (h0.keep hs.chg0) hC (Sat.rdSp hs (t := 36) (k := (2 * r.clicks + 1).toNat) U hlen.symm) O O (fun x hx => by obtain ⟨c, _, rfl⟩ := List.mem_map.1 hx; exact expV_fine r hr c); rw [hm4, hm5, show (((m + r.clicks).toNat : Nat) : Int) - r.clicks = m by omega] at this; exact this
  (refine aA V Z Z (bC V Z Z Z (bC V Z Z Z ?_)))
  refine aV cO Z (fun b9 => ?_)
  (refine aA V Z Z ?_; refine aY V Z Z Z Z Z U Z ?_; refine aF (aE ?_))
  refine bX _ [.pt b3 _ _] (Sp.cons U (Sp.refl _)) qR qR ?_
  (refine aD V Z Z Z ?_; refine aO V Z Z Z ?_; refine aD V Z Z Z ?_; refine bK V Z Z Z Z Z U Z ?_; refine aD V Z Z Z (aK (aW ?_)))
  refine aX V Z U fun w hs => ?_
  exact ⟨by rw [hbv]; rfl, hs.chg0⟩
end Go.Proofs.YtohlillcaadidaaGreat

/- Walks of the reference: chances of states. -/
namespace Go.Proofs.YtohlillcaadidaaGreat
open Go Go.Eng

theorem d55_arr : arrB Tryz.prog 159 5 157 5 = true := by kernel_rfl
/-- The sums of the chances: of courses below c, and of course c at its first i shots. -/
def sumC (r : Rg) (c s i : Nat) : Int := cV (fun c => crW r c 5 * if dig r.drifts.length c i = s then 1 else 0) c
def sumP (r : Rg) (c i : Nat) : List Int := (List.range 25).map fun j => sumC r (if j / 5 < i then c + 1 else c) (j % 5) (j / 5)
theorem sumP_length (r : Rg) (c i : Nat) : (sumP r c i).length = 25 := by simp [sumP]
theorem sumP_0 (r : Rg) : sumP r 0 0 = List.replicate 25 0 := by simp [sumP, sumC, cV, List.map_const']
theorem sumP_next (r : Rg) (c : Nat) : sumP r c 5 = sumP r (c + 1) 0 := by
 refine List.map_congr_left (fun j hj => ?_)
 have : j < 25 := by simpa using hj
 rw [if_pos O, if_neg O]
theorem sumC_succ (r : Rg) (c s i : Nat) : sumC r (c + 1) s i = sumC r c s i + crW r c 5 * if dig r.drifts.length c i = s then 1 else 0 := rfl
theorem sumP_at (r : Rg) (c i j : Nat) (hj : j < (sumP r c i).length) : (sumP r c i)[j] = sumC r (if j / 5 < i then c + 1 else c) (j % 5) (j / 5) := by simp [sumP]
theorem sumP_set (r : Rg) (c i : Nat) (hd : dig r.drifts.length c i < 5) : (sumP r c i).set (i * 5 + dig r.drifts.length c i) (sumC r c (dig r.drifts.length c i) i + crW r c 5) = sumP r c (i + 1) := by
 refine List.ext_getElem (by simp [sumP]) (fun j h1 h2 => ?_)
 have hj : j < 25 := by simpa [sumP] using h2
 rw [List.getElem_set, sumP_at]
 split
 ·rename_i h
  have e1 : j / 5 = i := by omega
  have e2 : j % 5 = dig r.drifts.length c i := by omega
  rw [sumP_at, e1, e2, if_pos O, sumC_succ, if_pos rfl, Int.mul_one]
 ·rename_i h
  rw [sumP_at]
  by_cases h3 : j / 5 < i
  ·rw [if_pos h3, if_pos O]
  ·rw [if_neg h3]
   by_cases h4 : j / 5 = i
   ·rw [if_pos O, sumC_succ, if_neg (by rw [h4]; omega), Int.mul_zero, Int.add_zero]
   ·rw [if_neg O]
theorem sumP_id (r : Rg) (c i d : Nat) (hd : d < 5) (hj : i * 5 + d < (sumP r c i).length) : (sumP r c i)[i * 5 + d] = sumC r c d i := by
 rw [sumP_at, show (i * 5 + d) / 5 = i by omega, show (i * 5 + d) % 5 = d by omega, if_neg O]
theorem sumC_bd {r : Rg} (hr : r.Right) (c s i : Nat) : 0 ≤ sumC r c s i ∧ sumC r c s i ≤ 248832 * c := by
 refine mK _ 248832 c (fun j _ => ?_)
 have := crW5 hr j 5 O
 split <;> omega
theorem sumC_all {r : Rg} (hr : r.Right) (i s : Nat) (hi : i < 5) (hs : s < r.drifts.length) : ratioV (sumC r (r.drifts.length ^ 5) s i) (r.total ^ 5) = chX r i s := by
 have h := chance_sum hr i s hi hs
 have e : sumC r (r.drifts.length ^ 5) s i = chW r i s * r.total ^ (4 - i) := h
 have e2 : r.total ^ 5 = r.total ^ (i + 1) * r.total ^ (4 - i) := by rw [← Int.pow_add]; congr 1; omega
 rw [e, e2]
 exact ratioV_scale _ _ _ (by have := tot8 r hr (4 - i) O; omega)
theorem rchances_no (w : World) (cs : List Value) (r : Rg) (h : RgC w cs r) (hsm : r.Small) (hck : checkV r ≠ 0) :
  Ca Tryz.prog 62 [.agg cs.toArray] w fun v w' => v = .tuple #[.slice none 0 0, .int .i64 (checkV r)] ∧ Chg [] w w' := by
 have h0 := h
 obtain ⟨lo, hi, ag, cg, ad, cd, af, cf, an, cn, rfl, hg, hdr, hf, hn⟩ := h
 refine dB (Sat.nil w M0) Tryz.func62 Z (by simp [Tryz.ntmps62]) ?_
 (refine aE (aB ?_))
 refine bG Z Z (fun b1 => ?_)
 (refine aA V Z Z (aA V Z Z (aF (aE (aE (aB ?_))))); refine aI V Z Z Z ?_)
 refine aJ (val := .int .i64 (checkV r)) V Z Z Z Z (fun w hs => ?_) ?_; exact gI w _ r (h0.keep hs.chg0) hsm
 (refine aA V Z Z (aF (aE (aB (aA V Z Z (ql_neqT V Z Z Z O (aF (aM Z (aE (aB ?_))))))))); (iterate 3 refine aA V Z Z ?_); refine aF (aW ?_))
 refine aX V Z U fun w hs => ?_
 exact ⟨Z, hs.chg0⟩
theorem rchances_ok (w : World) (cs : List Value) (r : Rg) (h : RgC w cs r) (hsm : r.Small) (hr : r.Right) :
  Ca Tryz.prog 62 [.agg cs.toArray] w fun v w' => ∃ x : Value × List Value, (v = .tuple #[x.1, .int .i64 0] ∧ x.2.length = 5) ∧ Sat w M0 [un (chK r x.2), .ow x.1 100 1 5 x.2] w' := by
 have h0 := h
 have hck := (bM r).2 hr
 have hd1 := hr.d1
 have hd2 := hr.d2
 have hp5 := pow5 hr
 obtain ⟨lo, hi, ag, cg, ad, cd, af, cf, an, cn, rfl, hg, hdr, hf, hn⟩ := h
 refine dB (Sat.nil w M0) Tryz.func62 Z (by simp [Tryz.ntmps62]) ?_
 (refine aE (aB ?_))
 refine bG Z Z (fun b1 => ?_)
 (refine aA V Z Z (aA V Z Z (aF (aE (aE (aB ?_))))); refine aI V Z Z Z ?_)
 refine aJ (val := .int .i64 0) V Z Z Z Z (fun w hs => ?_) ?_; exact by have := gI w _ r (h0.keep hs.chg0) hsm; rw [hck] at this; exact this
 (refine aA V Z Z (aF (aE (aB (aA V Z Z (dM V Z Z Z O (aF (aL Z (aR (aE (aB ?_)))))))))))
 refine aV zero159 Z (fun b5 => ?_)
 (refine aF (aE (aE (aB (aA V Z Z (aF (aP ?_)))))))
 refine bN (σ := Nat) (fun c => c ≤ r.drifts.length ^ 5) (fun c => r.drifts.length ^ 5 - c) (fun c => [(1, .pointer (some ⟨b1, 0, none⟩)), (5, .pointer (some ⟨b5, 0, none⟩)), (6, .int .i64 c)])
  (fun c => [.pt b5 (aZ (sumP r c 0)) 159, .pt b1 [.int .i64 r.radius, .int .i64 r.unit, .int .i64 r.clicks, .int .i64 r.total, .slice ag r.group.length cg, .slice ad r.drifts.length cd, .slice af r.first.length cf, .slice an r.next.length cn] 34]) 0 O ⟨rfl, rfl, rfl, trivial⟩ (by rw [sumP_0]; repeat constructor) ?_
 intro c hc5 K hK
 (refine aE (aE (aB (aA V Z Z ?_))); refine aI V Z Z Z ?_)
 refine aJ (val := .int .i64 ((r.drifts.length ^ 5 : Nat) : Int)) V Z Z Z Z (fun w hs => ?_) ?_; exact courses_ca w _ r (h0.keep hs.chg0) hr
 (refine aA V Z Z (aF ?_))
 refine dD Z (fun hc => ?_) (fun hc => ?_)
 ·have hcl : c < r.drifts.length ^ 5 := by omega
  clear hc
  have hW := crW5 hr c 5 O
  (refine aR (aE (aP (aE (aB ?_)))); refine aI V Z Z Z ?_; refine aA V Z Z ?_)
  refine aJ (val := .tuple #[.agg (aZ (digP r.drifts.length c 5)).toArray, .int .i64 (crW r c 5)]) V Z Z Z Z (fun w hs => ?_) ?_; exact course_ca w _ r c (h0.keep hs.chg0) hr hcl
  have hal := gT r.drifts.length c 5
  have hdA := digP_at r.drifts.length c 5
  generalize digP r.drifts.length c 5 = dl at hal hdA ⊢
  (refine aA V Z Z (bC V Z Z Z (bC V Z Z Z ?_)))
  refine aV zero157 Z (fun b7 => ?_)
  refine aY (us := aZ dl) V Z Z Z (by simp [hal]) (by simp [dY]) U (by rfl) ?_
  (refine aA V Z Z (aF (aE (aB (aA V Z Z (aF (aP ?_)))))))
  refine bN (σ := Nat) (fun i => i ≤ 5) (fun i => 5 - i) (fun i => [(1, .pointer (some ⟨b1, 0, none⟩)), (5, .pointer (some ⟨b5, 0, none⟩)), (6, .int .i64 c), (7, .pointer (some ⟨b7, 0, none⟩)), (8, .int .i64 (crW r c 5)), (9, .int .i64 i)])
   (fun i => [.pt b5 (aZ (sumP r c i)) 159, .pt b7 (aZ dl) 157, .pt b1 [.int .i64 r.radius, .int .i64 r.unit, .int .i64 r.clicks, .int .i64 r.total, .slice ag r.group.length cg, .slice ad r.drifts.length cd, .slice af r.first.length cf, .slice an r.next.length cn] 34]) 0 O ⟨rfl, rfl, rfl, rfl, rfl, rfl, trivial⟩ U ?_
  intro i hi K2 hK2
  (refine aE (aE (aB (aA V Z Z (aA V Z Z (aF ?_))))))
  refine dD Z (fun hc => ?_) (fun hc => ?_)
  ·have hi5 : i < 5 := by omega
   clear hc
   have hil : i < dl.length := by omega
   have hdl := dig_lt (n := r.drifts.length) O c i
   have hpl := sumP_length r c i
   have hset := sumP_set r c i O
   have hdi := hdA i O hil
   have hsb := sumC_bd hr c (dig r.drifts.length c i) i
   obtain ⟨d, hd⟩ : ∃ d, d = dig r.drifts.length c i := ⟨_, rfl⟩
   rw [← hd] at hdl hset hdi hsb
   have hix : i * 5 + d < (sumP r c i).length := by omega
   have hpat := sumP_id r c i d O hix
   (refine aR (aE (aP ?_)))
   refine gW 14 _ [.pt b5 _ _] (Sp.cons U (Sp.refl _)) qR qR qR fun K1 hK1 => ?_
   (refine aD V Z Z Z (aD V Z Z Z ?_))
   refine eB nI Z Z Z O O ?_
   refine fL V (i) Z Z Z U (by first | rfl | omega | simp) hil ?_
   rw [hdi]
   (refine aD V Z Z Z (aD V Z Z Z ?_))
   refine eB nI Z Z Z O O ?_
   refine fL V (i) Z Z Z U (by first | rfl | omega | simp) hil ?_
   rw [hdi]
   refine eB d55_arr Z Z Z O O ?_
   refine eB nI Z Z Z O O ?_
   refine fL V (i * 5 + d) Z Z Z U (by first | rfl | omega | simp) hix ?_
   rw [hpat]
   (refine aD V Z Z Z (bY V Z Z Z Z O O ?_))
   refine eB d55_arr Z Z Z O O ?_
   (refine aK ?_)
   refine hK1 _ _ [.pt b5 _ _] (Sp.cons U (U)) ?_
   refine eB nI Z Z Z O O ?_
   refine lX V (i * 5 + d) Z Z Z U (by first | rfl | omega | simp) hix ?_
   rw [hset]
   (refine aK (bL (aB (aA V Z Z (bB V Z Z Z Z O O (aA V Z Z (aF ?_)))))))
   exact hK2 (i + 1) _ _ O O ⟨Z, Z, Z, Z, Z, Z, trivial⟩ U
  ·obtain rfl : i = 5 := by omega
   clear hc hK2
   rw [sumP_next]
   (refine bJ _ Z (bL (aB (aA V Z Z (bB V Z Z Z Z O O (aA V Z Z (aF ?_)))))))
   exact hK (c + 1) _ _ O O ⟨Z, Z, Z, trivial⟩ U
 ·obtain rfl : c = r.drifts.length ^ 5 := by omega
  clear hc hK
  have hT := tot8 r hr 5 O
  have hpl := sumP_length r (r.drifts.length ^ 5) 0
  have hpa := sumP_at r (r.drifts.length ^ 5) 0
  generalize sumP r (r.drifts.length ^ 5) 0 = sl at hpl hpa ⊢
  (refine bJ _ Z (aE (aB (aA V Z Z (aF (aE (aE (aB (aA V Z Z (aF (aP ?_)))))))))))
  refine fD (H' := [un (chK r []), .ow (.slice none 0 0) 100 1 0 [], .pt b5 (aZ sl) 159, .pt b1 [.int .i64 r.radius, .int .i64 r.unit, .int .i64 r.clicks, .int .i64 r.total, .slice ag r.group.length cg, .slice ad r.drifts.length cd, .slice af r.first.length cf, .slice an r.next.length cn] 34]) (fun w' hs => Sat.un_nil (Sat.ownil (hs.sp U) _ _)) ?_
  refine bN (σ := Nat × Value × List Value) (fun s => s.1 ≤ 5 ∧ s.2.2.length = s.1) (fun s => 5 - s.1) (fun s => [(1, .pointer (some ⟨b1, 0, none⟩)), (5, .pointer (some ⟨b5, 0, none⟩)), (10, s.2.1), (11, .int .i64 s.1)])
   (fun s => [un (chK r s.2.2), .ow s.2.1 100 1 s.1 s.2.2, .pt b5 (aZ sl) 159, .pt b1 [.int .i64 r.radius, .int .i64 r.unit, .int .i64 r.clicks, .int .i64 r.total, .slice ag r.group.length cg, .slice ad r.drifts.length cd, .slice af r.first.length cf, .slice an r.next.length cn] 34]) (0, .slice none 0 0, []) (by simp) ⟨rfl, rfl, rfl, rfl, trivial⟩ U ?_
  rintro ⟨i, va, vs⟩ ⟨hi, hvl⟩ K hK
  simp only at hi hvl
  dsimp only
  (refine aE (aE (aB (aA V Z Z (aA V Z Z (aF ?_))))))
  refine dD Z (fun hc => ?_) (fun hc => ?_)
  ·have hi5 : i < 5 := by omega
   clear hc
   (refine aR (aE (aP (aE (aB (aA V Z Z (aF (aE (aE (aB (aA V Z Z (aF ?_))))))))))); refine aP ?_)
   refine fD (H' := [.ow (.slice none 0 0) 36 2 0 (spC ((List.range 0).map (chX r i))), un (chK r vs), .ow va 100 1 i vs, .pt b5 (aZ sl) 159, .pt b1 [.int .i64 r.radius, .int .i64 r.unit, .int .i64 r.clicks, .int .i64 r.total, .slice ag r.group.length cg, .slice ad r.drifts.length cd, .slice af r.first.length cf, .slice an r.next.length cn] 34]) (fun w' hs => Sat.ownil (hs.sp U) _ _) ?_
   refine bN (σ := Nat × Value) (fun s => s.1 ≤ r.drifts.length) (fun s => r.drifts.length - s.1) (fun s => [(1, .pointer (some ⟨b1, 0, none⟩)), (5, .pointer (some ⟨b5, 0, none⟩)), (10, va), (11, .int .i64 i), (12, s.2), (13, .int .i64 s.1)])
    (fun s => [.ow s.2 36 2 s.1 (spC ((List.range s.1).map (chX r i))), un (chK r vs), .ow va 100 1 i vs, .pt b5 (aZ sl) 159, .pt b1 [.int .i64 r.radius, .int .i64 r.unit, .int .i64 r.clicks, .int .i64 r.total, .slice ag r.group.length cg, .slice ad r.drifts.length cd, .slice af r.first.length cf, .slice an r.next.length cn] 34]) (0, .slice none 0 0) (by simp) ⟨rfl, rfl, rfl, rfl, rfl, rfl, trivial⟩ (Sp.refl _) ?_
   rintro ⟨j, vl⟩ hj K2 hK2
   simp only at hj
   dsimp only
   (refine aE (aE (aB (aA V Z Z (aA V Z Z ?_)))); refine aH V Z Z Z ?_; refine aA V Z Z (aA V Z Z (aF ?_)))
   refine dD Z (fun hc => ?_) (fun hc => ?_)
   ·have hj2 : j < r.drifts.length := by omega
    clear hc
    have hix : i * 5 + j < sl.length := by omega
    have hcx := sumC_all hr i j hi5 hj2
    have hpat := hpa (i * 5 + j) hix
    rw [show (i * 5 + j) / 5 = i by omega, show (i * 5 + j) % 5 = j by omega, if_neg O] at hpat
    have hsb := sumC_bd hr (r.drifts.length ^ 5) j i
    (refine aR (aE (aP ?_)))
    refine bX _ [.ow vl 36 2 j (spC ((List.range j).map (chX r i)))] (Sp.cons U (Sp.refl _)) qR qR ?_
    ((iterate 3 refine aD V Z Z Z ?_))
    refine eB d55_arr Z Z Z O O ?_
    refine eB nI Z Z Z O O ?_
    refine fL V (i * 5 + j) Z Z Z U (by first | rfl | omega | simp) hix ?_
    rw [hpat]
    (refine aO V Z Z Z ?_)
    refine aS (val := .int .i64 (r.total ^ 5)) V Z Z Z Z (fun w hs => ?_) ?_; exact qH w _ r 5 (h0.keep hs.chg0) hr O
    refine aS (val := .agg #[.int .i64 (chX r i j).1, .int .i64 (chX r i j).2]) V Z Z Z Z (fun w hs => ?_) ?_; exact by have := jV (sumC r (r.drifts.length ^ 5) j i) (r.total ^ 5) w O O O O; rw [hcx] at this; exact this
    refine cA 36 [.int .i64 (chX r i j).1, .int .i64 (chX r i j).2] Z qR Z (fun bn => ?_)
    refine eG (q := 1) slR Z Z Z (fun v' => by repeat constructor) (fun w' hs => ⟨_, _, Blk.rdSp (hs.blk (b := bn) U)⟩) (by simp [dY]) O O (fun vl' => ?_)
    (refine aD V Z Z Z (aK (bL (aB (aA V Z Z (bB V Z Z Z Z O O (aA V Z Z (aF ?_))))))))
    exact hK2 (j + 1, vl') _ _ (by simp only; omega) (by simp only; omega) ⟨Z, Z, Z, Z, Z, Z, trivial⟩ (by simp only [rowX_succ]; repeat constructor)
   ·obtain rfl : j = r.drifts.length := by omega
    clear hc hK2
    refine lS (fun w hs => hs.slice2 (v := vl) U) ?_
    rintro ⟨al, cl, rfl⟩
    (refine bJ _ Z (aB (aA V Z Z (aA V Z Z ?_))))
    refine dP 100 [.slice al r.drifts.length cl] Z qR Z (fun bn => ?_)
    refine eH (q := 1) slRR Z Z Z (fun v' => by repeat constructor) (fun w' hs => ⟨_, _, Blk.rd (hs.blk (b := bn) U) Z 1⟩) (by simp [dY]) O O (fun va' => ?_)
    (refine aA V Z Z (aF (bL (aB (aA V Z Z (bB V Z Z Z Z O O (aA V Z Z (aF ?_))))))))
    refine fD (H' := [un (chK r (vs ++ [.slice al r.drifts.length cl])), .ow va' 100 1 (i + 1) (vs ++ [.slice al r.drifts.length cl]), .pt b5 (aZ sl) 159, .pt b1 [.int .i64 r.radius, .int .i64 r.unit, .int .i64 r.clicks, .int .i64 r.total, .slice ag r.group.length cg, .slice ad r.drifts.length cd, .slice af r.first.length cf, .slice an r.next.length cn] 34]) (fun w' hs => by
     have h1 := Sat.sp (H' := [.ow (.slice al r.drifts.length cl) 36 2 r.drifts.length (spC (rowX r i)), un (chK r vs), .ow va' 100 1 (i + 1) (vs ++ [.slice al r.drifts.length cl]), .pt b5 (aZ sl) 159, .pt b1 [.int .i64 r.radius, .int .i64 r.unit, .int .i64 r.clicks, .int .i64 r.total, .slice ag r.group.length cg, .slice ad r.drifts.length cd, .slice af r.first.length cf, .slice an r.next.length cn] 34]) hs U
     rw [← hvl] at h1
     have h2 := h1.un_in.un_perm (L' := chK r (vs ++ [.slice al r.drifts.length cl])) (by rw [chK_snoc]; exact (List.perm_append_comm (l₁ := [_])))
     rw [← hvl]
     exact h2) ?_
    exact hK (i + 1, va', vs ++ [.slice al r.drifts.length cl]) _ _ ⟨by simp only; omega, by simp [hvl]⟩ (by simp only; omega) ⟨Z, Z, Z, Z, trivial⟩ U
  ·obtain rfl : i = 5 := by omega
   clear hc hK
   (refine bJ _ Z (aE (aB ?_)); (iterate 3 refine aA V Z Z ?_); refine aF (aW ?_))
   refine aX V Z U fun w hs => ?_
   exact ⟨(va, vs), ⟨Z, hvl⟩, hs.sp U⟩
end Go.Proofs.YtohlillcaadidaaGreat

/- Walks: copies of lists. -/
namespace Go.Proofs.YtohlillcaadidaaGreat
open Go Go.Eng

theorem dK (w : World) (lo hi : Nat) (v : Value) (l : List Int) (h : RdI w lo hi v l) (hlen : l.length ≤ 1000000) :
  Ca Tryz.prog 37 [v] w fun r w' => ∃ x : Value, r = x ∧ Sat w M0 [.ow x 3 1 l.length (aZ l)] w' := by
 refine dB (Sat.nil w M0) Tryz.func37 Z (by simp [Tryz.ntmps37]) ?_
 (refine aE (aB (aA V Z Z (aF (aE (aB (aA V Z Z ?_)))))))
 refine ql_conv (H' := [.ow (.slice none 0 0) 3 1 0 []]) (fun w' hs => Sat.ownil hs _ _) ?_
 refine eH (q := l.length) (news := aZ l) slI rfl rfl rfl (fun v' => by repeat constructor) (fun w' hs => ⟨lo, hi, RdI.row (RdE.keep h hs.chg0)⟩) (fun c hc => by obtain ⟨y, _, rfl⟩ := List.mem_map.1 hc; rfl) O O (fun x => ?_)
 (refine aA V Z Z (aF (aW ?_)))
 refine aX V Z U fun w hs => ?_
 exact ⟨x, Z, by simpa using hs⟩
theorem RdS.row {w : World} {lo hi : Nat} {v : Value} {l : List (Int × Int)} (h : RdS w lo hi v l) : Rd w lo hi v 2 l.length (spC l) := by
 have := h.rd
 rw [cells_sp, List.length_map] at this
 exact this
theorem jP (w : World) (lo hi : Nat) (v : Value) (l : List (Int × Int)) (h : RdS w lo hi v l) (hlen : l.length ≤ 1000000) :
  Ca Tryz.prog 8 [v] w fun r w' => ∃ x : Value, r = x ∧ Sat w M0 [.ow x 32 2 l.length (spC l)] w' := by
 refine dB (Sat.nil w M0) Tryz.func8 Z (by simp [Tryz.ntmps8]) ?_
 (refine aE (aB (aA V Z Z (aF (aE (aB (aA V Z Z ?_)))))))
 refine ql_conv (H' := [.ow (.slice none 0 0) 32 2 0 []]) (fun w' hs => Sat.ownil hs _ _) ?_
 refine eH (q := l.length) (news := spC l) slSP rfl rfl rfl (fun v' => by repeat constructor) (fun w' hs => ⟨lo, hi, RdS.row (RdE.keep h hs.chg0)⟩) (fun c hc => by obtain ⟨y, _, hy⟩ := List.mem_flatMap.1 hc; simp at hy; rcases hy with rfl | rfl <;> rfl) O O (fun x => ?_)
 (refine aA V Z Z (aF (aW ?_)))
 refine aX V Z U fun w hs => ?_
 exact ⟨x, Z, by simpa using hs⟩
end Go.Proofs.YtohlillcaadidaaGreat

/- Walks: copies of ranges. -/
namespace Go.Proofs.YtohlillcaadidaaGreat
open Go Go.Eng

/-- Rows of our own. -/
def fR (xs : List (Value × List Int)) : List Ck := xs.map fun p => .ow p.1 3 1 p.2.length (aZ p.2)
theorem own_one' {w : World} {t sz m : Nat} {v : Value} {xs : List Value} (h : w.ownsRow 0 t sz v m xs) : dY v = true := by
 obtain ⟨a, n, c, rfl⟩ := own_slice h
 rfl
theorem rowsO_rd {w : World} {v : Value} {xs : List (Value × List Int)} {n : Nat} (hu : (un (fR xs)).p w) (h1 : w.ownsRow 0 22 1 v n (xs.map (·.1))) : RdII w 0 w.heap.size v (xs.map (·.2)) := by
 have hn : n = (xs.map (·.1)).length := by have := h1.1; omega
 have hp : ∀ p ∈ xs, w.ownsRow 0 3 1 p.1 p.2.length (aZ p.2) := fun p hp => hu.1 (.ow p.1 3 1 p.2.length (aZ p.2)) (List.mem_map.2 ⟨p, hp, rfl⟩)
 refine ⟨xs.map (·.1), RdE.one (by rw [← hn]; exact jB h1) (fun e he => by obtain ⟨p, hm, rfl⟩ := List.mem_map.1 he; exact own_one' (hp p hm)), by simp, fun i hi hi' => ?_⟩
 have hi2 : i < xs.length := by simpa using hi
 simp only [List.getElem_map]
 exact own_rdI (hp _ (List.getElem_mem hi2)) Z

set_option maxHeartbeats 1000000 in
theorem cloneAll_ca (w : World) (lo hi : Nat) (v : Value) (ll : List (List Int)) (h : RdII w lo hi v ll) (hlen : ll.length ≤ 1000) (hl : ∀ l ∈ ll, l.length ≤ 1000000) :
  Ca Tryz.prog 9 [v] w fun r w' => ∃ x : Value × List (Value × List Int), (r = x.1 ∧ x.2.map (·.2) = ll) ∧ Sat w M0 [un (fR x.2), .ow x.1 22 1 ll.length (x.2.map (·.1))] w' := by
 obtain ⟨a, cap, rfl, hs0⟩ := h.outI
 refine dB (Sat.nil w M0) Tryz.func9 Z (by simp [Tryz.ntmps9]) ?_
 (refine aE (aB (aA V Z Z (aF (aE (aB (aA V Z Z (aF (aE (aE (aB ?_)))))))))); (iterate 3 refine aA V Z Z ?_); refine aF (aP ?_))
 refine fD (H' := [un (fR []), .ow (.slice none 0 0) 22 1 0 (([] : List (Value × List Int)).map (·.1))]) (fun w' hs => Sat.un_nil (Sat.ownil hs _ _)) ?_
 refine bN (σ := Value × List (Value × List Int)) (fun s => s.2.length ≤ ll.length ∧ s.2.map (·.2) = ll.take s.2.length) (fun s => ll.length - s.2.length) (fun s => [(3, s.1), (6, .slice a ll.length cap), (7, .int .i64 ll.length), (8, .int .i64 s.2.length)])
  (fun s => [un (fR s.2), .ow s.1 22 1 s.2.length (s.2.map (·.1))]) (.slice none 0 0, []) ⟨by simp, by simp⟩ ⟨rfl, rfl, rfl, rfl, trivial⟩ (Sp.refl _) ?_
 rintro ⟨va, xs⟩ ⟨hk, hxs⟩ K hK
 simp only at hk hxs
 dsimp only
 (refine aE (aB (aA V Z Z (aF (aE ?_)))))
 refine dD Z (fun hc => ?_) (fun hc => ?_)
 ·have hk2 : xs.length < ll.length := by omega
  clear hc
  obtain ⟨b, off, rfl⟩ := hs0 O
  obtain ⟨ar, cr, hr1, hr2⟩ := h.row xs.length hk2
  (refine aR (aE (aP (aE (aB ?_)))))
  refine bW V Z Z Z Z Z O O ?_
  refine cI V Z Z Z (fun w hs => hr2 w hs.chg0) ?_
  (refine aA V Z Z (aF (aB (aA V Z Z (aA V Z Z ?_)))))
  refine bO (β := Value) (ψ := fun x v => v = x) (L' := fun x => [.ow x 3 1 ll[xs.length].length (aZ ll[xs.length])]) V [] _ M0 Z Z Z Z (Sp.refl _) qS (fun w' hs => dK w' lo hi _ ll[xs.length] (RdE.keep hr1 hs.chg0) (hl _ (List.getElem_mem hk2))) ?_
  rintro _ y rfl
  refine mB (fun w hs => hs.slice2 (v := y) U) ?_
  rintro ⟨ay, cy, rfl⟩
  refine dP 22 [.slice ay ll[xs.length].length cy] Z qR Z (fun bn => ?_)
  refine eH (q := 1) slII Z Z Z (fun v' => by repeat constructor) (fun w' hs => ⟨_, _, Blk.rd (hs.blk (b := bn) U) Z 1⟩) (by simp [dY]) O O (fun va' => ?_)
  (refine aA V Z Z (aF (bL (aB (bB V Z Z Z Z O O (aA V Z Z (aF ?_)))))))
  refine fD (H' := [un (fR (xs ++ [(Value.slice ay ll[xs.length].length cy, ll[xs.length])])), .ow va' 22 1 (xs ++ [(Value.slice ay ll[xs.length].length cy, ll[xs.length])]).length ((xs ++ [(Value.slice ay ll[xs.length].length cy, ll[xs.length])]).map (·.1))]) (fun w' hs => by
   have h1 : Sat w M0 [.ow (.slice ay ll[xs.length].length cy) 3 1 ll[xs.length].length (aZ ll[xs.length]), un (fR xs), .ow va' 22 1 (xs.length + 1) (xs.map (·.1) ++ [.slice ay ll[xs.length].length cy])] w' := hs.sp U
   have h2 := h1.un_in.un_perm (L' := fR (xs ++ [(Value.slice ay ll[xs.length].length cy, ll[xs.length])])) (by unfold fR; rw [List.map_append]; exact (List.perm_append_comm (l₁ := [_])))
   simpa using h2) ?_
  have e1 : ll.take (xs.length + 1) = ll.take xs.length ++ [ll[xs.length]] := List.take_succ_eq_append_getElem hk2
  have hlen1 : (xs ++ [(Value.slice ay ll[xs.length].length cy, ll[xs.length])]).length = xs.length + 1 := by simp
  refine hK (va', xs ++ [(Value.slice ay ll[xs.length].length cy, ll[xs.length])]) _ _ ⟨by simp only [hlen1]; omega, by simp only [hlen1, e1, List.map_append, hxs]; rfl⟩ (by simp only [hlen1]; omega) ⟨Z, Z, Z, fE Z (by simp only [hlen1]; omega), trivial⟩ (Sp.refl _)
 ·have hkl : xs.length = ll.length := by omega
  (refine bJ _ Z (aE (aB (aA V Z Z (aA V Z Z (aF (aW ?_)))))))
  refine aX V Z U fun w hs => ?_
  refine ⟨(va, xs), ⟨Z, by simp only; rw [hxs, hkl, List.take_length]⟩, ?_⟩
  have := hs
  rw [hkl] at this
  exact this

/-- The parts of a copy. -/
def cpK (r : Rg) (vg vd vf vn : Value) (xs : List (Value × List Int)) : List Ck :=
 [.ow vg 3 1 r.group.length (aZ r.group), .ow vd 3 1 r.drifts.length (aZ r.drifts), .ow vf 3 1 r.first.length (aZ r.first), .ow vn 22 1 r.next.length (xs.map (·.1)), un (fR xs)]
theorem cp_rg {w : World} {r : Rg} {vg vd vf vn : Value} {xs : List (Value × List Int)} (hx : xs.map (·.2) = r.next) (h : ∀ c ∈ cpK r vg vd vf vn xs, c.p w) : RgC w [.int .i64 r.radius, .int .i64 r.unit, .int .i64 r.clicks, .int .i64 r.total, vg, vd, vf, vn] r := by
 have h1 : w.ownsRow 0 3 1 vg r.group.length (aZ r.group) := h _ (.head _)
 have h2 : w.ownsRow 0 3 1 vd r.drifts.length (aZ r.drifts) := h _ (.tail _ (.head _))
 have h3 : w.ownsRow 0 3 1 vf r.first.length (aZ r.first) := h _ (.tail _ (.tail _ (.head _)))
 have h4 : w.ownsRow 0 22 1 vn r.next.length (xs.map (·.1)) := h _ (.tail _ (.tail _ (.tail _ (.head _))))
 have h5 : (un (fR xs)).p w := h _ (.tail _ (.tail _ (.tail _ (.tail _ (.head _)))))
 have k1 := own_rdI h1 rfl
 have k2 := own_rdI h2 rfl
 have k3 := own_rdI h3 rfl
 have k4 := rowsO_rd h5 h4
 rw [hx] at k4
 obtain ⟨a1, c1, rfl, _⟩ := RdI.outI k1
 obtain ⟨a2, c2, rfl, _⟩ := RdI.outI k2
 obtain ⟨a3, c3, rfl, _⟩ := RdI.outI k3
 obtain ⟨a4, c4, rfl, _⟩ := RdII.outI k4
 exact ⟨0, w.heap.size, a1, c1, a2, c2, a3, c3, a4, c4, Z, k1, k2, k3, k4⟩
set_option maxRecDepth 20000 in
set_option maxHeartbeats 2000000 in
theorem cloneR_ca0 (w : World) (cs : List Value) (r : Rg) (h : RgC w cs r) (hsm : r.Small) :
  Ca Tryz.prog 7 [.agg cs.toArray] w fun v w' => ∃ x : Value × Value × Value × Value × List (Value × List Int), (v = .agg #[.int .i64 r.radius, .int .i64 r.unit, .int .i64 r.clicks, .int .i64 r.total, x.1, x.2.1, x.2.2.1, x.2.2.2.1] ∧ x.2.2.2.2.map (·.2) = r.next) ∧ Sat w M0 (cpK r x.1 x.2.1 x.2.2.1 x.2.2.2.1 x.2.2.2.2) w' := by
 have h0 := h
 have s1 := hsm.group
 have s2 := hsm.drifts
 have s3 := hsm.first
 have s4 := hsm.next
 have s5 := hsm.rows
 obtain ⟨lo, hi, ag, cg, ad, cd, af, cf, an, cn, rfl, hg, hdr, hf, hn⟩ := h
 refine dB (Sat.nil w M0) Tryz.func7 Z (by simp [Tryz.ntmps7]) ?_
 (refine aE (aB ?_))
 refine bG Z Z (fun b1 => ?_)
 refine aV cU Z (fun b2 => ?_)
 (refine aF (aE ?_))
 refine q_drawS2 12 _ [] [.pt b2 [.int .i64 0, .int .i64 0, .int .i64 0, .int .i64 0, .slice none 0 0, .slice none 0 0, .slice none 0 0, .slice none 0 0] 25] [.pt b1 [.int .i64 r.radius, .int .i64 r.unit, .int .i64 r.clicks, .int .i64 r.total, .slice ag r.group.length cg, .slice ad r.drifts.length cd, .slice af r.first.length cf, .slice an r.next.length cn] 25] (Sp.refl _) (Sp.cons U U) qR qR qR fun K1 hK1 => ?_
 (refine aD V Z Z Z ?_; refine aT V Z Z Z ?_)
 refine bD (β := Value) V [] _ M0 Z Z Z Z (Sp.refl _) qS (fun w' hs => dK w' lo hi _ r.group (RdE.keep hg hs.chg0) O) ?_
 rintro _ vg rfl
 (refine aD V Z Z Z ?_; refine aT V Z Z Z ?_)
 refine bD (β := Value) V [] _ M0 Z Z Z Z (Sp.refl _) qS (fun w' hs => dK w' lo hi _ r.drifts (RdE.keep hdr hs.chg0) O) ?_
 rintro _ vd rfl
 (refine aD V Z Z Z ?_; refine aT V Z Z Z ?_)
 refine bD (β := Value) V [] _ M0 Z Z Z Z (Sp.refl _) qS (fun w' hs => dK w' lo hi _ r.first (RdE.keep hf hs.chg0) O) ?_
 rintro _ vf rfl
 (refine aD V Z Z Z ?_; refine aT V Z Z Z ?_)
 refine bD (β := Value × List (Value × List Int)) (ψ := fun x v => v = x.1 ∧ x.2.map (·.2) = r.next) V [] _ M0 Z Z Z Z (Sp.refl _) qS (fun w' hs => cloneAll_ca w' lo hi _ r.next (hn.keep hs.chg0) O (fun l hl => by have := s5 l hl; omega)) ?_
 rintro ⟨_, xs⟩ vn ⟨rfl, hxs⟩
 dsimp only at hxs ⊢
 (refine aK ?_)
 refine hK1 _ _ [.pt b1 [.int .i64 r.radius, .int .i64 r.unit, .int .i64 r.clicks, .int .i64 r.total, .slice ag r.group.length cg, .slice ad r.drifts.length cd, .slice af r.first.length cf, .slice an r.next.length cn] 25, .ow vg 3 1 r.group.length (aZ r.group), .ow vd 3 1 r.drifts.length (aZ r.drifts), .ow vf 3 1 r.first.length (aZ r.first), .ow vn 22 1 r.next.length (xs.map (·.1)), un (fR xs)] (Sp.cons U (Sp.cons U (Sp.cons U (Sp.cons U (Sp.cons U (Sp.cons U U)))))) ?_
 refine kG (fun w hs => hs.slice (v := vg) U) ?_
 rintro ⟨a1, m1, c1, rfl⟩
 refine kG (fun w hs => hs.slice (v := vd) U) ?_
 rintro ⟨a2, m2, c2, rfl⟩
 refine kG (fun w hs => hs.slice (v := vf) U) ?_
 rintro ⟨a3, m3, c3, rfl⟩
 refine kG (fun w hs => hs.slice (v := vn) U) ?_
 rintro ⟨a4, m4, c4, rfl⟩
 (refine aD V Z Z Z ?_; refine qf_st4 V Z Z Z Z U ?_; refine aD V Z Z Z ?_; refine qf_st5 V Z Z Z Z U ?_; refine aD V Z Z Z ?_; refine qf_st6 V Z Z Z Z U ?_; refine aD V Z Z Z ?_; refine qf_st7 V Z Z Z Z U ?_; refine aK (aE (aB ?_)); refine aI V Z Z Z ?_; refine aY V Z Z Z Z Z U Z ?_; refine aF (aW ?_))
 refine aX V Z U fun w hs => ?_
 exact ⟨(_, _, _, _, xs), ⟨Z, hxs⟩, hs.sp U⟩
end Go.Proofs.YtohlillcaadidaaGreat

/- Walks: lists of spans that are changed; a copy of a range as one piece. -/
namespace Go.Proofs.YtohlillcaadidaaGreat
open Go Go.Eng

/-- A copy of a range: where its lists lie. -/
structure Cp (r : Rg) where
 a1 : Option Addr
 c1 : Nat
 a2 : Option Addr
 c2 : Nat
 a3 : Option Addr
 c3 : Nat
 a4 : Option Addr
 c4 : Nat
 xs : List (Value × List Int)
 hx : xs.map (·.2) = r.next
def Cp.K {r : Rg} (x : Cp r) : List Ck := cpK r (.slice x.a1 r.group.length x.c1) (.slice x.a2 r.drifts.length x.c2) (.slice x.a3 r.first.length x.c3) (.slice x.a4 r.next.length x.c4) x.xs
theorem cB (w : World) (cs : List Value) (r : Rg) (h : RgC w cs r) (hsm : r.Small) :
  Ca Tryz.prog 7 [.agg cs.toArray] w fun v w' => ∃ x : Cp r, v = .agg #[.int .i64 r.radius, .int .i64 r.unit, .int .i64 r.clicks, .int .i64 r.total, .slice x.a1 r.group.length x.c1, .slice x.a2 r.drifts.length x.c2, .slice x.a3 r.first.length x.c3, .slice x.a4 r.next.length x.c4] ∧ Sat w M0 [un x.K] w' :=
 (cloneR_ca0 w cs r h hsm).mono fun v w' ⟨(vg, vd, vf, vn, xs), ⟨hv, hx⟩, hs⟩ => by
  dsimp only at hv hx hs
  obtain ⟨a1, c1, rfl⟩ := hs.slice2 (v := vg) (e := 3) (sz := 1) (n := r.group.length) (.head _)
  obtain ⟨a2, c2, rfl⟩ := hs.slice2 (v := vd) (e := 3) (sz := 1) (n := r.drifts.length) (.tail _ (.head _))
  obtain ⟨a3, c3, rfl⟩ := hs.slice2 (v := vf) (e := 3) (sz := 1) (n := r.first.length) (.tail _ (.tail _ (.head _)))
  obtain ⟨a4, c4, rfl⟩ := hs.slice2 (v := vn) (e := 22) (sz := 1) (n := r.next.length) (.tail _ (.tail _ (.tail _ (.head _))))
  exact ⟨⟨a1, c1, a2, c2, a3, c3, a4, c4, xs, hx⟩, hv, Sat.un1.2 hs⟩
/-- Other numbers, the same lists. -/
theorem Cp.at2 {r : Rg} (x : Cp r) (r' : Rg) (hg : r'.group = r.group) (hd : r'.drifts = r.drifts) (hf : r'.first = r.first) (hn : r'.next = r.next) {w0 w : World} {M : Nat → Prop} {H : List Ck} (hs : Sat w0 M H w) (hm : un x.K ∈ H) :
  RgC w [.int .i64 r'.radius, .int .i64 r'.unit, .int .i64 r'.clicks, .int .i64 r'.total, .slice x.a1 r.group.length x.c1, .slice x.a2 r.drifts.length x.c2, .slice x.a3 r.first.length x.c3, .slice x.a4 r.next.length x.c4] r' := by
 refine cp_rg (xs := x.xs) (by rw [hn]; exact x.hx) (fun c hc => (hs.mem hm).1 c ?_)
 unfold Cp.K
 unfold cpK at hc ⊢
 rw [hg, hd, hf, hn] at hc
 exact hc

/-! Spans that are changed in place. -/
end Go.Proofs.YtohlillcaadidaaGreat

/- Walks: lists compared that are equal; ranges that are too long. -/
namespace Go.Proofs.YtohlillcaadidaaGreat
open Go Go.Eng

set_option maxHeartbeats 1000000 in
theorem nN (w : World) (lo hi lo2 hi2 : Nat) (v u : Value) (l : List Int) (h1 : RdI w lo hi v l) (h2 : RdI w lo2 hi2 u l) (hlen : l.length ≤ 1000000) :
  Ca Tryz.prog 55 [v, u] w fun r w' => r = .bool true ∧ Chg [] w w' := by
 obtain ⟨a, ca, rfl, hsa⟩ := RdI.outI h1
 obtain ⟨b, cb, rfl, hsb⟩ := RdI.outI h2
 refine dB (Sat.nil w M0) Tryz.func55 Z (by simp [Tryz.ntmps55]) ?_
 (refine aE (aB (aA V Z Z (aF (aE (aE (aB ?_)))))); (iterate 4 refine aA V Z Z ?_); refine dM V Z Z Z O (aF (aL Z (aR (aE (aE (aB ?_)))))); (iterate 3 refine aA V Z Z ?_); refine aF (aP ?_))
 refine bN (σ := Nat) (fun s => s ≤ l.length) (fun s => l.length - s) (fun s => [(0, .slice a l.length ca), (1, .slice b l.length cb), (12, .int .i64 l.length), (13, .int .i64 s)]) (fun _ => []) 0 O ⟨Z, Z, Z, Z, trivial⟩ U ?_
 intro i hi K hK
 (refine aE (aB (aA V Z Z (aF (aE ?_)))))
 refine dD Z (fun hc => ?_) (fun hc => ?_)
 ·have hi2 : i < l.length := by omega
  clear hc
  obtain ⟨ba, oa, rfl⟩ := hsa O
  obtain ⟨bb, ob, rfl⟩ := hsb O
  (refine aR (aE (aP (aE (aB (aA V Z Z (aA V Z Z (aF (aE ?_)))))))))
  refine bX _ [] (Sp.refl _) qR qR ?_
  (refine aD V Z Z Z (aD V Z Z Z ?_))
  (refine bF V Z Z Z Z Z O O ?_; refine bI V Z Z Z (fun w hs => RdI.at (RdE.keep h1 hs.chg0) i hi2) ?_)
  (refine aD V Z Z Z (aD V Z Z Z ?_))
  (refine bF V Z Z Z Z Z O O ?_; refine bI V Z Z Z (fun w hs => RdI.at (RdE.keep h2 hs.chg0) i hi2) ?_)
  (refine qf_neqF V Z Z Z O (aK (aL Z (aR (bL (aB (bB V Z Z Z Z O O (aA V Z Z (aF ?_)))))))))
  exact hK (i + 1) _ _ O O ⟨Z, Z, Z, Z, trivial⟩ U
 ·(refine bJ _ Z (aE (aB (aA V Z Z (aF (aW ?_))))))
  refine aX V Z U fun w hs => ?_
  exact ⟨Z, hs.chg0⟩

set_option maxHeartbeats 1000000 in
theorem eqII_ca (w : World) (lo hi lo2 hi2 : Nat) (v u : Value) (ll : List (List Int)) (h1 : RdII w lo hi v ll) (h2 : RdII w lo2 hi2 u ll) (hlen : ll.length ≤ 1000000) (hrow : ∀ l ∈ ll, l.length ≤ 1000000) :
  Ca Tryz.prog 20 [v, u] w fun r w' => r = .bool true ∧ Chg [] w w' := by
 obtain ⟨a, ca, rfl, hsa⟩ := RdII.outI h1
 obtain ⟨b, cb, rfl, hsb⟩ := RdII.outI h2
 refine dB (Sat.nil w M0) Tryz.func20 Z (by simp [Tryz.ntmps20]) ?_
 (refine aE (aB (aA V Z Z (aF (aE (aE (aB ?_)))))); (iterate 4 refine aA V Z Z ?_); refine dM V Z Z Z O (aF (aL Z (aR (aE (aE (aB ?_)))))); (iterate 3 refine aA V Z Z ?_); refine aF (aP ?_))
 refine bN (σ := Nat) (fun s => s ≤ ll.length) (fun s => ll.length - s) (fun s => [(0, .slice a ll.length ca), (1, .slice b ll.length cb), (12, .int .i64 ll.length), (13, .int .i64 s)]) (fun _ => []) 0 O ⟨Z, Z, Z, Z, trivial⟩ U ?_
 intro i hi K hK
 (refine aE (aB (aA V Z Z (aF (aE ?_)))))
 refine dD Z (fun hc => ?_) (fun hc => ?_)
 ·have hi2 : i < ll.length := by omega
  clear hc
  obtain ⟨ba, oa, rfl⟩ := hsa O
  obtain ⟨bb, ob, rfl⟩ := hsb O
  obtain ⟨ar, cr, hr1, hc1⟩ := h1.row i hi2
  obtain ⟨br, dr, hr2, hc2⟩ := h2.row i hi2
  have hrl := hrow _ (List.getElem_mem hi2)
  (refine aR (aE (aP (aE (aB (aA V Z Z (aA V Z Z (aF (aE ?_)))))))))
  refine bX _ [] (Sp.refl _) qR qR ?_
  (refine aD V Z Z Z (aD V Z Z Z ?_))
  refine bF V Z Z Z Z Z O O ?_
  refine bI (v := .slice ar ll[i].length cr) V Z Z Z (fun w' hs => hc1 w' hs.chg0) ?_
  (refine aD V Z Z Z (aD V Z Z Z ?_))
  refine bF V Z Z Z Z Z O O ?_
  refine bI (v := .slice br ll[i].length dr) V Z Z Z (fun w' hs => hc2 w' hs.chg0) ?_
  refine aS (val := .bool true) V Z Z Z Z (fun w hs => ?_) ?_; exact nN w _ _ _ _ _ _ ll[i] (RdE.keep hr1 hs.chg0) (RdE.keep hr2 hs.chg0) hrl
  (refine aD V Z Z Z (aK (aL Z (aR (bL (aB (bB V Z Z Z Z O O (aA V Z Z (aF ?_)))))))))
  exact hK (i + 1) _ _ O O ⟨Z, Z, Z, Z, trivial⟩ U
 ·(refine bJ _ Z (aE (aB (aA V Z Z (aF (aW ?_))))))
  refine aX V Z U fun w hs => ?_
  exact ⟨Z, hs.chg0⟩

set_option maxHeartbeats 1000000 in
theorem eqR_ca (w : World) (lo hi lo2 hi2 : Nat) (v u : Value) (l : List (Int × Int)) (h1 : RdS w lo hi v l) (h2 : RdS w lo2 hi2 u l) (hlen : l.length ≤ 1000000) :
  Ca Tryz.prog 114 [v, u] w fun r w' => r = .bool true ∧ Chg [] w w' := by
 obtain ⟨a, ca, rfl, hsa⟩ := RdS.outI h1
 obtain ⟨b, cb, rfl, hsb⟩ := RdS.outI h2
 refine dB (Sat.nil w M0) Tryz.func114 Z (by simp [Tryz.ntmps114]) ?_
 (refine aE (aB (aA V Z Z (aF (aE (aE (aB ?_)))))); (iterate 4 refine aA V Z Z ?_); refine dM V Z Z Z O (aF (aL Z (aR (aE (aE (aB ?_)))))); (iterate 3 refine aA V Z Z ?_); refine aF (aP ?_))
 refine bN (σ := Nat) (fun s => s ≤ l.length) (fun s => l.length - s) (fun s => [(0, .slice a l.length ca), (1, .slice b l.length cb), (12, .int .i64 l.length), (13, .int .i64 s)]) (fun _ => []) 0 O ⟨Z, Z, Z, Z, trivial⟩ U ?_
 intro i hi K hK
 (refine aE (aB (aA V Z Z (aF (aE ?_)))))
 refine dD Z (fun hc => ?_) (fun hc => ?_)
 ·have hi2 : i < l.length := by omega
  clear hc
  obtain ⟨ba, oa, rfl⟩ := hsa O
  obtain ⟨bb, ob, rfl⟩ := hsb O
  (refine aR (aE (aP (aE (aB (aA V Z Z (aA V Z Z (aF (aE ?_)))))))))
  refine bX _ [] (Sp.refl _) qR qR ?_
  (refine aD V Z Z Z (aD V Z Z Z ?_))
  (refine bF V Z Z Z Z Z O O ?_; refine gY V Z Z Z Z (fun w hs => RdS.at (RdE.keep h1 hs.chg0) i hi2) ?_)
  (refine aD V Z Z Z (aD V Z Z Z ?_))
  (refine bF V Z Z Z Z Z O O ?_; refine gY V Z Z Z Z (fun w hs => RdS.at (RdE.keep h2 hs.chg0) i hi2) ?_)
  refine qf_neF [some .i64, some .i64] eZ Z Z Z Z Z ?_
  rw [eO]
  (refine aK (aL Z (aR (bL (aB (bB V Z Z Z Z O O (aA V Z Z (aF ?_))))))))
  exact hK (i + 1) _ _ O O ⟨Z, Z, Z, Z, trivial⟩ U
 ·(refine bJ _ Z (aE (aB (aA V Z Z (aF (aW ?_))))))
  refine aX V Z U fun w hs => ?_
  exact ⟨Z, hs.chg0⟩

/-- Lists of fractions that can be read. -/
def RdSS (w : World) (lo hi : Nat) (v : Value) (ll : List (List (Int × Int))) : Prop :=
 ∃ vs, RdE w lo hi v 1 vs ∧ vs.length = ll.length ∧ ∀ i (h : i < vs.length) (h' : i < ll.length), RdS w lo hi vs[i] ll[i]
theorem RdSS.outI {w : World} {lo hi : Nat} {v : Value} {ll : List (List (Int × Int))} (h : RdSS w lo hi v ll) : ∃ a cap, v = .slice a ll.length cap ∧ (0 < ll.length → ∃ b off, a = some ⟨b, off, none⟩) := by
 obtain ⟨vs, h1, h2, _⟩ := h
 rw [← h2]
 exact h1.out
theorem RdSS.row {w : World} {lo hi : Nat} {b off len cap : Nat} {ll : List (List (Int × Int))} (h : RdSS w lo hi (.slice (some ⟨b, off, none⟩) len cap) ll) (i : Nat) (hi' : i < ll.length) :
  ∃ a c, RdS w lo hi (.slice a ll[i].length c) ll[i] ∧ ∀ w', Chg [] w w' → w'.cell? ⟨b, off + i * 1, none⟩ = some (.slice a ll[i].length c) := by
 obtain ⟨vs, h1, h2, h3⟩ := h
 have h4 := h3 i O hi'
 obtain ⟨a, c, hv, _⟩ := RdS.outI h4
 refine ⟨a, c, hv ▸ h4, fun w' hw => ?_⟩
 rw [← hv]
 exact (h1.keep hw).cell1 i O (by rw [hv]; rfl)
theorem RdSS.keep {w w' : World} {lo hi : Nat} {v : Value} {ll : List (List (Int × Int))} (h : RdSS w lo hi v ll) (c : Chg [] w w') : RdSS w' lo hi v ll := by
 obtain ⟨vs, h1, h2, h3⟩ := h
 exact ⟨vs, h1.keep c, h2, fun i h h' => RdE.keep (h3 i h h') c⟩

set_option maxHeartbeats 1000000 in
theorem eqRR_ca (w : World) (lo hi lo2 hi2 : Nat) (v u : Value) (ll : List (List (Int × Int))) (h1 : RdSS w lo hi v ll) (h2 : RdSS w lo2 hi2 u ll) (hlen : ll.length ≤ 1000000) (hrow : ∀ l ∈ ll, l.length ≤ 1000000) :
  Ca Tryz.prog 63 [v, u] w fun r w' => r = .bool true ∧ Chg [] w w' := by
 obtain ⟨a, ca, rfl, hsa⟩ := RdSS.outI h1
 obtain ⟨b, cb, rfl, hsb⟩ := RdSS.outI h2
 refine dB (Sat.nil w M0) Tryz.func63 Z (by simp [Tryz.ntmps63]) ?_
 (refine aE (aB (aA V Z Z (aF (aE (aE (aB ?_)))))); (iterate 4 refine aA V Z Z ?_); refine dM V Z Z Z O (aF (aL Z (aR (aE (aE (aB ?_)))))); (iterate 3 refine aA V Z Z ?_); refine aF (aP ?_))
 refine bN (σ := Nat) (fun s => s ≤ ll.length) (fun s => ll.length - s) (fun s => [(0, .slice a ll.length ca), (1, .slice b ll.length cb), (12, .int .i64 ll.length), (13, .int .i64 s)]) (fun _ => []) 0 O ⟨Z, Z, Z, Z, trivial⟩ U ?_
 intro i hi K hK
 (refine aE (aB (aA V Z Z (aF (aE ?_)))))
 refine dD Z (fun hc => ?_) (fun hc => ?_)
 ·have hi2 : i < ll.length := by omega
  clear hc
  obtain ⟨ba, oa, rfl⟩ := hsa O
  obtain ⟨bb, ob, rfl⟩ := hsb O
  obtain ⟨ar, cr, hr1, hc1⟩ := h1.row i hi2
  obtain ⟨br, dr, hr2, hc2⟩ := h2.row i hi2
  have hrl := hrow _ (List.getElem_mem hi2)
  (refine aR (aE (aP (aE (aB (aA V Z Z (aA V Z Z (aF (aE ?_)))))))))
  refine bX _ [] (Sp.refl _) qR qR ?_
  (refine aD V Z Z Z (aD V Z Z Z ?_))
  refine bF V Z Z Z Z Z O O ?_
  refine bI (v := .slice ar ll[i].length cr) V Z Z Z (fun w' hs => hc1 w' hs.chg0) ?_
  (refine aD V Z Z Z (aD V Z Z Z ?_))
  refine bF V Z Z Z Z Z O O ?_
  refine bI (v := .slice br ll[i].length dr) V Z Z Z (fun w' hs => hc2 w' hs.chg0) ?_
  refine aS (val := .bool true) V Z Z Z Z (fun w hs => ?_) ?_; exact eqR_ca w _ _ _ _ _ _ ll[i] (RdE.keep hr1 hs.chg0) (RdE.keep hr2 hs.chg0) hrl
  (refine aD V Z Z Z (aK (aL Z (aR (bL (aB (bB V Z Z Z Z O O (aA V Z Z (aF ?_)))))))))
  exact hK (i + 1) _ _ O O ⟨Z, Z, Z, Z, trivial⟩ U
 ·(refine bJ _ Z (aE (aB (aA V Z Z (aF (aW ?_))))))
  refine aX V Z U fun w hs => ?_
  exact ⟨Z, hs.chg0⟩

/-- A range is longer than what is looked at. -/
theorem long_ca (w : World) (cs : List Value) (r : Rg) (h : RgC w cs r) (hl : r.next.length ≤ maxLen) :
  Ca Tryz.prog 5 [.agg cs.toArray] w fun v w' => ∃ b : Bool, (v = .bool b ∧ (b = false → r.Small)) ∧ Sat w M0 [] w' := by
 obtain ⟨lo, hi, ag, cg, ad, cd, af, cf, an, cn, rfl, hg, hdr, hf, hn⟩ := h
 obtain ⟨_, _, hsl, hsn⟩ := RdII.outI hn
 cases hsl
 simp only [maxLen] at hl
 refine dB (Sat.nil w M0) Tryz.func5 Z (by simp [Tryz.ntmps5]) ?_
 (refine aE (aB ?_))
 refine bG Z Z (fun b1 => ?_)
 (refine aA V Z Z (aF (aE (aE (aB (aA V Z Z ?_))))); refine aH V Z Z Z ?_; refine aA V Z Z (aA V Z Z (aF (aP ?_))))
 refine bN (σ := Nat) (fun k => k ≤ r.next.length ∧ ∀ l ∈ r.next.take k, l.length ≤ 7) (fun k => r.next.length - k) (fun k => [(1, .pointer (some ⟨b1, 0, none⟩)), (6, .slice an r.next.length cn), (7, .int .i64 r.next.length), (8, .int .i64 k)])
  (fun _ => [.pt b1 [.int .i64 r.radius, .int .i64 r.unit, .int .i64 r.clicks, .int .i64 r.total, .slice ag r.group.length cg, .slice ad r.drifts.length cd, .slice af r.first.length cf, .slice an r.next.length cn] 25]) 0 ⟨by omega, by simp⟩ ⟨rfl, rfl, rfl, rfl, trivial⟩ U ?_
 rintro k ⟨hk, hall⟩ K hK
 (refine aE (aB (aA V Z Z (aF (aE ?_)))))
 refine dD Z (fun hc => ?_) (fun hc => ?_)
 ·have hk2 : k < r.next.length := by omega
  clear hc
  obtain ⟨bs, off, rfl⟩ := hsn O
  obtain ⟨ar, cr, hrow, hcell⟩ := hn.row k hk2
  (refine aR (aE (aP (aE (aB ?_)))))
  refine bW V Z Z Z Z Z O O ?_
  refine cI (v := .slice ar r.next[k].length cr) V Z Z Z (fun w' hs => hcell w' hs.chg0) ?_
  (refine aA V Z Z (aF (aE (aB ?_))); (iterate 3 refine aA V Z Z ?_); refine aF ?_)
  refine dD Z (fun hc => ?_) (fun hc => ?_)
  ·(refine aE (aB (aA V Z Z (aF (aW ?_)))))
   refine aX V Z U fun w hs => ?_
   exact ⟨true, ⟨rfl, fun h => by cases h⟩, hs.keep (Chg.refl _ _) |>.sp .nil⟩
  ·(refine aR (bL (aB (bB V Z Z Z Z O O (aA V Z Z (aF ?_))))))
   exact hK (k + 1) _ _ ⟨by omega, fun l hm => by
    rw [List.take_succ_eq_append_getElem hk2] at hm
    rcases List.mem_append.1 hm with hm | hm
    ·exact hall l hm
    ·simp at hm
     subst hm
     omega⟩ O ⟨rfl, rfl, rfl, rfl, trivial⟩ U
 obtain rfl : k = r.next.length := by omega
 clear hc hK
 rw [List.take_length] at hall
 (refine bJ _ Z (aE (aB (aA V Z Z ?_))); refine aH V Z Z Z ?_; (iterate 3 refine aA V Z Z ?_))
 refine bU Z Z (fun hc => ?_) (fun hc => ?_)
 ·((iterate 4 refine bA Z Z Z ?_); refine aA V Z Z (aA V Z Z ?_); (iterate 4 refine bA Z Z Z ?_); refine aA V Z Z (aA V Z Z ?_); (iterate 4 refine bA Z Z Z ?_); refine aA V Z Z (aA V Z Z (aF (aW ?_))))
  refine aX V Z U fun w hs => ?_
  exact ⟨true, ⟨rfl, fun h => by cases h⟩, hs.sp .nil⟩
 have c1 := of_decide_eq_false hc
 clear hc
 (refine aC Z (aA V Z Z (aC Z ?_)); refine aH V Z Z Z ?_; refine aC Z (aA V Z Z (aC Z ?_)); (iterate 3 refine aA V Z Z ?_))
 refine bU Z Z (fun hc => ?_) (fun hc => ?_)
 ·((iterate 4 refine bA Z Z Z ?_); refine aA V Z Z (aA V Z Z ?_); (iterate 4 refine bA Z Z Z ?_); refine aA V Z Z (aA V Z Z (aF (aW ?_))))
  refine aX V Z U fun w hs => ?_
  exact ⟨true, ⟨rfl, fun h => by cases h⟩, hs.sp .nil⟩
 have c2 := of_decide_eq_false hc
 clear hc
 (refine aC Z (aA V Z Z (aC Z ?_)); refine aH V Z Z Z ?_; refine aC Z (aA V Z Z (aC Z ?_)); (iterate 3 refine aA V Z Z ?_))
 refine bU Z Z (fun hc => ?_) (fun hc => ?_)
 ·((iterate 4 refine bA Z Z Z ?_); refine aA V Z Z (aA V Z Z (aF (aW ?_))))
  refine aX V Z U fun w hs => ?_
  exact ⟨true, ⟨rfl, fun h => by cases h⟩, hs.sp .nil⟩
 have c3 := of_decide_eq_false hc
 clear hc
 (refine aC Z (aA V Z Z (aC Z ?_)); refine aH V Z Z Z ?_; refine aC Z (aA V Z Z (aC Z ?_)); (iterate 3 refine aA V Z Z ?_); refine aF (aW ?_))
 refine aX V Z U fun w hs => ?_
 refine ⟨_, ⟨Z, fun h => ?_⟩, hs.sp .nil⟩
 have c4 := of_decide_eq_false h
 exact ⟨by omega, by omega, by omega, by omega, hall⟩

theorem same_ca (w : World) (cs cs2 : List Value) (r : Rg) (h : RgC w cs r) (h2 : RgC w cs2 r) (hsm : r.Small) :
  Ca Tryz.prog 18 [.agg cs.toArray, .agg cs2.toArray] w fun v w' => v = .bool true ∧ Chg [] w w' := by
 have s1 := hsm.group
 have s2 := hsm.drifts
 have s3 := hsm.first
 have s4 := hsm.next
 have s5 := hsm.rows
 obtain ⟨lo, hi, ag, cg, ad, cd, af, cf, an, cn, rfl, hg, hdr, hf, hn⟩ := h
 obtain ⟨lo2, hi2, ag2, cg2, ad2, cd2, af2, cf2, an2, cn2, rfl, hg2, hdr2, hf2, hn2⟩ := h2
 refine dB (Sat.nil w M0) Tryz.func18 Z (by simp [Tryz.ntmps18]) ?_
 (refine aE (aB ?_))
 refine bG Z Z (fun b2 => ?_)
 refine bG Z Z (fun b3 => ?_)
 (refine aA V Z Z (aF (aE (aB (aA V Z Z ?_)))); refine aH V Z Z Z ?_; refine aA V Z Z ?_; refine aH V Z Z Z ?_; refine dG V Z Z Z O (aA V Z Z (aC Z (aA V Z Z (aC Z ?_)))); refine aH V Z Z Z ?_; refine aC Z (aA V Z Z (aC Z ?_)); refine aH V Z Z Z ?_; refine aC Z (dG V Z Z Z O (aA V Z Z (aA V Z Z (aC Z (aA V Z Z (aC Z ?_)))))); refine aH V Z Z Z ?_; refine aC Z (aA V Z Z (aC Z ?_)); refine aH V Z Z Z ?_; refine aC Z (dG V Z Z Z O (aA V Z Z (aA V Z Z (aC Z (aA V Z Z (aC Z ?_)))))); refine aH V Z Z Z ?_; refine aC Z (aA V Z Z (aC Z ?_)); refine aH V Z Z Z ?_; refine aC Z (dG V Z Z Z O (aA V Z Z (aA V Z Z (aC Z (aA V Z Z (aC Z ?_)))))); refine aH V Z Z Z ?_; refine aC Z (aA V Z Z (aC Z ?_)); refine aH V Z Z Z ?_; refine aC Z ?_)
 refine aJ (val := .bool true) V Z Z Z Z (fun w hs => ?_) ?_; exact nN w _ _ _ _ _ _ r.group (RdE.keep hg hs.chg0) (RdE.keep hg2 hs.chg0) O
 (refine aA V Z Z (aA V Z Z (aC Z (aA V Z Z (aC Z ?_)))); refine aH V Z Z Z ?_; refine aC Z (aA V Z Z (aC Z ?_)); refine aH V Z Z Z ?_; refine aC Z ?_)
 refine aJ (val := .bool true) V Z Z Z Z (fun w hs => ?_) ?_; exact nN w _ _ _ _ _ _ r.drifts (RdE.keep hdr hs.chg0) (RdE.keep hdr2 hs.chg0) O
 (refine aA V Z Z (aA V Z Z (aC Z (aA V Z Z (aC Z ?_)))); refine aH V Z Z Z ?_; refine aC Z (aA V Z Z (aC Z ?_)); refine aH V Z Z Z ?_; refine aC Z ?_)
 refine aJ (val := .bool true) V Z Z Z Z (fun w hs => ?_) ?_; exact nN w _ _ _ _ _ _ r.first (RdE.keep hf hs.chg0) (RdE.keep hf2 hs.chg0) O
 (refine aA V Z Z (aA V Z Z (aC Z (aA V Z Z (aC Z ?_)))); refine aH V Z Z Z ?_; refine aC Z (aA V Z Z (aC Z ?_)); refine aH V Z Z Z ?_; refine aC Z ?_)
 refine aJ (val := .bool true) V Z Z Z Z (fun w hs => ?_) ?_; exact eqII_ca w _ _ _ _ _ _ r.next (hn.keep hs.chg0) (hn2.keep hs.chg0) O (fun l hl => by have := s5 l hl; omega)
 (refine aA V Z Z (aA V Z Z (aF (aW ?_))))
 refine aX V Z U fun w hs => ?_
 exact ⟨Z, hs.chg0⟩
end Go.Proofs.YtohlillcaadidaaGreat
