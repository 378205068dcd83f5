/- My texts E4, E5, L7, E6, E7, E8, E9, E10, E11, W5, E12, E13, E14, T0, T1, joined: a claim takes at most 60 files. -/
import Derived.Test.YtgeajgmefokifaaGreatJ4
import Derived.ChangeSlices
import Derived.ChangeArms
import Derived.ChangeShapes

/- Walk of the reference: the ends of a winter's spans. -/
namespace Go.Proofs.YtgeajgmefokifaaGreat
open Go Go.Eng

theorem iM (l : List Dy) (f : Dy → Int) {k : Nat} (h : k < l.length) : aP ((l.take (k + 1)).map f) = aP ((l.take k).map f) ++ [.int .i64 (f l[k])] := by
 rw [List.take_succ_eq_append_getElem h]
 simp only [aP, List.map_append, List.map_cons, List.map_nil]
set_option maxRecDepth 20000 in
set_option maxHeartbeats 8000000 in
theorem rworst_ca (w : World) (lo hi : Nat) (x : Wn) (a : Option Addr) (c : Nat) (h : RdD w lo hi (.slice a x.days.length c) x.days) (hlen : x.days.length ≤ 1000000) :
  Ca Tryz.prog 57 [.agg (wnC x a c).toArray, .bool true] w fun r w' => ∃ y : Value × Value × Value, r = .tuple #[y.1, y.2.1, y.2.2] ∧ Sat w M0 [.ow y.1 3 1 x.days.length (aP (aR x).need), .ow y.2.1 3 1 x.days.length (aP (aR x).make), .ow y.2.2 3 1 x.days.length (aP (aR x).loss)] w' := by
 obtain ⟨a', c', he, hsa⟩ := RdD.outI h
 cases he
 refine cS (Sat.nil w M0) Tryz.func57 rfl (by simp [Tryz.ntmps57]) ?_
 (refine aD (aB ?_))
 refine bD Z Z (fun b2 => ?_)
 ((iterate 3 refine aA V Z Z ?_); refine aF (aD (aB ?_)); (iterate 3 refine aA V Z Z ?_); refine aF (aD (aD (aB (aA V Z Z (aF (aQ ?_)))))))
 refine eD (H' := [.ow (.slice none 0 0) 3 1 0 (aP []), .ow (.slice none 0 0) 3 1 0 (aP []), .ow (.slice none 0 0) 3 1 0 (aP []), .pt b2 (wnC x a c) 108]) (fun w' hs => (Sat.ownil (Sat.ownil (Sat.ownil hs 3 1) 3 1) 3 1).sp (by repeat constructor)) ?_
 refine cB (σ := Nat × Value × Value × Value) (fun s => s.1 ≤ x.days.length) (fun s => x.days.length - s.1) (fun s => [(1, .bool true), (2, .pointer (some ⟨b2, 0, none⟩)), (7, s.2.1), (8, s.2.2.1), (9, s.2.2.2), (10, .int .i64 s.1)])
  (fun s => [.ow s.2.1 3 1 s.1 (aP ((x.days.take s.1).map (·.n1))), .ow s.2.2.1 3 1 s.1 (aP ((x.days.take s.1).map (·.m0))), .ow s.2.2.2 3 1 s.1 (aP ((x.days.take s.1).map (·.l1))), .pt b2 (wnC x a c) 108]) (0, .slice none 0 0, .slice none 0 0, .slice none 0 0) (by simp) ⟨rfl, rfl, rfl, rfl, rfl, rfl, trivial⟩ (by repeat constructor) ?_
 rintro ⟨k, v1, v2, v3⟩ hk K hK
 simp only at hk
 dsimp only
 (refine aD (aD (aB (aA V Z Z (aA V Z Z (aI V Z Z Z (aA V Z Z (aA V Z Z (aF ?_)))))))))
 refine dL Z (fun hc => ?_) (fun hc => ?_)
 ·have hk2 : k < x.days.length := by first | omega | (simp at hc; omega)
  clear hc
  obtain ⟨b, off, rfl⟩ := hsa (by omega)
  have e1 := iM x.days (·.n1) hk2
  have e2 := iM x.days (·.m0) hk2
  have e3 := iM x.days (·.l1) hk2
  (refine aM (aD (aQ (aD (aB (aA V Z Z (aI V Z Z Z (aA V Z Z ?_))))))))
  refine aV V Z Z Z Z Z (by omega) (by omega) ?_
  skip
  refine dU V Z Z Z Z (fun w hs => RdD.at (RdE.keep h hs.chg0) k hk2) ?_
  skip
  refine bI zero175 rfl (fun b11 => ?_)
  (refine bS V Z Z Z Z Z (by repeat constructor) rfl ?_; refine aF (aD (aB (aA V Z Z (aF (aL Z ?_))))))
  generalize x.days[k] = d at *
  obtain ⟨n0, n1, m0, m1, l0, l1⟩ := d
  dsimp only at e1 e2 e3 ⊢
  refine iN (.alt (aC [1, 2, 3, 4] (.alt (aC [0, 5] (.alt (aC [7, 8, 9, 10] (.alt (aC [6, 11] (aC [13, 14, 15, 16] (aC [12, 17, 18, 19, 20] (.nil)))) (aC [13, 14, 15, 16] (aC [6, 11] (aC [12, 17, 18, 19, 20] (.nil)))))) (aC [13, 14, 15, 16] (aC [7, 8, 9, 10] (aC [6, 11] (aC [12, 17, 18, 19, 20] (.nil))))))) (.alt (aC [7, 8, 9, 10] (.alt (aC [0, 5] (.alt (aC [6, 11] (aC [13, 14, 15, 16] (aC [12, 17, 18, 19, 20] (.nil)))) (aC [13, 14, 15, 16] (aC [6, 11] (aC [12, 17, 18, 19, 20] (.nil)))))) (aC [13, 14, 15, 16] (aC [0, 5] (aC [6, 11] (aC [12, 17, 18, 19, 20] (.nil))))))) (aC [13, 14, 15, 16] (.alt (aC [0, 5] (aC [7, 8, 9, 10] (aC [6, 11] (aC [12, 17, 18, 19, 20] (.nil))))) (aC [7, 8, 9, 10] (aC [0, 5] (aC [6, 11] (aC [12, 17, 18, 19, 20] (.nil)))))))))) (.alt (aC [7, 8, 9, 10] (.alt (aC [1, 2, 3, 4] (.alt (aC [0, 5] (.alt (aC [6, 11] (aC [13, 14, 15, 16] (aC [12, 17, 18, 19, 20] (.nil)))) (aC [13, 14, 15, 16] (aC [6, 11] (aC [12, 17, 18, 19, 20] (.nil)))))) (aC [13, 14, 15, 16] (aC [0, 5] (aC [6, 11] (aC [12, 17, 18, 19, 20] (.nil))))))) (aC [13, 14, 15, 16] (aC [1, 2, 3, 4] (aC [0, 5] (aC [6, 11] (aC [12, 17, 18, 19, 20] (.nil)))))))) (aC [13, 14, 15, 16] (.alt (aC [1, 2, 3, 4] (.alt (aC [0, 5] (aC [7, 8, 9, 10] (aC [6, 11] (aC [12, 17, 18, 19, 20] (.nil))))) (aC [7, 8, 9, 10] (aC [0, 5] (aC [6, 11] (aC [12, 17, 18, 19, 20] (.nil))))))) (aC [7, 8, 9, 10] (aC [1, 2, 3, 4] (aC [0, 5] (aC [6, 11] (aC [12, 17, 18, 19, 20] (.nil)))))))))) _ [.ow v1 3 1 k (aP ((x.days.take k).map (·.n1))), .ow v2 3 1 k (aP ((x.days.take k).map (·.m0))), .ow v3 3 1 k (aP ((x.days.take k).map (·.l1)))] (Sp.cons (by repeat constructor) (Sp.cons (by repeat constructor) (Sp.cons (by repeat constructor) (Sp.refl _)))) (by kernel_rfl) (by kernel_rfl) ?_
  refine cE (σ := Nat × Value × Nat × Value × Nat × Value × Unit) (.nil) (fun ⟨lt0, ap0, lt1, ap1, lt2, ap2, ()⟩ => [(1, .bool true), (2, .pointer (some ⟨b2, 0, none⟩)), (10, .int .i64 k), (7, ap0), (8, ap1), (9, ap2)]) (fun ⟨lt0, ap0, lt1, ap1, lt2, ap2, ()⟩ => [.ow ap0 3 1 (k + 1) (aP ((x.days.take k).map (·.n1)) ++ [.int .i64 n1]), .ow ap1 3 1 (k + 1) (aP ((x.days.take k).map (·.m0)) ++ [.int .i64 m0]), .ow ap2 3 1 (k + 1) (aP ((x.days.take k).map (·.l1)) ++ [.int .i64 l1])]) ?_ (fun hS4_5_10_11_16_17 => ?_)
  ·rintro ⟨lt0, ap0, lt1, ap1, lt2, ap2, _⟩
   refine dO ?_
   (refine bJ (aB (aA V Z Z (bA V Z Z Z Z (by omega) (by omega) (aA V Z Z (aF ?_))))))
   exact (hK (k + 1, ap0, ap1, ap2) _ _ (by simp only; omega) (by simp only; omega) ⟨rfl, rfl, rfl, rfl, rfl, rfl, trivial⟩ (by dsimp only; rw [e1, e2, e3]; repeat constructor))
  refine cE (σ := Nat × Value × Nat × Value × Nat × Unit) (aC [12, 17, 18, 19, 20] (.nil)) (fun ⟨lt0, ap0, lt1, ap1, lt2, ()⟩ => [(1, .bool true), (2, .pointer (some ⟨b2, 0, none⟩)), (10, .int .i64 k), (11, .pointer (some ⟨b11, 0, none⟩)), (7, v1), (8, v2), (9, v3), (30, ap0), (36, ap1), (41, .slice (some ⟨lt2, 0, none⟩) 1 1)]) (fun ⟨lt0, ap0, lt1, ap1, lt2, ()⟩ => [.ow ap0 3 1 (k + 1) (aP ((x.days.take k).map (·.n1)) ++ [.int .i64 n1]), .ow ap1 3 1 (k + 1) (aP ((x.days.take k).map (·.m0)) ++ [.int .i64 m0]), .ow v3 3 1 k (aP ((x.days.take k).map (·.l1))), .pt lt2 [.int .i64 l1] 3]) ?_ (fun hS4_5_10_11_16 => ?_)
  ·rintro ⟨lt0, ap0, lt1, ap1, lt2, _⟩
   refine aY (by repeat (first | exact PickL.nil | (apply PickL.cons; rfl))) fun K1 hK1 => ?_
   (refine aG V Z Z Z ?_)
   refine bQ (q := 1) slI rfl rfl rfl (fun v' => by repeat constructor) (fun w' hs => ⟨_, _, Blk.rd (hs.blk (b := lt2) (by repeat constructor)) rfl 1⟩) (by simp [cU]) (by omega) (by omega) (fun ap2 => ?_)
   ((iterate 3 refine aG V Z Z Z ?_); refine aO ?_)
   exact hK1 _ _ (hS4_5_10_11_16_17 ⟨lt0, ap0, lt1, ap1, lt2, ap2, ()⟩ _ _ ⟨rfl, rfl, rfl, rfl, rfl, rfl, trivial⟩ (by repeat constructor))
  refine cE (σ := Nat × Value × Nat × Value × Unit) (aC [13, 14, 15, 16] (aC [12, 17, 18, 19, 20] (.nil))) (fun ⟨lt0, ap0, lt1, ap1, ()⟩ => [(1, .bool true), (2, .pointer (some ⟨b2, 0, none⟩)), (10, .int .i64 k), (11, .pointer (some ⟨b11, 0, none⟩)), (7, v1), (8, v2), (9, v3), (30, ap0), (36, ap1)]) (fun ⟨lt0, ap0, lt1, ap1, ()⟩ => [.ow ap0 3 1 (k + 1) (aP ((x.days.take k).map (·.n1)) ++ [.int .i64 n1]), .ow ap1 3 1 (k + 1) (aP ((x.days.take k).map (·.m0)) ++ [.int .i64 m0]), .ow v3 3 1 k (aP ((x.days.take k).map (·.l1)))]) ?_ (fun hS4_5_10_11 => ?_)
  ·rintro ⟨lt0, ap0, lt1, ap1, _⟩
   refine aY (by repeat (first | exact PickL.nil | (apply PickL.cons; rfl))) fun K1 hK1 => ?_
   (refine aG V Z Z Z (aG V Z Z Z (aN V Z Z Z ?_)))
   refine bK 3 [.int .i64 l1] rfl (by kernel_rfl) rfl (fun lt2 => ?_)
   (refine aO ?_)
   exact hK1 _ _ (hS4_5_10_11_16 ⟨lt0, ap0, lt1, ap1, lt2, ()⟩ _ _ ⟨rfl, rfl, rfl, rfl, rfl, rfl, rfl, rfl, rfl, rfl, trivial⟩ (by repeat constructor))
  refine cE (σ := Nat × Value × Nat × Nat × Unit) (aC [6, 11] (aC [12, 17, 18, 19, 20] (.nil))) (fun ⟨lt0, ap0, lt1, lt2, ()⟩ => [(1, .bool true), (2, .pointer (some ⟨b2, 0, none⟩)), (10, .int .i64 k), (11, .pointer (some ⟨b11, 0, none⟩)), (7, v1), (8, v2), (9, v3), (30, ap0), (35, .slice (some ⟨lt1, 0, none⟩) 1 1), (41, .slice (some ⟨lt2, 0, none⟩) 1 1)]) (fun ⟨lt0, ap0, lt1, lt2, ()⟩ => [.ow ap0 3 1 (k + 1) (aP ((x.days.take k).map (·.n1)) ++ [.int .i64 n1]), .ow v2 3 1 k (aP ((x.days.take k).map (·.m0))), .pt lt1 [.int .i64 m0] 3, .ow v3 3 1 k (aP ((x.days.take k).map (·.l1))), .pt lt2 [.int .i64 l1] 3]) ?_ (fun hS4_5_10_16 => ?_)
  ·rintro ⟨lt0, ap0, lt1, lt2, _⟩
   refine aY (by repeat (first | exact PickL.nil | (apply PickL.cons; rfl))) fun K1 hK1 => ?_
   (refine aG V Z Z Z ?_)
   refine bQ (q := 1) slI rfl rfl rfl (fun v' => by repeat constructor) (fun w' hs => ⟨_, _, Blk.rd (hs.blk (b := lt1) (by repeat constructor)) rfl 1⟩) (by simp [cU]) (by omega) (by omega) (fun ap1 => ?_)
   (refine aO ?_)
   exact hK1 _ _ (hS4_5_10_11_16 ⟨lt0, ap0, lt1, ap1, lt2, ()⟩ _ _ ⟨rfl, rfl, rfl, rfl, rfl, rfl, rfl, rfl, rfl, rfl, trivial⟩ (by repeat constructor))
  refine cE (σ := Nat × Value × Nat × Unit) (.alt (aC [6, 11] (aC [13, 14, 15, 16] (aC [12, 17, 18, 19, 20] (.nil)))) (aC [13, 14, 15, 16] (aC [6, 11] (aC [12, 17, 18, 19, 20] (.nil))))) (fun ⟨lt0, ap0, lt1, ()⟩ => [(1, .bool true), (2, .pointer (some ⟨b2, 0, none⟩)), (10, .int .i64 k), (11, .pointer (some ⟨b11, 0, none⟩)), (7, v1), (8, v2), (9, v3), (30, ap0), (35, .slice (some ⟨lt1, 0, none⟩) 1 1)]) (fun ⟨lt0, ap0, lt1, ()⟩ => [.ow ap0 3 1 (k + 1) (aP ((x.days.take k).map (·.n1)) ++ [.int .i64 n1]), .ow v2 3 1 k (aP ((x.days.take k).map (·.m0))), .pt lt1 [.int .i64 m0] 3, .ow v3 3 1 k (aP ((x.days.take k).map (·.l1)))]) ?_ (fun hS4_5_10 => ?_)
  ·rintro ⟨lt0, ap0, lt1, _⟩
   refine bM ?_ ?_
   ·skip
    refine aY (by repeat (first | exact PickL.nil | (apply PickL.cons; rfl))) fun K1 hK1 => ?_
    (refine aG V Z Z Z ?_)
    refine bQ (q := 1) slI rfl rfl rfl (fun v' => by repeat constructor) (fun w' hs => ⟨_, _, Blk.rd (hs.blk (b := lt1) (by repeat constructor)) rfl 1⟩) (by simp [cU]) (by omega) (by omega) (fun ap1 => ?_)
    (refine aO ?_)
    exact hK1 _ _ (hS4_5_10_11 ⟨lt0, ap0, lt1, ap1, ()⟩ _ _ ⟨rfl, rfl, rfl, rfl, rfl, rfl, rfl, rfl, rfl, trivial⟩ (by repeat constructor))
   ·skip
    refine aY (by repeat (first | exact PickL.nil | (apply PickL.cons; rfl))) fun K1 hK1 => ?_
    (refine aG V Z Z Z (aG V Z Z Z (aN V Z Z Z ?_)))
    refine bK 3 [.int .i64 l1] rfl (by kernel_rfl) rfl (fun lt2 => ?_)
    (refine aO ?_)
    exact hK1 _ _ (hS4_5_10_16 ⟨lt0, ap0, lt1, lt2, ()⟩ _ _ ⟨rfl, rfl, rfl, rfl, rfl, rfl, rfl, rfl, rfl, rfl, trivial⟩ (by repeat constructor))
  refine cE (σ := Nat × Value × Nat × Unit) (aC [7, 8, 9, 10] (aC [6, 11] (aC [12, 17, 18, 19, 20] (.nil)))) (fun ⟨lt0, ap0, lt2, ()⟩ => [(1, .bool true), (2, .pointer (some ⟨b2, 0, none⟩)), (10, .int .i64 k), (11, .pointer (some ⟨b11, 0, none⟩)), (7, v1), (8, v2), (9, v3), (30, ap0), (41, .slice (some ⟨lt2, 0, none⟩) 1 1)]) (fun ⟨lt0, ap0, lt2, ()⟩ => [.ow ap0 3 1 (k + 1) (aP ((x.days.take k).map (·.n1)) ++ [.int .i64 n1]), .ow v2 3 1 k (aP ((x.days.take k).map (·.m0))), .ow v3 3 1 k (aP ((x.days.take k).map (·.l1))), .pt lt2 [.int .i64 l1] 3]) ?_ (fun hS4_5_16 => ?_)
  ·rintro ⟨lt0, ap0, lt2, _⟩
   refine aY (by repeat (first | exact PickL.nil | (apply PickL.cons; rfl))) fun K1 hK1 => ?_
   (refine aG V Z Z Z (aG V Z Z Z (aN V Z Z Z ?_)))
   refine bK 3 [.int .i64 m0] rfl (by kernel_rfl) rfl (fun lt1 => ?_)
   (refine aO ?_)
   exact hK1 _ _ (hS4_5_10_16 ⟨lt0, ap0, lt1, lt2, ()⟩ _ _ ⟨rfl, rfl, rfl, rfl, rfl, rfl, rfl, rfl, rfl, rfl, trivial⟩ (by repeat constructor))
  refine cE (σ := Nat × Nat × Nat × Unit) (aC [0, 5] (aC [6, 11] (aC [12, 17, 18, 19, 20] (.nil)))) (fun ⟨lt0, lt1, lt2, ()⟩ => [(1, .bool true), (2, .pointer (some ⟨b2, 0, none⟩)), (10, .int .i64 k), (11, .pointer (some ⟨b11, 0, none⟩)), (7, v1), (8, v2), (9, v3), (29, .slice (some ⟨lt0, 0, none⟩) 1 1), (35, .slice (some ⟨lt1, 0, none⟩) 1 1), (41, .slice (some ⟨lt2, 0, none⟩) 1 1)]) (fun ⟨lt0, lt1, lt2, ()⟩ => [.ow v1 3 1 k (aP ((x.days.take k).map (·.n1))), .pt lt0 [.int .i64 n1] 3, .ow v2 3 1 k (aP ((x.days.take k).map (·.m0))), .pt lt1 [.int .i64 m0] 3, .ow v3 3 1 k (aP ((x.days.take k).map (·.l1))), .pt lt2 [.int .i64 l1] 3]) ?_ (fun hS4_10_16 => ?_)
  ·rintro ⟨lt0, lt1, lt2, _⟩
   refine aY (by repeat (first | exact PickL.nil | (apply PickL.cons; rfl))) fun K1 hK1 => ?_
   (refine aG V Z Z Z ?_)
   refine bQ (q := 1) slI rfl rfl rfl (fun v' => by repeat constructor) (fun w' hs => ⟨_, _, Blk.rd (hs.blk (b := lt0) (by repeat constructor)) rfl 1⟩) (by simp [cU]) (by omega) (by omega) (fun ap0 => ?_)
   (refine aO ?_)
   exact hK1 _ _ (hS4_5_10_16 ⟨lt0, ap0, lt1, lt2, ()⟩ _ _ ⟨rfl, rfl, rfl, rfl, rfl, rfl, rfl, rfl, rfl, rfl, trivial⟩ (by repeat constructor))
  refine cE (σ := Nat × Value × Unit) (.alt (aC [7, 8, 9, 10] (.alt (aC [6, 11] (aC [13, 14, 15, 16] (aC [12, 17, 18, 19, 20] (.nil)))) (aC [13, 14, 15, 16] (aC [6, 11] (aC [12, 17, 18, 19, 20] (.nil)))))) (aC [13, 14, 15, 16] (aC [7, 8, 9, 10] (aC [6, 11] (aC [12, 17, 18, 19, 20] (.nil)))))) (fun ⟨lt0, ap0, ()⟩ => [(1, .bool true), (2, .pointer (some ⟨b2, 0, none⟩)), (10, .int .i64 k), (11, .pointer (some ⟨b11, 0, none⟩)), (7, v1), (8, v2), (9, v3), (30, ap0)]) (fun ⟨lt0, ap0, ()⟩ => [.ow ap0 3 1 (k + 1) (aP ((x.days.take k).map (·.n1)) ++ [.int .i64 n1]), .ow v2 3 1 k (aP ((x.days.take k).map (·.m0))), .ow v3 3 1 k (aP ((x.days.take k).map (·.l1)))]) ?_ (fun hS4_5 => ?_)
  ·rintro ⟨lt0, ap0, _⟩
   refine bM ?_ ?_
   ·skip
    refine aY (by repeat (first | exact PickL.nil | (apply PickL.cons; rfl))) fun K1 hK1 => ?_
    (refine aG V Z Z Z (aG V Z Z Z (aN V Z Z Z ?_)))
    refine bK 3 [.int .i64 m0] rfl (by kernel_rfl) rfl (fun lt1 => ?_)
    (refine aO ?_)
    exact hK1 _ _ (hS4_5_10 ⟨lt0, ap0, lt1, ()⟩ _ _ ⟨rfl, rfl, rfl, rfl, rfl, rfl, rfl, rfl, rfl, trivial⟩ (by repeat constructor))
   ·skip
    refine aY (by repeat (first | exact PickL.nil | (apply PickL.cons; rfl))) fun K1 hK1 => ?_
    (refine aG V Z Z Z (aG V Z Z Z (aN V Z Z Z ?_)))
    refine bK 3 [.int .i64 l1] rfl (by kernel_rfl) rfl (fun lt2 => ?_)
    (refine aO ?_)
    exact hK1 _ _ (hS4_5_16 ⟨lt0, ap0, lt2, ()⟩ _ _ ⟨rfl, rfl, rfl, rfl, rfl, rfl, rfl, rfl, rfl, trivial⟩ (by repeat constructor))
  refine cE (σ := Nat × Nat × Unit) (.alt (aC [0, 5] (.alt (aC [6, 11] (aC [13, 14, 15, 16] (aC [12, 17, 18, 19, 20] (.nil)))) (aC [13, 14, 15, 16] (aC [6, 11] (aC [12, 17, 18, 19, 20] (.nil)))))) (aC [13, 14, 15, 16] (aC [0, 5] (aC [6, 11] (aC [12, 17, 18, 19, 20] (.nil)))))) (fun ⟨lt0, lt1, ()⟩ => [(1, .bool true), (2, .pointer (some ⟨b2, 0, none⟩)), (10, .int .i64 k), (11, .pointer (some ⟨b11, 0, none⟩)), (7, v1), (8, v2), (9, v3), (29, .slice (some ⟨lt0, 0, none⟩) 1 1), (35, .slice (some ⟨lt1, 0, none⟩) 1 1)]) (fun ⟨lt0, lt1, ()⟩ => [.ow v1 3 1 k (aP ((x.days.take k).map (·.n1))), .pt lt0 [.int .i64 n1] 3, .ow v2 3 1 k (aP ((x.days.take k).map (·.m0))), .pt lt1 [.int .i64 m0] 3, .ow v3 3 1 k (aP ((x.days.take k).map (·.l1)))]) ?_ (fun hS4_10 => ?_)
  ·rintro ⟨lt0, lt1, _⟩
   refine bM ?_ ?_
   ·skip
    refine aY (by repeat (first | exact PickL.nil | (apply PickL.cons; rfl))) fun K1 hK1 => ?_
    (refine aG V Z Z Z ?_)
    refine bQ (q := 1) slI rfl rfl rfl (fun v' => by repeat constructor) (fun w' hs => ⟨_, _, Blk.rd (hs.blk (b := lt0) (by repeat constructor)) rfl 1⟩) (by simp [cU]) (by omega) (by omega) (fun ap0 => ?_)
    (refine aO ?_)
    exact hK1 _ _ (hS4_5_10 ⟨lt0, ap0, lt1, ()⟩ _ _ ⟨rfl, rfl, rfl, rfl, rfl, rfl, rfl, rfl, rfl, trivial⟩ (by repeat constructor))
   ·skip
    refine aY (by repeat (first | exact PickL.nil | (apply PickL.cons; rfl))) fun K1 hK1 => ?_
    (refine aG V Z Z Z (aG V Z Z Z (aN V Z Z Z ?_)))
    refine bK 3 [.int .i64 l1] rfl (by kernel_rfl) rfl (fun lt2 => ?_)
    (refine aO ?_)
    exact hK1 _ _ (hS4_10_16 ⟨lt0, lt1, lt2, ()⟩ _ _ ⟨rfl, rfl, rfl, rfl, rfl, rfl, rfl, rfl, rfl, rfl, trivial⟩ (by repeat constructor))
  refine cE (σ := Nat × Nat × Unit) (.alt (aC [0, 5] (aC [7, 8, 9, 10] (aC [6, 11] (aC [12, 17, 18, 19, 20] (.nil))))) (aC [7, 8, 9, 10] (aC [0, 5] (aC [6, 11] (aC [12, 17, 18, 19, 20] (.nil)))))) (fun ⟨lt0, lt2, ()⟩ => [(1, .bool true), (2, .pointer (some ⟨b2, 0, none⟩)), (10, .int .i64 k), (11, .pointer (some ⟨b11, 0, none⟩)), (7, v1), (8, v2), (9, v3), (29, .slice (some ⟨lt0, 0, none⟩) 1 1), (41, .slice (some ⟨lt2, 0, none⟩) 1 1)]) (fun ⟨lt0, lt2, ()⟩ => [.ow v1 3 1 k (aP ((x.days.take k).map (·.n1))), .pt lt0 [.int .i64 n1] 3, .ow v2 3 1 k (aP ((x.days.take k).map (·.m0))), .ow v3 3 1 k (aP ((x.days.take k).map (·.l1))), .pt lt2 [.int .i64 l1] 3]) ?_ (fun hS4_16 => ?_)
  ·rintro ⟨lt0, lt2, _⟩
   refine bM ?_ ?_
   ·skip
    refine aY (by repeat (first | exact PickL.nil | (apply PickL.cons; rfl))) fun K1 hK1 => ?_
    (refine aG V Z Z Z ?_)
    refine bQ (q := 1) slI rfl rfl rfl (fun v' => by repeat constructor) (fun w' hs => ⟨_, _, Blk.rd (hs.blk (b := lt0) (by repeat constructor)) rfl 1⟩) (by simp [cU]) (by omega) (by omega) (fun ap0 => ?_)
    (refine aO ?_)
    exact hK1 _ _ (hS4_5_16 ⟨lt0, ap0, lt2, ()⟩ _ _ ⟨rfl, rfl, rfl, rfl, rfl, rfl, rfl, rfl, rfl, trivial⟩ (by repeat constructor))
   ·skip
    refine aY (by repeat (first | exact PickL.nil | (apply PickL.cons; rfl))) fun K1 hK1 => ?_
    (refine aG V Z Z Z (aG V Z Z Z (aN V Z Z Z ?_)))
    refine bK 3 [.int .i64 m0] rfl (by kernel_rfl) rfl (fun lt1 => ?_)
    (refine aO ?_)
    exact hK1 _ _ (hS4_10_16 ⟨lt0, lt1, lt2, ()⟩ _ _ ⟨rfl, rfl, rfl, rfl, rfl, rfl, rfl, rfl, rfl, rfl, trivial⟩ (by repeat constructor))
  refine cE (σ := Nat × Nat × Unit) (aC [1, 2, 3, 4] (aC [0, 5] (aC [6, 11] (aC [12, 17, 18, 19, 20] (.nil))))) (fun ⟨lt1, lt2, ()⟩ => [(1, .bool true), (2, .pointer (some ⟨b2, 0, none⟩)), (10, .int .i64 k), (11, .pointer (some ⟨b11, 0, none⟩)), (7, v1), (8, v2), (9, v3), (35, .slice (some ⟨lt1, 0, none⟩) 1 1), (41, .slice (some ⟨lt2, 0, none⟩) 1 1)]) (fun ⟨lt1, lt2, ()⟩ => [.ow v1 3 1 k (aP ((x.days.take k).map (·.n1))), .ow v2 3 1 k (aP ((x.days.take k).map (·.m0))), .pt lt1 [.int .i64 m0] 3, .ow v3 3 1 k (aP ((x.days.take k).map (·.l1))), .pt lt2 [.int .i64 l1] 3]) ?_ (fun hS10_16 => ?_)
  ·rintro ⟨lt1, lt2, _⟩
   refine aY (by repeat (first | exact PickL.nil | (apply PickL.cons; rfl))) fun K1 hK1 => ?_
   (refine aG V Z Z Z (aG V Z Z Z (aN V Z Z Z ?_)))
   refine bK 3 [.int .i64 n1] rfl (by kernel_rfl) rfl (fun lt0 => ?_)
   (refine aO ?_)
   exact hK1 _ _ (hS4_10_16 ⟨lt0, lt1, lt2, ()⟩ _ _ ⟨rfl, rfl, rfl, rfl, rfl, rfl, rfl, rfl, rfl, rfl, trivial⟩ (by repeat constructor))
  refine cE (σ := Nat × Unit) (.alt (aC [0, 5] (.alt (aC [7, 8, 9, 10] (.alt (aC [6, 11] (aC [13, 14, 15, 16] (aC [12, 17, 18, 19, 20] (.nil)))) (aC [13, 14, 15, 16] (aC [6, 11] (aC [12, 17, 18, 19, 20] (.nil)))))) (aC [13, 14, 15, 16] (aC [7, 8, 9, 10] (aC [6, 11] (aC [12, 17, 18, 19, 20] (.nil))))))) (.alt (aC [7, 8, 9, 10] (.alt (aC [0, 5] (.alt (aC [6, 11] (aC [13, 14, 15, 16] (aC [12, 17, 18, 19, 20] (.nil)))) (aC [13, 14, 15, 16] (aC [6, 11] (aC [12, 17, 18, 19, 20] (.nil)))))) (aC [13, 14, 15, 16] (aC [0, 5] (aC [6, 11] (aC [12, 17, 18, 19, 20] (.nil))))))) (aC [13, 14, 15, 16] (.alt (aC [0, 5] (aC [7, 8, 9, 10] (aC [6, 11] (aC [12, 17, 18, 19, 20] (.nil))))) (aC [7, 8, 9, 10] (aC [0, 5] (aC [6, 11] (aC [12, 17, 18, 19, 20] (.nil))))))))) (fun ⟨lt0, ()⟩ => [(1, .bool true), (2, .pointer (some ⟨b2, 0, none⟩)), (10, .int .i64 k), (11, .pointer (some ⟨b11, 0, none⟩)), (7, v1), (8, v2), (9, v3), (29, .slice (some ⟨lt0, 0, none⟩) 1 1)]) (fun ⟨lt0, ()⟩ => [.ow v1 3 1 k (aP ((x.days.take k).map (·.n1))), .pt lt0 [.int .i64 n1] 3, .ow v2 3 1 k (aP ((x.days.take k).map (·.m0))), .ow v3 3 1 k (aP ((x.days.take k).map (·.l1)))]) ?_ (fun hS4 => ?_)
  ·rintro ⟨lt0, _⟩
   refine bM ?_ (bM ?_ ?_)
   ·skip
    refine aY (by repeat (first | exact PickL.nil | (apply PickL.cons; rfl))) fun K1 hK1 => ?_
    (refine aG V Z Z Z ?_)
    refine bQ (q := 1) slI rfl rfl rfl (fun v' => by repeat constructor) (fun w' hs => ⟨_, _, Blk.rd (hs.blk (b := lt0) (by repeat constructor)) rfl 1⟩) (by simp [cU]) (by omega) (by omega) (fun ap0 => ?_)
    (refine aO ?_)
    exact hK1 _ _ (hS4_5 ⟨lt0, ap0, ()⟩ _ _ ⟨rfl, rfl, rfl, rfl, rfl, rfl, rfl, rfl, trivial⟩ (by repeat constructor))
   ·skip
    refine aY (by repeat (first | exact PickL.nil | (apply PickL.cons; rfl))) fun K1 hK1 => ?_
    (refine aG V Z Z Z (aG V Z Z Z (aN V Z Z Z ?_)))
    refine bK 3 [.int .i64 m0] rfl (by kernel_rfl) rfl (fun lt1 => ?_)
    (refine aO ?_)
    exact hK1 _ _ (hS4_10 ⟨lt0, lt1, ()⟩ _ _ ⟨rfl, rfl, rfl, rfl, rfl, rfl, rfl, rfl, rfl, trivial⟩ (by repeat constructor))
   ·skip
    refine aY (by repeat (first | exact PickL.nil | (apply PickL.cons; rfl))) fun K1 hK1 => ?_
    (refine aG V Z Z Z (aG V Z Z Z (aN V Z Z Z ?_)))
    refine bK 3 [.int .i64 l1] rfl (by kernel_rfl) rfl (fun lt2 => ?_)
    (refine aO ?_)
    exact hK1 _ _ (hS4_16 ⟨lt0, lt2, ()⟩ _ _ ⟨rfl, rfl, rfl, rfl, rfl, rfl, rfl, rfl, rfl, trivial⟩ (by repeat constructor))
  refine cE (σ := Nat × Unit) (.alt (aC [1, 2, 3, 4] (.alt (aC [0, 5] (.alt (aC [6, 11] (aC [13, 14, 15, 16] (aC [12, 17, 18, 19, 20] (.nil)))) (aC [13, 14, 15, 16] (aC [6, 11] (aC [12, 17, 18, 19, 20] (.nil)))))) (aC [13, 14, 15, 16] (aC [0, 5] (aC [6, 11] (aC [12, 17, 18, 19, 20] (.nil))))))) (aC [13, 14, 15, 16] (aC [1, 2, 3, 4] (aC [0, 5] (aC [6, 11] (aC [12, 17, 18, 19, 20] (.nil))))))) (fun ⟨lt1, ()⟩ => [(1, .bool true), (2, .pointer (some ⟨b2, 0, none⟩)), (10, .int .i64 k), (11, .pointer (some ⟨b11, 0, none⟩)), (7, v1), (8, v2), (9, v3), (35, .slice (some ⟨lt1, 0, none⟩) 1 1)]) (fun ⟨lt1, ()⟩ => [.ow v1 3 1 k (aP ((x.days.take k).map (·.n1))), .ow v2 3 1 k (aP ((x.days.take k).map (·.m0))), .pt lt1 [.int .i64 m0] 3, .ow v3 3 1 k (aP ((x.days.take k).map (·.l1)))]) ?_ (fun hS10 => ?_)
  ·rintro ⟨lt1, _⟩
   refine bM ?_ ?_
   ·skip
    refine aY (by repeat (first | exact PickL.nil | (apply PickL.cons; rfl))) fun K1 hK1 => ?_
    (refine aG V Z Z Z (aG V Z Z Z (aN V Z Z Z ?_)))
    refine bK 3 [.int .i64 n1] rfl (by kernel_rfl) rfl (fun lt0 => ?_)
    (refine aO ?_)
    exact hK1 _ _ (hS4_10 ⟨lt0, lt1, ()⟩ _ _ ⟨rfl, rfl, rfl, rfl, rfl, rfl, rfl, rfl, rfl, trivial⟩ (by repeat constructor))
   ·skip
    refine aY (by repeat (first | exact PickL.nil | (apply PickL.cons; rfl))) fun K1 hK1 => ?_
    (refine aG V Z Z Z (aG V Z Z Z (aN V Z Z Z ?_)))
    refine bK 3 [.int .i64 l1] rfl (by kernel_rfl) rfl (fun lt2 => ?_)
    (refine aO ?_)
    exact hK1 _ _ (hS10_16 ⟨lt1, lt2, ()⟩ _ _ ⟨rfl, rfl, rfl, rfl, rfl, rfl, rfl, rfl, rfl, trivial⟩ (by repeat constructor))
  refine cE (σ := Nat × Unit) (.alt (aC [1, 2, 3, 4] (.alt (aC [0, 5] (aC [7, 8, 9, 10] (aC [6, 11] (aC [12, 17, 18, 19, 20] (.nil))))) (aC [7, 8, 9, 10] (aC [0, 5] (aC [6, 11] (aC [12, 17, 18, 19, 20] (.nil))))))) (aC [7, 8, 9, 10] (aC [1, 2, 3, 4] (aC [0, 5] (aC [6, 11] (aC [12, 17, 18, 19, 20] (.nil))))))) (fun ⟨lt2, ()⟩ => [(1, .bool true), (2, .pointer (some ⟨b2, 0, none⟩)), (10, .int .i64 k), (11, .pointer (some ⟨b11, 0, none⟩)), (7, v1), (8, v2), (9, v3), (41, .slice (some ⟨lt2, 0, none⟩) 1 1)]) (fun ⟨lt2, ()⟩ => [.ow v1 3 1 k (aP ((x.days.take k).map (·.n1))), .ow v2 3 1 k (aP ((x.days.take k).map (·.m0))), .ow v3 3 1 k (aP ((x.days.take k).map (·.l1))), .pt lt2 [.int .i64 l1] 3]) ?_ (fun hS16 => ?_)
  ·rintro ⟨lt2, _⟩
   refine bM ?_ ?_
   ·skip
    refine aY (by repeat (first | exact PickL.nil | (apply PickL.cons; rfl))) fun K1 hK1 => ?_
    (refine aG V Z Z Z (aG V Z Z Z (aN V Z Z Z ?_)))
    refine bK 3 [.int .i64 n1] rfl (by kernel_rfl) rfl (fun lt0 => ?_)
    (refine aO ?_)
    exact hK1 _ _ (hS4_16 ⟨lt0, lt2, ()⟩ _ _ ⟨rfl, rfl, rfl, rfl, rfl, rfl, rfl, rfl, rfl, trivial⟩ (by repeat constructor))
   ·skip
    refine aY (by repeat (first | exact PickL.nil | (apply PickL.cons; rfl))) fun K1 hK1 => ?_
    (refine aG V Z Z Z (aG V Z Z Z (aN V Z Z Z ?_)))
    refine bK 3 [.int .i64 m0] rfl (by kernel_rfl) rfl (fun lt1 => ?_)
    (refine aO ?_)
    exact hK1 _ _ (hS10_16 ⟨lt1, lt2, ()⟩ _ _ ⟨rfl, rfl, rfl, rfl, rfl, rfl, rfl, rfl, rfl, trivial⟩ (by repeat constructor))
  refine bM ?_ (bM ?_ ?_)
  ·skip
   refine aY (by repeat (first | exact PickL.nil | (apply PickL.cons; rfl))) fun K1 hK1 => ?_
   (refine aG V Z Z Z (aG V Z Z Z (aN V Z Z Z ?_)))
   refine bK 3 [.int .i64 n1] rfl (by kernel_rfl) rfl (fun lt0 => ?_)
   (refine aO ?_)
   exact hK1 _ _ (hS4 ⟨lt0, ()⟩ _ _ ⟨rfl, rfl, rfl, rfl, rfl, rfl, rfl, rfl, trivial⟩ (by repeat constructor))
  ·skip
   refine aY (by repeat (first | exact PickL.nil | (apply PickL.cons; rfl))) fun K1 hK1 => ?_
   (refine aG V Z Z Z (aG V Z Z Z (aN V Z Z Z ?_)))
   refine bK 3 [.int .i64 m0] rfl (by kernel_rfl) rfl (fun lt1 => ?_)
   (refine aO ?_)
   exact hK1 _ _ (hS10 ⟨lt1, ()⟩ _ _ ⟨rfl, rfl, rfl, rfl, rfl, rfl, rfl, rfl, trivial⟩ (by repeat constructor))
  ·skip
   refine aY (by repeat (first | exact PickL.nil | (apply PickL.cons; rfl))) fun K1 hK1 => ?_
   (refine aG V Z Z Z (aG V Z Z Z (aN V Z Z Z ?_)))
   refine bK 3 [.int .i64 l1] rfl (by kernel_rfl) rfl (fun lt2 => ?_)
   (refine aO ?_)
   exact hK1 _ _ (hS16 ⟨lt2, ()⟩ _ _ ⟨rfl, rfl, rfl, rfl, rfl, rfl, rfl, rfl, trivial⟩ (by repeat constructor))
 ·obtain rfl : k = x.days.length := by omega
  clear hc hK
  (refine bO _ rfl (aD (aB ?_)); (iterate 6 refine aA V Z Z ?_); refine aF (aS ?_))
  refine aU V Z (by repeat constructor) fun w hs => ?_
  exact ⟨(v1, v2, v3), rfl, by rw [List.take_length] at hs; exact hs.sp (by repeat constructor)⟩
set_option maxRecDepth 20000 in
set_option maxHeartbeats 8000000 in
theorem rbest_ca (w : World) (lo hi : Nat) (x : Wn) (a : Option Addr) (c : Nat) (h : RdD w lo hi (.slice a x.days.length c) x.days) (hlen : x.days.length ≤ 1000000) :
  Ca Tryz.prog 57 [.agg (wnC x a c).toArray, .bool false] w fun r w' => ∃ y : Value × Value × Value, r = .tuple #[y.1, y.2.1, y.2.2] ∧ Sat w M0 [.ow y.1 3 1 x.days.length (aP (fD x).need), .ow y.2.1 3 1 x.days.length (aP (fD x).make), .ow y.2.2 3 1 x.days.length (aP (fD x).loss)] w' := by
 obtain ⟨a', c', he, hsa⟩ := RdD.outI h
 cases he
 refine cS (Sat.nil w M0) Tryz.func57 rfl (by simp [Tryz.ntmps57]) ?_
 (refine aD (aB ?_))
 refine bD Z Z (fun b2 => ?_)
 ((iterate 3 refine aA V Z Z ?_); refine aF (aD (aB ?_)); (iterate 3 refine aA V Z Z ?_); refine aF (aD (aD (aB (aA V Z Z (aF (aQ ?_)))))))
 refine eD (H' := [.ow (.slice none 0 0) 3 1 0 (aP []), .ow (.slice none 0 0) 3 1 0 (aP []), .ow (.slice none 0 0) 3 1 0 (aP []), .pt b2 (wnC x a c) 108]) (fun w' hs => (Sat.ownil (Sat.ownil (Sat.ownil hs 3 1) 3 1) 3 1).sp (by repeat constructor)) ?_
 refine cB (σ := Nat × Value × Value × Value) (fun s => s.1 ≤ x.days.length) (fun s => x.days.length - s.1) (fun s => [(1, .bool false), (2, .pointer (some ⟨b2, 0, none⟩)), (7, s.2.1), (8, s.2.2.1), (9, s.2.2.2), (10, .int .i64 s.1)])
  (fun s => [.ow s.2.1 3 1 s.1 (aP ((x.days.take s.1).map (·.n0))), .ow s.2.2.1 3 1 s.1 (aP ((x.days.take s.1).map (·.m1))), .ow s.2.2.2 3 1 s.1 (aP ((x.days.take s.1).map (·.l0))), .pt b2 (wnC x a c) 108]) (0, .slice none 0 0, .slice none 0 0, .slice none 0 0) (by simp) ⟨rfl, rfl, rfl, rfl, rfl, rfl, trivial⟩ (by repeat constructor) ?_
 rintro ⟨k, v1, v2, v3⟩ hk K hK
 simp only at hk
 dsimp only
 (refine aD (aD (aB (aA V Z Z (aA V Z Z (aI V Z Z Z (aA V Z Z (aA V Z Z (aF ?_)))))))))
 refine dL Z (fun hc => ?_) (fun hc => ?_)
 ·have hk2 : k < x.days.length := by first | omega | (simp at hc; omega)
  clear hc
  obtain ⟨b, off, rfl⟩ := hsa (by omega)
  have e1 := iM x.days (·.n0) hk2
  have e2 := iM x.days (·.m1) hk2
  have e3 := iM x.days (·.l0) hk2
  (refine aM (aD (aQ (aD (aB (aA V Z Z (aI V Z Z Z (aA V Z Z ?_))))))))
  refine aV V Z Z Z Z Z (by omega) (by omega) ?_
  skip
  refine dU V Z Z Z Z (fun w hs => RdD.at (RdE.keep h hs.chg0) k hk2) ?_
  skip
  refine bI zero175 rfl (fun b11 => ?_)
  (refine bS V Z Z Z Z Z (by repeat constructor) rfl ?_; refine aF (aD (aB (aA V Z Z (aF (aH Z ?_))))))
  generalize x.days[k] = d at *
  obtain ⟨n0, n1, m0, m1, l0, l1⟩ := d
  dsimp only at e1 e2 e3 ⊢
  refine iN (.alt (aC [1, 2, 3, 4] (.alt (aC [0, 5] (.alt (aC [7, 8, 9, 10] (.alt (aC [6, 11] (aC [13, 14, 15, 16] (aC [12, 17, 18, 19, 20] (.nil)))) (aC [13, 14, 15, 16] (aC [6, 11] (aC [12, 17, 18, 19, 20] (.nil)))))) (aC [13, 14, 15, 16] (aC [7, 8, 9, 10] (aC [6, 11] (aC [12, 17, 18, 19, 20] (.nil))))))) (.alt (aC [7, 8, 9, 10] (.alt (aC [0, 5] (.alt (aC [6, 11] (aC [13, 14, 15, 16] (aC [12, 17, 18, 19, 20] (.nil)))) (aC [13, 14, 15, 16] (aC [6, 11] (aC [12, 17, 18, 19, 20] (.nil)))))) (aC [13, 14, 15, 16] (aC [0, 5] (aC [6, 11] (aC [12, 17, 18, 19, 20] (.nil))))))) (aC [13, 14, 15, 16] (.alt (aC [0, 5] (aC [7, 8, 9, 10] (aC [6, 11] (aC [12, 17, 18, 19, 20] (.nil))))) (aC [7, 8, 9, 10] (aC [0, 5] (aC [6, 11] (aC [12, 17, 18, 19, 20] (.nil)))))))))) (.alt (aC [7, 8, 9, 10] (.alt (aC [1, 2, 3, 4] (.alt (aC [0, 5] (.alt (aC [6, 11] (aC [13, 14, 15, 16] (aC [12, 17, 18, 19, 20] (.nil)))) (aC [13, 14, 15, 16] (aC [6, 11] (aC [12, 17, 18, 19, 20] (.nil)))))) (aC [13, 14, 15, 16] (aC [0, 5] (aC [6, 11] (aC [12, 17, 18, 19, 20] (.nil))))))) (aC [13, 14, 15, 16] (aC [1, 2, 3, 4] (aC [0, 5] (aC [6, 11] (aC [12, 17, 18, 19, 20] (.nil)))))))) (aC [13, 14, 15, 16] (.alt (aC [1, 2, 3, 4] (.alt (aC [0, 5] (aC [7, 8, 9, 10] (aC [6, 11] (aC [12, 17, 18, 19, 20] (.nil))))) (aC [7, 8, 9, 10] (aC [0, 5] (aC [6, 11] (aC [12, 17, 18, 19, 20] (.nil))))))) (aC [7, 8, 9, 10] (aC [1, 2, 3, 4] (aC [0, 5] (aC [6, 11] (aC [12, 17, 18, 19, 20] (.nil)))))))))) _ [.ow v1 3 1 k (aP ((x.days.take k).map (·.n0))), .ow v2 3 1 k (aP ((x.days.take k).map (·.m1))), .ow v3 3 1 k (aP ((x.days.take k).map (·.l0)))] (Sp.cons (by repeat constructor) (Sp.cons (by repeat constructor) (Sp.cons (by repeat constructor) (Sp.refl _)))) (by kernel_rfl) (by kernel_rfl) ?_
  refine cE (σ := Nat × Value × Nat × Value × Nat × Value × Unit) (.nil) (fun ⟨lt0, ap0, lt1, ap1, lt2, ap2, ()⟩ => [(1, .bool false), (2, .pointer (some ⟨b2, 0, none⟩)), (10, .int .i64 k), (7, ap0), (8, ap1), (9, ap2)]) (fun ⟨lt0, ap0, lt1, ap1, lt2, ap2, ()⟩ => [.ow ap0 3 1 (k + 1) (aP ((x.days.take k).map (·.n0)) ++ [.int .i64 n0]), .ow ap1 3 1 (k + 1) (aP ((x.days.take k).map (·.m1)) ++ [.int .i64 m1]), .ow ap2 3 1 (k + 1) (aP ((x.days.take k).map (·.l0)) ++ [.int .i64 l0])]) ?_ (fun hS4_5_10_11_16_17 => ?_)
  ·rintro ⟨lt0, ap0, lt1, ap1, lt2, ap2, _⟩
   refine dO ?_
   (refine bJ (aB (aA V Z Z (bA V Z Z Z Z (by omega) (by omega) (aA V Z Z (aF ?_))))))
   exact (hK (k + 1, ap0, ap1, ap2) _ _ (by simp only; omega) (by simp only; omega) ⟨rfl, rfl, rfl, rfl, rfl, rfl, trivial⟩ (by dsimp only; rw [e1, e2, e3]; repeat constructor))
  refine cE (σ := Nat × Value × Nat × Value × Nat × Unit) (aC [12, 17, 18, 19, 20] (.nil)) (fun ⟨lt0, ap0, lt1, ap1, lt2, ()⟩ => [(1, .bool false), (2, .pointer (some ⟨b2, 0, none⟩)), (10, .int .i64 k), (11, .pointer (some ⟨b11, 0, none⟩)), (7, v1), (8, v2), (9, v3), (48, ap0), (54, ap1), (59, .slice (some ⟨lt2, 0, none⟩) 1 1)]) (fun ⟨lt0, ap0, lt1, ap1, lt2, ()⟩ => [.ow ap0 3 1 (k + 1) (aP ((x.days.take k).map (·.n0)) ++ [.int .i64 n0]), .ow ap1 3 1 (k + 1) (aP ((x.days.take k).map (·.m1)) ++ [.int .i64 m1]), .ow v3 3 1 k (aP ((x.days.take k).map (·.l0))), .pt lt2 [.int .i64 l0] 3]) ?_ (fun hS4_5_10_11_16 => ?_)
  ·rintro ⟨lt0, ap0, lt1, ap1, lt2, _⟩
   refine aY (by repeat (first | exact PickL.nil | (apply PickL.cons; rfl))) fun K1 hK1 => ?_
   (refine aG V Z Z Z ?_)
   refine bQ (q := 1) slI rfl rfl rfl (fun v' => by repeat constructor) (fun w' hs => ⟨_, _, Blk.rd (hs.blk (b := lt2) (by repeat constructor)) rfl 1⟩) (by simp [cU]) (by omega) (by omega) (fun ap2 => ?_)
   ((iterate 3 refine aG V Z Z Z ?_); refine aO ?_)
   exact hK1 _ _ (hS4_5_10_11_16_17 ⟨lt0, ap0, lt1, ap1, lt2, ap2, ()⟩ _ _ ⟨rfl, rfl, rfl, rfl, rfl, rfl, trivial⟩ (by repeat constructor))
  refine cE (σ := Nat × Value × Nat × Value × Unit) (aC [13, 14, 15, 16] (aC [12, 17, 18, 19, 20] (.nil))) (fun ⟨lt0, ap0, lt1, ap1, ()⟩ => [(1, .bool false), (2, .pointer (some ⟨b2, 0, none⟩)), (10, .int .i64 k), (11, .pointer (some ⟨b11, 0, none⟩)), (7, v1), (8, v2), (9, v3), (48, ap0), (54, ap1)]) (fun ⟨lt0, ap0, lt1, ap1, ()⟩ => [.ow ap0 3 1 (k + 1) (aP ((x.days.take k).map (·.n0)) ++ [.int .i64 n0]), .ow ap1 3 1 (k + 1) (aP ((x.days.take k).map (·.m1)) ++ [.int .i64 m1]), .ow v3 3 1 k (aP ((x.days.take k).map (·.l0)))]) ?_ (fun hS4_5_10_11 => ?_)
  ·rintro ⟨lt0, ap0, lt1, ap1, _⟩
   refine aY (by repeat (first | exact PickL.nil | (apply PickL.cons; rfl))) fun K1 hK1 => ?_
   (refine aG V Z Z Z (aG V Z Z Z (aN V Z Z Z ?_)))
   refine bK 3 [.int .i64 l0] rfl (by kernel_rfl) rfl (fun lt2 => ?_)
   (refine aO ?_)
   exact hK1 _ _ (hS4_5_10_11_16 ⟨lt0, ap0, lt1, ap1, lt2, ()⟩ _ _ ⟨rfl, rfl, rfl, rfl, rfl, rfl, rfl, rfl, rfl, rfl, trivial⟩ (by repeat constructor))
  refine cE (σ := Nat × Value × Nat × Nat × Unit) (aC [6, 11] (aC [12, 17, 18, 19, 20] (.nil))) (fun ⟨lt0, ap0, lt1, lt2, ()⟩ => [(1, .bool false), (2, .pointer (some ⟨b2, 0, none⟩)), (10, .int .i64 k), (11, .pointer (some ⟨b11, 0, none⟩)), (7, v1), (8, v2), (9, v3), (48, ap0), (53, .slice (some ⟨lt1, 0, none⟩) 1 1), (59, .slice (some ⟨lt2, 0, none⟩) 1 1)]) (fun ⟨lt0, ap0, lt1, lt2, ()⟩ => [.ow ap0 3 1 (k + 1) (aP ((x.days.take k).map (·.n0)) ++ [.int .i64 n0]), .ow v2 3 1 k (aP ((x.days.take k).map (·.m1))), .pt lt1 [.int .i64 m1] 3, .ow v3 3 1 k (aP ((x.days.take k).map (·.l0))), .pt lt2 [.int .i64 l0] 3]) ?_ (fun hS4_5_10_16 => ?_)
  ·rintro ⟨lt0, ap0, lt1, lt2, _⟩
   refine aY (by repeat (first | exact PickL.nil | (apply PickL.cons; rfl))) fun K1 hK1 => ?_
   (refine aG V Z Z Z ?_)
   refine bQ (q := 1) slI rfl rfl rfl (fun v' => by repeat constructor) (fun w' hs => ⟨_, _, Blk.rd (hs.blk (b := lt1) (by repeat constructor)) rfl 1⟩) (by simp [cU]) (by omega) (by omega) (fun ap1 => ?_)
   (refine aO ?_)
   exact hK1 _ _ (hS4_5_10_11_16 ⟨lt0, ap0, lt1, ap1, lt2, ()⟩ _ _ ⟨rfl, rfl, rfl, rfl, rfl, rfl, rfl, rfl, rfl, rfl, trivial⟩ (by repeat constructor))
  refine cE (σ := Nat × Value × Nat × Unit) (.alt (aC [6, 11] (aC [13, 14, 15, 16] (aC [12, 17, 18, 19, 20] (.nil)))) (aC [13, 14, 15, 16] (aC [6, 11] (aC [12, 17, 18, 19, 20] (.nil))))) (fun ⟨lt0, ap0, lt1, ()⟩ => [(1, .bool false), (2, .pointer (some ⟨b2, 0, none⟩)), (10, .int .i64 k), (11, .pointer (some ⟨b11, 0, none⟩)), (7, v1), (8, v2), (9, v3), (48, ap0), (53, .slice (some ⟨lt1, 0, none⟩) 1 1)]) (fun ⟨lt0, ap0, lt1, ()⟩ => [.ow ap0 3 1 (k + 1) (aP ((x.days.take k).map (·.n0)) ++ [.int .i64 n0]), .ow v2 3 1 k (aP ((x.days.take k).map (·.m1))), .pt lt1 [.int .i64 m1] 3, .ow v3 3 1 k (aP ((x.days.take k).map (·.l0)))]) ?_ (fun hS4_5_10 => ?_)
  ·rintro ⟨lt0, ap0, lt1, _⟩
   refine bM ?_ ?_
   ·skip
    refine aY (by repeat (first | exact PickL.nil | (apply PickL.cons; rfl))) fun K1 hK1 => ?_
    (refine aG V Z Z Z ?_)
    refine bQ (q := 1) slI rfl rfl rfl (fun v' => by repeat constructor) (fun w' hs => ⟨_, _, Blk.rd (hs.blk (b := lt1) (by repeat constructor)) rfl 1⟩) (by simp [cU]) (by omega) (by omega) (fun ap1 => ?_)
    (refine aO ?_)
    exact hK1 _ _ (hS4_5_10_11 ⟨lt0, ap0, lt1, ap1, ()⟩ _ _ ⟨rfl, rfl, rfl, rfl, rfl, rfl, rfl, rfl, rfl, trivial⟩ (by repeat constructor))
   ·skip
    refine aY (by repeat (first | exact PickL.nil | (apply PickL.cons; rfl))) fun K1 hK1 => ?_
    (refine aG V Z Z Z (aG V Z Z Z (aN V Z Z Z ?_)))
    refine bK 3 [.int .i64 l0] rfl (by kernel_rfl) rfl (fun lt2 => ?_)
    (refine aO ?_)
    exact hK1 _ _ (hS4_5_10_16 ⟨lt0, ap0, lt1, lt2, ()⟩ _ _ ⟨rfl, rfl, rfl, rfl, rfl, rfl, rfl, rfl, rfl, rfl, trivial⟩ (by repeat constructor))
  refine cE (σ := Nat × Value × Nat × Unit) (aC [7, 8, 9, 10] (aC [6, 11] (aC [12, 17, 18, 19, 20] (.nil)))) (fun ⟨lt0, ap0, lt2, ()⟩ => [(1, .bool false), (2, .pointer (some ⟨b2, 0, none⟩)), (10, .int .i64 k), (11, .pointer (some ⟨b11, 0, none⟩)), (7, v1), (8, v2), (9, v3), (48, ap0), (59, .slice (some ⟨lt2, 0, none⟩) 1 1)]) (fun ⟨lt0, ap0, lt2, ()⟩ => [.ow ap0 3 1 (k + 1) (aP ((x.days.take k).map (·.n0)) ++ [.int .i64 n0]), .ow v2 3 1 k (aP ((x.days.take k).map (·.m1))), .ow v3 3 1 k (aP ((x.days.take k).map (·.l0))), .pt lt2 [.int .i64 l0] 3]) ?_ (fun hS4_5_16 => ?_)
  ·rintro ⟨lt0, ap0, lt2, _⟩
   refine aY (by repeat (first | exact PickL.nil | (apply PickL.cons; rfl))) fun K1 hK1 => ?_
   (refine aG V Z Z Z (aG V Z Z Z (aN V Z Z Z ?_)))
   refine bK 3 [.int .i64 m1] rfl (by kernel_rfl) rfl (fun lt1 => ?_)
   (refine aO ?_)
   exact hK1 _ _ (hS4_5_10_16 ⟨lt0, ap0, lt1, lt2, ()⟩ _ _ ⟨rfl, rfl, rfl, rfl, rfl, rfl, rfl, rfl, rfl, rfl, trivial⟩ (by repeat constructor))
  refine cE (σ := Nat × Nat × Nat × Unit) (aC [0, 5] (aC [6, 11] (aC [12, 17, 18, 19, 20] (.nil)))) (fun ⟨lt0, lt1, lt2, ()⟩ => [(1, .bool false), (2, .pointer (some ⟨b2, 0, none⟩)), (10, .int .i64 k), (11, .pointer (some ⟨b11, 0, none⟩)), (7, v1), (8, v2), (9, v3), (47, .slice (some ⟨lt0, 0, none⟩) 1 1), (53, .slice (some ⟨lt1, 0, none⟩) 1 1), (59, .slice (some ⟨lt2, 0, none⟩) 1 1)]) (fun ⟨lt0, lt1, lt2, ()⟩ => [.ow v1 3 1 k (aP ((x.days.take k).map (·.n0))), .pt lt0 [.int .i64 n0] 3, .ow v2 3 1 k (aP ((x.days.take k).map (·.m1))), .pt lt1 [.int .i64 m1] 3, .ow v3 3 1 k (aP ((x.days.take k).map (·.l0))), .pt lt2 [.int .i64 l0] 3]) ?_ (fun hS4_10_16 => ?_)
  ·rintro ⟨lt0, lt1, lt2, _⟩
   refine aY (by repeat (first | exact PickL.nil | (apply PickL.cons; rfl))) fun K1 hK1 => ?_
   (refine aG V Z Z Z ?_)
   refine bQ (q := 1) slI rfl rfl rfl (fun v' => by repeat constructor) (fun w' hs => ⟨_, _, Blk.rd (hs.blk (b := lt0) (by repeat constructor)) rfl 1⟩) (by simp [cU]) (by omega) (by omega) (fun ap0 => ?_)
   (refine aO ?_)
   exact hK1 _ _ (hS4_5_10_16 ⟨lt0, ap0, lt1, lt2, ()⟩ _ _ ⟨rfl, rfl, rfl, rfl, rfl, rfl, rfl, rfl, rfl, rfl, trivial⟩ (by repeat constructor))
  refine cE (σ := Nat × Value × Unit) (.alt (aC [7, 8, 9, 10] (.alt (aC [6, 11] (aC [13, 14, 15, 16] (aC [12, 17, 18, 19, 20] (.nil)))) (aC [13, 14, 15, 16] (aC [6, 11] (aC [12, 17, 18, 19, 20] (.nil)))))) (aC [13, 14, 15, 16] (aC [7, 8, 9, 10] (aC [6, 11] (aC [12, 17, 18, 19, 20] (.nil)))))) (fun ⟨lt0, ap0, ()⟩ => [(1, .bool false), (2, .pointer (some ⟨b2, 0, none⟩)), (10, .int .i64 k), (11, .pointer (some ⟨b11, 0, none⟩)), (7, v1), (8, v2), (9, v3), (48, ap0)]) (fun ⟨lt0, ap0, ()⟩ => [.ow ap0 3 1 (k + 1) (aP ((x.days.take k).map (·.n0)) ++ [.int .i64 n0]), .ow v2 3 1 k (aP ((x.days.take k).map (·.m1))), .ow v3 3 1 k (aP ((x.days.take k).map (·.l0)))]) ?_ (fun hS4_5 => ?_)
  ·rintro ⟨lt0, ap0, _⟩
   refine bM ?_ ?_
   ·skip
    refine aY (by repeat (first | exact PickL.nil | (apply PickL.cons; rfl))) fun K1 hK1 => ?_
    (refine aG V Z Z Z (aG V Z Z Z (aN V Z Z Z ?_)))
    refine bK 3 [.int .i64 m1] rfl (by kernel_rfl) rfl (fun lt1 => ?_)
    (refine aO ?_)
    exact hK1 _ _ (hS4_5_10 ⟨lt0, ap0, lt1, ()⟩ _ _ ⟨rfl, rfl, rfl, rfl, rfl, rfl, rfl, rfl, rfl, trivial⟩ (by repeat constructor))
   ·skip
    refine aY (by repeat (first | exact PickL.nil | (apply PickL.cons; rfl))) fun K1 hK1 => ?_
    (refine aG V Z Z Z (aG V Z Z Z (aN V Z Z Z ?_)))
    refine bK 3 [.int .i64 l0] rfl (by kernel_rfl) rfl (fun lt2 => ?_)
    (refine aO ?_)
    exact hK1 _ _ (hS4_5_16 ⟨lt0, ap0, lt2, ()⟩ _ _ ⟨rfl, rfl, rfl, rfl, rfl, rfl, rfl, rfl, rfl, trivial⟩ (by repeat constructor))
  refine cE (σ := Nat × Nat × Unit) (.alt (aC [0, 5] (.alt (aC [6, 11] (aC [13, 14, 15, 16] (aC [12, 17, 18, 19, 20] (.nil)))) (aC [13, 14, 15, 16] (aC [6, 11] (aC [12, 17, 18, 19, 20] (.nil)))))) (aC [13, 14, 15, 16] (aC [0, 5] (aC [6, 11] (aC [12, 17, 18, 19, 20] (.nil)))))) (fun ⟨lt0, lt1, ()⟩ => [(1, .bool false), (2, .pointer (some ⟨b2, 0, none⟩)), (10, .int .i64 k), (11, .pointer (some ⟨b11, 0, none⟩)), (7, v1), (8, v2), (9, v3), (47, .slice (some ⟨lt0, 0, none⟩) 1 1), (53, .slice (some ⟨lt1, 0, none⟩) 1 1)]) (fun ⟨lt0, lt1, ()⟩ => [.ow v1 3 1 k (aP ((x.days.take k).map (·.n0))), .pt lt0 [.int .i64 n0] 3, .ow v2 3 1 k (aP ((x.days.take k).map (·.m1))), .pt lt1 [.int .i64 m1] 3, .ow v3 3 1 k (aP ((x.days.take k).map (·.l0)))]) ?_ (fun hS4_10 => ?_)
  ·rintro ⟨lt0, lt1, _⟩
   refine bM ?_ ?_
   ·skip
    refine aY (by repeat (first | exact PickL.nil | (apply PickL.cons; rfl))) fun K1 hK1 => ?_
    (refine aG V Z Z Z ?_)
    refine bQ (q := 1) slI rfl rfl rfl (fun v' => by repeat constructor) (fun w' hs => ⟨_, _, Blk.rd (hs.blk (b := lt0) (by repeat constructor)) rfl 1⟩) (by simp [cU]) (by omega) (by omega) (fun ap0 => ?_)
    (refine aO ?_)
    exact hK1 _ _ (hS4_5_10 ⟨lt0, ap0, lt1, ()⟩ _ _ ⟨rfl, rfl, rfl, rfl, rfl, rfl, rfl, rfl, rfl, trivial⟩ (by repeat constructor))
   ·skip
    refine aY (by repeat (first | exact PickL.nil | (apply PickL.cons; rfl))) fun K1 hK1 => ?_
    (refine aG V Z Z Z (aG V Z Z Z (aN V Z Z Z ?_)))
    refine bK 3 [.int .i64 l0] rfl (by kernel_rfl) rfl (fun lt2 => ?_)
    (refine aO ?_)
    exact hK1 _ _ (hS4_10_16 ⟨lt0, lt1, lt2, ()⟩ _ _ ⟨rfl, rfl, rfl, rfl, rfl, rfl, rfl, rfl, rfl, rfl, trivial⟩ (by repeat constructor))
  refine cE (σ := Nat × Nat × Unit) (.alt (aC [0, 5] (aC [7, 8, 9, 10] (aC [6, 11] (aC [12, 17, 18, 19, 20] (.nil))))) (aC [7, 8, 9, 10] (aC [0, 5] (aC [6, 11] (aC [12, 17, 18, 19, 20] (.nil)))))) (fun ⟨lt0, lt2, ()⟩ => [(1, .bool false), (2, .pointer (some ⟨b2, 0, none⟩)), (10, .int .i64 k), (11, .pointer (some ⟨b11, 0, none⟩)), (7, v1), (8, v2), (9, v3), (47, .slice (some ⟨lt0, 0, none⟩) 1 1), (59, .slice (some ⟨lt2, 0, none⟩) 1 1)]) (fun ⟨lt0, lt2, ()⟩ => [.ow v1 3 1 k (aP ((x.days.take k).map (·.n0))), .pt lt0 [.int .i64 n0] 3, .ow v2 3 1 k (aP ((x.days.take k).map (·.m1))), .ow v3 3 1 k (aP ((x.days.take k).map (·.l0))), .pt lt2 [.int .i64 l0] 3]) ?_ (fun hS4_16 => ?_)
  ·rintro ⟨lt0, lt2, _⟩
   refine bM ?_ ?_
   ·skip
    refine aY (by repeat (first | exact PickL.nil | (apply PickL.cons; rfl))) fun K1 hK1 => ?_
    (refine aG V Z Z Z ?_)
    refine bQ (q := 1) slI rfl rfl rfl (fun v' => by repeat constructor) (fun w' hs => ⟨_, _, Blk.rd (hs.blk (b := lt0) (by repeat constructor)) rfl 1⟩) (by simp [cU]) (by omega) (by omega) (fun ap0 => ?_)
    (refine aO ?_)
    exact hK1 _ _ (hS4_5_16 ⟨lt0, ap0, lt2, ()⟩ _ _ ⟨rfl, rfl, rfl, rfl, rfl, rfl, rfl, rfl, rfl, trivial⟩ (by repeat constructor))
   ·skip
    refine aY (by repeat (first | exact PickL.nil | (apply PickL.cons; rfl))) fun K1 hK1 => ?_
    (refine aG V Z Z Z (aG V Z Z Z (aN V Z Z Z ?_)))
    refine bK 3 [.int .i64 m1] rfl (by kernel_rfl) rfl (fun lt1 => ?_)
    (refine aO ?_)
    exact hK1 _ _ (hS4_10_16 ⟨lt0, lt1, lt2, ()⟩ _ _ ⟨rfl, rfl, rfl, rfl, rfl, rfl, rfl, rfl, rfl, rfl, trivial⟩ (by repeat constructor))
  refine cE (σ := Nat × Nat × Unit) (aC [1, 2, 3, 4] (aC [0, 5] (aC [6, 11] (aC [12, 17, 18, 19, 20] (.nil))))) (fun ⟨lt1, lt2, ()⟩ => [(1, .bool false), (2, .pointer (some ⟨b2, 0, none⟩)), (10, .int .i64 k), (11, .pointer (some ⟨b11, 0, none⟩)), (7, v1), (8, v2), (9, v3), (53, .slice (some ⟨lt1, 0, none⟩) 1 1), (59, .slice (some ⟨lt2, 0, none⟩) 1 1)]) (fun ⟨lt1, lt2, ()⟩ => [.ow v1 3 1 k (aP ((x.days.take k).map (·.n0))), .ow v2 3 1 k (aP ((x.days.take k).map (·.m1))), .pt lt1 [.int .i64 m1] 3, .ow v3 3 1 k (aP ((x.days.take k).map (·.l0))), .pt lt2 [.int .i64 l0] 3]) ?_ (fun hS10_16 => ?_)
  ·rintro ⟨lt1, lt2, _⟩
   refine aY (by repeat (first | exact PickL.nil | (apply PickL.cons; rfl))) fun K1 hK1 => ?_
   (refine aG V Z Z Z (aG V Z Z Z (aN V Z Z Z ?_)))
   refine bK 3 [.int .i64 n0] rfl (by kernel_rfl) rfl (fun lt0 => ?_)
   (refine aO ?_)
   exact hK1 _ _ (hS4_10_16 ⟨lt0, lt1, lt2, ()⟩ _ _ ⟨rfl, rfl, rfl, rfl, rfl, rfl, rfl, rfl, rfl, rfl, trivial⟩ (by repeat constructor))
  refine cE (σ := Nat × Unit) (.alt (aC [0, 5] (.alt (aC [7, 8, 9, 10] (.alt (aC [6, 11] (aC [13, 14, 15, 16] (aC [12, 17, 18, 19, 20] (.nil)))) (aC [13, 14, 15, 16] (aC [6, 11] (aC [12, 17, 18, 19, 20] (.nil)))))) (aC [13, 14, 15, 16] (aC [7, 8, 9, 10] (aC [6, 11] (aC [12, 17, 18, 19, 20] (.nil))))))) (.alt (aC [7, 8, 9, 10] (.alt (aC [0, 5] (.alt (aC [6, 11] (aC [13, 14, 15, 16] (aC [12, 17, 18, 19, 20] (.nil)))) (aC [13, 14, 15, 16] (aC [6, 11] (aC [12, 17, 18, 19, 20] (.nil)))))) (aC [13, 14, 15, 16] (aC [0, 5] (aC [6, 11] (aC [12, 17, 18, 19, 20] (.nil))))))) (aC [13, 14, 15, 16] (.alt (aC [0, 5] (aC [7, 8, 9, 10] (aC [6, 11] (aC [12, 17, 18, 19, 20] (.nil))))) (aC [7, 8, 9, 10] (aC [0, 5] (aC [6, 11] (aC [12, 17, 18, 19, 20] (.nil))))))))) (fun ⟨lt0, ()⟩ => [(1, .bool false), (2, .pointer (some ⟨b2, 0, none⟩)), (10, .int .i64 k), (11, .pointer (some ⟨b11, 0, none⟩)), (7, v1), (8, v2), (9, v3), (47, .slice (some ⟨lt0, 0, none⟩) 1 1)]) (fun ⟨lt0, ()⟩ => [.ow v1 3 1 k (aP ((x.days.take k).map (·.n0))), .pt lt0 [.int .i64 n0] 3, .ow v2 3 1 k (aP ((x.days.take k).map (·.m1))), .ow v3 3 1 k (aP ((x.days.take k).map (·.l0)))]) ?_ (fun hS4 => ?_)
  ·rintro ⟨lt0, _⟩
   refine bM ?_ (bM ?_ ?_)
   ·skip
    refine aY (by repeat (first | exact PickL.nil | (apply PickL.cons; rfl))) fun K1 hK1 => ?_
    (refine aG V Z Z Z ?_)
    refine bQ (q := 1) slI rfl rfl rfl (fun v' => by repeat constructor) (fun w' hs => ⟨_, _, Blk.rd (hs.blk (b := lt0) (by repeat constructor)) rfl 1⟩) (by simp [cU]) (by omega) (by omega) (fun ap0 => ?_)
    (refine aO ?_)
    exact hK1 _ _ (hS4_5 ⟨lt0, ap0, ()⟩ _ _ ⟨rfl, rfl, rfl, rfl, rfl, rfl, rfl, rfl, trivial⟩ (by repeat constructor))
   ·skip
    refine aY (by repeat (first | exact PickL.nil | (apply PickL.cons; rfl))) fun K1 hK1 => ?_
    (refine aG V Z Z Z (aG V Z Z Z (aN V Z Z Z ?_)))
    refine bK 3 [.int .i64 m1] rfl (by kernel_rfl) rfl (fun lt1 => ?_)
    (refine aO ?_)
    exact hK1 _ _ (hS4_10 ⟨lt0, lt1, ()⟩ _ _ ⟨rfl, rfl, rfl, rfl, rfl, rfl, rfl, rfl, rfl, trivial⟩ (by repeat constructor))
   ·skip
    refine aY (by repeat (first | exact PickL.nil | (apply PickL.cons; rfl))) fun K1 hK1 => ?_
    (refine aG V Z Z Z (aG V Z Z Z (aN V Z Z Z ?_)))
    refine bK 3 [.int .i64 l0] rfl (by kernel_rfl) rfl (fun lt2 => ?_)
    (refine aO ?_)
    exact hK1 _ _ (hS4_16 ⟨lt0, lt2, ()⟩ _ _ ⟨rfl, rfl, rfl, rfl, rfl, rfl, rfl, rfl, rfl, trivial⟩ (by repeat constructor))
  refine cE (σ := Nat × Unit) (.alt (aC [1, 2, 3, 4] (.alt (aC [0, 5] (.alt (aC [6, 11] (aC [13, 14, 15, 16] (aC [12, 17, 18, 19, 20] (.nil)))) (aC [13, 14, 15, 16] (aC [6, 11] (aC [12, 17, 18, 19, 20] (.nil)))))) (aC [13, 14, 15, 16] (aC [0, 5] (aC [6, 11] (aC [12, 17, 18, 19, 20] (.nil))))))) (aC [13, 14, 15, 16] (aC [1, 2, 3, 4] (aC [0, 5] (aC [6, 11] (aC [12, 17, 18, 19, 20] (.nil))))))) (fun ⟨lt1, ()⟩ => [(1, .bool false), (2, .pointer (some ⟨b2, 0, none⟩)), (10, .int .i64 k), (11, .pointer (some ⟨b11, 0, none⟩)), (7, v1), (8, v2), (9, v3), (53, .slice (some ⟨lt1, 0, none⟩) 1 1)]) (fun ⟨lt1, ()⟩ => [.ow v1 3 1 k (aP ((x.days.take k).map (·.n0))), .ow v2 3 1 k (aP ((x.days.take k).map (·.m1))), .pt lt1 [.int .i64 m1] 3, .ow v3 3 1 k (aP ((x.days.take k).map (·.l0)))]) ?_ (fun hS10 => ?_)
  ·rintro ⟨lt1, _⟩
   refine bM ?_ ?_
   ·skip
    refine aY (by repeat (first | exact PickL.nil | (apply PickL.cons; rfl))) fun K1 hK1 => ?_
    (refine aG V Z Z Z (aG V Z Z Z (aN V Z Z Z ?_)))
    refine bK 3 [.int .i64 n0] rfl (by kernel_rfl) rfl (fun lt0 => ?_)
    (refine aO ?_)
    exact hK1 _ _ (hS4_10 ⟨lt0, lt1, ()⟩ _ _ ⟨rfl, rfl, rfl, rfl, rfl, rfl, rfl, rfl, rfl, trivial⟩ (by repeat constructor))
   ·skip
    refine aY (by repeat (first | exact PickL.nil | (apply PickL.cons; rfl))) fun K1 hK1 => ?_
    (refine aG V Z Z Z (aG V Z Z Z (aN V Z Z Z ?_)))
    refine bK 3 [.int .i64 l0] rfl (by kernel_rfl) rfl (fun lt2 => ?_)
    (refine aO ?_)
    exact hK1 _ _ (hS10_16 ⟨lt1, lt2, ()⟩ _ _ ⟨rfl, rfl, rfl, rfl, rfl, rfl, rfl, rfl, rfl, trivial⟩ (by repeat constructor))
  refine cE (σ := Nat × Unit) (.alt (aC [1, 2, 3, 4] (.alt (aC [0, 5] (aC [7, 8, 9, 10] (aC [6, 11] (aC [12, 17, 18, 19, 20] (.nil))))) (aC [7, 8, 9, 10] (aC [0, 5] (aC [6, 11] (aC [12, 17, 18, 19, 20] (.nil))))))) (aC [7, 8, 9, 10] (aC [1, 2, 3, 4] (aC [0, 5] (aC [6, 11] (aC [12, 17, 18, 19, 20] (.nil))))))) (fun ⟨lt2, ()⟩ => [(1, .bool false), (2, .pointer (some ⟨b2, 0, none⟩)), (10, .int .i64 k), (11, .pointer (some ⟨b11, 0, none⟩)), (7, v1), (8, v2), (9, v3), (59, .slice (some ⟨lt2, 0, none⟩) 1 1)]) (fun ⟨lt2, ()⟩ => [.ow v1 3 1 k (aP ((x.days.take k).map (·.n0))), .ow v2 3 1 k (aP ((x.days.take k).map (·.m1))), .ow v3 3 1 k (aP ((x.days.take k).map (·.l0))), .pt lt2 [.int .i64 l0] 3]) ?_ (fun hS16 => ?_)
  ·rintro ⟨lt2, _⟩
   refine bM ?_ ?_
   ·skip
    refine aY (by repeat (first | exact PickL.nil | (apply PickL.cons; rfl))) fun K1 hK1 => ?_
    (refine aG V Z Z Z (aG V Z Z Z (aN V Z Z Z ?_)))
    refine bK 3 [.int .i64 n0] rfl (by kernel_rfl) rfl (fun lt0 => ?_)
    (refine aO ?_)
    exact hK1 _ _ (hS4_16 ⟨lt0, lt2, ()⟩ _ _ ⟨rfl, rfl, rfl, rfl, rfl, rfl, rfl, rfl, rfl, trivial⟩ (by repeat constructor))
   ·skip
    refine aY (by repeat (first | exact PickL.nil | (apply PickL.cons; rfl))) fun K1 hK1 => ?_
    (refine aG V Z Z Z (aG V Z Z Z (aN V Z Z Z ?_)))
    refine bK 3 [.int .i64 m1] rfl (by kernel_rfl) rfl (fun lt1 => ?_)
    (refine aO ?_)
    exact hK1 _ _ (hS10_16 ⟨lt1, lt2, ()⟩ _ _ ⟨rfl, rfl, rfl, rfl, rfl, rfl, rfl, rfl, rfl, trivial⟩ (by repeat constructor))
  refine bM ?_ (bM ?_ ?_)
  ·skip
   refine aY (by repeat (first | exact PickL.nil | (apply PickL.cons; rfl))) fun K1 hK1 => ?_
   (refine aG V Z Z Z (aG V Z Z Z (aN V Z Z Z ?_)))
   refine bK 3 [.int .i64 n0] rfl (by kernel_rfl) rfl (fun lt0 => ?_)
   (refine aO ?_)
   exact hK1 _ _ (hS4 ⟨lt0, ()⟩ _ _ ⟨rfl, rfl, rfl, rfl, rfl, rfl, rfl, rfl, trivial⟩ (by repeat constructor))
  ·skip
   refine aY (by repeat (first | exact PickL.nil | (apply PickL.cons; rfl))) fun K1 hK1 => ?_
   (refine aG V Z Z Z (aG V Z Z Z (aN V Z Z Z ?_)))
   refine bK 3 [.int .i64 m1] rfl (by kernel_rfl) rfl (fun lt1 => ?_)
   (refine aO ?_)
   exact hK1 _ _ (hS10 ⟨lt1, ()⟩ _ _ ⟨rfl, rfl, rfl, rfl, rfl, rfl, rfl, rfl, trivial⟩ (by repeat constructor))
  ·skip
   refine aY (by repeat (first | exact PickL.nil | (apply PickL.cons; rfl))) fun K1 hK1 => ?_
   (refine aG V Z Z Z (aG V Z Z Z (aN V Z Z Z ?_)))
   refine bK 3 [.int .i64 l0] rfl (by kernel_rfl) rfl (fun lt2 => ?_)
   (refine aO ?_)
   exact hK1 _ _ (hS16 ⟨lt2, ()⟩ _ _ ⟨rfl, rfl, rfl, rfl, rfl, rfl, rfl, rfl, trivial⟩ (by repeat constructor))
 ·obtain rfl : k = x.days.length := by omega
  clear hc hK
  (refine bO _ rfl (aD (aB ?_)); (iterate 6 refine aA V Z Z ?_); refine aF (aS ?_))
  refine aU V Z (by repeat constructor) fun w hs => ?_
  exact ⟨(v1, v2, v3), rfl, by rw [List.take_length] at hs; exact hs.sp (by repeat constructor)⟩
end Go.Proofs.YtgeajgmefokifaaGreat

/- Walks: winters and weathers compared that are equal. -/
namespace Go.Proofs.YtgeajgmefokifaaGreat
open Go Go.Eng

theorem jZ (w : World) (lo hi lo2 hi2 : Nat) (x : Wn) (a b : Option Addr) (c d : Nat) (h1 : RdD w lo hi (.slice a x.days.length c) x.days) (h2 : RdD w lo2 hi2 (.slice b x.days.length d) x.days) (hlen : x.days.length ≤ 1000000) :
  Ca Tryz.prog 64 [.agg (wnC x a c).toArray, .agg (wnC x b d).toArray] w fun r w' => r = .bool true ∧ Chg [] w w' := by
 refine cS (Sat.nil w M0) Tryz.func64 rfl (by simp [Tryz.ntmps64]) ?_
 (refine aD (aB ?_))
 refine bD Z Z (fun b2 => ?_)
 refine bD Z Z (fun b3 => ?_)
 (refine aA V Z Z (aF (aD (aB (aA V Z Z ?_)))); refine aI V Z Z Z ?_; refine aA V Z Z ?_; refine aI V Z Z Z ?_; refine cO V Z Z Z (by omega) (aA V Z Z (aE Z (aA V Z Z (aE Z ?_)))); refine aI V Z Z Z ?_; refine aE Z (aA V Z Z (aE Z ?_)); refine aI V Z Z Z ?_; refine aE Z (cO V Z Z Z (by omega) (aA V Z Z (aA V Z Z (aE Z (aA V Z Z (aE Z ?_)))))); refine aI V Z Z Z ?_; refine aE Z (aA V Z Z (aE Z ?_)); refine aI V Z Z Z ?_; refine aE Z ?_)
 refine aK (val := .bool true) V rfl rfl rfl rfl (fun w hs => ?_) ?_; exact eqD_ca w lo hi lo2 hi2 _ _ x.days (RdE.keep h1 hs.chg0) (RdE.keep h2 hs.chg0) hlen
 (refine aA V Z Z (aA V Z Z (aF (aS ?_))))
 refine aU V Z (by repeat constructor) fun w hs => ?_
 exact ⟨rfl, hs.chg0⟩
theorem mC (w : World) (t : Wt) (v1 v2 v3 u1 u2 u3 : Value) (h1 : WtR w t v1 v2 v3) (h2 : WtR w t u1 u2 u3) (hl1 : t.need.length ≤ 1000000) (hl2 : t.make.length ≤ 1000000) (hl3 : t.loss.length ≤ 1000000) :
  Ca Tryz.prog 58 [.agg #[v1, v2, v3], .agg #[u1, u2, u3]] w fun r w' => r = .bool true ∧ Chg [] w w' := by
 obtain ⟨p1, q1, r1⟩ := h1.n
 obtain ⟨p2, q2, r2⟩ := h1.m
 obtain ⟨p3, q3, r3⟩ := h1.l
 obtain ⟨P1, Q1, s1⟩ := h2.n
 obtain ⟨P2, Q2, s2⟩ := h2.m
 obtain ⟨P3, Q3, s3⟩ := h2.l
 obtain ⟨a1, c1, rfl, _⟩ := RdI.outI r1
 obtain ⟨a2, c2, rfl, _⟩ := RdI.outI r2
 obtain ⟨a3, c3, rfl, _⟩ := RdI.outI r3
 obtain ⟨d1, e1, rfl, _⟩ := RdI.outI s1
 obtain ⟨d2, e2, rfl, _⟩ := RdI.outI s2
 obtain ⟨d3, e3, rfl, _⟩ := RdI.outI s3
 refine cS (Sat.nil w M0) Tryz.func58 rfl (by simp [Tryz.ntmps58]) ?_
 (refine aD (aB ?_))
 refine bD Z Z (fun b2 => ?_)
 refine bD Z Z (fun b3 => ?_)
 (refine aA V Z Z (aF (aD (aB (aA V Z Z ?_)))); refine aI V Z Z Z ?_; refine aA V Z Z ?_; refine aI V Z Z Z ?_)
 refine aK (val := .bool true) V rfl rfl rfl rfl (fun w hs => ?_) ?_; exact hJ w p1 q1 P1 Q1 _ _ t.need (RdE.keep r1 hs.chg0) (RdE.keep s1 hs.chg0) hl1
 (refine aA V Z Z (aE Z (aA V Z Z (aE Z ?_))); refine aI V Z Z Z ?_; refine aE Z (aA V Z Z (aE Z ?_)); refine aI V Z Z Z ?_; refine aE Z ?_)
 refine aK (val := .bool true) V rfl rfl rfl rfl (fun w hs => ?_) ?_; exact hJ w p2 q2 P2 Q2 _ _ t.make (RdE.keep r2 hs.chg0) (RdE.keep s2 hs.chg0) hl2
 (refine aA V Z Z (aA V Z Z (aE Z (aA V Z Z (aE Z ?_)))); refine aI V Z Z Z ?_; refine aE Z (aA V Z Z (aE Z ?_)); refine aI V Z Z Z ?_; refine aE Z ?_)
 refine aK (val := .bool true) V rfl rfl rfl rfl (fun w hs => ?_) ?_; exact hJ w p3 q3 P3 Q3 _ _ t.loss (RdE.keep r3 hs.chg0) (RdE.keep s3 hs.chg0) hl3
 (refine aA V Z Z (aA V Z Z (aF (aS ?_))))
 refine aU V Z (by repeat constructor) fun w hs => ?_
 exact ⟨rfl, hs.chg0⟩
end Go.Proofs.YtgeajgmefokifaaGreat

/- Winters that are copied, and whose days are changed. -/
namespace Go.Proofs.YtgeajgmefokifaaGreat
open Go Go.Eng

/-! The cells of days -/
def fldD (d : Dy) : Nat → Int
 | 0 => d.n0
 | 1 => d.n1
 | 2 => d.m0
 | 3 => d.m1
 | 4 => d.l0
 | _ => d.l1
def setD (d : Dy) (f : Nat) (v : Int) : Dy :=
 match f with
 | 0 => { d with n0 := v }
 | 1 => { d with n1 := v }
 | 2 => { d with m0 := v }
 | 3 => { d with m1 := v }
 | 4 => { d with l0 := v }
 | _ => { d with l1 := v }
/-- Days in a block, with room behind them. -/
abbrev dyB (g : Nat) (l : List Dy) (sp : List Value) : Ck := .pt g (dyC l ++ sp) 46
section
variable {P : Program} {T : Tab} {ro : Cx} {n : Nat} {F : Fin} {w0 : World} {M : Nat → Prop} {k : List It} {ops : Array Oper} {rest : List Oper} {e : Env} {H Hq : List Ck}
end
/-! Copies -/
theorem cloneD_ca (w : World) (lo hi : Nat) (v : Value) (l : List Dy) (h : RdD w lo hi v l) (hlen : l.length ≤ 1000000) : Ca Tryz.prog 107 [v] w fun r w' => ∃ u : Value, r = u ∧ Sat w M0 [.ow u 46 6 l.length (dyC l)] w' := by
 obtain ⟨a, ca, rfl, _⟩ := RdD.outI h
 refine cS (Sat.nil w M0) Tryz.func107 rfl (by simp [Tryz.ntmps107]) ?_
 (refine aD (aB (aA V Z Z (aF (aD (aB (aA V Z Z ?_)))))))
 refine lD (H' := [.ow (.slice none 0 0) 46 6 0 []]) (fun w' hs => Sat.ownil hs 46 6) ?_
 refine bZ (q := l.length) slD rfl rfl rfl (fun v' => by repeat constructor) (fun w' hs => ⟨lo, hi, RdD.row (RdE.keep h hs.chg0)⟩) (dyC_one l) (by omega) (by omega) (fun u => ?_)
 (refine aA V Z Z (aF (aS ?_)))
 refine aU V Z (by repeat constructor) fun w hs => ?_
 exact ⟨u, rfl, by simpa using hs⟩
theorem dY (w : World) (lo hi : Nat) (x : Wn) (a : Option Addr) (c : Nat) (h : RdD w lo hi (.slice a x.days.length c) x.days) (hlen : x.days.length ≤ 1000000) :
  Ca Tryz.prog 52 [.agg (wnC x a c).toArray] w fun r w' => ∃ y : Option Addr × Nat, r = .agg (wnC x y.1 y.2).toArray ∧ Sat w M0 [.ow (.slice y.1 x.days.length y.2) 46 6 x.days.length (dyC x.days)] w' := by
 refine cS (Sat.nil w M0) Tryz.func52 rfl (by simp [Tryz.ntmps52]) ?_
 (refine aD (aB ?_))
 refine bD Z Z (fun b1 => ?_)
 refine bI dQ rfl (fun b2 => ?_)
 (refine aF (aD ?_))
 refine cQ _ [.pt b2 _ _] (Sp.cons (by repeat constructor) (Sp.refl _)) (by kernel_rfl) (by kernel_rfl) ?_
 (refine aG V Z Z Z (aN V Z Z Z (aG V Z Z Z (aN V Z Z Z (aG V Z Z Z (aN V Z Z Z ?_))))))
 refine bH (β := Value) V [] _ M0 rfl rfl rfl rfl (Sp.refl _) (fun _ h => h.elim) (fun w' hs => cloneD_ca w' lo hi _ x.days (RdE.keep h hs.chg0) hlen) ?_
 rintro _ u rfl
 dsimp only [List.cons_append, List.nil_append]
 refine bX (fun w hs => hs.slice2 (v := u) (by repeat constructor)) ?_
 rintro ⟨ua, uc, rfl⟩
 skip
 refine qf_mk #[.int .i64 x.stock, .int .i64 x.store, .slice ua x.days.length uc] rfl (by kernel_rfl) rfl ?_
 (refine cZ V Z Z Z Z Z (by repeat constructor) rfl ?_; refine aO (aS ?_))
 refine aU V Z (by repeat constructor) fun w hs => ?_
 exact ⟨(ua, uc), rfl, hs.sp (by repeat constructor)⟩
end Go.Proofs.YtgeajgmefokifaaGreat

/- Walks: a weather copied. -/
namespace Go.Proofs.YtgeajgmefokifaaGreat
open Go Go.Eng

theorem gV (w : World) (lo hi : Nat) (v : Value) (l : List Int) (h : RdI w lo hi v l) (hlen : l.length ≤ 1000000) : Ca Tryz.prog 29 [v] w fun r w' => ∃ u : Value, r = u ∧ Sat w M0 [.ow u 3 1 l.length (aP l)] w' := by
 obtain ⟨a, ca, rfl, _⟩ := RdI.outI h
 have hrow : ∀ w', Chg [] w w' → Rd w' lo hi (.slice a l.length ca) 1 l.length (aP l) := fun w' hc => by
  have := (RdE.keep h hc).rd
  rw [jS] at this
  simpa using this
 refine cS (Sat.nil w M0) Tryz.func29 rfl (by simp [Tryz.ntmps29]) ?_
 (refine aD (aB (aA V Z Z (aF (aD (aB (aA V Z Z ?_)))))))
 refine lD (H' := [.ow (.slice none 0 0) 3 1 0 []]) (fun w' hs => Sat.ownil hs 3 1) ?_
 refine bZ (q := l.length) slI rfl rfl rfl (fun v' => by repeat constructor) (fun w' hs => ⟨lo, hi, hrow w' hs.chg0⟩) (by simp [cU]) (by omega) (by omega) (fun u => ?_)
 (refine aA V Z Z (aF (aS ?_)))
 refine aU V Z (by repeat constructor) fun w hs => ?_
 exact ⟨u, rfl, by simpa using hs⟩
theorem gA (w : World) (t : Wt) (v1 v2 v3 : Value) (h : WtR w t v1 v2 v3) (hl1 : t.need.length ≤ 1000000) (hl2 : t.make.length ≤ 1000000) (hl3 : t.loss.length ≤ 1000000) :
  Ca Tryz.prog 53 [.agg #[v1, v2, v3]] w fun r w' => ∃ y : Value × Value × Value, r = .agg #[y.1, y.2.1, y.2.2] ∧ Sat w M0 (wtK y.1 y.2.1 y.2.2 t) w' := by
 obtain ⟨p1, q1, r1⟩ := h.n
 obtain ⟨p2, q2, r2⟩ := h.m
 obtain ⟨p3, q3, r3⟩ := h.l
 obtain ⟨a1, c1, rfl, _⟩ := RdI.outI r1
 obtain ⟨a2, c2, rfl, _⟩ := RdI.outI r2
 obtain ⟨a3, c3, rfl, _⟩ := RdI.outI r3
 refine cS (Sat.nil w M0) Tryz.func53 rfl (by simp [Tryz.ntmps53]) ?_
 (refine aD (aB ?_))
 refine bD Z Z (fun b1 => ?_)
 refine bI dR rfl (fun b2 => ?_)
 (refine aF (aD ?_))
 refine cQ _ [.pt b2 _ _] (Sp.cons (by repeat constructor) (Sp.refl _)) (by kernel_rfl) (by kernel_rfl) ?_
 (refine aG V Z Z Z (aN V Z Z Z ?_))
 refine bH (β := Value) V [] _ M0 rfl rfl rfl rfl (Sp.refl _) (fun _ h => h.elim) (fun w' hs => gV w' p1 q1 _ t.need (RdE.keep r1 hs.chg0) hl1) ?_
 rintro _ u1 rfl
 dsimp only [List.cons_append, List.nil_append]
 refine bX (fun w hs => hs.slice2 (v := u1) (by repeat constructor)) ?_
 rintro ⟨ua1, uc1, rfl⟩
 (refine aG V Z Z Z (aN V Z Z Z ?_))
 refine bH (β := Value) V [] _ M0 rfl rfl rfl rfl (Sp.refl _) (fun _ h => h.elim) (fun w' hs => gV w' p2 q2 _ t.make (RdE.keep r2 hs.chg0) hl2) ?_
 rintro _ u2 rfl
 dsimp only [List.cons_append, List.nil_append]
 refine bX (fun w hs => hs.slice2 (v := u2) (by repeat constructor)) ?_
 rintro ⟨ua2, uc2, rfl⟩
 (refine aG V Z Z Z (aN V Z Z Z ?_))
 refine bH (β := Value) V [] _ M0 rfl rfl rfl rfl (Sp.refl _) (fun _ h => h.elim) (fun w' hs => gV w' p3 q3 _ t.loss (RdE.keep r3 hs.chg0) hl3) ?_
 rintro _ u3 rfl
 dsimp only [List.cons_append, List.nil_append]
 refine bX (fun w hs => hs.slice2 (v := u3) (by repeat constructor)) ?_
 rintro ⟨ua3, uc3, rfl⟩
 skip
 refine qf_mk #[.slice ua1 t.need.length uc1, .slice ua2 t.make.length uc2, .slice ua3 t.loss.length uc3] rfl (by kernel_rfl) rfl ?_
 (refine cZ V Z Z Z Z Z (by repeat constructor) rfl ?_; refine aO (aS ?_))
 refine aU V Z (by repeat constructor) fun w hs => ?_
 exact ⟨(_, _, _), rfl, hs.sp (by repeat constructor)⟩
end Go.Proofs.YtgeajgmefokifaaGreat

/- Walk: a winter of the reference. -/
namespace Go.Proofs.YtgeajgmefokifaaGreat
open Go Go.Eng

theorem slDr : SlT Tryz.prog 106 175 6 48 (.agg #[.int .i64 0, .int .i64 0, .int .i64 0, .int .i64 0, .int .i64 0, .int .i64 0]) := ⟨by kernel_rfl, by kernel_rfl, by kernel_rfl, by decide⟩
theorem dyC_take (l : List Dy) {k : Nat} (h : k < l.length) : dyC (l.take (k + 1)) = dyC (l.take k) ++ dyC [l[k]] := by
 rw [List.take_succ_eq_append_getElem h]
 exact dyC_snoc _ _
set_option maxHeartbeats 2000000 in
theorem eG (w : World) (lo hi : Nat) (x : Wn) (a : Option Addr) (c : Nat) (h : RdD w lo hi (.slice a x.days.length c) x.days) (hlen : x.days.length ≤ 1000000) :
  Ca Tryz.prog 54 [.agg (wnC x a c).toArray] w fun r w' => ∃ y : Option Addr × Nat, r = .agg (wnC x y.1 y.2).toArray ∧ Sat w M0 [.ow (.slice y.1 x.days.length y.2) 175 6 x.days.length (dyC x.days)] w' := by
 obtain ⟨a', c', he, hsa⟩ := RdD.outI h
 cases he
 refine cS (Sat.nil w M0) Tryz.func54 rfl (by simp [Tryz.ntmps54]) ?_
 (refine aD (aB ?_))
 refine bD Z Z (fun b1 => ?_)
 refine bI dB rfl (fun b2 => ?_)
 (refine aF (aD (aB (aA V Z Z (aI V Z Z Z (aA V Z Z (aI V Z Z Z ?_)))))))
 refine dJ #[.int .i64 x.stock, .int .i64 x.store, .slice none 0 0] rfl (by kernel_rfl) rfl ?_
 skip
 refine bI dB rfl (fun b3 => ?_)
 (refine bS V Z Z Z Z Z (by repeat constructor) rfl ?_; refine aF (aD (aD (aB (aA V Z Z (aI V Z Z Z (aA V Z Z (aA V Z Z (aF (aQ ?_))))))))))
 refine eD (H' := [.pt b3 [.int .i64 x.stock, .int .i64 x.store, .slice none 0 0] 108, .ow (.slice none 0 0) 175 6 0 (dyC []), .pt b1 (wnC x a c) 39, .pt b2 [.int .i64 0, .int .i64 0, .slice none 0 0] 108]) (fun w' hs => (Sat.ownil hs 175 6).sp (by repeat constructor)) ?_
 refine cB (σ := Nat × Value) (fun s => s.1 ≤ x.days.length) (fun s => x.days.length - s.1) (fun s => [(2, .pointer (some ⟨b2, 0, none⟩)), (3, .pointer (some ⟨b3, 0, none⟩)), (12, .slice a x.days.length c), (13, .int .i64 x.days.length), (14, .int .i64 s.1)])
  (fun s => [.pt b3 [.int .i64 x.stock, .int .i64 x.store, s.2] 108, .ow s.2 175 6 s.1 (dyC (x.days.take s.1)), .pt b1 (wnC x a c) 39, .pt b2 [.int .i64 0, .int .i64 0, .slice none 0 0] 108]) (0, .slice none 0 0) (by simp) ⟨rfl, rfl, rfl, rfl, rfl, trivial⟩ (by repeat constructor) ?_
 rintro ⟨k, dv⟩ hk K hK
 simp only at hk
 dsimp only
 (refine aD (aB (aA V Z Z (aF (aD ?_)))))
 refine dL Z (fun hc => ?_) (fun hc => ?_)
 ·have hk2 : k < x.days.length := by first | omega | (simp at hc; omega)
  clear hc
  obtain ⟨b, off, rfl⟩ := hsa (by omega)
  have e1 := dyC_take x.days hk2
  (refine aM (aD (aQ (aD (aB ?_)))))
  refine aV V Z Z Z Z Z (by omega) (by omega) ?_
  skip
  refine dU V Z Z Z Z (fun w hs => RdD.at (RdE.keep h hs.chg0) k hk2) ?_
  skip
  refine bI zero46 rfl (fun b5 => ?_)
  (refine bS V Z Z Z Z Z (by repeat constructor) rfl ?_; refine aF (aB (aA V Z Z (aI V Z Z Z (aJ V Z Z Z ?_)))))
  generalize x.days[k] = d at *
  obtain ⟨n0, n1, m0, m1, l0, l1⟩ := d
  dsimp only at e1 ⊢
  refine cJ 175 (dyC [⟨n0, n1, m0, m1, l0, l1⟩]) rfl (by kernel_rfl) rfl (fun bn => ?_)
  refine bZ (q := 1) slDr rfl rfl rfl (fun v' => by repeat constructor) (fun w' hs => ⟨_, _, Blk.rdDy (hs.blk (b := bn) (by repeat constructor))⟩) (dyC_one _) (by omega) (by omega) (fun u => ?_)
  refine bL (fun w hs => hs.slice (v := u) (by repeat constructor)) ?_
  rintro ⟨a1, g1, d1, rfl⟩
  (refine aA V Z Z ?_; refine ql_st2 V Z Z Z Z (by repeat constructor) ?_; refine aF (bJ (aB (bA V Z Z Z Z (by omega) (by omega) (aA V Z Z (aF ?_))))))
  exact hK (k + 1, .slice a1 g1 d1) _ _ (by simp only; omega) (by simp only; omega) ⟨rfl, rfl, rfl, rfl, rfl, trivial⟩ (by dsimp only; rw [e1]; repeat constructor)
 ·obtain rfl : k = x.days.length := by omega
  clear hc hK
  rw [List.take_length]
  refine cX (fun w hs => hs.slice2 (v := dv) (by repeat constructor)) ?_
  rintro ⟨ua, uc, rfl⟩
  (refine bO _ rfl (aD (aB (aJ V Z Z Z ?_))); refine bS V Z Z Z Z Z (by repeat constructor) rfl ?_; refine aF (aS ?_))
  refine aU V Z (by repeat constructor) fun w hs => ?_
  exact ⟨(ua, uc), rfl, hs.sp (by repeat constructor)⟩
end Go.Proofs.YtgeajgmefokifaaGreat

/- Walks: whether there are too many days, or numbers. -/
namespace Go.Proofs.YtgeajgmefokifaaGreat
open Go Go.Eng

def longB (n : Nat) (ll : List (List Int)) : Bool := (ll.any fun l => decide (70 < l.length) && true) || (decide (65 < n) && true)
theorem longB_no {n : Nat} {ll : List (List Int)} (h : longB n ll = false) : n ≤ 65 ∧ ∀ l ∈ ll, l.length ≤ 70 := by
 simp only [longB, Bool.and_true, Bool.or_eq_false_iff, List.any_eq_false, decide_eq_true_eq, decide_eq_false_iff_not] at h
 exact ⟨by omega, fun l hl => by have := h.1 l hl; omega⟩
set_option maxHeartbeats 1000000 in
theorem longW_ca (w : World) (lo hi : Nat) (x : Wn) (a : Option Addr) (c : Nat) (v : Value) (ll : List (List Int)) (h : RdII w lo hi v ll) (hlen : ll.length ≤ 1000) (hrow : ∀ l ∈ ll, l.length ≤ maxLen) (hx : x.days.length ≤ maxLen) :
  Ca Tryz.prog 51 [.agg (wnC x a c).toArray, v] w fun r w' => r = .bool (longB x.days.length ll) ∧ Chg [] w w' := by
 obtain ⟨la, lc, rfl, hsa⟩ := RdII.outI h
 simp only [maxLen] at hrow hx
 refine cS (Sat.nil w M0) Tryz.func51 rfl (by simp [Tryz.ntmps51]) ?_
 (refine aD (aB ?_))
 refine bD Z Z (fun b2 => ?_)
 (refine aA V Z Z (aF (aD (aD (aB ?_)))); (iterate 3 refine aA V Z Z ?_); refine aF (aQ ?_))
 refine cB (σ := Nat) (fun k => k ≤ ll.length ∧ ∀ l ∈ ll.take k, l.length ≤ 70) (fun k => ll.length - k) (fun k => [(2, .pointer (some ⟨b2, 0, none⟩)), (7, .slice la ll.length lc), (8, .int .i64 ll.length), (9, .int .i64 k)]) (fun _ => [.pt b2 (wnC x a c) 39]) 0 ⟨by omega, by simp⟩ ⟨rfl, rfl, rfl, rfl, trivial⟩ (by repeat constructor) ?_
 rintro k ⟨hk, hall⟩ K hK
 (refine aD (aB (aA V Z Z (aF (aD ?_)))))
 refine dL Z (fun hc => ?_) (fun hc => ?_)
 ·have hk2 : k < ll.length := by omega
  clear hc
  obtain ⟨b, off, rfl⟩ := hsa (by omega)
  obtain ⟨ra, rc, hr, hcell⟩ := h.row k hk2
  have hl := hrow _ (List.getElem_mem hk2)
  (refine aM (aD (aQ (aD (aB ?_)))))
  refine aV V Z Z Z Z Z (by omega) (by omega) ?_
  refine bB (v := .slice ra ll[k].length rc) V rfl rfl rfl (fun w' hs => hcell w' hs.chg0) ?_
  (refine aA V Z Z (aF (aD (aB ?_))); (iterate 3 refine aA V Z Z ?_); refine aF ?_)
  refine dL Z (fun hc => ?_) (fun hc => ?_)
  ·have e : longB x.days.length ll = true := by
    unfold longB
    rw [List.any_eq_true.2 ⟨ll[k], List.getElem_mem hk2, by simp; omega⟩]
    rfl
   (refine aD (aB (aA V Z Z (aF (aS ?_)))))
   refine aU V Z (by repeat constructor) fun w hs => ?_
   exact ⟨by rw [e]; rfl, hs.chg0⟩
  ·(refine aM (bJ (aB (bA V Z Z Z Z (by omega) (by omega) (aA V Z Z (aF ?_))))))
   exact hK (k + 1) _ _ ⟨by omega, fun l hl => by
    rw [List.take_succ_eq_append_getElem hk2] at hl
    rcases List.mem_append.1 hl with hl | hl
    ·exact hall l hl
    ·obtain rfl := List.mem_singleton.1 hl
     omega⟩ (by omega) ⟨rfl, rfl, rfl, rfl, trivial⟩ (by repeat constructor)
 ·obtain rfl : k = ll.length := by omega
  rw [List.take_length] at hall
  have e : longB x.days.length ll = (decide (65 < x.days.length) && true) := by
   unfold longB
   rw [List.any_eq_false.2 (fun l hl => by have := hall l hl; simp; omega)]
   rfl
  by_cases h6 : 65 < x.days.length
  ·(refine bO _ rfl (aD (aB (aA V Z Z ?_))); refine aI V Z Z Z ?_; refine aA V Z Z (cP V Z Z Z (by omega) (aA V Z Z (aF (aS ?_)))))
   refine aU V Z (by repeat constructor) fun w hs => ?_
   exact ⟨by rw [e]; simp [h6, fC], hs.chg0⟩
  ·(refine bO _ rfl (aD (aB (aA V Z Z ?_))); refine aI V Z Z Z ?_; refine aA V Z Z (cT V Z Z Z (by omega) (aA V Z Z (aF (aS ?_)))))
   refine aU V Z (by repeat constructor) fun w hs => ?_
   exact ⟨by rw [e]; simp [h6, fC], hs.chg0⟩
end Go.Proofs.YtgeajgmefokifaaGreat

/- Walk of the reference: piles. -/
/- long -/
namespace Go.Proofs.YtgeajgmefokifaaGreat
open Go Go.Eng

/-- Much is taken from piles, one after the other. -/
structure TkI (much : Int) (l : List Int) (k : Nat) (m : Int) (o : List Int) : Prop where
 kl : k ≤ l.length
 len : o.length = l.length
 mb : 0 ≤ m ∧ m ≤ much
 nn : ∀ x ∈ o, 0 ≤ x ∧ x ≤ 2000000
 eq : rremP much l = o.take k ++ rremP m (o.drop k)
theorem TkI.zero {much : Int} {l : List Int} (h : 0 ≤ much) (hl : ∀ x ∈ l, 0 ≤ x ∧ x ≤ 2000000) : TkI much l 0 much l := ⟨Nat.zero_le _, rfl, ⟨h, Int.le_refl _⟩, hl, by simp⟩
theorem TkI.step {much : Int} {l : List Int} {k : Nat} {m : Int} {o : List Int} (h : TkI much l k m o) (hk : k < o.length) (hm : 0 < m) {n : Int} (hn : n = min o[k] m) : TkI much l (k + 1) (m - n) (o.set k (o[k] - n)) := by
 subst hn
 have h0 := h.nn _ (List.getElem_mem hk)
 refine ⟨by have := h.len; omega, by simp [h.len], by have := h.mb; omega, fun x hx => ?_, ?_⟩
 ·rcases List.mem_or_eq_of_mem_set hx with hx | rfl
  ·exact h.nn x hx
  ·omega
 ·rw [h.eq, List.drop_eq_getElem_cons hk, rremP, if_pos (by omega)]
  have e1 : (o.set k (o[k] - min o[k] m)).take (k + 1) = o.take k ++ [o[k] - min o[k] m] := by
   rw [List.take_succ_eq_append_getElem (by simpa using hk), List.take_set_of_le (Nat.le_refl _)]
   simp
  have e2 : (o.set k (o[k] - min o[k] m)).drop (k + 1) = o.drop (k + 1) := by rw [List.drop_set_of_lt (by omega)]
  rw [e1, e2]
  simp
theorem TkI.full {much : Int} {l : List Int} {k : Nat} {m : Int} {o : List Int} (h : TkI much l k m o) (hk : ¬ k < o.length) : o = rremP much l := by
 have h1 := h.len
 have h2 := h.kl
 rw [h.eq, List.drop_eq_nil_of_le (by omega), List.take_of_length_le (by omega)]
 simp [rremP]
theorem TkI.done {much : Int} {l : List Int} {k : Nat} {m : Int} {o : List Int} (h : TkI much l k m o) (hm : ¬ m > 0) : o = rremP much l := by
 obtain rfl : m = 0 := by have := h.mb; omega
 rw [h.eq, rremP_zero, List.take_append_drop]
theorem fH (l : List Int) (k : Nat) (v : Int) : (aP l).set k (.int .i64 v) = aP (l.set k v) := by simp [aP, List.map_set]

set_option maxHeartbeats 4000000 in
theorem rpiles_ca (w : World) (lo hi : Nat) (x : Wn) (a : Option Addr) (c : Nat) (t : Wt) (v1 v2 v3 : Value) (h : RdD w lo hi (.slice a x.days.length c) x.days) (hx : x.Right) (ht : t.Fine x.days.length) (hw : WtR w t v1 v2 v3) :
  Ca Tryz.prog 66 [.agg (wnC x a c).toArray, v1, v2, v3] w fun r w' => ∃ y : Value, r = y ∧ Sat w M0 [.ow y 3 1 ((hapV x t).stocks.length + 1) (aP (rpP x t (hapV x t).stocks.length))] w' := by
 have hd2 := hx.d2
 have hst := hx.store
 have hsk := hx.stock
 have k1 := ht.need
 have k2 := ht.make
 have k3 := ht.loss
 obtain ⟨lo1, hi1, r1⟩ := hw.n
 obtain ⟨lo2, hi2, r2⟩ := hw.m
 obtain ⟨lo3, hi3, r3⟩ := hw.l
 obtain ⟨a1, c1, rfl, hs1⟩ := RdI.outI r1
 obtain ⟨a2, c2, rfl, hs2⟩ := RdI.outI r2
 obtain ⟨a3, c3, rfl, hs3⟩ := RdI.outI r3
 refine cS (Sat.nil w M0) Tryz.func66 rfl (by simp [Tryz.ntmps66]) ?_
 (refine aD (aB ?_))
 refine bD Z Z (fun b4 => ?_)
 (refine aA V Z Z (aF (aD (aB ?_))); refine ql_loadAB V Z Z Z (by repeat first | exact .head _ | refine .tail _ ?_) (by rfl) (by rfl) ?_; (iterate 3 refine aA V Z Z ?_))
 refine bG (β := Value × Value) V [] _ M0 rfl rfl rfl rfl (Sp.refl _) (fun _ h => h.elim) (fun w' hs => rhap_ca w' lo hi x a c t _ _ _ (RdE.keep h hs.chg0) hx ht (hw.keep hs.chg0)) ?_
 rintro ⟨y1, y2⟩ _ rfl
 dsimp only [List.cons_append, List.nil_append]
 obtain ⟨n, en, hn, eS, eM, hnn, _, _, _, _⟩ := lU hx ht
 rw [en]
 have enM : (hapV x t).made.length = n := by rw [eM]; simp
 rw [enM]
 generalize hapV x t = S at *
 (refine aA V Z Z ?_; (iterate 3 refine aT V Z Z Z ?_); (iterate 3 refine aA V Z Z ?_); refine aF (aD (aB (aA V Z Z ?_))); refine fK V Z Z Z (by repeat first | exact .head _ | refine .tail _ ?_) (by rfl) ?_)
 refine cJ 3 [.int .i64 x.stock] rfl (by kernel_rfl) rfl (fun b0 => ?_)
 refine lD (H' := [.ow (.slice (some ⟨b0, 0, none⟩) 1 1) 3 1 1 (aP (rpP x t 0)), .ow y1 3 1 n (aP S.stocks), .ow y2 3 1 n (aP S.made), .pt b4 (wnC x a c) 108]) (fun w' hs => (Sat.pt_ow (t := 3) (sz := 1) (m := 1) rfl (by omega) (hs.sp (by repeat (first | exact Sp.nil | exact Sp.refl _ | refine Sp.cons (by repeat constructor) ?_)))).sp (by repeat (first | exact Sp.nil | exact Sp.refl _ | refine Sp.cons (by repeat constructor) ?_))) ?_
 (refine aA V Z Z (aF (aD (aB (aA V Z Z ?_)))); refine fK V Z Z Z (by repeat first | exact .head _ | refine .tail _ ?_) (by rfl) ?_; refine aA V Z Z (aF (aD (aD (aB (aA V Z Z (aF (aQ ?_))))))))
 refine cB (σ := Nat × Value) (fun s => s.1 ≤ n ∧ ∀ z ∈ rpP x t s.1, 0 ≤ z ∧ z ≤ 2000000) (fun s => n - s.1) (fun s => [(1, .slice a1 t.need.length c1), (3, .slice a3 t.loss.length c3), (9, y1), (10, y2), (12, s.2), (13, .int .i64 (sq x t s.1)), (14, .int .i64 s.1)])
  (fun s => [.ow s.2 3 1 (s.1 + 1) (aP (rpP x t s.1)), .ow y1 3 1 n (aP S.stocks), .ow y2 3 1 n (aP S.made), .pt b4 (wnC x a c) 108]) (0, .slice (some ⟨b0, 0, none⟩) 1 1) ⟨by simp, by simp [rpP]; omega⟩ ⟨rfl, rfl, rfl, rfl, rfl, rfl, rfl, trivial⟩ (by repeat (first | exact Sp.nil | exact Sp.refl _ | refine Sp.cons (by repeat constructor) ?_)) ?_
 rintro ⟨i, v⟩ ⟨hi, hbd⟩ K hK
 simp only at hi hbd
 dsimp only
 refine cX (fun w hs => hs.slice2 (v := y1) (by repeat first | exact .head _ | refine .tail _ ?_)) ?_
 rintro ⟨s1, d1, rfl⟩
 refine cX (fun w hs => hs.slice2 (v := y2) (by repeat first | exact .head _ | refine .tail _ ?_)) ?_
 rintro ⟨s2, d2, rfl⟩
 (refine aD (aD (aB ?_)); (iterate 4 refine aA V Z Z ?_); refine aF ?_)
 refine dL Z (fun hc => ?_) (fun hc => ?_)
 ·have hi2 : i < n := by omega
  clear hc
  obtain ⟨g1, f1, rfl⟩ := hs1 (by omega)
  obtain ⟨g3, f3, rfl⟩ := hs3 (by omega)
  refine cX (fun w hs => hs.ownSome (v := .slice s1 n d1) (by repeat first | exact .head _ | refine .tail _ ?_) (by omega)) ?_
  rintro ⟨h1, e1, he⟩
  cases he
  refine cX (fun w hs => hs.ownSome (v := .slice s2 n d2) (by repeat first | exact .head _ | refine .tail _ ?_) (by omega)) ?_
  rintro ⟨h2, e2, he⟩
  cases he
  refine cX (fun w hs => hs.ownSome (v := v) (by repeat first | exact .head _ | refine .tail _ ?_) (by omega)) ?_
  rintro ⟨gv, cv, rfl⟩
  have y1 : i < t.need.length := by omega
  have y2 : i < t.make.length := by omega
  have y3 : i < t.loss.length := by omega
  have z1 := ht.need0 _ (List.getElem_mem y1)
  have z2 := ht.make0 _ (List.getElem_mem y2)
  have z3 := ht.loss0 _ (List.getElem_mem y3)
  have hq := hnn i (by omega)
  have m1 : i < S.stocks.length := by omega
  have m2 : i < S.made.length := by omega
  have em1 : S.stocks[i] = sq x t (i + 1) := by simp [eS]
  have em2 : S.made[i] = eE x.store (sq x t i) t.make[i] t.loss[i] := by simp [eM, List.getD_eq_getElem?_getD, y2, y3]
  have hmk : 0 ≤ eE x.store (sq x t i) t.make[i] t.loss[i] ∧ eE x.store (sq x t i) t.make[i] t.loss[i] ≤ 2000000 := by unfold eE fE; omega
  have hlen0 := kE x t i
  have eR : rpP x t (i + 1) = rremP t.need[i] (rremP (min (sq x t i) t.loss[i]) (rpP x t i) ++ [eE x.store (sq x t i) t.make[i] t.loss[i]]) := by
   simp only [rpP, fE, cR y1, cR y2, cR y3]
  rw [← em2] at eR hmk
  generalize rpP x t i = L0 at *
  generalize sq x t i = sk at *
  clear hnn eM
  (refine aM (aD (aQ (aD (aB (aA V Z Z (aA V Z Z ?_)))))))
  (refine aV V Z Z Z Z Z (by omega) (by omega) ?_; refine bB V Z Z Z (fun w hs => RdI.at (RdE.keep r3 hs.chg0) i y3) ?_)
  (refine aA V Z Z (aF (aD (aD (aB ?_)))); (iterate 3 refine aA V Z Z ?_); refine aF ?_)
  refine dL Z (fun hc => ?_) (fun hc => ?_)
  ·(refine aB (aA V Z Z (aA V Z Z (aF (aD (aD (aB (aA V Z Z (aF (aQ ?_))))))))))
   refine cB (σ := Nat × Int × List Int) (fun s => TkI (sk) (L0) s.1 s.2.1 s.2.2) (fun s => (L0).length - s.1) (fun s => [(1, .slice (some ⟨g1, f1, none⟩) t.need.length c1), (3, .slice (some ⟨g3, f3, none⟩) t.loss.length c3), (9, .slice (some ⟨h1, 0, none⟩) n d1), (10, .slice (some ⟨h2, 0, none⟩) n d2), (12, .slice (some ⟨gv, 0, none⟩) (i + 1) cv), (14, .int .i64 i), (15, .int .i64 s.2.1), (16, .int .i64 s.1)])
    (fun s => [.ow (.slice (some ⟨gv, 0, none⟩) (i + 1) cv) 3 1 (i + 1) (aP s.2.2), .ow (.slice (some ⟨h1, 0, none⟩) n d1) 3 1 n (aP S.stocks), .ow (.slice (some ⟨h2, 0, none⟩) n d2) 3 1 n (aP S.made), .pt b4 (wnC x a c) 108]) (0, sk, L0) (TkI.zero (by omega) hbd) ⟨rfl, rfl, rfl, rfl, rfl, rfl, rfl, rfl, trivial⟩ (by repeat (first | exact Sp.nil | exact Sp.refl _ | refine Sp.cons (by repeat constructor) ?_)) ?_
   rintro ⟨ka, ma, oa⟩ hI Ka hKa
   simp only at hI
   dsimp only
   have hla := hI.len
   have hma := hI.mb
   by_cases hkk : ka < oa.length
   ·by_cases hmm : ma > 0
    ·have hba := hI.nn _ (List.getElem_mem hkk)
     (refine aD (aD (aB ?_)); (iterate 3 refine aA V Z Z ?_); refine cL V Z Z Z (by omega) (aA V Z Z (aE Z (aA V Z Z (aE Z (cP V Z Z Z (by omega) (aA V Z Z (aF (aL Z (aM (aD (aQ ?_))))))))))); refine aD (aB (aA V Z Z (aA V Z Z ?_))))
     (refine aV V Z Z Z Z Z (by omega) (by omega) ?_; refine bB V Z Z Z (fun w hs => RdI.at (hs.rdI (l := oa) (t := 3) (n := (i + 1)) (by repeat first | exact .head _ | refine .tail _ ?_) (by omega)) ka hkk) ?_)
     (refine aA V Z Z (aF (aD (aD (aB ?_)))); (iterate 3 refine aA V Z Z ?_); refine aF ?_)
     refine dL Z (fun hc => ?_) (fun hc => ?_)
     ·have hst := hI.step hkk hmm (n := ma) (by omega)
      (refine aB (aA V Z Z (aA V Z Z (aF (aD (aB ?_))))); (iterate 4 refine aA V Z Z ?_))
      refine aV V Z Z Z Z Z (by omega) (by omega) ?_
      refine bB V Z Z Z (fun w hs => RdI.at (hs.rdI (l := oa) (t := 3) (n := (i + 1)) (by repeat first | exact .head _ | refine .tail _ ?_) (by omega)) ka hkk) ?_
      (refine aA V Z Z (bA V Z Z Z Z (by omega) (by omega) ?_))
      refine aV V Z Z Z Z Z (by omega) (by omega) ?_
      refine dX V ka rfl rfl rfl rfl (by repeat constructor) (by omega) (by simpa using hkk) ?_
      rw [fH]
      (refine aF (aB (aA V Z Z (aA V Z Z (bA V Z Z Z Z (by omega) (by omega) (aA V Z Z (aF (bJ (aB (aA V Z Z (bA V Z Z Z Z (by omega) (by omega) (aA V Z Z ?_))))))))))); refine aF ?_)
      exact hKa (ka + 1, _, _) _ _ hst (by simp only; omega) ⟨rfl, rfl, rfl, rfl, rfl, rfl, rfl, rfl, trivial⟩ (by repeat (first | exact Sp.nil | exact Sp.refl _ | refine Sp.cons (by repeat constructor) ?_))
     ·have hst := hI.step hkk hmm (n := oa[ka]) (by omega)
      (refine aM (aD (aB ?_)); (iterate 4 refine aA V Z Z ?_))
      refine aV V Z Z Z Z Z (by omega) (by omega) ?_
      refine bB V Z Z Z (fun w hs => RdI.at (hs.rdI (l := oa) (t := 3) (n := (i + 1)) (by repeat first | exact .head _ | refine .tail _ ?_) (by omega)) ka hkk) ?_
      (refine aA V Z Z (bA V Z Z Z Z (by omega) (by omega) ?_))
      refine aV V Z Z Z Z Z (by omega) (by omega) ?_
      refine dX V ka rfl rfl rfl rfl (by repeat constructor) (by omega) (by simpa using hkk) ?_
      rw [fH]
      (refine aF (aB (aA V Z Z (aA V Z Z (bA V Z Z Z Z (by omega) (by omega) (aA V Z Z (aF (bJ (aB (aA V Z Z (bA V Z Z Z Z (by omega) (by omega) (aA V Z Z ?_))))))))))); refine aF ?_)
      exact hKa (ka + 1, _, _) _ _ hst (by simp only; omega) ⟨rfl, rfl, rfl, rfl, rfl, rfl, rfl, rfl, trivial⟩ (by repeat (first | exact Sp.nil | exact Sp.refl _ | refine Sp.cons (by repeat constructor) ?_))
    ·have he := hI.done hmm
     have hb2 := hI.nn
     (refine aD (aD (aB ?_)); (iterate 3 refine aA V Z Z ?_); refine cL V Z Z Z (by omega) (aA V Z Z (aE Z (aA V Z Z (aE Z (cT V Z Z Z (by omega) (aA V Z Z (aF (aH Z (bO _ rfl (aD (aB ?_))))))))))); (iterate 3 refine aA V Z Z ?_))
     subst he
     have hbL : ∀ z ∈ rremP (sk) L0 ++ [S.made[i]], 0 ≤ z ∧ z ≤ 2000000 := fun z hz => by
      rcases List.mem_append.1 hz with hz | hz
      ·exact hb2 z hz
      ·obtain rfl := List.mem_singleton.1 hz
       exact hmk
     clear hKa hI hb2
     (refine aV V Z Z Z Z Z (by omega) (by omega) ?_; refine bB V Z Z Z (fun w hs => RdI.at (hs.rdI (l := S.made) (t := 3) (n := n) (by repeat first | exact .head _ | refine .tail _ ?_) (by omega)) i m2) ?_)
     skip
     refine cJ 3 [.int .i64 S.made[i]] rfl (by kernel_rfl) rfl (fun c0 => ?_)
     refine bZ (q := 1) slI rfl rfl rfl (fun v' => by repeat constructor) (fun w' hs => ⟨_, _, Blk.rd (hs.blk (b := c0) (by repeat first | exact .head _ | refine .tail _ ?_)) rfl 1⟩) (by simp [cU]) (by omega) (by omega) (fun u0 => ?_)
     rw [show aP (rremP (sk) L0) ++ [.int .i64 S.made[i]] = aP (rremP (sk) L0 ++ [S.made[i]]) by simp [aP]]
     have hlL : (rremP (sk) L0 ++ [S.made[i]]).length = i + 1 + 1 := by simp; omega
     have eR2 : rpP x t (i + 1) = rremP t.need[i] (rremP (sk) L0 ++ [S.made[i]]) := by rw [eR]; congr 3; omega
     generalize rremP (sk) L0 ++ [S.made[i]] = LN at *
     refine bL (fun w hs => hs.ownSome (v := u0) (by repeat first | exact .head _ | refine .tail _ ?_) (by omega)) ?_
     rintro ⟨gu, cu, rfl⟩
     (refine aA V Z Z (aF (aD (aB (aA V Z Z (aA V Z Z ?_))))))
     (refine aV V Z Z Z Z Z (by omega) (by omega) ?_; refine bB V Z Z Z (fun w hs => RdI.at (RdE.keep r1 hs.chg0) i y1) ?_)
     (refine aA V Z Z (aF (aD (aD (aB (aA V Z Z (aF (aQ ?_))))))))
     refine cB (σ := Nat × Int × List Int) (fun s => TkI (t.need[i]) (LN) s.1 s.2.1 s.2.2) (fun s => (LN).length - s.1) (fun s => [(9, .slice (some ⟨h1, 0, none⟩) n d1), (10, .slice (some ⟨h2, 0, none⟩) n d2), (1, .slice (some ⟨g1, f1, none⟩) t.need.length c1), (3, .slice (some ⟨g3, f3, none⟩) t.loss.length c3), (12, .slice (some ⟨gu, 0, none⟩) (i + 1 + 1) cu), (14, .int .i64 i), (18, .int .i64 s.2.1), (19, .int .i64 s.1)])
      (fun s => [.ow (.slice (some ⟨gu, 0, none⟩) (i + 1 + 1) cu) 3 1 (i + 1 + 1) (aP s.2.2), .ow (.slice (some ⟨h1, 0, none⟩) n d1) 3 1 n (aP S.stocks), .ow (.slice (some ⟨h2, 0, none⟩) n d2) 3 1 n (aP S.made), .pt b4 (wnC x a c) 108]) (0, t.need[i], LN) (TkI.zero (by omega) (hbL)) ⟨rfl, rfl, rfl, rfl, rfl, rfl, rfl, rfl, trivial⟩ (by repeat (first | exact Sp.nil | exact Sp.refl _ | refine Sp.cons (by repeat constructor) ?_)) ?_
     rintro ⟨kb, mb, ob⟩ hI Kb hKb
     simp only at hI
     dsimp only
     have hlb := hI.len
     have hmb := hI.mb
     by_cases hkk : kb < ob.length
     ·by_cases hmm : mb > 0
      ·have hbb := hI.nn _ (List.getElem_mem hkk)
       (refine aD (aD (aB ?_)); (iterate 3 refine aA V Z Z ?_); refine cL V Z Z Z (by omega) (aA V Z Z (aE Z (aA V Z Z (aE Z (cP V Z Z Z (by omega) (aA V Z Z (aF (aL Z (aM (aD (aQ ?_))))))))))); refine aD (aB (aA V Z Z (aA V Z Z ?_))))
       (refine aV V Z Z Z Z Z (by omega) (by omega) ?_; refine bB V Z Z Z (fun w hs => RdI.at (hs.rdI (l := ob) (t := 3) (n := (i + 1 + 1)) (by repeat first | exact .head _ | refine .tail _ ?_) (by omega)) kb hkk) ?_)
       (refine aA V Z Z (aF (aD (aD (aB ?_)))); (iterate 3 refine aA V Z Z ?_); refine aF ?_)
       refine dL Z (fun hc => ?_) (fun hc => ?_)
       ·have hst := hI.step hkk hmm (n := mb) (by omega)
        (refine aB (aA V Z Z (aA V Z Z (aF (aD (aB ?_))))); (iterate 4 refine aA V Z Z ?_))
        refine aV V Z Z Z Z Z (by omega) (by omega) ?_
        refine bB V Z Z Z (fun w hs => RdI.at (hs.rdI (l := ob) (t := 3) (n := (i + 1 + 1)) (by repeat first | exact .head _ | refine .tail _ ?_) (by omega)) kb hkk) ?_
        (refine aA V Z Z (bA V Z Z Z Z (by omega) (by omega) ?_))
        refine aV V Z Z Z Z Z (by omega) (by omega) ?_
        refine dX V kb rfl rfl rfl rfl (by repeat constructor) (by omega) (by simpa using hkk) ?_
        rw [fH]
        (refine aF (aB (aA V Z Z (aA V Z Z (bA V Z Z Z Z (by omega) (by omega) (aA V Z Z (aF (bJ (aB (aA V Z Z (bA V Z Z Z Z (by omega) (by omega) (aA V Z Z ?_))))))))))); refine aF ?_)
        exact hKb (kb + 1, _, _) _ _ hst (by simp only; omega) ⟨rfl, rfl, rfl, rfl, rfl, rfl, rfl, rfl, trivial⟩ (by repeat (first | exact Sp.nil | exact Sp.refl _ | refine Sp.cons (by repeat constructor) ?_))
       ·have hst := hI.step hkk hmm (n := ob[kb]) (by omega)
        (refine aM (aD (aB ?_)); (iterate 4 refine aA V Z Z ?_))
        refine aV V Z Z Z Z Z (by omega) (by omega) ?_
        refine bB V Z Z Z (fun w hs => RdI.at (hs.rdI (l := ob) (t := 3) (n := (i + 1 + 1)) (by repeat first | exact .head _ | refine .tail _ ?_) (by omega)) kb hkk) ?_
        (refine aA V Z Z (bA V Z Z Z Z (by omega) (by omega) ?_))
        refine aV V Z Z Z Z Z (by omega) (by omega) ?_
        refine dX V kb rfl rfl rfl rfl (by repeat constructor) (by omega) (by simpa using hkk) ?_
        rw [fH]
        (refine aF (aB (aA V Z Z (aA V Z Z (bA V Z Z Z Z (by omega) (by omega) (aA V Z Z (aF (bJ (aB (aA V Z Z (bA V Z Z Z Z (by omega) (by omega) (aA V Z Z ?_))))))))))); refine aF ?_)
        exact hKb (kb + 1, _, _) _ _ hst (by simp only; omega) ⟨rfl, rfl, rfl, rfl, rfl, rfl, rfl, rfl, trivial⟩ (by repeat (first | exact Sp.nil | exact Sp.refl _ | refine Sp.cons (by repeat constructor) ?_))
      ·have he := hI.done hmm
       have hb2 := hI.nn
       (refine aD (aD (aB ?_)); (iterate 3 refine aA V Z Z ?_); refine cL V Z Z Z (by omega) (aA V Z Z (aE Z (aA V Z Z (aE Z (cT V Z Z Z (by omega) (aA V Z Z (aF (aH Z (bO _ rfl (aB (aA V Z Z ?_))))))))))); refine aA V Z Z ?_)
       subst he
       (refine aV V Z Z Z Z Z (by omega) (by omega) ?_; refine bB V Z Z Z (fun w hs => RdI.at (hs.rdI (l := S.stocks) (t := 3) (n := n) (by repeat first | exact .head _ | refine .tail _ ?_) (by omega)) i m1) ?_)
       (refine aA V Z Z (aF (bJ (aB (aA V Z Z (bA V Z Z Z Z (by omega) (by omega) (aA V Z Z (aF ?_))))))))
       exact hK (i + 1, .slice (some ⟨gu, 0, none⟩) (i + 1 + 1) cu) _ _ ⟨by simp only; omega, by dsimp only; rw [eR2]; exact hb2⟩ (by simp only; omega) ⟨rfl, rfl, rfl, rfl, rfl, cM rfl (by rw [em1]), rfl, trivial⟩ (by dsimp only; rw [eR2]; repeat (first | exact Sp.nil | exact Sp.refl _ | refine Sp.cons (by repeat constructor) ?_))
     ·have he := hI.full hkk
      have hb2 := hI.nn
      (refine aD (aD (aB ?_)); (iterate 3 refine aA V Z Z ?_); refine cI V Z Z Z (by omega) (aA V Z Z (bE Z Z Z (bE Z Z Z (aA V Z Z (aF (aH Z (bO _ rfl (aB (aA V Z Z (aA V Z Z ?_)))))))))))
      subst he
      (refine aV V Z Z Z Z Z (by omega) (by omega) ?_; refine bB V Z Z Z (fun w hs => RdI.at (hs.rdI (l := S.stocks) (t := 3) (n := n) (by repeat first | exact .head _ | refine .tail _ ?_) (by omega)) i m1) ?_)
      (refine aA V Z Z (aF (bJ (aB (aA V Z Z (bA V Z Z Z Z (by omega) (by omega) (aA V Z Z (aF ?_))))))))
      exact hK (i + 1, .slice (some ⟨gu, 0, none⟩) (i + 1 + 1) cu) _ _ ⟨by simp only; omega, by dsimp only; rw [eR2]; exact hb2⟩ (by simp only; omega) ⟨rfl, rfl, rfl, rfl, rfl, cM rfl (by rw [em1]), rfl, trivial⟩ (by dsimp only; rw [eR2]; repeat (first | exact Sp.nil | exact Sp.refl _ | refine Sp.cons (by repeat constructor) ?_))
   ·have he := hI.full hkk
    have hb2 := hI.nn
    (refine aD (aD (aB ?_)); (iterate 3 refine aA V Z Z ?_); refine cI V Z Z Z (by omega) (aA V Z Z (bE Z Z Z (bE Z Z Z (aA V Z Z (aF (aH Z (bO _ rfl (aD (aB ?_))))))))); (iterate 3 refine aA V Z Z ?_))
    subst he
    have hbL : ∀ z ∈ rremP (sk) L0 ++ [S.made[i]], 0 ≤ z ∧ z ≤ 2000000 := fun z hz => by
     rcases List.mem_append.1 hz with hz | hz
     ·exact hb2 z hz
     ·obtain rfl := List.mem_singleton.1 hz
      exact hmk
    clear hKa hI hb2
    (refine aV V Z Z Z Z Z (by omega) (by omega) ?_; refine bB V Z Z Z (fun w hs => RdI.at (hs.rdI (l := S.made) (t := 3) (n := n) (by repeat first | exact .head _ | refine .tail _ ?_) (by omega)) i m2) ?_)
    skip
    refine cJ 3 [.int .i64 S.made[i]] rfl (by kernel_rfl) rfl (fun c0 => ?_)
    refine bZ (q := 1) slI rfl rfl rfl (fun v' => by repeat constructor) (fun w' hs => ⟨_, _, Blk.rd (hs.blk (b := c0) (by repeat first | exact .head _ | refine .tail _ ?_)) rfl 1⟩) (by simp [cU]) (by omega) (by omega) (fun u0 => ?_)
    rw [show aP (rremP (sk) L0) ++ [.int .i64 S.made[i]] = aP (rremP (sk) L0 ++ [S.made[i]]) by simp [aP]]
    have hlL : (rremP (sk) L0 ++ [S.made[i]]).length = i + 1 + 1 := by simp; omega
    have eR2 : rpP x t (i + 1) = rremP t.need[i] (rremP (sk) L0 ++ [S.made[i]]) := by rw [eR]; congr 3; omega
    generalize rremP (sk) L0 ++ [S.made[i]] = LN at *
    refine bL (fun w hs => hs.ownSome (v := u0) (by repeat first | exact .head _ | refine .tail _ ?_) (by omega)) ?_
    rintro ⟨gu, cu, rfl⟩
    (refine aA V Z Z (aF (aD (aB (aA V Z Z (aA V Z Z ?_))))))
    (refine aV V Z Z Z Z Z (by omega) (by omega) ?_; refine bB V Z Z Z (fun w hs => RdI.at (RdE.keep r1 hs.chg0) i y1) ?_)
    (refine aA V Z Z (aF (aD (aD (aB (aA V Z Z (aF (aQ ?_))))))))
    refine cB (σ := Nat × Int × List Int) (fun s => TkI (t.need[i]) (LN) s.1 s.2.1 s.2.2) (fun s => (LN).length - s.1) (fun s => [(9, .slice (some ⟨h1, 0, none⟩) n d1), (10, .slice (some ⟨h2, 0, none⟩) n d2), (1, .slice (some ⟨g1, f1, none⟩) t.need.length c1), (3, .slice (some ⟨g3, f3, none⟩) t.loss.length c3), (12, .slice (some ⟨gu, 0, none⟩) (i + 1 + 1) cu), (14, .int .i64 i), (18, .int .i64 s.2.1), (19, .int .i64 s.1)])
     (fun s => [.ow (.slice (some ⟨gu, 0, none⟩) (i + 1 + 1) cu) 3 1 (i + 1 + 1) (aP s.2.2), .ow (.slice (some ⟨h1, 0, none⟩) n d1) 3 1 n (aP S.stocks), .ow (.slice (some ⟨h2, 0, none⟩) n d2) 3 1 n (aP S.made), .pt b4 (wnC x a c) 108]) (0, t.need[i], LN) (TkI.zero (by omega) (hbL)) ⟨rfl, rfl, rfl, rfl, rfl, rfl, rfl, rfl, trivial⟩ (by repeat (first | exact Sp.nil | exact Sp.refl _ | refine Sp.cons (by repeat constructor) ?_)) ?_
    rintro ⟨kb, mb, ob⟩ hI Kb hKb
    simp only at hI
    dsimp only
    have hlb := hI.len
    have hmb := hI.mb
    by_cases hkk : kb < ob.length
    ·by_cases hmm : mb > 0
     ·have hbb := hI.nn _ (List.getElem_mem hkk)
      (refine aD (aD (aB ?_)); (iterate 3 refine aA V Z Z ?_); refine cL V Z Z Z (by omega) (aA V Z Z (aE Z (aA V Z Z (aE Z (cP V Z Z Z (by omega) (aA V Z Z (aF (aL Z (aM (aD (aQ ?_))))))))))); refine aD (aB (aA V Z Z (aA V Z Z ?_))))
      (refine aV V Z Z Z Z Z (by omega) (by omega) ?_; refine bB V Z Z Z (fun w hs => RdI.at (hs.rdI (l := ob) (t := 3) (n := (i + 1 + 1)) (by repeat first | exact .head _ | refine .tail _ ?_) (by omega)) kb hkk) ?_)
      (refine aA V Z Z (aF (aD (aD (aB ?_)))); (iterate 3 refine aA V Z Z ?_); refine aF ?_)
      refine dL Z (fun hc => ?_) (fun hc => ?_)
      ·have hst := hI.step hkk hmm (n := mb) (by omega)
       (refine aB (aA V Z Z (aA V Z Z (aF (aD (aB ?_))))); (iterate 4 refine aA V Z Z ?_))
       refine aV V Z Z Z Z Z (by omega) (by omega) ?_
       refine bB V Z Z Z (fun w hs => RdI.at (hs.rdI (l := ob) (t := 3) (n := (i + 1 + 1)) (by repeat first | exact .head _ | refine .tail _ ?_) (by omega)) kb hkk) ?_
       (refine aA V Z Z (bA V Z Z Z Z (by omega) (by omega) ?_))
       refine aV V Z Z Z Z Z (by omega) (by omega) ?_
       refine dX V kb rfl rfl rfl rfl (by repeat constructor) (by omega) (by simpa using hkk) ?_
       rw [fH]
       (refine aF (aB (aA V Z Z (aA V Z Z (bA V Z Z Z Z (by omega) (by omega) (aA V Z Z (aF (bJ (aB (aA V Z Z (bA V Z Z Z Z (by omega) (by omega) (aA V Z Z ?_))))))))))); refine aF ?_)
       exact hKb (kb + 1, _, _) _ _ hst (by simp only; omega) ⟨rfl, rfl, rfl, rfl, rfl, rfl, rfl, rfl, trivial⟩ (by repeat (first | exact Sp.nil | exact Sp.refl _ | refine Sp.cons (by repeat constructor) ?_))
      ·have hst := hI.step hkk hmm (n := ob[kb]) (by omega)
       (refine aM (aD (aB ?_)); (iterate 4 refine aA V Z Z ?_))
       refine aV V Z Z Z Z Z (by omega) (by omega) ?_
       refine bB V Z Z Z (fun w hs => RdI.at (hs.rdI (l := ob) (t := 3) (n := (i + 1 + 1)) (by repeat first | exact .head _ | refine .tail _ ?_) (by omega)) kb hkk) ?_
       (refine aA V Z Z (bA V Z Z Z Z (by omega) (by omega) ?_))
       refine aV V Z Z Z Z Z (by omega) (by omega) ?_
       refine dX V kb rfl rfl rfl rfl (by repeat constructor) (by omega) (by simpa using hkk) ?_
       rw [fH]
       (refine aF (aB (aA V Z Z (aA V Z Z (bA V Z Z Z Z (by omega) (by omega) (aA V Z Z (aF (bJ (aB (aA V Z Z (bA V Z Z Z Z (by omega) (by omega) (aA V Z Z ?_))))))))))); refine aF ?_)
       exact hKb (kb + 1, _, _) _ _ hst (by simp only; omega) ⟨rfl, rfl, rfl, rfl, rfl, rfl, rfl, rfl, trivial⟩ (by repeat (first | exact Sp.nil | exact Sp.refl _ | refine Sp.cons (by repeat constructor) ?_))
     ·have he := hI.done hmm
      have hb2 := hI.nn
      (refine aD (aD (aB ?_)); (iterate 3 refine aA V Z Z ?_); refine cL V Z Z Z (by omega) (aA V Z Z (aE Z (aA V Z Z (aE Z (cT V Z Z Z (by omega) (aA V Z Z (aF (aH Z (bO _ rfl (aB (aA V Z Z ?_))))))))))); refine aA V Z Z ?_)
      subst he
      (refine aV V Z Z Z Z Z (by omega) (by omega) ?_; refine bB V Z Z Z (fun w hs => RdI.at (hs.rdI (l := S.stocks) (t := 3) (n := n) (by repeat first | exact .head _ | refine .tail _ ?_) (by omega)) i m1) ?_)
      (refine aA V Z Z (aF (bJ (aB (aA V Z Z (bA V Z Z Z Z (by omega) (by omega) (aA V Z Z (aF ?_))))))))
      exact hK (i + 1, .slice (some ⟨gu, 0, none⟩) (i + 1 + 1) cu) _ _ ⟨by simp only; omega, by dsimp only; rw [eR2]; exact hb2⟩ (by simp only; omega) ⟨rfl, rfl, rfl, rfl, rfl, cM rfl (by rw [em1]), rfl, trivial⟩ (by dsimp only; rw [eR2]; repeat (first | exact Sp.nil | exact Sp.refl _ | refine Sp.cons (by repeat constructor) ?_))
    ·have he := hI.full hkk
     have hb2 := hI.nn
     (refine aD (aD (aB ?_)); (iterate 3 refine aA V Z Z ?_); refine cI V Z Z Z (by omega) (aA V Z Z (bE Z Z Z (bE Z Z Z (aA V Z Z (aF (aH Z (bO _ rfl (aB (aA V Z Z (aA V Z Z ?_)))))))))))
     subst he
     (refine aV V Z Z Z Z Z (by omega) (by omega) ?_; refine bB V Z Z Z (fun w hs => RdI.at (hs.rdI (l := S.stocks) (t := 3) (n := n) (by repeat first | exact .head _ | refine .tail _ ?_) (by omega)) i m1) ?_)
     (refine aA V Z Z (aF (bJ (aB (aA V Z Z (bA V Z Z Z Z (by omega) (by omega) (aA V Z Z (aF ?_))))))))
     exact hK (i + 1, .slice (some ⟨gu, 0, none⟩) (i + 1 + 1) cu) _ _ ⟨by simp only; omega, by dsimp only; rw [eR2]; exact hb2⟩ (by simp only; omega) ⟨rfl, rfl, rfl, rfl, rfl, cM rfl (by rw [em1]), rfl, trivial⟩ (by dsimp only; rw [eR2]; repeat (first | exact Sp.nil | exact Sp.refl _ | refine Sp.cons (by repeat constructor) ?_))
  ·(refine aM (aD (aD (aB (aA V Z Z (aF (aQ ?_)))))))
   refine cB (σ := Nat × Int × List Int) (fun s => TkI (t.loss[i]) (L0) s.1 s.2.1 s.2.2) (fun s => (L0).length - s.1) (fun s => [(1, .slice (some ⟨g1, f1, none⟩) t.need.length c1), (3, .slice (some ⟨g3, f3, none⟩) t.loss.length c3), (9, .slice (some ⟨h1, 0, none⟩) n d1), (10, .slice (some ⟨h2, 0, none⟩) n d2), (12, .slice (some ⟨gv, 0, none⟩) (i + 1) cv), (14, .int .i64 i), (15, .int .i64 s.2.1), (16, .int .i64 s.1)])
    (fun s => [.ow (.slice (some ⟨gv, 0, none⟩) (i + 1) cv) 3 1 (i + 1) (aP s.2.2), .ow (.slice (some ⟨h1, 0, none⟩) n d1) 3 1 n (aP S.stocks), .ow (.slice (some ⟨h2, 0, none⟩) n d2) 3 1 n (aP S.made), .pt b4 (wnC x a c) 108]) (0, t.loss[i], L0) (TkI.zero (by omega) hbd) ⟨rfl, rfl, rfl, rfl, rfl, rfl, rfl, rfl, trivial⟩ (by repeat (first | exact Sp.nil | exact Sp.refl _ | refine Sp.cons (by repeat constructor) ?_)) ?_
   rintro ⟨ka, ma, oa⟩ hI Ka hKa
   simp only at hI
   dsimp only
   have hla := hI.len
   have hma := hI.mb
   by_cases hkk : ka < oa.length
   ·by_cases hmm : ma > 0
    ·have hba := hI.nn _ (List.getElem_mem hkk)
     (refine aD (aD (aB ?_)); (iterate 3 refine aA V Z Z ?_); refine cL V Z Z Z (by omega) (aA V Z Z (aE Z (aA V Z Z (aE Z (cP V Z Z Z (by omega) (aA V Z Z (aF (aL Z (aM (aD (aQ ?_))))))))))); refine aD (aB (aA V Z Z (aA V Z Z ?_))))
     (refine aV V Z Z Z Z Z (by omega) (by omega) ?_; refine bB V Z Z Z (fun w hs => RdI.at (hs.rdI (l := oa) (t := 3) (n := (i + 1)) (by repeat first | exact .head _ | refine .tail _ ?_) (by omega)) ka hkk) ?_)
     (refine aA V Z Z (aF (aD (aD (aB ?_)))); (iterate 3 refine aA V Z Z ?_); refine aF ?_)
     refine dL Z (fun hc => ?_) (fun hc => ?_)
     ·have hst := hI.step hkk hmm (n := ma) (by omega)
      (refine aB (aA V Z Z (aA V Z Z (aF (aD (aB ?_))))); (iterate 4 refine aA V Z Z ?_))
      refine aV V Z Z Z Z Z (by omega) (by omega) ?_
      refine bB V Z Z Z (fun w hs => RdI.at (hs.rdI (l := oa) (t := 3) (n := (i + 1)) (by repeat first | exact .head _ | refine .tail _ ?_) (by omega)) ka hkk) ?_
      (refine aA V Z Z (bA V Z Z Z Z (by omega) (by omega) ?_))
      refine aV V Z Z Z Z Z (by omega) (by omega) ?_
      refine dX V ka rfl rfl rfl rfl (by repeat constructor) (by omega) (by simpa using hkk) ?_
      rw [fH]
      (refine aF (aB (aA V Z Z (aA V Z Z (bA V Z Z Z Z (by omega) (by omega) (aA V Z Z (aF (bJ (aB (aA V Z Z (bA V Z Z Z Z (by omega) (by omega) (aA V Z Z ?_))))))))))); refine aF ?_)
      exact hKa (ka + 1, _, _) _ _ hst (by simp only; omega) ⟨rfl, rfl, rfl, rfl, rfl, rfl, rfl, rfl, trivial⟩ (by repeat (first | exact Sp.nil | exact Sp.refl _ | refine Sp.cons (by repeat constructor) ?_))
     ·have hst := hI.step hkk hmm (n := oa[ka]) (by omega)
      (refine aM (aD (aB ?_)); (iterate 4 refine aA V Z Z ?_))
      refine aV V Z Z Z Z Z (by omega) (by omega) ?_
      refine bB V Z Z Z (fun w hs => RdI.at (hs.rdI (l := oa) (t := 3) (n := (i + 1)) (by repeat first | exact .head _ | refine .tail _ ?_) (by omega)) ka hkk) ?_
      (refine aA V Z Z (bA V Z Z Z Z (by omega) (by omega) ?_))
      refine aV V Z Z Z Z Z (by omega) (by omega) ?_
      refine dX V ka rfl rfl rfl rfl (by repeat constructor) (by omega) (by simpa using hkk) ?_
      rw [fH]
      (refine aF (aB (aA V Z Z (aA V Z Z (bA V Z Z Z Z (by omega) (by omega) (aA V Z Z (aF (bJ (aB (aA V Z Z (bA V Z Z Z Z (by omega) (by omega) (aA V Z Z ?_))))))))))); refine aF ?_)
      exact hKa (ka + 1, _, _) _ _ hst (by simp only; omega) ⟨rfl, rfl, rfl, rfl, rfl, rfl, rfl, rfl, trivial⟩ (by repeat (first | exact Sp.nil | exact Sp.refl _ | refine Sp.cons (by repeat constructor) ?_))
    ·have he := hI.done hmm
     have hb2 := hI.nn
     (refine aD (aD (aB ?_)); (iterate 3 refine aA V Z Z ?_); refine cL V Z Z Z (by omega) (aA V Z Z (aE Z (aA V Z Z (aE Z (cT V Z Z Z (by omega) (aA V Z Z (aF (aH Z (bO _ rfl (aD (aB ?_))))))))))); (iterate 3 refine aA V Z Z ?_))
     subst he
     have hbL : ∀ z ∈ rremP (t.loss[i]) L0 ++ [S.made[i]], 0 ≤ z ∧ z ≤ 2000000 := fun z hz => by
      rcases List.mem_append.1 hz with hz | hz
      ·exact hb2 z hz
      ·obtain rfl := List.mem_singleton.1 hz
       exact hmk
     clear hKa hI hb2
     (refine aV V Z Z Z Z Z (by omega) (by omega) ?_; refine bB V Z Z Z (fun w hs => RdI.at (hs.rdI (l := S.made) (t := 3) (n := n) (by repeat first | exact .head _ | refine .tail _ ?_) (by omega)) i m2) ?_)
     skip
     refine cJ 3 [.int .i64 S.made[i]] rfl (by kernel_rfl) rfl (fun c0 => ?_)
     refine bZ (q := 1) slI rfl rfl rfl (fun v' => by repeat constructor) (fun w' hs => ⟨_, _, Blk.rd (hs.blk (b := c0) (by repeat first | exact .head _ | refine .tail _ ?_)) rfl 1⟩) (by simp [cU]) (by omega) (by omega) (fun u0 => ?_)
     rw [show aP (rremP (t.loss[i]) L0) ++ [.int .i64 S.made[i]] = aP (rremP (t.loss[i]) L0 ++ [S.made[i]]) by simp [aP]]
     have hlL : (rremP (t.loss[i]) L0 ++ [S.made[i]]).length = i + 1 + 1 := by simp; omega
     have eR2 : rpP x t (i + 1) = rremP t.need[i] (rremP (t.loss[i]) L0 ++ [S.made[i]]) := by rw [eR]; congr 3; omega
     generalize rremP (t.loss[i]) L0 ++ [S.made[i]] = LN at *
     refine bL (fun w hs => hs.ownSome (v := u0) (by repeat first | exact .head _ | refine .tail _ ?_) (by omega)) ?_
     rintro ⟨gu, cu, rfl⟩
     (refine aA V Z Z (aF (aD (aB (aA V Z Z (aA V Z Z ?_))))))
     (refine aV V Z Z Z Z Z (by omega) (by omega) ?_; refine bB V Z Z Z (fun w hs => RdI.at (RdE.keep r1 hs.chg0) i y1) ?_)
     (refine aA V Z Z (aF (aD (aD (aB (aA V Z Z (aF (aQ ?_))))))))
     refine cB (σ := Nat × Int × List Int) (fun s => TkI (t.need[i]) (LN) s.1 s.2.1 s.2.2) (fun s => (LN).length - s.1) (fun s => [(9, .slice (some ⟨h1, 0, none⟩) n d1), (10, .slice (some ⟨h2, 0, none⟩) n d2), (1, .slice (some ⟨g1, f1, none⟩) t.need.length c1), (3, .slice (some ⟨g3, f3, none⟩) t.loss.length c3), (12, .slice (some ⟨gu, 0, none⟩) (i + 1 + 1) cu), (14, .int .i64 i), (18, .int .i64 s.2.1), (19, .int .i64 s.1)])
      (fun s => [.ow (.slice (some ⟨gu, 0, none⟩) (i + 1 + 1) cu) 3 1 (i + 1 + 1) (aP s.2.2), .ow (.slice (some ⟨h1, 0, none⟩) n d1) 3 1 n (aP S.stocks), .ow (.slice (some ⟨h2, 0, none⟩) n d2) 3 1 n (aP S.made), .pt b4 (wnC x a c) 108]) (0, t.need[i], LN) (TkI.zero (by omega) (hbL)) ⟨rfl, rfl, rfl, rfl, rfl, rfl, rfl, rfl, trivial⟩ (by repeat (first | exact Sp.nil | exact Sp.refl _ | refine Sp.cons (by repeat constructor) ?_)) ?_
     rintro ⟨kb, mb, ob⟩ hI Kb hKb
     simp only at hI
     dsimp only
     have hlb := hI.len
     have hmb := hI.mb
     by_cases hkk : kb < ob.length
     ·by_cases hmm : mb > 0
      ·have hbb := hI.nn _ (List.getElem_mem hkk)
       (refine aD (aD (aB ?_)); (iterate 3 refine aA V Z Z ?_); refine cL V Z Z Z (by omega) (aA V Z Z (aE Z (aA V Z Z (aE Z (cP V Z Z Z (by omega) (aA V Z Z (aF (aL Z (aM (aD (aQ ?_))))))))))); refine aD (aB (aA V Z Z (aA V Z Z ?_))))
       (refine aV V Z Z Z Z Z (by omega) (by omega) ?_; refine bB V Z Z Z (fun w hs => RdI.at (hs.rdI (l := ob) (t := 3) (n := (i + 1 + 1)) (by repeat first | exact .head _ | refine .tail _ ?_) (by omega)) kb hkk) ?_)
       (refine aA V Z Z (aF (aD (aD (aB ?_)))); (iterate 3 refine aA V Z Z ?_); refine aF ?_)
       refine dL Z (fun hc => ?_) (fun hc => ?_)
       ·have hst := hI.step hkk hmm (n := mb) (by omega)
        (refine aB (aA V Z Z (aA V Z Z (aF (aD (aB ?_))))); (iterate 4 refine aA V Z Z ?_))
        refine aV V Z Z Z Z Z (by omega) (by omega) ?_
        refine bB V Z Z Z (fun w hs => RdI.at (hs.rdI (l := ob) (t := 3) (n := (i + 1 + 1)) (by repeat first | exact .head _ | refine .tail _ ?_) (by omega)) kb hkk) ?_
        (refine aA V Z Z (bA V Z Z Z Z (by omega) (by omega) ?_))
        refine aV V Z Z Z Z Z (by omega) (by omega) ?_
        refine dX V kb rfl rfl rfl rfl (by repeat constructor) (by omega) (by simpa using hkk) ?_
        rw [fH]
        (refine aF (aB (aA V Z Z (aA V Z Z (bA V Z Z Z Z (by omega) (by omega) (aA V Z Z (aF (bJ (aB (aA V Z Z (bA V Z Z Z Z (by omega) (by omega) (aA V Z Z ?_))))))))))); refine aF ?_)
        exact hKb (kb + 1, _, _) _ _ hst (by simp only; omega) ⟨rfl, rfl, rfl, rfl, rfl, rfl, rfl, rfl, trivial⟩ (by repeat (first | exact Sp.nil | exact Sp.refl _ | refine Sp.cons (by repeat constructor) ?_))
       ·have hst := hI.step hkk hmm (n := ob[kb]) (by omega)
        (refine aM (aD (aB ?_)); (iterate 4 refine aA V Z Z ?_))
        refine aV V Z Z Z Z Z (by omega) (by omega) ?_
        refine bB V Z Z Z (fun w hs => RdI.at (hs.rdI (l := ob) (t := 3) (n := (i + 1 + 1)) (by repeat first | exact .head _ | refine .tail _ ?_) (by omega)) kb hkk) ?_
        (refine aA V Z Z (bA V Z Z Z Z (by omega) (by omega) ?_))
        refine aV V Z Z Z Z Z (by omega) (by omega) ?_
        refine dX V kb rfl rfl rfl rfl (by repeat constructor) (by omega) (by simpa using hkk) ?_
        rw [fH]
        (refine aF (aB (aA V Z Z (aA V Z Z (bA V Z Z Z Z (by omega) (by omega) (aA V Z Z (aF (bJ (aB (aA V Z Z (bA V Z Z Z Z (by omega) (by omega) (aA V Z Z ?_))))))))))); refine aF ?_)
        exact hKb (kb + 1, _, _) _ _ hst (by simp only; omega) ⟨rfl, rfl, rfl, rfl, rfl, rfl, rfl, rfl, trivial⟩ (by repeat (first | exact Sp.nil | exact Sp.refl _ | refine Sp.cons (by repeat constructor) ?_))
      ·have he := hI.done hmm
       have hb2 := hI.nn
       (refine aD (aD (aB ?_)); (iterate 3 refine aA V Z Z ?_); refine cL V Z Z Z (by omega) (aA V Z Z (aE Z (aA V Z Z (aE Z (cT V Z Z Z (by omega) (aA V Z Z (aF (aH Z (bO _ rfl (aB (aA V Z Z ?_))))))))))); refine aA V Z Z ?_)
       subst he
       (refine aV V Z Z Z Z Z (by omega) (by omega) ?_; refine bB V Z Z Z (fun w hs => RdI.at (hs.rdI (l := S.stocks) (t := 3) (n := n) (by repeat first | exact .head _ | refine .tail _ ?_) (by omega)) i m1) ?_)
       (refine aA V Z Z (aF (bJ (aB (aA V Z Z (bA V Z Z Z Z (by omega) (by omega) (aA V Z Z (aF ?_))))))))
       exact hK (i + 1, .slice (some ⟨gu, 0, none⟩) (i + 1 + 1) cu) _ _ ⟨by simp only; omega, by dsimp only; rw [eR2]; exact hb2⟩ (by simp only; omega) ⟨rfl, rfl, rfl, rfl, rfl, cM rfl (by rw [em1]), rfl, trivial⟩ (by dsimp only; rw [eR2]; repeat (first | exact Sp.nil | exact Sp.refl _ | refine Sp.cons (by repeat constructor) ?_))
     ·have he := hI.full hkk
      have hb2 := hI.nn
      (refine aD (aD (aB ?_)); (iterate 3 refine aA V Z Z ?_); refine cI V Z Z Z (by omega) (aA V Z Z (bE Z Z Z (bE Z Z Z (aA V Z Z (aF (aH Z (bO _ rfl (aB (aA V Z Z (aA V Z Z ?_)))))))))))
      subst he
      (refine aV V Z Z Z Z Z (by omega) (by omega) ?_; refine bB V Z Z Z (fun w hs => RdI.at (hs.rdI (l := S.stocks) (t := 3) (n := n) (by repeat first | exact .head _ | refine .tail _ ?_) (by omega)) i m1) ?_)
      (refine aA V Z Z (aF (bJ (aB (aA V Z Z (bA V Z Z Z Z (by omega) (by omega) (aA V Z Z (aF ?_))))))))
      exact hK (i + 1, .slice (some ⟨gu, 0, none⟩) (i + 1 + 1) cu) _ _ ⟨by simp only; omega, by dsimp only; rw [eR2]; exact hb2⟩ (by simp only; omega) ⟨rfl, rfl, rfl, rfl, rfl, cM rfl (by rw [em1]), rfl, trivial⟩ (by dsimp only; rw [eR2]; repeat (first | exact Sp.nil | exact Sp.refl _ | refine Sp.cons (by repeat constructor) ?_))
   ·have he := hI.full hkk
    have hb2 := hI.nn
    (refine aD (aD (aB ?_)); (iterate 3 refine aA V Z Z ?_); refine cI V Z Z Z (by omega) (aA V Z Z (bE Z Z Z (bE Z Z Z (aA V Z Z (aF (aH Z (bO _ rfl (aD (aB ?_))))))))); (iterate 3 refine aA V Z Z ?_))
    subst he
    have hbL : ∀ z ∈ rremP (t.loss[i]) L0 ++ [S.made[i]], 0 ≤ z ∧ z ≤ 2000000 := fun z hz => by
     rcases List.mem_append.1 hz with hz | hz
     ·exact hb2 z hz
     ·obtain rfl := List.mem_singleton.1 hz
      exact hmk
    clear hKa hI hb2
    (refine aV V Z Z Z Z Z (by omega) (by omega) ?_; refine bB V Z Z Z (fun w hs => RdI.at (hs.rdI (l := S.made) (t := 3) (n := n) (by repeat first | exact .head _ | refine .tail _ ?_) (by omega)) i m2) ?_)
    skip
    refine cJ 3 [.int .i64 S.made[i]] rfl (by kernel_rfl) rfl (fun c0 => ?_)
    refine bZ (q := 1) slI rfl rfl rfl (fun v' => by repeat constructor) (fun w' hs => ⟨_, _, Blk.rd (hs.blk (b := c0) (by repeat first | exact .head _ | refine .tail _ ?_)) rfl 1⟩) (by simp [cU]) (by omega) (by omega) (fun u0 => ?_)
    rw [show aP (rremP (t.loss[i]) L0) ++ [.int .i64 S.made[i]] = aP (rremP (t.loss[i]) L0 ++ [S.made[i]]) by simp [aP]]
    have hlL : (rremP (t.loss[i]) L0 ++ [S.made[i]]).length = i + 1 + 1 := by simp; omega
    have eR2 : rpP x t (i + 1) = rremP t.need[i] (rremP (t.loss[i]) L0 ++ [S.made[i]]) := by rw [eR]; congr 3; omega
    generalize rremP (t.loss[i]) L0 ++ [S.made[i]] = LN at *
    refine bL (fun w hs => hs.ownSome (v := u0) (by repeat first | exact .head _ | refine .tail _ ?_) (by omega)) ?_
    rintro ⟨gu, cu, rfl⟩
    (refine aA V Z Z (aF (aD (aB (aA V Z Z (aA V Z Z ?_))))))
    (refine aV V Z Z Z Z Z (by omega) (by omega) ?_; refine bB V Z Z Z (fun w hs => RdI.at (RdE.keep r1 hs.chg0) i y1) ?_)
    (refine aA V Z Z (aF (aD (aD (aB (aA V Z Z (aF (aQ ?_))))))))
    refine cB (σ := Nat × Int × List Int) (fun s => TkI (t.need[i]) (LN) s.1 s.2.1 s.2.2) (fun s => (LN).length - s.1) (fun s => [(9, .slice (some ⟨h1, 0, none⟩) n d1), (10, .slice (some ⟨h2, 0, none⟩) n d2), (1, .slice (some ⟨g1, f1, none⟩) t.need.length c1), (3, .slice (some ⟨g3, f3, none⟩) t.loss.length c3), (12, .slice (some ⟨gu, 0, none⟩) (i + 1 + 1) cu), (14, .int .i64 i), (18, .int .i64 s.2.1), (19, .int .i64 s.1)])
     (fun s => [.ow (.slice (some ⟨gu, 0, none⟩) (i + 1 + 1) cu) 3 1 (i + 1 + 1) (aP s.2.2), .ow (.slice (some ⟨h1, 0, none⟩) n d1) 3 1 n (aP S.stocks), .ow (.slice (some ⟨h2, 0, none⟩) n d2) 3 1 n (aP S.made), .pt b4 (wnC x a c) 108]) (0, t.need[i], LN) (TkI.zero (by omega) (hbL)) ⟨rfl, rfl, rfl, rfl, rfl, rfl, rfl, rfl, trivial⟩ (by repeat (first | exact Sp.nil | exact Sp.refl _ | refine Sp.cons (by repeat constructor) ?_)) ?_
    rintro ⟨kb, mb, ob⟩ hI Kb hKb
    simp only at hI
    dsimp only
    have hlb := hI.len
    have hmb := hI.mb
    by_cases hkk : kb < ob.length
    ·by_cases hmm : mb > 0
     ·have hbb := hI.nn _ (List.getElem_mem hkk)
      (refine aD (aD (aB ?_)); (iterate 3 refine aA V Z Z ?_); refine cL V Z Z Z (by omega) (aA V Z Z (aE Z (aA V Z Z (aE Z (cP V Z Z Z (by omega) (aA V Z Z (aF (aL Z (aM (aD (aQ ?_))))))))))); refine aD (aB (aA V Z Z (aA V Z Z ?_))))
      (refine aV V Z Z Z Z Z (by omega) (by omega) ?_; refine bB V Z Z Z (fun w hs => RdI.at (hs.rdI (l := ob) (t := 3) (n := (i + 1 + 1)) (by repeat first | exact .head _ | refine .tail _ ?_) (by omega)) kb hkk) ?_)
      (refine aA V Z Z (aF (aD (aD (aB ?_)))); (iterate 3 refine aA V Z Z ?_); refine aF ?_)
      refine dL Z (fun hc => ?_) (fun hc => ?_)
      ·have hst := hI.step hkk hmm (n := mb) (by omega)
       (refine aB (aA V Z Z (aA V Z Z (aF (aD (aB ?_))))); (iterate 4 refine aA V Z Z ?_))
       refine aV V Z Z Z Z Z (by omega) (by omega) ?_
       refine bB V Z Z Z (fun w hs => RdI.at (hs.rdI (l := ob) (t := 3) (n := (i + 1 + 1)) (by repeat first | exact .head _ | refine .tail _ ?_) (by omega)) kb hkk) ?_
       (refine aA V Z Z (bA V Z Z Z Z (by omega) (by omega) ?_))
       refine aV V Z Z Z Z Z (by omega) (by omega) ?_
       refine dX V kb rfl rfl rfl rfl (by repeat constructor) (by omega) (by simpa using hkk) ?_
       rw [fH]
       (refine aF (aB (aA V Z Z (aA V Z Z (bA V Z Z Z Z (by omega) (by omega) (aA V Z Z (aF (bJ (aB (aA V Z Z (bA V Z Z Z Z (by omega) (by omega) (aA V Z Z ?_))))))))))); refine aF ?_)
       exact hKb (kb + 1, _, _) _ _ hst (by simp only; omega) ⟨rfl, rfl, rfl, rfl, rfl, rfl, rfl, rfl, trivial⟩ (by repeat (first | exact Sp.nil | exact Sp.refl _ | refine Sp.cons (by repeat constructor) ?_))
      ·have hst := hI.step hkk hmm (n := ob[kb]) (by omega)
       (refine aM (aD (aB ?_)); (iterate 4 refine aA V Z Z ?_))
       refine aV V Z Z Z Z Z (by omega) (by omega) ?_
       refine bB V Z Z Z (fun w hs => RdI.at (hs.rdI (l := ob) (t := 3) (n := (i + 1 + 1)) (by repeat first | exact .head _ | refine .tail _ ?_) (by omega)) kb hkk) ?_
       (refine aA V Z Z (bA V Z Z Z Z (by omega) (by omega) ?_))
       refine aV V Z Z Z Z Z (by omega) (by omega) ?_
       refine dX V kb rfl rfl rfl rfl (by repeat constructor) (by omega) (by simpa using hkk) ?_
       rw [fH]
       (refine aF (aB (aA V Z Z (aA V Z Z (bA V Z Z Z Z (by omega) (by omega) (aA V Z Z (aF (bJ (aB (aA V Z Z (bA V Z Z Z Z (by omega) (by omega) (aA V Z Z ?_))))))))))); refine aF ?_)
       exact hKb (kb + 1, _, _) _ _ hst (by simp only; omega) ⟨rfl, rfl, rfl, rfl, rfl, rfl, rfl, rfl, trivial⟩ (by repeat (first | exact Sp.nil | exact Sp.refl _ | refine Sp.cons (by repeat constructor) ?_))
     ·have he := hI.done hmm
      have hb2 := hI.nn
      (refine aD (aD (aB ?_)); (iterate 3 refine aA V Z Z ?_); refine cL V Z Z Z (by omega) (aA V Z Z (aE Z (aA V Z Z (aE Z (cT V Z Z Z (by omega) (aA V Z Z (aF (aH Z (bO _ rfl (aB (aA V Z Z ?_))))))))))); refine aA V Z Z ?_)
      subst he
      (refine aV V Z Z Z Z Z (by omega) (by omega) ?_; refine bB V Z Z Z (fun w hs => RdI.at (hs.rdI (l := S.stocks) (t := 3) (n := n) (by repeat first | exact .head _ | refine .tail _ ?_) (by omega)) i m1) ?_)
      (refine aA V Z Z (aF (bJ (aB (aA V Z Z (bA V Z Z Z Z (by omega) (by omega) (aA V Z Z (aF ?_))))))))
      exact hK (i + 1, .slice (some ⟨gu, 0, none⟩) (i + 1 + 1) cu) _ _ ⟨by simp only; omega, by dsimp only; rw [eR2]; exact hb2⟩ (by simp only; omega) ⟨rfl, rfl, rfl, rfl, rfl, cM rfl (by rw [em1]), rfl, trivial⟩ (by dsimp only; rw [eR2]; repeat (first | exact Sp.nil | exact Sp.refl _ | refine Sp.cons (by repeat constructor) ?_))
    ·have he := hI.full hkk
     have hb2 := hI.nn
     (refine aD (aD (aB ?_)); (iterate 3 refine aA V Z Z ?_); refine cI V Z Z Z (by omega) (aA V Z Z (bE Z Z Z (bE Z Z Z (aA V Z Z (aF (aH Z (bO _ rfl (aB (aA V Z Z (aA V Z Z ?_)))))))))))
     subst he
     (refine aV V Z Z Z Z Z (by omega) (by omega) ?_; refine bB V Z Z Z (fun w hs => RdI.at (hs.rdI (l := S.stocks) (t := 3) (n := n) (by repeat first | exact .head _ | refine .tail _ ?_) (by omega)) i m1) ?_)
     (refine aA V Z Z (aF (bJ (aB (aA V Z Z (bA V Z Z Z Z (by omega) (by omega) (aA V Z Z (aF ?_))))))))
     exact hK (i + 1, .slice (some ⟨gu, 0, none⟩) (i + 1 + 1) cu) _ _ ⟨by simp only; omega, by dsimp only; rw [eR2]; exact hb2⟩ (by simp only; omega) ⟨rfl, rfl, rfl, rfl, rfl, cM rfl (by rw [em1]), rfl, trivial⟩ (by dsimp only; rw [eR2]; repeat (first | exact Sp.nil | exact Sp.refl _ | refine Sp.cons (by repeat constructor) ?_))
 ·obtain rfl : i = n := by omega
  clear hc hK
  (refine bO _ rfl (aD (aB (aA V Z Z (aA V Z Z (aF (aS ?_)))))))
  refine aU V Z (by repeat (first | exact RVs.nil | apply RVs.tmp rfl | apply RVs.cellA rfl rfl (by repeat first | exact .head _ | refine .tail _ ?_) (by rfl) | apply RVs.cell1 rfl rfl (by repeat first | exact .head _ | refine .tail _ ?_))) fun w hs => ?_
  exact ⟨v, rfl, hs.sp (by repeat (first | exact Sp.nil | exact Sp.refl _ | refine Sp.cons (by repeat constructor) ?_))⟩
end Go.Proofs.YtgeajgmefokifaaGreat

/- Walks of the reference: the first day that can fail; whether a winter is held. -/
namespace Go.Proofs.YtgeajgmefokifaaGreat
open Go Go.Eng

theorem wtN_R {w0 w : World} {M : Nat → Prop} {H : List Ck} {v1 v2 v3 : Value} {t : Wt} {n : Nat} (h : Sat w0 M H w) (e : t.Fine n) (m1 : .ow v1 3 1 n (aP t.need) ∈ H) (m2 : .ow v2 3 1 n (aP t.make) ∈ H) (m3 : .ow v3 3 1 n (aP t.loss) ∈ H) : WtR w t v1 v2 v3 :=
 hX h (by rw [e.need]; exact m1) (by rw [e.make]; exact m2) (by rw [e.loss]; exact m3)
set_option maxHeartbeats 2000000 in
theorem rfirst_ca (w : World) (lo hi : Nat) (x : Wn) (a : Option Addr) (c : Nat) (h : RdD w lo hi (.slice a x.days.length c) x.days) (hlen : x.days.length ≤ 1000000) :
  Ca Tryz.prog 69 [.agg (wnC x a c).toArray] w fun r w' => r = .tuple #[.int .i64 (firstV x).1, .int .i64 (firstV x).2] ∧ Chg [] w w' := by
 refine cS (Sat.nil w M0) Tryz.func69 rfl (by simp [Tryz.ntmps69]) ?_
 (refine aD (aB ?_))
 refine bD Z Z (fun b1 => ?_)
 (refine aA V Z Z (aA V Z Z (aF (aD (aD (aB (aJ V Z Z Z ?_)))))))
 refine aK (val := .int .i64 (checkW x)) V rfl rfl rfl rfl (fun w hs => ?_) ?_; exact fM w lo hi x a c (RdE.keep h hs.chg0) hlen
 by_cases h0 : checkW x = 0
 ·have hx := bU.1 h0
  have hd := hx.d2
  have e : firstV x = if (hapV x (aR x)).fails = -1 then (0, 6) else ((hapV x (aR x)).fails, 0) := by unfold firstV; rw [if_neg (by omega)]
  rw [e, h0]
  (refine aA V Z Z (aF (aD (aB (aA V Z Z (aW V Z Z Z (by omega) (aF (aH Z (aM (aD (aB (aJ V Z Z Z ?_))))))))))))
  refine bG (β := Value × Value × Value) V [] _ M0 rfl rfl rfl rfl (Sp.refl _) (fun _ h => h.elim) (fun w' hs => rworst_ca w' lo hi x a c (RdE.keep h hs.chg0) hlen) ?_
  rintro ⟨v1, v2, v3⟩ _ rfl
  dsimp only [List.cons_append, List.nil_append]
  (refine aA V Z Z ?_; (iterate 3 refine aT V Z Z Z ?_); (iterate 3 refine aA V Z Z ?_); refine aF (aD (aB (aJ V Z Z Z ?_))); (iterate 3 refine aA V Z Z ?_))
  refine bG (β := Value × Value) V [] _ M0 rfl rfl rfl rfl (Sp.refl _) (fun _ h => h.elim) (fun w' hs => rhap_ca w' lo hi x a c (aR x) v1 v2 v3 (RdE.keep h hs.chg0) hx (bN hx) (wtN_R (H := [.ow v1 3 1 x.days.length (aP (aR x).need), .ow v2 3 1 x.days.length (aP (aR x).make), .ow v3 3 1 x.days.length (aP (aR x).loss), .pt b1 (wnC x a c) 108]) hs (bN hx) (by repeat constructor) (by repeat constructor) (by repeat constructor))) ?_
  rintro ⟨y1, y2⟩ _ rfl
  dsimp only [List.cons_append, List.nil_append]
  have hb := jH x (aR x) hx.stock (bN hx).need0 x.days.length
  change (hapV x (aR x)).fails = -1 ∨ ∃ f : Nat, f < x.days.length ∧ (hapV x (aR x)).fails = f at hb
  generalize (hapV x (aR x)).fails = z at *
  rcases hb with rfl | ⟨f, hf, rfl⟩
  ·(refine aA V Z Z ?_; (iterate 3 refine aT V Z Z Z ?_); (iterate 3 refine aA V Z Z ?_); refine aF (aD (aD (aB (aA V Z Z (cL V Z Z Z (by omega) (aF (aL Z (aD (aB (aA V Z Z (aA V Z Z ?_))))))))))); refine aF (aS ?_))
   refine aU V Z (by repeat constructor) fun w hs => ?_
   exact ⟨rfl, hs.chg0⟩
  ·rw [if_neg (by omega)]
   (refine aA V Z Z ?_; (iterate 3 refine aT V Z Z Z ?_); (iterate 3 refine aA V Z Z ?_); refine aF (aD (aD (aB (aA V Z Z (cI V Z Z Z (by omega) (aF (aH Z (aM (aD (aB ?_)))))))))); (iterate 3 refine aA V Z Z ?_); refine aF (aS ?_))
   refine aU V Z (by repeat constructor) fun w hs => ?_
   exact ⟨rfl, hs.chg0⟩
 ·have e : firstV x = (0, checkW x) := by unfold firstV; rw [if_pos h0]
  rw [e]
  rcases gT x with h1 | h1 | h1
  ·exact absurd h1 h0
  all_goals
   rw [h1]
   (refine aA V Z Z (aF (aD (aB (aA V Z Z (bW V Z Z Z (by omega) (aF (aL Z (aD (aB ?_))))))))); (iterate 3 refine aA V Z Z ?_); refine aF (aS ?_))
   refine aU V Z (by repeat constructor) fun w hs => ?_
   exact ⟨rfl, hs.chg0⟩
/-- Whether no day can fail. -/
def jE (x : Wn) : Bool := decide ((firstV x).2 = 6) && true
theorem held_iff {x : Wn} (hx : x.Right) {s r : Int} (hs : 0 ≤ s ∧ s ≤ r) (hr : 1 ≤ r ∧ r ≤ 1000000) : jE ⟨s, r, x.days⟩ = true ↔ (neededV x).1 ≤ s ∧ (neededV x).2 ≤ r := by
 have hr' : Wn.Right ⟨s, r, x.days⟩ := ⟨hr, hs, hx.d1, hx.d2, hx.days⟩
 rw [← needed_iff hx s r hs]
 unfold jE firstV
 rw [if_neg (by simp [bU.2 hr'])]
 have e : (hapV ⟨s, r, x.days⟩ (aR ⟨s, r, x.days⟩)).fails = (hapP ⟨s, r, x.days⟩ (aR x) x.days.length).fails := rfl
 rw [e]
 split
 ·rename_i h
  simp [h]
 ·rename_i h
  simp [h]
theorem held_ca (w : World) (lo hi : Nat) (x : Wn) (a : Option Addr) (c : Nat) (s r : Int) (h : RdD w lo hi (.slice a x.days.length c) x.days) (hlen : x.days.length ≤ 1000000) :
  Ca Tryz.prog 113 [.agg (wnC x a c).toArray, .int .i64 s, .int .i64 r] w fun v w' => v = .bool (jE ⟨s, r, x.days⟩) ∧ Chg [] w w' := by
 refine cS (Sat.nil w M0) Tryz.func113 rfl (by simp [Tryz.ntmps113]) ?_
 (refine aD (aB ?_))
 refine bD Z Z (fun b3 => ?_)
 (refine aA V Z Z (aF (aD (aB ?_))); (iterate 3 refine aA V Z Z ?_); refine aI V Z Z Z ?_)
 refine dJ #[.int .i64 s, .int .i64 r, .slice a x.days.length c] rfl (by kernel_rfl) rfl ?_
 refine aK (val := .tuple #[.int .i64 (firstV ⟨s, r, x.days⟩).1, .int .i64 (firstV ⟨s, r, x.days⟩).2]) V rfl rfl rfl rfl (fun w hs => ?_) ?_; exact rfirst_ca w lo hi ⟨s, r, x.days⟩ a c (RdE.keep h hs.chg0) hlen
 by_cases h6 : (firstV ⟨s, r, x.days⟩).2 = 6
 ·(refine aA V Z Z (aT V Z Z Z (aT V Z Z Z (aA V Z Z (aA V Z Z (aF (aD (aB (aA V Z Z (cO V Z Z Z (by omega) (aA V Z Z (aF ?_))))))))))); refine aS ?_)
  refine aU V Z (by repeat constructor) fun w hs => ?_
  exact ⟨by simp [jE, h6, fC], hs.chg0⟩
 ·(refine aA V Z Z (aT V Z Z Z (aT V Z Z Z (aA V Z Z (aA V Z Z (aF (aD (aB (aA V Z Z (fP V Z Z Z (by omega) (aA V Z Z (aF ?_))))))))))); refine aS ?_)
  refine aU V Z (by repeat constructor) fun w hs => ?_
  exact ⟨by simp [jE, h6, fC], hs.chg0⟩
end Go.Proofs.YtgeajgmefokifaaGreat

/- Walk of the reference: proofs. -/
namespace Go.Proofs.YtgeajgmefokifaaGreat
open Go Go.Eng

/-- What is left, day by day. -/
def lfK (x : Wn) (frm : Int) (i : Nat) : Int := if i ≤ frm.toNat then x.stock else phK x frm (i - 1 - frm.toNat) - (aR x).need.getD (i - 1) 0
theorem ph_at (x : Wn) {frm : Int} {i : Nat} (h : frm ≤ (i : Int)) (h1 : -1 ≤ frm) : phK x frm (i - frm.toNat) = if (i : Int) = frm then x.store else max 0 (lfK x frm i - (aR x).loss.getD i 0) + (aR x).make.getD i 0 := by
 by_cases h2 : (i : Int) = frm
 ·rw [if_pos h2, show i - frm.toNat = 0 by omega, phK, if_neg (by omega)]
 ·rw [if_neg h2]
  by_cases h3 : i ≤ frm.toNat
  ·obtain rfl : i = 0 := by omega
   rw [lfK, if_pos h3, show 0 - frm.toNat = 0 by omega, phK, if_pos (by omega)]
  ·rw [lfK, if_neg h3, show i - frm.toNat = (i - 1 - frm.toNat) + 1 by omega, phK, show frm.toNat + (i - 1 - frm.toNat) = i - 1 by omega, show i - 1 + 1 = i by omega]
theorem lf_succ (x : Wn) {frm : Int} {i : Nat} (h : frm ≤ (i : Int)) : lfK x frm (i + 1) = phK x frm (i - frm.toNat) - (aR x).need.getD i 0 := by
 rw [lfK, if_neg (by omega)]
 rfl
theorem lf_bd {x : Wn} (hx : x.Right) (frm : Int) {i : Nat} (hi : i ≤ 100) : -200000 ≤ lfK x frm i ∧ lfK x frm i ≤ 30000000 := by
 unfold lfK
 split
 ·have := hx.stock
  have := hx.store
  omega
 ·have h1 := ph_nn hx frm (i - 1 - frm.toNat)
  have h2 := ph_bd hx frm (i - 1 - frm.toNat)
  have h3 := dP (bN hx).need0 (by omega) (by omega) (i - 1)
  omega
theorem proves_end {x : Wn} (hx : x.Right) {frm : Int} {d : Nat} (hd : d < x.days.length) (hf : -1 ≤ frm ∧ frm ≤ d) (hall : ∀ j, frm.toNat ≤ j → j < d → (aR x).need.getD j 0 ≤ phK x frm (j - frm.toNat)) :
  cF x frm d = if lfK x frm (d + 1) ≥ 0 then (0, 8) else (-lfK x frm (d + 1), 0) := by
 rw [lf_succ x hf.2]
 unfold cF
 rw [if_neg (by simp [bU.2 hx]), if_neg (by omega)]
 simp only [Int.toNat_natCast]
 rw [if_neg (by
  rw [Bool.not_eq_false, lV]
  intro k hk
  have := hall (frm.toNat + k) (by omega) (by omega)
  rwa [show frm.toNat + k - frm.toNat = k by omega] at this)]
 split
 ·rw [if_pos (by omega)]
 ·rw [if_neg (by omega)]
  congr 1
  omega
theorem proves_stop {x : Wn} (hx : x.Right) {frm : Int} {d i : Nat} (hd : d < x.days.length) (hf : -1 ≤ frm ∧ frm ≤ d) (hi : frm ≤ (i : Int)) (hid : i < d) (h : lfK x frm (i + 1) < 0) : cF x frm d = (0, 8) := by
 rw [lf_succ x hi] at h
 unfold cF
 rw [if_neg (by simp [bU.2 hx]), if_neg (by omega)]
 simp only [Int.toNat_natCast]
 rw [if_pos]
 cases hp : phAll x frm (d - frm.toNat) with
 | false => rfl
 | true =>
  have := lV.1 hp (i - frm.toNat) (by omega)
  rw [show frm.toNat + (i - frm.toNat) = i by omega] at this
  omega
set_option maxHeartbeats 4000000 in
theorem kJ (w : World) (lo hi : Nat) (x : Wn) (a : Option Addr) (c : Nat) (frm day : Int) (h : RdD w lo hi (.slice a x.days.length c) x.days) (hlen : x.days.length ≤ 1000000) :
  Ca Tryz.prog 71 [.agg (wnC x a c).toArray, .int .i64 frm, .int .i64 day] w fun r w' => r = .tuple #[.int .i64 (cF x frm day).1, .int .i64 (cF x frm day).2] ∧ Chg [] w w' := by
 obtain ⟨a', c', he, hsa⟩ := RdD.outI h
 cases he
 refine cS (Sat.nil w M0) Tryz.func71 rfl (by simp [Tryz.ntmps71]) ?_
 (refine aD (aB ?_))
 refine bD Z Z (fun b3 => ?_)
 (refine aA V Z Z (aA V Z Z (aF (aD (aD (aB ?_))))); refine aJ V Z Z Z ?_)
 refine aK (val := .int .i64 (checkW x)) V rfl rfl rfl rfl (fun w hs => ?_) ?_; exact fM w lo hi x a c (RdE.keep h hs.chg0) hlen
 by_cases h0 : checkW x ≠ 0
 ·have e : cF x frm day = (0, checkW x) := by unfold cF; rw [if_pos h0]
  rw [e]
  rcases gT x with h1 | h1 | h1
  ·exact absurd h1 h0
  all_goals
   rw [h1]
   (refine aA V Z Z (aF (aD (aB (aA V Z Z (bW V Z Z Z (by omega) (aF (aL Z (aD (aB ?_))))))))); (iterate 3 refine aA V Z Z ?_); refine aF (aS ?_))
   refine aU V Z (by repeat constructor) fun w hs => ?_
   exact ⟨rfl, hs.chg0⟩
 have h0 : checkW x = 0 := by omega
 have hx := bU.1 h0
 have hd2 := hx.d2
 have hd1 := hx.d1
 have hun := proves_unknown hx (frm := frm) (day := day)
 rw [h0]
 (refine aA V Z Z (aF (aD (aB (aA V Z Z (aW V Z Z Z (by omega) (aF (aH Z (aM (aD (aD (aB ?_))))))))))); refine aA V Z Z (aA V Z Z ?_); refine aI V Z Z Z ?_; refine aA V Z Z (bA V Z Z Z Z (by omega) (by omega) ?_))
 refine aK (val := .bool (!(wiB day 0 ((x.days.length : Int) - 1)))) V rfl rfl rfl rfl (fun w hs => ?_) ?_; exact eO day 0 ((x.days.length : Int) - 1) w
 cases g1 : wiB day 0 ((x.days.length : Int) - 1) with
 | false =>
  have g1' : ¬(0 ≤ day ∧ day ≤ (x.days.length : Int) - 1) := fun hh => by rw [cD.2 hh] at g1; cases g1
  have e : cF x frm day = (0, 1) := by rcases proves_or hx frm day with hh | hh | hh <;> first | exact hh | (have := hun.2 (by omega); rw [hh] at this; cases this) | (have := hun.2 (by omega); omega)
  (refine aA V Z Z ?_; (iterate 3 refine bE Z Z Z ?_); refine aA V Z Z (aF (aL Z (aD (aB (aA V Z Z (aA V Z Z (aF (aS ?_)))))))))
  refine aU V Z (by repeat constructor) fun w hs => ?_
  exact ⟨by rw [e]; rfl, hs.chg0⟩
 | true =>
 have g1' := cD.1 g1
 (refine aA V Z Z (aE Z (aA V Z Z (aE Z (aA V Z Z (aE Z ?_))))))
 refine aK (val := .bool (!(wiB frm (-1) day))) V rfl rfl rfl rfl (fun w hs => ?_) ?_; exact eO frm (-1) day w
 cases g2 : wiB frm (-1) day with
 | false =>
  have g2' : ¬(-1 ≤ frm ∧ frm ≤ day) := fun hh => by rw [cD.2 hh] at g2; cases g2
  have e : cF x frm day = (0, 1) := by rcases proves_or hx frm day with hh | hh | hh <;> first | exact hh | (have := hun.2 (by omega); rw [hh] at this; cases this) | (have := hun.2 (by omega); omega)
  (refine aA V Z Z (aF (aL Z (aD (aB (aA V Z Z (aA V Z Z (aF (aS ?_)))))))))
  refine aU V Z (by repeat constructor) fun w hs => ?_
  exact ⟨by rw [e]; rfl, hs.chg0⟩
 | true =>
 have g2' := cD.1 g2
 clear g1 g2 hun
 obtain ⟨d, rfl⟩ : ∃ d : Nat, day = d := ⟨day.toNat, by omega⟩
 have hd : d < x.days.length := by omega
 obtain ⟨b, off, rfl⟩ := hsa (by omega)
 (refine aA V Z Z (aF (aH Z (aM (aD (aB (aA V Z Z ?_)))))); refine aI V Z Z Z ?_; refine aA V Z Z (aF (aD (aD (aB (aA V Z Z (aF (aQ ?_))))))))
 refine cB (σ := Nat) (fun i => i ≤ d + 1 ∧ ∀ j, frm.toNat ≤ j → j < i → j < d → (aR x).need.getD j 0 ≤ phK x frm (j - frm.toNat)) (fun i => d + 1 - i) (fun i => [(1, .int .i64 frm), (2, .int .i64 d), (3, .pointer (some ⟨b3, 0, none⟩)), (9, .int .i64 (lfK x frm i)), (10, .int .i64 i)]) (fun _ => [.pt b3 (wnC x (some ⟨b, off, none⟩) c) 108]) 0 ⟨by omega, by omega⟩ ⟨rfl, rfl, rfl, cM rfl (by unfold lfK; rw [if_pos (by omega)]), rfl, trivial⟩ (by repeat constructor) ?_
 rintro i ⟨hi, hall⟩ K hK
 by_cases hc : (i : Int) ≤ d
 ·have hi2 : i < x.days.length := by omega
  have w1 := lW x i hi2
  have hdr := hx.days _ (List.getElem_mem hi2)
  have hdn := hdr.n
  have hdm := hdr.m
  have hdl := hdr.l
  have hbd := lf_bd hx frm (i := i) (by omega)
  have hst := hx.store
  (refine aD (aD (aB (aA V Z Z (aA V Z Z (ql_leqT V Z Z Z (by omega) (aF (aL Z (aM (aD (aQ (aD ?_))))))))))); refine aB (aA V Z Z ?_); refine aI V Z Z Z ?_; refine aA V Z Z ?_)
  refine aV V Z Z Z Z Z (by omega) (by omega) ?_
  skip
  refine dU V Z Z Z Z (fun w hs => RdD.at (RdE.keep h hs.chg0) i hi2) ?_
  skip
  refine bI zero175 rfl (fun b11 => ?_)
  by_cases hlt : (i : Int) < frm
  ·have e : lfK x frm (i + 1) = lfK x frm i := by unfold lfK; rw [if_pos (by omega), if_pos (by omega)]
   (refine bS V Z Z Z Z Z (by repeat constructor) rfl ?_; refine aF (aD (aD (aB (aA V Z Z (aA V Z Z (cL V Z Z Z (by omega) (aF (aL Z (bO _ rfl (aB (aA V Z Z ?_))))))))))); refine bA V Z Z Z Z (by omega) (by omega) (aA V Z Z (aF ?_)))
   exact hK (i + 1) _ _ ⟨by omega, fun j h1 h2 h3 => hall j h1 (by omega) h3⟩ (by omega) ⟨rfl, rfl, rfl, cM rfl e.symm, rfl, trivial⟩ (by repeat constructor)
  ·have e1 := ph_at x (frm := frm) (i := i) (by omega) g2'.1
   have e2 := lf_succ x (frm := frm) (i := i) (by omega)
   rw [w1.1] at e2
   rw [w1.2.1, w1.2.2] at e1
   have hend : i = d → cF x frm d = if lfK x frm (i + 1) ≥ 0 then (0, 8) else (-lfK x frm (i + 1), 0) := fun hh => by
    subst hh
    exact proves_end hx hd g2' (fun j h1 h2 => hall j h1 (by omega) (by omega))
   have hstop := proves_stop hx hd g2' (i := i) (by omega)
   have hnx : ∀ j, lfK x frm (i + 1) ≥ 0 ∨ i = d → frm.toNat ≤ j → j < i + 1 → j < d → (aR x).need.getD j 0 ≤ phK x frm (j - frm.toNat) := fun j h0 h1 h2 h3 => by
    by_cases hj : j = i
    ·subst hj
     rw [w1.1]
     omega
    ·exact hall j h1 (by omega) h3
   generalize hL1 : lfK x frm (i + 1) = L1 at *
   generalize lfK x frm i = L0 at *
   generalize phK x frm (i - frm.toNat) = P0 at *
   generalize x.days[i] = dd at *
   obtain ⟨n0, n1, m0, m1, l0, l1⟩ := dd
   dsimp only at hdn hdm hdl e1 e2 ⊢
   by_cases hif : (i : Int) = frm
   ·rw [if_pos hif] at e1
    by_cases hz : L1 < 0
    ·by_cases hid : i < d
     ·have e := hstop hid hz
      (refine bS V Z Z Z Z Z (by repeat constructor) rfl ?_; refine aF (aD (aD (aB (aA V Z Z (aA V Z Z (cI V Z Z Z (by omega) (aF (aH Z (aM (aD (aB ?_))))))))))); refine aA V Z Z ?_; refine aI V Z Z Z ?_; refine aA V Z Z (aF (aD (aD (aB (aA V Z Z (aA V Z Z (aW V Z Z Z (by omega) (aF (aH Z (aM (aD ?_))))))))))); refine aB ?_; (iterate 3 refine aA V Z Z ?_); refine aI V Z Z Z ?_; refine bA V Z Z Z Z (by omega) (by omega) (aA V Z Z (aF (aD (aB (aA V Z Z (cL V Z Z Z (by omega) (aA V Z Z (aE Z (aA V Z Z (aE Z (aA V Z Z ?_))))))))))); refine aE Z (cL V Z Z Z (by omega) (aA V Z Z (aF (aL Z (aD (aB (aA V Z Z (aA V Z Z (aF (aS ?_)))))))))))
      refine aU V Z (by repeat constructor) fun w hs => ?_
      exact ⟨by rw [e]; rfl, hs.chg0⟩
     ·(refine bS V Z Z Z Z Z (by repeat constructor) rfl ?_; refine aF (aD (aD (aB (aA V Z Z (aA V Z Z (cI V Z Z Z (by omega) (aF (aH Z (aM (aD (aB ?_))))))))))); refine aA V Z Z ?_; refine aI V Z Z Z ?_; refine aA V Z Z (aF (aD (aD (aB (aA V Z Z (aA V Z Z (aW V Z Z Z (by omega) (aF (aH Z (aM (aD ?_))))))))))); refine aB ?_; (iterate 3 refine aA V Z Z ?_); refine aI V Z Z Z ?_; refine bA V Z Z Z Z (by omega) (by omega) (aA V Z Z (aF (aD (aB (aA V Z Z (cL V Z Z Z (by omega) (aA V Z Z (aE Z (aA V Z Z (aE Z (aA V Z Z ?_))))))))))); refine aE Z (cI V Z Z Z (by omega) (aA V Z Z (aF (aH Z (aM (bJ (aB (aA V Z Z (bA V Z Z Z Z (by omega) (by omega) (aA V Z Z (aF ?_))))))))))))
      exact hK (i + 1) _ _ ⟨by omega, fun j => hnx j (by omega)⟩ (by omega) ⟨rfl, rfl, rfl, cM rfl (by omega), rfl, trivial⟩ (by repeat constructor)
    ·(refine bS V Z Z Z Z Z (by repeat constructor) rfl ?_; refine aF (aD (aD (aB (aA V Z Z (aA V Z Z (cI V Z Z Z (by omega) (aF (aH Z (aM (aD (aB ?_))))))))))); refine aA V Z Z ?_; refine aI V Z Z Z ?_; refine aA V Z Z (aF (aD (aD (aB (aA V Z Z (aA V Z Z (aW V Z Z Z (by omega) (aF (aH Z (aM (aD ?_))))))))))); refine aB ?_; (iterate 3 refine aA V Z Z ?_); refine aI V Z Z Z ?_; refine bA V Z Z Z Z (by omega) (by omega) (aA V Z Z (aF (aD (aB (aA V Z Z (cI V Z Z Z (by omega) (aA V Z Z ?_))))))); (iterate 3 refine bE Z Z Z ?_); refine aA V Z Z (aF (aH Z (aM (bJ (aB (aA V Z Z (bA V Z Z Z Z (by omega) (by omega) (aA V Z Z (aF ?_))))))))))
     exact hK (i + 1) _ _ ⟨by omega, fun j => hnx j (by omega)⟩ (by omega) ⟨rfl, rfl, rfl, cM rfl (by omega), rfl, trivial⟩ (by repeat constructor)
   ·rw [if_neg hif] at e1
    by_cases hg : L0 > l1
    ·skip
     by_cases hz : L1 < 0
     ·by_cases hid : i < d
      ·have e := hstop hid hz
       (refine bS V Z Z Z Z Z (by repeat constructor) rfl ?_; refine aF (aD (aD (aB (aA V Z Z (aA V Z Z (cI V Z Z Z (by omega) (aF (aH Z (aM (aD (aB ?_))))))))))); refine aA V Z Z ?_; refine aI V Z Z Z ?_; refine aA V Z Z (aF (aD (aD (aB (aA V Z Z (aA V Z Z (bW V Z Z Z (by omega) (aF (aL Z (aD (aB ?_))))))))))); refine aA V Z Z (aA V Z Z ?_); refine aI V Z Z Z ?_; refine aA V Z Z (aF (aD (aB ?_))); (iterate 3 refine aA V Z Z ?_); refine aI V Z Z Z ?_; refine cP V Z Z Z (by omega) (aF (aL Z (aB (aA V Z Z (aA V Z Z (bA V Z Z Z Z (by omega) (by omega) (aA V Z Z (aA V Z Z ?_)))))))); refine aI V Z Z Z ?_; refine bA V Z Z Z Z (by omega) (by omega) (aA V Z Z (aF (aD (aB ?_)))); (iterate 3 refine aA V Z Z ?_); refine aI V Z Z Z ?_; refine bA V Z Z Z Z (by omega) (by omega) (aA V Z Z (aF (aD (aB (aA V Z Z (cL V Z Z Z (by omega) (aA V Z Z (aE Z (aA V Z Z (aE Z (aA V Z Z ?_))))))))))); refine aE Z (cL V Z Z Z (by omega) (aA V Z Z (aF (aL Z (aD (aB (aA V Z Z (aA V Z Z (aF (aS ?_)))))))))))
       refine aU V Z (by repeat constructor) fun w hs => ?_
       exact ⟨by rw [e]; rfl, hs.chg0⟩
      ·(refine bS V Z Z Z Z Z (by repeat constructor) rfl ?_; refine aF (aD (aD (aB (aA V Z Z (aA V Z Z (cI V Z Z Z (by omega) (aF (aH Z (aM (aD (aB ?_))))))))))); refine aA V Z Z ?_; refine aI V Z Z Z ?_; refine aA V Z Z (aF (aD (aD (aB (aA V Z Z (aA V Z Z (bW V Z Z Z (by omega) (aF (aL Z (aD (aB ?_))))))))))); refine aA V Z Z (aA V Z Z ?_); refine aI V Z Z Z ?_; refine aA V Z Z (aF (aD (aB ?_))); (iterate 3 refine aA V Z Z ?_); refine aI V Z Z Z ?_; refine cP V Z Z Z (by omega) (aF (aL Z (aB (aA V Z Z (aA V Z Z (bA V Z Z Z Z (by omega) (by omega) (aA V Z Z (aA V Z Z ?_)))))))); refine aI V Z Z Z ?_; refine bA V Z Z Z Z (by omega) (by omega) (aA V Z Z (aF (aD (aB ?_)))); (iterate 3 refine aA V Z Z ?_); refine aI V Z Z Z ?_; refine bA V Z Z Z Z (by omega) (by omega) (aA V Z Z (aF (aD (aB (aA V Z Z (cL V Z Z Z (by omega) (aA V Z Z (aE Z (aA V Z Z (aE Z (aA V Z Z ?_))))))))))); refine aE Z (cI V Z Z Z (by omega) (aA V Z Z (aF (aH Z (aM (bJ (aB (aA V Z Z (bA V Z Z Z Z (by omega) (by omega) (aA V Z Z (aF ?_))))))))))))
       exact hK (i + 1) _ _ ⟨by omega, fun j => hnx j (by omega)⟩ (by omega) ⟨rfl, rfl, rfl, cM rfl (by omega), rfl, trivial⟩ (by repeat constructor)
     ·(refine bS V Z Z Z Z Z (by repeat constructor) rfl ?_; refine aF (aD (aD (aB (aA V Z Z (aA V Z Z (cI V Z Z Z (by omega) (aF (aH Z (aM (aD (aB ?_))))))))))); refine aA V Z Z ?_; refine aI V Z Z Z ?_; refine aA V Z Z (aF (aD (aD (aB (aA V Z Z (aA V Z Z (bW V Z Z Z (by omega) (aF (aL Z (aD (aB ?_))))))))))); refine aA V Z Z (aA V Z Z ?_); refine aI V Z Z Z ?_; refine aA V Z Z (aF (aD (aB ?_))); (iterate 3 refine aA V Z Z ?_); refine aI V Z Z Z ?_; refine cP V Z Z Z (by omega) (aF (aL Z (aB (aA V Z Z (aA V Z Z (bA V Z Z Z Z (by omega) (by omega) (aA V Z Z (aA V Z Z ?_)))))))); refine aI V Z Z Z ?_; refine bA V Z Z Z Z (by omega) (by omega) (aA V Z Z (aF (aD (aB ?_)))); (iterate 3 refine aA V Z Z ?_); refine aI V Z Z Z ?_; refine bA V Z Z Z Z (by omega) (by omega) (aA V Z Z (aF (aD (aB (aA V Z Z (cI V Z Z Z (by omega) (aA V Z Z ?_))))))); (iterate 3 refine bE Z Z Z ?_); refine aA V Z Z (aF (aH Z (aM (bJ (aB (aA V Z Z (bA V Z Z Z Z (by omega) (by omega) (aA V Z Z (aF ?_))))))))))
      exact hK (i + 1) _ _ ⟨by omega, fun j => hnx j (by omega)⟩ (by omega) ⟨rfl, rfl, rfl, cM rfl (by omega), rfl, trivial⟩ (by repeat constructor)
    ·skip
     by_cases hz : L1 < 0
     ·by_cases hid : i < d
      ·have e := hstop hid hz
       (refine bS V Z Z Z Z Z (by repeat constructor) rfl ?_; refine aF (aD (aD (aB (aA V Z Z (aA V Z Z (cI V Z Z Z (by omega) (aF (aH Z (aM (aD (aB ?_))))))))))); refine aA V Z Z ?_; refine aI V Z Z Z ?_; refine aA V Z Z (aF (aD (aD (aB (aA V Z Z (aA V Z Z (bW V Z Z Z (by omega) (aF (aL Z (aD (aB ?_))))))))))); refine aA V Z Z (aA V Z Z ?_); refine aI V Z Z Z ?_; refine aA V Z Z (aF (aD (aB ?_))); (iterate 3 refine aA V Z Z ?_); refine aI V Z Z Z ?_; refine cT V Z Z Z (by omega) (aF (aH Z (aM (aD (aB ?_))))); (iterate 3 refine aA V Z Z ?_); refine aI V Z Z Z ?_; refine bA V Z Z Z Z (by omega) (by omega) (aA V Z Z (aF (aD (aB (aA V Z Z (cL V Z Z Z (by omega) (aA V Z Z (aE Z (aA V Z Z (aE Z (aA V Z Z ?_))))))))))); refine aE Z (cL V Z Z Z (by omega) (aA V Z Z (aF (aL Z (aD (aB (aA V Z Z (aA V Z Z (aF (aS ?_)))))))))))
       refine aU V Z (by repeat constructor) fun w hs => ?_
       exact ⟨by rw [e]; rfl, hs.chg0⟩
      ·(refine bS V Z Z Z Z Z (by repeat constructor) rfl ?_; refine aF (aD (aD (aB (aA V Z Z (aA V Z Z (cI V Z Z Z (by omega) (aF (aH Z (aM (aD (aB ?_))))))))))); refine aA V Z Z ?_; refine aI V Z Z Z ?_; refine aA V Z Z (aF (aD (aD (aB (aA V Z Z (aA V Z Z (bW V Z Z Z (by omega) (aF (aL Z (aD (aB ?_))))))))))); refine aA V Z Z (aA V Z Z ?_); refine aI V Z Z Z ?_; refine aA V Z Z (aF (aD (aB ?_))); (iterate 3 refine aA V Z Z ?_); refine aI V Z Z Z ?_; refine cT V Z Z Z (by omega) (aF (aH Z (aM (aD (aB ?_))))); (iterate 3 refine aA V Z Z ?_); refine aI V Z Z Z ?_; refine bA V Z Z Z Z (by omega) (by omega) (aA V Z Z (aF (aD (aB (aA V Z Z (cL V Z Z Z (by omega) (aA V Z Z (aE Z (aA V Z Z (aE Z (aA V Z Z ?_))))))))))); refine aE Z (cI V Z Z Z (by omega) (aA V Z Z (aF (aH Z (aM (bJ (aB (aA V Z Z (bA V Z Z Z Z (by omega) (by omega) (aA V Z Z (aF ?_))))))))))))
       exact hK (i + 1) _ _ ⟨by omega, fun j => hnx j (by omega)⟩ (by omega) ⟨rfl, rfl, rfl, cM rfl (by omega), rfl, trivial⟩ (by repeat constructor)
     ·(refine bS V Z Z Z Z Z (by repeat constructor) rfl ?_; refine aF (aD (aD (aB (aA V Z Z (aA V Z Z (cI V Z Z Z (by omega) (aF (aH Z (aM (aD (aB ?_))))))))))); refine aA V Z Z ?_; refine aI V Z Z Z ?_; refine aA V Z Z (aF (aD (aD (aB (aA V Z Z (aA V Z Z (bW V Z Z Z (by omega) (aF (aL Z (aD (aB ?_))))))))))); refine aA V Z Z (aA V Z Z ?_); refine aI V Z Z Z ?_; refine aA V Z Z (aF (aD (aB ?_))); (iterate 3 refine aA V Z Z ?_); refine aI V Z Z Z ?_; refine cT V Z Z Z (by omega) (aF (aH Z (aM (aD (aB ?_))))); (iterate 3 refine aA V Z Z ?_); refine aI V Z Z Z ?_; refine bA V Z Z Z Z (by omega) (by omega) (aA V Z Z (aF (aD (aB (aA V Z Z (cI V Z Z Z (by omega) (aA V Z Z ?_))))))); (iterate 3 refine bE Z Z Z ?_); refine aA V Z Z (aF (aH Z (aM (bJ (aB (aA V Z Z (bA V Z Z Z Z (by omega) (by omega) (aA V Z Z (aF ?_))))))))))
      exact hK (i + 1) _ _ ⟨by omega, fun j => hnx j (by omega)⟩ (by omega) ⟨rfl, rfl, rfl, cM rfl (by omega), rfl, trivial⟩ (by repeat constructor)
 ·obtain rfl : i = d + 1 := by omega
  have e := proves_end hx hd g2' (fun j h1 h2 => hall j h1 (by omega) h2)
  have hbd := lf_bd hx frm (i := d + 1) (by omega)
  generalize lfK x frm (d + 1) = L at *
  by_cases hL : L ≥ 0
  ·rw [if_pos hL] at e
   (refine aD (aD (aB (aA V Z Z (aA V Z Z (ql_leqF V Z Z Z (by omega) (aF (aH Z (bO _ rfl (aD (aD (aB ?_))))))))))); refine aA V Z Z (ql_geqT V Z Z Z (by omega) (aF (aL Z (aD (aB (aA V Z Z (aA V Z Z (aF (aS ?_))))))))))
   refine aU V Z (by repeat constructor) fun w hs => ?_
   exact ⟨by rw [e]; rfl, hs.chg0⟩
  ·rw [if_neg hL] at e
   (refine aD (aD (aB (aA V Z Z (aA V Z Z (ql_leqF V Z Z Z (by omega) (aF (aH Z (bO _ rfl (aD (aD (aB ?_))))))))))); refine aA V Z Z (ql_geqF V Z Z Z (by omega) (aF (aH Z (aM (aD (aB (aA V Z Z (ql_neg V Z Z (by omega) (by omega) (aA V Z Z (aA V Z Z (aF ?_))))))))))); refine aS ?_)
   refine aU V Z (by repeat constructor) fun w hs => ?_
   exact ⟨by rw [e]; rfl, hs.chg0⟩
end Go.Proofs.YtgeajgmefokifaaGreat

/- Plain laws of winters: more stock, more room, more snow made, less need and less loss. -/
namespace Go.Proofs.YtgeajgmefokifaaGreat
open Go

structure RichD (d d' : Dy) : Prop where
 n : d'.n0 = d.n0 ∧ d.n0 ≤ d'.n1 ∧ d'.n1 ≤ d.n1
 m : d'.m1 = d.m1 ∧ d.m0 ≤ d'.m0 ∧ d'.m0 ≤ d.m1
 l : d'.l0 = d.l0 ∧ d.l0 ≤ d'.l1 ∧ d'.l1 ≤ d.l1
structure RichL (l l' : List Dy) : Prop where
 len : l'.length = l.length
 all : ∀ i (h : i < l.length) (h' : i < l'.length), RichD l[i] l'[i]
theorem least_eq {w : Wn} (hw : w.Right) : eN w = if w.store < max (neededV w).1 (neededV w).2 then (0, 6) else ((neededV w).1, 0) := by unfold eN; rw [if_neg (by simp [bU.2 hw])]
theorem room_eq {w : Wn} (hw : w.Right) : gE w = if w.stock < (neededV w).1 ∨ 1000000 < (neededV w).2 then (0, 6) else (max (max 1 w.stock) (neededV w).2, 0) := by unfold gE; rw [if_neg (by simp [bU.2 hw])]
end Go.Proofs.YtgeajgmefokifaaGreat

/- Walks of the reference: the least stock and the least store. -/
namespace Go.Proofs.YtgeajgmefokifaaGreat
open Go Go.Eng

set_option maxHeartbeats 4000000 in
theorem rleast_ca (w : World) (lo hi : Nat) (x : Wn) (a : Option Addr) (c : Nat) (h : RdD w lo hi (.slice a x.days.length c) x.days) (hlen : x.days.length ≤ 1000000) :
  Ca Tryz.prog 74 [.agg (wnC x a c).toArray] w fun r w' => r = .tuple #[.int .i64 (eN x).1, .int .i64 (eN x).2] ∧ Chg [] w w' := by
 refine cS (Sat.nil w M0) Tryz.func74 rfl (by simp [Tryz.ntmps74]) ?_
 (refine aD (aB ?_))
 refine bD Z Z (fun b1 => ?_)
 (refine aA V Z Z (aA V Z Z (aF (aD (aD (aB ?_))))); refine aJ V Z Z Z ?_)
 refine aK (val := .int .i64 (checkW x)) V rfl rfl rfl rfl (fun w hs => ?_) ?_; exact fM w lo hi x a c (RdE.keep h hs.chg0) hlen
 by_cases h0 : checkW x ≠ 0
 ·have e : eN x = (0, checkW x) := by unfold eN; rw [if_pos h0]
  rw [e]
  rcases gT x with h1 | h1 | h1
  ·exact absurd h1 h0
  all_goals
   rw [h1]
   (refine aA V Z Z (aF (aD (aB (aA V Z Z (bW V Z Z Z (by omega) (aF (aL Z (aD (aB ?_))))))))); (iterate 3 refine aA V Z Z ?_); refine aF (aS ?_))
   refine aU V Z (by repeat constructor) fun w hs => ?_
   exact ⟨rfl, hs.chg0⟩
 have h0 : checkW x = 0 := by omega
 have hx := bU.1 h0
 have hst := hx.store
 have e := least_eq hx
 have hnd := nd_bd hx x.days.length
 have hheld : ∀ n : Int, 0 ≤ n ∧ n ≤ x.store → (jE ⟨n, x.store, x.days⟩ = true ↔ (neededV x).1 ≤ n ∧ (neededV x).2 ≤ x.store) := fun n hn => held_iff hx hn hst
 rw [h0, e]
 change (0 ≤ (neededV x).1 ∧ _) ∧ 0 ≤ (neededV x).2 ∧ _ at hnd
 generalize neededV x = N at *
 (refine aA V Z Z (aF (aD (aB (aA V Z Z (aW V Z Z Z (by omega) (aF (aH Z (aM (aD (aD (aB ?_))))))))))); refine aJ V Z Z Z ?_; refine aA V Z Z ?_; refine aI V Z Z Z ?_; refine aA V Z Z ?_; refine aI V Z Z Z ?_)
 refine aK (val := .bool (jE ⟨x.store, x.store, x.days⟩)) V rfl rfl rfl rfl (fun w hs => ?_) ?_; exact held_ca w lo hi x a c x.store x.store (RdE.keep h hs.chg0) hlen
 cases hb : jE ⟨x.store, x.store, x.days⟩ with
 | false =>
  have h2 := (hheld x.store (by omega)).2
  have h3 : x.store < max N.1 N.2 := by
   refine Classical.byContradiction fun hh => ?_
   rw [h2 (by omega)] at hb
   cases hb
  rw [if_pos h3]
  (refine aA V Z Z (aF (aL Z (aD (aB (aA V Z Z (aA V Z Z (aF (aS ?_)))))))))
  refine aU V Z (by repeat constructor) fun w hs => ?_
  exact ⟨rfl, hs.chg0⟩
 | true =>
 have h2 := (hheld x.store (by omega)).1 hb
 rw [if_neg (by omega)]
 (refine aA V Z Z (aF (aH Z (aM (aD ?_)))))
 refine cQ _ [] (Sp.refl _) (by kernel_rfl) (by kernel_rfl) ?_
 (refine aG V Z Z Z ?_; refine aN V Z Z Z ?_; refine aG V Z Z Z (aG V Z Z Z (aO (aD (aQ ?_)))))
 refine cB (σ := Int × Int) (fun s => (-1 ≤ s.1 ∧ s.1 < s.2 ∧ s.2 ≤ x.store) ∧ N.1 ≤ s.2 ∧ (s.1 = -1 ∨ s.1 < N.1)) (fun s => (s.2 - s.1).toNat) (fun s => [(1, .pointer (some ⟨b1, 0, none⟩)), (5, .int .i64 s.1), (6, .int .i64 s.2)]) (fun _ => [.pt b1 (wnC x a c) 108]) (-1, x.store) ⟨by simp only; omega, by simp only; omega, .inl rfl⟩ ⟨rfl, rfl, rfl, trivial⟩ (by repeat constructor) ?_
 rintro ⟨l, u⟩ ⟨hlu, hu, hl⟩ K hK
 simp only at hlu hu hl
 dsimp only
 by_cases hgo : u - l > 1
 ·have hn : l < (l + u) / 2 ∧ (l + u) / 2 < u ∧ 0 ≤ (l + u) / 2 := by omega
  have hq := hheld ((l + u) / 2) (by omega)
  (refine aD (aD (aB (aA V Z Z (aA V Z Z (bA V Z Z Z Z (by omega) (by omega) (cP V Z Z Z (by omega) (aF (aL Z (aM (aQ (aD ?_))))))))))); refine aB (aA V Z Z (aA V Z Z (bA V Z Z Z Z (by omega) (by omega) (fS Z Z Z (by omega) (by omega) (by omega) (aA V Z Z (aF (aD (aB (aA V Z Z (ql_geqT V Z Z Z (by omega) (aA V Z Z ?_))))))))))); refine aE Z ?_; refine aJ V Z Z Z ?_; refine aE Z (aA V Z Z (aE Z (aA V Z Z (aE Z ?_)))); refine aI V Z Z Z ?_; refine aE Z ?_)
  refine aK (val := .bool (jE ⟨(l + u) / 2, x.store, x.days⟩)) V rfl rfl rfl rfl (fun w hs => ?_) ?_; exact held_ca w lo hi x a c ((l + u) / 2) x.store (RdE.keep h hs.chg0) hlen
  generalize (l + u) / 2 = n at *
  cases hb2 : jE ⟨n, x.store, x.days⟩ with
  | true =>
   have h5 := hq.1 hb2
   (refine aA V Z Z (aF (aL Z (aB (aA V Z Z (aA V Z Z (aF (bJ ?_))))))))
   exact hK (l, n) _ _ ⟨by simp only; omega, by simp only; omega, hl⟩ (by simp only; omega) ⟨rfl, rfl, rfl, trivial⟩ (by repeat constructor)
  | false =>
   have h5 : ¬ N.1 ≤ n := fun hh => by rw [hq.2 ⟨hh, h2.2⟩] at hb2; cases hb2
   (refine aA V Z Z (aF (aH Z (aB (aA V Z Z (aA V Z Z (aF (bJ ?_))))))))
   exact hK (n, u) _ _ ⟨by simp only; omega, by simp only; omega, .inr (by simp only; omega)⟩ (by simp only; omega) ⟨rfl, rfl, rfl, trivial⟩ (by repeat constructor)
 ·obtain rfl : u = N.1 := by omega
  (refine aD (aD (aB (aA V Z Z (aA V Z Z (bA V Z Z Z Z (by omega) (by omega) (cT V Z Z Z (by omega) (aF (aH Z (bO _ rfl (aD (aB ?_))))))))))); (iterate 3 refine aA V Z Z ?_); refine aF (aS ?_))
  refine aU V Z (by repeat constructor) fun w hs => ?_
  exact ⟨rfl, hs.chg0⟩
set_option maxHeartbeats 4000000 in
theorem rroom_ca (w : World) (lo hi : Nat) (x : Wn) (a : Option Addr) (c : Nat) (h : RdD w lo hi (.slice a x.days.length c) x.days) (hlen : x.days.length ≤ 1000000) :
  Ca Tryz.prog 76 [.agg (wnC x a c).toArray] w fun r w' => r = .tuple #[.int .i64 (gE x).1, .int .i64 (gE x).2] ∧ Chg [] w w' := by
 refine cS (Sat.nil w M0) Tryz.func76 rfl (by simp [Tryz.ntmps76]) ?_
 (refine aD (aB ?_))
 refine bD Z Z (fun b1 => ?_)
 (refine aA V Z Z (aA V Z Z (aF (aD (aD (aB ?_))))); refine aJ V Z Z Z ?_)
 refine aK (val := .int .i64 (checkW x)) V rfl rfl rfl rfl (fun w hs => ?_) ?_; exact fM w lo hi x a c (RdE.keep h hs.chg0) hlen
 by_cases h0 : checkW x ≠ 0
 ·have e : gE x = (0, checkW x) := by unfold gE; rw [if_pos h0]
  rw [e]
  rcases gT x with h1 | h1 | h1
  ·exact absurd h1 h0
  all_goals
   rw [h1]
   (refine aA V Z Z (aF (aD (aB (aA V Z Z (bW V Z Z Z (by omega) (aF (aL Z (aD (aB ?_))))))))); (iterate 3 refine aA V Z Z ?_); refine aF (aS ?_))
   refine aU V Z (by repeat constructor) fun w hs => ?_
   exact ⟨rfl, hs.chg0⟩
 have h0 : checkW x = 0 := by omega
 have hx := bU.1 h0
 have hst := hx.store
 have hsk := hx.stock
 have e := room_eq hx
 have hnd := nd_bd hx x.days.length
 have hheld : ∀ n : Int, x.stock ≤ n ∧ 1 ≤ n ∧ n ≤ 1000000 → (jE ⟨x.stock, n, x.days⟩ = true ↔ (neededV x).1 ≤ x.stock ∧ (neededV x).2 ≤ n) := fun n hn => held_iff hx ⟨hsk.1, hn.1⟩ hn.2
 rw [h0, e]
 change (0 ≤ (neededV x).1 ∧ _) ∧ 0 ≤ (neededV x).2 ∧ _ at hnd
 generalize neededV x = N at *
 (refine aA V Z Z (aF (aD (aB (aA V Z Z (aW V Z Z Z (by omega) (aF (aH Z (aM (aD (aD (aB ?_))))))))))); refine aJ V Z Z Z ?_; refine aA V Z Z ?_; refine aI V Z Z Z ?_)
 refine aK (val := .bool (jE ⟨x.stock, 1000000, x.days⟩)) V rfl rfl rfl rfl (fun w hs => ?_) ?_; exact held_ca w lo hi x a c x.stock 1000000 (RdE.keep h hs.chg0) hlen
 cases hb : jE ⟨x.stock, 1000000, x.days⟩ with
 | false =>
  have h2 := (hheld 1000000 (by omega)).2
  have h3 : x.stock < N.1 ∨ 1000000 < N.2 := by
   refine Classical.byContradiction fun hh => ?_
   rw [h2 (by omega)] at hb
   cases hb
  rw [if_pos h3]
  (refine aA V Z Z (aF (aL Z (aD (aB (aA V Z Z (aA V Z Z (aF (aS ?_)))))))))
  refine aU V Z (by repeat constructor) fun w hs => ?_
  exact ⟨rfl, hs.chg0⟩
 | true =>
 have h2 := (hheld 1000000 (by omega)).1 hb
 rw [if_neg (by omega)]
 by_cases hz : x.stock - 1 < 0
 ·(refine aA V Z Z (aF (aH Z (aM (aD (aB (aA V Z Z ?_)))))); refine aI V Z Z Z ?_; refine bA V Z Z Z Z (by omega) (by omega) (aA V Z Z (aA V Z Z (aF (aD (aD (aB (aA V Z Z (cL V Z Z Z (by omega) (aF (aL Z (aB ?_))))))))))); refine aA V Z Z (aF (aD (aQ ?_))))
  refine cB (σ := Int × Int) (fun s => (max 0 (x.stock - 1) ≤ s.1 ∧ s.1 < s.2 ∧ s.2 ≤ 1000000) ∧ N.2 ≤ s.2 ∧ (s.1 = max 0 (x.stock - 1) ∨ s.1 < N.2)) (fun s => (s.2 - s.1).toNat) (fun s => [(1, .pointer (some ⟨b1, 0, none⟩)), (5, .int .i64 s.1), (6, .int .i64 s.2)]) (fun _ => [.pt b1 (wnC x a c) 108]) (max 0 (x.stock - 1), 1000000) ⟨by simp only; omega, by simp only; omega, .inl rfl⟩ ⟨rfl, cM rfl (by simp only; omega), rfl, trivial⟩ (by repeat constructor) ?_
  rintro ⟨l, u⟩ ⟨hlu, hu, hl⟩ K hK
  simp only at hlu hu hl
  dsimp only
  by_cases hgo : u - l > 1
  ·have hn : l < (l + u) / 2 ∧ (l + u) / 2 < u ∧ 0 ≤ (l + u) / 2 := by omega
   have hq := hheld ((l + u) / 2) (by omega)
   (refine aD (aD (aB (aA V Z Z (aA V Z Z (bA V Z Z Z Z (by omega) (by omega) (cP V Z Z Z (by omega) (aF (aL Z (aM (aQ (aD ?_))))))))))); refine aB (aA V Z Z (aA V Z Z (bA V Z Z Z Z (by omega) (by omega) (fS Z Z Z (by omega) (by omega) (by omega) (aA V Z Z (aF (aD (aB ?_)))))))); refine aJ V Z Z Z ?_; refine aA V Z Z ?_; refine aI V Z Z Z ?_; refine aA V Z Z ?_)
   refine aK (val := .bool (jE ⟨x.stock, (l + u) / 2, x.days⟩)) V rfl rfl rfl rfl (fun w hs => ?_) ?_; exact held_ca w lo hi x a c x.stock ((l + u) / 2) (RdE.keep h hs.chg0) hlen
   generalize (l + u) / 2 = n at *
   cases hb2 : jE ⟨x.stock, n, x.days⟩ with
   | true =>
    have h5 := hq.1 hb2
    (refine aF (aL Z (aB (aA V Z Z (aA V Z Z (aF (bJ ?_)))))))
    exact hK (l, n) _ _ ⟨by simp only; omega, by simp only; omega, hl⟩ (by simp only; omega) ⟨rfl, rfl, rfl, trivial⟩ (by repeat constructor)
   | false =>
    have h5 : ¬ N.2 ≤ n := fun hh => by rw [hq.2 ⟨h2.1, hh⟩] at hb2; cases hb2
    (refine aF (aH Z (aB (aA V Z Z (aA V Z Z (aF (bJ ?_)))))))
    exact hK (n, u) _ _ ⟨by simp only; omega, by simp only; omega, .inr (by simp only; omega)⟩ (by simp only; omega) ⟨rfl, rfl, rfl, trivial⟩ (by repeat constructor)
  ·obtain rfl : u = max (max 1 x.stock) N.2 := by omega
   (refine aD (aD (aB (aA V Z Z (aA V Z Z (bA V Z Z Z Z (by omega) (by omega) (cT V Z Z Z (by omega) (aF (aH Z (bO _ rfl (aD (aB ?_))))))))))); (iterate 3 refine aA V Z Z ?_); refine aF (aS ?_))
   refine aU V Z (by repeat constructor) fun w hs => ?_
   exact ⟨rfl, hs.chg0⟩
 ·(refine aA V Z Z (aF (aH Z (aM (aD (aB (aA V Z Z ?_)))))); refine aI V Z Z Z ?_; refine bA V Z Z Z Z (by omega) (by omega) (aA V Z Z (aA V Z Z (aF (aD (aD (aB (aA V Z Z (cI V Z Z Z (by omega) (aF (aH Z (aM ?_))))))))))); refine aD (aQ ?_))
  refine cB (σ := Int × Int) (fun s => (max 0 (x.stock - 1) ≤ s.1 ∧ s.1 < s.2 ∧ s.2 ≤ 1000000) ∧ N.2 ≤ s.2 ∧ (s.1 = max 0 (x.stock - 1) ∨ s.1 < N.2)) (fun s => (s.2 - s.1).toNat) (fun s => [(1, .pointer (some ⟨b1, 0, none⟩)), (5, .int .i64 s.1), (6, .int .i64 s.2)]) (fun _ => [.pt b1 (wnC x a c) 108]) (max 0 (x.stock - 1), 1000000) ⟨by simp only; omega, by simp only; omega, .inl rfl⟩ ⟨rfl, cM rfl (by simp only; omega), rfl, trivial⟩ (by repeat constructor) ?_
  rintro ⟨l, u⟩ ⟨hlu, hu, hl⟩ K hK
  simp only at hlu hu hl
  dsimp only
  by_cases hgo : u - l > 1
  ·have hn : l < (l + u) / 2 ∧ (l + u) / 2 < u ∧ 0 ≤ (l + u) / 2 := by omega
   have hq := hheld ((l + u) / 2) (by omega)
   (refine aD (aD (aB (aA V Z Z (aA V Z Z (bA V Z Z Z Z (by omega) (by omega) (cP V Z Z Z (by omega) (aF (aL Z (aM (aQ (aD ?_))))))))))); refine aB (aA V Z Z (aA V Z Z (bA V Z Z Z Z (by omega) (by omega) (fS Z Z Z (by omega) (by omega) (by omega) (aA V Z Z (aF (aD (aB ?_)))))))); refine aJ V Z Z Z ?_; refine aA V Z Z ?_; refine aI V Z Z Z ?_; refine aA V Z Z ?_)
   refine aK (val := .bool (jE ⟨x.stock, (l + u) / 2, x.days⟩)) V rfl rfl rfl rfl (fun w hs => ?_) ?_; exact held_ca w lo hi x a c x.stock ((l + u) / 2) (RdE.keep h hs.chg0) hlen
   generalize (l + u) / 2 = n at *
   cases hb2 : jE ⟨x.stock, n, x.days⟩ with
   | true =>
    have h5 := hq.1 hb2
    (refine aF (aL Z (aB (aA V Z Z (aA V Z Z (aF (bJ ?_)))))))
    exact hK (l, n) _ _ ⟨by simp only; omega, by simp only; omega, hl⟩ (by simp only; omega) ⟨rfl, rfl, rfl, trivial⟩ (by repeat constructor)
   | false =>
    have h5 : ¬ N.2 ≤ n := fun hh => by rw [hq.2 ⟨h2.1, hh⟩] at hb2; cases hb2
    (refine aF (aH Z (aB (aA V Z Z (aA V Z Z (aF (bJ ?_)))))))
    exact hK (n, u) _ _ ⟨by simp only; omega, by simp only; omega, .inr (by simp only; omega)⟩ (by simp only; omega) ⟨rfl, rfl, rfl, trivial⟩ (by repeat constructor)
  ·obtain rfl : u = max (max 1 x.stock) N.2 := by omega
   (refine aD (aD (aB (aA V Z Z (aA V Z Z (bA V Z Z Z Z (by omega) (by omega) (cT V Z Z Z (by omega) (aF (aH Z (bO _ rfl (aD (aB ?_))))))))))); (iterate 3 refine aA V Z Z ?_); refine aF (aS ?_))
   refine aU V Z (by repeat constructor) fun w hs => ?_
   exact ⟨rfl, hs.chg0⟩
end Go.Proofs.YtgeajgmefokifaaGreat

/- Walk of the reference: the ranges of stocks. -/
namespace Go.Proofs.YtgeajgmefokifaaGreat
open Go Go.Eng

set_option maxHeartbeats 4000000 in
theorem rranges_ok (w : World) (lo hi : Nat) (x : Wn) (a : Option Addr) (c : Nat) (h : RdD w lo hi (.slice a x.days.length c) x.days) (hx : x.Right) :
  Ca Tryz.prog 78 [.agg (wnC x a c).toArray] w fun r w' => ∃ v : Value, r = .tuple #[v, .int .i64 0] ∧ Sat w M0 [.ow v 25 2 (gD x).length (spC (gD x))] w' := by
 have hn := hx.d2
 refine cS (Sat.nil w M0) Tryz.func78 rfl (by simp [Tryz.ntmps78]) ?_
 (refine aD (aB ?_))
 refine bD Z Z (fun b1 => ?_)
 (refine aA V Z Z (aA V Z Z (aF (aD (aD (aB (aJ V Z Z Z ?_)))))))
 refine aK (val := .int .i64 0) V rfl rfl rfl rfl (fun w hs => ?_) ?_; exact by have := fM w lo hi x a c (RdE.keep h hs.chg0) (by omega); rw [bU.2 hx] at this; exact this
 (refine aA V Z Z (aF (aD (aB (aA V Z Z (aW V Z Z Z (by omega) (aF (aH Z (aM (aD (aB (aJ V Z Z Z ?_))))))))))))
 refine bG (β := Value × Value × Value) V [] _ M0 rfl rfl rfl rfl (Sp.refl _) (fun _ h => h.elim) (fun w' hs => rworst_ca w' lo hi x a c (RdE.keep h hs.chg0) (by omega)) ?_
 rintro ⟨v1, v2, v3⟩ _ rfl
 dsimp only [List.cons_append, List.nil_append]
 (refine aA V Z Z ?_; (iterate 3 refine aT V Z Z Z ?_); (iterate 3 refine aA V Z Z ?_); refine aF (aD (aB (aJ V Z Z Z ?_))); (iterate 3 refine aA V Z Z ?_))
 refine bG (β := Value × Value) V [] _ M0 rfl rfl rfl rfl (Sp.refl _) (fun _ h => h.elim) (fun w' hs => rhap_ca w' lo hi x a c (aR x) v1 v2 v3 (RdE.keep h hs.chg0) hx (bN hx) (wtN_R (H := [.ow v1 3 1 x.days.length (aP (aR x).need), .ow v2 3 1 x.days.length (aP (aR x).make), .ow v3 3 1 x.days.length (aP (aR x).loss), .pt b1 (wnC x a c) 108]) hs (bN hx) (by repeat constructor) (by repeat constructor) (by repeat constructor))) ?_
 rintro ⟨y1, y2⟩ _ rfl
 dsimp only [List.cons_append, List.nil_append]
 (refine aA V Z Z ?_; (iterate 3 refine aT V Z Z Z ?_); (iterate 3 refine aA V Z Z ?_); refine aF (aD (aB (aJ V Z Z Z ?_))))
 refine bG (β := Value × Value × Value) V [] _ M0 rfl rfl rfl rfl (Sp.refl _) (fun _ h => h.elim) (fun w' hs => rbest_ca w' lo hi x a c (RdE.keep h hs.chg0) (by omega)) ?_
 rintro ⟨u1, u2, u3⟩ _ rfl
 dsimp only [List.cons_append, List.nil_append]
 (refine aA V Z Z ?_; (iterate 3 refine aT V Z Z Z ?_); (iterate 3 refine aA V Z Z ?_); refine aF (aD (aB (aJ V Z Z Z ?_))); (iterate 3 refine aA V Z Z ?_))
 refine bG (β := Value × Value) V [] _ M0 rfl rfl rfl rfl (Sp.refl _) (fun _ h => h.elim) (fun w' hs => rhap_ca w' lo hi x a c (fD x) u1 u2 u3 (RdE.keep h hs.chg0) hx (gW hx) (by
  have hs' : Sat w M0 [.ow u1 3 1 x.days.length (aP (fD x).need), .ow u2 3 1 x.days.length (aP (fD x).make), .ow u3 3 1 x.days.length (aP (fD x).loss), .ow y1 3 1 (hapV x (aR x)).stocks.length (aP (hapV x (aR x)).stocks), .ow y2 3 1 (hapV x (aR x)).made.length (aP (hapV x (aR x)).made), .ow v1 3 1 x.days.length (aP (aR x).need), .ow v2 3 1 x.days.length (aP (aR x).make), .ow v3 3 1 x.days.length (aP (aR x).loss), .pt b1 (wnC x a c) 108] w' := hs
  exact wtN_R hs' (gW hx) (by repeat constructor) (by repeat constructor) (by repeat constructor))) ?_
 rintro ⟨z1, z2⟩ _ rfl
 dsimp only [List.cons_append, List.nil_append]
 have hc1 := count_le hx (bN hx) (gW hx) (fun k hk => sq_worst (best_in hx) k hk)
 have hc2 := (hap_len hx (bN hx)).1
 have hc3 := (hap_len hx (gW hx)).1
 rw [rngL_eq]
 generalize hapV x (aR x) = S at *
 generalize hapV x (fD x) = T at *
 (refine aA V Z Z ?_; (iterate 3 refine aT V Z Z Z ?_); (iterate 3 refine aA V Z Z ?_); refine aF (aD (aB (aA V Z Z (aF (aD (aD (aB (aA V Z Z (aF (aQ ?_)))))))))))
 refine eD (H' := [.ow (.slice none 0 0) 25 2 0 (spC []), .ow y1 3 1 S.stocks.length (aP S.stocks), .ow z1 3 1 T.stocks.length (aP T.stocks)])
  (fun w' hs => (Sat.ownil hs 25 2).sp (by repeat constructor)) ?_
 refine cX (fun w hs => hs.slice2 (v := y1) (by repeat constructor)) ?_
 rintro ⟨sa, sc, rfl⟩
 refine cX (fun w hs => hs.slice2 (v := z1) (by repeat constructor)) ?_
 rintro ⟨ta, tc, rfl⟩
 refine cB (σ := Nat × Value) (fun s => s.1 ≤ S.stocks.length) (fun s => S.stocks.length - s.1) (fun s => [(8, .slice sa S.stocks.length sc), (11, .slice ta T.stocks.length tc), (14, s.2), (15, .int .i64 s.1)])
  (fun s => [.ow s.2 25 2 s.1 (spC (rngP S.stocks T.stocks s.1)), .ow (.slice sa S.stocks.length sc) 3 1 S.stocks.length (aP S.stocks), .ow (.slice ta T.stocks.length tc) 3 1 T.stocks.length (aP T.stocks)]) (0, .slice none 0 0) (by simp) ⟨rfl, rfl, rfl, rfl, trivial⟩ (by repeat constructor) ?_
 rintro ⟨k, v⟩ hk K hK
 simp only at hk
 dsimp only
 (refine aD (aD (aB ?_)); (iterate 4 refine aA V Z Z ?_); refine aF ?_)
 refine dL Z (fun hc => ?_) (fun hc => ?_)
 ·have hk2 : k < S.stocks.length := by omega
  have hk3 : k < T.stocks.length := by omega
  clear hc
  refine cX (fun w hs => hs.ownSome (v := .slice sa S.stocks.length sc) (by repeat constructor) (by omega)) ?_
  rintro ⟨e1, f1, z1⟩
  cases z1
  refine cX (fun w hs => hs.ownSome (v := .slice ta T.stocks.length tc) (by repeat constructor) (by omega)) ?_
  rintro ⟨e2, f2, z2⟩
  cases z2
  (refine aM (aD (aQ ?_)))
  refine cQ _ [.ow v 25 2 k (spC (rngP S.stocks T.stocks k))] (Sp.cons (by repeat constructor) (Sp.refl _)) (by kernel_rfl) (by kernel_rfl) ?_
  ((iterate 3 refine aG V Z Z Z ?_))
  (refine bR V Z Z Z Z Z (by omega) (by omega) ?_; refine cC V Z Z Z (fun w hs => RdI.at (hs.rdI (v := .slice (some ⟨e1, 0, none⟩) S.stocks.length sc) (l := S.stocks) (by repeat constructor) rfl) k hk2) ?_)
  (refine aG V Z Z Z (aG V Z Z Z ?_))
  (refine bR V Z Z Z Z Z (by omega) (by omega) ?_; refine cC V Z Z Z (fun w hs => RdI.at (hs.rdI (v := .slice (some ⟨e2, 0, none⟩) T.stocks.length tc) (l := T.stocks) (by repeat constructor) rfl) k hk3) ?_)
  skip
  refine qf_mk #[.int .i64 S.stocks[k], .int .i64 T.stocks[k]] rfl (by kernel_rfl) rfl ?_
  refine bK 25 [.int .i64 S.stocks[k], .int .i64 T.stocks[k]] rfl (by kernel_rfl) rfl (fun bn => ?_)
  refine bQ (q := 1) slSp rfl rfl rfl (fun v' => by repeat constructor) (fun w' hs => ⟨_, _, Blk.rdSp (hs.blk (b := bn) (by repeat constructor))⟩) (spC_one _) (by omega) (by omega) (fun u => ?_)
  (refine aG V Z Z Z (aO (bJ (aB (aA V Z Z (bA V Z Z Z Z (by omega) (by omega) (aA V Z Z (aF ?_))))))))
  have f : spC (rngP S.stocks T.stocks (k + 1)) = spC (rngP S.stocks T.stocks k) ++ spC [(S.stocks[k], T.stocks[k])] := by rw [rngP_succ, cR hk2, cR hk3]; simp [spC]
  exact hK (k + 1, u) _ _ (by simp only; omega) (by simp only; omega) ⟨rfl, rfl, rfl, rfl, trivial⟩ (by dsimp only; rw [f]; repeat constructor)
 ·obtain rfl : k = S.stocks.length := by omega
  clear hc hK
  (refine bO _ rfl (aD (aB ?_)); (iterate 3 refine aA V Z Z ?_); refine aF (aS ?_))
  refine aU V Z (by repeat constructor) fun w hs => ?_
  have e1 : (rngL S.stocks T.stocks).length = S.stocks.length := by simp [rngL]
  refine ⟨_, rfl, ?_⟩
  rw [e1]
  exact hs.sp (by repeat constructor)
theorem rranges_no (w : World) (lo hi : Nat) (x : Wn) (a : Option Addr) (c : Nat) (h : RdD w lo hi (.slice a x.days.length c) x.days) (hlen : x.days.length ≤ 1000000) (hx : checkW x ≠ 0) :
  Ca Tryz.prog 78 [.agg (wnC x a c).toArray] w fun r w' => r = .tuple #[.slice none 0 0, .int .i64 (checkW x)] ∧ Chg [] w w' := by
 refine cS (Sat.nil w M0) Tryz.func78 rfl (by simp [Tryz.ntmps78]) ?_
 (refine aD (aB ?_))
 refine bD Z Z (fun b1 => ?_)
 (refine aA V Z Z (aA V Z Z (aF (aD (aD (aB (aJ V Z Z Z ?_)))))))
 refine aK (val := .int .i64 (checkW x)) V rfl rfl rfl rfl (fun w hs => ?_) ?_; exact fM w lo hi x a c (RdE.keep h hs.chg0) (by omega)
 rcases gT x with h1 | h1 | h1
 ·exact absurd h1 hx
 all_goals
  rw [h1]
  (refine aA V Z Z (aF (aD (aB (aA V Z Z (bW V Z Z Z (by omega) (aF (aL Z (aD (aB ?_))))))))); (iterate 3 refine aA V Z Z ?_); refine aF (aS ?_))
  refine aU V Z (by repeat constructor) fun w hs => ?_
  exact ⟨rfl, hs.chg0⟩
end Go.Proofs.YtgeajgmefokifaaGreat

/- The walk of CourseOpens. -/
namespace Go.Proofs.YtgeajgmefokifaaGreat
open Go Go.Eng

theorem rdII_nil (w : World) (lo hi : Nat) : RdII w lo hi (.slice none 0 0) [] := ⟨[], RdE.one ⟨rfl, .inl ⟨.inl rfl, rfl⟩⟩ (by simp), rfl, fun i h => absurd h (by simp)⟩
theorem bV {w0 w : World} {M : Nat → Prop} {H : List Ck} {v : Value} {t n : Nat} {l : List Dy} (hs : Sat w0 M H w) (hm : .ow v t 6 n (dyC l) ∈ H) (hn : n = l.length) : RdD w 0 w.heap.size v l := own_rdD (hs.mem hm) hn
theorem sat_rdS {w0 w : World} {M : Nat → Prop} {H : List Ck} {v : Value} {t n : Nat} {l : List (Int × Int)} (hs : Sat w0 M H w) (hm : .ow v t 2 n (spC l) ∈ H) (hn : n = l.length) : RdS w 0 w.heap.size v l := own_rdS (hs.mem hm) hn
theorem prf_flat : flatB Tryz.prog 42 [some .i64, some .i64] = true := by kernel_rfl
/-- What the first day that can fail is, or the error. -/
theorem open_cases (x : Wn) : (∃ e : Int, e ≠ 0 ∧ e ≠ 6 ∧ checkW x = e ∧ firstV x = (0, e) ∧ whyV x = ((0, 0), e)) ∨ (x.Right ∧ firstV x = (0, 6) ∧ whyV x = ((0, 0), 6)) ∨
  (x.Right ∧ ∃ f : Nat, ∃ g n : Int, firstV x = ((f : Int), 0) ∧ whyV x = ((g, (f : Int)), 0) ∧ cF x g f = (n, 0) ∧ 1 ≤ n) := by
 by_cases h : checkW x = 0
 ·have hx := bU.1 h
  rcases first_cases hx with ⟨h1, h2, _⟩ | ⟨f, h1, h2, h3, h4⟩
  ·exact .inr (.inl ⟨hx, h1, h2⟩)
  ·obtain ⟨g1, g2, g3, g4, g5⟩ := why_holds hx f h2
   have g6 := (hap_fail_iff x (aR x) hx.stock (bN hx).need0 x.days.length f).1 h2
   exact .inr (.inr ⟨hx, f, _, -sq x (aR x) (f + 1), h3, h4, Prod.ext g2 g1, by omega⟩)
 ·have := gT x
  exact .inl ⟨checkW x, h, by omega, rfl, by unfold firstV; rw [if_pos h], by unfold whyV; rw [if_pos h]⟩
set_option maxRecDepth 20000 in
set_option maxHeartbeats 8000000 in
theorem iA (w : World) (lo hi : Nat) (x : Wn) (a : Option Addr) (c : Nat) (frm day : Int) (h : RdD w lo hi (.slice a x.days.length c) x.days) (hlen0 : x.days.length ≤ maxLen) :
  Ca Tryz.prog 12 [.agg (wnC x a c).toArray, rtV (frm, day)] w fun r w' => r = .bool true ∧ Chg [] w w' := by
 refine cS (Sat.nil w M0) Tryz.func12 rfl (by simp [Tryz.ntmps12]) ?_
 (refine aD (aB ?_))
 refine bD Z Z (fun b2 => ?_)
 refine bD Z Z (fun b3 => ?_)
 (refine aA V Z Z (aF (aD (aD (aB (aJ V Z Z Z ?_))))))
 refine aK (val := .bool (longB x.days.length [])) V rfl rfl rfl rfl (fun w hs => ?_) ?_; exact longW_ca w 0 0 x a c (.slice none 0 0) [] (rdII_nil w 0 0) (by simp) (by simp) hlen0
 cases hlo : longB x.days.length [] with
 | true =>
  (refine aF (aL Z (aD (aB ?_))))
  refine aK (val := .bool true) V rfl rfl rfl rfl (fun w hs => ?_) ?_; exact dS w
  (refine aA V Z Z (aF (aS ?_)))
  refine aU V Z (by repeat constructor) fun w hs => ?_
  exact ⟨rfl, hs.chg0⟩
 | false =>
 have hlen : x.days.length ≤ 65 := (longB_no hlo).1
 clear hlo hlen0
 (refine aF ?_)
 refine aH Z ?_
 skip
 refine aM ?_
 (refine aD ?_)
 refine jP (σ := (Nat × Nat) × (Option Addr × Nat) × (Option Addr × Nat)) (fun y => [(2, .pointer (some ⟨b2, 0, none⟩)), (3, .pointer (some ⟨b3, 0, none⟩)), (5, .pointer (some ⟨y.1.1, 0, none⟩)), (6, .pointer (some ⟨y.1.2, 0, none⟩))])
  (fun y => [.pt y.1.1 (wnC x y.2.1.1 y.2.1.2) 39, .pt y.1.2 (wnC x y.2.2.1 y.2.2.2) 108, .ow (.slice y.2.1.1 x.days.length y.2.1.2) 46 6 x.days.length (dyC x.days), .ow (.slice y.2.2.1 x.days.length y.2.2.2) 175 6 x.days.length (dyC x.days), .pt b2 (wnC x a c) 39, .pt b3 [.int .i64 frm, .int .i64 day] 42]) ?_ (fun K2 hK2 => ?_)
 rotate_left
 ·skip
  refine iN (.alt (aC [0, 1] (.alt (aC [2, 3] (.alt (aC [4, 5, 6, 7] (.nil)) (aC [5, 4, 6, 7] (.nil)))) (.alt (aC [4] (.alt (aC [2, 3, 5, 6, 7] (.nil)) (aC [5, 2, 3, 6, 7] (.nil)))) (aC [5] (.alt (aC [2, 3, 4, 6, 7] (.nil)) (aC [4, 2, 3, 6, 7] (.nil))))))) (.alt (aC [4] (.alt (aC [0, 1] (.alt (aC [2, 3, 5, 6, 7] (.nil)) (aC [5, 2, 3, 6, 7] (.nil)))) (aC [5, 0, 1, 2, 3, 6, 7] (.nil)))) (aC [5] (.alt (aC [0, 1] (.alt (aC [2, 3, 4, 6, 7] (.nil)) (aC [4, 2, 3, 6, 7] (.nil)))) (aC [4, 0, 1, 2, 3, 6, 7] (.nil)))))) _ [] (Sp.refl _) (by kernel_rfl) (by kernel_rfl) ?_
  refine bM ?_ (bM ?_ ?_)
  ·skip
   refine aY (by repeat (first | exact PickL.nil | (apply PickL.cons; rfl))) fun K1 hK1 => ?_
   (refine aZ V Z Z Z ?_)
   refine bH (β := Option Addr × Nat) V [] _ M0 rfl rfl rfl rfl (Sp.refl _) (fun _ h => h.elim) (fun w' hs => dY w' lo hi x a c (RdE.keep h hs.chg0) (by omega)) ?_
   rintro ⟨ua, uc⟩ _ rfl
   dsimp only [List.cons_append, List.nil_append]
   (refine aO ?_)
   refine hK1 _ _ ?_
   refine bM ?_ (bM ?_ ?_)
   ·skip
    refine aY (by repeat (first | exact PickL.nil | (apply PickL.cons; rfl))) fun K1 hK1 => ?_
    (refine aZ V Z Z Z ?_)
    refine bH (β := Option Addr × Nat) V [] _ M0 rfl rfl rfl rfl (Sp.refl _) (fun _ h => h.elim) (fun w' hs => eG w' lo hi x a c (RdE.keep h hs.chg0) (by omega)) ?_
    rintro ⟨ra, rc⟩ _ rfl
    dsimp only [List.cons_append, List.nil_append]
    (refine aO ?_)
    refine hK1 _ _ ?_
    refine bM ?_ ?_
    ·skip
     refine aY (by repeat (first | exact PickL.nil | (apply PickL.cons; rfl))) fun K1 hK1 => ?_
     skip
     refine bC dQ rfl (fun b5 => ?_)
     skip
     refine bC dB rfl (fun b6 => ?_)
     ((iterate 2 refine cZ V Z Z Z Z Z (by repeat constructor) rfl ?_); refine aO ?_)
     skip
     exact hK1 _ _ (dO (hK2 ⟨(b5, b6), (ua, uc), (ra, rc)⟩ _ _ ⟨rfl, rfl, rfl, rfl, trivial⟩ (by repeat constructor)))
    ·skip
     refine aY (by repeat (first | exact PickL.nil | (apply PickL.cons; rfl))) fun K1 hK1 => ?_
     skip
     refine bC dB rfl (fun b6 => ?_)
     skip
     refine bC dQ rfl (fun b5 => ?_)
     ((iterate 2 refine cZ V Z Z Z Z Z (by repeat constructor) rfl ?_); refine aO ?_)
     skip
     exact hK1 _ _ (dO (hK2 ⟨(b5, b6), (ua, uc), (ra, rc)⟩ _ _ ⟨rfl, rfl, rfl, rfl, trivial⟩ (by repeat constructor)))
   ·skip
    refine aY (by repeat (first | exact PickL.nil | (apply PickL.cons; rfl))) fun K1 hK1 => ?_
    skip
    refine bC dQ rfl (fun b5 => ?_)
    (refine aO ?_)
    refine hK1 _ _ ?_
    refine bM ?_ ?_
    ·skip
     refine aY (by repeat (first | exact PickL.nil | (apply PickL.cons; rfl))) fun K1 hK1 => ?_
     (refine aZ V Z Z Z ?_)
     refine bH (β := Option Addr × Nat) V [] _ M0 rfl rfl rfl rfl (Sp.refl _) (fun _ h => h.elim) (fun w' hs => eG w' lo hi x a c (RdE.keep h hs.chg0) (by omega)) ?_
     rintro ⟨ra, rc⟩ _ rfl
     dsimp only [List.cons_append, List.nil_append]
     skip
     refine bC dB rfl (fun b6 => ?_)
     ((iterate 2 refine cZ V Z Z Z Z Z (by repeat constructor) rfl ?_); refine aO ?_)
     skip
     exact hK1 _ _ (dO (hK2 ⟨(b5, b6), (ua, uc), (ra, rc)⟩ _ _ ⟨rfl, rfl, rfl, rfl, trivial⟩ (by repeat constructor)))
    ·skip
     refine aY (by repeat (first | exact PickL.nil | (apply PickL.cons; rfl))) fun K1 hK1 => ?_
     skip
     refine bC dB rfl (fun b6 => ?_)
     (refine aZ V Z Z Z ?_)
     refine bH (β := Option Addr × Nat) V [] _ M0 rfl rfl rfl rfl (Sp.refl _) (fun _ h => h.elim) (fun w' hs => eG w' lo hi x a c (RdE.keep h hs.chg0) (by omega)) ?_
     rintro ⟨ra, rc⟩ _ rfl
     dsimp only [List.cons_append, List.nil_append]
     ((iterate 2 refine cZ V Z Z Z Z Z (by repeat constructor) rfl ?_); refine aO ?_)
     skip
     exact hK1 _ _ (dO (hK2 ⟨(b5, b6), (ua, uc), (ra, rc)⟩ _ _ ⟨rfl, rfl, rfl, rfl, trivial⟩ (by repeat constructor)))
   ·skip
    refine aY (by repeat (first | exact PickL.nil | (apply PickL.cons; rfl))) fun K1 hK1 => ?_
    skip
    refine bC dB rfl (fun b6 => ?_)
    (refine aO ?_)
    refine hK1 _ _ ?_
    refine bM ?_ ?_
    ·skip
     refine aY (by repeat (first | exact PickL.nil | (apply PickL.cons; rfl))) fun K1 hK1 => ?_
     (refine aZ V Z Z Z ?_)
     refine bH (β := Option Addr × Nat) V [] _ M0 rfl rfl rfl rfl (Sp.refl _) (fun _ h => h.elim) (fun w' hs => eG w' lo hi x a c (RdE.keep h hs.chg0) (by omega)) ?_
     rintro ⟨ra, rc⟩ _ rfl
     dsimp only [List.cons_append, List.nil_append]
     skip
     refine bC dQ rfl (fun b5 => ?_)
     ((iterate 2 refine cZ V Z Z Z Z Z (by repeat constructor) rfl ?_); refine aO ?_)
     skip
     exact hK1 _ _ (dO (hK2 ⟨(b5, b6), (ua, uc), (ra, rc)⟩ _ _ ⟨rfl, rfl, rfl, rfl, trivial⟩ (by repeat constructor)))
    ·skip
     refine aY (by repeat (first | exact PickL.nil | (apply PickL.cons; rfl))) fun K1 hK1 => ?_
     skip
     refine bC dQ rfl (fun b5 => ?_)
     (refine aZ V Z Z Z ?_)
     refine bH (β := Option Addr × Nat) V [] _ M0 rfl rfl rfl rfl (Sp.refl _) (fun _ h => h.elim) (fun w' hs => eG w' lo hi x a c (RdE.keep h hs.chg0) (by omega)) ?_
     rintro ⟨ra, rc⟩ _ rfl
     dsimp only [List.cons_append, List.nil_append]
     ((iterate 2 refine cZ V Z Z Z Z Z (by repeat constructor) rfl ?_); refine aO ?_)
     skip
     exact hK1 _ _ (dO (hK2 ⟨(b5, b6), (ua, uc), (ra, rc)⟩ _ _ ⟨rfl, rfl, rfl, rfl, trivial⟩ (by repeat constructor)))
  ·skip
   refine aY (by repeat (first | exact PickL.nil | (apply PickL.cons; rfl))) fun K1 hK1 => ?_
   skip
   refine bC dQ rfl (fun b5 => ?_)
   (refine aO ?_)
   refine hK1 _ _ ?_
   refine bM ?_ ?_
   ·skip
    refine aY (by repeat (first | exact PickL.nil | (apply PickL.cons; rfl))) fun K1 hK1 => ?_
    (refine aZ V Z Z Z ?_)
    refine bH (β := Option Addr × Nat) V [] _ M0 rfl rfl rfl rfl (Sp.refl _) (fun _ h => h.elim) (fun w' hs => dY w' lo hi x a c (RdE.keep h hs.chg0) (by omega)) ?_
    rintro ⟨ua, uc⟩ _ rfl
    dsimp only [List.cons_append, List.nil_append]
    (refine aO ?_)
    refine hK1 _ _ ?_
    refine bM ?_ ?_
    ·skip
     refine aY (by repeat (first | exact PickL.nil | (apply PickL.cons; rfl))) fun K1 hK1 => ?_
     (refine aZ V Z Z Z ?_)
     refine bH (β := Option Addr × Nat) V [] _ M0 rfl rfl rfl rfl (Sp.refl _) (fun _ h => h.elim) (fun w' hs => eG w' lo hi x a c (RdE.keep h hs.chg0) (by omega)) ?_
     rintro ⟨ra, rc⟩ _ rfl
     dsimp only [List.cons_append, List.nil_append]
     skip
     refine bC dB rfl (fun b6 => ?_)
     ((iterate 2 refine cZ V Z Z Z Z Z (by repeat constructor) rfl ?_); refine aO ?_)
     skip
     exact hK1 _ _ (dO (hK2 ⟨(b5, b6), (ua, uc), (ra, rc)⟩ _ _ ⟨rfl, rfl, rfl, rfl, trivial⟩ (by repeat constructor)))
    ·skip
     refine aY (by repeat (first | exact PickL.nil | (apply PickL.cons; rfl))) fun K1 hK1 => ?_
     skip
     refine bC dB rfl (fun b6 => ?_)
     (refine aZ V Z Z Z ?_)
     refine bH (β := Option Addr × Nat) V [] _ M0 rfl rfl rfl rfl (Sp.refl _) (fun _ h => h.elim) (fun w' hs => eG w' lo hi x a c (RdE.keep h hs.chg0) (by omega)) ?_
     rintro ⟨ra, rc⟩ _ rfl
     dsimp only [List.cons_append, List.nil_append]
     ((iterate 2 refine cZ V Z Z Z Z Z (by repeat constructor) rfl ?_); refine aO ?_)
     skip
     exact hK1 _ _ (dO (hK2 ⟨(b5, b6), (ua, uc), (ra, rc)⟩ _ _ ⟨rfl, rfl, rfl, rfl, trivial⟩ (by repeat constructor)))
   ·skip
    refine aY (by repeat (first | exact PickL.nil | (apply PickL.cons; rfl))) fun K1 hK1 => ?_
    skip
    refine bC dB rfl (fun b6 => ?_)
    (refine aZ V Z Z Z ?_)
    refine bH (β := Option Addr × Nat) V [] _ M0 rfl rfl rfl rfl (Sp.refl _) (fun _ h => h.elim) (fun w' hs => dY w' lo hi x a c (RdE.keep h hs.chg0) (by omega)) ?_
    rintro ⟨ua, uc⟩ _ rfl
    dsimp only [List.cons_append, List.nil_append]
    (refine aZ V Z Z Z ?_)
    refine bH (β := Option Addr × Nat) V [] _ M0 rfl rfl rfl rfl (Sp.refl _) (fun _ h => h.elim) (fun w' hs => eG w' lo hi x a c (RdE.keep h hs.chg0) (by omega)) ?_
    rintro ⟨ra, rc⟩ _ rfl
    dsimp only [List.cons_append, List.nil_append]
    ((iterate 2 refine cZ V Z Z Z Z Z (by repeat constructor) rfl ?_); refine aO ?_)
    skip
    exact hK1 _ _ (dO (hK2 ⟨(b5, b6), (ua, uc), (ra, rc)⟩ _ _ ⟨rfl, rfl, rfl, rfl, trivial⟩ (by repeat constructor)))
  ·skip
   refine aY (by repeat (first | exact PickL.nil | (apply PickL.cons; rfl))) fun K1 hK1 => ?_
   skip
   refine bC dB rfl (fun b6 => ?_)
   (refine aO ?_)
   refine hK1 _ _ ?_
   refine bM ?_ ?_
   ·skip
    refine aY (by repeat (first | exact PickL.nil | (apply PickL.cons; rfl))) fun K1 hK1 => ?_
    (refine aZ V Z Z Z ?_)
    refine bH (β := Option Addr × Nat) V [] _ M0 rfl rfl rfl rfl (Sp.refl _) (fun _ h => h.elim) (fun w' hs => dY w' lo hi x a c (RdE.keep h hs.chg0) (by omega)) ?_
    rintro ⟨ua, uc⟩ _ rfl
    dsimp only [List.cons_append, List.nil_append]
    (refine aO ?_)
    refine hK1 _ _ ?_
    refine bM ?_ ?_
    ·skip
     refine aY (by repeat (first | exact PickL.nil | (apply PickL.cons; rfl))) fun K1 hK1 => ?_
     (refine aZ V Z Z Z ?_)
     refine bH (β := Option Addr × Nat) V [] _ M0 rfl rfl rfl rfl (Sp.refl _) (fun _ h => h.elim) (fun w' hs => eG w' lo hi x a c (RdE.keep h hs.chg0) (by omega)) ?_
     rintro ⟨ra, rc⟩ _ rfl
     dsimp only [List.cons_append, List.nil_append]
     skip
     refine bC dQ rfl (fun b5 => ?_)
     ((iterate 2 refine cZ V Z Z Z Z Z (by repeat constructor) rfl ?_); refine aO ?_)
     skip
     exact hK1 _ _ (dO (hK2 ⟨(b5, b6), (ua, uc), (ra, rc)⟩ _ _ ⟨rfl, rfl, rfl, rfl, trivial⟩ (by repeat constructor)))
    ·skip
     refine aY (by repeat (first | exact PickL.nil | (apply PickL.cons; rfl))) fun K1 hK1 => ?_
     skip
     refine bC dQ rfl (fun b5 => ?_)
     (refine aZ V Z Z Z ?_)
     refine bH (β := Option Addr × Nat) V [] _ M0 rfl rfl rfl rfl (Sp.refl _) (fun _ h => h.elim) (fun w' hs => eG w' lo hi x a c (RdE.keep h hs.chg0) (by omega)) ?_
     rintro ⟨ra, rc⟩ _ rfl
     dsimp only [List.cons_append, List.nil_append]
     ((iterate 2 refine cZ V Z Z Z Z Z (by repeat constructor) rfl ?_); refine aO ?_)
     skip
     exact hK1 _ _ (dO (hK2 ⟨(b5, b6), (ua, uc), (ra, rc)⟩ _ _ ⟨rfl, rfl, rfl, rfl, trivial⟩ (by repeat constructor)))
   ·skip
    refine aY (by repeat (first | exact PickL.nil | (apply PickL.cons; rfl))) fun K1 hK1 => ?_
    skip
    refine bC dQ rfl (fun b5 => ?_)
    (refine aZ V Z Z Z ?_)
    refine bH (β := Option Addr × Nat) V [] _ M0 rfl rfl rfl rfl (Sp.refl _) (fun _ h => h.elim) (fun w' hs => dY w' lo hi x a c (RdE.keep h hs.chg0) (by omega)) ?_
    rintro ⟨ua, uc⟩ _ rfl
    dsimp only [List.cons_append, List.nil_append]
    (refine aZ V Z Z Z ?_)
    refine bH (β := Option Addr × Nat) V [] _ M0 rfl rfl rfl rfl (Sp.refl _) (fun _ h => h.elim) (fun w' hs => eG w' lo hi x a c (RdE.keep h hs.chg0) (by omega)) ?_
    rintro ⟨ra, rc⟩ _ rfl
    dsimp only [List.cons_append, List.nil_append]
    ((iterate 2 refine cZ V Z Z Z Z Z (by repeat constructor) rfl ?_); refine aO ?_)
    skip
    exact hK1 _ _ (dO (hK2 ⟨(b5, b6), (ua, uc), (ra, rc)⟩ _ _ ⟨rfl, rfl, rfl, rfl, trivial⟩ (by repeat constructor)))
 rintro ⟨⟨b5, b6⟩, ⟨ua, uc⟩, ⟨ra, rc⟩⟩
 dsimp only
 (refine aD (aB (aJ V Z Z Z ?_)))
 refine aK (val := .tuple #[.int .i64 (firstV x).1, .int .i64 (firstV x).2]) V rfl rfl rfl rfl (fun w hs => ?_) ?_; exact first_ca w 0 w.heap.size x ua uc (bV hs (by repeat constructor) rfl) (by omega)
 (refine aA V Z Z (aT V Z Z Z (aT V Z Z Z (aA V Z Z (aA V Z Z (aF (aD (aB (aJ V Z Z Z ?_)))))))))
 refine aK (val := .tuple #[.int .i64 (firstV x).1, .int .i64 (firstV x).2]) V rfl rfl rfl rfl (fun w hs => ?_) ?_; exact rfirst_ca w 0 w.heap.size x ra rc (bV hs (by repeat constructor) rfl) (by omega)
 (refine aA V Z Z (aT V Z Z Z (aT V Z Z Z (aA V Z Z (aA V Z Z (aF (aD (aB (aJ V Z Z Z ?_)))))))))
 refine aK (val := .tuple #[rtV (whyV x).1, .int .i64 (whyV x).2]) V rfl rfl rfl rfl (fun w hs => ?_) ?_; exact why_ca w 0 w.heap.size x ua uc (bV hs (by repeat constructor) rfl) (by omega)
 (refine aA V Z Z (aT V Z Z Z (aT V Z Z Z ?_)))
 refine bI zero42 rfl (fun b11 => ?_)
 rcases open_cases x with ⟨e, he0, he6, hce, h1, h2⟩ | ⟨hx, h1, h2⟩ | ⟨hx, f, g, n, h1, h2, h3, hn⟩
 ·rw [h1, h2]
  dsimp only
  (refine bS V Z Z Z Z Z (by repeat constructor) rfl ?_; refine aA V Z Z (aF (aD (aD (aB (aA V Z Z (aA V Z Z (aW V Z Z Z (by omega) (aA V Z Z (aE Z (aA V Z Z (aE Z ?_))))))))))); refine aA V Z Z (aE Z (aW V Z Z Z (by omega) (aA V Z Z (aA V Z Z (aE Z (aA V Z Z (aE Z (aA V Z Z (aE Z (aW V Z Z Z (by omega) (aA V Z Z ?_))))))))))); refine aA V Z Z (aE Z (aA V Z Z (aE Z (bW V Z Z Z (by omega) (aE Z (aA V Z Z (aE Z (aJ V Z Z Z (aE Z ?_))))))))))
  refine dJ #[.int .i64 0, .int .i64 0] rfl (by kernel_rfl) rfl ?_
  (refine aE Z ?_)
  refine ql_neF [some .i64, some .i64] (xs := [.int .i64 0, .int .i64 0]) (ys := [.int .i64 0, .int .i64 0]) prf_flat rfl rfl rfl rfl rfl ?_
  rw [iP]
  (refine aE Z (aA V Z Z (aA V Z Z (aF (aH Z (aM (aD (aD (aB (aA V Z Z (fP V Z Z Z (by omega) (aF ?_))))))))))); refine aH Z (aM (aD (aB (aJ V Z Z Z (aJ V Z Z Z ?_))))))
  refine aK (val := .tuple #[.int .i64 (cF x frm day).1, .int .i64 (cF x frm day).2]) V rfl rfl rfl rfl (fun w hs => ?_) ?_; exact lO w 0 w.heap.size x ua uc frm day (bV hs (by repeat constructor) rfl) (by omega)
  (refine aA V Z Z (aT V Z Z Z (aT V Z Z Z (aA V Z Z (aA V Z Z (aF (aD (aB (aJ V Z Z Z (aA V Z Z (aI V Z Z Z (aA V Z Z ?_))))))))))); refine aI V Z Z Z ?_)
  refine aK (val := .tuple #[.int .i64 (cF x frm day).1, .int .i64 (cF x frm day).2]) V rfl rfl rfl rfl (fun w hs => ?_) ?_; exact kJ w 0 w.heap.size x ra rc frm day (bV hs (by repeat constructor) rfl) (by omega)
  (refine aA V Z Z (aT V Z Z Z (aT V Z Z Z (aA V Z Z (aA V Z Z (aF (aD (aD (aB (aA V Z Z (aA V Z Z (aW V Z Z Z (by omega) ?_))))))))))); refine aA V Z Z (aE Z (aA V Z Z (aE Z (aA V Z Z (aE Z (aW V Z Z Z (by omega) (aA V Z Z (aF (aH Z (aM (aD ?_))))))))))); refine aB (aJ V Z Z Z ?_))
  refine aK (val := .tuple #[.int .i64 (eN x).1, .int .i64 (eN x).2]) V rfl rfl rfl rfl (fun w hs => ?_) ?_; exact least_ca w 0 w.heap.size x ua uc (bV hs (by repeat constructor) rfl) (by omega)
  (refine aA V Z Z (aT V Z Z Z (aT V Z Z Z (aA V Z Z (aA V Z Z (aF (aD (aB (aJ V Z Z Z ?_)))))))))
  refine aK (val := .tuple #[.int .i64 (eN x).1, .int .i64 (eN x).2]) V rfl rfl rfl rfl (fun w hs => ?_) ?_; exact rleast_ca w 0 w.heap.size x ra rc (bV hs (by repeat constructor) rfl) (by omega)
  (refine aA V Z Z (aT V Z Z Z (aT V Z Z Z (aA V Z Z (aA V Z Z (aF (aD (aD (aB (aA V Z Z (aA V Z Z (aW V Z Z Z (by omega) ?_))))))))))); refine aA V Z Z (aE Z (aA V Z Z (aE Z (aA V Z Z (aE Z (aW V Z Z Z (by omega) (aA V Z Z (aF (aH Z (aM (aD ?_))))))))))); refine aB (aJ V Z Z Z ?_))
  refine aK (val := .tuple #[.int .i64 (gE x).1, .int .i64 (gE x).2]) V rfl rfl rfl rfl (fun w hs => ?_) ?_; exact room_ca w 0 w.heap.size x ua uc (bV hs (by repeat constructor) rfl) (by omega)
  (refine aA V Z Z (aT V Z Z Z (aT V Z Z Z (aA V Z Z (aA V Z Z (aF (aD (aB (aJ V Z Z Z ?_)))))))))
  refine aK (val := .tuple #[.int .i64 (gE x).1, .int .i64 (gE x).2]) V rfl rfl rfl rfl (fun w hs => ?_) ?_; exact rroom_ca w 0 w.heap.size x ra rc (bV hs (by repeat constructor) rfl) (by omega)
  (refine aA V Z Z (aT V Z Z Z (aT V Z Z Z (aA V Z Z (aA V Z Z (aF (aD (aD (aB (aA V Z Z (aA V Z Z (aW V Z Z Z (by omega) ?_))))))))))); refine aA V Z Z (aE Z (aA V Z Z (aE Z (aA V Z Z (aE Z (aW V Z Z Z (by omega) (aA V Z Z (aF (aH Z (aM (aD ?_))))))))))); refine aB (aJ V Z Z Z ?_))
  refine aK (val := .tuple #[.slice none 0 0, .int .i64 e]) V rfl rfl rfl rfl (fun w hs => ?_) ?_; exact by have := ranges_no w 0 w.heap.size x ua uc (bV hs (by repeat constructor) rfl) (by omega) (by omega); rw [hce] at this; exact this
  (refine aA V Z Z (aT V Z Z Z (aT V Z Z Z (aA V Z Z (aA V Z Z (aF (aD (aB (aJ V Z Z Z ?_)))))))))
  refine aK (val := .tuple #[.slice none 0 0, .int .i64 e]) V rfl rfl rfl rfl (fun w hs => ?_) ?_; exact by have := rranges_no w 0 w.heap.size x ra rc (bV (t := 175) hs (by repeat constructor) rfl) (by omega) (by omega); rw [hce] at this; exact this
  (refine aA V Z Z (aT V Z Z Z (aT V Z Z Z (aA V Z Z (aA V Z Z (aF (aD (aB (aA V Z Z (aA V Z Z (cO V Z Z Z (by omega) (aA V Z Z ?_))))))))))); refine aE Z (aA V Z Z (aE Z (aA V Z Z (aE Z ?_)))))
  refine aK (val := .bool true) V rfl rfl rfl rfl (fun w hs => ?_) ?_; exact eqS_ca w 0 w.heap.size 0 w.heap.size (.slice none 0 0) (.slice none 0 0) [] (RdS.of ⟨rfl, .inl ⟨.inl rfl, rfl⟩⟩) (RdS.of ⟨rfl, .inl ⟨.inl rfl, rfl⟩⟩) (by simp)
  (refine aA V Z Z (aA V Z Z (aE Z (aJ V Z Z Z (aE Z (aJ V Z Z Z (aE Z ?_)))))))
  refine aK (val := .bool true) V rfl rfl rfl rfl (fun w hs => ?_) ?_; exact jZ w 0 w.heap.size lo hi x ua a uc c (bV hs (by repeat constructor) rfl) (RdE.keep h hs.chg0) (by omega)
  (refine aA V Z Z (aA V Z Z (aE Z ?_)))
  refine aK (val := .bool true) V rfl rfl rfl rfl (fun w hs => ?_) ?_; exact dS w
  (refine aA V Z Z (aA V Z Z (aF (aS ?_))))
  refine aU V Z (by repeat constructor) fun w hs => ?_
  exact ⟨rfl, hs.chg0⟩
 ·rw [h1, h2]
  dsimp only
  (refine bS V Z Z Z Z Z (by repeat constructor) rfl ?_; refine aA V Z Z (aF (aD (aD (aB (aA V Z Z (aA V Z Z (aW V Z Z Z (by omega) (aA V Z Z (aE Z (aA V Z Z (aE Z ?_))))))))))); refine aA V Z Z (aE Z (aW V Z Z Z (by omega) (aA V Z Z (aA V Z Z (aE Z (aA V Z Z (aE Z (aA V Z Z (aE Z (aW V Z Z Z (by omega) (aA V Z Z ?_))))))))))); refine aA V Z Z (aE Z (aA V Z Z (aE Z (bW V Z Z Z (by omega) (aE Z (aA V Z Z (aE Z (aJ V Z Z Z (aE Z ?_))))))))))
  refine dJ #[.int .i64 0, .int .i64 0] rfl (by kernel_rfl) rfl ?_
  (refine aE Z ?_)
  refine ql_neF [some .i64, some .i64] (xs := [.int .i64 0, .int .i64 0]) (ys := [.int .i64 0, .int .i64 0]) prf_flat rfl rfl rfl rfl rfl ?_
  rw [iP]
  (refine aE Z (aA V Z Z (aA V Z Z (aF (aH Z (aM (aD (aD (aB (aA V Z Z (fP V Z Z Z (by omega) (aF ?_))))))))))); refine aH Z (aM (aD (aB (aJ V Z Z Z (aJ V Z Z Z ?_))))))
  refine aK (val := .tuple #[.int .i64 (cF x frm day).1, .int .i64 (cF x frm day).2]) V rfl rfl rfl rfl (fun w hs => ?_) ?_; exact lO w 0 w.heap.size x ua uc frm day (bV hs (by repeat constructor) rfl) (by omega)
  (refine aA V Z Z (aT V Z Z Z (aT V Z Z Z (aA V Z Z (aA V Z Z (aF (aD (aB (aJ V Z Z Z (aA V Z Z (aI V Z Z Z (aA V Z Z ?_))))))))))); refine aI V Z Z Z ?_)
  refine aK (val := .tuple #[.int .i64 (cF x frm day).1, .int .i64 (cF x frm day).2]) V rfl rfl rfl rfl (fun w hs => ?_) ?_; exact kJ w 0 w.heap.size x ra rc frm day (bV hs (by repeat constructor) rfl) (by omega)
  (refine aA V Z Z (aT V Z Z Z (aT V Z Z Z (aA V Z Z (aA V Z Z (aF (aD (aD (aB (aA V Z Z (aA V Z Z (aW V Z Z Z (by omega) ?_))))))))))); refine aA V Z Z (aE Z (aA V Z Z (aE Z (aA V Z Z (aE Z (aW V Z Z Z (by omega) (aA V Z Z (aF (aH Z (aM (aD ?_))))))))))); refine aB (aJ V Z Z Z ?_))
  refine aK (val := .tuple #[.int .i64 (eN x).1, .int .i64 (eN x).2]) V rfl rfl rfl rfl (fun w hs => ?_) ?_; exact least_ca w 0 w.heap.size x ua uc (bV hs (by repeat constructor) rfl) (by omega)
  (refine aA V Z Z (aT V Z Z Z (aT V Z Z Z (aA V Z Z (aA V Z Z (aF (aD (aB (aJ V Z Z Z ?_)))))))))
  refine aK (val := .tuple #[.int .i64 (eN x).1, .int .i64 (eN x).2]) V rfl rfl rfl rfl (fun w hs => ?_) ?_; exact rleast_ca w 0 w.heap.size x ra rc (bV hs (by repeat constructor) rfl) (by omega)
  (refine aA V Z Z (aT V Z Z Z (aT V Z Z Z (aA V Z Z (aA V Z Z (aF (aD (aD (aB (aA V Z Z (aA V Z Z (aW V Z Z Z (by omega) ?_))))))))))); refine aA V Z Z (aE Z (aA V Z Z (aE Z (aA V Z Z (aE Z (aW V Z Z Z (by omega) (aA V Z Z (aF (aH Z (aM (aD ?_))))))))))); refine aB (aJ V Z Z Z ?_))
  refine aK (val := .tuple #[.int .i64 (gE x).1, .int .i64 (gE x).2]) V rfl rfl rfl rfl (fun w hs => ?_) ?_; exact room_ca w 0 w.heap.size x ua uc (bV hs (by repeat constructor) rfl) (by omega)
  (refine aA V Z Z (aT V Z Z Z (aT V Z Z Z (aA V Z Z (aA V Z Z (aF (aD (aB (aJ V Z Z Z ?_)))))))))
  refine aK (val := .tuple #[.int .i64 (gE x).1, .int .i64 (gE x).2]) V rfl rfl rfl rfl (fun w hs => ?_) ?_; exact rroom_ca w 0 w.heap.size x ra rc (bV hs (by repeat constructor) rfl) (by omega)
  (refine aA V Z Z (aT V Z Z Z (aT V Z Z Z (aA V Z Z (aA V Z Z (aF (aD (aD (aB (aA V Z Z (aA V Z Z (aW V Z Z Z (by omega) ?_))))))))))); refine aA V Z Z (aE Z (aA V Z Z (aE Z (aA V Z Z (aE Z (aW V Z Z Z (by omega) (aA V Z Z (aF (aH Z (aM (aD ?_))))))))))); refine aB (aJ V Z Z Z ?_))
  refine bG (β := Value) V [] _ M0 rfl rfl rfl rfl (Sp.refl _) (fun _ h => h.elim) (fun w' hs => ranges_ok w' 0 w'.heap.size x ua uc (bV hs (by repeat constructor) rfl) hx) ?_
  rintro v1 _ rfl
  dsimp only [List.cons_append, List.nil_append]
  (refine aA V Z Z (aT V Z Z Z (aT V Z Z Z (aA V Z Z (aA V Z Z (aF (aD (aB (aJ V Z Z Z ?_)))))))))
  refine bG (β := Value) V [] _ M0 rfl rfl rfl rfl (Sp.refl _) (fun _ h => h.elim) (fun w' hs => rranges_ok w' 0 w'.heap.size x ra rc (bV (t := 175) hs (by repeat constructor) rfl) hx) ?_
  rintro v2 _ rfl
  dsimp only [List.cons_append, List.nil_append]
  have hrl : (gD x).length ≤ 60 := by
   have h1 := (hap_len hx (bN hx)).1
   have h2 := hx.d2
   simp only [gD, List.length_map, List.length_range]
   omega
  (refine aA V Z Z (aT V Z Z Z (aT V Z Z Z (aA V Z Z (aA V Z Z (aF (aD (aB (aA V Z Z (aA V Z Z (cO V Z Z Z (by omega) (aA V Z Z ?_))))))))))); refine aE Z (aA V Z Z (aE Z (aA V Z Z (aE Z ?_)))))
  refine aK (val := .bool true) V rfl rfl rfl rfl (fun w hs => ?_) ?_; exact eqS_ca w 0 w.heap.size 0 w.heap.size v1 v2 (gD x) (sat_rdS hs (by repeat constructor) rfl) (sat_rdS hs (by repeat constructor) rfl) (by omega)
  (refine aA V Z Z (aA V Z Z (aE Z (aJ V Z Z Z (aE Z (aJ V Z Z Z (aE Z ?_)))))))
  refine aK (val := .bool true) V rfl rfl rfl rfl (fun w hs => ?_) ?_; exact jZ w 0 w.heap.size lo hi x ua a uc c (bV hs (by repeat constructor) rfl) (RdE.keep h hs.chg0) (by omega)
  (refine aA V Z Z (aA V Z Z (aE Z ?_)))
  refine aK (val := .bool true) V rfl rfl rfl rfl (fun w hs => ?_) ?_; exact dS w
  (refine aA V Z Z (aA V Z Z (aF (aS ?_))))
  refine aU V Z (by repeat constructor) fun w hs => ?_
  exact ⟨rfl, hs.chg0⟩
 ·rw [h1, h2]
  dsimp only
  (refine bS V Z Z Z Z Z (by repeat constructor) rfl ?_; refine aA V Z Z (aF (aD (aD (aB (aA V Z Z (aA V Z Z (aW V Z Z Z (by omega) (aA V Z Z (aE Z (aA V Z Z (aE Z ?_))))))))))); refine aA V Z Z (aE Z (aW V Z Z Z (by omega) (aA V Z Z (aA V Z Z (aE Z (aA V Z Z (aE Z (aA V Z Z (aE Z (aW V Z Z Z (by omega) (aA V Z Z ?_))))))))))); refine aA V Z Z (aE Z (aA V Z Z (aE Z (aW V Z Z Z (by omega) (aE Z (aA V Z Z ?_)))))); (iterate 3 refine bE Z Z Z ?_); refine aE Z (aA V Z Z (aA V Z Z (aF (aH Z (aM (aD (aD (aB (aA V Z Z (cO V Z Z Z (by omega) (aF ?_))))))))))); refine aL Z (aD (aB (aJ V Z Z Z (aA V Z Z (aI V Z Z Z (aA V Z Z (aI V Z Z Z ?_))))))))
  refine aK (val := .tuple #[.int .i64 n, .int .i64 0]) V rfl rfl rfl rfl (fun w hs => ?_) ?_; exact by have := kJ w 0 w.heap.size x ra rc g f (bV hs (by repeat constructor) rfl) (by omega); rw [h3] at this; exact this
  (refine aA V Z Z (aT V Z Z Z (aT V Z Z Z (aA V Z Z (aA V Z Z (aF (aD (aB (aA V Z Z (aW V Z Z Z (by omega) (aA V Z Z (aE Z ?_))))))))))); refine aA V Z Z (aE Z (cI V Z Z Z (by omega) (aA V Z Z (aA V Z Z (aE Z (aA V Z Z (aE Z (aI V Z Z Z (aE Z (aA V Z Z (aE Z ?_))))))))))); refine aW V Z Z Z (by omega) (aA V Z Z (aF (aH Z (aM (aD (aB (aJ V Z Z Z (aJ V Z Z Z ?_)))))))))
  refine aK (val := .tuple #[.int .i64 (cF x frm day).1, .int .i64 (cF x frm day).2]) V rfl rfl rfl rfl (fun w hs => ?_) ?_; exact lO w 0 w.heap.size x ua uc frm day (bV hs (by repeat constructor) rfl) (by omega)
  (refine aA V Z Z (aT V Z Z Z (aT V Z Z Z (aA V Z Z (aA V Z Z (aF (aD (aB (aJ V Z Z Z (aA V Z Z (aI V Z Z Z (aA V Z Z ?_))))))))))); refine aI V Z Z Z ?_)
  refine aK (val := .tuple #[.int .i64 (cF x frm day).1, .int .i64 (cF x frm day).2]) V rfl rfl rfl rfl (fun w hs => ?_) ?_; exact kJ w 0 w.heap.size x ra rc frm day (bV hs (by repeat constructor) rfl) (by omega)
  (refine aA V Z Z (aT V Z Z Z (aT V Z Z Z (aA V Z Z (aA V Z Z (aF (aD (aD (aB (aA V Z Z (aA V Z Z (aW V Z Z Z (by omega) ?_))))))))))); refine aA V Z Z (aE Z (aA V Z Z (aE Z (aA V Z Z (aE Z (aW V Z Z Z (by omega) (aA V Z Z (aF (aH Z (aM (aD ?_))))))))))); refine aB (aJ V Z Z Z ?_))
  refine aK (val := .tuple #[.int .i64 (eN x).1, .int .i64 (eN x).2]) V rfl rfl rfl rfl (fun w hs => ?_) ?_; exact least_ca w 0 w.heap.size x ua uc (bV hs (by repeat constructor) rfl) (by omega)
  (refine aA V Z Z (aT V Z Z Z (aT V Z Z Z (aA V Z Z (aA V Z Z (aF (aD (aB (aJ V Z Z Z ?_)))))))))
  refine aK (val := .tuple #[.int .i64 (eN x).1, .int .i64 (eN x).2]) V rfl rfl rfl rfl (fun w hs => ?_) ?_; exact rleast_ca w 0 w.heap.size x ra rc (bV hs (by repeat constructor) rfl) (by omega)
  (refine aA V Z Z (aT V Z Z Z (aT V Z Z Z (aA V Z Z (aA V Z Z (aF (aD (aD (aB (aA V Z Z (aA V Z Z (aW V Z Z Z (by omega) ?_))))))))))); refine aA V Z Z (aE Z (aA V Z Z (aE Z (aA V Z Z (aE Z (aW V Z Z Z (by omega) (aA V Z Z (aF (aH Z (aM (aD ?_))))))))))); refine aB (aJ V Z Z Z ?_))
  refine aK (val := .tuple #[.int .i64 (gE x).1, .int .i64 (gE x).2]) V rfl rfl rfl rfl (fun w hs => ?_) ?_; exact room_ca w 0 w.heap.size x ua uc (bV hs (by repeat constructor) rfl) (by omega)
  (refine aA V Z Z (aT V Z Z Z (aT V Z Z Z (aA V Z Z (aA V Z Z (aF (aD (aB (aJ V Z Z Z ?_)))))))))
  refine aK (val := .tuple #[.int .i64 (gE x).1, .int .i64 (gE x).2]) V rfl rfl rfl rfl (fun w hs => ?_) ?_; exact rroom_ca w 0 w.heap.size x ra rc (bV hs (by repeat constructor) rfl) (by omega)
  (refine aA V Z Z (aT V Z Z Z (aT V Z Z Z (aA V Z Z (aA V Z Z (aF (aD (aD (aB (aA V Z Z (aA V Z Z (aW V Z Z Z (by omega) ?_))))))))))); refine aA V Z Z (aE Z (aA V Z Z (aE Z (aA V Z Z (aE Z (aW V Z Z Z (by omega) (aA V Z Z (aF (aH Z (aM (aD ?_))))))))))); refine aB (aJ V Z Z Z ?_))
  refine bG (β := Value) V [] _ M0 rfl rfl rfl rfl (Sp.refl _) (fun _ h => h.elim) (fun w' hs => ranges_ok w' 0 w'.heap.size x ua uc (bV hs (by repeat constructor) rfl) hx) ?_
  rintro v1 _ rfl
  dsimp only [List.cons_append, List.nil_append]
  (refine aA V Z Z (aT V Z Z Z (aT V Z Z Z (aA V Z Z (aA V Z Z (aF (aD (aB (aJ V Z Z Z ?_)))))))))
  refine bG (β := Value) V [] _ M0 rfl rfl rfl rfl (Sp.refl _) (fun _ h => h.elim) (fun w' hs => rranges_ok w' 0 w'.heap.size x ra rc (bV (t := 175) hs (by repeat constructor) rfl) hx) ?_
  rintro v2 _ rfl
  dsimp only [List.cons_append, List.nil_append]
  have hrl : (gD x).length ≤ 60 := by
   have h1 := (hap_len hx (bN hx)).1
   have h2 := hx.d2
   simp only [gD, List.length_map, List.length_range]
   omega
  (refine aA V Z Z (aT V Z Z Z (aT V Z Z Z (aA V Z Z (aA V Z Z (aF (aD (aB (aA V Z Z (aA V Z Z (cO V Z Z Z (by omega) (aA V Z Z ?_))))))))))); refine aE Z (aA V Z Z (aE Z (aA V Z Z (aE Z ?_)))))
  refine aK (val := .bool true) V rfl rfl rfl rfl (fun w hs => ?_) ?_; exact eqS_ca w 0 w.heap.size 0 w.heap.size v1 v2 (gD x) (sat_rdS hs (by repeat constructor) rfl) (sat_rdS hs (by repeat constructor) rfl) (by omega)
  (refine aA V Z Z (aA V Z Z (aE Z (aJ V Z Z Z (aE Z (aJ V Z Z Z (aE Z ?_)))))))
  refine aK (val := .bool true) V rfl rfl rfl rfl (fun w hs => ?_) ?_; exact jZ w 0 w.heap.size lo hi x ua a uc c (bV hs (by repeat constructor) rfl) (RdE.keep h hs.chg0) (by omega)
  (refine aA V Z Z (aA V Z Z (aE Z ?_)))
  refine aK (val := .bool true) V rfl rfl rfl rfl (fun w hs => ?_) ?_; exact dS w
  (refine aA V Z Z (aA V Z Z (aF (aS ?_))))
  refine aU V Z (by repeat constructor) fun w hs => ?_
  exact ⟨rfl, hs.chg0⟩
end Go.Proofs.YtgeajgmefokifaaGreat

/- What a function is told of its arguments: slices and structs that came in can be read. -/
namespace Go.Proofs.YtgeajgmefokifaaGreat
open Go Go.Eng

section
variable {H : Type} {enc : TypeId × Value → H} {P : Program} {w : World} {sp : Nat → Bool} {held : Bool}
theorem flat_get {sz : Nat} (hsz : 0 < sz) : ∀ (css : List (List Value)), (∀ c ∈ css, c.length = sz) → ∀ j, css.flatten[j]? = (css[j / sz]?).bind (fun c => c[j % sz]?)
 | [], _, j => by simp
 | c :: css, h, j => by
  have hc := h c List.mem_cons_self
  rw [List.flatten_cons]
  by_cases hj : j < sz
  ·rw [List.getElem?_append_left (by omega), Nat.div_eq_of_lt hj, Nat.mod_eq_of_lt hj]
   rfl
  ·obtain ⟨k, rfl⟩ : ∃ k, j = k + sz := ⟨j - sz, by omega⟩
   rw [List.getElem?_append_right (by omega), hc, Nat.add_sub_cancel, flat_get hsz css (fun d hd => h d (List.mem_cons_of_mem _ hd)), Nat.add_div_right _ hsz, Nat.add_mod_right]
   rfl
end
/-- A number that fits into 64 bits. -/
def I64 (n : Int) : Prop := -9223372036854775808 ≤ n ∧ n < 9223372036854775808
section
variable {H : Type} {enc : TypeId × Value → H} {P : Program} {w : World} {sp : Nat → Bool} {held : Bool}
theorem RdI.one {v : Value} {l : List Int} {lo hi : Nat} (h : RdI w lo hi v l) : cU v = true := by
 obtain ⟨a, c, rfl, _⟩ := RdI.outI h
 rfl
end
end Go.Proofs.YtgeajgmefokifaaGreat

/- What a function of the chapter is told of its arguments. -/
namespace Go.Proofs.YtgeajgmefokifaaGreat
open Go Go.Eng

section
variable {H : Type} {enc : TypeId × Value → H} {P : Program} {w : World} {sp : Nat → Bool} {held : Bool}
end

section
variable {H : Type} {enc : TypeId × Value → H} {w : World} {sp : Nat → Bool} {held : Bool} {rc : Reach} {base : Nat} {v : Value} {d : DataW H} {ps : List MemPlace}
/-- The numbers of rules fit into 64 bits. -/
structure Rl.Big (r : Rl) : Prop where
 laps : I64 r.laps
 g0 : I64 r.g0
 g1 : I64 r.g1
 c0 : I64 r.c0
 c1 : I64 r.c1
 p0 : I64 r.p0
 p1 : I64 r.p1
 wide : I64 r.wide
 uses : I64 r.uses
end
end Go.Proofs.YtgeajgmefokifaaGreat
