/- My texts LwD, joined: a claim takes at most 60 files. -/
import Derived.Test.YtopdmadgkjdgcaaGreatJ4

/- RifleMore. Written by gen_LwD.py. -/
namespace Go.Proofs.YtopdmadgkjdgcaaGreat
set_option maxRecDepth 4000
open Go Go.Eng
def tLwD_427ee08 : OT := chainT [11] (.nil)
def tLwD_9d59c50 : OT := chainT [10] (tLwD_427ee08)
def tLwD_dea3a3e : OT := chainT [9] (tLwD_9d59c50)
def tLwD_61ea7bf : OT := chainT [8] (tLwD_dea3a3e)
def tLwD_701e7fd : OT := chainT [7] (tLwD_dea3a3e)
def tLwD_5d56ffe : OT := .alt (chainT [7] (tLwD_61ea7bf)) (chainT [8] (tLwD_701e7fd))
def tLwD_71dc740 : OT := chainT [6] (tLwD_dea3a3e)
def tLwD_351d1e7 : OT := .alt (chainT [6] (tLwD_61ea7bf)) (chainT [8] (tLwD_71dc740))
def tLwD_cef4f6b : OT := .alt (chainT [6] (tLwD_701e7fd)) (chainT [7] (tLwD_71dc740))
def tLwD_9513658 : OT := .alt (chainT [6] (tLwD_5d56ffe)) (.alt (chainT [7] (tLwD_351d1e7)) (chainT [8] (tLwD_cef4f6b)))
def tLwD_b70bd3c : OT := chainT [4, 5] (tLwD_dea3a3e)
def tLwD_9680bd1 : OT := .alt (chainT [4, 5] (tLwD_61ea7bf)) (chainT [8] (tLwD_b70bd3c))
def tLwD_31c739e : OT := .alt (chainT [4, 5] (tLwD_701e7fd)) (chainT [7] (tLwD_b70bd3c))
def tLwD_5a1af78 : OT := .alt (chainT [4, 5] (tLwD_5d56ffe)) (.alt (chainT [7] (tLwD_9680bd1)) (chainT [8] (tLwD_31c739e)))
def tLwD_6bbd62e : OT := .alt (chainT [4, 5] (tLwD_71dc740)) (chainT [6] (tLwD_b70bd3c))
def tLwD_d69d1ab : OT := .alt (chainT [4, 5] (tLwD_351d1e7)) (.alt (chainT [6] (tLwD_9680bd1)) (chainT [8] (tLwD_6bbd62e)))
def tLwD_2389ef3 : OT := .alt (chainT [4, 5] (tLwD_cef4f6b)) (.alt (chainT [6] (tLwD_31c739e)) (chainT [7] (tLwD_6bbd62e)))
def tLwD_f81beb6 : OT := .alt (chainT [4, 5] (tLwD_9513658)) (.alt (chainT [6] (tLwD_5a1af78)) (.alt (chainT [7] (tLwD_d69d1ab)) (chainT [8] (tLwD_2389ef3))))
def tLwD_a76512f : OT := chainT [2, 3] (tLwD_b70bd3c)
def tLwD_3a83534 : OT := .alt (chainT [2, 3] (tLwD_9680bd1)) (chainT [8] (tLwD_a76512f))
def tLwD_5d340b5 : OT := .alt (chainT [2, 3] (tLwD_31c739e)) (chainT [7] (tLwD_a76512f))
def tLwD_a6848e1 : OT := .alt (chainT [2, 3] (tLwD_5a1af78)) (.alt (chainT [7] (tLwD_3a83534)) (chainT [8] (tLwD_5d340b5)))
def tLwD_1dccc0a : OT := .alt (chainT [2, 3] (tLwD_6bbd62e)) (chainT [6] (tLwD_a76512f))
def tLwD_cebb912 : OT := .alt (chainT [2, 3] (tLwD_d69d1ab)) (.alt (chainT [6] (tLwD_3a83534)) (chainT [8] (tLwD_1dccc0a)))
def tLwD_6388bc7 : OT := .alt (chainT [2, 3] (tLwD_2389ef3)) (.alt (chainT [6] (tLwD_5d340b5)) (chainT [7] (tLwD_1dccc0a)))
def tLwD_ed077bb : OT := .alt (chainT [2, 3] (tLwD_f81beb6)) (.alt (chainT [6] (tLwD_a6848e1)) (.alt (chainT [7] (tLwD_cebb912)) (chainT [8] (tLwD_6388bc7))))
def tLwD_6ff872e : OT := chainT [0, 1] (tLwD_a76512f)
def tLwD_ce81463 : OT := .alt (chainT [0, 1] (tLwD_3a83534)) (chainT [8] (tLwD_6ff872e))
def tLwD_c68fd24 : OT := .alt (chainT [0, 1] (tLwD_5d340b5)) (chainT [7] (tLwD_6ff872e))
def tLwD_4658da5 : OT := .alt (chainT [0, 1] (tLwD_a6848e1)) (.alt (chainT [7] (tLwD_ce81463)) (chainT [8] (tLwD_c68fd24)))
def tLwD_5213287 : OT := .alt (chainT [0, 1] (tLwD_1dccc0a)) (chainT [6] (tLwD_6ff872e))
def tLwD_0c05407 : OT := .alt (chainT [0, 1] (tLwD_cebb912)) (.alt (chainT [6] (tLwD_ce81463)) (chainT [8] (tLwD_5213287)))
def tLwD_4535c44 : OT := .alt (chainT [0, 1] (tLwD_6388bc7)) (.alt (chainT [6] (tLwD_c68fd24)) (chainT [7] (tLwD_5213287)))
def tLwD_0c87a46 : OT := .alt (chainT [0, 1] (tLwD_ed077bb)) (.alt (chainT [6] (tLwD_4658da5)) (.alt (chainT [7] (tLwD_0c05407)) (chainT [8] (tLwD_4535c44))))
set_option maxHeartbeats 8000000 in
set_option maxRecDepth 20000 in
theorem rifleMore_ca (w : World) (a : Option Addr) (nb cb : Nat) (at0 : Option Addr) (nt ct : Nat) (a2 : Int) (ha2 : 0 ≤ a2 ∧ a2 < 256) (hbyb1 : DkB w 0 w.heap.size (.slice a nb cb)) (hbyb10 : DkB w 0 w.heap.size (.slice at0 nt ct)) :
    Ca Tryz.prog 7 [.slice a nb cb, .slice at0 nt ct, .int .u8 a2] w fun r w' => r = .bool true ∧ Chg [] w w' := by
  refine q_of (Sat.nil w M0) Tryz.func7 rfl (by simp [Tryz.ntmps7]) ?_
  (refine q_seq (q_region (ql_pure tabOk rfl rfl (q_nil (q_seq (q_region (ql_pure tabOk rfl rfl ?_)))))))
  refine ql_call (β := Nat) tabOk [] _ M0 rfl rfl rfl rfl (Sp.refl _) (fun _ h => h.elim) (fun w' hs => of_ca w' a nb cb) ?_
  rintro b1 _ rfl
  dsimp only [List.cons_append, List.nil_append]
  refine ql_call (β := (Value × Value × Value) × Sc × Int × List (Int × Int)) (ψ := fun y v => v = .tuple #[.agg (scC y.2.1 y.1.1 y.1.2.1).toArray, .int .i64 y.2.2.1, y.1.2.2] ∧ MadS 5 y.2.1 y.2.2.1 y.2.2.2) (L' := fun y => [.ow y.1.1 78 2 y.2.1.tests.length (spC y.2.1.tests), .ow y.1.2.1 3 1 y.2.2.2.length (ints (y.2.2.2.map (·.2))), .ow y.1.2.2 3 1 y.2.2.2.length (ints (y.2.2.2.map (·.1))), dkP (.slice a nb cb) b1 (0 + 100)]) tabOk [dkP (.slice a nb cb) b1 0] _ (fun x => x = b1) rfl rfl rfl rfl (Sp.cons (by repeat constructor) (Sp.refl _)) (fun x hx => ⟨_, .head _, hx⟩) (fun w' hs => made70 (most := 5) hbyb1 hs (by omega) (by omega) (by omega)) ?_
  rintro ⟨⟨tv, rv, uv⟩, s, o, X⟩ _ ⟨rfl, hm⟩
  dsimp only [List.cons_append, List.nil_append] at hm ⊢
  have hlen := hm.len
  have hX1 := hm.n1
  have hX5 := hm.n2
  rw [← hm.rif, ← hlen]
  have hsok := hm.sok (by omega)
  have hok := hsok.ok
  have herr := hm.err
  have htn := hm.tn
  have hoff := hm.off
  refine ql_fact (fun w hs => hs.slice2 (v := tv) (by repeat constructor)) ?_
  rintro ⟨ta, tc, rfl⟩
  refine ql_fact (fun w hs => hs.ownSome (v := rv) (by repeat constructor) (by omega)) ?_
  rintro ⟨ra, rc, rfl⟩
  refine ql_fact (fun w hs => hs.slice2 (v := uv) (by repeat constructor)) ?_
  rintro ⟨ua, uc, rfl⟩
  (refine ql_pure tabOk rfl rfl ?_; (iterate 3 refine ql_ext tabOk rfl rfl rfl ?_))
  refine ql_alloc zero46 rfl (fun b7 => ?_)
  (refine ql_setA tabOk rfl rfl rfl rfl rfl (by repeat constructor) rfl ?_; refine ql_pure tabOk rfl rfl (ql_pure tabOk rfl rfl (q_nil (q_seq (q_region (ql_pure tabOk rfl rfl ?_))))))
  refine ql_call (β := Nat) tabOk [] _ M0 rfl rfl rfl rfl (Sp.refl _) (fun _ h => h.elim) (fun w' hs => of_ca w' at0 nt ct) ?_
  rintro b10 _ rfl
  dsimp only [List.cons_append, List.nil_append]
  (refine ql_pure tabOk rfl rfl (q_nil (q_seq ?_)))
  refine q_conv (H' := [.pt b7 (scC s (.slice ta s.tests.length tc) (.slice (some ⟨ra, 0, none⟩) s.rifles.length rc)) 46, .ow (.slice ta s.tests.length tc) 78 2 s.tests.length (spC s.tests), .ow (.slice (some ⟨ra, 0, none⟩) s.rifles.length rc) 3 1 s.rifles.length (ints s.rifles), dkP (.slice at0 nt ct) b10 0]) (fun w' hs => hs.sp (by repeat constructor)) ?_
  refine q_cut (σ := (Option Addr × Nat × Option Addr × Nat) × (Option Addr × Nat × Option Addr × Nat) × (Option Addr × Nat × Option Addr × Nat) × Nat × Nat × Nat) (fun ⟨⟨p1, q1, r1, z1⟩, ⟨p3, q3, r3, z3⟩, ⟨p5, q5, r5, z5⟩, b11, b12, b13⟩ => [(2, .int .u8 a2), (7, .pointer (some ⟨b7, 0, none⟩)), (8, .int .i64 o), (10, .pointer (some ⟨b10, 0, none⟩)), (11, .pointer (some ⟨b11, 0, none⟩)), (12, .pointer (some ⟨b12, 0, none⟩)), (13, .pointer (some ⟨b13, 0, none⟩))])
    (fun ⟨⟨p1, q1, r1, z1⟩, ⟨p3, q3, r3, z3⟩, ⟨p5, q5, r5, z5⟩, b11, b12, b13⟩ => [.ow (.slice p1 s.tests.length q1) 78 2 s.tests.length (spC s.tests), .ow (.slice r1 s.rifles.length z1) 3 1 s.rifles.length (ints s.rifles), .pt b11 (scC s (.slice p1 s.tests.length q1) (.slice r1 s.rifles.length z1)) 46, .ow (.slice p3 s.tests.length q3) 78 2 s.tests.length (spC s.tests), .ow (.slice r3 s.rifles.length z3) 3 1 s.rifles.length (ints s.rifles), .pt b12 (scC s (.slice p3 s.tests.length q3) (.slice r3 s.rifles.length z3)) 46, .ow (.slice p5 s.tests.length q5) 78 2 s.tests.length (spC s.tests), .ow (.slice r5 s.rifles.length z5) 3 1 s.rifles.length (ints s.rifles), .pt b13 (scC s (.slice p5 s.tests.length q5) (.slice r5 s.rifles.length z5)) 46, .pt b7 (scC s (.slice ta s.tests.length tc) (.slice (some ⟨ra, 0, none⟩) s.rifles.length rc)) 46, .ow (.slice ta s.tests.length tc) 78 2 s.tests.length (spC s.tests), .ow (.slice (some ⟨ra, 0, none⟩) s.rifles.length rc) 3 1 s.rifles.length (ints s.rifles), dkP (.slice at0 nt ct) b10 0]) ?_ ?_
  rotate_left
  · intro K2 hK2
    refine q_drawT (tLwD_0c87a46) _ [] (Sp.refl _) (by kernel_rfl) (by kernel_rfl) ?_
    refine qt_let (σ := Option Addr × Nat × Option Addr × Nat × Option Addr × Nat × Option Addr × Nat × Option Addr × Nat × Option Addr × Nat × Nat × Nat × Nat × Unit) (.nil) (fun ⟨p1, q1, r1, z1, p3, q3, r3, z3, p5, q5, r5, z5, b11, b12, b13, ()⟩ => [(2, .int .u8 a2), (7, .pointer (some ⟨b7, 0, none⟩)), (8, .int .i64 o), (10, .pointer (some ⟨b10, 0, none⟩)), (11, .pointer (some ⟨b11, 0, none⟩)), (12, .pointer (some ⟨b12, 0, none⟩)), (13, .pointer (some ⟨b13, 0, none⟩))]) (fun ⟨p1, q1, r1, z1, p3, q3, r3, z3, p5, q5, r5, z5, b11, b12, b13, ()⟩ => [.ow (.slice p1 s.tests.length q1) 78 2 s.tests.length (spC s.tests), .ow (.slice r1 s.rifles.length z1) 3 1 s.rifles.length (ints s.rifles), .pt b11 (scC s (.slice p1 s.tests.length q1) (.slice r1 s.rifles.length z1)) 46, .ow (.slice p3 s.tests.length q3) 78 2 s.tests.length (spC s.tests), .ow (.slice r3 s.rifles.length z3) 3 1 s.rifles.length (ints s.rifles), .pt b12 (scC s (.slice p3 s.tests.length q3) (.slice r3 s.rifles.length z3)) 46, .ow (.slice p5 s.tests.length q5) 78 2 s.tests.length (spC s.tests), .ow (.slice r5 s.rifles.length z5) 3 1 s.rifles.length (ints s.rifles), .pt b13 (scC s (.slice p5 s.tests.length q5) (.slice r5 s.rifles.length z5)) 46]) ?_ (fun hS1_3_5_6_7_8_9_10_11 => ?_)
    · rintro ⟨p1, q1, r1, z1, p3, q3, r3, z3, p5, q5, r5, z5, b11, b12, b13, _⟩
      exact qt_nil (hK2 (⟨p1, q1, r1, z1⟩, ⟨p3, q3, r3, z3⟩, ⟨p5, q5, r5, z5⟩, b11, b12, b13) _ _ ⟨rfl, rfl, rfl, rfl, rfl, rfl, rfl, trivial⟩ (by repeat constructor))
    refine qt_let (σ := Option Addr × Nat × Option Addr × Nat × Option Addr × Nat × Option Addr × Nat × Option Addr × Nat × Option Addr × Nat × Nat × Nat × Nat × Unit) (tLwD_427ee08) (fun ⟨p1, q1, r1, z1, p3, q3, r3, z3, p5, q5, r5, z5, b11, b12, b13, ()⟩ => [(2, .int .u8 a2), (7, .pointer (some ⟨b7, 0, none⟩)), (8, .int .i64 o), (10, .pointer (some ⟨b10, 0, none⟩)), (11, .pointer (some ⟨b11, 0, none⟩)), (12, .pointer (some ⟨b12, 0, none⟩)), (59, .agg (scC s (.slice p5 s.tests.length q5) (.slice r5 s.rifles.length z5)).toArray), (13, .pointer (some ⟨b13, 0, none⟩))]) (fun ⟨p1, q1, r1, z1, p3, q3, r3, z3, p5, q5, r5, z5, b11, b12, b13, ()⟩ => [.ow (.slice p1 s.tests.length q1) 78 2 s.tests.length (spC s.tests), .ow (.slice r1 s.rifles.length z1) 3 1 s.rifles.length (ints s.rifles), .pt b11 (scC s (.slice p1 s.tests.length q1) (.slice r1 s.rifles.length z1)) 46, .ow (.slice p3 s.tests.length q3) 78 2 s.tests.length (spC s.tests), .ow (.slice r3 s.rifles.length z3) 3 1 s.rifles.length (ints s.rifles), .pt b12 (scC s (.slice p3 s.tests.length q3) (.slice r3 s.rifles.length z3)) 46, .ow (.slice p5 s.tests.length q5) 78 2 s.tests.length (spC s.tests), .ow (.slice r5 s.rifles.length z5) 3 1 s.rifles.length (ints s.rifles), .pt b13 [.int .i64 0, .int .i64 0, .slice none 0 0, .slice none 0 0] 46]) ?_ (fun hS1_3_5_6_7_8_9_10 => ?_)
    · rintro ⟨p1, q1, r1, z1, p3, q3, r3, z3, p5, q5, r5, z5, b11, b12, b13, _⟩
      refine qt_seg (by repeat (first | exact PickL.nil | (apply PickL.cons; rfl))) fun K1 hK1 => ?_
      (refine qf_setA tabOk rfl rfl rfl rfl rfl (by repeat constructor) rfl ?_; refine qf_nil ?_)
      skip
      exact hK1 _ _ (hS1_3_5_6_7_8_9_10_11 ⟨p1, q1, r1, z1, p3, q3, r3, z3, p5, q5, r5, z5, b11, b12, b13, ()⟩ _ _ ⟨rfl, rfl, rfl, rfl, rfl, rfl, rfl, trivial⟩ (by repeat constructor))
    refine qt_let (σ := Option Addr × Nat × Option Addr × Nat × Option Addr × Nat × Option Addr × Nat × Option Addr × Nat × Option Addr × Nat × Nat × Nat × Nat × Unit) (tLwD_9d59c50) (fun ⟨p1, q1, r1, z1, p3, q3, r3, z3, p5, q5, r5, z5, b11, b12, b13, ()⟩ => [(2, .int .u8 a2), (7, .pointer (some ⟨b7, 0, none⟩)), (8, .int .i64 o), (10, .pointer (some ⟨b10, 0, none⟩)), (11, .pointer (some ⟨b11, 0, none⟩)), (57, .agg (scC s (.slice p3 s.tests.length q3) (.slice r3 s.rifles.length z3)).toArray), (12, .pointer (some ⟨b12, 0, none⟩)), (59, .agg (scC s (.slice p5 s.tests.length q5) (.slice r5 s.rifles.length z5)).toArray), (13, .pointer (some ⟨b13, 0, none⟩))]) (fun ⟨p1, q1, r1, z1, p3, q3, r3, z3, p5, q5, r5, z5, b11, b12, b13, ()⟩ => [.ow (.slice p1 s.tests.length q1) 78 2 s.tests.length (spC s.tests), .ow (.slice r1 s.rifles.length z1) 3 1 s.rifles.length (ints s.rifles), .pt b11 (scC s (.slice p1 s.tests.length q1) (.slice r1 s.rifles.length z1)) 46, .ow (.slice p3 s.tests.length q3) 78 2 s.tests.length (spC s.tests), .ow (.slice r3 s.rifles.length z3) 3 1 s.rifles.length (ints s.rifles), .pt b12 [.int .i64 0, .int .i64 0, .slice none 0 0, .slice none 0 0] 46, .ow (.slice p5 s.tests.length q5) 78 2 s.tests.length (spC s.tests), .ow (.slice r5 s.rifles.length z5) 3 1 s.rifles.length (ints s.rifles), .pt b13 [.int .i64 0, .int .i64 0, .slice none 0 0, .slice none 0 0] 46]) ?_ (fun hS1_3_5_6_7_8_9 => ?_)
    · rintro ⟨p1, q1, r1, z1, p3, q3, r3, z3, p5, q5, r5, z5, b11, b12, b13, _⟩
      refine qt_seg (by repeat (first | exact PickL.nil | (apply PickL.cons; rfl))) fun K1 hK1 => ?_
      (refine qf_setA tabOk rfl rfl rfl rfl rfl (by repeat constructor) rfl ?_; refine qf_nil ?_)
      skip
      exact hK1 _ _ (hS1_3_5_6_7_8_9_10 ⟨p1, q1, r1, z1, p3, q3, r3, z3, p5, q5, r5, z5, b11, b12, b13, ()⟩ _ _ ⟨rfl, rfl, rfl, rfl, rfl, rfl, rfl, rfl, trivial⟩ (by repeat constructor))
    refine qt_let (σ := Option Addr × Nat × Option Addr × Nat × Option Addr × Nat × Option Addr × Nat × Option Addr × Nat × Option Addr × Nat × Nat × Nat × Nat × Unit) (tLwD_dea3a3e) (fun ⟨p1, q1, r1, z1, p3, q3, r3, z3, p5, q5, r5, z5, b11, b12, b13, ()⟩ => [(2, .int .u8 a2), (7, .pointer (some ⟨b7, 0, none⟩)), (8, .int .i64 o), (10, .pointer (some ⟨b10, 0, none⟩)), (55, .agg (scC s (.slice p1 s.tests.length q1) (.slice r1 s.rifles.length z1)).toArray), (11, .pointer (some ⟨b11, 0, none⟩)), (57, .agg (scC s (.slice p3 s.tests.length q3) (.slice r3 s.rifles.length z3)).toArray), (12, .pointer (some ⟨b12, 0, none⟩)), (59, .agg (scC s (.slice p5 s.tests.length q5) (.slice r5 s.rifles.length z5)).toArray), (13, .pointer (some ⟨b13, 0, none⟩))]) (fun ⟨p1, q1, r1, z1, p3, q3, r3, z3, p5, q5, r5, z5, b11, b12, b13, ()⟩ => [.ow (.slice p1 s.tests.length q1) 78 2 s.tests.length (spC s.tests), .ow (.slice r1 s.rifles.length z1) 3 1 s.rifles.length (ints s.rifles), .pt b11 [.int .i64 0, .int .i64 0, .slice none 0 0, .slice none 0 0] 46, .ow (.slice p3 s.tests.length q3) 78 2 s.tests.length (spC s.tests), .ow (.slice r3 s.rifles.length z3) 3 1 s.rifles.length (ints s.rifles), .pt b12 [.int .i64 0, .int .i64 0, .slice none 0 0, .slice none 0 0] 46, .ow (.slice p5 s.tests.length q5) 78 2 s.tests.length (spC s.tests), .ow (.slice r5 s.rifles.length z5) 3 1 s.rifles.length (ints s.rifles), .pt b13 [.int .i64 0, .int .i64 0, .slice none 0 0, .slice none 0 0] 46]) ?_ (fun hS1_3_5_6_7_8 => ?_)
    · rintro ⟨p1, q1, r1, z1, p3, q3, r3, z3, p5, q5, r5, z5, b11, b12, b13, _⟩
      refine qt_seg (by repeat (first | exact PickL.nil | (apply PickL.cons; rfl))) fun K1 hK1 => ?_
      (refine qf_setA tabOk rfl rfl rfl rfl rfl (by repeat constructor) rfl ?_; refine qf_nil ?_)
      skip
      exact hK1 _ _ (hS1_3_5_6_7_8_9 ⟨p1, q1, r1, z1, p3, q3, r3, z3, p5, q5, r5, z5, b11, b12, b13, ()⟩ _ _ ⟨rfl, rfl, rfl, rfl, rfl, rfl, rfl, rfl, rfl, trivial⟩ (by repeat constructor))
    refine qt_let (σ := Option Addr × Nat × Option Addr × Nat × Option Addr × Nat × Option Addr × Nat × Option Addr × Nat × Option Addr × Nat × Nat × Nat × Unit) (tLwD_61ea7bf) (fun ⟨p1, q1, r1, z1, p3, q3, r3, z3, p5, q5, r5, z5, b11, b12, ()⟩ => [(2, .int .u8 a2), (7, .pointer (some ⟨b7, 0, none⟩)), (8, .int .i64 o), (10, .pointer (some ⟨b10, 0, none⟩)), (55, .agg (scC s (.slice p1 s.tests.length q1) (.slice r1 s.rifles.length z1)).toArray), (11, .pointer (some ⟨b11, 0, none⟩)), (57, .agg (scC s (.slice p3 s.tests.length q3) (.slice r3 s.rifles.length z3)).toArray), (12, .pointer (some ⟨b12, 0, none⟩)), (59, .agg (scC s (.slice p5 s.tests.length q5) (.slice r5 s.rifles.length z5)).toArray)]) (fun ⟨p1, q1, r1, z1, p3, q3, r3, z3, p5, q5, r5, z5, b11, b12, ()⟩ => [.ow (.slice p1 s.tests.length q1) 78 2 s.tests.length (spC s.tests), .ow (.slice r1 s.rifles.length z1) 3 1 s.rifles.length (ints s.rifles), .pt b11 [.int .i64 0, .int .i64 0, .slice none 0 0, .slice none 0 0] 46, .ow (.slice p3 s.tests.length q3) 78 2 s.tests.length (spC s.tests), .ow (.slice r3 s.rifles.length z3) 3 1 s.rifles.length (ints s.rifles), .pt b12 [.int .i64 0, .int .i64 0, .slice none 0 0, .slice none 0 0] 46, .ow (.slice p5 s.tests.length q5) 78 2 s.tests.length (spC s.tests), .ow (.slice r5 s.rifles.length z5) 3 1 s.rifles.length (ints s.rifles)]) ?_ (fun hS1_3_5_6_7 => ?_)
    · rintro ⟨p1, q1, r1, z1, p3, q3, r3, z3, p5, q5, r5, z5, b11, b12, _⟩
      refine qt_seg (by repeat (first | exact PickL.nil | (apply PickL.cons; rfl))) fun K1 hK1 => ?_
      skip
      refine qf_alloc zero46 rfl (fun b13 => ?_)
      (refine qf_nil ?_)
      exact hK1 _ _ (hS1_3_5_6_7_8 ⟨p1, q1, r1, z1, p3, q3, r3, z3, p5, q5, r5, z5, b11, b12, b13, ()⟩ _ _ ⟨rfl, rfl, rfl, rfl, rfl, rfl, rfl, rfl, rfl, rfl, trivial⟩ (by repeat constructor))
    refine qt_let (σ := Option Addr × Nat × Option Addr × Nat × Option Addr × Nat × Option Addr × Nat × Option Addr × Nat × Option Addr × Nat × Nat × Nat × Unit) (tLwD_701e7fd) (fun ⟨p1, q1, r1, z1, p3, q3, r3, z3, p5, q5, r5, z5, b11, b13, ()⟩ => [(2, .int .u8 a2), (7, .pointer (some ⟨b7, 0, none⟩)), (8, .int .i64 o), (10, .pointer (some ⟨b10, 0, none⟩)), (55, .agg (scC s (.slice p1 s.tests.length q1) (.slice r1 s.rifles.length z1)).toArray), (11, .pointer (some ⟨b11, 0, none⟩)), (57, .agg (scC s (.slice p3 s.tests.length q3) (.slice r3 s.rifles.length z3)).toArray), (59, .agg (scC s (.slice p5 s.tests.length q5) (.slice r5 s.rifles.length z5)).toArray), (13, .pointer (some ⟨b13, 0, none⟩))]) (fun ⟨p1, q1, r1, z1, p3, q3, r3, z3, p5, q5, r5, z5, b11, b13, ()⟩ => [.ow (.slice p1 s.tests.length q1) 78 2 s.tests.length (spC s.tests), .ow (.slice r1 s.rifles.length z1) 3 1 s.rifles.length (ints s.rifles), .pt b11 [.int .i64 0, .int .i64 0, .slice none 0 0, .slice none 0 0] 46, .ow (.slice p3 s.tests.length q3) 78 2 s.tests.length (spC s.tests), .ow (.slice r3 s.rifles.length z3) 3 1 s.rifles.length (ints s.rifles), .ow (.slice p5 s.tests.length q5) 78 2 s.tests.length (spC s.tests), .ow (.slice r5 s.rifles.length z5) 3 1 s.rifles.length (ints s.rifles), .pt b13 [.int .i64 0, .int .i64 0, .slice none 0 0, .slice none 0 0] 46]) ?_ (fun hS1_3_5_6_8 => ?_)
    · rintro ⟨p1, q1, r1, z1, p3, q3, r3, z3, p5, q5, r5, z5, b11, b13, _⟩
      refine qt_seg (by repeat (first | exact PickL.nil | (apply PickL.cons; rfl))) fun K1 hK1 => ?_
      skip
      refine qf_alloc zero46 rfl (fun b12 => ?_)
      (refine qf_nil ?_)
      exact hK1 _ _ (hS1_3_5_6_7_8 ⟨p1, q1, r1, z1, p3, q3, r3, z3, p5, q5, r5, z5, b11, b12, b13, ()⟩ _ _ ⟨rfl, rfl, rfl, rfl, rfl, rfl, rfl, rfl, rfl, rfl, trivial⟩ (by repeat constructor))
    refine qt_let (σ := Option Addr × Nat × Option Addr × Nat × Option Addr × Nat × Option Addr × Nat × Option Addr × Nat × Option Addr × Nat × Nat × Nat × Unit) (tLwD_71dc740) (fun ⟨p1, q1, r1, z1, p3, q3, r3, z3, p5, q5, r5, z5, b12, b13, ()⟩ => [(2, .int .u8 a2), (7, .pointer (some ⟨b7, 0, none⟩)), (8, .int .i64 o), (10, .pointer (some ⟨b10, 0, none⟩)), (55, .agg (scC s (.slice p1 s.tests.length q1) (.slice r1 s.rifles.length z1)).toArray), (57, .agg (scC s (.slice p3 s.tests.length q3) (.slice r3 s.rifles.length z3)).toArray), (12, .pointer (some ⟨b12, 0, none⟩)), (59, .agg (scC s (.slice p5 s.tests.length q5) (.slice r5 s.rifles.length z5)).toArray), (13, .pointer (some ⟨b13, 0, none⟩))]) (fun ⟨p1, q1, r1, z1, p3, q3, r3, z3, p5, q5, r5, z5, b12, b13, ()⟩ => [.ow (.slice p1 s.tests.length q1) 78 2 s.tests.length (spC s.tests), .ow (.slice r1 s.rifles.length z1) 3 1 s.rifles.length (ints s.rifles), .ow (.slice p3 s.tests.length q3) 78 2 s.tests.length (spC s.tests), .ow (.slice r3 s.rifles.length z3) 3 1 s.rifles.length (ints s.rifles), .pt b12 [.int .i64 0, .int .i64 0, .slice none 0 0, .slice none 0 0] 46, .ow (.slice p5 s.tests.length q5) 78 2 s.tests.length (spC s.tests), .ow (.slice r5 s.rifles.length z5) 3 1 s.rifles.length (ints s.rifles), .pt b13 [.int .i64 0, .int .i64 0, .slice none 0 0, .slice none 0 0] 46]) ?_ (fun hS1_3_5_7_8 => ?_)
    · rintro ⟨p1, q1, r1, z1, p3, q3, r3, z3, p5, q5, r5, z5, b12, b13, _⟩
      refine qt_seg (by repeat (first | exact PickL.nil | (apply PickL.cons; rfl))) fun K1 hK1 => ?_
      skip
      refine qf_alloc zero46 rfl (fun b11 => ?_)
      (refine qf_nil ?_)
      exact hK1 _ _ (hS1_3_5_6_7_8 ⟨p1, q1, r1, z1, p3, q3, r3, z3, p5, q5, r5, z5, b11, b12, b13, ()⟩ _ _ ⟨rfl, rfl, rfl, rfl, rfl, rfl, rfl, rfl, rfl, rfl, trivial⟩ (by repeat constructor))
    refine qt_let (σ := Option Addr × Nat × Option Addr × Nat × Option Addr × Nat × Option Addr × Nat × Nat × Nat × Nat × Unit) (tLwD_b70bd3c) (fun ⟨p1, q1, r1, z1, p3, q3, r3, z3, b11, b12, b13, ()⟩ => [(2, .int .u8 a2), (7, .pointer (some ⟨b7, 0, none⟩)), (8, .int .i64 o), (10, .pointer (some ⟨b10, 0, none⟩)), (55, .agg (scC s (.slice p1 s.tests.length q1) (.slice r1 s.rifles.length z1)).toArray), (11, .pointer (some ⟨b11, 0, none⟩)), (57, .agg (scC s (.slice p3 s.tests.length q3) (.slice r3 s.rifles.length z3)).toArray), (12, .pointer (some ⟨b12, 0, none⟩)), (13, .pointer (some ⟨b13, 0, none⟩))]) (fun ⟨p1, q1, r1, z1, p3, q3, r3, z3, b11, b12, b13, ()⟩ => [.ow (.slice p1 s.tests.length q1) 78 2 s.tests.length (spC s.tests), .ow (.slice r1 s.rifles.length z1) 3 1 s.rifles.length (ints s.rifles), .pt b11 [.int .i64 0, .int .i64 0, .slice none 0 0, .slice none 0 0] 46, .ow (.slice p3 s.tests.length q3) 78 2 s.tests.length (spC s.tests), .ow (.slice r3 s.rifles.length z3) 3 1 s.rifles.length (ints s.rifles), .pt b12 [.int .i64 0, .int .i64 0, .slice none 0 0, .slice none 0 0] 46, .pt b13 [.int .i64 0, .int .i64 0, .slice none 0 0, .slice none 0 0] 46]) ?_ (fun hS1_3_6_7_8 => ?_)
    · rintro ⟨p1, q1, r1, z1, p3, q3, r3, z3, b11, b12, b13, _⟩
      refine qt_seg (by repeat (first | exact PickL.nil | (apply PickL.cons; rfl))) fun K1 hK1 => ?_
      (refine qf_loadABa tabOk rfl rfl rfl ?_)
      refine qf_call (β := Value × Value) tabOk [] _ M0 rfl rfl rfl rfl (Sp.refl _) (fun _ h => h.elim) (fun w' hs => clone7_ca w' 0 w'.heap.size s _ _ ⟨own_rdS (hs.mem (c := .ow (.slice ta s.tests.length tc) 78 2 s.tests.length (spC s.tests)) (by repeat constructor)) rfl, own_rdI (hs.mem (c := .ow (.slice (some ⟨ra, 0, none⟩) s.rifles.length rc) 3 1 s.rifles.length (ints s.rifles)) (by repeat constructor)) rfl⟩ (by omega) (by omega)) ?_
      rintro ⟨u5, v5⟩ _ rfl
      dsimp only [List.cons_append, List.nil_append]
      refine qf_fact (fun w hs => hs.slice2 (v := u5) (by repeat constructor)) ?_
      rintro ⟨p5, q5, rfl⟩
      refine qf_fact (fun w hs => hs.slice2 (v := v5) (by repeat constructor)) ?_
      rintro ⟨r5, z5, rfl⟩
      (refine qf_nil ?_)
      exact hK1 _ _ (hS1_3_5_6_7_8 ⟨p1, q1, r1, z1, p3, q3, r3, z3, p5, q5, r5, z5, b11, b12, b13, ()⟩ _ _ ⟨rfl, rfl, rfl, rfl, rfl, rfl, rfl, rfl, rfl, rfl, trivial⟩ (by repeat constructor))
    refine qt_let (σ := Option Addr × Nat × Option Addr × Nat × Option Addr × Nat × Option Addr × Nat × Option Addr × Nat × Option Addr × Nat × Nat × Unit) (tLwD_5d56ffe) (fun ⟨p1, q1, r1, z1, p3, q3, r3, z3, p5, q5, r5, z5, b11, ()⟩ => [(2, .int .u8 a2), (7, .pointer (some ⟨b7, 0, none⟩)), (8, .int .i64 o), (10, .pointer (some ⟨b10, 0, none⟩)), (55, .agg (scC s (.slice p1 s.tests.length q1) (.slice r1 s.rifles.length z1)).toArray), (11, .pointer (some ⟨b11, 0, none⟩)), (57, .agg (scC s (.slice p3 s.tests.length q3) (.slice r3 s.rifles.length z3)).toArray), (59, .agg (scC s (.slice p5 s.tests.length q5) (.slice r5 s.rifles.length z5)).toArray)]) (fun ⟨p1, q1, r1, z1, p3, q3, r3, z3, p5, q5, r5, z5, b11, ()⟩ => [.ow (.slice p1 s.tests.length q1) 78 2 s.tests.length (spC s.tests), .ow (.slice r1 s.rifles.length z1) 3 1 s.rifles.length (ints s.rifles), .pt b11 [.int .i64 0, .int .i64 0, .slice none 0 0, .slice none 0 0] 46, .ow (.slice p3 s.tests.length q3) 78 2 s.tests.length (spC s.tests), .ow (.slice r3 s.rifles.length z3) 3 1 s.rifles.length (ints s.rifles), .ow (.slice p5 s.tests.length q5) 78 2 s.tests.length (spC s.tests), .ow (.slice r5 s.rifles.length z5) 3 1 s.rifles.length (ints s.rifles)]) ?_ (fun hS1_3_5_6 => ?_)
    · rintro ⟨p1, q1, r1, z1, p3, q3, r3, z3, p5, q5, r5, z5, b11, _⟩
      refine qt_alt ?_ ?_
      · skip
        refine qt_seg (by repeat (first | exact PickL.nil | (apply PickL.cons; rfl))) fun K1 hK1 => ?_
        skip
        refine qf_alloc zero46 rfl (fun b12 => ?_)
        (refine qf_nil ?_)
        exact hK1 _ _ (hS1_3_5_6_7 ⟨p1, q1, r1, z1, p3, q3, r3, z3, p5, q5, r5, z5, b11, b12, ()⟩ _ _ ⟨rfl, rfl, rfl, rfl, rfl, rfl, rfl, rfl, rfl, trivial⟩ (by repeat constructor))
      · skip
        refine qt_seg (by repeat (first | exact PickL.nil | (apply PickL.cons; rfl))) fun K1 hK1 => ?_
        skip
        refine qf_alloc zero46 rfl (fun b13 => ?_)
        (refine qf_nil ?_)
        exact hK1 _ _ (hS1_3_5_6_8 ⟨p1, q1, r1, z1, p3, q3, r3, z3, p5, q5, r5, z5, b11, b13, ()⟩ _ _ ⟨rfl, rfl, rfl, rfl, rfl, rfl, rfl, rfl, rfl, trivial⟩ (by repeat constructor))
    refine qt_let (σ := Option Addr × Nat × Option Addr × Nat × Option Addr × Nat × Option Addr × Nat × Option Addr × Nat × Option Addr × Nat × Nat × Unit) (tLwD_351d1e7) (fun ⟨p1, q1, r1, z1, p3, q3, r3, z3, p5, q5, r5, z5, b12, ()⟩ => [(2, .int .u8 a2), (7, .pointer (some ⟨b7, 0, none⟩)), (8, .int .i64 o), (10, .pointer (some ⟨b10, 0, none⟩)), (55, .agg (scC s (.slice p1 s.tests.length q1) (.slice r1 s.rifles.length z1)).toArray), (57, .agg (scC s (.slice p3 s.tests.length q3) (.slice r3 s.rifles.length z3)).toArray), (12, .pointer (some ⟨b12, 0, none⟩)), (59, .agg (scC s (.slice p5 s.tests.length q5) (.slice r5 s.rifles.length z5)).toArray)]) (fun ⟨p1, q1, r1, z1, p3, q3, r3, z3, p5, q5, r5, z5, b12, ()⟩ => [.ow (.slice p1 s.tests.length q1) 78 2 s.tests.length (spC s.tests), .ow (.slice r1 s.rifles.length z1) 3 1 s.rifles.length (ints s.rifles), .ow (.slice p3 s.tests.length q3) 78 2 s.tests.length (spC s.tests), .ow (.slice r3 s.rifles.length z3) 3 1 s.rifles.length (ints s.rifles), .pt b12 [.int .i64 0, .int .i64 0, .slice none 0 0, .slice none 0 0] 46, .ow (.slice p5 s.tests.length q5) 78 2 s.tests.length (spC s.tests), .ow (.slice r5 s.rifles.length z5) 3 1 s.rifles.length (ints s.rifles)]) ?_ (fun hS1_3_5_7 => ?_)
    · rintro ⟨p1, q1, r1, z1, p3, q3, r3, z3, p5, q5, r5, z5, b12, _⟩
      refine qt_alt ?_ ?_
      · skip
        refine qt_seg (by repeat (first | exact PickL.nil | (apply PickL.cons; rfl))) fun K1 hK1 => ?_
        skip
        refine qf_alloc zero46 rfl (fun b11 => ?_)
        (refine qf_nil ?_)
        exact hK1 _ _ (hS1_3_5_6_7 ⟨p1, q1, r1, z1, p3, q3, r3, z3, p5, q5, r5, z5, b11, b12, ()⟩ _ _ ⟨rfl, rfl, rfl, rfl, rfl, rfl, rfl, rfl, rfl, trivial⟩ (by repeat constructor))
      · skip
        refine qt_seg (by repeat (first | exact PickL.nil | (apply PickL.cons; rfl))) fun K1 hK1 => ?_
        skip
        refine qf_alloc zero46 rfl (fun b13 => ?_)
        (refine qf_nil ?_)
        exact hK1 _ _ (hS1_3_5_7_8 ⟨p1, q1, r1, z1, p3, q3, r3, z3, p5, q5, r5, z5, b12, b13, ()⟩ _ _ ⟨rfl, rfl, rfl, rfl, rfl, rfl, rfl, rfl, rfl, trivial⟩ (by repeat constructor))
    refine qt_let (σ := Option Addr × Nat × Option Addr × Nat × Option Addr × Nat × Option Addr × Nat × Option Addr × Nat × Option Addr × Nat × Nat × Unit) (tLwD_cef4f6b) (fun ⟨p1, q1, r1, z1, p3, q3, r3, z3, p5, q5, r5, z5, b13, ()⟩ => [(2, .int .u8 a2), (7, .pointer (some ⟨b7, 0, none⟩)), (8, .int .i64 o), (10, .pointer (some ⟨b10, 0, none⟩)), (55, .agg (scC s (.slice p1 s.tests.length q1) (.slice r1 s.rifles.length z1)).toArray), (57, .agg (scC s (.slice p3 s.tests.length q3) (.slice r3 s.rifles.length z3)).toArray), (59, .agg (scC s (.slice p5 s.tests.length q5) (.slice r5 s.rifles.length z5)).toArray), (13, .pointer (some ⟨b13, 0, none⟩))]) (fun ⟨p1, q1, r1, z1, p3, q3, r3, z3, p5, q5, r5, z5, b13, ()⟩ => [.ow (.slice p1 s.tests.length q1) 78 2 s.tests.length (spC s.tests), .ow (.slice r1 s.rifles.length z1) 3 1 s.rifles.length (ints s.rifles), .ow (.slice p3 s.tests.length q3) 78 2 s.tests.length (spC s.tests), .ow (.slice r3 s.rifles.length z3) 3 1 s.rifles.length (ints s.rifles), .ow (.slice p5 s.tests.length q5) 78 2 s.tests.length (spC s.tests), .ow (.slice r5 s.rifles.length z5) 3 1 s.rifles.length (ints s.rifles), .pt b13 [.int .i64 0, .int .i64 0, .slice none 0 0, .slice none 0 0] 46]) ?_ (fun hS1_3_5_8 => ?_)
    · rintro ⟨p1, q1, r1, z1, p3, q3, r3, z3, p5, q5, r5, z5, b13, _⟩
      refine qt_alt ?_ ?_
      · skip
        refine qt_seg (by repeat (first | exact PickL.nil | (apply PickL.cons; rfl))) fun K1 hK1 => ?_
        skip
        refine qf_alloc zero46 rfl (fun b11 => ?_)
        (refine qf_nil ?_)
        exact hK1 _ _ (hS1_3_5_6_8 ⟨p1, q1, r1, z1, p3, q3, r3, z3, p5, q5, r5, z5, b11, b13, ()⟩ _ _ ⟨rfl, rfl, rfl, rfl, rfl, rfl, rfl, rfl, rfl, trivial⟩ (by repeat constructor))
      · skip
        refine qt_seg (by repeat (first | exact PickL.nil | (apply PickL.cons; rfl))) fun K1 hK1 => ?_
        skip
        refine qf_alloc zero46 rfl (fun b12 => ?_)
        (refine qf_nil ?_)
        exact hK1 _ _ (hS1_3_5_7_8 ⟨p1, q1, r1, z1, p3, q3, r3, z3, p5, q5, r5, z5, b12, b13, ()⟩ _ _ ⟨rfl, rfl, rfl, rfl, rfl, rfl, rfl, rfl, rfl, trivial⟩ (by repeat constructor))
    refine qt_let (σ := Option Addr × Nat × Option Addr × Nat × Option Addr × Nat × Option Addr × Nat × Nat × Nat × Unit) (tLwD_9680bd1) (fun ⟨p1, q1, r1, z1, p3, q3, r3, z3, b11, b12, ()⟩ => [(2, .int .u8 a2), (7, .pointer (some ⟨b7, 0, none⟩)), (8, .int .i64 o), (10, .pointer (some ⟨b10, 0, none⟩)), (55, .agg (scC s (.slice p1 s.tests.length q1) (.slice r1 s.rifles.length z1)).toArray), (11, .pointer (some ⟨b11, 0, none⟩)), (57, .agg (scC s (.slice p3 s.tests.length q3) (.slice r3 s.rifles.length z3)).toArray), (12, .pointer (some ⟨b12, 0, none⟩))]) (fun ⟨p1, q1, r1, z1, p3, q3, r3, z3, b11, b12, ()⟩ => [.ow (.slice p1 s.tests.length q1) 78 2 s.tests.length (spC s.tests), .ow (.slice r1 s.rifles.length z1) 3 1 s.rifles.length (ints s.rifles), .pt b11 [.int .i64 0, .int .i64 0, .slice none 0 0, .slice none 0 0] 46, .ow (.slice p3 s.tests.length q3) 78 2 s.tests.length (spC s.tests), .ow (.slice r3 s.rifles.length z3) 3 1 s.rifles.length (ints s.rifles), .pt b12 [.int .i64 0, .int .i64 0, .slice none 0 0, .slice none 0 0] 46]) ?_ (fun hS1_3_6_7 => ?_)
    · rintro ⟨p1, q1, r1, z1, p3, q3, r3, z3, b11, b12, _⟩
      refine qt_alt ?_ ?_
      · skip
        refine qt_seg (by repeat (first | exact PickL.nil | (apply PickL.cons; rfl))) fun K1 hK1 => ?_
        (refine qf_loadABa tabOk rfl rfl rfl ?_)
        refine qf_call (β := Value × Value) tabOk [] _ M0 rfl rfl rfl rfl (Sp.refl _) (fun _ h => h.elim) (fun w' hs => clone7_ca w' 0 w'.heap.size s _ _ ⟨own_rdS (hs.mem (c := .ow (.slice ta s.tests.length tc) 78 2 s.tests.length (spC s.tests)) (by repeat constructor)) rfl, own_rdI (hs.mem (c := .ow (.slice (some ⟨ra, 0, none⟩) s.rifles.length rc) 3 1 s.rifles.length (ints s.rifles)) (by repeat constructor)) rfl⟩ (by omega) (by omega)) ?_
        rintro ⟨u5, v5⟩ _ rfl
        dsimp only [List.cons_append, List.nil_append]
        refine qf_fact (fun w hs => hs.slice2 (v := u5) (by repeat constructor)) ?_
        rintro ⟨p5, q5, rfl⟩
        refine qf_fact (fun w hs => hs.slice2 (v := v5) (by repeat constructor)) ?_
        rintro ⟨r5, z5, rfl⟩
        (refine qf_nil ?_)
        exact hK1 _ _ (hS1_3_5_6_7 ⟨p1, q1, r1, z1, p3, q3, r3, z3, p5, q5, r5, z5, b11, b12, ()⟩ _ _ ⟨rfl, rfl, rfl, rfl, rfl, rfl, rfl, rfl, rfl, trivial⟩ (by repeat constructor))
      · skip
        refine qt_seg (by repeat (first | exact PickL.nil | (apply PickL.cons; rfl))) fun K1 hK1 => ?_
        skip
        refine qf_alloc zero46 rfl (fun b13 => ?_)
        (refine qf_nil ?_)
        exact hK1 _ _ (hS1_3_6_7_8 ⟨p1, q1, r1, z1, p3, q3, r3, z3, b11, b12, b13, ()⟩ _ _ ⟨rfl, rfl, rfl, rfl, rfl, rfl, rfl, rfl, rfl, trivial⟩ (by repeat constructor))
    refine qt_let (σ := Option Addr × Nat × Option Addr × Nat × Option Addr × Nat × Option Addr × Nat × Nat × Nat × Unit) (tLwD_31c739e) (fun ⟨p1, q1, r1, z1, p3, q3, r3, z3, b11, b13, ()⟩ => [(2, .int .u8 a2), (7, .pointer (some ⟨b7, 0, none⟩)), (8, .int .i64 o), (10, .pointer (some ⟨b10, 0, none⟩)), (55, .agg (scC s (.slice p1 s.tests.length q1) (.slice r1 s.rifles.length z1)).toArray), (11, .pointer (some ⟨b11, 0, none⟩)), (57, .agg (scC s (.slice p3 s.tests.length q3) (.slice r3 s.rifles.length z3)).toArray), (13, .pointer (some ⟨b13, 0, none⟩))]) (fun ⟨p1, q1, r1, z1, p3, q3, r3, z3, b11, b13, ()⟩ => [.ow (.slice p1 s.tests.length q1) 78 2 s.tests.length (spC s.tests), .ow (.slice r1 s.rifles.length z1) 3 1 s.rifles.length (ints s.rifles), .pt b11 [.int .i64 0, .int .i64 0, .slice none 0 0, .slice none 0 0] 46, .ow (.slice p3 s.tests.length q3) 78 2 s.tests.length (spC s.tests), .ow (.slice r3 s.rifles.length z3) 3 1 s.rifles.length (ints s.rifles), .pt b13 [.int .i64 0, .int .i64 0, .slice none 0 0, .slice none 0 0] 46]) ?_ (fun hS1_3_6_8 => ?_)
    · rintro ⟨p1, q1, r1, z1, p3, q3, r3, z3, b11, b13, _⟩
      refine qt_alt ?_ ?_
      · skip
        refine qt_seg (by repeat (first | exact PickL.nil | (apply PickL.cons; rfl))) fun K1 hK1 => ?_
        (refine qf_loadABa tabOk rfl rfl rfl ?_)
        refine qf_call (β := Value × Value) tabOk [] _ M0 rfl rfl rfl rfl (Sp.refl _) (fun _ h => h.elim) (fun w' hs => clone7_ca w' 0 w'.heap.size s _ _ ⟨own_rdS (hs.mem (c := .ow (.slice ta s.tests.length tc) 78 2 s.tests.length (spC s.tests)) (by repeat constructor)) rfl, own_rdI (hs.mem (c := .ow (.slice (some ⟨ra, 0, none⟩) s.rifles.length rc) 3 1 s.rifles.length (ints s.rifles)) (by repeat constructor)) rfl⟩ (by omega) (by omega)) ?_
        rintro ⟨u5, v5⟩ _ rfl
        dsimp only [List.cons_append, List.nil_append]
        refine qf_fact (fun w hs => hs.slice2 (v := u5) (by repeat constructor)) ?_
        rintro ⟨p5, q5, rfl⟩
        refine qf_fact (fun w hs => hs.slice2 (v := v5) (by repeat constructor)) ?_
        rintro ⟨r5, z5, rfl⟩
        (refine qf_nil ?_)
        exact hK1 _ _ (hS1_3_5_6_8 ⟨p1, q1, r1, z1, p3, q3, r3, z3, p5, q5, r5, z5, b11, b13, ()⟩ _ _ ⟨rfl, rfl, rfl, rfl, rfl, rfl, rfl, rfl, rfl, trivial⟩ (by repeat constructor))
      · skip
        refine qt_seg (by repeat (first | exact PickL.nil | (apply PickL.cons; rfl))) fun K1 hK1 => ?_
        skip
        refine qf_alloc zero46 rfl (fun b12 => ?_)
        (refine qf_nil ?_)
        exact hK1 _ _ (hS1_3_6_7_8 ⟨p1, q1, r1, z1, p3, q3, r3, z3, b11, b12, b13, ()⟩ _ _ ⟨rfl, rfl, rfl, rfl, rfl, rfl, rfl, rfl, rfl, trivial⟩ (by repeat constructor))
    refine qt_let (σ := Option Addr × Nat × Option Addr × Nat × Option Addr × Nat × Option Addr × Nat × Nat × Nat × Unit) (tLwD_6bbd62e) (fun ⟨p1, q1, r1, z1, p3, q3, r3, z3, b12, b13, ()⟩ => [(2, .int .u8 a2), (7, .pointer (some ⟨b7, 0, none⟩)), (8, .int .i64 o), (10, .pointer (some ⟨b10, 0, none⟩)), (55, .agg (scC s (.slice p1 s.tests.length q1) (.slice r1 s.rifles.length z1)).toArray), (57, .agg (scC s (.slice p3 s.tests.length q3) (.slice r3 s.rifles.length z3)).toArray), (12, .pointer (some ⟨b12, 0, none⟩)), (13, .pointer (some ⟨b13, 0, none⟩))]) (fun ⟨p1, q1, r1, z1, p3, q3, r3, z3, b12, b13, ()⟩ => [.ow (.slice p1 s.tests.length q1) 78 2 s.tests.length (spC s.tests), .ow (.slice r1 s.rifles.length z1) 3 1 s.rifles.length (ints s.rifles), .ow (.slice p3 s.tests.length q3) 78 2 s.tests.length (spC s.tests), .ow (.slice r3 s.rifles.length z3) 3 1 s.rifles.length (ints s.rifles), .pt b12 [.int .i64 0, .int .i64 0, .slice none 0 0, .slice none 0 0] 46, .pt b13 [.int .i64 0, .int .i64 0, .slice none 0 0, .slice none 0 0] 46]) ?_ (fun hS1_3_7_8 => ?_)
    · rintro ⟨p1, q1, r1, z1, p3, q3, r3, z3, b12, b13, _⟩
      refine qt_alt ?_ ?_
      · skip
        refine qt_seg (by repeat (first | exact PickL.nil | (apply PickL.cons; rfl))) fun K1 hK1 => ?_
        (refine qf_loadABa tabOk rfl rfl rfl ?_)
        refine qf_call (β := Value × Value) tabOk [] _ M0 rfl rfl rfl rfl (Sp.refl _) (fun _ h => h.elim) (fun w' hs => clone7_ca w' 0 w'.heap.size s _ _ ⟨own_rdS (hs.mem (c := .ow (.slice ta s.tests.length tc) 78 2 s.tests.length (spC s.tests)) (by repeat constructor)) rfl, own_rdI (hs.mem (c := .ow (.slice (some ⟨ra, 0, none⟩) s.rifles.length rc) 3 1 s.rifles.length (ints s.rifles)) (by repeat constructor)) rfl⟩ (by omega) (by omega)) ?_
        rintro ⟨u5, v5⟩ _ rfl
        dsimp only [List.cons_append, List.nil_append]
        refine qf_fact (fun w hs => hs.slice2 (v := u5) (by repeat constructor)) ?_
        rintro ⟨p5, q5, rfl⟩
        refine qf_fact (fun w hs => hs.slice2 (v := v5) (by repeat constructor)) ?_
        rintro ⟨r5, z5, rfl⟩
        (refine qf_nil ?_)
        exact hK1 _ _ (hS1_3_5_7_8 ⟨p1, q1, r1, z1, p3, q3, r3, z3, p5, q5, r5, z5, b12, b13, ()⟩ _ _ ⟨rfl, rfl, rfl, rfl, rfl, rfl, rfl, rfl, rfl, trivial⟩ (by repeat constructor))
      · skip
        refine qt_seg (by repeat (first | exact PickL.nil | (apply PickL.cons; rfl))) fun K1 hK1 => ?_
        skip
        refine qf_alloc zero46 rfl (fun b11 => ?_)
        (refine qf_nil ?_)
        exact hK1 _ _ (hS1_3_6_7_8 ⟨p1, q1, r1, z1, p3, q3, r3, z3, b11, b12, b13, ()⟩ _ _ ⟨rfl, rfl, rfl, rfl, rfl, rfl, rfl, rfl, rfl, trivial⟩ (by repeat constructor))
    refine qt_let (σ := Option Addr × Nat × Option Addr × Nat × Nat × Nat × Nat × Unit) (tLwD_a76512f) (fun ⟨p1, q1, r1, z1, b11, b12, b13, ()⟩ => [(2, .int .u8 a2), (7, .pointer (some ⟨b7, 0, none⟩)), (8, .int .i64 o), (10, .pointer (some ⟨b10, 0, none⟩)), (55, .agg (scC s (.slice p1 s.tests.length q1) (.slice r1 s.rifles.length z1)).toArray), (11, .pointer (some ⟨b11, 0, none⟩)), (12, .pointer (some ⟨b12, 0, none⟩)), (13, .pointer (some ⟨b13, 0, none⟩))]) (fun ⟨p1, q1, r1, z1, b11, b12, b13, ()⟩ => [.ow (.slice p1 s.tests.length q1) 78 2 s.tests.length (spC s.tests), .ow (.slice r1 s.rifles.length z1) 3 1 s.rifles.length (ints s.rifles), .pt b11 [.int .i64 0, .int .i64 0, .slice none 0 0, .slice none 0 0] 46, .pt b12 [.int .i64 0, .int .i64 0, .slice none 0 0, .slice none 0 0] 46, .pt b13 [.int .i64 0, .int .i64 0, .slice none 0 0, .slice none 0 0] 46]) ?_ (fun hS1_6_7_8 => ?_)
    · rintro ⟨p1, q1, r1, z1, b11, b12, b13, _⟩
      refine qt_seg (by repeat (first | exact PickL.nil | (apply PickL.cons; rfl))) fun K1 hK1 => ?_
      (refine qf_loadABa tabOk rfl rfl rfl ?_)
      refine qf_call (β := Value × Value) tabOk [] _ M0 rfl rfl rfl rfl (Sp.refl _) (fun _ h => h.elim) (fun w' hs => clone7_ca w' 0 w'.heap.size s _ _ ⟨own_rdS (hs.mem (c := .ow (.slice ta s.tests.length tc) 78 2 s.tests.length (spC s.tests)) (by repeat constructor)) rfl, own_rdI (hs.mem (c := .ow (.slice (some ⟨ra, 0, none⟩) s.rifles.length rc) 3 1 s.rifles.length (ints s.rifles)) (by repeat constructor)) rfl⟩ (by omega) (by omega)) ?_
      rintro ⟨u3, v3⟩ _ rfl
      dsimp only [List.cons_append, List.nil_append]
      refine qf_fact (fun w hs => hs.slice2 (v := u3) (by repeat constructor)) ?_
      rintro ⟨p3, q3, rfl⟩
      refine qf_fact (fun w hs => hs.slice2 (v := v3) (by repeat constructor)) ?_
      rintro ⟨r3, z3, rfl⟩
      (refine qf_nil ?_)
      exact hK1 _ _ (hS1_3_6_7_8 ⟨p1, q1, r1, z1, p3, q3, r3, z3, b11, b12, b13, ()⟩ _ _ ⟨rfl, rfl, rfl, rfl, rfl, rfl, rfl, rfl, rfl, trivial⟩ (by repeat constructor))
    refine qt_let (σ := Option Addr × Nat × Option Addr × Nat × Option Addr × Nat × Option Addr × Nat × Option Addr × Nat × Option Addr × Nat × Unit) (tLwD_9513658) (fun ⟨p1, q1, r1, z1, p3, q3, r3, z3, p5, q5, r5, z5, ()⟩ => [(2, .int .u8 a2), (7, .pointer (some ⟨b7, 0, none⟩)), (8, .int .i64 o), (10, .pointer (some ⟨b10, 0, none⟩)), (55, .agg (scC s (.slice p1 s.tests.length q1) (.slice r1 s.rifles.length z1)).toArray), (57, .agg (scC s (.slice p3 s.tests.length q3) (.slice r3 s.rifles.length z3)).toArray), (59, .agg (scC s (.slice p5 s.tests.length q5) (.slice r5 s.rifles.length z5)).toArray)]) (fun ⟨p1, q1, r1, z1, p3, q3, r3, z3, p5, q5, r5, z5, ()⟩ => [.ow (.slice p1 s.tests.length q1) 78 2 s.tests.length (spC s.tests), .ow (.slice r1 s.rifles.length z1) 3 1 s.rifles.length (ints s.rifles), .ow (.slice p3 s.tests.length q3) 78 2 s.tests.length (spC s.tests), .ow (.slice r3 s.rifles.length z3) 3 1 s.rifles.length (ints s.rifles), .ow (.slice p5 s.tests.length q5) 78 2 s.tests.length (spC s.tests), .ow (.slice r5 s.rifles.length z5) 3 1 s.rifles.length (ints s.rifles)]) ?_ (fun hS1_3_5 => ?_)
    · rintro ⟨p1, q1, r1, z1, p3, q3, r3, z3, p5, q5, r5, z5, _⟩
      refine qt_alt ?_ (qt_alt ?_ ?_)
      · skip
        refine qt_seg (by repeat (first | exact PickL.nil | (apply PickL.cons; rfl))) fun K1 hK1 => ?_
        skip
        refine qf_alloc zero46 rfl (fun b11 => ?_)
        (refine qf_nil ?_)
        exact hK1 _ _ (hS1_3_5_6 ⟨p1, q1, r1, z1, p3, q3, r3, z3, p5, q5, r5, z5, b11, ()⟩ _ _ ⟨rfl, rfl, rfl, rfl, rfl, rfl, rfl, rfl, trivial⟩ (by repeat constructor))
      · skip
        refine qt_seg (by repeat (first | exact PickL.nil | (apply PickL.cons; rfl))) fun K1 hK1 => ?_
        skip
        refine qf_alloc zero46 rfl (fun b12 => ?_)
        (refine qf_nil ?_)
        exact hK1 _ _ (hS1_3_5_7 ⟨p1, q1, r1, z1, p3, q3, r3, z3, p5, q5, r5, z5, b12, ()⟩ _ _ ⟨rfl, rfl, rfl, rfl, rfl, rfl, rfl, rfl, trivial⟩ (by repeat constructor))
      · skip
        refine qt_seg (by repeat (first | exact PickL.nil | (apply PickL.cons; rfl))) fun K1 hK1 => ?_
        skip
        refine qf_alloc zero46 rfl (fun b13 => ?_)
        (refine qf_nil ?_)
        exact hK1 _ _ (hS1_3_5_8 ⟨p1, q1, r1, z1, p3, q3, r3, z3, p5, q5, r5, z5, b13, ()⟩ _ _ ⟨rfl, rfl, rfl, rfl, rfl, rfl, rfl, rfl, trivial⟩ (by repeat constructor))
    refine qt_let (σ := Option Addr × Nat × Option Addr × Nat × Option Addr × Nat × Option Addr × Nat × Nat × Unit) (tLwD_5a1af78) (fun ⟨p1, q1, r1, z1, p3, q3, r3, z3, b11, ()⟩ => [(2, .int .u8 a2), (7, .pointer (some ⟨b7, 0, none⟩)), (8, .int .i64 o), (10, .pointer (some ⟨b10, 0, none⟩)), (55, .agg (scC s (.slice p1 s.tests.length q1) (.slice r1 s.rifles.length z1)).toArray), (11, .pointer (some ⟨b11, 0, none⟩)), (57, .agg (scC s (.slice p3 s.tests.length q3) (.slice r3 s.rifles.length z3)).toArray)]) (fun ⟨p1, q1, r1, z1, p3, q3, r3, z3, b11, ()⟩ => [.ow (.slice p1 s.tests.length q1) 78 2 s.tests.length (spC s.tests), .ow (.slice r1 s.rifles.length z1) 3 1 s.rifles.length (ints s.rifles), .pt b11 [.int .i64 0, .int .i64 0, .slice none 0 0, .slice none 0 0] 46, .ow (.slice p3 s.tests.length q3) 78 2 s.tests.length (spC s.tests), .ow (.slice r3 s.rifles.length z3) 3 1 s.rifles.length (ints s.rifles)]) ?_ (fun hS1_3_6 => ?_)
    · rintro ⟨p1, q1, r1, z1, p3, q3, r3, z3, b11, _⟩
      refine qt_alt ?_ (qt_alt ?_ ?_)
      · skip
        refine qt_seg (by repeat (first | exact PickL.nil | (apply PickL.cons; rfl))) fun K1 hK1 => ?_
        (refine qf_loadABa tabOk rfl rfl rfl ?_)
        refine qf_call (β := Value × Value) tabOk [] _ M0 rfl rfl rfl rfl (Sp.refl _) (fun _ h => h.elim) (fun w' hs => clone7_ca w' 0 w'.heap.size s _ _ ⟨own_rdS (hs.mem (c := .ow (.slice ta s.tests.length tc) 78 2 s.tests.length (spC s.tests)) (by repeat constructor)) rfl, own_rdI (hs.mem (c := .ow (.slice (some ⟨ra, 0, none⟩) s.rifles.length rc) 3 1 s.rifles.length (ints s.rifles)) (by repeat constructor)) rfl⟩ (by omega) (by omega)) ?_
        rintro ⟨u5, v5⟩ _ rfl
        dsimp only [List.cons_append, List.nil_append]
        refine qf_fact (fun w hs => hs.slice2 (v := u5) (by repeat constructor)) ?_
        rintro ⟨p5, q5, rfl⟩
        refine qf_fact (fun w hs => hs.slice2 (v := v5) (by repeat constructor)) ?_
        rintro ⟨r5, z5, rfl⟩
        (refine qf_nil ?_)
        exact hK1 _ _ (hS1_3_5_6 ⟨p1, q1, r1, z1, p3, q3, r3, z3, p5, q5, r5, z5, b11, ()⟩ _ _ ⟨rfl, rfl, rfl, rfl, rfl, rfl, rfl, rfl, trivial⟩ (by repeat constructor))
      · skip
        refine qt_seg (by repeat (first | exact PickL.nil | (apply PickL.cons; rfl))) fun K1 hK1 => ?_
        skip
        refine qf_alloc zero46 rfl (fun b12 => ?_)
        (refine qf_nil ?_)
        exact hK1 _ _ (hS1_3_6_7 ⟨p1, q1, r1, z1, p3, q3, r3, z3, b11, b12, ()⟩ _ _ ⟨rfl, rfl, rfl, rfl, rfl, rfl, rfl, rfl, trivial⟩ (by repeat constructor))
      · skip
        refine qt_seg (by repeat (first | exact PickL.nil | (apply PickL.cons; rfl))) fun K1 hK1 => ?_
        skip
        refine qf_alloc zero46 rfl (fun b13 => ?_)
        (refine qf_nil ?_)
        exact hK1 _ _ (hS1_3_6_8 ⟨p1, q1, r1, z1, p3, q3, r3, z3, b11, b13, ()⟩ _ _ ⟨rfl, rfl, rfl, rfl, rfl, rfl, rfl, rfl, trivial⟩ (by repeat constructor))
    refine qt_let (σ := Option Addr × Nat × Option Addr × Nat × Option Addr × Nat × Option Addr × Nat × Nat × Unit) (tLwD_d69d1ab) (fun ⟨p1, q1, r1, z1, p3, q3, r3, z3, b12, ()⟩ => [(2, .int .u8 a2), (7, .pointer (some ⟨b7, 0, none⟩)), (8, .int .i64 o), (10, .pointer (some ⟨b10, 0, none⟩)), (55, .agg (scC s (.slice p1 s.tests.length q1) (.slice r1 s.rifles.length z1)).toArray), (57, .agg (scC s (.slice p3 s.tests.length q3) (.slice r3 s.rifles.length z3)).toArray), (12, .pointer (some ⟨b12, 0, none⟩))]) (fun ⟨p1, q1, r1, z1, p3, q3, r3, z3, b12, ()⟩ => [.ow (.slice p1 s.tests.length q1) 78 2 s.tests.length (spC s.tests), .ow (.slice r1 s.rifles.length z1) 3 1 s.rifles.length (ints s.rifles), .ow (.slice p3 s.tests.length q3) 78 2 s.tests.length (spC s.tests), .ow (.slice r3 s.rifles.length z3) 3 1 s.rifles.length (ints s.rifles), .pt b12 [.int .i64 0, .int .i64 0, .slice none 0 0, .slice none 0 0] 46]) ?_ (fun hS1_3_7 => ?_)
    · rintro ⟨p1, q1, r1, z1, p3, q3, r3, z3, b12, _⟩
      refine qt_alt ?_ (qt_alt ?_ ?_)
      · skip
        refine qt_seg (by repeat (first | exact PickL.nil | (apply PickL.cons; rfl))) fun K1 hK1 => ?_
        (refine qf_loadABa tabOk rfl rfl rfl ?_)
        refine qf_call (β := Value × Value) tabOk [] _ M0 rfl rfl rfl rfl (Sp.refl _) (fun _ h => h.elim) (fun w' hs => clone7_ca w' 0 w'.heap.size s _ _ ⟨own_rdS (hs.mem (c := .ow (.slice ta s.tests.length tc) 78 2 s.tests.length (spC s.tests)) (by repeat constructor)) rfl, own_rdI (hs.mem (c := .ow (.slice (some ⟨ra, 0, none⟩) s.rifles.length rc) 3 1 s.rifles.length (ints s.rifles)) (by repeat constructor)) rfl⟩ (by omega) (by omega)) ?_
        rintro ⟨u5, v5⟩ _ rfl
        dsimp only [List.cons_append, List.nil_append]
        refine qf_fact (fun w hs => hs.slice2 (v := u5) (by repeat constructor)) ?_
        rintro ⟨p5, q5, rfl⟩
        refine qf_fact (fun w hs => hs.slice2 (v := v5) (by repeat constructor)) ?_
        rintro ⟨r5, z5, rfl⟩
        (refine qf_nil ?_)
        exact hK1 _ _ (hS1_3_5_7 ⟨p1, q1, r1, z1, p3, q3, r3, z3, p5, q5, r5, z5, b12, ()⟩ _ _ ⟨rfl, rfl, rfl, rfl, rfl, rfl, rfl, rfl, trivial⟩ (by repeat constructor))
      · skip
        refine qt_seg (by repeat (first | exact PickL.nil | (apply PickL.cons; rfl))) fun K1 hK1 => ?_
        skip
        refine qf_alloc zero46 rfl (fun b11 => ?_)
        (refine qf_nil ?_)
        exact hK1 _ _ (hS1_3_6_7 ⟨p1, q1, r1, z1, p3, q3, r3, z3, b11, b12, ()⟩ _ _ ⟨rfl, rfl, rfl, rfl, rfl, rfl, rfl, rfl, trivial⟩ (by repeat constructor))
      · skip
        refine qt_seg (by repeat (first | exact PickL.nil | (apply PickL.cons; rfl))) fun K1 hK1 => ?_
        skip
        refine qf_alloc zero46 rfl (fun b13 => ?_)
        (refine qf_nil ?_)
        exact hK1 _ _ (hS1_3_7_8 ⟨p1, q1, r1, z1, p3, q3, r3, z3, b12, b13, ()⟩ _ _ ⟨rfl, rfl, rfl, rfl, rfl, rfl, rfl, rfl, trivial⟩ (by repeat constructor))
    refine qt_let (σ := Option Addr × Nat × Option Addr × Nat × Option Addr × Nat × Option Addr × Nat × Nat × Unit) (tLwD_2389ef3) (fun ⟨p1, q1, r1, z1, p3, q3, r3, z3, b13, ()⟩ => [(2, .int .u8 a2), (7, .pointer (some ⟨b7, 0, none⟩)), (8, .int .i64 o), (10, .pointer (some ⟨b10, 0, none⟩)), (55, .agg (scC s (.slice p1 s.tests.length q1) (.slice r1 s.rifles.length z1)).toArray), (57, .agg (scC s (.slice p3 s.tests.length q3) (.slice r3 s.rifles.length z3)).toArray), (13, .pointer (some ⟨b13, 0, none⟩))]) (fun ⟨p1, q1, r1, z1, p3, q3, r3, z3, b13, ()⟩ => [.ow (.slice p1 s.tests.length q1) 78 2 s.tests.length (spC s.tests), .ow (.slice r1 s.rifles.length z1) 3 1 s.rifles.length (ints s.rifles), .ow (.slice p3 s.tests.length q3) 78 2 s.tests.length (spC s.tests), .ow (.slice r3 s.rifles.length z3) 3 1 s.rifles.length (ints s.rifles), .pt b13 [.int .i64 0, .int .i64 0, .slice none 0 0, .slice none 0 0] 46]) ?_ (fun hS1_3_8 => ?_)
    · rintro ⟨p1, q1, r1, z1, p3, q3, r3, z3, b13, _⟩
      refine qt_alt ?_ (qt_alt ?_ ?_)
      · skip
        refine qt_seg (by repeat (first | exact PickL.nil | (apply PickL.cons; rfl))) fun K1 hK1 => ?_
        (refine qf_loadABa tabOk rfl rfl rfl ?_)
        refine qf_call (β := Value × Value) tabOk [] _ M0 rfl rfl rfl rfl (Sp.refl _) (fun _ h => h.elim) (fun w' hs => clone7_ca w' 0 w'.heap.size s _ _ ⟨own_rdS (hs.mem (c := .ow (.slice ta s.tests.length tc) 78 2 s.tests.length (spC s.tests)) (by repeat constructor)) rfl, own_rdI (hs.mem (c := .ow (.slice (some ⟨ra, 0, none⟩) s.rifles.length rc) 3 1 s.rifles.length (ints s.rifles)) (by repeat constructor)) rfl⟩ (by omega) (by omega)) ?_
        rintro ⟨u5, v5⟩ _ rfl
        dsimp only [List.cons_append, List.nil_append]
        refine qf_fact (fun w hs => hs.slice2 (v := u5) (by repeat constructor)) ?_
        rintro ⟨p5, q5, rfl⟩
        refine qf_fact (fun w hs => hs.slice2 (v := v5) (by repeat constructor)) ?_
        rintro ⟨r5, z5, rfl⟩
        (refine qf_nil ?_)
        exact hK1 _ _ (hS1_3_5_8 ⟨p1, q1, r1, z1, p3, q3, r3, z3, p5, q5, r5, z5, b13, ()⟩ _ _ ⟨rfl, rfl, rfl, rfl, rfl, rfl, rfl, rfl, trivial⟩ (by repeat constructor))
      · skip
        refine qt_seg (by repeat (first | exact PickL.nil | (apply PickL.cons; rfl))) fun K1 hK1 => ?_
        skip
        refine qf_alloc zero46 rfl (fun b11 => ?_)
        (refine qf_nil ?_)
        exact hK1 _ _ (hS1_3_6_8 ⟨p1, q1, r1, z1, p3, q3, r3, z3, b11, b13, ()⟩ _ _ ⟨rfl, rfl, rfl, rfl, rfl, rfl, rfl, rfl, trivial⟩ (by repeat constructor))
      · skip
        refine qt_seg (by repeat (first | exact PickL.nil | (apply PickL.cons; rfl))) fun K1 hK1 => ?_
        skip
        refine qf_alloc zero46 rfl (fun b12 => ?_)
        (refine qf_nil ?_)
        exact hK1 _ _ (hS1_3_7_8 ⟨p1, q1, r1, z1, p3, q3, r3, z3, b12, b13, ()⟩ _ _ ⟨rfl, rfl, rfl, rfl, rfl, rfl, rfl, rfl, trivial⟩ (by repeat constructor))
    refine qt_let (σ := Option Addr × Nat × Option Addr × Nat × Nat × Nat × Unit) (tLwD_3a83534) (fun ⟨p1, q1, r1, z1, b11, b12, ()⟩ => [(2, .int .u8 a2), (7, .pointer (some ⟨b7, 0, none⟩)), (8, .int .i64 o), (10, .pointer (some ⟨b10, 0, none⟩)), (55, .agg (scC s (.slice p1 s.tests.length q1) (.slice r1 s.rifles.length z1)).toArray), (11, .pointer (some ⟨b11, 0, none⟩)), (12, .pointer (some ⟨b12, 0, none⟩))]) (fun ⟨p1, q1, r1, z1, b11, b12, ()⟩ => [.ow (.slice p1 s.tests.length q1) 78 2 s.tests.length (spC s.tests), .ow (.slice r1 s.rifles.length z1) 3 1 s.rifles.length (ints s.rifles), .pt b11 [.int .i64 0, .int .i64 0, .slice none 0 0, .slice none 0 0] 46, .pt b12 [.int .i64 0, .int .i64 0, .slice none 0 0, .slice none 0 0] 46]) ?_ (fun hS1_6_7 => ?_)
    · rintro ⟨p1, q1, r1, z1, b11, b12, _⟩
      refine qt_alt ?_ ?_
      · skip
        refine qt_seg (by repeat (first | exact PickL.nil | (apply PickL.cons; rfl))) fun K1 hK1 => ?_
        (refine qf_loadABa tabOk rfl rfl rfl ?_)
        refine qf_call (β := Value × Value) tabOk [] _ M0 rfl rfl rfl rfl (Sp.refl _) (fun _ h => h.elim) (fun w' hs => clone7_ca w' 0 w'.heap.size s _ _ ⟨own_rdS (hs.mem (c := .ow (.slice ta s.tests.length tc) 78 2 s.tests.length (spC s.tests)) (by repeat constructor)) rfl, own_rdI (hs.mem (c := .ow (.slice (some ⟨ra, 0, none⟩) s.rifles.length rc) 3 1 s.rifles.length (ints s.rifles)) (by repeat constructor)) rfl⟩ (by omega) (by omega)) ?_
        rintro ⟨u3, v3⟩ _ rfl
        dsimp only [List.cons_append, List.nil_append]
        refine qf_fact (fun w hs => hs.slice2 (v := u3) (by repeat constructor)) ?_
        rintro ⟨p3, q3, rfl⟩
        refine qf_fact (fun w hs => hs.slice2 (v := v3) (by repeat constructor)) ?_
        rintro ⟨r3, z3, rfl⟩
        (refine qf_nil ?_)
        exact hK1 _ _ (hS1_3_6_7 ⟨p1, q1, r1, z1, p3, q3, r3, z3, b11, b12, ()⟩ _ _ ⟨rfl, rfl, rfl, rfl, rfl, rfl, rfl, rfl, trivial⟩ (by repeat constructor))
      · skip
        refine qt_seg (by repeat (first | exact PickL.nil | (apply PickL.cons; rfl))) fun K1 hK1 => ?_
        skip
        refine qf_alloc zero46 rfl (fun b13 => ?_)
        (refine qf_nil ?_)
        exact hK1 _ _ (hS1_6_7_8 ⟨p1, q1, r1, z1, b11, b12, b13, ()⟩ _ _ ⟨rfl, rfl, rfl, rfl, rfl, rfl, rfl, rfl, trivial⟩ (by repeat constructor))
    refine qt_let (σ := Option Addr × Nat × Option Addr × Nat × Nat × Nat × Unit) (tLwD_5d340b5) (fun ⟨p1, q1, r1, z1, b11, b13, ()⟩ => [(2, .int .u8 a2), (7, .pointer (some ⟨b7, 0, none⟩)), (8, .int .i64 o), (10, .pointer (some ⟨b10, 0, none⟩)), (55, .agg (scC s (.slice p1 s.tests.length q1) (.slice r1 s.rifles.length z1)).toArray), (11, .pointer (some ⟨b11, 0, none⟩)), (13, .pointer (some ⟨b13, 0, none⟩))]) (fun ⟨p1, q1, r1, z1, b11, b13, ()⟩ => [.ow (.slice p1 s.tests.length q1) 78 2 s.tests.length (spC s.tests), .ow (.slice r1 s.rifles.length z1) 3 1 s.rifles.length (ints s.rifles), .pt b11 [.int .i64 0, .int .i64 0, .slice none 0 0, .slice none 0 0] 46, .pt b13 [.int .i64 0, .int .i64 0, .slice none 0 0, .slice none 0 0] 46]) ?_ (fun hS1_6_8 => ?_)
    · rintro ⟨p1, q1, r1, z1, b11, b13, _⟩
      refine qt_alt ?_ ?_
      · skip
        refine qt_seg (by repeat (first | exact PickL.nil | (apply PickL.cons; rfl))) fun K1 hK1 => ?_
        (refine qf_loadABa tabOk rfl rfl rfl ?_)
        refine qf_call (β := Value × Value) tabOk [] _ M0 rfl rfl rfl rfl (Sp.refl _) (fun _ h => h.elim) (fun w' hs => clone7_ca w' 0 w'.heap.size s _ _ ⟨own_rdS (hs.mem (c := .ow (.slice ta s.tests.length tc) 78 2 s.tests.length (spC s.tests)) (by repeat constructor)) rfl, own_rdI (hs.mem (c := .ow (.slice (some ⟨ra, 0, none⟩) s.rifles.length rc) 3 1 s.rifles.length (ints s.rifles)) (by repeat constructor)) rfl⟩ (by omega) (by omega)) ?_
        rintro ⟨u3, v3⟩ _ rfl
        dsimp only [List.cons_append, List.nil_append]
        refine qf_fact (fun w hs => hs.slice2 (v := u3) (by repeat constructor)) ?_
        rintro ⟨p3, q3, rfl⟩
        refine qf_fact (fun w hs => hs.slice2 (v := v3) (by repeat constructor)) ?_
        rintro ⟨r3, z3, rfl⟩
        (refine qf_nil ?_)
        exact hK1 _ _ (hS1_3_6_8 ⟨p1, q1, r1, z1, p3, q3, r3, z3, b11, b13, ()⟩ _ _ ⟨rfl, rfl, rfl, rfl, rfl, rfl, rfl, rfl, trivial⟩ (by repeat constructor))
      · skip
        refine qt_seg (by repeat (first | exact PickL.nil | (apply PickL.cons; rfl))) fun K1 hK1 => ?_
        skip
        refine qf_alloc zero46 rfl (fun b12 => ?_)
        (refine qf_nil ?_)
        exact hK1 _ _ (hS1_6_7_8 ⟨p1, q1, r1, z1, b11, b12, b13, ()⟩ _ _ ⟨rfl, rfl, rfl, rfl, rfl, rfl, rfl, rfl, trivial⟩ (by repeat constructor))
    refine qt_let (σ := Option Addr × Nat × Option Addr × Nat × Nat × Nat × Unit) (tLwD_1dccc0a) (fun ⟨p1, q1, r1, z1, b12, b13, ()⟩ => [(2, .int .u8 a2), (7, .pointer (some ⟨b7, 0, none⟩)), (8, .int .i64 o), (10, .pointer (some ⟨b10, 0, none⟩)), (55, .agg (scC s (.slice p1 s.tests.length q1) (.slice r1 s.rifles.length z1)).toArray), (12, .pointer (some ⟨b12, 0, none⟩)), (13, .pointer (some ⟨b13, 0, none⟩))]) (fun ⟨p1, q1, r1, z1, b12, b13, ()⟩ => [.ow (.slice p1 s.tests.length q1) 78 2 s.tests.length (spC s.tests), .ow (.slice r1 s.rifles.length z1) 3 1 s.rifles.length (ints s.rifles), .pt b12 [.int .i64 0, .int .i64 0, .slice none 0 0, .slice none 0 0] 46, .pt b13 [.int .i64 0, .int .i64 0, .slice none 0 0, .slice none 0 0] 46]) ?_ (fun hS1_7_8 => ?_)
    · rintro ⟨p1, q1, r1, z1, b12, b13, _⟩
      refine qt_alt ?_ ?_
      · skip
        refine qt_seg (by repeat (first | exact PickL.nil | (apply PickL.cons; rfl))) fun K1 hK1 => ?_
        (refine qf_loadABa tabOk rfl rfl rfl ?_)
        refine qf_call (β := Value × Value) tabOk [] _ M0 rfl rfl rfl rfl (Sp.refl _) (fun _ h => h.elim) (fun w' hs => clone7_ca w' 0 w'.heap.size s _ _ ⟨own_rdS (hs.mem (c := .ow (.slice ta s.tests.length tc) 78 2 s.tests.length (spC s.tests)) (by repeat constructor)) rfl, own_rdI (hs.mem (c := .ow (.slice (some ⟨ra, 0, none⟩) s.rifles.length rc) 3 1 s.rifles.length (ints s.rifles)) (by repeat constructor)) rfl⟩ (by omega) (by omega)) ?_
        rintro ⟨u3, v3⟩ _ rfl
        dsimp only [List.cons_append, List.nil_append]
        refine qf_fact (fun w hs => hs.slice2 (v := u3) (by repeat constructor)) ?_
        rintro ⟨p3, q3, rfl⟩
        refine qf_fact (fun w hs => hs.slice2 (v := v3) (by repeat constructor)) ?_
        rintro ⟨r3, z3, rfl⟩
        (refine qf_nil ?_)
        exact hK1 _ _ (hS1_3_7_8 ⟨p1, q1, r1, z1, p3, q3, r3, z3, b12, b13, ()⟩ _ _ ⟨rfl, rfl, rfl, rfl, rfl, rfl, rfl, rfl, trivial⟩ (by repeat constructor))
      · skip
        refine qt_seg (by repeat (first | exact PickL.nil | (apply PickL.cons; rfl))) fun K1 hK1 => ?_
        skip
        refine qf_alloc zero46 rfl (fun b11 => ?_)
        (refine qf_nil ?_)
        exact hK1 _ _ (hS1_6_7_8 ⟨p1, q1, r1, z1, b11, b12, b13, ()⟩ _ _ ⟨rfl, rfl, rfl, rfl, rfl, rfl, rfl, rfl, trivial⟩ (by repeat constructor))
    refine qt_let (σ := Nat × Nat × Nat × Unit) (tLwD_6ff872e) (fun ⟨b11, b12, b13, ()⟩ => [(2, .int .u8 a2), (7, .pointer (some ⟨b7, 0, none⟩)), (8, .int .i64 o), (10, .pointer (some ⟨b10, 0, none⟩)), (11, .pointer (some ⟨b11, 0, none⟩)), (12, .pointer (some ⟨b12, 0, none⟩)), (13, .pointer (some ⟨b13, 0, none⟩))]) (fun ⟨b11, b12, b13, ()⟩ => [.pt b11 [.int .i64 0, .int .i64 0, .slice none 0 0, .slice none 0 0] 46, .pt b12 [.int .i64 0, .int .i64 0, .slice none 0 0, .slice none 0 0] 46, .pt b13 [.int .i64 0, .int .i64 0, .slice none 0 0, .slice none 0 0] 46]) ?_ (fun hS6_7_8 => ?_)
    · rintro ⟨b11, b12, b13, _⟩
      refine qt_seg (by repeat (first | exact PickL.nil | (apply PickL.cons; rfl))) fun K1 hK1 => ?_
      (refine qf_loadABa tabOk rfl rfl rfl ?_)
      refine qf_call (β := Value × Value) tabOk [] _ M0 rfl rfl rfl rfl (Sp.refl _) (fun _ h => h.elim) (fun w' hs => clone7_ca w' 0 w'.heap.size s _ _ ⟨own_rdS (hs.mem (c := .ow (.slice ta s.tests.length tc) 78 2 s.tests.length (spC s.tests)) (by repeat constructor)) rfl, own_rdI (hs.mem (c := .ow (.slice (some ⟨ra, 0, none⟩) s.rifles.length rc) 3 1 s.rifles.length (ints s.rifles)) (by repeat constructor)) rfl⟩ (by omega) (by omega)) ?_
      rintro ⟨u1, v1⟩ _ rfl
      dsimp only [List.cons_append, List.nil_append]
      refine qf_fact (fun w hs => hs.slice2 (v := u1) (by repeat constructor)) ?_
      rintro ⟨p1, q1, rfl⟩
      refine qf_fact (fun w hs => hs.slice2 (v := v1) (by repeat constructor)) ?_
      rintro ⟨r1, z1, rfl⟩
      (refine qf_nil ?_)
      exact hK1 _ _ (hS1_6_7_8 ⟨p1, q1, r1, z1, b11, b12, b13, ()⟩ _ _ ⟨rfl, rfl, rfl, rfl, rfl, rfl, rfl, rfl, trivial⟩ (by repeat constructor))
    refine qt_let (σ := Option Addr × Nat × Option Addr × Nat × Option Addr × Nat × Option Addr × Nat × Unit) (tLwD_f81beb6) (fun ⟨p1, q1, r1, z1, p3, q3, r3, z3, ()⟩ => [(2, .int .u8 a2), (7, .pointer (some ⟨b7, 0, none⟩)), (8, .int .i64 o), (10, .pointer (some ⟨b10, 0, none⟩)), (55, .agg (scC s (.slice p1 s.tests.length q1) (.slice r1 s.rifles.length z1)).toArray), (57, .agg (scC s (.slice p3 s.tests.length q3) (.slice r3 s.rifles.length z3)).toArray)]) (fun ⟨p1, q1, r1, z1, p3, q3, r3, z3, ()⟩ => [.ow (.slice p1 s.tests.length q1) 78 2 s.tests.length (spC s.tests), .ow (.slice r1 s.rifles.length z1) 3 1 s.rifles.length (ints s.rifles), .ow (.slice p3 s.tests.length q3) 78 2 s.tests.length (spC s.tests), .ow (.slice r3 s.rifles.length z3) 3 1 s.rifles.length (ints s.rifles)]) ?_ (fun hS1_3 => ?_)
    · rintro ⟨p1, q1, r1, z1, p3, q3, r3, z3, _⟩
      refine qt_alt ?_ (qt_alt ?_ (qt_alt ?_ ?_))
      · skip
        refine qt_seg (by repeat (first | exact PickL.nil | (apply PickL.cons; rfl))) fun K1 hK1 => ?_
        (refine qf_loadABa tabOk rfl rfl rfl ?_)
        refine qf_call (β := Value × Value) tabOk [] _ M0 rfl rfl rfl rfl (Sp.refl _) (fun _ h => h.elim) (fun w' hs => clone7_ca w' 0 w'.heap.size s _ _ ⟨own_rdS (hs.mem (c := .ow (.slice ta s.tests.length tc) 78 2 s.tests.length (spC s.tests)) (by repeat constructor)) rfl, own_rdI (hs.mem (c := .ow (.slice (some ⟨ra, 0, none⟩) s.rifles.length rc) 3 1 s.rifles.length (ints s.rifles)) (by repeat constructor)) rfl⟩ (by omega) (by omega)) ?_
        rintro ⟨u5, v5⟩ _ rfl
        dsimp only [List.cons_append, List.nil_append]
        refine qf_fact (fun w hs => hs.slice2 (v := u5) (by repeat constructor)) ?_
        rintro ⟨p5, q5, rfl⟩
        refine qf_fact (fun w hs => hs.slice2 (v := v5) (by repeat constructor)) ?_
        rintro ⟨r5, z5, rfl⟩
        (refine qf_nil ?_)
        exact hK1 _ _ (hS1_3_5 ⟨p1, q1, r1, z1, p3, q3, r3, z3, p5, q5, r5, z5, ()⟩ _ _ ⟨rfl, rfl, rfl, rfl, rfl, rfl, rfl, trivial⟩ (by repeat constructor))
      · skip
        refine qt_seg (by repeat (first | exact PickL.nil | (apply PickL.cons; rfl))) fun K1 hK1 => ?_
        skip
        refine qf_alloc zero46 rfl (fun b11 => ?_)
        (refine qf_nil ?_)
        exact hK1 _ _ (hS1_3_6 ⟨p1, q1, r1, z1, p3, q3, r3, z3, b11, ()⟩ _ _ ⟨rfl, rfl, rfl, rfl, rfl, rfl, rfl, trivial⟩ (by repeat constructor))
      · skip
        refine qt_seg (by repeat (first | exact PickL.nil | (apply PickL.cons; rfl))) fun K1 hK1 => ?_
        skip
        refine qf_alloc zero46 rfl (fun b12 => ?_)
        (refine qf_nil ?_)
        exact hK1 _ _ (hS1_3_7 ⟨p1, q1, r1, z1, p3, q3, r3, z3, b12, ()⟩ _ _ ⟨rfl, rfl, rfl, rfl, rfl, rfl, rfl, trivial⟩ (by repeat constructor))
      · skip
        refine qt_seg (by repeat (first | exact PickL.nil | (apply PickL.cons; rfl))) fun K1 hK1 => ?_
        skip
        refine qf_alloc zero46 rfl (fun b13 => ?_)
        (refine qf_nil ?_)
        exact hK1 _ _ (hS1_3_8 ⟨p1, q1, r1, z1, p3, q3, r3, z3, b13, ()⟩ _ _ ⟨rfl, rfl, rfl, rfl, rfl, rfl, rfl, trivial⟩ (by repeat constructor))
    refine qt_let (σ := Option Addr × Nat × Option Addr × Nat × Nat × Unit) (tLwD_a6848e1) (fun ⟨p1, q1, r1, z1, b11, ()⟩ => [(2, .int .u8 a2), (7, .pointer (some ⟨b7, 0, none⟩)), (8, .int .i64 o), (10, .pointer (some ⟨b10, 0, none⟩)), (55, .agg (scC s (.slice p1 s.tests.length q1) (.slice r1 s.rifles.length z1)).toArray), (11, .pointer (some ⟨b11, 0, none⟩))]) (fun ⟨p1, q1, r1, z1, b11, ()⟩ => [.ow (.slice p1 s.tests.length q1) 78 2 s.tests.length (spC s.tests), .ow (.slice r1 s.rifles.length z1) 3 1 s.rifles.length (ints s.rifles), .pt b11 [.int .i64 0, .int .i64 0, .slice none 0 0, .slice none 0 0] 46]) ?_ (fun hS1_6 => ?_)
    · rintro ⟨p1, q1, r1, z1, b11, _⟩
      refine qt_alt ?_ (qt_alt ?_ ?_)
      · skip
        refine qt_seg (by repeat (first | exact PickL.nil | (apply PickL.cons; rfl))) fun K1 hK1 => ?_
        (refine qf_loadABa tabOk rfl rfl rfl ?_)
        refine qf_call (β := Value × Value) tabOk [] _ M0 rfl rfl rfl rfl (Sp.refl _) (fun _ h => h.elim) (fun w' hs => clone7_ca w' 0 w'.heap.size s _ _ ⟨own_rdS (hs.mem (c := .ow (.slice ta s.tests.length tc) 78 2 s.tests.length (spC s.tests)) (by repeat constructor)) rfl, own_rdI (hs.mem (c := .ow (.slice (some ⟨ra, 0, none⟩) s.rifles.length rc) 3 1 s.rifles.length (ints s.rifles)) (by repeat constructor)) rfl⟩ (by omega) (by omega)) ?_
        rintro ⟨u3, v3⟩ _ rfl
        dsimp only [List.cons_append, List.nil_append]
        refine qf_fact (fun w hs => hs.slice2 (v := u3) (by repeat constructor)) ?_
        rintro ⟨p3, q3, rfl⟩
        refine qf_fact (fun w hs => hs.slice2 (v := v3) (by repeat constructor)) ?_
        rintro ⟨r3, z3, rfl⟩
        (refine qf_nil ?_)
        exact hK1 _ _ (hS1_3_6 ⟨p1, q1, r1, z1, p3, q3, r3, z3, b11, ()⟩ _ _ ⟨rfl, rfl, rfl, rfl, rfl, rfl, rfl, trivial⟩ (by repeat constructor))
      · skip
        refine qt_seg (by repeat (first | exact PickL.nil | (apply PickL.cons; rfl))) fun K1 hK1 => ?_
        skip
        refine qf_alloc zero46 rfl (fun b12 => ?_)
        (refine qf_nil ?_)
        exact hK1 _ _ (hS1_6_7 ⟨p1, q1, r1, z1, b11, b12, ()⟩ _ _ ⟨rfl, rfl, rfl, rfl, rfl, rfl, rfl, trivial⟩ (by repeat constructor))
      · skip
        refine qt_seg (by repeat (first | exact PickL.nil | (apply PickL.cons; rfl))) fun K1 hK1 => ?_
        skip
        refine qf_alloc zero46 rfl (fun b13 => ?_)
        (refine qf_nil ?_)
        exact hK1 _ _ (hS1_6_8 ⟨p1, q1, r1, z1, b11, b13, ()⟩ _ _ ⟨rfl, rfl, rfl, rfl, rfl, rfl, rfl, trivial⟩ (by repeat constructor))
    refine qt_let (σ := Option Addr × Nat × Option Addr × Nat × Nat × Unit) (tLwD_cebb912) (fun ⟨p1, q1, r1, z1, b12, ()⟩ => [(2, .int .u8 a2), (7, .pointer (some ⟨b7, 0, none⟩)), (8, .int .i64 o), (10, .pointer (some ⟨b10, 0, none⟩)), (55, .agg (scC s (.slice p1 s.tests.length q1) (.slice r1 s.rifles.length z1)).toArray), (12, .pointer (some ⟨b12, 0, none⟩))]) (fun ⟨p1, q1, r1, z1, b12, ()⟩ => [.ow (.slice p1 s.tests.length q1) 78 2 s.tests.length (spC s.tests), .ow (.slice r1 s.rifles.length z1) 3 1 s.rifles.length (ints s.rifles), .pt b12 [.int .i64 0, .int .i64 0, .slice none 0 0, .slice none 0 0] 46]) ?_ (fun hS1_7 => ?_)
    · rintro ⟨p1, q1, r1, z1, b12, _⟩
      refine qt_alt ?_ (qt_alt ?_ ?_)
      · skip
        refine qt_seg (by repeat (first | exact PickL.nil | (apply PickL.cons; rfl))) fun K1 hK1 => ?_
        (refine qf_loadABa tabOk rfl rfl rfl ?_)
        refine qf_call (β := Value × Value) tabOk [] _ M0 rfl rfl rfl rfl (Sp.refl _) (fun _ h => h.elim) (fun w' hs => clone7_ca w' 0 w'.heap.size s _ _ ⟨own_rdS (hs.mem (c := .ow (.slice ta s.tests.length tc) 78 2 s.tests.length (spC s.tests)) (by repeat constructor)) rfl, own_rdI (hs.mem (c := .ow (.slice (some ⟨ra, 0, none⟩) s.rifles.length rc) 3 1 s.rifles.length (ints s.rifles)) (by repeat constructor)) rfl⟩ (by omega) (by omega)) ?_
        rintro ⟨u3, v3⟩ _ rfl
        dsimp only [List.cons_append, List.nil_append]
        refine qf_fact (fun w hs => hs.slice2 (v := u3) (by repeat constructor)) ?_
        rintro ⟨p3, q3, rfl⟩
        refine qf_fact (fun w hs => hs.slice2 (v := v3) (by repeat constructor)) ?_
        rintro ⟨r3, z3, rfl⟩
        (refine qf_nil ?_)
        exact hK1 _ _ (hS1_3_7 ⟨p1, q1, r1, z1, p3, q3, r3, z3, b12, ()⟩ _ _ ⟨rfl, rfl, rfl, rfl, rfl, rfl, rfl, trivial⟩ (by repeat constructor))
      · skip
        refine qt_seg (by repeat (first | exact PickL.nil | (apply PickL.cons; rfl))) fun K1 hK1 => ?_
        skip
        refine qf_alloc zero46 rfl (fun b11 => ?_)
        (refine qf_nil ?_)
        exact hK1 _ _ (hS1_6_7 ⟨p1, q1, r1, z1, b11, b12, ()⟩ _ _ ⟨rfl, rfl, rfl, rfl, rfl, rfl, rfl, trivial⟩ (by repeat constructor))
      · skip
        refine qt_seg (by repeat (first | exact PickL.nil | (apply PickL.cons; rfl))) fun K1 hK1 => ?_
        skip
        refine qf_alloc zero46 rfl (fun b13 => ?_)
        (refine qf_nil ?_)
        exact hK1 _ _ (hS1_7_8 ⟨p1, q1, r1, z1, b12, b13, ()⟩ _ _ ⟨rfl, rfl, rfl, rfl, rfl, rfl, rfl, trivial⟩ (by repeat constructor))
    refine qt_let (σ := Option Addr × Nat × Option Addr × Nat × Nat × Unit) (tLwD_6388bc7) (fun ⟨p1, q1, r1, z1, b13, ()⟩ => [(2, .int .u8 a2), (7, .pointer (some ⟨b7, 0, none⟩)), (8, .int .i64 o), (10, .pointer (some ⟨b10, 0, none⟩)), (55, .agg (scC s (.slice p1 s.tests.length q1) (.slice r1 s.rifles.length z1)).toArray), (13, .pointer (some ⟨b13, 0, none⟩))]) (fun ⟨p1, q1, r1, z1, b13, ()⟩ => [.ow (.slice p1 s.tests.length q1) 78 2 s.tests.length (spC s.tests), .ow (.slice r1 s.rifles.length z1) 3 1 s.rifles.length (ints s.rifles), .pt b13 [.int .i64 0, .int .i64 0, .slice none 0 0, .slice none 0 0] 46]) ?_ (fun hS1_8 => ?_)
    · rintro ⟨p1, q1, r1, z1, b13, _⟩
      refine qt_alt ?_ (qt_alt ?_ ?_)
      · skip
        refine qt_seg (by repeat (first | exact PickL.nil | (apply PickL.cons; rfl))) fun K1 hK1 => ?_
        (refine qf_loadABa tabOk rfl rfl rfl ?_)
        refine qf_call (β := Value × Value) tabOk [] _ M0 rfl rfl rfl rfl (Sp.refl _) (fun _ h => h.elim) (fun w' hs => clone7_ca w' 0 w'.heap.size s _ _ ⟨own_rdS (hs.mem (c := .ow (.slice ta s.tests.length tc) 78 2 s.tests.length (spC s.tests)) (by repeat constructor)) rfl, own_rdI (hs.mem (c := .ow (.slice (some ⟨ra, 0, none⟩) s.rifles.length rc) 3 1 s.rifles.length (ints s.rifles)) (by repeat constructor)) rfl⟩ (by omega) (by omega)) ?_
        rintro ⟨u3, v3⟩ _ rfl
        dsimp only [List.cons_append, List.nil_append]
        refine qf_fact (fun w hs => hs.slice2 (v := u3) (by repeat constructor)) ?_
        rintro ⟨p3, q3, rfl⟩
        refine qf_fact (fun w hs => hs.slice2 (v := v3) (by repeat constructor)) ?_
        rintro ⟨r3, z3, rfl⟩
        (refine qf_nil ?_)
        exact hK1 _ _ (hS1_3_8 ⟨p1, q1, r1, z1, p3, q3, r3, z3, b13, ()⟩ _ _ ⟨rfl, rfl, rfl, rfl, rfl, rfl, rfl, trivial⟩ (by repeat constructor))
      · skip
        refine qt_seg (by repeat (first | exact PickL.nil | (apply PickL.cons; rfl))) fun K1 hK1 => ?_
        skip
        refine qf_alloc zero46 rfl (fun b11 => ?_)
        (refine qf_nil ?_)
        exact hK1 _ _ (hS1_6_8 ⟨p1, q1, r1, z1, b11, b13, ()⟩ _ _ ⟨rfl, rfl, rfl, rfl, rfl, rfl, rfl, trivial⟩ (by repeat constructor))
      · skip
        refine qt_seg (by repeat (first | exact PickL.nil | (apply PickL.cons; rfl))) fun K1 hK1 => ?_
        skip
        refine qf_alloc zero46 rfl (fun b12 => ?_)
        (refine qf_nil ?_)
        exact hK1 _ _ (hS1_7_8 ⟨p1, q1, r1, z1, b12, b13, ()⟩ _ _ ⟨rfl, rfl, rfl, rfl, rfl, rfl, rfl, trivial⟩ (by repeat constructor))
    refine qt_let (σ := Nat × Nat × Unit) (tLwD_ce81463) (fun ⟨b11, b12, ()⟩ => [(2, .int .u8 a2), (7, .pointer (some ⟨b7, 0, none⟩)), (8, .int .i64 o), (10, .pointer (some ⟨b10, 0, none⟩)), (11, .pointer (some ⟨b11, 0, none⟩)), (12, .pointer (some ⟨b12, 0, none⟩))]) (fun ⟨b11, b12, ()⟩ => [.pt b11 [.int .i64 0, .int .i64 0, .slice none 0 0, .slice none 0 0] 46, .pt b12 [.int .i64 0, .int .i64 0, .slice none 0 0, .slice none 0 0] 46]) ?_ (fun hS6_7 => ?_)
    · rintro ⟨b11, b12, _⟩
      refine qt_alt ?_ ?_
      · skip
        refine qt_seg (by repeat (first | exact PickL.nil | (apply PickL.cons; rfl))) fun K1 hK1 => ?_
        (refine qf_loadABa tabOk rfl rfl rfl ?_)
        refine qf_call (β := Value × Value) tabOk [] _ M0 rfl rfl rfl rfl (Sp.refl _) (fun _ h => h.elim) (fun w' hs => clone7_ca w' 0 w'.heap.size s _ _ ⟨own_rdS (hs.mem (c := .ow (.slice ta s.tests.length tc) 78 2 s.tests.length (spC s.tests)) (by repeat constructor)) rfl, own_rdI (hs.mem (c := .ow (.slice (some ⟨ra, 0, none⟩) s.rifles.length rc) 3 1 s.rifles.length (ints s.rifles)) (by repeat constructor)) rfl⟩ (by omega) (by omega)) ?_
        rintro ⟨u1, v1⟩ _ rfl
        dsimp only [List.cons_append, List.nil_append]
        refine qf_fact (fun w hs => hs.slice2 (v := u1) (by repeat constructor)) ?_
        rintro ⟨p1, q1, rfl⟩
        refine qf_fact (fun w hs => hs.slice2 (v := v1) (by repeat constructor)) ?_
        rintro ⟨r1, z1, rfl⟩
        (refine qf_nil ?_)
        exact hK1 _ _ (hS1_6_7 ⟨p1, q1, r1, z1, b11, b12, ()⟩ _ _ ⟨rfl, rfl, rfl, rfl, rfl, rfl, rfl, trivial⟩ (by repeat constructor))
      · skip
        refine qt_seg (by repeat (first | exact PickL.nil | (apply PickL.cons; rfl))) fun K1 hK1 => ?_
        skip
        refine qf_alloc zero46 rfl (fun b13 => ?_)
        (refine qf_nil ?_)
        exact hK1 _ _ (hS6_7_8 ⟨b11, b12, b13, ()⟩ _ _ ⟨rfl, rfl, rfl, rfl, rfl, rfl, rfl, trivial⟩ (by repeat constructor))
    refine qt_let (σ := Nat × Nat × Unit) (tLwD_c68fd24) (fun ⟨b11, b13, ()⟩ => [(2, .int .u8 a2), (7, .pointer (some ⟨b7, 0, none⟩)), (8, .int .i64 o), (10, .pointer (some ⟨b10, 0, none⟩)), (11, .pointer (some ⟨b11, 0, none⟩)), (13, .pointer (some ⟨b13, 0, none⟩))]) (fun ⟨b11, b13, ()⟩ => [.pt b11 [.int .i64 0, .int .i64 0, .slice none 0 0, .slice none 0 0] 46, .pt b13 [.int .i64 0, .int .i64 0, .slice none 0 0, .slice none 0 0] 46]) ?_ (fun hS6_8 => ?_)
    · rintro ⟨b11, b13, _⟩
      refine qt_alt ?_ ?_
      · skip
        refine qt_seg (by repeat (first | exact PickL.nil | (apply PickL.cons; rfl))) fun K1 hK1 => ?_
        (refine qf_loadABa tabOk rfl rfl rfl ?_)
        refine qf_call (β := Value × Value) tabOk [] _ M0 rfl rfl rfl rfl (Sp.refl _) (fun _ h => h.elim) (fun w' hs => clone7_ca w' 0 w'.heap.size s _ _ ⟨own_rdS (hs.mem (c := .ow (.slice ta s.tests.length tc) 78 2 s.tests.length (spC s.tests)) (by repeat constructor)) rfl, own_rdI (hs.mem (c := .ow (.slice (some ⟨ra, 0, none⟩) s.rifles.length rc) 3 1 s.rifles.length (ints s.rifles)) (by repeat constructor)) rfl⟩ (by omega) (by omega)) ?_
        rintro ⟨u1, v1⟩ _ rfl
        dsimp only [List.cons_append, List.nil_append]
        refine qf_fact (fun w hs => hs.slice2 (v := u1) (by repeat constructor)) ?_
        rintro ⟨p1, q1, rfl⟩
        refine qf_fact (fun w hs => hs.slice2 (v := v1) (by repeat constructor)) ?_
        rintro ⟨r1, z1, rfl⟩
        (refine qf_nil ?_)
        exact hK1 _ _ (hS1_6_8 ⟨p1, q1, r1, z1, b11, b13, ()⟩ _ _ ⟨rfl, rfl, rfl, rfl, rfl, rfl, rfl, trivial⟩ (by repeat constructor))
      · skip
        refine qt_seg (by repeat (first | exact PickL.nil | (apply PickL.cons; rfl))) fun K1 hK1 => ?_
        skip
        refine qf_alloc zero46 rfl (fun b12 => ?_)
        (refine qf_nil ?_)
        exact hK1 _ _ (hS6_7_8 ⟨b11, b12, b13, ()⟩ _ _ ⟨rfl, rfl, rfl, rfl, rfl, rfl, rfl, trivial⟩ (by repeat constructor))
    refine qt_let (σ := Nat × Nat × Unit) (tLwD_5213287) (fun ⟨b12, b13, ()⟩ => [(2, .int .u8 a2), (7, .pointer (some ⟨b7, 0, none⟩)), (8, .int .i64 o), (10, .pointer (some ⟨b10, 0, none⟩)), (12, .pointer (some ⟨b12, 0, none⟩)), (13, .pointer (some ⟨b13, 0, none⟩))]) (fun ⟨b12, b13, ()⟩ => [.pt b12 [.int .i64 0, .int .i64 0, .slice none 0 0, .slice none 0 0] 46, .pt b13 [.int .i64 0, .int .i64 0, .slice none 0 0, .slice none 0 0] 46]) ?_ (fun hS7_8 => ?_)
    · rintro ⟨b12, b13, _⟩
      refine qt_alt ?_ ?_
      · skip
        refine qt_seg (by repeat (first | exact PickL.nil | (apply PickL.cons; rfl))) fun K1 hK1 => ?_
        (refine qf_loadABa tabOk rfl rfl rfl ?_)
        refine qf_call (β := Value × Value) tabOk [] _ M0 rfl rfl rfl rfl (Sp.refl _) (fun _ h => h.elim) (fun w' hs => clone7_ca w' 0 w'.heap.size s _ _ ⟨own_rdS (hs.mem (c := .ow (.slice ta s.tests.length tc) 78 2 s.tests.length (spC s.tests)) (by repeat constructor)) rfl, own_rdI (hs.mem (c := .ow (.slice (some ⟨ra, 0, none⟩) s.rifles.length rc) 3 1 s.rifles.length (ints s.rifles)) (by repeat constructor)) rfl⟩ (by omega) (by omega)) ?_
        rintro ⟨u1, v1⟩ _ rfl
        dsimp only [List.cons_append, List.nil_append]
        refine qf_fact (fun w hs => hs.slice2 (v := u1) (by repeat constructor)) ?_
        rintro ⟨p1, q1, rfl⟩
        refine qf_fact (fun w hs => hs.slice2 (v := v1) (by repeat constructor)) ?_
        rintro ⟨r1, z1, rfl⟩
        (refine qf_nil ?_)
        exact hK1 _ _ (hS1_7_8 ⟨p1, q1, r1, z1, b12, b13, ()⟩ _ _ ⟨rfl, rfl, rfl, rfl, rfl, rfl, rfl, trivial⟩ (by repeat constructor))
      · skip
        refine qt_seg (by repeat (first | exact PickL.nil | (apply PickL.cons; rfl))) fun K1 hK1 => ?_
        skip
        refine qf_alloc zero46 rfl (fun b11 => ?_)
        (refine qf_nil ?_)
        exact hK1 _ _ (hS6_7_8 ⟨b11, b12, b13, ()⟩ _ _ ⟨rfl, rfl, rfl, rfl, rfl, rfl, rfl, trivial⟩ (by repeat constructor))
    refine qt_let (σ := Option Addr × Nat × Option Addr × Nat × Unit) (tLwD_ed077bb) (fun ⟨p1, q1, r1, z1, ()⟩ => [(2, .int .u8 a2), (7, .pointer (some ⟨b7, 0, none⟩)), (8, .int .i64 o), (10, .pointer (some ⟨b10, 0, none⟩)), (55, .agg (scC s (.slice p1 s.tests.length q1) (.slice r1 s.rifles.length z1)).toArray)]) (fun ⟨p1, q1, r1, z1, ()⟩ => [.ow (.slice p1 s.tests.length q1) 78 2 s.tests.length (spC s.tests), .ow (.slice r1 s.rifles.length z1) 3 1 s.rifles.length (ints s.rifles)]) ?_ (fun hS1 => ?_)
    · rintro ⟨p1, q1, r1, z1, _⟩
      refine qt_alt ?_ (qt_alt ?_ (qt_alt ?_ ?_))
      · skip
        refine qt_seg (by repeat (first | exact PickL.nil | (apply PickL.cons; rfl))) fun K1 hK1 => ?_
        (refine qf_loadABa tabOk rfl rfl rfl ?_)
        refine qf_call (β := Value × Value) tabOk [] _ M0 rfl rfl rfl rfl (Sp.refl _) (fun _ h => h.elim) (fun w' hs => clone7_ca w' 0 w'.heap.size s _ _ ⟨own_rdS (hs.mem (c := .ow (.slice ta s.tests.length tc) 78 2 s.tests.length (spC s.tests)) (by repeat constructor)) rfl, own_rdI (hs.mem (c := .ow (.slice (some ⟨ra, 0, none⟩) s.rifles.length rc) 3 1 s.rifles.length (ints s.rifles)) (by repeat constructor)) rfl⟩ (by omega) (by omega)) ?_
        rintro ⟨u3, v3⟩ _ rfl
        dsimp only [List.cons_append, List.nil_append]
        refine qf_fact (fun w hs => hs.slice2 (v := u3) (by repeat constructor)) ?_
        rintro ⟨p3, q3, rfl⟩
        refine qf_fact (fun w hs => hs.slice2 (v := v3) (by repeat constructor)) ?_
        rintro ⟨r3, z3, rfl⟩
        (refine qf_nil ?_)
        exact hK1 _ _ (hS1_3 ⟨p1, q1, r1, z1, p3, q3, r3, z3, ()⟩ _ _ ⟨rfl, rfl, rfl, rfl, rfl, rfl, trivial⟩ (by repeat constructor))
      · skip
        refine qt_seg (by repeat (first | exact PickL.nil | (apply PickL.cons; rfl))) fun K1 hK1 => ?_
        skip
        refine qf_alloc zero46 rfl (fun b11 => ?_)
        (refine qf_nil ?_)
        exact hK1 _ _ (hS1_6 ⟨p1, q1, r1, z1, b11, ()⟩ _ _ ⟨rfl, rfl, rfl, rfl, rfl, rfl, trivial⟩ (by repeat constructor))
      · skip
        refine qt_seg (by repeat (first | exact PickL.nil | (apply PickL.cons; rfl))) fun K1 hK1 => ?_
        skip
        refine qf_alloc zero46 rfl (fun b12 => ?_)
        (refine qf_nil ?_)
        exact hK1 _ _ (hS1_7 ⟨p1, q1, r1, z1, b12, ()⟩ _ _ ⟨rfl, rfl, rfl, rfl, rfl, rfl, trivial⟩ (by repeat constructor))
      · skip
        refine qt_seg (by repeat (first | exact PickL.nil | (apply PickL.cons; rfl))) fun K1 hK1 => ?_
        skip
        refine qf_alloc zero46 rfl (fun b13 => ?_)
        (refine qf_nil ?_)
        exact hK1 _ _ (hS1_8 ⟨p1, q1, r1, z1, b13, ()⟩ _ _ ⟨rfl, rfl, rfl, rfl, rfl, rfl, trivial⟩ (by repeat constructor))
    refine qt_let (σ := Nat × Unit) (tLwD_4658da5) (fun ⟨b11, ()⟩ => [(2, .int .u8 a2), (7, .pointer (some ⟨b7, 0, none⟩)), (8, .int .i64 o), (10, .pointer (some ⟨b10, 0, none⟩)), (11, .pointer (some ⟨b11, 0, none⟩))]) (fun ⟨b11, ()⟩ => [.pt b11 [.int .i64 0, .int .i64 0, .slice none 0 0, .slice none 0 0] 46]) ?_ (fun hS6 => ?_)
    · rintro ⟨b11, _⟩
      refine qt_alt ?_ (qt_alt ?_ ?_)
      · skip
        refine qt_seg (by repeat (first | exact PickL.nil | (apply PickL.cons; rfl))) fun K1 hK1 => ?_
        (refine qf_loadABa tabOk rfl rfl rfl ?_)
        refine qf_call (β := Value × Value) tabOk [] _ M0 rfl rfl rfl rfl (Sp.refl _) (fun _ h => h.elim) (fun w' hs => clone7_ca w' 0 w'.heap.size s _ _ ⟨own_rdS (hs.mem (c := .ow (.slice ta s.tests.length tc) 78 2 s.tests.length (spC s.tests)) (by repeat constructor)) rfl, own_rdI (hs.mem (c := .ow (.slice (some ⟨ra, 0, none⟩) s.rifles.length rc) 3 1 s.rifles.length (ints s.rifles)) (by repeat constructor)) rfl⟩ (by omega) (by omega)) ?_
        rintro ⟨u1, v1⟩ _ rfl
        dsimp only [List.cons_append, List.nil_append]
        refine qf_fact (fun w hs => hs.slice2 (v := u1) (by repeat constructor)) ?_
        rintro ⟨p1, q1, rfl⟩
        refine qf_fact (fun w hs => hs.slice2 (v := v1) (by repeat constructor)) ?_
        rintro ⟨r1, z1, rfl⟩
        (refine qf_nil ?_)
        exact hK1 _ _ (hS1_6 ⟨p1, q1, r1, z1, b11, ()⟩ _ _ ⟨rfl, rfl, rfl, rfl, rfl, rfl, trivial⟩ (by repeat constructor))
      · skip
        refine qt_seg (by repeat (first | exact PickL.nil | (apply PickL.cons; rfl))) fun K1 hK1 => ?_
        skip
        refine qf_alloc zero46 rfl (fun b12 => ?_)
        (refine qf_nil ?_)
        exact hK1 _ _ (hS6_7 ⟨b11, b12, ()⟩ _ _ ⟨rfl, rfl, rfl, rfl, rfl, rfl, trivial⟩ (by repeat constructor))
      · skip
        refine qt_seg (by repeat (first | exact PickL.nil | (apply PickL.cons; rfl))) fun K1 hK1 => ?_
        skip
        refine qf_alloc zero46 rfl (fun b13 => ?_)
        (refine qf_nil ?_)
        exact hK1 _ _ (hS6_8 ⟨b11, b13, ()⟩ _ _ ⟨rfl, rfl, rfl, rfl, rfl, rfl, trivial⟩ (by repeat constructor))
    refine qt_let (σ := Nat × Unit) (tLwD_0c05407) (fun ⟨b12, ()⟩ => [(2, .int .u8 a2), (7, .pointer (some ⟨b7, 0, none⟩)), (8, .int .i64 o), (10, .pointer (some ⟨b10, 0, none⟩)), (12, .pointer (some ⟨b12, 0, none⟩))]) (fun ⟨b12, ()⟩ => [.pt b12 [.int .i64 0, .int .i64 0, .slice none 0 0, .slice none 0 0] 46]) ?_ (fun hS7 => ?_)
    · rintro ⟨b12, _⟩
      refine qt_alt ?_ (qt_alt ?_ ?_)
      · skip
        refine qt_seg (by repeat (first | exact PickL.nil | (apply PickL.cons; rfl))) fun K1 hK1 => ?_
        (refine qf_loadABa tabOk rfl rfl rfl ?_)
        refine qf_call (β := Value × Value) tabOk [] _ M0 rfl rfl rfl rfl (Sp.refl _) (fun _ h => h.elim) (fun w' hs => clone7_ca w' 0 w'.heap.size s _ _ ⟨own_rdS (hs.mem (c := .ow (.slice ta s.tests.length tc) 78 2 s.tests.length (spC s.tests)) (by repeat constructor)) rfl, own_rdI (hs.mem (c := .ow (.slice (some ⟨ra, 0, none⟩) s.rifles.length rc) 3 1 s.rifles.length (ints s.rifles)) (by repeat constructor)) rfl⟩ (by omega) (by omega)) ?_
        rintro ⟨u1, v1⟩ _ rfl
        dsimp only [List.cons_append, List.nil_append]
        refine qf_fact (fun w hs => hs.slice2 (v := u1) (by repeat constructor)) ?_
        rintro ⟨p1, q1, rfl⟩
        refine qf_fact (fun w hs => hs.slice2 (v := v1) (by repeat constructor)) ?_
        rintro ⟨r1, z1, rfl⟩
        (refine qf_nil ?_)
        exact hK1 _ _ (hS1_7 ⟨p1, q1, r1, z1, b12, ()⟩ _ _ ⟨rfl, rfl, rfl, rfl, rfl, rfl, trivial⟩ (by repeat constructor))
      · skip
        refine qt_seg (by repeat (first | exact PickL.nil | (apply PickL.cons; rfl))) fun K1 hK1 => ?_
        skip
        refine qf_alloc zero46 rfl (fun b11 => ?_)
        (refine qf_nil ?_)
        exact hK1 _ _ (hS6_7 ⟨b11, b12, ()⟩ _ _ ⟨rfl, rfl, rfl, rfl, rfl, rfl, trivial⟩ (by repeat constructor))
      · skip
        refine qt_seg (by repeat (first | exact PickL.nil | (apply PickL.cons; rfl))) fun K1 hK1 => ?_
        skip
        refine qf_alloc zero46 rfl (fun b13 => ?_)
        (refine qf_nil ?_)
        exact hK1 _ _ (hS7_8 ⟨b12, b13, ()⟩ _ _ ⟨rfl, rfl, rfl, rfl, rfl, rfl, trivial⟩ (by repeat constructor))
    refine qt_let (σ := Nat × Unit) (tLwD_4535c44) (fun ⟨b13, ()⟩ => [(2, .int .u8 a2), (7, .pointer (some ⟨b7, 0, none⟩)), (8, .int .i64 o), (10, .pointer (some ⟨b10, 0, none⟩)), (13, .pointer (some ⟨b13, 0, none⟩))]) (fun ⟨b13, ()⟩ => [.pt b13 [.int .i64 0, .int .i64 0, .slice none 0 0, .slice none 0 0] 46]) ?_ (fun hS8 => ?_)
    · rintro ⟨b13, _⟩
      refine qt_alt ?_ (qt_alt ?_ ?_)
      · skip
        refine qt_seg (by repeat (first | exact PickL.nil | (apply PickL.cons; rfl))) fun K1 hK1 => ?_
        (refine qf_loadABa tabOk rfl rfl rfl ?_)
        refine qf_call (β := Value × Value) tabOk [] _ M0 rfl rfl rfl rfl (Sp.refl _) (fun _ h => h.elim) (fun w' hs => clone7_ca w' 0 w'.heap.size s _ _ ⟨own_rdS (hs.mem (c := .ow (.slice ta s.tests.length tc) 78 2 s.tests.length (spC s.tests)) (by repeat constructor)) rfl, own_rdI (hs.mem (c := .ow (.slice (some ⟨ra, 0, none⟩) s.rifles.length rc) 3 1 s.rifles.length (ints s.rifles)) (by repeat constructor)) rfl⟩ (by omega) (by omega)) ?_
        rintro ⟨u1, v1⟩ _ rfl
        dsimp only [List.cons_append, List.nil_append]
        refine qf_fact (fun w hs => hs.slice2 (v := u1) (by repeat constructor)) ?_
        rintro ⟨p1, q1, rfl⟩
        refine qf_fact (fun w hs => hs.slice2 (v := v1) (by repeat constructor)) ?_
        rintro ⟨r1, z1, rfl⟩
        (refine qf_nil ?_)
        exact hK1 _ _ (hS1_8 ⟨p1, q1, r1, z1, b13, ()⟩ _ _ ⟨rfl, rfl, rfl, rfl, rfl, rfl, trivial⟩ (by repeat constructor))
      · skip
        refine qt_seg (by repeat (first | exact PickL.nil | (apply PickL.cons; rfl))) fun K1 hK1 => ?_
        skip
        refine qf_alloc zero46 rfl (fun b11 => ?_)
        (refine qf_nil ?_)
        exact hK1 _ _ (hS6_8 ⟨b11, b13, ()⟩ _ _ ⟨rfl, rfl, rfl, rfl, rfl, rfl, trivial⟩ (by repeat constructor))
      · skip
        refine qt_seg (by repeat (first | exact PickL.nil | (apply PickL.cons; rfl))) fun K1 hK1 => ?_
        skip
        refine qf_alloc zero46 rfl (fun b12 => ?_)
        (refine qf_nil ?_)
        exact hK1 _ _ (hS7_8 ⟨b12, b13, ()⟩ _ _ ⟨rfl, rfl, rfl, rfl, rfl, rfl, trivial⟩ (by repeat constructor))
    refine qt_alt ?_ (qt_alt ?_ (qt_alt ?_ ?_))
    · skip
      refine qt_seg (by repeat (first | exact PickL.nil | (apply PickL.cons; rfl))) fun K1 hK1 => ?_
      (refine qf_loadABa tabOk rfl rfl rfl ?_)
      refine qf_call (β := Value × Value) tabOk [] _ M0 rfl rfl rfl rfl (Sp.refl _) (fun _ h => h.elim) (fun w' hs => clone7_ca w' 0 w'.heap.size s _ _ ⟨own_rdS (hs.mem (c := .ow (.slice ta s.tests.length tc) 78 2 s.tests.length (spC s.tests)) (by repeat constructor)) rfl, own_rdI (hs.mem (c := .ow (.slice (some ⟨ra, 0, none⟩) s.rifles.length rc) 3 1 s.rifles.length (ints s.rifles)) (by repeat constructor)) rfl⟩ (by omega) (by omega)) ?_
      rintro ⟨u1, v1⟩ _ rfl
      dsimp only [List.cons_append, List.nil_append]
      refine qf_fact (fun w hs => hs.slice2 (v := u1) (by repeat constructor)) ?_
      rintro ⟨p1, q1, rfl⟩
      refine qf_fact (fun w hs => hs.slice2 (v := v1) (by repeat constructor)) ?_
      rintro ⟨r1, z1, rfl⟩
      (refine qf_nil ?_)
      exact hK1 _ _ (hS1 ⟨p1, q1, r1, z1, ()⟩ _ _ ⟨rfl, rfl, rfl, rfl, rfl, trivial⟩ (by repeat constructor))
    · skip
      refine qt_seg (by repeat (first | exact PickL.nil | (apply PickL.cons; rfl))) fun K1 hK1 => ?_
      skip
      refine qf_alloc zero46 rfl (fun b11 => ?_)
      (refine qf_nil ?_)
      exact hK1 _ _ (hS6 ⟨b11, ()⟩ _ _ ⟨rfl, rfl, rfl, rfl, rfl, trivial⟩ (by repeat constructor))
    · skip
      refine qt_seg (by repeat (first | exact PickL.nil | (apply PickL.cons; rfl))) fun K1 hK1 => ?_
      skip
      refine qf_alloc zero46 rfl (fun b12 => ?_)
      (refine qf_nil ?_)
      exact hK1 _ _ (hS7 ⟨b12, ()⟩ _ _ ⟨rfl, rfl, rfl, rfl, rfl, trivial⟩ (by repeat constructor))
    · skip
      refine qt_seg (by repeat (first | exact PickL.nil | (apply PickL.cons; rfl))) fun K1 hK1 => ?_
      skip
      refine qf_alloc zero46 rfl (fun b13 => ?_)
      (refine qf_nil ?_)
      exact hK1 _ _ (hS8 ⟨b13, ()⟩ _ _ ⟨rfl, rfl, rfl, rfl, rfl, trivial⟩ (by repeat constructor))
  rintro ⟨⟨p1, q1, r1, z1⟩, ⟨p3, q3, r3, z3⟩, ⟨p5, q5, r5, z5⟩, b11, b12, b13⟩
  dsimp only
  (refine q_seq (q_region (ql_pure tabOk rfl rfl ?_)))
  refine ql_call (β := Int) (ψ := fun zq v => v = .int .i64 zq ∧ 0 ≤ zq ∧ zq ≤ 5000 - 1) (L' := fun _ => [dkP (.slice at0 nt ct) b10 (0 + 1)]) tabOk [dkP (.slice at0 nt ct) b10 (0)] _ (fun x => x = b10) rfl rfl rfl rfl (Sp.cons (by repeat constructor) (Sp.refl _)) (fun x hx => ⟨_, .head _, hx⟩) (fun w' hs => drw0 hbyb10 hs (by omega) (by omega)) ?_; rintro mx _ ⟨rfl, hmx⟩
  (refine ql_ar tabOk rfl rfl rfl rfl (by omega) (by omega) (ql_pure tabOk rfl rfl (q_nil (q_seq ?_))))
  refine q_drawB2 [true, true, true, true, true, true, true, true, true, true, true, true, true, true, true, true, true, false, false] [.pt b11 (scC s (.slice p1 s.tests.length q1) (.slice r1 s.rifles.length z1)) 46, .pt b12 (scC s (.slice p3 s.tests.length q3) (.slice r3 s.rifles.length z3)) 46, .pt b13 (scC s (.slice p5 s.tests.length q5) (.slice r5 s.rifles.length z5)) 46, .ow (.slice p1 s.tests.length q1) 78 2 s.tests.length (spC s.tests), .ow (.slice r1 s.rifles.length z1) 3 1 s.rifles.length (ints s.rifles), .ow (.slice p3 s.tests.length q3) 78 2 s.tests.length (spC s.tests), .ow (.slice r3 s.rifles.length z3) 3 1 s.rifles.length (ints s.rifles), .ow (.slice p5 s.tests.length q5) 78 2 s.tests.length (spC s.tests), .ow (.slice r5 s.rifles.length z5) 3 1 s.rifles.length (ints s.rifles), .pt b7 (scC s (.slice ta s.tests.length tc) (.slice (some ⟨ra, 0, none⟩) s.rifles.length rc)) 46, .ow (.slice ta s.tests.length tc) 78 2 s.tests.length (spC s.tests), .ow (.slice (some ⟨ra, 0, none⟩) s.rifles.length rc) 3 1 s.rifles.length (ints s.rifles)] [dkP (.slice at0 nt ct) b10 (0 + 1)] [.pt b12 (scC s (.slice p3 s.tests.length q3) (.slice r3 s.rifles.length z3)) 46, .pt b13 (scC s (.slice p5 s.tests.length q5) (.slice r5 s.rifles.length z5)) 46, .ow (.slice p1 s.tests.length q1) 78 2 s.tests.length (spC s.tests), .ow (.slice r1 s.rifles.length z1) 3 1 s.rifles.length (ints s.rifles), .ow (.slice p3 s.tests.length q3) 78 2 s.tests.length (spC s.tests), .ow (.slice r3 s.rifles.length z3) 3 1 s.rifles.length (ints s.rifles), .ow (.slice p5 s.tests.length q5) 78 2 s.tests.length (spC s.tests), .ow (.slice r5 s.rifles.length z5) 3 1 s.rifles.length (ints s.rifles), .pt b7 (scC s (.slice ta s.tests.length tc) (.slice (some ⟨ra, 0, none⟩) s.rifles.length rc)) 46, .ow (.slice ta s.tests.length tc) 78 2 s.tests.length (spC s.tests), .ow (.slice (some ⟨ra, 0, none⟩) s.rifles.length rc) 3 1 s.rifles.length (ints s.rifles)] [.pt b11 (scC s (.slice p1 s.tests.length q1) (.slice r1 s.rifles.length z1)) 46] (by repeat constructor) (by repeat constructor) (by kernel_rfl) (by kernel_rfl) (by kernel_rfl) ?_
  refine qb_T2 17 [dkP (.slice at0 nt ct) b10 (0 + 1)] rfl rfl (by repeat constructor) fun K2 hK2 => ?_
  ((iterate 3 refine qf_pure tabOk rfl rfl rfl ?_); refine qf_ar tabOk rfl rfl rfl rfl (by omega) (by omega) (qf_pure tabOk rfl rfl rfl (qf_pure tabOk rfl rfl rfl ?_)); refine qf_loadBa tabOk rfl rfl rfl ?_; refine qf_neg tabOk rfl rfl (by omega) (by omega) (qf_pure tabOk rfl rfl rfl ?_); refine qf_loadBa tabOk rfl rfl rfl ?_)
  refine qf_call (β := Int) (ψ := fun zq v => v = .int .i64 zq ∧ (-s.err) ≤ zq ∧ zq ≤ s.err) (L' := fun _ => [dkP (.slice at0 nt ct) b10 (0 + 1 + 1)]) tabOk [dkP (.slice at0 nt ct) b10 (0 + 1)] _ (fun x => x = b10) rfl rfl rfl rfl (Sp.cons (by repeat constructor) (Sp.refl _)) (fun x hx => ⟨_, .head _, hx⟩) (fun w' hs => btw0 hbyb10 hs (by omega) (by omega) (by omega) (by omega)) ?_; rintro my _ ⟨rfl, hmy⟩
  (refine qf_ar tabOk rfl rfl rfl rfl (by omega) (by omega) ?_)
  refine qf_mk #[.int .i64 (1000 + mx), .int .i64 (1000 + mx + o + my)] rfl (by kernel_rfl) rfl ?_
  skip
  refine qf_mkS 78 [.int .i64 (1000 + mx), .int .i64 (1000 + mx + o + my)] rfl (by kernel_rfl) rfl (fun bn => ?_)
  (refine qf_pure tabOk rfl rfl rfl ?_; refine qf_loadBa tabOk rfl rfl rfl ?_)
  refine qf_conv (H' := [.ow (.slice (some ⟨bn, 0, none⟩) 1 1) 78 2 1 [.int .i64 (1000 + mx), .int .i64 (1000 + mx + o + my)], dkP (.slice at0 nt ct) b10 (0 + 1 + 1)]) (fun w hs => Sat.pt_ow rfl (by omega) hs) ?_
  refine qf_append (q := s.tests.length) (news := spC s.tests) slT rfl rfl rfl (fun v' => by repeat constructor) (fun w' hs => ⟨_, _, RdS.row (own_rdS (hs.mem (c := .ow (.slice p1 s.tests.length q1) 78 2 s.tests.length (spC s.tests)) (by repeat constructor)) rfl)⟩) (spC_one _) (by omega) (by omega) (fun u' => ?_)
  refine qf_fact (fun w hs => hs.slice2 (v := u') (by repeat constructor)) ?_
  rintro ⟨e1, f1, rfl⟩
  (refine qf_nil ?_)
  refine hK2 _ _ (qb_F 2 [.pt b11 (scC s (.slice p1 s.tests.length q1) (.slice r1 s.rifles.length z1)) 46, .ow (.slice e1 (1 + s.tests.length) f1) 78 2 (1 + s.tests.length) ([.int .i64 (1000 + mx), .int .i64 (1000 + mx + o + my)] ++ spC s.tests), dkP (.slice at0 nt ct) b10 (0 + 1 + 1)] rfl rfl (by repeat constructor) fun K2 hK2 => ?_)
  (refine qf_pure tabOk rfl rfl rfl ?_; refine qf_st2 tabOk rfl rfl rfl rfl (by repeat constructor) ?_; refine qf_nil ?_)
  refine hK2 _ _ (qb_nil ?_)
  have ht0 : [Value.int .i64 (1000 + mx), Value.int .i64 (1000 + mx + o + my)] ++ spC s.tests = spC (adS s (1000 + mx, 1000 + mx + o + my)).tests := rfl
  rw [ht0, Nat.add_comm 1]
  obtain ⟨t, ht⟩ : ∃ t : Int × Int, t = (1000 + mx, 1000 + mx + o + my) := ⟨_, rfl⟩
  rw [← ht]
  have ht1 : 1000 ≤ t.1 ∧ t.1 ≤ 5999 := by rw [ht]; simp only; omega
  have ht2 : -s.err ≤ t.2 - t.1 - o ∧ t.2 - t.1 - o ≤ s.err := by rw [ht]; simp only; omega
  (refine q_seq ?_)
  refine q_conv (H' := [.pt b11 (scC (adS s t) (.slice e1 (s.tests.length + 1) f1) (.slice r1 s.rifles.length z1)) 46, .ow (.slice e1 (s.tests.length + 1) f1) 78 2 (s.tests.length + 1) (spC (adS s t).tests), .ow (.slice r1 s.rifles.length z1) 3 1 s.rifles.length (ints s.rifles), .pt b12 (scC s (.slice p3 s.tests.length q3) (.slice r3 s.rifles.length z3)) 46, .ow (.slice p3 s.tests.length q3) 78 2 s.tests.length (spC s.tests), .ow (.slice r3 s.rifles.length z3) 3 1 s.rifles.length (ints s.rifles), .pt b13 (scC s (.slice p5 s.tests.length q5) (.slice r5 s.rifles.length z5)) 46, .ow (.slice p5 s.tests.length q5) 78 2 s.tests.length (spC s.tests), .ow (.slice r5 s.rifles.length z5) 3 1 s.rifles.length (ints s.rifles), dkP (.slice at0 nt ct) b10 (0 + 1 + 1), .pt b7 (scC s (.slice ta s.tests.length tc) (.slice (some ⟨ra, 0, none⟩) s.rifles.length rc)) 46, .ow (.slice ta s.tests.length tc) 78 2 s.tests.length (spC s.tests), .ow (.slice (some ⟨ra, 0, none⟩) s.rifles.length rc) 3 1 s.rifles.length (ints s.rifles)]) (fun w' hs => hs.sp (by repeat constructor)) ?_
  skip
  refine q_drawB2 [true, true, true, true, true, false, false] [.pt b12 (scC s (.slice p3 s.tests.length q3) (.slice r3 s.rifles.length z3)) 46, .pt b11 (scC (adS s t) (.slice e1 (s.tests.length + 1) f1) (.slice r1 s.rifles.length z1)) 46, .ow (.slice e1 (s.tests.length + 1) f1) 78 2 (s.tests.length + 1) (spC (adS s t).tests), .ow (.slice r1 s.rifles.length z1) 3 1 s.rifles.length (ints s.rifles), .ow (.slice p3 s.tests.length q3) 78 2 s.tests.length (spC s.tests), .ow (.slice r3 s.rifles.length z3) 3 1 s.rifles.length (ints s.rifles), .pt b13 (scC s (.slice p5 s.tests.length q5) (.slice r5 s.rifles.length z5)) 46, .ow (.slice p5 s.tests.length q5) 78 2 s.tests.length (spC s.tests), .ow (.slice r5 s.rifles.length z5) 3 1 s.rifles.length (ints s.rifles), .pt b7 (scC s (.slice ta s.tests.length tc) (.slice (some ⟨ra, 0, none⟩) s.rifles.length rc)) 46, .ow (.slice ta s.tests.length tc) 78 2 s.tests.length (spC s.tests), .ow (.slice (some ⟨ra, 0, none⟩) s.rifles.length rc) 3 1 s.rifles.length (ints s.rifles)] [dkP (.slice at0 nt ct) b10 (0 + 1 + 1)] [.pt b11 (scC (adS s t) (.slice e1 (s.tests.length + 1) f1) (.slice r1 s.rifles.length z1)) 46, .ow (.slice e1 (s.tests.length + 1) f1) 78 2 (s.tests.length + 1) (spC (adS s t).tests), .ow (.slice r1 s.rifles.length z1) 3 1 s.rifles.length (ints s.rifles), .ow (.slice p3 s.tests.length q3) 78 2 s.tests.length (spC s.tests), .ow (.slice r3 s.rifles.length z3) 3 1 s.rifles.length (ints s.rifles), .pt b13 (scC s (.slice p5 s.tests.length q5) (.slice r5 s.rifles.length z5)) 46, .ow (.slice p5 s.tests.length q5) 78 2 s.tests.length (spC s.tests), .ow (.slice r5 s.rifles.length z5) 3 1 s.rifles.length (ints s.rifles), .pt b7 (scC s (.slice ta s.tests.length tc) (.slice (some ⟨ra, 0, none⟩) s.rifles.length rc)) 46, .ow (.slice ta s.tests.length tc) 78 2 s.tests.length (spC s.tests), .ow (.slice (some ⟨ra, 0, none⟩) s.rifles.length rc) 3 1 s.rifles.length (ints s.rifles)] [.pt b12 (scC s (.slice p3 s.tests.length q3) (.slice r3 s.rifles.length z3)) 46] (by repeat constructor) (by repeat constructor) (by kernel_rfl) (by kernel_rfl) (by kernel_rfl) ?_
  refine qb_T2 5 [dkP (.slice at0 nt ct) b10 (0 + 1 + 1)] rfl rfl (by repeat constructor) fun K2 hK2 => ?_
  have hls := hm.least
  (refine qf_pure tabOk rfl rfl rfl ?_; refine qf_loadBa tabOk rfl rfl rfl ?_; refine qf_pure tabOk rfl rfl rfl ?_)
  refine qf_call (β := Int) (ψ := fun zq v => v = .int .i64 zq ∧ 0 ≤ zq ∧ zq ≤ 10 - 1) (L' := fun _ => [dkP (.slice at0 nt ct) b10 (0 + 1 + 1 + 1)]) tabOk [dkP (.slice at0 nt ct) b10 (0 + 1 + 1)] _ (fun x => x = b10) rfl rfl rfl rfl (Sp.cons (by repeat constructor) (Sp.refl _)) (fun x hx => ⟨_, .head _, hx⟩) (fun w' hs => drw0 hbyb10 hs (by omega) (by omega)) ?_; rintro hd _ ⟨rfl, hhd⟩
  (refine qf_ar tabOk rfl rfl rfl rfl (by omega) (by omega) (qf_nil ?_))
  refine hK2 _ _ (qb_F 2 [.pt b12 (scC s (.slice p3 s.tests.length q3) (.slice r3 s.rifles.length z3)) 46, dkP (.slice at0 nt ct) b10 (0 + 1 + 1 + 1)] rfl rfl (by repeat constructor) fun K2 hK2 => ?_)
  (refine qf_pure tabOk rfl rfl rfl ?_; refine qf_st1 tabOk rfl rfl rfl rfl (by repeat constructor) ?_; refine qf_nil ?_)
  refine hK2 _ _ (qb_nil ?_)
  have em : IntKind.i64.wrap a2 = a2 := w64 (by omega) (by omega)
  (refine q_seq (q_region (ql_pure tabOk rfl rfl (ql_pure tabOk rfl rfl (ql_remN rfl rfl rfl (by omega) (by omega) (ql_pure tabOk rfl rfl (q_nil (q_seq (q_seq (q_region (ql_pure tabOk rfl rfl ?_)))))))))); refine ql_loadBa tabOk rfl rfl rfl ?_; refine ql_pure tabOk rfl rfl (ql_pure tabOk rfl rfl (q_nil (q_block ?_))))
  obtain ⟨sh, hsh⟩ : ∃ sh, sh = IntKind.i64.wrap a2 % 100 := ⟨_, rfl⟩
  rw [← hsh]
  have hsh2 : 0 ≤ sh ∧ sh ≤ 99 := by rw [hsh, em]; omega
  clear hsh
  skip
  refine q_loop (σ := Nat) (fun k => k ≤ s.tests.length) (fun k => s.tests.length - k) (fun k => [(7, .pointer (some ⟨b7, 0, none⟩)), (11, .pointer (some ⟨b11, 0, none⟩)), (12, .pointer (some ⟨b12, 0, none⟩)), (13, .pointer (some ⟨b13, 0, none⟩)), (15, .int .i64 sh), (92, .int .i64 s.tests.length), (93, .int .i64 k)]) (fun k => [.pt b13 (scC s (.slice p5 s.tests.length q5) (.slice r5 s.rifles.length z5)) 46, .ow (.slice p5 s.tests.length q5) 78 2 s.tests.length (spC (mvT s.tests sh k)), .ow (.slice r5 s.rifles.length z5) 3 1 s.rifles.length (ints s.rifles), .pt b11 (scC (adS s t) (.slice e1 (s.tests.length + 1) f1) (.slice r1 s.rifles.length z1)) 46, .ow (.slice e1 (s.tests.length + 1) f1) 78 2 (s.tests.length + 1) (spC (adS s t).tests), .ow (.slice r1 s.rifles.length z1) 3 1 s.rifles.length (ints s.rifles), .pt b12 (scC (hiS s hd) (.slice p3 s.tests.length q3) (.slice r3 s.rifles.length z3)) 46, .ow (.slice p3 s.tests.length q3) 78 2 s.tests.length (spC s.tests), .ow (.slice r3 s.rifles.length z3) 3 1 s.rifles.length (ints s.rifles), .pt b7 (scC s (.slice ta s.tests.length tc) (.slice (some ⟨ra, 0, none⟩) s.rifles.length rc)) 46, .ow (.slice ta s.tests.length tc) 78 2 s.tests.length (spC s.tests), .ow (.slice (some ⟨ra, 0, none⟩) s.rifles.length rc) 3 1 s.rifles.length (ints s.rifles)]) 0 (by omega) ⟨rfl, rfl, rfl, rfl, rfl, rfl, rfl, trivial⟩ (by repeat constructor) ?_
  rintro k hk K1 hK1
  (refine q_seq (q_region (ql_pure tabOk rfl rfl (q_nil (q_seq ?_)))))
  refine q_if rfl (fun hc => ?_) (fun hc => ?_)
  · have hk2 : k < s.tests.length := by omega
    clear hc
    have hkm : k < (mvT s.tests sh k).length := by rw [mvT_len]; exact hk2
    have htk := hok.test _ (List.getElem_mem hk2)
    refine q_fact (fun w hs => hs.ownSome (v := .slice p5 s.tests.length q5) (by repeat constructor) (by omega)) ?_
    rintro ⟨g5, c5, hg5⟩
    cases hg5
    (refine q_skip (q_seq (q_block (q_seq (q_region (ql_pure tabOk rfl rfl (ql_pure tabOk rfl rfl (q_nil (q_region (ql_pure tabOk rfl rfl ?_))))))))); refine ql_loadBa tabOk rfl rfl rfl ?_; refine ql_pure tabOk rfl rfl ?_)
    refine ql_index tabOk rfl rfl rfl rfl rfl (by omega) (by omega) ?_
    (refine ql_pure tabOk rfl rfl ?_)
    refine ql_load1 (v := .int .i64 s.tests[k].2) tabOk rfl rfl rfl (fun w hs => by
      have := RdS.at (own_rdS (t := 78) (hs.mem (c := .ow (.slice (some ⟨g5, 0, none⟩) s.tests.length q5) 78 2 s.tests.length (spC (mvT s.tests sh k))) (by repeat constructor)) (mvT_len _ _ _).symm) k hkm 1 (by omega)
      rw [mvT_get _ _ hk2] at this
      exact this) ?_
    (refine ql_pure tabOk rfl rfl (ql_ar tabOk rfl rfl rfl rfl (by omega) (by omega) ?_))
    refine ql_index tabOk rfl rfl rfl rfl rfl (by omega) (by omega) ?_
    (refine ql_pure tabOk rfl rfl ?_)
    refine ql_storeWs tabOk (k * 2 + 1) rfl rfl rfl rfl (by repeat constructor) (by omega) (by rw [spC_length, mvT_len]; omega) ?_
    rw [mvT_cell _ _ hk2]
    (refine q_nil (q_blk (q_region (ql_ar tabOk rfl rfl rfl rfl (by omega) (by omega) (ql_pure tabOk rfl rfl (q_nil ?_))))))
    exact hK1 (k + 1) _ _ (by omega) (by omega) ⟨rfl, rfl, rfl, rfl, rfl, rfl, rfl, trivial⟩ (by repeat constructor)
  · have hkl : k = s.tests.length := by omega
    rw [hkl, mvT_full]
    clear hc hK1
    (refine q_exit _ rfl (q_seq (q_seq (q_region (ql_pure tabOk rfl rfl ?_)))); refine ql_loadBa tabOk rfl rfl rfl ?_; refine ql_pure tabOk rfl rfl (ql_pure tabOk rfl rfl (q_nil (q_block ?_))))
    refine q_loop (σ := Nat) (fun k => k ≤ s.rifles.length) (fun k => s.rifles.length - k) (fun k => [(7, .pointer (some ⟨b7, 0, none⟩)), (11, .pointer (some ⟨b11, 0, none⟩)), (12, .pointer (some ⟨b12, 0, none⟩)), (13, .pointer (some ⟨b13, 0, none⟩)), (15, .int .i64 sh), (109, .int .i64 s.rifles.length), (110, .int .i64 k)]) (fun k => [.pt b13 (scC s (.slice p5 s.tests.length q5) (.slice r5 s.rifles.length z5)) 46, .ow (.slice p5 s.tests.length q5) 78 2 s.tests.length (spC (s.tests.map fun t => (t.1, t.2 + sh))), .ow (.slice r5 s.rifles.length z5) 3 1 s.rifles.length (ints (mvR s.rifles sh k)), .pt b11 (scC (adS s t) (.slice e1 (s.tests.length + 1) f1) (.slice r1 s.rifles.length z1)) 46, .ow (.slice e1 (s.tests.length + 1) f1) 78 2 (s.tests.length + 1) (spC (adS s t).tests), .ow (.slice r1 s.rifles.length z1) 3 1 s.rifles.length (ints s.rifles), .pt b12 (scC (hiS s hd) (.slice p3 s.tests.length q3) (.slice r3 s.rifles.length z3)) 46, .ow (.slice p3 s.tests.length q3) 78 2 s.tests.length (spC s.tests), .ow (.slice r3 s.rifles.length z3) 3 1 s.rifles.length (ints s.rifles), .pt b7 (scC s (.slice ta s.tests.length tc) (.slice (some ⟨ra, 0, none⟩) s.rifles.length rc)) 46, .ow (.slice ta s.tests.length tc) 78 2 s.tests.length (spC s.tests), .ow (.slice (some ⟨ra, 0, none⟩) s.rifles.length rc) 3 1 s.rifles.length (ints s.rifles)]) 0 (by omega) ⟨rfl, rfl, rfl, rfl, rfl, rfl, rfl, trivial⟩ (by repeat constructor) ?_
    rintro k hk K1 hK1
    (refine q_seq (q_region (ql_pure tabOk rfl rfl (q_nil (q_seq ?_)))))
    refine q_if rfl (fun hc => ?_) (fun hc => ?_)
    · have hk2 : k < s.rifles.length := by omega
      clear hc
      have hkm : k < (mvR s.rifles sh k).length := by rw [mvR_len]; exact hk2
      have htk := hok.rifle _ (List.getElem_mem hk2)
      refine q_fact (fun w hs => hs.ownSome (v := .slice r5 s.rifles.length z5) (by repeat constructor) (by omega)) ?_
      rintro ⟨g5, c5, hg5⟩
      cases hg5
      (refine q_skip (q_seq (q_block (q_seq (q_region (ql_pure tabOk rfl rfl (ql_pure tabOk rfl rfl (q_nil (q_region (ql_pure tabOk rfl rfl ?_))))))))); refine ql_loadBa tabOk rfl rfl rfl ?_; refine ql_pure tabOk rfl rfl ?_)
      refine ql_index tabOk rfl rfl rfl rfl rfl (by omega) (by omega) ?_
      skip
      refine ql_load1 (v := .int .i64 s.rifles[k]) tabOk rfl rfl rfl (fun w hs => by
        have := RdI.at (own_rdI (t := 3) (hs.mem (c := .ow (.slice (some ⟨g5, 0, none⟩) s.rifles.length z5) 3 1 s.rifles.length (ints (mvR s.rifles sh k))) (by repeat constructor)) (mvR_len _ _ _).symm) k hkm
        rw [mvR_get _ _ hk2] at this
        exact this) ?_
      (refine ql_pure tabOk rfl rfl (ql_ar tabOk rfl rfl rfl rfl (by omega) (by omega) ?_))
      refine ql_index tabOk rfl rfl rfl rfl rfl (by omega) (by omega) ?_
      skip
      refine ql_storeW tabOk k rfl rfl rfl rfl (by repeat constructor) (by omega) (by simp only [ints, List.length_map]; exact hkm) ?_
      rw [mvR_cell _ _ hk2]
      (refine q_nil (q_blk (q_region (ql_ar tabOk rfl rfl rfl rfl (by omega) (by omega) (ql_pure tabOk rfl rfl (q_nil ?_))))))
      exact hK1 (k + 1) _ _ (by omega) (by omega) ⟨rfl, rfl, rfl, rfl, rfl, rfl, rfl, trivial⟩ (by repeat constructor)
    · have hkl : k = s.rifles.length := by omega
      rw [hkl, mvR_full]
      clear hc hK1
      refine q_conv (H' := [.pt b13 (scC (mvS s sh) (.slice p5 s.tests.length q5) (.slice r5 s.rifles.length z5)) 46, .ow (.slice p5 s.tests.length q5) 78 2 s.tests.length (spC (mvS s sh).tests), .ow (.slice r5 s.rifles.length z5) 3 1 s.rifles.length (ints (mvS s sh).rifles), .pt b11 (scC (adS s t) (.slice e1 (s.tests.length + 1) f1) (.slice r1 s.rifles.length z1)) 46, .ow (.slice e1 (s.tests.length + 1) f1) 78 2 (s.tests.length + 1) (spC (adS s t).tests), .ow (.slice r1 s.rifles.length z1) 3 1 s.rifles.length (ints s.rifles), .pt b12 (scC (hiS s hd) (.slice p3 s.tests.length q3) (.slice r3 s.rifles.length z3)) 46, .ow (.slice p3 s.tests.length q3) 78 2 s.tests.length (spC s.tests), .ow (.slice r3 s.rifles.length z3) 3 1 s.rifles.length (ints s.rifles), .pt b7 (scC s (.slice ta s.tests.length tc) (.slice (some ⟨ra, 0, none⟩) s.rifles.length rc)) 46, .ow (.slice ta s.tests.length tc) 78 2 s.tests.length (spC s.tests), .ow (.slice (some ⟨ra, 0, none⟩) s.rifles.length rc) 3 1 s.rifles.length (ints s.rifles)]) (fun w' hs => hs.sp (by repeat constructor)) ?_
      have hms := adS_sok hm (by omega) ht2 ht1
      have hhs := hiS_sok hm (d := hd) (by omega) (by omega)
      have hw := adS_wide hm ht2
      have hdep := adS_dep hm (by omega) ht2 ht1
      have hol := openL_len s (firstK s)
      have hol2 := openL_len (adS s t) (firstK (adS s t))
      have hpl := pasL_len s s.rifles.length
      have hpl2 := pasL_len (hiS s hd) s.rifles.length
      have hrn8 := hok.rn8
      rw [show (adS s t).rifles.length = s.rifles.length from rfl] at hol2
      (refine q_exit _ rfl (q_seq (q_region ?_)); refine ql_loadABa tabOk rfl rfl rfl ?_)
      refine ql_callv (val := .tuple #[spV2 (offV s), .int .i64 0]) tabOk rfl rfl rfl rfl (fun w hs => ?_) ?_; exact roff_ok w 0 w.heap.size s _ _ ⟨own_rdS (hs.mem (c := .ow (.slice ta s.tests.length tc) 78 2 s.tests.length (spC s.tests)) (by repeat constructor)) rfl, own_rdI (hs.mem (c := .ow (.slice (some ⟨ra, 0, none⟩) s.rifles.length rc) 3 1 s.rifles.length (ints s.rifles)) (by repeat constructor)) rfl⟩ hsok
      (refine ql_pure tabOk rfl rfl (ql_ext tabOk rfl rfl rfl (ql_ext tabOk rfl rfl rfl ?_)))
      refine ql_alloc zero56 rfl (fun b18 => ?_)
      (refine ql_setA tabOk rfl rfl rfl rfl rfl (by repeat constructor) rfl ?_; refine ql_pure tabOk rfl rfl (q_nil (q_seq (q_region ?_))); refine ql_loadABa tabOk rfl rfl rfl ?_)
      refine ql_callv (val := .tuple #[spV2 (offV (adS s t)), .int .i64 0]) tabOk rfl rfl rfl rfl (fun w hs => ?_) ?_; exact roff_ok w 0 w.heap.size (adS s t) _ _ ⟨own_rdS (hs.mem (c := .ow (.slice e1 (s.tests.length + 1) f1) 78 2 (s.tests.length + 1) (spC (adS s t).tests)) (by repeat constructor)) rfl, own_rdI (hs.mem (c := .ow (.slice r1 s.rifles.length z1) 3 1 s.rifles.length (ints s.rifles)) (by repeat constructor)) rfl⟩ hms
      (refine ql_pure tabOk rfl rfl (ql_ext tabOk rfl rfl rfl (ql_ext tabOk rfl rfl rfl ?_)))
      refine ql_alloc zero56 rfl (fun b20 => ?_)
      (refine ql_setA tabOk rfl rfl rfl rfl rfl (by repeat constructor) rfl ?_; refine ql_pure tabOk rfl rfl (q_nil (q_seq (q_region ?_))); refine ql_loadABa tabOk rfl rfl rfl ?_)
      refine ql_call (β := Value) tabOk [] _ M0 rfl rfl rfl rfl (Sp.refl _) (fun _ h => h.elim) (fun w' hs => ropen_ok w' 0 w'.heap.size s _ _ ⟨own_rdS (hs.mem (c := .ow (.slice ta s.tests.length tc) 78 2 s.tests.length (spC s.tests)) (by repeat constructor)) rfl, own_rdI (hs.mem (c := .ow (.slice (some ⟨ra, 0, none⟩) s.rifles.length rc) 3 1 s.rifles.length (ints s.rifles)) (by repeat constructor)) rfl⟩ hsok) ?_
      rintro vx _ rfl
      dsimp only [List.cons_append, List.nil_append]
      refine ql_fact (fun w hs => hs.slice2 (v := vx) (by repeat constructor)) ?_
      rintro ⟨x1, x2, rfl⟩
      (refine ql_pure tabOk rfl rfl (ql_ext tabOk rfl rfl rfl (ql_ext tabOk rfl rfl rfl (ql_pure tabOk rfl rfl (ql_pure tabOk rfl rfl (q_nil (q_seq (q_region ?_))))))); refine ql_loadABa tabOk rfl rfl rfl ?_)
      refine ql_call (β := Value) tabOk [] _ M0 rfl rfl rfl rfl (Sp.refl _) (fun _ h => h.elim) (fun w' hs => ropen_ok w' 0 w'.heap.size (adS s t) _ _ ⟨own_rdS (hs.mem (c := .ow (.slice e1 (s.tests.length + 1) f1) 78 2 (s.tests.length + 1) (spC (adS s t).tests)) (by repeat constructor)) rfl, own_rdI (hs.mem (c := .ow (.slice r1 s.rifles.length z1) 3 1 s.rifles.length (ints s.rifles)) (by repeat constructor)) rfl⟩ hms) ?_
      rintro vy _ rfl
      dsimp only [List.cons_append, List.nil_append]
      refine ql_fact (fun w hs => hs.slice2 (v := vy) (by repeat constructor)) ?_
      rintro ⟨y1, y2, rfl⟩
      (refine ql_pure tabOk rfl rfl (ql_ext tabOk rfl rfl rfl (ql_ext tabOk rfl rfl rfl (ql_pure tabOk rfl rfl (ql_pure tabOk rfl rfl (q_nil (q_seq (q_region ?_))))))); refine ql_loadABa tabOk rfl rfl rfl ?_)
      refine ql_call (β := Value) tabOk [] _ M0 rfl rfl rfl rfl (Sp.refl _) (fun _ h => h.elim) (fun w' hs => passed_ok w' 0 w'.heap.size s _ _ ⟨own_rdS (hs.mem (c := .ow (.slice ta s.tests.length tc) 78 2 s.tests.length (spC s.tests)) (by repeat constructor)) rfl, own_rdI (hs.mem (c := .ow (.slice (some ⟨ra, 0, none⟩) s.rifles.length rc) 3 1 s.rifles.length (ints s.rifles)) (by repeat constructor)) rfl⟩ hsok) ?_
      rintro vp _ rfl
      dsimp only [List.cons_append, List.nil_append]
      refine ql_fact (fun w hs => hs.slice2 (v := vp) (by repeat constructor)) ?_
      rintro ⟨u1, u2, rfl⟩
      (refine ql_pure tabOk rfl rfl (ql_ext tabOk rfl rfl rfl (ql_ext tabOk rfl rfl rfl (ql_pure tabOk rfl rfl (ql_pure tabOk rfl rfl (q_nil (q_seq (q_region ?_))))))); refine ql_loadABa tabOk rfl rfl rfl ?_)
      refine ql_call (β := Value) tabOk [] _ M0 rfl rfl rfl rfl (Sp.refl _) (fun _ h => h.elim) (fun w' hs => passed_ok w' 0 w'.heap.size (hiS s hd) _ _ ⟨own_rdS (hs.mem (c := .ow (.slice p3 s.tests.length q3) 78 2 s.tests.length (spC s.tests)) (by repeat constructor)) rfl, own_rdI (hs.mem (c := .ow (.slice r3 s.rifles.length z3) 3 1 s.rifles.length (ints s.rifles)) (by repeat constructor)) rfl⟩ hhs) ?_
      rintro vq _ rfl
      rw [show (hiS s hd).rifles.length = s.rifles.length from rfl]
      dsimp only [List.cons_append, List.nil_append]
      refine ql_fact (fun w hs => hs.slice2 (v := vq) (by repeat constructor)) ?_
      rintro ⟨v1, v2, rfl⟩
      (refine ql_pure tabOk rfl rfl (ql_ext tabOk rfl rfl rfl (ql_ext tabOk rfl rfl rfl (ql_pure tabOk rfl rfl (ql_pure tabOk rfl rfl (q_nil (q_seq (q_seq (q_region (ql_pure tabOk rfl rfl (ql_neqF tabOk rfl rfl rfl (by omega) (ql_pure tabOk rfl rfl ?_))))))))))); refine ql_gyes rfl (ql_pure tabOk rfl rfl (ql_gyes rfl (ql_neqF tabOk rfl rfl rfl (by omega) (ql_pure tabOk rfl rfl (ql_pure tabOk rfl rfl (ql_gyes rfl (ql_pure tabOk rfl rfl (ql_gyes rfl (ql_neqF tabOk rfl rfl rfl (by omega) (ql_pure tabOk rfl rfl (ql_pure tabOk rfl rfl ?_))))))))))); refine ql_gyes rfl (ql_pure tabOk rfl rfl (ql_gyes rfl (ql_neqF tabOk rfl rfl rfl (by omega) (ql_pure tabOk rfl rfl (ql_pure tabOk rfl rfl (ql_gyes rfl (ql_pure tabOk rfl rfl (ql_gyes rfl (ql_neqF tabOk rfl rfl rfl (by omega) (ql_pure tabOk rfl rfl (ql_pure tabOk rfl rfl ?_))))))))))); refine ql_gyes rfl (ql_pure tabOk rfl rfl (ql_gyes rfl (ql_neqF tabOk rfl rfl rfl (by omega) (ql_pure tabOk rfl rfl (ql_pure tabOk rfl rfl (ql_gyes rfl ?_)))))); refine ql_loadABa tabOk rfl rfl rfl ?_; refine ql_gyes rfl ?_; refine ql_loadABa tabOk rfl rfl rfl ?_; refine ql_gyes rfl ?_)
      refine ql_callv (val := .bool true) tabOk rfl rfl rfl rfl (fun w hs => ?_) ?_; exact by have := rwide_ca (offV s) (offV (adS s t)) w; rw [decide_eq_true hw] at this; exact this
      (refine ql_gyes rfl (ql_pure tabOk rfl rfl (ql_pure tabOk rfl rfl (q_nil (q_cond_false rfl (q_skip (q_seq (q_seq (q_region ?_)))))))); (iterate 3 refine ql_pure tabOk rfl rfl ?_); refine q_nil (q_block ?_))
      refine q_loop (σ := Nat) (fun k => k ≤ (openL (adS s t) (firstK (adS s t))).length) (fun k => (openL (adS s t) (firstK (adS s t))).length - k) (fun k => [(7, .pointer (some ⟨b7, 0, none⟩)), (11, .pointer (some ⟨b11, 0, none⟩)), (13, .pointer (some ⟨b13, 0, none⟩)), (15, .int .i64 sh), (18, .pointer (some ⟨b18, 0, none⟩)), (20, .pointer (some ⟨b20, 0, none⟩)), (22, .slice x1 (openL s (firstK s)).length x2), (26, .slice u1 (pasL s s.rifles.length).length u2), (28, .slice v1 (pasL (hiS s hd) s.rifles.length).length v2), (180, .slice y1 (openL (adS s t) (firstK (adS s t))).length y2), (181, .int .i64 (openL (adS s t) (firstK (adS s t))).length), (182, .int .i64 k)]) (fun _ => [.pt b13 (scC (mvS s sh) (.slice p5 s.tests.length q5) (.slice r5 s.rifles.length z5)) 46, .ow (.slice p5 s.tests.length q5) 78 2 s.tests.length (spC (mvS s sh).tests), .ow (.slice r5 s.rifles.length z5) 3 1 s.rifles.length (ints (mvS s sh).rifles), .pt b11 (scC (adS s t) (.slice e1 (s.tests.length + 1) f1) (.slice r1 s.rifles.length z1)) 46, .ow (.slice e1 (s.tests.length + 1) f1) 78 2 (s.tests.length + 1) (spC (adS s t).tests), .ow (.slice r1 s.rifles.length z1) 3 1 s.rifles.length (ints s.rifles), .pt b12 (scC (hiS s hd) (.slice p3 s.tests.length q3) (.slice r3 s.rifles.length z3)) 46, .ow (.slice p3 s.tests.length q3) 78 2 s.tests.length (spC s.tests), .ow (.slice r3 s.rifles.length z3) 3 1 s.rifles.length (ints s.rifles), .pt b7 (scC s (.slice ta s.tests.length tc) (.slice (some ⟨ra, 0, none⟩) s.rifles.length rc)) 46, .ow (.slice ta s.tests.length tc) 78 2 s.tests.length (spC s.tests), .ow (.slice (some ⟨ra, 0, none⟩) s.rifles.length rc) 3 1 s.rifles.length (ints s.rifles), .ow (.slice x1 (openL s (firstK s)).length x2) 3 1 (openL s (firstK s)).length (ints (nI (openL s (firstK s)))), .ow (.slice y1 (openL (adS s t) (firstK (adS s t))).length y2) 3 1 (openL (adS s t) (firstK (adS s t))).length (ints (nI (openL (adS s t) (firstK (adS s t))))), .ow (.slice u1 (pasL s s.rifles.length).length u2) 3 1 (pasL s s.rifles.length).length (ints (nI (pasL s s.rifles.length))), .ow (.slice v1 (pasL (hiS s hd) s.rifles.length).length v2) 3 1 (pasL (hiS s hd) s.rifles.length).length (ints (nI (pasL (hiS s hd) s.rifles.length))), .pt b18 [.int .i64 (offV s).1, .int .i64 (offV s).2] 56, .pt b20 [.int .i64 (offV (adS s t)).1, .int .i64 (offV (adS s t)).2] 56]) 0 (by omega) ⟨rfl, rfl, rfl, rfl, rfl, rfl, rfl, rfl, rfl, rfl, rfl, rfl, trivial⟩ (by repeat constructor) ?_
      rintro k hk K1 hK1
      (refine q_seq (q_region (ql_pure tabOk rfl rfl (q_nil (q_seq ?_)))))
      refine q_if rfl (fun hc => ?_) (fun hc => ?_)
      · have hk2 : k < (openL (adS s t) (firstK (adS s t))).length := by omega
        clear hc
        have hkn : k < (nI (openL (adS s t) (firstK (adS s t)))).length := by rw [nI_len]; exact hk2
        have hmem : (nI (openL (adS s t) (firstK (adS s t))))[k] ∈ nI (openL s (firstK s)) := by
          have h1 := List.getElem_mem hk2
          obtain ⟨g1, g2⟩ := openL_mem.1 h1
          have h2 := openL_mem.2 ⟨g1, adS_open hm ht2 g2⟩
          have h3 : (nI (openL (adS s t) (firstK (adS s t))))[k] = (((openL (adS s t) (firstK (adS s t)))[k] : Nat) : Int) := by simp [nI]
          rw [h3]
          exact List.mem_map_of_mem h2
        refine q_fact (fun w hs => hs.ownSome (v := .slice y1 (openL (adS s t) (firstK (adS s t))).length y2) (by repeat constructor) (by omega)) ?_
        rintro ⟨gy, cy, hgy⟩
        cases hgy
        (refine q_skip (q_seq (q_block (q_seq (q_region ?_)))))
        refine ql_index tabOk rfl rfl rfl rfl rfl (by omega) (by omega) ?_
        skip
        refine ql_load1 (v := .int .i64 (nI (openL (adS s t) (firstK (adS s t))))[k]) tabOk rfl rfl rfl (fun w hs => RdI.at (hs.rdI (v := .slice (some ⟨gy, 0, none⟩) (openL (adS s t) (firstK (adS s t))).length y2) (l := nI (openL (adS s t) (firstK (adS s t)))) (t := 3) (n := (openL (adS s t) (firstK (adS s t))).length) (by repeat constructor) (by simp [nI])) k hkn) ?_
        (refine ql_pure tabOk rfl rfl (q_nil (q_seq (q_region (ql_pure tabOk rfl rfl (ql_pure tabOk rfl rfl ?_))))))
        refine ql_callv (val := .bool true) tabOk rfl rfl rfl rfl (fun w hs => ?_) ?_; exact by have := contI_ca w 0 w.heap.size (.slice x1 (openL s (firstK s)).length x2) (nI (openL s (firstK s))) (nI (openL (adS s t) (firstK (adS s t))))[k] (hs.rdI (v := .slice x1 (openL s (firstK s)).length x2) (l := nI (openL s (firstK s))) (t := 3) (n := (openL s (firstK s)).length) (by repeat constructor) (by simp [nI])) (by simp [nI]; omega); rw [decide_eq_true hmem] at this; exact this
        (refine ql_pure tabOk rfl rfl (q_nil (q_cond_false rfl (q_skip (q_blk (q_region (ql_ar tabOk rfl rfl rfl rfl (by omega) (by omega) (ql_pure tabOk rfl rfl (q_nil ?_)))))))))
        exact hK1 (k + 1) _ _ (by omega) (by omega) ⟨rfl, rfl, rfl, rfl, rfl, rfl, rfl, rfl, rfl, rfl, rfl, rfl, trivial⟩ (by repeat constructor)
      clear hc hK1
      (refine q_exit _ rfl (q_seq (q_seq (q_region ?_))); (iterate 3 refine ql_pure tabOk rfl rfl ?_); refine q_nil (q_block ?_))
      refine q_loop (σ := Nat) (fun k => k ≤ (pasL (hiS s hd) s.rifles.length).length) (fun k => (pasL (hiS s hd) s.rifles.length).length - k) (fun k => [(7, .pointer (some ⟨b7, 0, none⟩)), (11, .pointer (some ⟨b11, 0, none⟩)), (13, .pointer (some ⟨b13, 0, none⟩)), (15, .int .i64 sh), (18, .pointer (some ⟨b18, 0, none⟩)), (20, .pointer (some ⟨b20, 0, none⟩)), (26, .slice u1 (pasL s s.rifles.length).length u2), (191, .slice v1 (pasL (hiS s hd) s.rifles.length).length v2), (192, .int .i64 (pasL (hiS s hd) s.rifles.length).length), (193, .int .i64 k)]) (fun _ => [.pt b13 (scC (mvS s sh) (.slice p5 s.tests.length q5) (.slice r5 s.rifles.length z5)) 46, .ow (.slice p5 s.tests.length q5) 78 2 s.tests.length (spC (mvS s sh).tests), .ow (.slice r5 s.rifles.length z5) 3 1 s.rifles.length (ints (mvS s sh).rifles), .pt b11 (scC (adS s t) (.slice e1 (s.tests.length + 1) f1) (.slice r1 s.rifles.length z1)) 46, .ow (.slice e1 (s.tests.length + 1) f1) 78 2 (s.tests.length + 1) (spC (adS s t).tests), .ow (.slice r1 s.rifles.length z1) 3 1 s.rifles.length (ints s.rifles), .pt b12 (scC (hiS s hd) (.slice p3 s.tests.length q3) (.slice r3 s.rifles.length z3)) 46, .ow (.slice p3 s.tests.length q3) 78 2 s.tests.length (spC s.tests), .ow (.slice r3 s.rifles.length z3) 3 1 s.rifles.length (ints s.rifles), .pt b7 (scC s (.slice ta s.tests.length tc) (.slice (some ⟨ra, 0, none⟩) s.rifles.length rc)) 46, .ow (.slice ta s.tests.length tc) 78 2 s.tests.length (spC s.tests), .ow (.slice (some ⟨ra, 0, none⟩) s.rifles.length rc) 3 1 s.rifles.length (ints s.rifles), .ow (.slice x1 (openL s (firstK s)).length x2) 3 1 (openL s (firstK s)).length (ints (nI (openL s (firstK s)))), .ow (.slice y1 (openL (adS s t) (firstK (adS s t))).length y2) 3 1 (openL (adS s t) (firstK (adS s t))).length (ints (nI (openL (adS s t) (firstK (adS s t))))), .ow (.slice u1 (pasL s s.rifles.length).length u2) 3 1 (pasL s s.rifles.length).length (ints (nI (pasL s s.rifles.length))), .ow (.slice v1 (pasL (hiS s hd) s.rifles.length).length v2) 3 1 (pasL (hiS s hd) s.rifles.length).length (ints (nI (pasL (hiS s hd) s.rifles.length))), .pt b18 [.int .i64 (offV s).1, .int .i64 (offV s).2] 56, .pt b20 [.int .i64 (offV (adS s t)).1, .int .i64 (offV (adS s t)).2] 56]) 0 (by omega) ⟨rfl, rfl, rfl, rfl, rfl, rfl, rfl, rfl, rfl, rfl, trivial⟩ (by repeat constructor) ?_
      rintro k hk K1 hK1
      (refine q_seq (q_region (ql_pure tabOk rfl rfl (q_nil (q_seq ?_)))))
      refine q_if rfl (fun hc => ?_) (fun hc => ?_)
      · have hk2 : k < (pasL (hiS s hd) s.rifles.length).length := by omega
        clear hc
        have hkn : k < (nI (pasL (hiS s hd) s.rifles.length)).length := by rw [nI_len]; exact hk2
        have hmem : (nI (pasL (hiS s hd) s.rifles.length))[k] ∈ nI (pasL s s.rifles.length) := by
          have h1 := List.getElem_mem hk2
          rw [show (pasL (hiS s hd) s.rifles.length)[k] = (pasL (hiS s hd) s.rifles.length)[k] from rfl] at h1
          have h3 : (nI (pasL (hiS s hd) s.rifles.length))[k] = (((pasL (hiS s hd) s.rifles.length)[k] : Nat) : Int) := by simp [nI]
          have h4 := (pas_mem (s := hiS s hd)).1 (show (((pasL (hiS s hd) s.rifles.length)[k] : Nat) : Int) ∈ nI (pasL (hiS s hd) (hiS s hd).rifles.length) from List.mem_map_of_mem h1)
          rw [h3]
          refine pas_mem.2 ⟨h4.1, ?_⟩
          have h5 : s.least + hd ≤ (wgtV s (pasL (hiS s hd) s.rifles.length)[k] (offV s)).1 := h4.2
          omega
        refine q_fact (fun w hs => hs.ownSome (v := .slice v1 (pasL (hiS s hd) s.rifles.length).length v2) (by repeat constructor) (by omega)) ?_
        rintro ⟨gy, cy, hgy⟩
        cases hgy
        (refine q_skip (q_seq (q_block (q_seq (q_region ?_)))))
        refine ql_index tabOk rfl rfl rfl rfl rfl (by omega) (by omega) ?_
        skip
        refine ql_load1 (v := .int .i64 (nI (pasL (hiS s hd) s.rifles.length))[k]) tabOk rfl rfl rfl (fun w hs => RdI.at (hs.rdI (v := .slice (some ⟨gy, 0, none⟩) (pasL (hiS s hd) s.rifles.length).length v2) (l := nI (pasL (hiS s hd) s.rifles.length)) (t := 3) (n := (pasL (hiS s hd) s.rifles.length).length) (by repeat constructor) (by simp [nI])) k hkn) ?_
        (refine ql_pure tabOk rfl rfl (q_nil (q_seq (q_region (ql_pure tabOk rfl rfl (ql_pure tabOk rfl rfl ?_))))))
        refine ql_callv (val := .bool true) tabOk rfl rfl rfl rfl (fun w hs => ?_) ?_; exact by have := contI_ca w 0 w.heap.size (.slice u1 (pasL s s.rifles.length).length u2) (nI (pasL s s.rifles.length)) (nI (pasL (hiS s hd) s.rifles.length))[k] (hs.rdI (v := .slice u1 (pasL s s.rifles.length).length u2) (l := nI (pasL s s.rifles.length)) (t := 3) (n := (pasL s s.rifles.length).length) (by repeat constructor) (by simp [nI])) (by simp [nI]; omega); rw [decide_eq_true hmem] at this; exact this
        (refine ql_pure tabOk rfl rfl (q_nil (q_cond_false rfl (q_skip (q_blk (q_region (ql_ar tabOk rfl rfl rfl rfl (by omega) (by omega) (ql_pure tabOk rfl rfl (q_nil ?_)))))))))
        exact hK1 (k + 1) _ _ (by omega) (by omega) ⟨rfl, rfl, rfl, rfl, rfl, rfl, rfl, rfl, rfl, rfl, trivial⟩ (by repeat constructor)
      clear hc hK1
      (refine q_exit _ rfl (q_seq (q_region ?_)); refine ql_loadABa tabOk rfl rfl rfl ?_)
      refine ql_callv (val := .tuple #[.int .i64 (depV s (firstK s)), .int .i64 0]) tabOk rfl rfl rfl rfl (fun w hs => ?_) ?_; exact rfewest_ok w 0 w.heap.size s _ _ ⟨own_rdS (hs.mem (c := .ow (.slice ta s.tests.length tc) 78 2 s.tests.length (spC s.tests)) (by repeat constructor)) rfl, own_rdI (hs.mem (c := .ow (.slice (some ⟨ra, 0, none⟩) s.rifles.length rc) 3 1 s.rifles.length (ints s.rifles)) (by repeat constructor)) rfl⟩ hsok
      (refine ql_pure tabOk rfl rfl (ql_ext tabOk rfl rfl rfl (ql_ext tabOk rfl rfl rfl (ql_pure tabOk rfl rfl (ql_pure tabOk rfl rfl (q_nil (q_seq (q_region ?_))))))); refine ql_loadABa tabOk rfl rfl rfl ?_)
      refine ql_callv (val := .tuple #[.int .i64 (depV (adS s t) (firstK (adS s t))), .int .i64 0]) tabOk rfl rfl rfl rfl (fun w hs => ?_) ?_; exact rfewest_ok w 0 w.heap.size (adS s t) _ _ ⟨own_rdS (hs.mem (c := .ow (.slice e1 (s.tests.length + 1) f1) 78 2 (s.tests.length + 1) (spC (adS s t).tests)) (by repeat constructor)) rfl, own_rdI (hs.mem (c := .ow (.slice r1 s.rifles.length z1) 3 1 s.rifles.length (ints s.rifles)) (by repeat constructor)) rfl⟩ hms
      refine ql_fact (fun w hs => hs.ownSome (v := .slice e1 (s.tests.length + 1) f1) (by repeat constructor) (by omega)) ?_
      rintro ⟨ge, ce, hge⟩
      cases hge
      by_cases hlt : 0 < s.tests.length
      · have hne : s.tests ≠ [] := fun e => by rw [e] at hlt; simp at hlt
        have hvs := mvS_sok hm (by omega) hsh2 hne
        have hmo := mvS_off hm hsh2 hne
        have hmd := mvS_dep hm (by omega) hsh2 hne
        have hml : (mvS s sh).rifles.length = s.rifles.length := by simp [mvS]
        have hmw := mvS_wgtL hm hsh2 hne
        have hob := off_bd s
        have hle := hsok.le
        (refine ql_pure tabOk rfl rfl (ql_ext tabOk rfl rfl rfl (ql_ext tabOk rfl rfl rfl (ql_pure tabOk rfl rfl (ql_pure tabOk rfl rfl (q_nil (q_seq (q_seq (q_region (ql_pure tabOk rfl rfl (ql_neqF tabOk rfl rfl rfl (by omega) (ql_pure tabOk rfl rfl ?_))))))))))); refine ql_gyes rfl (ql_pure tabOk rfl rfl (ql_gyes rfl (ql_neqF tabOk rfl rfl rfl (by omega) (ql_pure tabOk rfl rfl (ql_pure tabOk rfl rfl (ql_gyes rfl (ql_pure tabOk rfl rfl (ql_gyes rfl (ql_pure tabOk rfl rfl (ql_gyes rfl (ql_gtrF tabOk rfl rfl rfl (by omega) ?_))))))))))); refine ql_pure tabOk rfl rfl (q_nil (q_cond_false rfl (q_skip (q_seq (q_seq (q_region (ql_pure tabOk rfl rfl ?_))))))); refine ql_loadBa tabOk rfl rfl rfl ?_; refine ql_pure tabOk rfl rfl (ql_gtrT tabOk rfl rfl rfl (by omega) (q_nil (q_cond_true rfl (q_seq (q_region ?_))))); refine ql_loadABa tabOk rfl rfl rfl ?_)
        refine ql_callv (val := .tuple #[spV2 ((offV s).1 + sh, (offV s).2 + sh), .int .i64 0]) tabOk rfl rfl rfl rfl (fun w hs => ?_) ?_; exact by have := roff_ok w 0 w.heap.size (mvS s sh) _ _ ⟨own_rdS (hs.mem (c := .ow (.slice p5 s.tests.length q5) 78 2 s.tests.length (spC (mvS s sh).tests)) (by repeat constructor)) (by simp [mvS]), own_rdI (hs.mem (c := .ow (.slice r5 s.rifles.length z5) 3 1 s.rifles.length (ints (mvS s sh).rifles)) (by repeat constructor)) (by simp [mvS])⟩ hvs; rw [hmo] at this; exact this
        (refine ql_pure tabOk rfl rfl (ql_ext tabOk rfl rfl rfl (ql_ext tabOk rfl rfl rfl ?_)))
        refine ql_alloc zero56 rfl (fun b36 => ?_)
        (refine ql_setA tabOk rfl rfl rfl rfl rfl (by repeat constructor) rfl ?_; refine ql_pure tabOk rfl rfl (q_nil (q_seq (q_region ?_))); refine ql_loadABa tabOk rfl rfl rfl ?_)
        refine ql_call (β := Value) tabOk [] _ M0 rfl rfl rfl rfl (Sp.refl _) (fun _ h => h.elim) (fun w' hs => weights_ok w' 0 w'.heap.size s _ _ ⟨own_rdS (hs.mem (c := .ow (.slice ta s.tests.length tc) 78 2 s.tests.length (spC s.tests)) (by repeat constructor)) rfl, own_rdI (hs.mem (c := .ow (.slice (some ⟨ra, 0, none⟩) s.rifles.length rc) 3 1 s.rifles.length (ints s.rifles)) (by repeat constructor)) rfl⟩ hsok) ?_
        rintro va _ rfl
        dsimp only [List.cons_append, List.nil_append]
        refine ql_fact (fun w hs => hs.slice2 (v := va) (by repeat constructor)) ?_
        rintro ⟨j1, j2, rfl⟩
        (refine ql_pure tabOk rfl rfl (ql_ext tabOk rfl rfl rfl (ql_ext tabOk rfl rfl rfl (ql_pure tabOk rfl rfl (ql_pure tabOk rfl rfl (q_nil (q_seq (q_region ?_))))))); refine ql_loadABa tabOk rfl rfl rfl ?_)
        refine ql_call (β := Value) tabOk [] _ M0 rfl rfl rfl rfl (Sp.refl _) (fun _ h => h.elim) (fun w' hs => weights_ok w' 0 w'.heap.size (mvS s sh) _ _ ⟨own_rdS (hs.mem (c := .ow (.slice p5 s.tests.length q5) 78 2 s.tests.length (spC (mvS s sh).tests)) (by repeat constructor)) (by simp [mvS]), own_rdI (hs.mem (c := .ow (.slice r5 s.rifles.length z5) 3 1 s.rifles.length (ints (mvS s sh).rifles)) (by repeat constructor)) (by simp [mvS])⟩ hvs) ?_
        rintro vb _ rfl
        rw [hml, hmw]
        dsimp only [List.cons_append, List.nil_append]
        refine ql_fact (fun w hs => hs.slice2 (v := vb) (by repeat constructor)) ?_
        rintro ⟨k1, k2, rfl⟩
        (refine ql_pure tabOk rfl rfl (ql_ext tabOk rfl rfl rfl (ql_ext tabOk rfl rfl rfl (ql_pure tabOk rfl rfl (ql_pure tabOk rfl rfl (q_nil (q_seq (q_region ?_))))))); refine ql_loadABa tabOk rfl rfl rfl ?_)
        refine ql_callv (val := .tuple #[.int .i64 (depV s (firstK s)), .int .i64 0]) tabOk rfl rfl rfl rfl (fun w hs => ?_) ?_; exact by have := rfewest_ok w 0 w.heap.size (mvS s sh) _ _ ⟨own_rdS (hs.mem (c := .ow (.slice p5 s.tests.length q5) 78 2 s.tests.length (spC (mvS s sh).tests)) (by repeat constructor)) (by simp [mvS]), own_rdI (hs.mem (c := .ow (.slice r5 s.rifles.length z5) 3 1 s.rifles.length (ints (mvS s sh).rifles)) (by repeat constructor)) (by simp [mvS])⟩ hvs; rw [hmd] at this; exact this
        (refine ql_pure tabOk rfl rfl (ql_ext tabOk rfl rfl rfl (ql_ext tabOk rfl rfl rfl (ql_pure tabOk rfl rfl (ql_pure tabOk rfl rfl (q_nil (q_seq ?_)))))))
        refine q_draw _ [] (Sp.refl _) (by kernel_rfl) (by kernel_rfl) ?_
        (refine qf_pure tabOk rfl rfl rfl (qf_neqF tabOk rfl rfl rfl (by omega) (qf_pure tabOk rfl rfl rfl (qf_gyes rfl (qf_pure tabOk rfl rfl rfl (qf_gyes rfl (qf_neqF tabOk rfl rfl rfl (by omega) (qf_pure tabOk rfl rfl rfl (qf_pure tabOk rfl rfl rfl (qf_gyes rfl (qf_pure tabOk rfl rfl rfl (qf_gyes rfl ?_))))))))))); refine qf_neqF tabOk rfl rfl rfl (by omega) (qf_pure tabOk rfl rfl rfl (qf_pure tabOk rfl rfl rfl (qf_gyes rfl (qf_pure tabOk rfl rfl rfl (qf_gyes rfl (qf_neqF tabOk rfl rfl rfl (by omega) (qf_pure tabOk rfl rfl rfl (qf_pure tabOk rfl rfl rfl (qf_gyes rfl ?_))))))))); refine qf_loadABa tabOk rfl rfl rfl ?_; refine qf_gyes rfl (qf_pure tabOk rfl rfl rfl (qf_gyes rfl ?_)); refine qf_loadBa tabOk rfl rfl rfl ?_; refine qf_gyes rfl (qf_pure tabOk rfl rfl rfl (qf_gyes rfl (qf_ar tabOk rfl rfl rfl rfl (by omega) (by omega) (qf_gyes rfl (qf_pure tabOk rfl rfl rfl (qf_gyes rfl ?_)))))); refine qf_loadBa tabOk rfl rfl rfl ?_; refine qf_gyes rfl (qf_pure tabOk rfl rfl rfl (qf_gyes rfl (qf_ar tabOk rfl rfl rfl rfl (by omega) (by omega) (qf_gyes rfl ?_)))))
        refine qf_callv (val := rtV ((offV s).1 + sh, (offV s).2 + sh)) tabOk rfl rfl rfl rfl (fun w hs => ?_) ?_; exact rspan_ca ((offV s).1 + sh) ((offV s).2 + sh) w
        (refine qf_gyes rfl ?_)
        refine qf_neF [some .i64, some .i64] spn_flat rfl rfl rfl rfl rfl ?_
        rw [show eqL (List.take 2 (List.drop 0 [Value.int .i64 ((offV s).1 + sh), Value.int .i64 ((offV s).2 + sh)])) [Value.int .i64 ((offV s).1 + sh), .int .i64 ((offV s).2 + sh)] = true from eqL_refl _]
        (refine qf_pure tabOk rfl rfl rfl (qf_pure tabOk rfl rfl rfl (qf_gyes rfl (qf_pure tabOk rfl rfl rfl (qf_gyes rfl (qf_pure tabOk rfl rfl rfl (qf_gyes rfl ?_)))))))
        refine qf_callv (val := .bool true) tabOk rfl rfl rfl rfl (fun w hs => ?_) ?_; exact eqS_ca w 0 w.heap.size 0 w.heap.size _ _ (wgtL s s.rifles.length) (own_rdS (t := 56) (hs.mem (c := .ow (.slice j1 s.rifles.length j2) 56 2 s.rifles.length (spC (wgtL s s.rifles.length))) (by repeat constructor)) (by simp [wgtL])) (own_rdS (t := 56) (hs.mem (c := .ow (.slice k1 s.rifles.length k2) 56 2 s.rifles.length (spC (wgtL s s.rifles.length))) (by repeat constructor)) (by simp [wgtL])) (by simp [wgtL]; omega)
        (refine qf_gyes rfl ?_; (iterate 3 refine qf_pure tabOk rfl rfl rfl ?_); refine qf_gyes rfl (qf_pure tabOk rfl rfl rfl (qf_gyes rfl (qf_pure tabOk rfl rfl rfl (qf_gyes rfl (qf_neqF tabOk rfl rfl rfl (by omega) (qf_pure tabOk rfl rfl rfl (qf_nil (q_cond_false rfl (q_skip (q_seq (q_region ?_))))))))))); refine ql_pure tabOk rfl rfl ?_; refine ql_loadBa tabOk rfl rfl rfl ?_)
        refine ql_call (β := List (Int × Int)) (ψ := fun L v => v = .tuple #[] ∧ L.Perm (adS s t).tests) (L' := fun L => [.ow (.slice (some ⟨ge, 0, none⟩) (s.tests.length + 1) f1) 78 2 (s.tests.length + 1) (spC L)]) tabOk [.ow (.slice (some ⟨ge, 0, none⟩) (s.tests.length + 1) f1) 78 2 (s.tests.length + 1) (spC (adS s t).tests)] _ (fun x => x = ge) rfl rfl rfl rfl (Sp.cons (by repeat constructor) (Sp.refl _)) (fun x hx => ⟨_, .head _, by subst hx; rfl⟩) (fun w' hs => revT_ca w' ge f1 (adS s t).tests (by show s.tests.length + 1 ≤ 100; omega) (hs.all _ (.head _))) ?_
        rintro L _ ⟨rfl, hp⟩
        dsimp only [List.cons_append, List.nil_append]
        have hLl : s.tests.length + 1 = L.length := by rw [hp.length_eq]; rfl
        (refine q_nil (q_seq (q_region ?_)); refine ql_loadABa tabOk rfl rfl rfl ?_)
        refine ql_callv (val := .tuple #[spV2 (offV (adS s t)), .int .i64 0]) tabOk rfl rfl rfl rfl (fun w hs => ?_) ?_; exact by have := roff_ok w 0 w.heap.size (wtS (adS s t) L) _ _ ⟨own_rdS (hs.mem (c := .ow (.slice (some ⟨ge, 0, none⟩) (s.tests.length + 1) f1) 78 2 (s.tests.length + 1) (spC L)) (by repeat constructor)) hLl, own_rdI (hs.mem (c := .ow (.slice r1 s.rifles.length z1) 3 1 s.rifles.length (ints s.rifles)) (by repeat constructor)) rfl⟩ (wtS_sok hp hms); rw [wtS_perm hp hms] at this; exact this
        (refine ql_pure tabOk rfl rfl (ql_ext tabOk rfl rfl rfl (ql_ext tabOk rfl rfl rfl ?_)))
        refine ql_alloc zero56 rfl (fun b44 => ?_)
        (refine ql_setA tabOk rfl rfl rfl rfl rfl (by repeat constructor) rfl ?_; refine ql_pure tabOk rfl rfl (q_nil (q_seq (q_region (ql_pure tabOk rfl rfl (ql_eqlT tabOk rfl rfl rfl (by omega) (ql_pure tabOk rfl rfl (ql_gyes rfl ?_))))))); refine ql_loadABa tabOk rfl rfl rfl ?_; refine ql_gyes rfl ?_; refine ql_loadABa tabOk rfl rfl rfl ?_; refine ql_gyes rfl ?_)
        refine ql_eqF [some .i64, some .i64] spn_flat rfl rfl rfl rfl rfl ?_
        rw [show eqL (List.take 2 (List.drop 0 [Value.int .i64 (offV (adS s t)).1, .int .i64 (offV (adS s t)).2])) (List.take 2 (List.drop 0 [Value.int .i64 (offV (adS s t)).1, .int .i64 (offV (adS s t)).2])) = true from eqL_refl _]
        (refine ql_pure tabOk rfl rfl (ql_pure tabOk rfl rfl (ql_gyes rfl ?_)))
        refine ql_callv (val := .bool true) tabOk rfl rfl rfl rfl (fun w hs => ?_) ?_; exact rawake_ca w
        (refine ql_pure tabOk rfl rfl (ql_pure tabOk rfl rfl (q_nil (q_ret ?_))))
        refine q_fin tabOk rfl (by repeat constructor) fun w hs => ?_
        exact ⟨rfl, hs.chg0⟩
      · (refine ql_pure tabOk rfl rfl (ql_ext tabOk rfl rfl rfl (ql_ext tabOk rfl rfl rfl (ql_pure tabOk rfl rfl (ql_pure tabOk rfl rfl (q_nil (q_seq (q_seq (q_region (ql_pure tabOk rfl rfl (ql_neqF tabOk rfl rfl rfl (by omega) (ql_pure tabOk rfl rfl ?_))))))))))); refine ql_gyes rfl (ql_pure tabOk rfl rfl (ql_gyes rfl (ql_neqF tabOk rfl rfl rfl (by omega) (ql_pure tabOk rfl rfl (ql_pure tabOk rfl rfl (ql_gyes rfl (ql_pure tabOk rfl rfl (ql_gyes rfl (ql_pure tabOk rfl rfl (ql_gyes rfl (ql_gtrF tabOk rfl rfl rfl (by omega) ?_))))))))))); refine ql_pure tabOk rfl rfl (q_nil (q_cond_false rfl (q_skip (q_seq (q_seq (q_region (ql_pure tabOk rfl rfl ?_))))))); refine ql_loadBa tabOk rfl rfl rfl ?_; refine ql_pure tabOk rfl rfl (ql_gtrF tabOk rfl rfl rfl (by omega) (q_nil (q_cond_false rfl (q_skip (q_seq (q_region (ql_pure tabOk rfl rfl ?_))))))); refine ql_loadBa tabOk rfl rfl rfl ?_)
        refine ql_call (β := List (Int × Int)) (ψ := fun L v => v = .tuple #[] ∧ L.Perm (adS s t).tests) (L' := fun L => [.ow (.slice (some ⟨ge, 0, none⟩) (s.tests.length + 1) f1) 78 2 (s.tests.length + 1) (spC L)]) tabOk [.ow (.slice (some ⟨ge, 0, none⟩) (s.tests.length + 1) f1) 78 2 (s.tests.length + 1) (spC (adS s t).tests)] _ (fun x => x = ge) rfl rfl rfl rfl (Sp.cons (by repeat constructor) (Sp.refl _)) (fun x hx => ⟨_, .head _, by subst hx; rfl⟩) (fun w' hs => revT_ca w' ge f1 (adS s t).tests (by show s.tests.length + 1 ≤ 100; omega) (hs.all _ (.head _))) ?_
        rintro L _ ⟨rfl, hp⟩
        dsimp only [List.cons_append, List.nil_append]
        have hLl : s.tests.length + 1 = L.length := by rw [hp.length_eq]; rfl
        (refine q_nil (q_seq (q_region ?_)); refine ql_loadABa tabOk rfl rfl rfl ?_)
        refine ql_callv (val := .tuple #[spV2 (offV (adS s t)), .int .i64 0]) tabOk rfl rfl rfl rfl (fun w hs => ?_) ?_; exact by have := roff_ok w 0 w.heap.size (wtS (adS s t) L) _ _ ⟨own_rdS (hs.mem (c := .ow (.slice (some ⟨ge, 0, none⟩) (s.tests.length + 1) f1) 78 2 (s.tests.length + 1) (spC L)) (by repeat constructor)) hLl, own_rdI (hs.mem (c := .ow (.slice r1 s.rifles.length z1) 3 1 s.rifles.length (ints s.rifles)) (by repeat constructor)) rfl⟩ (wtS_sok hp hms); rw [wtS_perm hp hms] at this; exact this
        (refine ql_pure tabOk rfl rfl (ql_ext tabOk rfl rfl rfl (ql_ext tabOk rfl rfl rfl ?_)))
        refine ql_alloc zero56 rfl (fun b44 => ?_)
        (refine ql_setA tabOk rfl rfl rfl rfl rfl (by repeat constructor) rfl ?_; refine ql_pure tabOk rfl rfl (q_nil (q_seq (q_region (ql_pure tabOk rfl rfl (ql_eqlT tabOk rfl rfl rfl (by omega) (ql_pure tabOk rfl rfl (ql_gyes rfl ?_))))))); refine ql_loadABa tabOk rfl rfl rfl ?_; refine ql_gyes rfl ?_; refine ql_loadABa tabOk rfl rfl rfl ?_; refine ql_gyes rfl ?_)
        refine ql_eqF [some .i64, some .i64] spn_flat rfl rfl rfl rfl rfl ?_
        rw [show eqL (List.take 2 (List.drop 0 [Value.int .i64 (offV (adS s t)).1, .int .i64 (offV (adS s t)).2])) (List.take 2 (List.drop 0 [Value.int .i64 (offV (adS s t)).1, .int .i64 (offV (adS s t)).2])) = true from eqL_refl _]
        (refine ql_pure tabOk rfl rfl (ql_pure tabOk rfl rfl (ql_gyes rfl ?_)))
        refine ql_callv (val := .bool true) tabOk rfl rfl rfl rfl (fun w hs => ?_) ?_; exact rawake_ca w
        (refine ql_pure tabOk rfl rfl (ql_pure tabOk rfl rfl (q_nil (q_ret ?_))))
        refine q_fin tabOk rfl (by repeat constructor) fun w hs => ?_
        exact ⟨rfl, hs.chg0⟩
end Go.Proofs.YtopdmadgkjdgcaaGreat
