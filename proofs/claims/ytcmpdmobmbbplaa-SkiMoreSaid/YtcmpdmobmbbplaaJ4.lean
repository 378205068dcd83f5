/- My texts L1, joined: a claim takes at most 60 files. -/
import Derived.Test.YtcmpdmobmbbplaaJ3

/- SkiMore. -/
namespace Go.Proofs.Ytcmpdmobmbbplaa
open Go Go.Eng

theorem a4_arr : arrB Try.prog 34 4 3 1 = true := by kernel_rfl
theorem p4_arr : arrB Try.prog 36 4 35 1 = true := by kernel_rfl
theorem mod_nat {a : Int} {n : Nat} (ha : 0 ≤ a) (hn : 0 < n) : ∃ x : Nat, a % (n : Int) = x ∧ x < n := ⟨(a % n).toNat, by have := Int.emod_nonneg a (show (n : Int) ≠ 0 by omega); omega, by have := Int.emod_lt_of_pos a (show (0 : Int) < n by omega); have := Int.emod_nonneg a (show (n : Int) ≠ 0 by omega); omega⟩
theorem made0 {w0 w : World} {R : List Ck} {b K : Nat} {bs : Value} {most runs : Nat} (hby : DkB w0 0 w0.heap.size bs) (hs : Sat w0 M0 (dkP bs b K :: R) w) (h1 : 2 ≤ most) (h2 : most ≤ 8) (h3 : runs ≤ 20) (hK : K < 100000) :
    Ca Try.prog 11 [.pointer (some ⟨b, 0, none⟩), .int .i64 most, .int .i64 runs] w fun v w' => ∃ y : Value × Value × Lb × List Int, (v = .tuple #[.agg (lbC y.2.2.1 y.1).toArray, y.2.1] ∧ MadeL most runs y.2.2.1 y.2.2.2) ∧ Sat w (fun x => x = b) [.ow y.1 33 3 y.2.2.1.runs.length (rnC y.2.2.1.runs), .ow y.2.1 3 1 y.2.2.2.length (ints y.2.2.2), dkP bs b (K + 100)] w' :=
  made_ca most runs h1 h2 h3 K hK w b 0 w0.heap.size bs (hby.keep hs.chg0) (dk_new hs) (hs.all _ (.head _))
theorem runs_rd {w0 w : World} {M : Nat → Prop} {H : List Ck} {v : Value} {t n : Nat} {l : List Rn} (hs : Sat w0 M H w) (hm : .ow v t 3 n (rnC l) ∈ H) (hn : n = l.length) : RdR w 0 w.heap.size v l := own_rdR (t := t) (hs.mem hm) hn
def tL1_427ee08 : OT := chainT [11] (.nil)
def tL1_9d59c50 : OT := chainT [10] (tL1_427ee08)
def tL1_dea3a3e : OT := chainT [9] (tL1_9d59c50)
def tL1_61ea7bf : OT := chainT [8] (tL1_dea3a3e)
def tL1_701e7fd : OT := chainT [7] (tL1_dea3a3e)
def tL1_5d56ffe : OT := .alt (chainT [7] (tL1_61ea7bf)) (chainT [8] (tL1_701e7fd))
def tL1_71dc740 : OT := chainT [6] (tL1_dea3a3e)
def tL1_351d1e7 : OT := .alt (chainT [6] (tL1_61ea7bf)) (chainT [8] (tL1_71dc740))
def tL1_cef4f6b : OT := .alt (chainT [6] (tL1_701e7fd)) (chainT [7] (tL1_71dc740))
def tL1_9513658 : OT := .alt (chainT [6] (tL1_5d56ffe)) (.alt (chainT [7] (tL1_351d1e7)) (chainT [8] (tL1_cef4f6b)))
def tL1_b70bd3c : OT := chainT [4, 5] (tL1_dea3a3e)
def tL1_9680bd1 : OT := .alt (chainT [4, 5] (tL1_61ea7bf)) (chainT [8] (tL1_b70bd3c))
def tL1_31c739e : OT := .alt (chainT [4, 5] (tL1_701e7fd)) (chainT [7] (tL1_b70bd3c))
def tL1_5a1af78 : OT := .alt (chainT [4, 5] (tL1_5d56ffe)) (.alt (chainT [7] (tL1_9680bd1)) (chainT [8] (tL1_31c739e)))
def tL1_6bbd62e : OT := .alt (chainT [4, 5] (tL1_71dc740)) (chainT [6] (tL1_b70bd3c))
def tL1_d69d1ab : OT := .alt (chainT [4, 5] (tL1_351d1e7)) (.alt (chainT [6] (tL1_9680bd1)) (chainT [8] (tL1_6bbd62e)))
def tL1_2389ef3 : OT := .alt (chainT [4, 5] (tL1_cef4f6b)) (.alt (chainT [6] (tL1_31c739e)) (chainT [7] (tL1_6bbd62e)))
def tL1_f81beb6 : OT := .alt (chainT [4, 5] (tL1_9513658)) (.alt (chainT [6] (tL1_5a1af78)) (.alt (chainT [7] (tL1_d69d1ab)) (chainT [8] (tL1_2389ef3))))
def tL1_a76512f : OT := chainT [2, 3] (tL1_b70bd3c)
def tL1_3a83534 : OT := .alt (chainT [2, 3] (tL1_9680bd1)) (chainT [8] (tL1_a76512f))
def tL1_5d340b5 : OT := .alt (chainT [2, 3] (tL1_31c739e)) (chainT [7] (tL1_a76512f))
def tL1_a6848e1 : OT := .alt (chainT [2, 3] (tL1_5a1af78)) (.alt (chainT [7] (tL1_3a83534)) (chainT [8] (tL1_5d340b5)))
def tL1_1dccc0a : OT := .alt (chainT [2, 3] (tL1_6bbd62e)) (chainT [6] (tL1_a76512f))
def tL1_cebb912 : OT := .alt (chainT [2, 3] (tL1_d69d1ab)) (.alt (chainT [6] (tL1_3a83534)) (chainT [8] (tL1_1dccc0a)))
def tL1_6388bc7 : OT := .alt (chainT [2, 3] (tL1_2389ef3)) (.alt (chainT [6] (tL1_5d340b5)) (chainT [7] (tL1_1dccc0a)))
def tL1_ed077bb : OT := .alt (chainT [2, 3] (tL1_f81beb6)) (.alt (chainT [6] (tL1_a6848e1)) (.alt (chainT [7] (tL1_cebb912)) (chainT [8] (tL1_6388bc7))))
def tL1_6ff872e : OT := chainT [0, 1] (tL1_a76512f)
def tL1_ce81463 : OT := .alt (chainT [0, 1] (tL1_3a83534)) (chainT [8] (tL1_6ff872e))
def tL1_c68fd24 : OT := .alt (chainT [0, 1] (tL1_5d340b5)) (chainT [7] (tL1_6ff872e))
def tL1_4658da5 : OT := .alt (chainT [0, 1] (tL1_a6848e1)) (.alt (chainT [7] (tL1_ce81463)) (chainT [8] (tL1_c68fd24)))
def tL1_5213287 : OT := .alt (chainT [0, 1] (tL1_1dccc0a)) (chainT [6] (tL1_6ff872e))
def tL1_0c05407 : OT := .alt (chainT [0, 1] (tL1_cebb912)) (.alt (chainT [6] (tL1_ce81463)) (chainT [8] (tL1_5213287)))
def tL1_4535c44 : OT := .alt (chainT [0, 1] (tL1_6388bc7)) (.alt (chainT [6] (tL1_c68fd24)) (chainT [7] (tL1_5213287)))
def tL1_0c87a46 : OT := .alt (chainT [0, 1] (tL1_ed077bb)) (.alt (chainT [6] (tL1_4658da5)) (.alt (chainT [7] (tL1_0c05407)) (chainT [8] (tL1_4535c44))))
def tL1_f377381 : OT := .alt (chainT [13, 14, 0, 1, 2, 3, 4, 5, 15, 6, 7, 8, 9, 10, 11, 12, 16] (.nil)) (chainT [14, 13, 0, 1, 2, 3, 4, 5, 15, 6, 7, 8, 9, 10, 11, 12, 16] (.nil))
set_option maxHeartbeats 8000000 in
set_option maxRecDepth 20000 in
theorem skiMore_ca (w : World) (a : Option Addr) (n c : Nat) (a1 a2 mo : Int) (ha1 : 0 ≤ a1 ∧ a1 < 256) (ha2 : 0 ≤ a2 ∧ a2 < 256) (hmo : 0 ≤ mo ∧ mo < 256) (hbyb1 : DkB w 0 w.heap.size (.slice a n c)) :
    Ca Try.prog 3 [.slice a n c, .int .u8 a1, .int .u8 a2, .int .u8 mo] w fun r w' => r = .bool true ∧ Chg [] w w' := by
  refine q_of (Sat.nil w M0) Try.func3 rfl (by simp [Try.ntmps3]) ?_
  (refine q_seq (q_region (ql_pure tabOk rfl rfl (q_nil (q_seq (q_region (ql_pure tabOk rfl rfl ?_)))))))
  refine ql_call (β := Nat) tabOk [] _ M0 rfl rfl rfl rfl (Sp.refl _) (fun _ h => h.elim) (fun w' hs => of_ca w' a n c) ?_
  rintro b1 _ rfl
  dsimp only [List.cons_append, List.nil_append]
  refine ql_call (β := Value × Value × Lb × List Int) (ψ := fun y v => v = .tuple #[.agg (lbC y.2.2.1 y.1).toArray, y.2.1] ∧ MadeL 5 10 y.2.2.1 y.2.2.2) (L' := fun y => [.ow y.1 33 3 y.2.2.1.runs.length (rnC y.2.2.1.runs), .ow y.2.1 3 1 y.2.2.2.length (ints y.2.2.2), dkP (.slice a n c) b1 (0 + 100)]) tabOk [dkP (.slice a n c) b1 0] _ (fun x => x = b1) rfl rfl rfl rfl (Sp.cons (by repeat constructor) (Sp.refl _)) (fun x hx => ⟨_, .head _, hx⟩) (fun w' hs => made0 (most := 5) (runs := 10) hbyb1 hs (by omega) (by omega) (by omega) (by omega)) ?_
  rintro ⟨v, rv, ⟨ls, err, runs⟩, real⟩ _ ⟨rfl, hm⟩
  dsimp only [List.cons_append, List.nil_append, lbC] at hm ⊢
  have hok := hm.ok
  have hs2 : 2 ≤ ls := hm.s2
  have hsm : ls ≤ 5 := hm.sm
  have he0 : 0 ≤ err := hok.e0
  have he12 : err ≤ 11 := hm.e12
  have hlen : runs.length ≤ 10 := hm.len
  obtain ⟨sk, rfl⟩ := Int.eq_ofNat_of_zero_le (show 0 ≤ ls by omega)
  have hln : (⟨(sk : Int), err, runs⟩ : Lb).n = sk := by unfold Lb.n; simp
  have hrl2 : real.length = sk := by rw [hm.rl, hln]
  refine ql_fact (fun w hs => hs.slice2 (v := v) (by repeat constructor)) ?_
  rintro ⟨va, vc, rfl⟩
  refine ql_fact (fun w hs => hs.ownSome (v := rv) (by repeat constructor) (by omega)) ?_
  rintro ⟨rg, rc, rfl⟩
  (refine ql_pure tabOk rfl rfl (ql_ext tabOk rfl rfl rfl (ql_ext tabOk rfl rfl rfl ?_)))
  rw [hrl2]
  refine ql_alloc zero25 rfl (fun b9 => ?_)
  have em : IntKind.i64.wrap mo = mo := w64 (by omega) (by omega)
  have e1 : IntKind.i64.wrap a1 = a1 := w64 (by omega) (by omega)
  have e2 : IntKind.i64.wrap a2 = a2 := w64 (by omega) (by omega)
  obtain ⟨kx, hkx, hkx2⟩ := mod_nat hmo.1 (show 0 < sk by omega)
  obtain ⟨x, hx, hx2⟩ := mod_nat ha1.1 (show 0 < sk by omega)
  obtain ⟨z, hz, hz2⟩ := mod_nat (n := sk - 1) ha2.1 (by omega)
  obtain ⟨y, hy, hy2, hy3⟩ := mod_two (x := z) hx2 (by omega) (by omega)
  have hz' : a2 % ((sk : Int) - 1) = z := by rw [show (sk : Int) - 1 = ((sk - 1 : Nat) : Int) from by omega]; exact hz
  have q1 : 0 ≤ IntKind.i64.wrap mo % (sk : Int) ∧ IntKind.i64.wrap mo % (sk : Int) < sk := by rw [em, hkx]; omega
  have q2 : 0 ≤ IntKind.i64.wrap a1 % (sk : Int) ∧ IntKind.i64.wrap a1 % (sk : Int) < sk := by rw [e1, hx]; omega
  have q3 : 0 ≤ IntKind.i64.wrap a2 % ((sk : Int) - 1) ∧ IntKind.i64.wrap a2 % ((sk : Int) - 1) < (sk : Int) - 1 := by rw [e2, hz']; omega
  (refine ql_setA tabOk rfl rfl rfl rfl rfl (by repeat constructor) rfl ?_; refine ql_pure tabOk rfl rfl (q_nil (q_seq (q_region ?_))); (iterate 3 refine ql_pure tabOk rfl rfl ?_); refine ql_loadBa tabOk rfl rfl rfl ?_; refine ql_remN rfl rfl rfl (by omega) (by omega) (ql_ar tabOk rfl rfl rfl rfl (by omega) (by omega) (ql_pure tabOk rfl rfl (q_nil (q_seq (q_region ?_))))); (iterate 3 refine ql_pure tabOk rfl rfl ?_); refine ql_loadBa tabOk rfl rfl rfl ?_; refine ql_remN rfl rfl rfl (by omega) (by omega) (ql_pure tabOk rfl rfl (q_nil (q_seq ?_))))
  rw [em, hkx, e1, hx]
  refine q_draw _ [] (Sp.refl _) (by kernel_rfl) (by kernel_rfl) ?_
  (refine qf_pure tabOk rfl rfl rfl (qf_ar tabOk rfl rfl rfl rfl (by omega) (by omega) ?_); (iterate 3 refine qf_pure tabOk rfl rfl rfl ?_); refine qf_loadBa tabOk rfl rfl rfl ?_; refine qf_ar tabOk rfl rfl rfl rfl (by omega) (by omega) (qf_remN rfl rfl rfl (by omega) (by omega) (qf_ar tabOk rfl rfl rfl rfl (by omega) (by omega) (qf_pure tabOk rfl rfl rfl ?_))); refine qf_loadBa tabOk rfl rfl rfl ?_; refine qf_remN rfl rfl rfl (by omega) (by omega) (qf_pure tabOk rfl rfl rfl (qf_nil (q_seq ?_))))
  rw [e2, hz', hy]
  skip
  have ek : (1 : Int) + (kx : Int) = ((kx + 1 : Nat) : Int) := by omega
  rw [ek]
  refine q_conv (H' := [.pt b9 [.int .i64 sk, .int .i64 err, .slice va runs.length vc] 25, .ow (.slice va runs.length vc) 33 3 runs.length (rnC runs), .ow (.slice (some ⟨rg, 0, none⟩) sk rc) 3 1 sk (ints real)]) (fun w' hs => hs.sp (by repeat constructor)) ?_
  refine q_cut (σ := Option Addr × Nat × Option Addr × Nat × Option Addr × Nat × Nat × Nat × Nat) (fun ⟨p1, q1, p3, q3, p5, q5, b14, b15, b16⟩ => [(3, .int .u8 mo), (9, .pointer (some ⟨b9, 0, none⟩)), (10, .slice (some ⟨rg, 0, none⟩) sk rc), (11, .int .i64 (kx + 1 : Nat)), (12, .int .i64 x), (13, .int .i64 y), (14, .pointer (some ⟨b14, 0, none⟩)), (15, .pointer (some ⟨b15, 0, none⟩)), (16, .pointer (some ⟨b16, 0, none⟩))])
    (fun ⟨p1, q1, p3, q3, p5, q5, b14, b15, b16⟩ => [.pt b14 [.int .i64 sk, .int .i64 err, .slice p1 runs.length q1] 25, .pt b15 [.int .i64 sk, .int .i64 err, .slice p3 runs.length q3] 25, .pt b16 [.int .i64 sk, .int .i64 err, .slice p5 runs.length q5] 25,
      .ow (.slice p1 runs.length q1) 33 3 runs.length (rnC runs), .ow (.slice p3 runs.length q3) 33 3 runs.length (rnC runs), .ow (.slice p5 runs.length q5) 33 3 runs.length (rnC runs), .pt b9 [.int .i64 sk, .int .i64 err, .slice va runs.length vc] 25, .ow (.slice va runs.length vc) 33 3 runs.length (rnC runs), .ow (.slice (some ⟨rg, 0, none⟩) sk rc) 3 1 sk (ints real)]) ?_ ?_
  rotate_left
  · intro K2 hK2
    clear hz hz' hy hkx hx em e1 e2 q1 q2 q3 ek
    refine q_drawT (tL1_0c87a46) _ [] (Sp.refl _) (by kernel_rfl) (by kernel_rfl) ?_
    refine qt_let (σ := Option Addr × Nat × Option Addr × Nat × Option Addr × Nat × Nat × Nat × Nat × Unit) (.nil) (fun ⟨p1, q1, p3, q3, p5, q5, b14, b15, b16, ()⟩ => [(3, .int .u8 mo), (9, .pointer (some ⟨b9, 0, none⟩)), (10, .slice (some ⟨rg, 0, none⟩) sk rc), (11, .int .i64 (kx + 1 : Nat)), (12, .int .i64 x), (13, .int .i64 y), (14, .pointer (some ⟨b14, 0, none⟩)), (15, .pointer (some ⟨b15, 0, none⟩)), (16, .pointer (some ⟨b16, 0, none⟩))]) (fun ⟨p1, q1, p3, q3, p5, q5, b14, b15, b16, ()⟩ => [.ow (.slice p1 runs.length q1) 33 3 runs.length (rnC runs), .pt b14 [.int .i64 sk, .int .i64 err, .slice p1 runs.length q1] 25, .ow (.slice p3 runs.length q3) 33 3 runs.length (rnC runs), .pt b15 [.int .i64 sk, .int .i64 err, .slice p3 runs.length q3] 25, .ow (.slice p5 runs.length q5) 33 3 runs.length (rnC runs), .pt b16 [.int .i64 sk, .int .i64 err, .slice p5 runs.length q5] 25]) ?_ (fun hS1_3_5_6_7_8_9_10_11 => ?_)
    · rintro ⟨p1, q1, p3, q3, p5, q5, b14, b15, b16, _⟩
      exact qt_nil (hK2 (p1, q1, p3, q3, p5, q5, b14, b15, b16) _ _ ⟨rfl, rfl, rfl, rfl, rfl, rfl, rfl, rfl, rfl, trivial⟩ (by repeat constructor))
    refine qt_let (σ := Option Addr × Nat × Option Addr × Nat × Option Addr × Nat × Nat × Nat × Nat × Unit) (tL1_427ee08) (fun ⟨p1, q1, p3, q3, p5, q5, b14, b15, b16, ()⟩ => [(3, .int .u8 mo), (9, .pointer (some ⟨b9, 0, none⟩)), (10, .slice (some ⟨rg, 0, none⟩) sk rc), (11, .int .i64 (kx + 1 : Nat)), (12, .int .i64 x), (13, .int .i64 y), (14, .pointer (some ⟨b14, 0, none⟩)), (15, .pointer (some ⟨b15, 0, none⟩)), (66, .agg #[.int .i64 sk, .int .i64 err, .slice p5 runs.length q5]), (16, .pointer (some ⟨b16, 0, none⟩))]) (fun ⟨p1, q1, p3, q3, p5, q5, b14, b15, b16, ()⟩ => [.ow (.slice p1 runs.length q1) 33 3 runs.length (rnC runs), .pt b14 [.int .i64 sk, .int .i64 err, .slice p1 runs.length q1] 25, .ow (.slice p3 runs.length q3) 33 3 runs.length (rnC runs), .pt b15 [.int .i64 sk, .int .i64 err, .slice p3 runs.length q3] 25, .ow (.slice p5 runs.length q5) 33 3 runs.length (rnC runs), .pt b16 [.int .i64 0, .int .i64 0, .slice none 0 0] 25]) ?_ (fun hS1_3_5_6_7_8_9_10 => ?_)
    · rintro ⟨p1, q1, p3, q3, p5, q5, b14, b15, b16, _⟩
      refine qt_seg (by repeat (first | exact PickL.nil | (apply PickL.cons; rfl))) fun K1 hK1 => ?_
      (refine qf_setA tabOk rfl rfl rfl rfl rfl (by repeat constructor) rfl ?_; refine qf_nil ?_)
      skip
      exact hK1 _ _ (hS1_3_5_6_7_8_9_10_11 ⟨p1, q1, p3, q3, p5, q5, b14, b15, b16, ()⟩ _ _ ⟨rfl, rfl, rfl, rfl, rfl, rfl, rfl, rfl, rfl, trivial⟩ (by repeat constructor))
    refine qt_let (σ := Option Addr × Nat × Option Addr × Nat × Option Addr × Nat × Nat × Nat × Nat × Unit) (tL1_9d59c50) (fun ⟨p1, q1, p3, q3, p5, q5, b14, b15, b16, ()⟩ => [(3, .int .u8 mo), (9, .pointer (some ⟨b9, 0, none⟩)), (10, .slice (some ⟨rg, 0, none⟩) sk rc), (11, .int .i64 (kx + 1 : Nat)), (12, .int .i64 x), (13, .int .i64 y), (14, .pointer (some ⟨b14, 0, none⟩)), (64, .agg #[.int .i64 sk, .int .i64 err, .slice p3 runs.length q3]), (15, .pointer (some ⟨b15, 0, none⟩)), (66, .agg #[.int .i64 sk, .int .i64 err, .slice p5 runs.length q5]), (16, .pointer (some ⟨b16, 0, none⟩))]) (fun ⟨p1, q1, p3, q3, p5, q5, b14, b15, b16, ()⟩ => [.ow (.slice p1 runs.length q1) 33 3 runs.length (rnC runs), .pt b14 [.int .i64 sk, .int .i64 err, .slice p1 runs.length q1] 25, .ow (.slice p3 runs.length q3) 33 3 runs.length (rnC runs), .pt b15 [.int .i64 0, .int .i64 0, .slice none 0 0] 25, .ow (.slice p5 runs.length q5) 33 3 runs.length (rnC runs), .pt b16 [.int .i64 0, .int .i64 0, .slice none 0 0] 25]) ?_ (fun hS1_3_5_6_7_8_9 => ?_)
    · rintro ⟨p1, q1, p3, q3, p5, q5, b14, b15, b16, _⟩
      refine qt_seg (by repeat (first | exact PickL.nil | (apply PickL.cons; rfl))) fun K1 hK1 => ?_
      (refine qf_setA tabOk rfl rfl rfl rfl rfl (by repeat constructor) rfl ?_; refine qf_nil ?_)
      skip
      exact hK1 _ _ (hS1_3_5_6_7_8_9_10 ⟨p1, q1, p3, q3, p5, q5, b14, b15, b16, ()⟩ _ _ ⟨rfl, rfl, rfl, rfl, rfl, rfl, rfl, rfl, rfl, rfl, trivial⟩ (by repeat constructor))
    refine qt_let (σ := Option Addr × Nat × Option Addr × Nat × Option Addr × Nat × Nat × Nat × Nat × Unit) (tL1_dea3a3e) (fun ⟨p1, q1, p3, q3, p5, q5, b14, b15, b16, ()⟩ => [(3, .int .u8 mo), (9, .pointer (some ⟨b9, 0, none⟩)), (10, .slice (some ⟨rg, 0, none⟩) sk rc), (11, .int .i64 (kx + 1 : Nat)), (12, .int .i64 x), (13, .int .i64 y), (62, .agg #[.int .i64 sk, .int .i64 err, .slice p1 runs.length q1]), (14, .pointer (some ⟨b14, 0, none⟩)), (64, .agg #[.int .i64 sk, .int .i64 err, .slice p3 runs.length q3]), (15, .pointer (some ⟨b15, 0, none⟩)), (66, .agg #[.int .i64 sk, .int .i64 err, .slice p5 runs.length q5]), (16, .pointer (some ⟨b16, 0, none⟩))]) (fun ⟨p1, q1, p3, q3, p5, q5, b14, b15, b16, ()⟩ => [.ow (.slice p1 runs.length q1) 33 3 runs.length (rnC runs), .pt b14 [.int .i64 0, .int .i64 0, .slice none 0 0] 25, .ow (.slice p3 runs.length q3) 33 3 runs.length (rnC runs), .pt b15 [.int .i64 0, .int .i64 0, .slice none 0 0] 25, .ow (.slice p5 runs.length q5) 33 3 runs.length (rnC runs), .pt b16 [.int .i64 0, .int .i64 0, .slice none 0 0] 25]) ?_ (fun hS1_3_5_6_7_8 => ?_)
    · rintro ⟨p1, q1, p3, q3, p5, q5, b14, b15, b16, _⟩
      refine qt_seg (by repeat (first | exact PickL.nil | (apply PickL.cons; rfl))) fun K1 hK1 => ?_
      (refine qf_setA tabOk rfl rfl rfl rfl rfl (by repeat constructor) rfl ?_; refine qf_nil ?_)
      skip
      exact hK1 _ _ (hS1_3_5_6_7_8_9 ⟨p1, q1, p3, q3, p5, q5, b14, b15, b16, ()⟩ _ _ ⟨rfl, rfl, rfl, rfl, rfl, rfl, rfl, rfl, rfl, rfl, rfl, trivial⟩ (by repeat constructor))
    refine qt_let (σ := Option Addr × Nat × Option Addr × Nat × Option Addr × Nat × Nat × Nat × Unit) (tL1_61ea7bf) (fun ⟨p1, q1, p3, q3, p5, q5, b14, b15, ()⟩ => [(3, .int .u8 mo), (9, .pointer (some ⟨b9, 0, none⟩)), (10, .slice (some ⟨rg, 0, none⟩) sk rc), (11, .int .i64 (kx + 1 : Nat)), (12, .int .i64 x), (13, .int .i64 y), (62, .agg #[.int .i64 sk, .int .i64 err, .slice p1 runs.length q1]), (14, .pointer (some ⟨b14, 0, none⟩)), (64, .agg #[.int .i64 sk, .int .i64 err, .slice p3 runs.length q3]), (15, .pointer (some ⟨b15, 0, none⟩)), (66, .agg #[.int .i64 sk, .int .i64 err, .slice p5 runs.length q5])]) (fun ⟨p1, q1, p3, q3, p5, q5, b14, b15, ()⟩ => [.ow (.slice p1 runs.length q1) 33 3 runs.length (rnC runs), .pt b14 [.int .i64 0, .int .i64 0, .slice none 0 0] 25, .ow (.slice p3 runs.length q3) 33 3 runs.length (rnC runs), .pt b15 [.int .i64 0, .int .i64 0, .slice none 0 0] 25, .ow (.slice p5 runs.length q5) 33 3 runs.length (rnC runs)]) ?_ (fun hS1_3_5_6_7 => ?_)
    · rintro ⟨p1, q1, p3, q3, p5, q5, b14, b15, _⟩
      refine qt_seg (by repeat (first | exact PickL.nil | (apply PickL.cons; rfl))) fun K1 hK1 => ?_
      skip
      refine qf_alloc zero25 rfl (fun b16 => ?_)
      (refine qf_nil ?_)
      exact hK1 _ _ (hS1_3_5_6_7_8 ⟨p1, q1, p3, q3, p5, q5, b14, b15, b16, ()⟩ _ _ ⟨rfl, rfl, rfl, rfl, rfl, rfl, rfl, rfl, rfl, rfl, rfl, rfl, trivial⟩ (by repeat constructor))
    refine qt_let (σ := Option Addr × Nat × Option Addr × Nat × Option Addr × Nat × Nat × Nat × Unit) (tL1_701e7fd) (fun ⟨p1, q1, p3, q3, p5, q5, b14, b16, ()⟩ => [(3, .int .u8 mo), (9, .pointer (some ⟨b9, 0, none⟩)), (10, .slice (some ⟨rg, 0, none⟩) sk rc), (11, .int .i64 (kx + 1 : Nat)), (12, .int .i64 x), (13, .int .i64 y), (62, .agg #[.int .i64 sk, .int .i64 err, .slice p1 runs.length q1]), (14, .pointer (some ⟨b14, 0, none⟩)), (64, .agg #[.int .i64 sk, .int .i64 err, .slice p3 runs.length q3]), (66, .agg #[.int .i64 sk, .int .i64 err, .slice p5 runs.length q5]), (16, .pointer (some ⟨b16, 0, none⟩))]) (fun ⟨p1, q1, p3, q3, p5, q5, b14, b16, ()⟩ => [.ow (.slice p1 runs.length q1) 33 3 runs.length (rnC runs), .pt b14 [.int .i64 0, .int .i64 0, .slice none 0 0] 25, .ow (.slice p3 runs.length q3) 33 3 runs.length (rnC runs), .ow (.slice p5 runs.length q5) 33 3 runs.length (rnC runs), .pt b16 [.int .i64 0, .int .i64 0, .slice none 0 0] 25]) ?_ (fun hS1_3_5_6_8 => ?_)
    · rintro ⟨p1, q1, p3, q3, p5, q5, b14, b16, _⟩
      refine qt_seg (by repeat (first | exact PickL.nil | (apply PickL.cons; rfl))) fun K1 hK1 => ?_
      skip
      refine qf_alloc zero25 rfl (fun b15 => ?_)
      (refine qf_nil ?_)
      exact hK1 _ _ (hS1_3_5_6_7_8 ⟨p1, q1, p3, q3, p5, q5, b14, b15, b16, ()⟩ _ _ ⟨rfl, rfl, rfl, rfl, rfl, rfl, rfl, rfl, rfl, rfl, rfl, rfl, trivial⟩ (by repeat constructor))
    refine qt_let (σ := Option Addr × Nat × Option Addr × Nat × Option Addr × Nat × Nat × Nat × Unit) (tL1_71dc740) (fun ⟨p1, q1, p3, q3, p5, q5, b15, b16, ()⟩ => [(3, .int .u8 mo), (9, .pointer (some ⟨b9, 0, none⟩)), (10, .slice (some ⟨rg, 0, none⟩) sk rc), (11, .int .i64 (kx + 1 : Nat)), (12, .int .i64 x), (13, .int .i64 y), (62, .agg #[.int .i64 sk, .int .i64 err, .slice p1 runs.length q1]), (64, .agg #[.int .i64 sk, .int .i64 err, .slice p3 runs.length q3]), (15, .pointer (some ⟨b15, 0, none⟩)), (66, .agg #[.int .i64 sk, .int .i64 err, .slice p5 runs.length q5]), (16, .pointer (some ⟨b16, 0, none⟩))]) (fun ⟨p1, q1, p3, q3, p5, q5, b15, b16, ()⟩ => [.ow (.slice p1 runs.length q1) 33 3 runs.length (rnC runs), .ow (.slice p3 runs.length q3) 33 3 runs.length (rnC runs), .pt b15 [.int .i64 0, .int .i64 0, .slice none 0 0] 25, .ow (.slice p5 runs.length q5) 33 3 runs.length (rnC runs), .pt b16 [.int .i64 0, .int .i64 0, .slice none 0 0] 25]) ?_ (fun hS1_3_5_7_8 => ?_)
    · rintro ⟨p1, q1, p3, q3, p5, q5, b15, b16, _⟩
      refine qt_seg (by repeat (first | exact PickL.nil | (apply PickL.cons; rfl))) fun K1 hK1 => ?_
      skip
      refine qf_alloc zero25 rfl (fun b14 => ?_)
      (refine qf_nil ?_)
      exact hK1 _ _ (hS1_3_5_6_7_8 ⟨p1, q1, p3, q3, p5, q5, b14, b15, b16, ()⟩ _ _ ⟨rfl, rfl, rfl, rfl, rfl, rfl, rfl, rfl, rfl, rfl, rfl, rfl, trivial⟩ (by repeat constructor))
    refine qt_let (σ := Option Addr × Nat × Option Addr × Nat × Nat × Nat × Nat × Unit) (tL1_b70bd3c) (fun ⟨p1, q1, p3, q3, b14, b15, b16, ()⟩ => [(3, .int .u8 mo), (9, .pointer (some ⟨b9, 0, none⟩)), (10, .slice (some ⟨rg, 0, none⟩) sk rc), (11, .int .i64 (kx + 1 : Nat)), (12, .int .i64 x), (13, .int .i64 y), (62, .agg #[.int .i64 sk, .int .i64 err, .slice p1 runs.length q1]), (14, .pointer (some ⟨b14, 0, none⟩)), (64, .agg #[.int .i64 sk, .int .i64 err, .slice p3 runs.length q3]), (15, .pointer (some ⟨b15, 0, none⟩)), (16, .pointer (some ⟨b16, 0, none⟩))]) (fun ⟨p1, q1, p3, q3, b14, b15, b16, ()⟩ => [.ow (.slice p1 runs.length q1) 33 3 runs.length (rnC runs), .pt b14 [.int .i64 0, .int .i64 0, .slice none 0 0] 25, .ow (.slice p3 runs.length q3) 33 3 runs.length (rnC runs), .pt b15 [.int .i64 0, .int .i64 0, .slice none 0 0] 25, .pt b16 [.int .i64 0, .int .i64 0, .slice none 0 0] 25]) ?_ (fun hS1_3_6_7_8 => ?_)
    · rintro ⟨p1, q1, p3, q3, b14, b15, b16, _⟩
      refine qt_seg (by repeat (first | exact PickL.nil | (apply PickL.cons; rfl))) fun K1 hK1 => ?_
      (refine qf_loadABa tabOk rfl rfl rfl ?_)
      refine qf_call (β := Value) tabOk [] _ M0 rfl rfl rfl rfl (Sp.refl _) (fun _ h => h.elim) (fun w' hs => cloneL_ca w' 0 w'.heap.size (⟨(sk : Int), err, runs⟩ : Lb) _ (runs_rd hs (by repeat constructor) rfl) (by show runs.length ≤ 1000; omega)) ?_
      rintro u5 _ rfl
      dsimp only [List.cons_append, List.nil_append, lbC]
      refine qf_fact (fun w hs => hs.slice2 (v := u5) (by repeat constructor)) ?_
      rintro ⟨p5, q5, rfl⟩
      (refine qf_nil ?_)
      exact hK1 _ _ (hS1_3_5_6_7_8 ⟨p1, q1, p3, q3, p5, q5, b14, b15, b16, ()⟩ _ _ ⟨rfl, rfl, rfl, rfl, rfl, rfl, rfl, rfl, rfl, rfl, rfl, rfl, trivial⟩ (by repeat constructor))
    refine qt_let (σ := Option Addr × Nat × Option Addr × Nat × Option Addr × Nat × Nat × Unit) (tL1_5d56ffe) (fun ⟨p1, q1, p3, q3, p5, q5, b14, ()⟩ => [(3, .int .u8 mo), (9, .pointer (some ⟨b9, 0, none⟩)), (10, .slice (some ⟨rg, 0, none⟩) sk rc), (11, .int .i64 (kx + 1 : Nat)), (12, .int .i64 x), (13, .int .i64 y), (62, .agg #[.int .i64 sk, .int .i64 err, .slice p1 runs.length q1]), (14, .pointer (some ⟨b14, 0, none⟩)), (64, .agg #[.int .i64 sk, .int .i64 err, .slice p3 runs.length q3]), (66, .agg #[.int .i64 sk, .int .i64 err, .slice p5 runs.length q5])]) (fun ⟨p1, q1, p3, q3, p5, q5, b14, ()⟩ => [.ow (.slice p1 runs.length q1) 33 3 runs.length (rnC runs), .pt b14 [.int .i64 0, .int .i64 0, .slice none 0 0] 25, .ow (.slice p3 runs.length q3) 33 3 runs.length (rnC runs), .ow (.slice p5 runs.length q5) 33 3 runs.length (rnC runs)]) ?_ (fun hS1_3_5_6 => ?_)
    · rintro ⟨p1, q1, p3, q3, p5, q5, b14, _⟩
      refine qt_alt ?_ ?_
      · skip
        refine qt_seg (by repeat (first | exact PickL.nil | (apply PickL.cons; rfl))) fun K1 hK1 => ?_
        skip
        refine qf_alloc zero25 rfl (fun b15 => ?_)
        (refine qf_nil ?_)
        exact hK1 _ _ (hS1_3_5_6_7 ⟨p1, q1, p3, q3, p5, q5, b14, b15, ()⟩ _ _ ⟨rfl, rfl, rfl, rfl, rfl, rfl, rfl, rfl, rfl, rfl, rfl, trivial⟩ (by repeat constructor))
      · skip
        refine qt_seg (by repeat (first | exact PickL.nil | (apply PickL.cons; rfl))) fun K1 hK1 => ?_
        skip
        refine qf_alloc zero25 rfl (fun b16 => ?_)
        (refine qf_nil ?_)
        exact hK1 _ _ (hS1_3_5_6_8 ⟨p1, q1, p3, q3, p5, q5, b14, b16, ()⟩ _ _ ⟨rfl, rfl, rfl, rfl, rfl, rfl, rfl, rfl, rfl, rfl, rfl, trivial⟩ (by repeat constructor))
    refine qt_let (σ := Option Addr × Nat × Option Addr × Nat × Option Addr × Nat × Nat × Unit) (tL1_351d1e7) (fun ⟨p1, q1, p3, q3, p5, q5, b15, ()⟩ => [(3, .int .u8 mo), (9, .pointer (some ⟨b9, 0, none⟩)), (10, .slice (some ⟨rg, 0, none⟩) sk rc), (11, .int .i64 (kx + 1 : Nat)), (12, .int .i64 x), (13, .int .i64 y), (62, .agg #[.int .i64 sk, .int .i64 err, .slice p1 runs.length q1]), (64, .agg #[.int .i64 sk, .int .i64 err, .slice p3 runs.length q3]), (15, .pointer (some ⟨b15, 0, none⟩)), (66, .agg #[.int .i64 sk, .int .i64 err, .slice p5 runs.length q5])]) (fun ⟨p1, q1, p3, q3, p5, q5, b15, ()⟩ => [.ow (.slice p1 runs.length q1) 33 3 runs.length (rnC runs), .ow (.slice p3 runs.length q3) 33 3 runs.length (rnC runs), .pt b15 [.int .i64 0, .int .i64 0, .slice none 0 0] 25, .ow (.slice p5 runs.length q5) 33 3 runs.length (rnC runs)]) ?_ (fun hS1_3_5_7 => ?_)
    · rintro ⟨p1, q1, p3, q3, p5, q5, b15, _⟩
      refine qt_alt ?_ ?_
      · skip
        refine qt_seg (by repeat (first | exact PickL.nil | (apply PickL.cons; rfl))) fun K1 hK1 => ?_
        skip
        refine qf_alloc zero25 rfl (fun b14 => ?_)
        (refine qf_nil ?_)
        exact hK1 _ _ (hS1_3_5_6_7 ⟨p1, q1, p3, q3, p5, q5, b14, b15, ()⟩ _ _ ⟨rfl, rfl, rfl, rfl, rfl, rfl, rfl, rfl, rfl, rfl, rfl, trivial⟩ (by repeat constructor))
      · skip
        refine qt_seg (by repeat (first | exact PickL.nil | (apply PickL.cons; rfl))) fun K1 hK1 => ?_
        skip
        refine qf_alloc zero25 rfl (fun b16 => ?_)
        (refine qf_nil ?_)
        exact hK1 _ _ (hS1_3_5_7_8 ⟨p1, q1, p3, q3, p5, q5, b15, b16, ()⟩ _ _ ⟨rfl, rfl, rfl, rfl, rfl, rfl, rfl, rfl, rfl, rfl, rfl, trivial⟩ (by repeat constructor))
    refine qt_let (σ := Option Addr × Nat × Option Addr × Nat × Option Addr × Nat × Nat × Unit) (tL1_cef4f6b) (fun ⟨p1, q1, p3, q3, p5, q5, b16, ()⟩ => [(3, .int .u8 mo), (9, .pointer (some ⟨b9, 0, none⟩)), (10, .slice (some ⟨rg, 0, none⟩) sk rc), (11, .int .i64 (kx + 1 : Nat)), (12, .int .i64 x), (13, .int .i64 y), (62, .agg #[.int .i64 sk, .int .i64 err, .slice p1 runs.length q1]), (64, .agg #[.int .i64 sk, .int .i64 err, .slice p3 runs.length q3]), (66, .agg #[.int .i64 sk, .int .i64 err, .slice p5 runs.length q5]), (16, .pointer (some ⟨b16, 0, none⟩))]) (fun ⟨p1, q1, p3, q3, p5, q5, b16, ()⟩ => [.ow (.slice p1 runs.length q1) 33 3 runs.length (rnC runs), .ow (.slice p3 runs.length q3) 33 3 runs.length (rnC runs), .ow (.slice p5 runs.length q5) 33 3 runs.length (rnC runs), .pt b16 [.int .i64 0, .int .i64 0, .slice none 0 0] 25]) ?_ (fun hS1_3_5_8 => ?_)
    · rintro ⟨p1, q1, p3, q3, p5, q5, b16, _⟩
      refine qt_alt ?_ ?_
      · skip
        refine qt_seg (by repeat (first | exact PickL.nil | (apply PickL.cons; rfl))) fun K1 hK1 => ?_
        skip
        refine qf_alloc zero25 rfl (fun b14 => ?_)
        (refine qf_nil ?_)
        exact hK1 _ _ (hS1_3_5_6_8 ⟨p1, q1, p3, q3, p5, q5, b14, b16, ()⟩ _ _ ⟨rfl, rfl, rfl, rfl, rfl, rfl, rfl, rfl, rfl, rfl, rfl, trivial⟩ (by repeat constructor))
      · skip
        refine qt_seg (by repeat (first | exact PickL.nil | (apply PickL.cons; rfl))) fun K1 hK1 => ?_
        skip
        refine qf_alloc zero25 rfl (fun b15 => ?_)
        (refine qf_nil ?_)
        exact hK1 _ _ (hS1_3_5_7_8 ⟨p1, q1, p3, q3, p5, q5, b15, b16, ()⟩ _ _ ⟨rfl, rfl, rfl, rfl, rfl, rfl, rfl, rfl, rfl, rfl, rfl, trivial⟩ (by repeat constructor))
    refine qt_let (σ := Option Addr × Nat × Option Addr × Nat × Nat × Nat × Unit) (tL1_9680bd1) (fun ⟨p1, q1, p3, q3, b14, b15, ()⟩ => [(3, .int .u8 mo), (9, .pointer (some ⟨b9, 0, none⟩)), (10, .slice (some ⟨rg, 0, none⟩) sk rc), (11, .int .i64 (kx + 1 : Nat)), (12, .int .i64 x), (13, .int .i64 y), (62, .agg #[.int .i64 sk, .int .i64 err, .slice p1 runs.length q1]), (14, .pointer (some ⟨b14, 0, none⟩)), (64, .agg #[.int .i64 sk, .int .i64 err, .slice p3 runs.length q3]), (15, .pointer (some ⟨b15, 0, none⟩))]) (fun ⟨p1, q1, p3, q3, b14, b15, ()⟩ => [.ow (.slice p1 runs.length q1) 33 3 runs.length (rnC runs), .pt b14 [.int .i64 0, .int .i64 0, .slice none 0 0] 25, .ow (.slice p3 runs.length q3) 33 3 runs.length (rnC runs), .pt b15 [.int .i64 0, .int .i64 0, .slice none 0 0] 25]) ?_ (fun hS1_3_6_7 => ?_)
    · rintro ⟨p1, q1, p3, q3, b14, b15, _⟩
      refine qt_alt ?_ ?_
      · skip
        refine qt_seg (by repeat (first | exact PickL.nil | (apply PickL.cons; rfl))) fun K1 hK1 => ?_
        (refine qf_loadABa tabOk rfl rfl rfl ?_)
        refine qf_call (β := Value) tabOk [] _ M0 rfl rfl rfl rfl (Sp.refl _) (fun _ h => h.elim) (fun w' hs => cloneL_ca w' 0 w'.heap.size (⟨(sk : Int), err, runs⟩ : Lb) _ (runs_rd hs (by repeat constructor) rfl) (by show runs.length ≤ 1000; omega)) ?_
        rintro u5 _ rfl
        dsimp only [List.cons_append, List.nil_append, lbC]
        refine qf_fact (fun w hs => hs.slice2 (v := u5) (by repeat constructor)) ?_
        rintro ⟨p5, q5, rfl⟩
        (refine qf_nil ?_)
        exact hK1 _ _ (hS1_3_5_6_7 ⟨p1, q1, p3, q3, p5, q5, b14, b15, ()⟩ _ _ ⟨rfl, rfl, rfl, rfl, rfl, rfl, rfl, rfl, rfl, rfl, rfl, trivial⟩ (by repeat constructor))
      · skip
        refine qt_seg (by repeat (first | exact PickL.nil | (apply PickL.cons; rfl))) fun K1 hK1 => ?_
        skip
        refine qf_alloc zero25 rfl (fun b16 => ?_)
        (refine qf_nil ?_)
        exact hK1 _ _ (hS1_3_6_7_8 ⟨p1, q1, p3, q3, b14, b15, b16, ()⟩ _ _ ⟨rfl, rfl, rfl, rfl, rfl, rfl, rfl, rfl, rfl, rfl, rfl, trivial⟩ (by repeat constructor))
    refine qt_let (σ := Option Addr × Nat × Option Addr × Nat × Nat × Nat × Unit) (tL1_31c739e) (fun ⟨p1, q1, p3, q3, b14, b16, ()⟩ => [(3, .int .u8 mo), (9, .pointer (some ⟨b9, 0, none⟩)), (10, .slice (some ⟨rg, 0, none⟩) sk rc), (11, .int .i64 (kx + 1 : Nat)), (12, .int .i64 x), (13, .int .i64 y), (62, .agg #[.int .i64 sk, .int .i64 err, .slice p1 runs.length q1]), (14, .pointer (some ⟨b14, 0, none⟩)), (64, .agg #[.int .i64 sk, .int .i64 err, .slice p3 runs.length q3]), (16, .pointer (some ⟨b16, 0, none⟩))]) (fun ⟨p1, q1, p3, q3, b14, b16, ()⟩ => [.ow (.slice p1 runs.length q1) 33 3 runs.length (rnC runs), .pt b14 [.int .i64 0, .int .i64 0, .slice none 0 0] 25, .ow (.slice p3 runs.length q3) 33 3 runs.length (rnC runs), .pt b16 [.int .i64 0, .int .i64 0, .slice none 0 0] 25]) ?_ (fun hS1_3_6_8 => ?_)
    · rintro ⟨p1, q1, p3, q3, b14, b16, _⟩
      refine qt_alt ?_ ?_
      · skip
        refine qt_seg (by repeat (first | exact PickL.nil | (apply PickL.cons; rfl))) fun K1 hK1 => ?_
        (refine qf_loadABa tabOk rfl rfl rfl ?_)
        refine qf_call (β := Value) tabOk [] _ M0 rfl rfl rfl rfl (Sp.refl _) (fun _ h => h.elim) (fun w' hs => cloneL_ca w' 0 w'.heap.size (⟨(sk : Int), err, runs⟩ : Lb) _ (runs_rd hs (by repeat constructor) rfl) (by show runs.length ≤ 1000; omega)) ?_
        rintro u5 _ rfl
        dsimp only [List.cons_append, List.nil_append, lbC]
        refine qf_fact (fun w hs => hs.slice2 (v := u5) (by repeat constructor)) ?_
        rintro ⟨p5, q5, rfl⟩
        (refine qf_nil ?_)
        exact hK1 _ _ (hS1_3_5_6_8 ⟨p1, q1, p3, q3, p5, q5, b14, b16, ()⟩ _ _ ⟨rfl, rfl, rfl, rfl, rfl, rfl, rfl, rfl, rfl, rfl, rfl, trivial⟩ (by repeat constructor))
      · skip
        refine qt_seg (by repeat (first | exact PickL.nil | (apply PickL.cons; rfl))) fun K1 hK1 => ?_
        skip
        refine qf_alloc zero25 rfl (fun b15 => ?_)
        (refine qf_nil ?_)
        exact hK1 _ _ (hS1_3_6_7_8 ⟨p1, q1, p3, q3, b14, b15, b16, ()⟩ _ _ ⟨rfl, rfl, rfl, rfl, rfl, rfl, rfl, rfl, rfl, rfl, rfl, trivial⟩ (by repeat constructor))
    refine qt_let (σ := Option Addr × Nat × Option Addr × Nat × Nat × Nat × Unit) (tL1_6bbd62e) (fun ⟨p1, q1, p3, q3, b15, b16, ()⟩ => [(3, .int .u8 mo), (9, .pointer (some ⟨b9, 0, none⟩)), (10, .slice (some ⟨rg, 0, none⟩) sk rc), (11, .int .i64 (kx + 1 : Nat)), (12, .int .i64 x), (13, .int .i64 y), (62, .agg #[.int .i64 sk, .int .i64 err, .slice p1 runs.length q1]), (64, .agg #[.int .i64 sk, .int .i64 err, .slice p3 runs.length q3]), (15, .pointer (some ⟨b15, 0, none⟩)), (16, .pointer (some ⟨b16, 0, none⟩))]) (fun ⟨p1, q1, p3, q3, b15, b16, ()⟩ => [.ow (.slice p1 runs.length q1) 33 3 runs.length (rnC runs), .ow (.slice p3 runs.length q3) 33 3 runs.length (rnC runs), .pt b15 [.int .i64 0, .int .i64 0, .slice none 0 0] 25, .pt b16 [.int .i64 0, .int .i64 0, .slice none 0 0] 25]) ?_ (fun hS1_3_7_8 => ?_)
    · rintro ⟨p1, q1, p3, q3, b15, b16, _⟩
      refine qt_alt ?_ ?_
      · skip
        refine qt_seg (by repeat (first | exact PickL.nil | (apply PickL.cons; rfl))) fun K1 hK1 => ?_
        (refine qf_loadABa tabOk rfl rfl rfl ?_)
        refine qf_call (β := Value) tabOk [] _ M0 rfl rfl rfl rfl (Sp.refl _) (fun _ h => h.elim) (fun w' hs => cloneL_ca w' 0 w'.heap.size (⟨(sk : Int), err, runs⟩ : Lb) _ (runs_rd hs (by repeat constructor) rfl) (by show runs.length ≤ 1000; omega)) ?_
        rintro u5 _ rfl
        dsimp only [List.cons_append, List.nil_append, lbC]
        refine qf_fact (fun w hs => hs.slice2 (v := u5) (by repeat constructor)) ?_
        rintro ⟨p5, q5, rfl⟩
        (refine qf_nil ?_)
        exact hK1 _ _ (hS1_3_5_7_8 ⟨p1, q1, p3, q3, p5, q5, b15, b16, ()⟩ _ _ ⟨rfl, rfl, rfl, rfl, rfl, rfl, rfl, rfl, rfl, rfl, rfl, trivial⟩ (by repeat constructor))
      · skip
        refine qt_seg (by repeat (first | exact PickL.nil | (apply PickL.cons; rfl))) fun K1 hK1 => ?_
        skip
        refine qf_alloc zero25 rfl (fun b14 => ?_)
        (refine qf_nil ?_)
        exact hK1 _ _ (hS1_3_6_7_8 ⟨p1, q1, p3, q3, b14, b15, b16, ()⟩ _ _ ⟨rfl, rfl, rfl, rfl, rfl, rfl, rfl, rfl, rfl, rfl, rfl, trivial⟩ (by repeat constructor))
    refine qt_let (σ := Option Addr × Nat × Nat × Nat × Nat × Unit) (tL1_a76512f) (fun ⟨p1, q1, b14, b15, b16, ()⟩ => [(3, .int .u8 mo), (9, .pointer (some ⟨b9, 0, none⟩)), (10, .slice (some ⟨rg, 0, none⟩) sk rc), (11, .int .i64 (kx + 1 : Nat)), (12, .int .i64 x), (13, .int .i64 y), (62, .agg #[.int .i64 sk, .int .i64 err, .slice p1 runs.length q1]), (14, .pointer (some ⟨b14, 0, none⟩)), (15, .pointer (some ⟨b15, 0, none⟩)), (16, .pointer (some ⟨b16, 0, none⟩))]) (fun ⟨p1, q1, b14, b15, b16, ()⟩ => [.ow (.slice p1 runs.length q1) 33 3 runs.length (rnC runs), .pt b14 [.int .i64 0, .int .i64 0, .slice none 0 0] 25, .pt b15 [.int .i64 0, .int .i64 0, .slice none 0 0] 25, .pt b16 [.int .i64 0, .int .i64 0, .slice none 0 0] 25]) ?_ (fun hS1_6_7_8 => ?_)
    · rintro ⟨p1, q1, b14, b15, b16, _⟩
      refine qt_seg (by repeat (first | exact PickL.nil | (apply PickL.cons; rfl))) fun K1 hK1 => ?_
      (refine qf_loadABa tabOk rfl rfl rfl ?_)
      refine qf_call (β := Value) tabOk [] _ M0 rfl rfl rfl rfl (Sp.refl _) (fun _ h => h.elim) (fun w' hs => cloneL_ca w' 0 w'.heap.size (⟨(sk : Int), err, runs⟩ : Lb) _ (runs_rd hs (by repeat constructor) rfl) (by show runs.length ≤ 1000; omega)) ?_
      rintro u3 _ rfl
      dsimp only [List.cons_append, List.nil_append, lbC]
      refine qf_fact (fun w hs => hs.slice2 (v := u3) (by repeat constructor)) ?_
      rintro ⟨p3, q3, rfl⟩
      (refine qf_nil ?_)
      exact hK1 _ _ (hS1_3_6_7_8 ⟨p1, q1, p3, q3, b14, b15, b16, ()⟩ _ _ ⟨rfl, rfl, rfl, rfl, rfl, rfl, rfl, rfl, rfl, rfl, rfl, trivial⟩ (by repeat constructor))
    refine qt_let (σ := Option Addr × Nat × Option Addr × Nat × Option Addr × Nat × Unit) (tL1_9513658) (fun ⟨p1, q1, p3, q3, p5, q5, ()⟩ => [(3, .int .u8 mo), (9, .pointer (some ⟨b9, 0, none⟩)), (10, .slice (some ⟨rg, 0, none⟩) sk rc), (11, .int .i64 (kx + 1 : Nat)), (12, .int .i64 x), (13, .int .i64 y), (62, .agg #[.int .i64 sk, .int .i64 err, .slice p1 runs.length q1]), (64, .agg #[.int .i64 sk, .int .i64 err, .slice p3 runs.length q3]), (66, .agg #[.int .i64 sk, .int .i64 err, .slice p5 runs.length q5])]) (fun ⟨p1, q1, p3, q3, p5, q5, ()⟩ => [.ow (.slice p1 runs.length q1) 33 3 runs.length (rnC runs), .ow (.slice p3 runs.length q3) 33 3 runs.length (rnC runs), .ow (.slice p5 runs.length q5) 33 3 runs.length (rnC runs)]) ?_ (fun hS1_3_5 => ?_)
    · rintro ⟨p1, q1, p3, q3, p5, q5, _⟩
      refine qt_alt ?_ (qt_alt ?_ ?_)
      · skip
        refine qt_seg (by repeat (first | exact PickL.nil | (apply PickL.cons; rfl))) fun K1 hK1 => ?_
        skip
        refine qf_alloc zero25 rfl (fun b14 => ?_)
        (refine qf_nil ?_)
        exact hK1 _ _ (hS1_3_5_6 ⟨p1, q1, p3, q3, p5, q5, b14, ()⟩ _ _ ⟨rfl, rfl, rfl, rfl, rfl, rfl, rfl, rfl, rfl, rfl, trivial⟩ (by repeat constructor))
      · skip
        refine qt_seg (by repeat (first | exact PickL.nil | (apply PickL.cons; rfl))) fun K1 hK1 => ?_
        skip
        refine qf_alloc zero25 rfl (fun b15 => ?_)
        (refine qf_nil ?_)
        exact hK1 _ _ (hS1_3_5_7 ⟨p1, q1, p3, q3, p5, q5, b15, ()⟩ _ _ ⟨rfl, rfl, rfl, rfl, rfl, rfl, rfl, rfl, rfl, rfl, trivial⟩ (by repeat constructor))
      · skip
        refine qt_seg (by repeat (first | exact PickL.nil | (apply PickL.cons; rfl))) fun K1 hK1 => ?_
        skip
        refine qf_alloc zero25 rfl (fun b16 => ?_)
        (refine qf_nil ?_)
        exact hK1 _ _ (hS1_3_5_8 ⟨p1, q1, p3, q3, p5, q5, b16, ()⟩ _ _ ⟨rfl, rfl, rfl, rfl, rfl, rfl, rfl, rfl, rfl, rfl, trivial⟩ (by repeat constructor))
    refine qt_let (σ := Option Addr × Nat × Option Addr × Nat × Nat × Unit) (tL1_5a1af78) (fun ⟨p1, q1, p3, q3, b14, ()⟩ => [(3, .int .u8 mo), (9, .pointer (some ⟨b9, 0, none⟩)), (10, .slice (some ⟨rg, 0, none⟩) sk rc), (11, .int .i64 (kx + 1 : Nat)), (12, .int .i64 x), (13, .int .i64 y), (62, .agg #[.int .i64 sk, .int .i64 err, .slice p1 runs.length q1]), (14, .pointer (some ⟨b14, 0, none⟩)), (64, .agg #[.int .i64 sk, .int .i64 err, .slice p3 runs.length q3])]) (fun ⟨p1, q1, p3, q3, b14, ()⟩ => [.ow (.slice p1 runs.length q1) 33 3 runs.length (rnC runs), .pt b14 [.int .i64 0, .int .i64 0, .slice none 0 0] 25, .ow (.slice p3 runs.length q3) 33 3 runs.length (rnC runs)]) ?_ (fun hS1_3_6 => ?_)
    · rintro ⟨p1, q1, p3, q3, b14, _⟩
      refine qt_alt ?_ (qt_alt ?_ ?_)
      · skip
        refine qt_seg (by repeat (first | exact PickL.nil | (apply PickL.cons; rfl))) fun K1 hK1 => ?_
        (refine qf_loadABa tabOk rfl rfl rfl ?_)
        refine qf_call (β := Value) tabOk [] _ M0 rfl rfl rfl rfl (Sp.refl _) (fun _ h => h.elim) (fun w' hs => cloneL_ca w' 0 w'.heap.size (⟨(sk : Int), err, runs⟩ : Lb) _ (runs_rd hs (by repeat constructor) rfl) (by show runs.length ≤ 1000; omega)) ?_
        rintro u5 _ rfl
        dsimp only [List.cons_append, List.nil_append, lbC]
        refine qf_fact (fun w hs => hs.slice2 (v := u5) (by repeat constructor)) ?_
        rintro ⟨p5, q5, rfl⟩
        (refine qf_nil ?_)
        exact hK1 _ _ (hS1_3_5_6 ⟨p1, q1, p3, q3, p5, q5, b14, ()⟩ _ _ ⟨rfl, rfl, rfl, rfl, rfl, rfl, rfl, rfl, rfl, rfl, trivial⟩ (by repeat constructor))
      · skip
        refine qt_seg (by repeat (first | exact PickL.nil | (apply PickL.cons; rfl))) fun K1 hK1 => ?_
        skip
        refine qf_alloc zero25 rfl (fun b15 => ?_)
        (refine qf_nil ?_)
        exact hK1 _ _ (hS1_3_6_7 ⟨p1, q1, p3, q3, b14, b15, ()⟩ _ _ ⟨rfl, rfl, rfl, rfl, rfl, rfl, rfl, rfl, rfl, rfl, trivial⟩ (by repeat constructor))
      · skip
        refine qt_seg (by repeat (first | exact PickL.nil | (apply PickL.cons; rfl))) fun K1 hK1 => ?_
        skip
        refine qf_alloc zero25 rfl (fun b16 => ?_)
        (refine qf_nil ?_)
        exact hK1 _ _ (hS1_3_6_8 ⟨p1, q1, p3, q3, b14, b16, ()⟩ _ _ ⟨rfl, rfl, rfl, rfl, rfl, rfl, rfl, rfl, rfl, rfl, trivial⟩ (by repeat constructor))
    refine qt_let (σ := Option Addr × Nat × Option Addr × Nat × Nat × Unit) (tL1_d69d1ab) (fun ⟨p1, q1, p3, q3, b15, ()⟩ => [(3, .int .u8 mo), (9, .pointer (some ⟨b9, 0, none⟩)), (10, .slice (some ⟨rg, 0, none⟩) sk rc), (11, .int .i64 (kx + 1 : Nat)), (12, .int .i64 x), (13, .int .i64 y), (62, .agg #[.int .i64 sk, .int .i64 err, .slice p1 runs.length q1]), (64, .agg #[.int .i64 sk, .int .i64 err, .slice p3 runs.length q3]), (15, .pointer (some ⟨b15, 0, none⟩))]) (fun ⟨p1, q1, p3, q3, b15, ()⟩ => [.ow (.slice p1 runs.length q1) 33 3 runs.length (rnC runs), .ow (.slice p3 runs.length q3) 33 3 runs.length (rnC runs), .pt b15 [.int .i64 0, .int .i64 0, .slice none 0 0] 25]) ?_ (fun hS1_3_7 => ?_)
    · rintro ⟨p1, q1, p3, q3, b15, _⟩
      refine qt_alt ?_ (qt_alt ?_ ?_)
      · skip
        refine qt_seg (by repeat (first | exact PickL.nil | (apply PickL.cons; rfl))) fun K1 hK1 => ?_
        (refine qf_loadABa tabOk rfl rfl rfl ?_)
        refine qf_call (β := Value) tabOk [] _ M0 rfl rfl rfl rfl (Sp.refl _) (fun _ h => h.elim) (fun w' hs => cloneL_ca w' 0 w'.heap.size (⟨(sk : Int), err, runs⟩ : Lb) _ (runs_rd hs (by repeat constructor) rfl) (by show runs.length ≤ 1000; omega)) ?_
        rintro u5 _ rfl
        dsimp only [List.cons_append, List.nil_append, lbC]
        refine qf_fact (fun w hs => hs.slice2 (v := u5) (by repeat constructor)) ?_
        rintro ⟨p5, q5, rfl⟩
        (refine qf_nil ?_)
        exact hK1 _ _ (hS1_3_5_7 ⟨p1, q1, p3, q3, p5, q5, b15, ()⟩ _ _ ⟨rfl, rfl, rfl, rfl, rfl, rfl, rfl, rfl, rfl, rfl, trivial⟩ (by repeat constructor))
      · skip
        refine qt_seg (by repeat (first | exact PickL.nil | (apply PickL.cons; rfl))) fun K1 hK1 => ?_
        skip
        refine qf_alloc zero25 rfl (fun b14 => ?_)
        (refine qf_nil ?_)
        exact hK1 _ _ (hS1_3_6_7 ⟨p1, q1, p3, q3, b14, b15, ()⟩ _ _ ⟨rfl, rfl, rfl, rfl, rfl, rfl, rfl, rfl, rfl, rfl, trivial⟩ (by repeat constructor))
      · skip
        refine qt_seg (by repeat (first | exact PickL.nil | (apply PickL.cons; rfl))) fun K1 hK1 => ?_
        skip
        refine qf_alloc zero25 rfl (fun b16 => ?_)
        (refine qf_nil ?_)
        exact hK1 _ _ (hS1_3_7_8 ⟨p1, q1, p3, q3, b15, b16, ()⟩ _ _ ⟨rfl, rfl, rfl, rfl, rfl, rfl, rfl, rfl, rfl, rfl, trivial⟩ (by repeat constructor))
    refine qt_let (σ := Option Addr × Nat × Option Addr × Nat × Nat × Unit) (tL1_2389ef3) (fun ⟨p1, q1, p3, q3, b16, ()⟩ => [(3, .int .u8 mo), (9, .pointer (some ⟨b9, 0, none⟩)), (10, .slice (some ⟨rg, 0, none⟩) sk rc), (11, .int .i64 (kx + 1 : Nat)), (12, .int .i64 x), (13, .int .i64 y), (62, .agg #[.int .i64 sk, .int .i64 err, .slice p1 runs.length q1]), (64, .agg #[.int .i64 sk, .int .i64 err, .slice p3 runs.length q3]), (16, .pointer (some ⟨b16, 0, none⟩))]) (fun ⟨p1, q1, p3, q3, b16, ()⟩ => [.ow (.slice p1 runs.length q1) 33 3 runs.length (rnC runs), .ow (.slice p3 runs.length q3) 33 3 runs.length (rnC runs), .pt b16 [.int .i64 0, .int .i64 0, .slice none 0 0] 25]) ?_ (fun hS1_3_8 => ?_)
    · rintro ⟨p1, q1, p3, q3, b16, _⟩
      refine qt_alt ?_ (qt_alt ?_ ?_)
      · skip
        refine qt_seg (by repeat (first | exact PickL.nil | (apply PickL.cons; rfl))) fun K1 hK1 => ?_
        (refine qf_loadABa tabOk rfl rfl rfl ?_)
        refine qf_call (β := Value) tabOk [] _ M0 rfl rfl rfl rfl (Sp.refl _) (fun _ h => h.elim) (fun w' hs => cloneL_ca w' 0 w'.heap.size (⟨(sk : Int), err, runs⟩ : Lb) _ (runs_rd hs (by repeat constructor) rfl) (by show runs.length ≤ 1000; omega)) ?_
        rintro u5 _ rfl
        dsimp only [List.cons_append, List.nil_append, lbC]
        refine qf_fact (fun w hs => hs.slice2 (v := u5) (by repeat constructor)) ?_
        rintro ⟨p5, q5, rfl⟩
        (refine qf_nil ?_)
        exact hK1 _ _ (hS1_3_5_8 ⟨p1, q1, p3, q3, p5, q5, b16, ()⟩ _ _ ⟨rfl, rfl, rfl, rfl, rfl, rfl, rfl, rfl, rfl, rfl, trivial⟩ (by repeat constructor))
      · skip
        refine qt_seg (by repeat (first | exact PickL.nil | (apply PickL.cons; rfl))) fun K1 hK1 => ?_
        skip
        refine qf_alloc zero25 rfl (fun b14 => ?_)
        (refine qf_nil ?_)
        exact hK1 _ _ (hS1_3_6_8 ⟨p1, q1, p3, q3, b14, b16, ()⟩ _ _ ⟨rfl, rfl, rfl, rfl, rfl, rfl, rfl, rfl, rfl, rfl, trivial⟩ (by repeat constructor))
      · skip
        refine qt_seg (by repeat (first | exact PickL.nil | (apply PickL.cons; rfl))) fun K1 hK1 => ?_
        skip
        refine qf_alloc zero25 rfl (fun b15 => ?_)
        (refine qf_nil ?_)
        exact hK1 _ _ (hS1_3_7_8 ⟨p1, q1, p3, q3, b15, b16, ()⟩ _ _ ⟨rfl, rfl, rfl, rfl, rfl, rfl, rfl, rfl, rfl, rfl, trivial⟩ (by repeat constructor))
    refine qt_let (σ := Option Addr × Nat × Nat × Nat × Unit) (tL1_3a83534) (fun ⟨p1, q1, b14, b15, ()⟩ => [(3, .int .u8 mo), (9, .pointer (some ⟨b9, 0, none⟩)), (10, .slice (some ⟨rg, 0, none⟩) sk rc), (11, .int .i64 (kx + 1 : Nat)), (12, .int .i64 x), (13, .int .i64 y), (62, .agg #[.int .i64 sk, .int .i64 err, .slice p1 runs.length q1]), (14, .pointer (some ⟨b14, 0, none⟩)), (15, .pointer (some ⟨b15, 0, none⟩))]) (fun ⟨p1, q1, b14, b15, ()⟩ => [.ow (.slice p1 runs.length q1) 33 3 runs.length (rnC runs), .pt b14 [.int .i64 0, .int .i64 0, .slice none 0 0] 25, .pt b15 [.int .i64 0, .int .i64 0, .slice none 0 0] 25]) ?_ (fun hS1_6_7 => ?_)
    · rintro ⟨p1, q1, b14, b15, _⟩
      refine qt_alt ?_ ?_
      · skip
        refine qt_seg (by repeat (first | exact PickL.nil | (apply PickL.cons; rfl))) fun K1 hK1 => ?_
        (refine qf_loadABa tabOk rfl rfl rfl ?_)
        refine qf_call (β := Value) tabOk [] _ M0 rfl rfl rfl rfl (Sp.refl _) (fun _ h => h.elim) (fun w' hs => cloneL_ca w' 0 w'.heap.size (⟨(sk : Int), err, runs⟩ : Lb) _ (runs_rd hs (by repeat constructor) rfl) (by show runs.length ≤ 1000; omega)) ?_
        rintro u3 _ rfl
        dsimp only [List.cons_append, List.nil_append, lbC]
        refine qf_fact (fun w hs => hs.slice2 (v := u3) (by repeat constructor)) ?_
        rintro ⟨p3, q3, rfl⟩
        (refine qf_nil ?_)
        exact hK1 _ _ (hS1_3_6_7 ⟨p1, q1, p3, q3, b14, b15, ()⟩ _ _ ⟨rfl, rfl, rfl, rfl, rfl, rfl, rfl, rfl, rfl, rfl, trivial⟩ (by repeat constructor))
      · skip
        refine qt_seg (by repeat (first | exact PickL.nil | (apply PickL.cons; rfl))) fun K1 hK1 => ?_
        skip
        refine qf_alloc zero25 rfl (fun b16 => ?_)
        (refine qf_nil ?_)
        exact hK1 _ _ (hS1_6_7_8 ⟨p1, q1, b14, b15, b16, ()⟩ _ _ ⟨rfl, rfl, rfl, rfl, rfl, rfl, rfl, rfl, rfl, rfl, trivial⟩ (by repeat constructor))
    refine qt_let (σ := Option Addr × Nat × Nat × Nat × Unit) (tL1_5d340b5) (fun ⟨p1, q1, b14, b16, ()⟩ => [(3, .int .u8 mo), (9, .pointer (some ⟨b9, 0, none⟩)), (10, .slice (some ⟨rg, 0, none⟩) sk rc), (11, .int .i64 (kx + 1 : Nat)), (12, .int .i64 x), (13, .int .i64 y), (62, .agg #[.int .i64 sk, .int .i64 err, .slice p1 runs.length q1]), (14, .pointer (some ⟨b14, 0, none⟩)), (16, .pointer (some ⟨b16, 0, none⟩))]) (fun ⟨p1, q1, b14, b16, ()⟩ => [.ow (.slice p1 runs.length q1) 33 3 runs.length (rnC runs), .pt b14 [.int .i64 0, .int .i64 0, .slice none 0 0] 25, .pt b16 [.int .i64 0, .int .i64 0, .slice none 0 0] 25]) ?_ (fun hS1_6_8 => ?_)
    · rintro ⟨p1, q1, b14, b16, _⟩
      refine qt_alt ?_ ?_
      · skip
        refine qt_seg (by repeat (first | exact PickL.nil | (apply PickL.cons; rfl))) fun K1 hK1 => ?_
        (refine qf_loadABa tabOk rfl rfl rfl ?_)
        refine qf_call (β := Value) tabOk [] _ M0 rfl rfl rfl rfl (Sp.refl _) (fun _ h => h.elim) (fun w' hs => cloneL_ca w' 0 w'.heap.size (⟨(sk : Int), err, runs⟩ : Lb) _ (runs_rd hs (by repeat constructor) rfl) (by show runs.length ≤ 1000; omega)) ?_
        rintro u3 _ rfl
        dsimp only [List.cons_append, List.nil_append, lbC]
        refine qf_fact (fun w hs => hs.slice2 (v := u3) (by repeat constructor)) ?_
        rintro ⟨p3, q3, rfl⟩
        (refine qf_nil ?_)
        exact hK1 _ _ (hS1_3_6_8 ⟨p1, q1, p3, q3, b14, b16, ()⟩ _ _ ⟨rfl, rfl, rfl, rfl, rfl, rfl, rfl, rfl, rfl, rfl, trivial⟩ (by repeat constructor))
      · skip
        refine qt_seg (by repeat (first | exact PickL.nil | (apply PickL.cons; rfl))) fun K1 hK1 => ?_
        skip
        refine qf_alloc zero25 rfl (fun b15 => ?_)
        (refine qf_nil ?_)
        exact hK1 _ _ (hS1_6_7_8 ⟨p1, q1, b14, b15, b16, ()⟩ _ _ ⟨rfl, rfl, rfl, rfl, rfl, rfl, rfl, rfl, rfl, rfl, trivial⟩ (by repeat constructor))
    refine qt_let (σ := Option Addr × Nat × Nat × Nat × Unit) (tL1_1dccc0a) (fun ⟨p1, q1, b15, b16, ()⟩ => [(3, .int .u8 mo), (9, .pointer (some ⟨b9, 0, none⟩)), (10, .slice (some ⟨rg, 0, none⟩) sk rc), (11, .int .i64 (kx + 1 : Nat)), (12, .int .i64 x), (13, .int .i64 y), (62, .agg #[.int .i64 sk, .int .i64 err, .slice p1 runs.length q1]), (15, .pointer (some ⟨b15, 0, none⟩)), (16, .pointer (some ⟨b16, 0, none⟩))]) (fun ⟨p1, q1, b15, b16, ()⟩ => [.ow (.slice p1 runs.length q1) 33 3 runs.length (rnC runs), .pt b15 [.int .i64 0, .int .i64 0, .slice none 0 0] 25, .pt b16 [.int .i64 0, .int .i64 0, .slice none 0 0] 25]) ?_ (fun hS1_7_8 => ?_)
    · rintro ⟨p1, q1, b15, b16, _⟩
      refine qt_alt ?_ ?_
      · skip
        refine qt_seg (by repeat (first | exact PickL.nil | (apply PickL.cons; rfl))) fun K1 hK1 => ?_
        (refine qf_loadABa tabOk rfl rfl rfl ?_)
        refine qf_call (β := Value) tabOk [] _ M0 rfl rfl rfl rfl (Sp.refl _) (fun _ h => h.elim) (fun w' hs => cloneL_ca w' 0 w'.heap.size (⟨(sk : Int), err, runs⟩ : Lb) _ (runs_rd hs (by repeat constructor) rfl) (by show runs.length ≤ 1000; omega)) ?_
        rintro u3 _ rfl
        dsimp only [List.cons_append, List.nil_append, lbC]
        refine qf_fact (fun w hs => hs.slice2 (v := u3) (by repeat constructor)) ?_
        rintro ⟨p3, q3, rfl⟩
        (refine qf_nil ?_)
        exact hK1 _ _ (hS1_3_7_8 ⟨p1, q1, p3, q3, b15, b16, ()⟩ _ _ ⟨rfl, rfl, rfl, rfl, rfl, rfl, rfl, rfl, rfl, rfl, trivial⟩ (by repeat constructor))
      · skip
        refine qt_seg (by repeat (first | exact PickL.nil | (apply PickL.cons; rfl))) fun K1 hK1 => ?_
        skip
        refine qf_alloc zero25 rfl (fun b14 => ?_)
        (refine qf_nil ?_)
        exact hK1 _ _ (hS1_6_7_8 ⟨p1, q1, b14, b15, b16, ()⟩ _ _ ⟨rfl, rfl, rfl, rfl, rfl, rfl, rfl, rfl, rfl, rfl, trivial⟩ (by repeat constructor))
    refine qt_let (σ := Nat × Nat × Nat × Unit) (tL1_6ff872e) (fun ⟨b14, b15, b16, ()⟩ => [(3, .int .u8 mo), (9, .pointer (some ⟨b9, 0, none⟩)), (10, .slice (some ⟨rg, 0, none⟩) sk rc), (11, .int .i64 (kx + 1 : Nat)), (12, .int .i64 x), (13, .int .i64 y), (14, .pointer (some ⟨b14, 0, none⟩)), (15, .pointer (some ⟨b15, 0, none⟩)), (16, .pointer (some ⟨b16, 0, none⟩))]) (fun ⟨b14, b15, b16, ()⟩ => [.pt b14 [.int .i64 0, .int .i64 0, .slice none 0 0] 25, .pt b15 [.int .i64 0, .int .i64 0, .slice none 0 0] 25, .pt b16 [.int .i64 0, .int .i64 0, .slice none 0 0] 25]) ?_ (fun hS6_7_8 => ?_)
    · rintro ⟨b14, b15, b16, _⟩
      refine qt_seg (by repeat (first | exact PickL.nil | (apply PickL.cons; rfl))) fun K1 hK1 => ?_
      (refine qf_loadABa tabOk rfl rfl rfl ?_)
      refine qf_call (β := Value) tabOk [] _ M0 rfl rfl rfl rfl (Sp.refl _) (fun _ h => h.elim) (fun w' hs => cloneL_ca w' 0 w'.heap.size (⟨(sk : Int), err, runs⟩ : Lb) _ (runs_rd hs (by repeat constructor) rfl) (by show runs.length ≤ 1000; omega)) ?_
      rintro u1 _ rfl
      dsimp only [List.cons_append, List.nil_append, lbC]
      refine qf_fact (fun w hs => hs.slice2 (v := u1) (by repeat constructor)) ?_
      rintro ⟨p1, q1, rfl⟩
      (refine qf_nil ?_)
      exact hK1 _ _ (hS1_6_7_8 ⟨p1, q1, b14, b15, b16, ()⟩ _ _ ⟨rfl, rfl, rfl, rfl, rfl, rfl, rfl, rfl, rfl, rfl, trivial⟩ (by repeat constructor))
    refine qt_let (σ := Option Addr × Nat × Option Addr × Nat × Unit) (tL1_f81beb6) (fun ⟨p1, q1, p3, q3, ()⟩ => [(3, .int .u8 mo), (9, .pointer (some ⟨b9, 0, none⟩)), (10, .slice (some ⟨rg, 0, none⟩) sk rc), (11, .int .i64 (kx + 1 : Nat)), (12, .int .i64 x), (13, .int .i64 y), (62, .agg #[.int .i64 sk, .int .i64 err, .slice p1 runs.length q1]), (64, .agg #[.int .i64 sk, .int .i64 err, .slice p3 runs.length q3])]) (fun ⟨p1, q1, p3, q3, ()⟩ => [.ow (.slice p1 runs.length q1) 33 3 runs.length (rnC runs), .ow (.slice p3 runs.length q3) 33 3 runs.length (rnC runs)]) ?_ (fun hS1_3 => ?_)
    · rintro ⟨p1, q1, p3, q3, _⟩
      refine qt_alt ?_ (qt_alt ?_ (qt_alt ?_ ?_))
      · skip
        refine qt_seg (by repeat (first | exact PickL.nil | (apply PickL.cons; rfl))) fun K1 hK1 => ?_
        (refine qf_loadABa tabOk rfl rfl rfl ?_)
        refine qf_call (β := Value) tabOk [] _ M0 rfl rfl rfl rfl (Sp.refl _) (fun _ h => h.elim) (fun w' hs => cloneL_ca w' 0 w'.heap.size (⟨(sk : Int), err, runs⟩ : Lb) _ (runs_rd hs (by repeat constructor) rfl) (by show runs.length ≤ 1000; omega)) ?_
        rintro u5 _ rfl
        dsimp only [List.cons_append, List.nil_append, lbC]
        refine qf_fact (fun w hs => hs.slice2 (v := u5) (by repeat constructor)) ?_
        rintro ⟨p5, q5, rfl⟩
        (refine qf_nil ?_)
        exact hK1 _ _ (hS1_3_5 ⟨p1, q1, p3, q3, p5, q5, ()⟩ _ _ ⟨rfl, rfl, rfl, rfl, rfl, rfl, rfl, rfl, rfl, trivial⟩ (by repeat constructor))
      · skip
        refine qt_seg (by repeat (first | exact PickL.nil | (apply PickL.cons; rfl))) fun K1 hK1 => ?_
        skip
        refine qf_alloc zero25 rfl (fun b14 => ?_)
        (refine qf_nil ?_)
        exact hK1 _ _ (hS1_3_6 ⟨p1, q1, p3, q3, b14, ()⟩ _ _ ⟨rfl, rfl, rfl, rfl, rfl, rfl, rfl, rfl, rfl, trivial⟩ (by repeat constructor))
      · skip
        refine qt_seg (by repeat (first | exact PickL.nil | (apply PickL.cons; rfl))) fun K1 hK1 => ?_
        skip
        refine qf_alloc zero25 rfl (fun b15 => ?_)
        (refine qf_nil ?_)
        exact hK1 _ _ (hS1_3_7 ⟨p1, q1, p3, q3, b15, ()⟩ _ _ ⟨rfl, rfl, rfl, rfl, rfl, rfl, rfl, rfl, rfl, trivial⟩ (by repeat constructor))
      · skip
        refine qt_seg (by repeat (first | exact PickL.nil | (apply PickL.cons; rfl))) fun K1 hK1 => ?_
        skip
        refine qf_alloc zero25 rfl (fun b16 => ?_)
        (refine qf_nil ?_)
        exact hK1 _ _ (hS1_3_8 ⟨p1, q1, p3, q3, b16, ()⟩ _ _ ⟨rfl, rfl, rfl, rfl, rfl, rfl, rfl, rfl, rfl, trivial⟩ (by repeat constructor))
    refine qt_let (σ := Option Addr × Nat × Nat × Unit) (tL1_a6848e1) (fun ⟨p1, q1, b14, ()⟩ => [(3, .int .u8 mo), (9, .pointer (some ⟨b9, 0, none⟩)), (10, .slice (some ⟨rg, 0, none⟩) sk rc), (11, .int .i64 (kx + 1 : Nat)), (12, .int .i64 x), (13, .int .i64 y), (62, .agg #[.int .i64 sk, .int .i64 err, .slice p1 runs.length q1]), (14, .pointer (some ⟨b14, 0, none⟩))]) (fun ⟨p1, q1, b14, ()⟩ => [.ow (.slice p1 runs.length q1) 33 3 runs.length (rnC runs), .pt b14 [.int .i64 0, .int .i64 0, .slice none 0 0] 25]) ?_ (fun hS1_6 => ?_)
    · rintro ⟨p1, q1, b14, _⟩
      refine qt_alt ?_ (qt_alt ?_ ?_)
      · skip
        refine qt_seg (by repeat (first | exact PickL.nil | (apply PickL.cons; rfl))) fun K1 hK1 => ?_
        (refine qf_loadABa tabOk rfl rfl rfl ?_)
        refine qf_call (β := Value) tabOk [] _ M0 rfl rfl rfl rfl (Sp.refl _) (fun _ h => h.elim) (fun w' hs => cloneL_ca w' 0 w'.heap.size (⟨(sk : Int), err, runs⟩ : Lb) _ (runs_rd hs (by repeat constructor) rfl) (by show runs.length ≤ 1000; omega)) ?_
        rintro u3 _ rfl
        dsimp only [List.cons_append, List.nil_append, lbC]
        refine qf_fact (fun w hs => hs.slice2 (v := u3) (by repeat constructor)) ?_
        rintro ⟨p3, q3, rfl⟩
        (refine qf_nil ?_)
        exact hK1 _ _ (hS1_3_6 ⟨p1, q1, p3, q3, b14, ()⟩ _ _ ⟨rfl, rfl, rfl, rfl, rfl, rfl, rfl, rfl, rfl, trivial⟩ (by repeat constructor))
      · skip
        refine qt_seg (by repeat (first | exact PickL.nil | (apply PickL.cons; rfl))) fun K1 hK1 => ?_
        skip
        refine qf_alloc zero25 rfl (fun b15 => ?_)
        (refine qf_nil ?_)
        exact hK1 _ _ (hS1_6_7 ⟨p1, q1, b14, b15, ()⟩ _ _ ⟨rfl, rfl, rfl, rfl, rfl, rfl, rfl, rfl, rfl, trivial⟩ (by repeat constructor))
      · skip
        refine qt_seg (by repeat (first | exact PickL.nil | (apply PickL.cons; rfl))) fun K1 hK1 => ?_
        skip
        refine qf_alloc zero25 rfl (fun b16 => ?_)
        (refine qf_nil ?_)
        exact hK1 _ _ (hS1_6_8 ⟨p1, q1, b14, b16, ()⟩ _ _ ⟨rfl, rfl, rfl, rfl, rfl, rfl, rfl, rfl, rfl, trivial⟩ (by repeat constructor))
    refine qt_let (σ := Option Addr × Nat × Nat × Unit) (tL1_cebb912) (fun ⟨p1, q1, b15, ()⟩ => [(3, .int .u8 mo), (9, .pointer (some ⟨b9, 0, none⟩)), (10, .slice (some ⟨rg, 0, none⟩) sk rc), (11, .int .i64 (kx + 1 : Nat)), (12, .int .i64 x), (13, .int .i64 y), (62, .agg #[.int .i64 sk, .int .i64 err, .slice p1 runs.length q1]), (15, .pointer (some ⟨b15, 0, none⟩))]) (fun ⟨p1, q1, b15, ()⟩ => [.ow (.slice p1 runs.length q1) 33 3 runs.length (rnC runs), .pt b15 [.int .i64 0, .int .i64 0, .slice none 0 0] 25]) ?_ (fun hS1_7 => ?_)
    · rintro ⟨p1, q1, b15, _⟩
      refine qt_alt ?_ (qt_alt ?_ ?_)
      · skip
        refine qt_seg (by repeat (first | exact PickL.nil | (apply PickL.cons; rfl))) fun K1 hK1 => ?_
        (refine qf_loadABa tabOk rfl rfl rfl ?_)
        refine qf_call (β := Value) tabOk [] _ M0 rfl rfl rfl rfl (Sp.refl _) (fun _ h => h.elim) (fun w' hs => cloneL_ca w' 0 w'.heap.size (⟨(sk : Int), err, runs⟩ : Lb) _ (runs_rd hs (by repeat constructor) rfl) (by show runs.length ≤ 1000; omega)) ?_
        rintro u3 _ rfl
        dsimp only [List.cons_append, List.nil_append, lbC]
        refine qf_fact (fun w hs => hs.slice2 (v := u3) (by repeat constructor)) ?_
        rintro ⟨p3, q3, rfl⟩
        (refine qf_nil ?_)
        exact hK1 _ _ (hS1_3_7 ⟨p1, q1, p3, q3, b15, ()⟩ _ _ ⟨rfl, rfl, rfl, rfl, rfl, rfl, rfl, rfl, rfl, trivial⟩ (by repeat constructor))
      · skip
        refine qt_seg (by repeat (first | exact PickL.nil | (apply PickL.cons; rfl))) fun K1 hK1 => ?_
        skip
        refine qf_alloc zero25 rfl (fun b14 => ?_)
        (refine qf_nil ?_)
        exact hK1 _ _ (hS1_6_7 ⟨p1, q1, b14, b15, ()⟩ _ _ ⟨rfl, rfl, rfl, rfl, rfl, rfl, rfl, rfl, rfl, trivial⟩ (by repeat constructor))
      · skip
        refine qt_seg (by repeat (first | exact PickL.nil | (apply PickL.cons; rfl))) fun K1 hK1 => ?_
        skip
        refine qf_alloc zero25 rfl (fun b16 => ?_)
        (refine qf_nil ?_)
        exact hK1 _ _ (hS1_7_8 ⟨p1, q1, b15, b16, ()⟩ _ _ ⟨rfl, rfl, rfl, rfl, rfl, rfl, rfl, rfl, rfl, trivial⟩ (by repeat constructor))
    refine qt_let (σ := Option Addr × Nat × Nat × Unit) (tL1_6388bc7) (fun ⟨p1, q1, b16, ()⟩ => [(3, .int .u8 mo), (9, .pointer (some ⟨b9, 0, none⟩)), (10, .slice (some ⟨rg, 0, none⟩) sk rc), (11, .int .i64 (kx + 1 : Nat)), (12, .int .i64 x), (13, .int .i64 y), (62, .agg #[.int .i64 sk, .int .i64 err, .slice p1 runs.length q1]), (16, .pointer (some ⟨b16, 0, none⟩))]) (fun ⟨p1, q1, b16, ()⟩ => [.ow (.slice p1 runs.length q1) 33 3 runs.length (rnC runs), .pt b16 [.int .i64 0, .int .i64 0, .slice none 0 0] 25]) ?_ (fun hS1_8 => ?_)
    · rintro ⟨p1, q1, b16, _⟩
      refine qt_alt ?_ (qt_alt ?_ ?_)
      · skip
        refine qt_seg (by repeat (first | exact PickL.nil | (apply PickL.cons; rfl))) fun K1 hK1 => ?_
        (refine qf_loadABa tabOk rfl rfl rfl ?_)
        refine qf_call (β := Value) tabOk [] _ M0 rfl rfl rfl rfl (Sp.refl _) (fun _ h => h.elim) (fun w' hs => cloneL_ca w' 0 w'.heap.size (⟨(sk : Int), err, runs⟩ : Lb) _ (runs_rd hs (by repeat constructor) rfl) (by show runs.length ≤ 1000; omega)) ?_
        rintro u3 _ rfl
        dsimp only [List.cons_append, List.nil_append, lbC]
        refine qf_fact (fun w hs => hs.slice2 (v := u3) (by repeat constructor)) ?_
        rintro ⟨p3, q3, rfl⟩
        (refine qf_nil ?_)
        exact hK1 _ _ (hS1_3_8 ⟨p1, q1, p3, q3, b16, ()⟩ _ _ ⟨rfl, rfl, rfl, rfl, rfl, rfl, rfl, rfl, rfl, trivial⟩ (by repeat constructor))
      · skip
        refine qt_seg (by repeat (first | exact PickL.nil | (apply PickL.cons; rfl))) fun K1 hK1 => ?_
        skip
        refine qf_alloc zero25 rfl (fun b14 => ?_)
        (refine qf_nil ?_)
        exact hK1 _ _ (hS1_6_8 ⟨p1, q1, b14, b16, ()⟩ _ _ ⟨rfl, rfl, rfl, rfl, rfl, rfl, rfl, rfl, rfl, trivial⟩ (by repeat constructor))
      · skip
        refine qt_seg (by repeat (first | exact PickL.nil | (apply PickL.cons; rfl))) fun K1 hK1 => ?_
        skip
        refine qf_alloc zero25 rfl (fun b15 => ?_)
        (refine qf_nil ?_)
        exact hK1 _ _ (hS1_7_8 ⟨p1, q1, b15, b16, ()⟩ _ _ ⟨rfl, rfl, rfl, rfl, rfl, rfl, rfl, rfl, rfl, trivial⟩ (by repeat constructor))
    refine qt_let (σ := Nat × Nat × Unit) (tL1_ce81463) (fun ⟨b14, b15, ()⟩ => [(3, .int .u8 mo), (9, .pointer (some ⟨b9, 0, none⟩)), (10, .slice (some ⟨rg, 0, none⟩) sk rc), (11, .int .i64 (kx + 1 : Nat)), (12, .int .i64 x), (13, .int .i64 y), (14, .pointer (some ⟨b14, 0, none⟩)), (15, .pointer (some ⟨b15, 0, none⟩))]) (fun ⟨b14, b15, ()⟩ => [.pt b14 [.int .i64 0, .int .i64 0, .slice none 0 0] 25, .pt b15 [.int .i64 0, .int .i64 0, .slice none 0 0] 25]) ?_ (fun hS6_7 => ?_)
    · rintro ⟨b14, b15, _⟩
      refine qt_alt ?_ ?_
      · skip
        refine qt_seg (by repeat (first | exact PickL.nil | (apply PickL.cons; rfl))) fun K1 hK1 => ?_
        (refine qf_loadABa tabOk rfl rfl rfl ?_)
        refine qf_call (β := Value) tabOk [] _ M0 rfl rfl rfl rfl (Sp.refl _) (fun _ h => h.elim) (fun w' hs => cloneL_ca w' 0 w'.heap.size (⟨(sk : Int), err, runs⟩ : Lb) _ (runs_rd hs (by repeat constructor) rfl) (by show runs.length ≤ 1000; omega)) ?_
        rintro u1 _ rfl
        dsimp only [List.cons_append, List.nil_append, lbC]
        refine qf_fact (fun w hs => hs.slice2 (v := u1) (by repeat constructor)) ?_
        rintro ⟨p1, q1, rfl⟩
        (refine qf_nil ?_)
        exact hK1 _ _ (hS1_6_7 ⟨p1, q1, b14, b15, ()⟩ _ _ ⟨rfl, rfl, rfl, rfl, rfl, rfl, rfl, rfl, rfl, trivial⟩ (by repeat constructor))
      · skip
        refine qt_seg (by repeat (first | exact PickL.nil | (apply PickL.cons; rfl))) fun K1 hK1 => ?_
        skip
        refine qf_alloc zero25 rfl (fun b16 => ?_)
        (refine qf_nil ?_)
        exact hK1 _ _ (hS6_7_8 ⟨b14, b15, b16, ()⟩ _ _ ⟨rfl, rfl, rfl, rfl, rfl, rfl, rfl, rfl, rfl, trivial⟩ (by repeat constructor))
    refine qt_let (σ := Nat × Nat × Unit) (tL1_c68fd24) (fun ⟨b14, b16, ()⟩ => [(3, .int .u8 mo), (9, .pointer (some ⟨b9, 0, none⟩)), (10, .slice (some ⟨rg, 0, none⟩) sk rc), (11, .int .i64 (kx + 1 : Nat)), (12, .int .i64 x), (13, .int .i64 y), (14, .pointer (some ⟨b14, 0, none⟩)), (16, .pointer (some ⟨b16, 0, none⟩))]) (fun ⟨b14, b16, ()⟩ => [.pt b14 [.int .i64 0, .int .i64 0, .slice none 0 0] 25, .pt b16 [.int .i64 0, .int .i64 0, .slice none 0 0] 25]) ?_ (fun hS6_8 => ?_)
    · rintro ⟨b14, b16, _⟩
      refine qt_alt ?_ ?_
      · skip
        refine qt_seg (by repeat (first | exact PickL.nil | (apply PickL.cons; rfl))) fun K1 hK1 => ?_
        (refine qf_loadABa tabOk rfl rfl rfl ?_)
        refine qf_call (β := Value) tabOk [] _ M0 rfl rfl rfl rfl (Sp.refl _) (fun _ h => h.elim) (fun w' hs => cloneL_ca w' 0 w'.heap.size (⟨(sk : Int), err, runs⟩ : Lb) _ (runs_rd hs (by repeat constructor) rfl) (by show runs.length ≤ 1000; omega)) ?_
        rintro u1 _ rfl
        dsimp only [List.cons_append, List.nil_append, lbC]
        refine qf_fact (fun w hs => hs.slice2 (v := u1) (by repeat constructor)) ?_
        rintro ⟨p1, q1, rfl⟩
        (refine qf_nil ?_)
        exact hK1 _ _ (hS1_6_8 ⟨p1, q1, b14, b16, ()⟩ _ _ ⟨rfl, rfl, rfl, rfl, rfl, rfl, rfl, rfl, rfl, trivial⟩ (by repeat constructor))
      · skip
        refine qt_seg (by repeat (first | exact PickL.nil | (apply PickL.cons; rfl))) fun K1 hK1 => ?_
        skip
        refine qf_alloc zero25 rfl (fun b15 => ?_)
        (refine qf_nil ?_)
        exact hK1 _ _ (hS6_7_8 ⟨b14, b15, b16, ()⟩ _ _ ⟨rfl, rfl, rfl, rfl, rfl, rfl, rfl, rfl, rfl, trivial⟩ (by repeat constructor))
    refine qt_let (σ := Nat × Nat × Unit) (tL1_5213287) (fun ⟨b15, b16, ()⟩ => [(3, .int .u8 mo), (9, .pointer (some ⟨b9, 0, none⟩)), (10, .slice (some ⟨rg, 0, none⟩) sk rc), (11, .int .i64 (kx + 1 : Nat)), (12, .int .i64 x), (13, .int .i64 y), (15, .pointer (some ⟨b15, 0, none⟩)), (16, .pointer (some ⟨b16, 0, none⟩))]) (fun ⟨b15, b16, ()⟩ => [.pt b15 [.int .i64 0, .int .i64 0, .slice none 0 0] 25, .pt b16 [.int .i64 0, .int .i64 0, .slice none 0 0] 25]) ?_ (fun hS7_8 => ?_)
    · rintro ⟨b15, b16, _⟩
      refine qt_alt ?_ ?_
      · skip
        refine qt_seg (by repeat (first | exact PickL.nil | (apply PickL.cons; rfl))) fun K1 hK1 => ?_
        (refine qf_loadABa tabOk rfl rfl rfl ?_)
        refine qf_call (β := Value) tabOk [] _ M0 rfl rfl rfl rfl (Sp.refl _) (fun _ h => h.elim) (fun w' hs => cloneL_ca w' 0 w'.heap.size (⟨(sk : Int), err, runs⟩ : Lb) _ (runs_rd hs (by repeat constructor) rfl) (by show runs.length ≤ 1000; omega)) ?_
        rintro u1 _ rfl
        dsimp only [List.cons_append, List.nil_append, lbC]
        refine qf_fact (fun w hs => hs.slice2 (v := u1) (by repeat constructor)) ?_
        rintro ⟨p1, q1, rfl⟩
        (refine qf_nil ?_)
        exact hK1 _ _ (hS1_7_8 ⟨p1, q1, b15, b16, ()⟩ _ _ ⟨rfl, rfl, rfl, rfl, rfl, rfl, rfl, rfl, rfl, trivial⟩ (by repeat constructor))
      · skip
        refine qt_seg (by repeat (first | exact PickL.nil | (apply PickL.cons; rfl))) fun K1 hK1 => ?_
        skip
        refine qf_alloc zero25 rfl (fun b14 => ?_)
        (refine qf_nil ?_)
        exact hK1 _ _ (hS6_7_8 ⟨b14, b15, b16, ()⟩ _ _ ⟨rfl, rfl, rfl, rfl, rfl, rfl, rfl, rfl, rfl, trivial⟩ (by repeat constructor))
    refine qt_let (σ := Option Addr × Nat × Unit) (tL1_ed077bb) (fun ⟨p1, q1, ()⟩ => [(3, .int .u8 mo), (9, .pointer (some ⟨b9, 0, none⟩)), (10, .slice (some ⟨rg, 0, none⟩) sk rc), (11, .int .i64 (kx + 1 : Nat)), (12, .int .i64 x), (13, .int .i64 y), (62, .agg #[.int .i64 sk, .int .i64 err, .slice p1 runs.length q1])]) (fun ⟨p1, q1, ()⟩ => [.ow (.slice p1 runs.length q1) 33 3 runs.length (rnC runs)]) ?_ (fun hS1 => ?_)
    · rintro ⟨p1, q1, _⟩
      refine qt_alt ?_ (qt_alt ?_ (qt_alt ?_ ?_))
      · skip
        refine qt_seg (by repeat (first | exact PickL.nil | (apply PickL.cons; rfl))) fun K1 hK1 => ?_
        (refine qf_loadABa tabOk rfl rfl rfl ?_)
        refine qf_call (β := Value) tabOk [] _ M0 rfl rfl rfl rfl (Sp.refl _) (fun _ h => h.elim) (fun w' hs => cloneL_ca w' 0 w'.heap.size (⟨(sk : Int), err, runs⟩ : Lb) _ (runs_rd hs (by repeat constructor) rfl) (by show runs.length ≤ 1000; omega)) ?_
        rintro u3 _ rfl
        dsimp only [List.cons_append, List.nil_append, lbC]
        refine qf_fact (fun w hs => hs.slice2 (v := u3) (by repeat constructor)) ?_
        rintro ⟨p3, q3, rfl⟩
        (refine qf_nil ?_)
        exact hK1 _ _ (hS1_3 ⟨p1, q1, p3, q3, ()⟩ _ _ ⟨rfl, rfl, rfl, rfl, rfl, rfl, rfl, rfl, trivial⟩ (by repeat constructor))
      · skip
        refine qt_seg (by repeat (first | exact PickL.nil | (apply PickL.cons; rfl))) fun K1 hK1 => ?_
        skip
        refine qf_alloc zero25 rfl (fun b14 => ?_)
        (refine qf_nil ?_)
        exact hK1 _ _ (hS1_6 ⟨p1, q1, b14, ()⟩ _ _ ⟨rfl, rfl, rfl, rfl, rfl, rfl, rfl, rfl, trivial⟩ (by repeat constructor))
      · skip
        refine qt_seg (by repeat (first | exact PickL.nil | (apply PickL.cons; rfl))) fun K1 hK1 => ?_
        skip
        refine qf_alloc zero25 rfl (fun b15 => ?_)
        (refine qf_nil ?_)
        exact hK1 _ _ (hS1_7 ⟨p1, q1, b15, ()⟩ _ _ ⟨rfl, rfl, rfl, rfl, rfl, rfl, rfl, rfl, trivial⟩ (by repeat constructor))
      · skip
        refine qt_seg (by repeat (first | exact PickL.nil | (apply PickL.cons; rfl))) fun K1 hK1 => ?_
        skip
        refine qf_alloc zero25 rfl (fun b16 => ?_)
        (refine qf_nil ?_)
        exact hK1 _ _ (hS1_8 ⟨p1, q1, b16, ()⟩ _ _ ⟨rfl, rfl, rfl, rfl, rfl, rfl, rfl, rfl, trivial⟩ (by repeat constructor))
    refine qt_let (σ := Nat × Unit) (tL1_4658da5) (fun ⟨b14, ()⟩ => [(3, .int .u8 mo), (9, .pointer (some ⟨b9, 0, none⟩)), (10, .slice (some ⟨rg, 0, none⟩) sk rc), (11, .int .i64 (kx + 1 : Nat)), (12, .int .i64 x), (13, .int .i64 y), (14, .pointer (some ⟨b14, 0, none⟩))]) (fun ⟨b14, ()⟩ => [.pt b14 [.int .i64 0, .int .i64 0, .slice none 0 0] 25]) ?_ (fun hS6 => ?_)
    · rintro ⟨b14, _⟩
      refine qt_alt ?_ (qt_alt ?_ ?_)
      · skip
        refine qt_seg (by repeat (first | exact PickL.nil | (apply PickL.cons; rfl))) fun K1 hK1 => ?_
        (refine qf_loadABa tabOk rfl rfl rfl ?_)
        refine qf_call (β := Value) tabOk [] _ M0 rfl rfl rfl rfl (Sp.refl _) (fun _ h => h.elim) (fun w' hs => cloneL_ca w' 0 w'.heap.size (⟨(sk : Int), err, runs⟩ : Lb) _ (runs_rd hs (by repeat constructor) rfl) (by show runs.length ≤ 1000; omega)) ?_
        rintro u1 _ rfl
        dsimp only [List.cons_append, List.nil_append, lbC]
        refine qf_fact (fun w hs => hs.slice2 (v := u1) (by repeat constructor)) ?_
        rintro ⟨p1, q1, rfl⟩
        (refine qf_nil ?_)
        exact hK1 _ _ (hS1_6 ⟨p1, q1, b14, ()⟩ _ _ ⟨rfl, rfl, rfl, rfl, rfl, rfl, rfl, rfl, trivial⟩ (by repeat constructor))
      · skip
        refine qt_seg (by repeat (first | exact PickL.nil | (apply PickL.cons; rfl))) fun K1 hK1 => ?_
        skip
        refine qf_alloc zero25 rfl (fun b15 => ?_)
        (refine qf_nil ?_)
        exact hK1 _ _ (hS6_7 ⟨b14, b15, ()⟩ _ _ ⟨rfl, rfl, rfl, rfl, rfl, rfl, rfl, rfl, trivial⟩ (by repeat constructor))
      · skip
        refine qt_seg (by repeat (first | exact PickL.nil | (apply PickL.cons; rfl))) fun K1 hK1 => ?_
        skip
        refine qf_alloc zero25 rfl (fun b16 => ?_)
        (refine qf_nil ?_)
        exact hK1 _ _ (hS6_8 ⟨b14, b16, ()⟩ _ _ ⟨rfl, rfl, rfl, rfl, rfl, rfl, rfl, rfl, trivial⟩ (by repeat constructor))
    refine qt_let (σ := Nat × Unit) (tL1_0c05407) (fun ⟨b15, ()⟩ => [(3, .int .u8 mo), (9, .pointer (some ⟨b9, 0, none⟩)), (10, .slice (some ⟨rg, 0, none⟩) sk rc), (11, .int .i64 (kx + 1 : Nat)), (12, .int .i64 x), (13, .int .i64 y), (15, .pointer (some ⟨b15, 0, none⟩))]) (fun ⟨b15, ()⟩ => [.pt b15 [.int .i64 0, .int .i64 0, .slice none 0 0] 25]) ?_ (fun hS7 => ?_)
    · rintro ⟨b15, _⟩
      refine qt_alt ?_ (qt_alt ?_ ?_)
      · skip
        refine qt_seg (by repeat (first | exact PickL.nil | (apply PickL.cons; rfl))) fun K1 hK1 => ?_
        (refine qf_loadABa tabOk rfl rfl rfl ?_)
        refine qf_call (β := Value) tabOk [] _ M0 rfl rfl rfl rfl (Sp.refl _) (fun _ h => h.elim) (fun w' hs => cloneL_ca w' 0 w'.heap.size (⟨(sk : Int), err, runs⟩ : Lb) _ (runs_rd hs (by repeat constructor) rfl) (by show runs.length ≤ 1000; omega)) ?_
        rintro u1 _ rfl
        dsimp only [List.cons_append, List.nil_append, lbC]
        refine qf_fact (fun w hs => hs.slice2 (v := u1) (by repeat constructor)) ?_
        rintro ⟨p1, q1, rfl⟩
        (refine qf_nil ?_)
        exact hK1 _ _ (hS1_7 ⟨p1, q1, b15, ()⟩ _ _ ⟨rfl, rfl, rfl, rfl, rfl, rfl, rfl, rfl, trivial⟩ (by repeat constructor))
      · skip
        refine qt_seg (by repeat (first | exact PickL.nil | (apply PickL.cons; rfl))) fun K1 hK1 => ?_
        skip
        refine qf_alloc zero25 rfl (fun b14 => ?_)
        (refine qf_nil ?_)
        exact hK1 _ _ (hS6_7 ⟨b14, b15, ()⟩ _ _ ⟨rfl, rfl, rfl, rfl, rfl, rfl, rfl, rfl, trivial⟩ (by repeat constructor))
      · skip
        refine qt_seg (by repeat (first | exact PickL.nil | (apply PickL.cons; rfl))) fun K1 hK1 => ?_
        skip
        refine qf_alloc zero25 rfl (fun b16 => ?_)
        (refine qf_nil ?_)
        exact hK1 _ _ (hS7_8 ⟨b15, b16, ()⟩ _ _ ⟨rfl, rfl, rfl, rfl, rfl, rfl, rfl, rfl, trivial⟩ (by repeat constructor))
    refine qt_let (σ := Nat × Unit) (tL1_4535c44) (fun ⟨b16, ()⟩ => [(3, .int .u8 mo), (9, .pointer (some ⟨b9, 0, none⟩)), (10, .slice (some ⟨rg, 0, none⟩) sk rc), (11, .int .i64 (kx + 1 : Nat)), (12, .int .i64 x), (13, .int .i64 y), (16, .pointer (some ⟨b16, 0, none⟩))]) (fun ⟨b16, ()⟩ => [.pt b16 [.int .i64 0, .int .i64 0, .slice none 0 0] 25]) ?_ (fun hS8 => ?_)
    · rintro ⟨b16, _⟩
      refine qt_alt ?_ (qt_alt ?_ ?_)
      · skip
        refine qt_seg (by repeat (first | exact PickL.nil | (apply PickL.cons; rfl))) fun K1 hK1 => ?_
        (refine qf_loadABa tabOk rfl rfl rfl ?_)
        refine qf_call (β := Value) tabOk [] _ M0 rfl rfl rfl rfl (Sp.refl _) (fun _ h => h.elim) (fun w' hs => cloneL_ca w' 0 w'.heap.size (⟨(sk : Int), err, runs⟩ : Lb) _ (runs_rd hs (by repeat constructor) rfl) (by show runs.length ≤ 1000; omega)) ?_
        rintro u1 _ rfl
        dsimp only [List.cons_append, List.nil_append, lbC]
        refine qf_fact (fun w hs => hs.slice2 (v := u1) (by repeat constructor)) ?_
        rintro ⟨p1, q1, rfl⟩
        (refine qf_nil ?_)
        exact hK1 _ _ (hS1_8 ⟨p1, q1, b16, ()⟩ _ _ ⟨rfl, rfl, rfl, rfl, rfl, rfl, rfl, rfl, trivial⟩ (by repeat constructor))
      · skip
        refine qt_seg (by repeat (first | exact PickL.nil | (apply PickL.cons; rfl))) fun K1 hK1 => ?_
        skip
        refine qf_alloc zero25 rfl (fun b14 => ?_)
        (refine qf_nil ?_)
        exact hK1 _ _ (hS6_8 ⟨b14, b16, ()⟩ _ _ ⟨rfl, rfl, rfl, rfl, rfl, rfl, rfl, rfl, trivial⟩ (by repeat constructor))
      · skip
        refine qt_seg (by repeat (first | exact PickL.nil | (apply PickL.cons; rfl))) fun K1 hK1 => ?_
        skip
        refine qf_alloc zero25 rfl (fun b15 => ?_)
        (refine qf_nil ?_)
        exact hK1 _ _ (hS7_8 ⟨b15, b16, ()⟩ _ _ ⟨rfl, rfl, rfl, rfl, rfl, rfl, rfl, rfl, trivial⟩ (by repeat constructor))
    refine qt_alt ?_ (qt_alt ?_ (qt_alt ?_ ?_))
    · skip
      refine qt_seg (by repeat (first | exact PickL.nil | (apply PickL.cons; rfl))) fun K1 hK1 => ?_
      (refine qf_loadABa tabOk rfl rfl rfl ?_)
      refine qf_call (β := Value) tabOk [] _ M0 rfl rfl rfl rfl (Sp.refl _) (fun _ h => h.elim) (fun w' hs => cloneL_ca w' 0 w'.heap.size (⟨(sk : Int), err, runs⟩ : Lb) _ (runs_rd hs (by repeat constructor) rfl) (by show runs.length ≤ 1000; omega)) ?_
      rintro u1 _ rfl
      dsimp only [List.cons_append, List.nil_append, lbC]
      refine qf_fact (fun w hs => hs.slice2 (v := u1) (by repeat constructor)) ?_
      rintro ⟨p1, q1, rfl⟩
      (refine qf_nil ?_)
      exact hK1 _ _ (hS1 ⟨p1, q1, ()⟩ _ _ ⟨rfl, rfl, rfl, rfl, rfl, rfl, rfl, trivial⟩ (by repeat constructor))
    · skip
      refine qt_seg (by repeat (first | exact PickL.nil | (apply PickL.cons; rfl))) fun K1 hK1 => ?_
      skip
      refine qf_alloc zero25 rfl (fun b14 => ?_)
      (refine qf_nil ?_)
      exact hK1 _ _ (hS6 ⟨b14, ()⟩ _ _ ⟨rfl, rfl, rfl, rfl, rfl, rfl, rfl, trivial⟩ (by repeat constructor))
    · skip
      refine qt_seg (by repeat (first | exact PickL.nil | (apply PickL.cons; rfl))) fun K1 hK1 => ?_
      skip
      refine qf_alloc zero25 rfl (fun b15 => ?_)
      (refine qf_nil ?_)
      exact hK1 _ _ (hS7 ⟨b15, ()⟩ _ _ ⟨rfl, rfl, rfl, rfl, rfl, rfl, rfl, trivial⟩ (by repeat constructor))
    · skip
      refine qt_seg (by repeat (first | exact PickL.nil | (apply PickL.cons; rfl))) fun K1 hK1 => ?_
      skip
      refine qf_alloc zero25 rfl (fun b16 => ?_)
      (refine qf_nil ?_)
      exact hK1 _ _ (hS8 ⟨b16, ()⟩ _ _ ⟨rfl, rfl, rfl, rfl, rfl, rfl, rfl, trivial⟩ (by repeat constructor))
  rintro ⟨p1, q1, p3, q3, p5, q5, b14, b15, b16⟩
  dsimp only
  have hrx : x < real.length := by omega
  have hry : y < real.length := by omega
  have bx := hm.rb _ (List.getElem_mem hrx)
  have bY := hm.rb _ (List.getElem_mem hry)
  (refine q_seq ?_)
  refine q_drawB2 [true, true, true, true, true, true, true, true, true, true, true, true, true, true, true, false, false, false] [.pt b14 [.int .i64 sk, .int .i64 err, .slice p1 runs.length q1] 25, .ow (.slice p1 runs.length q1) 33 3 runs.length (rnC runs), .pt b9 [.int .i64 sk, .int .i64 err, .slice va runs.length vc] 25, .ow (.slice va runs.length vc) 33 3 runs.length (rnC runs), .ow (.slice (some ⟨rg, 0, none⟩) sk rc) 3 1 sk (ints real), .pt b15 [.int .i64 sk, .int .i64 err, .slice p3 runs.length q3] 25, .pt b16 [.int .i64 sk, .int .i64 err, .slice p5 runs.length q5] 25, .ow (.slice p3 runs.length q3) 33 3 runs.length (rnC runs), .ow (.slice p5 runs.length q5) 33 3 runs.length (rnC runs)] [] [.pt b9 [.int .i64 sk, .int .i64 err, .slice va runs.length vc] 25, .ow (.slice va runs.length vc) 33 3 runs.length (rnC runs), .ow (.slice (some ⟨rg, 0, none⟩) sk rc) 3 1 sk (ints real), .pt b15 [.int .i64 sk, .int .i64 err, .slice p3 runs.length q3] 25, .pt b16 [.int .i64 sk, .int .i64 err, .slice p5 runs.length q5] 25, .ow (.slice p3 runs.length q3) 33 3 runs.length (rnC runs), .ow (.slice p5 runs.length q5) 33 3 runs.length (rnC runs)] [.pt b14 [.int .i64 sk, .int .i64 err, .slice p1 runs.length q1] 25, .ow (.slice p1 runs.length q1) 33 3 runs.length (rnC runs)] (by repeat constructor) (by repeat constructor) (by kernel_rfl) (by kernel_rfl) (by kernel_rfl) ?_
  refine qb_T2 15 [] rfl rfl (by repeat constructor) fun K2 hK2 => ?_
  (refine qf_pure tabOk rfl rfl rfl ?_; refine qf_loadBa tabOk rfl rfl rfl ?_; (iterate 4 refine qf_pure tabOk rfl rfl rfl ?_))
  refine qf_index tabOk rfl rfl rfl rfl rfl (by omega) (by omega) ?_
  refine qf_load1 (v := .int .i64 real[x]) tabOk rfl rfl rfl (fun w hs => RdI.at (hs.rdI (v := .slice (some ⟨rg, 0, none⟩) sk rc) (l := real) (t := 3) (n := sk) (by repeat constructor) hrl2.symm) x hrx) ?_
  (refine qf_pure tabOk rfl rfl rfl (qf_pure tabOk rfl rfl rfl ?_))
  refine qf_index tabOk rfl rfl rfl rfl rfl (by omega) (by omega) ?_
  refine qf_load1 (v := .int .i64 real[y]) tabOk rfl rfl rfl (fun w hs => RdI.at (hs.rdI (v := .slice (some ⟨rg, 0, none⟩) sk rc) (l := real) (t := 3) (n := sk) (by repeat constructor) hrl2.symm) y hry) ?_
  (refine qf_ar tabOk rfl rfl rfl rfl (by omega) (by omega) ?_)
  refine qf_mk #[.int .i64 x, .int .i64 y, .int .i64 (real[x] - real[y])] rfl (by kernel_rfl) rfl ?_
  skip
  refine qf_mkS 33 [.int .i64 x, .int .i64 y, .int .i64 (real[x] - real[y])] rfl (by kernel_rfl) rfl (fun bn => ?_)
  (refine qf_nil ?_)
  refine hK2 _ _ (qb_F 3 [.pt bn [.int .i64 x, .int .i64 y, .int .i64 (real[x] - real[y])] 33, .pt b14 [.int .i64 sk, .int .i64 err, .slice p1 runs.length q1] 25, .ow (.slice p1 runs.length q1) 33 3 runs.length (rnC runs)] rfl rfl (by repeat constructor) fun K2 hK2 => ?_)
  refine qf_append (q := 1) (news := [.int .i64 x, .int .i64 y, .int .i64 (real[x] - real[y])]) slR rfl rfl rfl (fun v' => by repeat constructor) (fun w' hs => ⟨_, _, Blk.rdN (hs.blk (b := bn) (by repeat constructor)) rfl⟩) (by simp [oneV]) (by omega) (by omega) (fun u' => ?_)
  refine qf_fact (fun w hs => hs.slice2 (v := u') (by repeat constructor)) ?_
  rintro ⟨f1, f2, rfl⟩
  (refine qf_pure tabOk rfl rfl rfl ?_; refine qf_st2 tabOk rfl rfl rfl rfl (by repeat constructor) ?_; refine qf_nil ?_)
  refine hK2 _ _ (qb_nil ?_)
  have ewm : IntKind.i64.wrap mo = mo := w64 (by omega) (by omega)
  obtain ⟨d, hd⟩ : ∃ d, d = IntKind.i64.wrap mo % 20 := ⟨_, rfl⟩
  have hd2 : 0 ≤ d ∧ d < 20 := by rw [hd, ewm]; omega
  (refine q_seq (q_region (ql_pure tabOk rfl rfl ?_)); refine ql_loadBa tabOk rfl rfl rfl ?_; refine ql_pure tabOk rfl rfl (ql_pure tabOk rfl rfl (ql_remN rfl rfl rfl (by omega) (by omega) (ql_ar tabOk rfl rfl rfl rfl (by omega) (by omega) (ql_pure tabOk rfl rfl ?_)))); refine ql_st1 tabOk rfl rfl rfl rfl (by repeat constructor) ?_; refine q_nil (q_seq (q_region (ql_pure tabOk rfl rfl ?_))); refine ql_loadBa tabOk rfl rfl rfl ?_; (iterate 3 refine ql_pure tabOk rfl rfl ?_); refine ql_loadBa tabOk rfl rfl rfl ?_)
  rw [← hd]
  refine ql_mk #[.int .i64 x, .int .i64 y, .int .i64 err] rfl (by kernel_rfl) rfl ?_
  skip
  refine ql_mkS 33 [.int .i64 x, .int .i64 y, .int .i64 err] rfl (by kernel_rfl) rfl (fun bm => ?_)
  skip
  refine ql_append (q := 1) (news := [.int .i64 x, .int .i64 y, .int .i64 err]) slR rfl rfl rfl (fun v' => by repeat constructor) (fun w' hs => ⟨_, _, Blk.rdN (hs.blk (b := bm) (by repeat constructor)) rfl⟩) (by simp [oneV]) (by omega) (by omega) (fun u' => ?_)
  refine ql_fact (fun w hs => hs.slice2 (v := u') (by repeat constructor)) ?_
  rintro ⟨s1, s2, rfl⟩
  (refine ql_pure tabOk rfl rfl ?_; refine ql_st2 tabOk rfl rfl rfl rfl (by repeat constructor) ?_; refine q_nil (q_seq (q_region ?_)))
  refine ql_alloc zero34 rfl (fun b17 => ?_)
  skip
  refine ql_alloc zero34 rfl (fun b18 => ?_)
  (refine q_nil (q_seq (q_region ?_)))
  refine ql_alloc zero36 rfl (fun b19 => ?_)
  (refine q_nil (q_seq (q_seq (q_region ?_))); (iterate 4 refine ql_loadABa tabOk rfl rfl rfl ?_))
  obtain ⟨M, hM⟩ : ∃ M : List LbM, M = [(⟨sk, err, runs ++ [⟨x, y, real[x] - real[y]⟩]⟩, f1, f2), (⟨sk, err, runs⟩, va, vc), (⟨sk, err + d, runs⟩, p3, q3), (⟨sk, err, runs ++ [⟨x, y, err⟩]⟩, s1, s2)] := ⟨_, rfl⟩
  have hM4 : M.length = 4 := by rw [hM]; rfl
  refine ql_mkS 25 (labCs M) rfl (by subst hM; simp only [labCs, List.flatMap_cons, List.flatMap_nil, List.length_append, List.length_cons, List.length_nil]; kernel_rfl) rfl (fun bl => ?_)
  (refine ql_pure tabOk rfl rfl (ql_pure tabOk rfl rfl (q_nil (q_block ?_))))
  have hre : real.getD x 0 - real.getD y 0 = real[x] - real[y] := by rw [getD_get hrx, getD_get hry]
  have okF : ((⟨(sk : Int), err, runs⟩ : Lb).add ⟨x, y, real.getD x 0 - real.getD y 0⟩).Ok := hok.add (by show runs.length < 40; omega) (run_ok (by show _ ∧ (x : Int) < sk; omega) (by show _ ∧ (y : Int) < sk; omega) (by omega) (by rw [hre]; omega))
  have okL : ((⟨(sk : Int), err, runs⟩ : Lb).loose d).Ok := hok.loose hd2.1 (by show err + d ≤ 1000; omega)
  have okS : ((⟨(sk : Int), err, runs⟩ : Lb).add ⟨x, y, (⟨(sk : Int), err, runs⟩ : Lb).err⟩).Ok := hok.add (by show runs.length < 40; omega) (run_ok (by show _ ∧ (x : Int) < sk; omega) (by show _ ∧ (y : Int) < sk; omega) (by omega) (by show _ ≤ err ∧ err ≤ _; omega))
  have eS : ((⟨(sk : Int), err, runs⟩ : Lb).add ⟨x, y, (⟨(sk : Int), err, runs⟩ : Lb).err⟩).ord = (⟨(sk : Int), err, runs⟩ : Lb).ord := still_ord (x := x) (y := y) hok.e0
  have nB := true_noC hok hm.tr
  have nF := true_noC okF (fine_true hm.tr hok.e0)
  have nL := true_noC okL (loose_true hm.tr hd2.1)
  have nS : NoC ((⟨(sk : Int), err, runs⟩ : Lb).add ⟨x, y, (⟨(sk : Int), err, runs⟩ : Lb).err⟩).ord ((⟨(sk : Int), err, runs⟩ : Lb).add ⟨x, y, (⟨(sk : Int), err, runs⟩ : Lb).err⟩).n := by rw [eS]; exact nB
  have leF : LeO (⟨(sk : Int), err, runs⟩ : Lb).ord ((⟨(sk : Int), err, runs⟩ : Lb).add ⟨x, y, real.getD x 0 - real.getD y 0⟩).ord := add_le hok (by show runs.length < 40; omega) (run_ok (by show _ ∧ (x : Int) < sk; omega) (by show _ ∧ (y : Int) < sk; omega) (by omega) (by rw [hre]; omega))
  have leL : LeO ((⟨(sk : Int), err, runs⟩ : Lb).loose d).ord (⟨(sk : Int), err, runs⟩ : Lb).ord := loose_le hok hd2.1 okL
  rw [hre] at okF nF leF
  have hAll : ∀ m ∈ M, AllOk sk m := by
    intro m hmm
    rw [hM] at hmm
    simp only [List.mem_cons, List.not_mem_nil, or_false] at hmm
    rcases hmm with rfl | rfl | rfl | rfl
    · exact ⟨okF, nF, rfl⟩
    · exact ⟨hok, nB, rfl⟩
    · exact ⟨okL, nL, rfl⟩
    · exact ⟨okS, nS, rfl⟩
  have er1 := rnC_snoc runs ⟨x, y, real[x] - real[y]⟩
  have er2 := rnC_snoc runs ⟨x, y, err⟩
  refine q_conv (H' := [.pt b17 (ints (filA (oM M) 4 0)) 34, .pt b18 (ints (filA (rM M (kx + 1)) 4 0)) 34, .pt b19 ([] ++ List.replicate (4 - ([] : List Value).length) (Value.slice none 0 0)) 36, un (plOs 45 M []), .pt bl (labCs M) 25, un (labOs 33 M), .pt b9 [.int .i64 sk, .int .i64 err, .slice va runs.length vc] 25]) (fun w' hs => by
    have eL : labOs 33 M = [.ow (.slice f1 (runs.length + 1) f2) 33 3 (runs.length + 1) (rnC runs ++ [.int .i64 x, .int .i64 y, .int .i64 (real[x] - real[y])]), .ow (.slice va runs.length vc) 33 3 runs.length (rnC runs), .ow (.slice p3 runs.length q3) 33 3 runs.length (rnC runs), .ow (.slice s1 (runs.length + 1) s2) 33 3 (runs.length + 1) (rnC runs ++ [.int .i64 x, .int .i64 y, .int .i64 err])] := by
      rw [hM]
      simp only [labOs, List.map_cons, List.map_nil, er1, er2, List.length_append, List.length_cons, List.length_nil]
    have eP : plOs 45 M [] = [] := by simp [plOs]
    rw [eL, eP, filA_zero, filA_zero, List.nil_append, List.length_nil]
    have h0 : Sat w M0 ([.ow (.slice f1 (runs.length + 1) f2) 33 3 (runs.length + 1) (rnC runs ++ [.int .i64 x, .int .i64 y, .int .i64 (real[x] - real[y])]), .ow (.slice va runs.length vc) 33 3 runs.length (rnC runs), .ow (.slice p3 runs.length q3) 33 3 runs.length (rnC runs), .ow (.slice s1 (runs.length + 1) s2) 33 3 (runs.length + 1) (rnC runs ++ [.int .i64 x, .int .i64 y, .int .i64 err])] ++ [.pt b17 (ints [0, 0, 0, 0]) 34, .pt b18 (ints [0, 0, 0, 0]) 34, .pt b19 (List.replicate 4 (Value.slice none 0 0)) 36, .pt bl (labCs M) 25, .pt b9 [.int .i64 sk, .int .i64 err, .slice va runs.length vc] 25]) w' := hs.sp (by repeat constructor)
    exact (Sat.un_nil (Sat.un_iff.2 h0)).sp (by repeat constructor)) ?_
  refine q_loop (σ := Nat × List Value) (fun y => y.1 ≤ 4 ∧ y.2.length = y.1) (fun y => 4 - y.1)
    (fun y => [(9, .pointer (some ⟨b9, 0, none⟩)), (11, .int .i64 (kx + 1 : Nat)), (17, .pointer (some ⟨b17, 0, none⟩)), (18, .pointer (some ⟨b18, 0, none⟩)), (19, .pointer (some ⟨b19, 0, none⟩)), (105, .slice (some ⟨bl, 0, none⟩) 4 4), (106, .int .i64 4), (107, .int .i64 y.1)])
    (fun y => [.pt b17 (ints (filA (oM M) 4 y.1)) 34, .pt b18 (ints (filA (rM M (kx + 1)) 4 y.1)) 34, .pt b19 (y.2 ++ List.replicate (4 - y.2.length) (Value.slice none 0 0)) 36, un (plOs 45 M y.2), .pt bl (labCs M) 25, un (labOs 33 M), .pt b9 [.int .i64 sk, .int .i64 err, .slice va runs.length vc] 25]) (0, []) ⟨by simp only; omega, rfl⟩ ⟨rfl, rfl, rfl, rfl, rfl, rfl, rfl, rfl, trivial⟩ (by repeat constructor) ?_
  rintro ⟨_, ps⟩ ⟨hi, hps⟩ K hK
  dsimp only at hi hps ⊢
  obtain ⟨i, hip⟩ : ∃ i, i = ps.length := ⟨_, rfl⟩
  rw [← hps, ← hip] at hi ⊢
  (refine q_seq (q_region (ql_pure tabOk rfl rfl (q_nil (q_seq ?_)))))
  refine q_if rfl (fun hc => ?_) (fun hc => ?_)
  · have hi2 : i < M.length := by omega
    have hA := hAll _ (List.getElem_mem hi2)
    have hn := hA.n
    clear hc
    (refine q_skip (q_seq (q_block (q_seq (q_region (ql_pure tabOk rfl rfl ?_))))))
    refine ql_index tabOk rfl rfl rfl rfl rfl (by omega) (by omega) ?_
    refine ql_loadA (cs := [.int .i64 M[i].1.skis, .int .i64 M[i].1.err, .slice M[i].2.1 M[i].1.runs.length M[i].2.2]) tabOk rfl rfl rfl rfl (fun w hs => fun j hj => by
      rw [Blk.cell (hs.blk (b := bl) (by repeat constructor)), Int.toNat_natCast, Nat.zero_add]
      exact labCs_get M i j hi2 hj) ?_
    skip
    refine ql_alloc zero25 rfl (fun b21 => ?_)
    (refine ql_pure tabOk rfl rfl ?_; refine ql_setA tabOk rfl rfl rfl rfl rfl (by repeat constructor) rfl ?_; refine q_nil (q_seq (q_region ?_)); refine ql_loadABa tabOk rfl rfl rfl ?_)
    refine ql_callv (val := .tuple #[.int .i64 (oM M i), .int .i64 0]) tabOk rfl rfl rfl rfl (fun w hs => ?_) ?_; exact by have := orders_ok w 0 w.heap.size M[i].1 _ (lab_run hs (by repeat constructor) i hi2) hA.ok hA.noC; rw [← oM_eq hi2] at this; exact this
    (refine ql_pure tabOk rfl rfl (ql_ext tabOk rfl rfl rfl (ql_ext tabOk rfl rfl rfl (ql_pure tabOk rfl rfl (ql_pure tabOk rfl rfl (q_nil (q_seq (q_region ?_))))))); refine ql_loadABa tabOk rfl rfl rfl ?_; refine ql_pure tabOk rfl rfl ?_)
    refine ql_callv (val := .tuple #[.int .i64 (rM M (kx + 1) i), .int .i64 0]) tabOk rfl rfl rfl rfl (fun w hs => ?_) ?_; exact by have := fewest_ok w 0 w.heap.size M[i].1 _ (kx + 1) (lab_run hs (by repeat constructor) i hi2) ⟨hA.ok, hA.noC, by omega, by rw [hA.skis]; omega, by rw [hA.skis]; omega⟩; rw [← rM_eq hi2] at this; exact this
    (refine ql_pure tabOk rfl rfl (ql_ext tabOk rfl rfl rfl (ql_ext tabOk rfl rfl rfl (ql_pure tabOk rfl rfl (ql_pure tabOk rfl rfl (q_nil (q_seq (q_region ?_))))))); refine ql_loadABa tabOk rfl rfl rfl ?_)
    refine ql_call (β := Value) tabOk [] _ M0 rfl rfl rfl rfl (Sp.refl _) (fun _ h => h.elim) (fun w' hs => by have := places_ok w' 0 w'.heap.size M[i].1 _ (lab_run hs (by repeat constructor) i hi2) hA.ok hA.noC; exact this) ?_
    rintro u _ rfl
    dsimp only [List.cons_append, List.nil_append]
    refine ql_fact (fun w hs => hs.ownSome (v := u) (by repeat constructor) (by omega)) ?_
    rintro ⟨u1, u2, rfl⟩
    (refine ql_pure tabOk rfl rfl (ql_ext tabOk rfl rfl rfl (ql_ext tabOk rfl rfl rfl (ql_pure tabOk rfl rfl (ql_pure tabOk rfl rfl (q_nil (q_seq (q_seq (q_region (ql_pure tabOk rfl rfl (ql_neqF tabOk rfl rfl rfl (by omega) (ql_pure tabOk rfl rfl ?_))))))))))); refine ql_gyes rfl (ql_pure tabOk rfl rfl (ql_gyes rfl (ql_neqF tabOk rfl rfl rfl (by omega) (ql_pure tabOk rfl rfl (ql_pure tabOk rfl rfl (ql_gyes rfl (ql_pure tabOk rfl rfl (ql_gyes rfl (ql_neqF tabOk rfl rfl rfl (by omega) (ql_pure tabOk rfl rfl (ql_pure tabOk rfl rfl ?_))))))))))); refine ql_gyes rfl (ql_pure tabOk rfl rfl (ql_gyes rfl (ql_pure tabOk rfl rfl (ql_gyes rfl (ql_eqlF tabOk rfl rfl rfl (by omega) (ql_pure tabOk rfl rfl (ql_pure tabOk rfl rfl (ql_gyes rfl (ql_pure tabOk rfl rfl (ql_gyes rfl (ql_pure tabOk rfl rfl ?_))))))))))); refine ql_gyes rfl (ql_pure tabOk rfl rfl (ql_gyes rfl ?_)); refine ql_loadBa tabOk rfl rfl rfl ?_; refine ql_gyes rfl (ql_neqF tabOk rfl rfl rfl (by omega) (ql_pure tabOk rfl rfl (q_nil (q_cond_false rfl (q_skip (q_region ?_)))))); (iterate 6 refine ql_pure tabOk rfl rfl ?_))
    refine ql_indexA (len := 4) a4_arr rfl rfl rfl (by omega) (by omega) ?_
    have hf1 : i < (filA (oM M) 4 i).length := by rw [filA_len]; omega
    refine ql_storeI tabOk (i) rfl rfl rfl (by repeat constructor) (by first | rfl | omega | simp) hf1 ?_
    rw [filA_set _ _ _ (by omega)]
    skip
    refine ql_indexA (len := 4) a4_arr rfl rfl rfl (by omega) (by omega) ?_
    have hf2 : i < (filA (rM M (kx + 1)) 4 i).length := by rw [filA_len]; omega
    refine ql_storeI tabOk (i) rfl rfl rfl (by repeat constructor) (by first | rfl | omega | simp) hf2 ?_
    rw [filA_set _ _ _ (by omega)]
    skip
    refine ql_indexA (len := 4) p4_arr rfl rfl rfl (by omega) (by omega) ?_
    have eo : 0 + (i : Int).toNat * 1 = i := by omega
    rw [eo]
    refine ql_store1 tabOk rfl rfl rfl rfl (by repeat constructor) (by simp; omega) ?_
    (refine q_nil (q_blk (q_region (ql_ar tabOk rfl rfl rfl rfl (by omega) (by omega) (ql_pure tabOk rfl rfl (q_nil ?_))))))
    have efp := fillP ps (.slice (some ⟨u1, 0, none⟩) M[i].1.n u2) 4 (by omega)
    rw [← hip] at efp
    rw [efp]
    refine q_conv (H' := [un (plOs 45 M (ps ++ [Value.slice (some ⟨u1, 0, none⟩) M[i].1.n u2])), .pt b19 ((ps ++ [Value.slice (some ⟨u1, 0, none⟩) M[i].1.n u2]) ++ List.replicate (4 - (ps ++ [Value.slice (some ⟨u1, 0, none⟩) M[i].1.n u2]).length) (Value.slice none 0 0)) 36, .pt b18 (ints (filA (rM M (kx + 1)) 4 (i + 1))) 34, .pt b17 (ints (filA (oM M) 4 (i + 1))) 34, .pt bl (labCs M) 25, un (labOs 33 M), .pt b9 [.int .i64 sk, .int .i64 err, .slice va runs.length vc] 25]) (fun w' hs => plOs_add (by omega) (by
      simp only [← hip]
      exact hs.sp (by repeat constructor))) ?_
    skip
    exact hK (i + 1, ps ++ [Value.slice (some ⟨u1, 0, none⟩) M[i].1.n u2]) _ _ ⟨by simp only; omega, by simp; omega⟩ (by simp only; omega) ⟨rfl, rfl, rfl, rfl, rfl, rfl, rfl, rfl, trivial⟩ (by repeat constructor)
  · obtain rfl : i = 4 := by omega
    have hp4 : ps.length = 4 := hip.symm
    clear hc hK hi
    obtain ⟨v0, v1, v2, v3, rfl⟩ : ∃ v0 v1 v2 v3, ps = [v0, v1, v2, v3] := by
      match ps, hp4 with
      | [a, b, c, d], _ => exact ⟨a, b, c, d, rfl⟩
    have hl0 : ∀ j, j < 4 → (lbM M j).n = sk := fun j hj => by rw [lbM_get (by omega)]; exact (hAll _ (List.getElem_mem (by omega))).n
    have hs0 : ∀ j, j < 4 → (lbM M j).skis = (sk : Int) := fun j hj => by rw [lbM_get (by omega)]; exact (hAll _ (List.getElem_mem (by omega))).skis
    obtain ⟨Pl, hPl⟩ : ∃ Pl : Nat → List (Int × Int), ∀ j, Pl j = plC (lbM M j) (lbM M j).ord (lbM M j).n := ⟨_, fun _ => rfl⟩
    have ePl : plOs 45 M [v0, v1, v2, v3] = [.ow v0 45 2 sk (spC (Pl 0)), .ow v1 45 2 sk (spC (Pl 1)), .ow v2 45 2 sk (spC (Pl 2)), .ow v3 45 2 sk (spC (Pl 3))] := by
      have k0 := hl0 0 (by omega)
      have k1 := hl0 1 (by omega)
      have k2 := hl0 2 (by omega)
      have k3 := hl0 3 (by omega)
      rw [hPl, hPl, hPl, hPl]
      generalize hm0 : (lbM M 0) = m0 at *
      generalize hm1 : (lbM M 1) = m1 at *
      generalize hm2 : (lbM M 2) = m2 at *
      generalize hm3 : (lbM M 3) = m3 at *
      rw [hM] at hm0 hm1 hm2 hm3 ⊢
      have g0 : _ = m0 := hm0
      have g1 : _ = m1 := hm1
      have g2 : _ = m2 := hm2
      have g3 : _ = m3 := hm3
      simp only [lbM, List.getD_cons_zero, List.getD_cons_succ] at g0 g1 g2 g3
      simp only [plOs, List.zip_cons_cons, List.zip_nil_right, List.zip_nil_left, List.map_cons, List.map_nil, g0, g1, g2, g3, k0, k1, k2, k3]
    have hPlen : ∀ j, j < 4 → (Pl j).length = sk := fun j hj => by rw [hPl, plC_len, hl0 j hj]
    refine q_conv (H' := [.ow v0 45 2 sk (spC (Pl 0)), .ow v1 45 2 sk (spC (Pl 1)), .ow v2 45 2 sk (spC (Pl 2)), .ow v3 45 2 sk (spC (Pl 3)), .pt b17 (ints (filA (oM M) 4 4)) 34, .pt b18 (ints (filA (rM M (kx + 1)) 4 4)) 34, .pt b19 [v0, v1, v2, v3] 36, .pt b9 [.int .i64 sk, .int .i64 err, .slice va runs.length vc] 25]) (fun w' hs => by
      rw [ePl] at hs
      have h1 : Sat w M0 (un _ :: [.pt b17 (ints (filA (oM M) 4 4)) 34, .pt b18 (ints (filA (rM M (kx + 1)) 4 4)) 34, .pt b19 [v0, v1, v2, v3] 36, .pt b9 [.int .i64 sk, .int .i64 err, .slice va runs.length vc] 25]) w' := hs.sp (by repeat constructor)
      exact Sat.un_iff.1 h1) ?_
    refine q_fact (fun w hs => hs.ownSome (v := v0) (by repeat constructor) (by omega)) ?_
    rintro ⟨g0, c0, rfl⟩
    refine q_fact (fun w hs => hs.ownSome (v := v1) (by repeat constructor) (by omega)) ?_
    rintro ⟨g1, c1, rfl⟩
    refine q_fact (fun w hs => hs.ownSome (v := v2) (by repeat constructor) (by omega)) ?_
    rintro ⟨g2, c2, rfl⟩
    refine q_fact (fun w hs => hs.ownSome (v := v3) (by repeat constructor) (by omega)) ?_
    rintro ⟨g3, c3, rfl⟩
    have eM0 : lbM M 0 = ⟨sk, err, runs ++ [⟨x, y, real[x] - real[y]⟩]⟩ := by rw [hM]; rfl
    have eM1 : lbM M 1 = ⟨sk, err, runs⟩ := by rw [hM]; rfl
    have eM2 : lbM M 2 = ⟨sk, err + d, runs⟩ := by rw [hM]; rfl
    have eM3 : lbM M 3 = ⟨sk, err, runs ++ [⟨x, y, err⟩]⟩ := by rw [hM]; rfl
    have lf0 : LeO (lbM M 1).ord (lbM M 0).ord := by rw [eM0, eM1]; exact leF
    have lf1 : LeO (lbM M 2).ord (lbM M 1).ord := by rw [eM1, eM2]; exact leL
    have eO3 : (lbM M 3).ord = (lbM M 1).ord := by rw [eM1, eM3]; exact eS
    have hok' : ∀ j, j < 4 → (lbM M j).Ok ∧ NoC (lbM M j).ord (lbM M j).n := fun j hj => by rw [lbM_get (by omega)]; exact ⟨(hAll _ (List.getElem_mem (by omega))).ok, (hAll _ (List.getElem_mem (by omega))).noC⟩
    have hsp0 : ∀ s, s < sk → (spanP (lbM M 1) s).1 ≤ (spanP (lbM M 0) s).1 ∧ (spanP (lbM M 0) s).2 ≤ (spanP (lbM M 1) s).2 := fun s hs => span_in (by rw [hs0 0 (by omega), hs0 1 (by omega)]) (by rw [hl0 0 (by omega)]; omega) (by omega) lf0
    have hsp1 : ∀ s, s < sk → (spanP (lbM M 2) s).1 ≤ (spanP (lbM M 1) s).1 ∧ (spanP (lbM M 1) s).2 ≤ (spanP (lbM M 2) s).2 := fun s hs => span_in (by rw [hs0 1 (by omega), hs0 2 (by omega)]) (by rw [hl0 1 (by omega)]; omega) (by omega) lf1
    have hPget : ∀ j, j < 4 → ∀ s (h : s < (Pl j).length), (Pl j)[s] = spanP (lbM M j) s := fun j hj s h => by
      have e := plC_get (lbM M j) (lbM M j).ord (k := (lbM M j).n) (s := s) (by rw [hl0 j hj, ← hPlen j hj]; exact h)
      rw [← hPl] at e
      rw [List.getElem?_eq_getElem h] at e
      exact Option.some.inj e
    clear eM0 eM1 eM2 eM3 hM ePl hPl
    (refine q_exit _ rfl (q_seq (q_seq (q_region (ql_pure tabOk rfl rfl ?_)))); refine ql_loadBa tabOk rfl rfl rfl ?_; refine ql_pure tabOk rfl rfl (q_nil (q_block ?_)))
    refine q_loop (σ := Nat) (fun s => s ≤ sk) (fun s => sk - s) (fun s => [(17, .pointer (some ⟨b17, 0, none⟩)), (18, .pointer (some ⟨b18, 0, none⟩)), (19, .pointer (some ⟨b19, 0, none⟩)), (161, .int .i64 sk), (162, .int .i64 s)]) (fun _ => [.ow (.slice (some ⟨g0, 0, none⟩) sk c0) 45 2 sk (spC (Pl 0)), .ow (.slice (some ⟨g1, 0, none⟩) sk c1) 45 2 sk (spC (Pl 1)), .ow (.slice (some ⟨g2, 0, none⟩) sk c2) 45 2 sk (spC (Pl 2)), .ow (.slice (some ⟨g3, 0, none⟩) sk c3) 45 2 sk (spC (Pl 3)), .pt b17 (ints (filA (oM M) 4 4)) 34, .pt b18 (ints (filA (rM M (kx + 1)) 4 4)) 34, .pt b19 [.slice (some ⟨g0, 0, none⟩) sk c0, .slice (some ⟨g1, 0, none⟩) sk c1, .slice (some ⟨g2, 0, none⟩) sk c2, .slice (some ⟨g3, 0, none⟩) sk c3] 36]) 0 (by omega) ⟨rfl, rfl, rfl, rfl, rfl, trivial⟩ (by repeat constructor) ?_
    rintro s hss K hK
    (refine q_seq (q_region (ql_pure tabOk rfl rfl (q_nil (q_seq ?_)))))
    refine q_if rfl (fun hc => ?_) (fun hc => ?_)
    · have hs3 : s < sk := by omega
      clear hc
      (refine q_skip (q_seq (q_block (q_seq (q_region (ql_pure tabOk rfl rfl (ql_pure tabOk rfl rfl (q_nil (q_seq (q_region (ql_pure tabOk rfl rfl (q_nil ?_))))))))))); refine q_block ?_)
      refine q_loop (σ := Nat) (fun j => j ≤ 2) (fun j => 2 - j) (fun j => [(17, .pointer (some ⟨b17, 0, none⟩)), (18, .pointer (some ⟨b18, 0, none⟩)), (19, .pointer (some ⟨b19, 0, none⟩)), (28, .int .i64 s), (161, .int .i64 sk), (162, .int .i64 s), (165, .int .i64 j)]) (fun _ => [.ow (.slice (some ⟨g0, 0, none⟩) sk c0) 45 2 sk (spC (Pl 0)), .ow (.slice (some ⟨g1, 0, none⟩) sk c1) 45 2 sk (spC (Pl 1)), .ow (.slice (some ⟨g2, 0, none⟩) sk c2) 45 2 sk (spC (Pl 2)), .ow (.slice (some ⟨g3, 0, none⟩) sk c3) 45 2 sk (spC (Pl 3)), .pt b17 (ints (filA (oM M) 4 4)) 34, .pt b18 (ints (filA (rM M (kx + 1)) 4 4)) 34, .pt b19 [.slice (some ⟨g0, 0, none⟩) sk c0, .slice (some ⟨g1, 0, none⟩) sk c1, .slice (some ⟨g2, 0, none⟩) sk c2, .slice (some ⟨g3, 0, none⟩) sk c3] 36]) 0 (by omega) ⟨rfl, rfl, rfl, rfl, rfl, rfl, rfl, trivial⟩ (by repeat constructor) ?_
      rintro j hjj K2 hK2
      obtain rfl | rfl | rfl : j = 0 ∨ j = 1 ∨ j = 2 := by omega
      · have hsp := hsp0 s hs3
        have u0 : s < (Pl 0).length := by rw [hPlen 0 (by omega)]; exact hs3
        have u1 : s < (Pl 1).length := by rw [hPlen 1 (by omega)]; exact hs3
        (refine q_seq (q_region (ql_lssT tabOk rfl rfl rfl (by omega) (q_nil (q_seq (q_cond_true rfl (q_skip (q_seq (q_block (q_seq (q_region (ql_pure tabOk rfl rfl ?_))))))))))); refine ql_pure tabOk rfl rfl (q_nil (q_seq (q_seq (q_region (ql_pure tabOk rfl rfl (ql_pure tabOk rfl rfl ?_)))))))
        refine ql_indexA (len := 4) p4_arr rfl rfl rfl (by omega) (by omega) ?_
        (refine ql_loadBa tabOk rfl rfl rfl ?_; refine ql_pure tabOk rfl rfl (ql_geqF tabOk rfl rfl rfl (by omega) (ql_pure tabOk rfl rfl (ql_gyes rfl (ql_pure tabOk rfl rfl (ql_gyes rfl (ql_pure tabOk rfl rfl (ql_gyes rfl (ql_ar tabOk rfl rfl rfl rfl (by omega) (by omega) (ql_gyes rfl ?_))))))))))
        refine ql_indexA (len := 4) p4_arr rfl rfl rfl (by omega) (by omega) ?_
        (refine ql_gyes rfl ?_; refine ql_loadBa tabOk rfl rfl rfl ?_; refine ql_gyes rfl (ql_pure tabOk rfl rfl (ql_gyes rfl (ql_geqF tabOk rfl rfl rfl (by omega) (ql_pure tabOk rfl rfl (q_nil (q_cond_false rfl (q_skip (q_seq ?_)))))))))
        refine q_cut (σ := Nat × Nat) (fun z => [(17, .pointer (some ⟨b17, 0, none⟩)), (18, .pointer (some ⟨b18, 0, none⟩)), (19, .pointer (some ⟨b19, 0, none⟩)), (28, .int .i64 s), (161, .int .i64 sk), (162, .int .i64 s), (165, .int .i64 (0 : Nat)), (30, .pointer (some ⟨z.1, 0, none⟩)), (31, .pointer (some ⟨z.2, 0, none⟩))])
          (fun z => [.pt z.1 [.int .i64 (spanP (lbM M 0) s).1, .int .i64 (spanP (lbM M 0) s).2] 45, .pt z.2 [.int .i64 (spanP (lbM M 1) s).1, .int .i64 (spanP (lbM M 1) s).2] 45, .ow (.slice (some ⟨g0, 0, none⟩) sk c0) 45 2 sk (spC (Pl 0)), .ow (.slice (some ⟨g1, 0, none⟩) sk c1) 45 2 sk (spC (Pl 1)), .ow (.slice (some ⟨g2, 0, none⟩) sk c2) 45 2 sk (spC (Pl 2)), .ow (.slice (some ⟨g3, 0, none⟩) sk c3) 45 2 sk (spC (Pl 3)), .pt b17 (ints (filA (oM M) 4 4)) 34, .pt b18 (ints (filA (rM M (kx + 1)) 4 4)) 34, .pt b19 [.slice (some ⟨g0, 0, none⟩) sk c0, .slice (some ⟨g1, 0, none⟩) sk c1, .slice (some ⟨g2, 0, none⟩) sk c2, .slice (some ⟨g3, 0, none⟩) sk c3] 36]) ?_ ?_
        rotate_left
        · intro K3 hK3
          refine q_drawT (tL1_f377381) _ [] (Sp.refl _) (by kernel_rfl) (by kernel_rfl) ?_
          refine qt_alt ?_ ?_
          · skip
            refine qt_seg (by repeat (first | exact PickL.nil | (apply PickL.cons; rfl))) fun K1 hK1 => ?_
            skip
            refine qf_alloc zero45 rfl (fun b30 => ?_)
            skip
            refine qf_alloc zero45 rfl (fun b31 => ?_)
            (refine qf_pure tabOk rfl rfl rfl ?_)
            refine qf_indexA (len := 4) p4_arr rfl rfl rfl (by omega) (by omega) ?_
            (refine qf_loadBa tabOk rfl rfl rfl ?_; refine qf_pure tabOk rfl rfl rfl ?_)
            refine qf_index tabOk rfl rfl rfl rfl rfl (by omega) (by omega) ?_
            refine qf_loadA (cs := [.int .i64 (spanP (lbM M 0) s).1, .int .i64 (spanP (lbM M 0) s).2]) tabOk rfl rfl rfl rfl (fun w hs q hq => by rw [Int.toNat_natCast, ← hPget 0 (by omega) s u0]; exact RdS.at (own_rdS (t := 45) (hs.mem (c := .ow (.slice (some ⟨g0, 0, none⟩) sk c0) 45 2 sk (spC (Pl 0))) (by repeat constructor)) (hPlen 0 (by omega)).symm) s u0 q hq) ?_
            (refine qf_setA tabOk rfl rfl rfl rfl rfl (by repeat constructor) rfl ?_; refine qf_pure tabOk rfl rfl rfl (qf_ar tabOk rfl rfl rfl rfl (by omega) (by omega) ?_))
            refine qf_indexA (len := 4) p4_arr rfl rfl rfl (by omega) (by omega) ?_
            (refine qf_loadBa tabOk rfl rfl rfl ?_; refine qf_pure tabOk rfl rfl rfl ?_)
            refine qf_index tabOk rfl rfl rfl rfl rfl (by omega) (by omega) ?_
            refine qf_loadA (cs := [.int .i64 (spanP (lbM M 1) s).1, .int .i64 (spanP (lbM M 1) s).2]) tabOk rfl rfl rfl rfl (fun w hs q hq => by rw [Int.toNat_natCast, ← hPget 1 (by omega) s u1]; exact RdS.at (own_rdS (t := 45) (hs.mem (c := .ow (.slice (some ⟨g1, 0, none⟩) sk c1) 45 2 sk (spC (Pl 1))) (by repeat constructor)) (hPlen 1 (by omega)).symm) s u1 q hq) ?_
            (refine qf_setA tabOk rfl rfl rfl rfl rfl (by repeat constructor) rfl ?_; refine qf_nil ?_)
            exact hK1 _ _ (qt_nil (hK3 (b30, b31) _ _ ⟨rfl, rfl, rfl, rfl, rfl, rfl, rfl, rfl, rfl, trivial⟩ (by repeat constructor)))
          · skip
            refine qt_seg (by repeat (first | exact PickL.nil | (apply PickL.cons; rfl))) fun K1 hK1 => ?_
            skip
            refine qf_alloc zero45 rfl (fun b31 => ?_)
            skip
            refine qf_alloc zero45 rfl (fun b30 => ?_)
            (refine qf_pure tabOk rfl rfl rfl ?_)
            refine qf_indexA (len := 4) p4_arr rfl rfl rfl (by omega) (by omega) ?_
            (refine qf_loadBa tabOk rfl rfl rfl ?_; refine qf_pure tabOk rfl rfl rfl ?_)
            refine qf_index tabOk rfl rfl rfl rfl rfl (by omega) (by omega) ?_
            refine qf_loadA (cs := [.int .i64 (spanP (lbM M 0) s).1, .int .i64 (spanP (lbM M 0) s).2]) tabOk rfl rfl rfl rfl (fun w hs q hq => by rw [Int.toNat_natCast, ← hPget 0 (by omega) s u0]; exact RdS.at (own_rdS (t := 45) (hs.mem (c := .ow (.slice (some ⟨g0, 0, none⟩) sk c0) 45 2 sk (spC (Pl 0))) (by repeat constructor)) (hPlen 0 (by omega)).symm) s u0 q hq) ?_
            (refine qf_setA tabOk rfl rfl rfl rfl rfl (by repeat constructor) rfl ?_; refine qf_pure tabOk rfl rfl rfl (qf_ar tabOk rfl rfl rfl rfl (by omega) (by omega) ?_))
            refine qf_indexA (len := 4) p4_arr rfl rfl rfl (by omega) (by omega) ?_
            (refine qf_loadBa tabOk rfl rfl rfl ?_; refine qf_pure tabOk rfl rfl rfl ?_)
            refine qf_index tabOk rfl rfl rfl rfl rfl (by omega) (by omega) ?_
            refine qf_loadA (cs := [.int .i64 (spanP (lbM M 1) s).1, .int .i64 (spanP (lbM M 1) s).2]) tabOk rfl rfl rfl rfl (fun w hs q hq => by rw [Int.toNat_natCast, ← hPget 1 (by omega) s u1]; exact RdS.at (own_rdS (t := 45) (hs.mem (c := .ow (.slice (some ⟨g1, 0, none⟩) sk c1) 45 2 sk (spC (Pl 1))) (by repeat constructor)) (hPlen 1 (by omega)).symm) s u1 q hq) ?_
            (refine qf_setA tabOk rfl rfl rfl rfl rfl (by repeat constructor) rfl ?_; refine qf_nil ?_)
            exact hK1 _ _ (qt_nil (hK3 (b30, b31) _ _ ⟨rfl, rfl, rfl, rfl, rfl, rfl, rfl, rfl, rfl, trivial⟩ (by repeat constructor)))
        rintro ⟨b30, b31⟩
        dsimp only
        generalize (spanP (lbM M 0) s).1 = z1 at *
        generalize (spanP (lbM M 0) s).2 = z2 at *
        generalize (spanP (lbM M 1) s).1 = z3 at *
        generalize (spanP (lbM M 1) s).2 = z4 at *
        (refine q_seq (q_region (ql_pure tabOk rfl rfl ?_)); refine ql_loadBa tabOk rfl rfl rfl ?_; refine ql_pure tabOk rfl rfl ?_; refine ql_loadBa tabOk rfl rfl rfl ?_; refine ql_lssF tabOk rfl rfl rfl (by omega) (ql_pure tabOk rfl rfl (ql_gyes rfl (ql_pure tabOk rfl rfl (ql_gyes rfl ?_)))); refine ql_loadBa tabOk rfl rfl rfl ?_; refine ql_gyes rfl (ql_pure tabOk rfl rfl (ql_gyes rfl ?_)); refine ql_loadBa tabOk rfl rfl rfl ?_; refine ql_gyes rfl (ql_gtrF tabOk rfl rfl rfl (by omega) (ql_pure tabOk rfl rfl (q_nil (q_cond_false rfl (q_skip (q_blk (q_region (ql_ar tabOk rfl rfl rfl rfl (by omega) (by omega) (ql_pure tabOk rfl rfl (q_nil ?_)))))))))))
        exact hK2 (0 + 1) _ _ (by omega) (by omega) ⟨rfl, rfl, rfl, rfl, rfl, rfl, rfl, trivial⟩ (by repeat constructor)
      · have hsp := hsp1 s hs3
        have u1 : s < (Pl 1).length := by rw [hPlen 1 (by omega)]; exact hs3
        have u2 : s < (Pl 2).length := by rw [hPlen 2 (by omega)]; exact hs3
        (refine q_seq (q_region (ql_lssT tabOk rfl rfl rfl (by omega) (q_nil (q_seq (q_cond_true rfl (q_skip (q_seq (q_block (q_seq (q_region (ql_pure tabOk rfl rfl ?_))))))))))); refine ql_pure tabOk rfl rfl (q_nil (q_seq (q_seq (q_region (ql_pure tabOk rfl rfl (ql_pure tabOk rfl rfl ?_)))))))
        refine ql_indexA (len := 4) p4_arr rfl rfl rfl (by omega) (by omega) ?_
        (refine ql_loadBa tabOk rfl rfl rfl ?_; refine ql_pure tabOk rfl rfl (ql_geqF tabOk rfl rfl rfl (by omega) (ql_pure tabOk rfl rfl (ql_gyes rfl (ql_pure tabOk rfl rfl (ql_gyes rfl (ql_pure tabOk rfl rfl (ql_gyes rfl (ql_ar tabOk rfl rfl rfl rfl (by omega) (by omega) (ql_gyes rfl ?_))))))))))
        refine ql_indexA (len := 4) p4_arr rfl rfl rfl (by omega) (by omega) ?_
        (refine ql_gyes rfl ?_; refine ql_loadBa tabOk rfl rfl rfl ?_; refine ql_gyes rfl (ql_pure tabOk rfl rfl (ql_gyes rfl (ql_geqF tabOk rfl rfl rfl (by omega) (ql_pure tabOk rfl rfl (q_nil (q_cond_false rfl (q_skip (q_seq ?_)))))))))
        refine q_cut (σ := Nat × Nat) (fun z => [(17, .pointer (some ⟨b17, 0, none⟩)), (18, .pointer (some ⟨b18, 0, none⟩)), (19, .pointer (some ⟨b19, 0, none⟩)), (28, .int .i64 s), (161, .int .i64 sk), (162, .int .i64 s), (165, .int .i64 (1 : Nat)), (30, .pointer (some ⟨z.1, 0, none⟩)), (31, .pointer (some ⟨z.2, 0, none⟩))])
          (fun z => [.pt z.1 [.int .i64 (spanP (lbM M 1) s).1, .int .i64 (spanP (lbM M 1) s).2] 45, .pt z.2 [.int .i64 (spanP (lbM M 2) s).1, .int .i64 (spanP (lbM M 2) s).2] 45, .ow (.slice (some ⟨g0, 0, none⟩) sk c0) 45 2 sk (spC (Pl 0)), .ow (.slice (some ⟨g1, 0, none⟩) sk c1) 45 2 sk (spC (Pl 1)), .ow (.slice (some ⟨g2, 0, none⟩) sk c2) 45 2 sk (spC (Pl 2)), .ow (.slice (some ⟨g3, 0, none⟩) sk c3) 45 2 sk (spC (Pl 3)), .pt b17 (ints (filA (oM M) 4 4)) 34, .pt b18 (ints (filA (rM M (kx + 1)) 4 4)) 34, .pt b19 [.slice (some ⟨g0, 0, none⟩) sk c0, .slice (some ⟨g1, 0, none⟩) sk c1, .slice (some ⟨g2, 0, none⟩) sk c2, .slice (some ⟨g3, 0, none⟩) sk c3] 36]) ?_ ?_
        rotate_left
        · intro K3 hK3
          refine q_drawT (tL1_f377381) _ [] (Sp.refl _) (by kernel_rfl) (by kernel_rfl) ?_
          refine qt_alt ?_ ?_
          · skip
            refine qt_seg (by repeat (first | exact PickL.nil | (apply PickL.cons; rfl))) fun K1 hK1 => ?_
            skip
            refine qf_alloc zero45 rfl (fun b30 => ?_)
            skip
            refine qf_alloc zero45 rfl (fun b31 => ?_)
            (refine qf_pure tabOk rfl rfl rfl ?_)
            refine qf_indexA (len := 4) p4_arr rfl rfl rfl (by omega) (by omega) ?_
            (refine qf_loadBa tabOk rfl rfl rfl ?_; refine qf_pure tabOk rfl rfl rfl ?_)
            refine qf_index tabOk rfl rfl rfl rfl rfl (by omega) (by omega) ?_
            refine qf_loadA (cs := [.int .i64 (spanP (lbM M 1) s).1, .int .i64 (spanP (lbM M 1) s).2]) tabOk rfl rfl rfl rfl (fun w hs q hq => by rw [Int.toNat_natCast, ← hPget 1 (by omega) s u1]; exact RdS.at (own_rdS (t := 45) (hs.mem (c := .ow (.slice (some ⟨g1, 0, none⟩) sk c1) 45 2 sk (spC (Pl 1))) (by repeat constructor)) (hPlen 1 (by omega)).symm) s u1 q hq) ?_
            (refine qf_setA tabOk rfl rfl rfl rfl rfl (by repeat constructor) rfl ?_; refine qf_pure tabOk rfl rfl rfl (qf_ar tabOk rfl rfl rfl rfl (by omega) (by omega) ?_))
            refine qf_indexA (len := 4) p4_arr rfl rfl rfl (by omega) (by omega) ?_
            (refine qf_loadBa tabOk rfl rfl rfl ?_; refine qf_pure tabOk rfl rfl rfl ?_)
            refine qf_index tabOk rfl rfl rfl rfl rfl (by omega) (by omega) ?_
            refine qf_loadA (cs := [.int .i64 (spanP (lbM M 2) s).1, .int .i64 (spanP (lbM M 2) s).2]) tabOk rfl rfl rfl rfl (fun w hs q hq => by rw [Int.toNat_natCast, ← hPget 2 (by omega) s u2]; exact RdS.at (own_rdS (t := 45) (hs.mem (c := .ow (.slice (some ⟨g2, 0, none⟩) sk c2) 45 2 sk (spC (Pl 2))) (by repeat constructor)) (hPlen 2 (by omega)).symm) s u2 q hq) ?_
            (refine qf_setA tabOk rfl rfl rfl rfl rfl (by repeat constructor) rfl ?_; refine qf_nil ?_)
            exact hK1 _ _ (qt_nil (hK3 (b30, b31) _ _ ⟨rfl, rfl, rfl, rfl, rfl, rfl, rfl, rfl, rfl, trivial⟩ (by repeat constructor)))
          · skip
            refine qt_seg (by repeat (first | exact PickL.nil | (apply PickL.cons; rfl))) fun K1 hK1 => ?_
            skip
            refine qf_alloc zero45 rfl (fun b31 => ?_)
            skip
            refine qf_alloc zero45 rfl (fun b30 => ?_)
            (refine qf_pure tabOk rfl rfl rfl ?_)
            refine qf_indexA (len := 4) p4_arr rfl rfl rfl (by omega) (by omega) ?_
            (refine qf_loadBa tabOk rfl rfl rfl ?_; refine qf_pure tabOk rfl rfl rfl ?_)
            refine qf_index tabOk rfl rfl rfl rfl rfl (by omega) (by omega) ?_
            refine qf_loadA (cs := [.int .i64 (spanP (lbM M 1) s).1, .int .i64 (spanP (lbM M 1) s).2]) tabOk rfl rfl rfl rfl (fun w hs q hq => by rw [Int.toNat_natCast, ← hPget 1 (by omega) s u1]; exact RdS.at (own_rdS (t := 45) (hs.mem (c := .ow (.slice (some ⟨g1, 0, none⟩) sk c1) 45 2 sk (spC (Pl 1))) (by repeat constructor)) (hPlen 1 (by omega)).symm) s u1 q hq) ?_
            (refine qf_setA tabOk rfl rfl rfl rfl rfl (by repeat constructor) rfl ?_; refine qf_pure tabOk rfl rfl rfl (qf_ar tabOk rfl rfl rfl rfl (by omega) (by omega) ?_))
            refine qf_indexA (len := 4) p4_arr rfl rfl rfl (by omega) (by omega) ?_
            (refine qf_loadBa tabOk rfl rfl rfl ?_; refine qf_pure tabOk rfl rfl rfl ?_)
            refine qf_index tabOk rfl rfl rfl rfl rfl (by omega) (by omega) ?_
            refine qf_loadA (cs := [.int .i64 (spanP (lbM M 2) s).1, .int .i64 (spanP (lbM M 2) s).2]) tabOk rfl rfl rfl rfl (fun w hs q hq => by rw [Int.toNat_natCast, ← hPget 2 (by omega) s u2]; exact RdS.at (own_rdS (t := 45) (hs.mem (c := .ow (.slice (some ⟨g2, 0, none⟩) sk c2) 45 2 sk (spC (Pl 2))) (by repeat constructor)) (hPlen 2 (by omega)).symm) s u2 q hq) ?_
            (refine qf_setA tabOk rfl rfl rfl rfl rfl (by repeat constructor) rfl ?_; refine qf_nil ?_)
            exact hK1 _ _ (qt_nil (hK3 (b30, b31) _ _ ⟨rfl, rfl, rfl, rfl, rfl, rfl, rfl, rfl, rfl, trivial⟩ (by repeat constructor)))
        rintro ⟨b30, b31⟩
        dsimp only
        generalize (spanP (lbM M 1) s).1 = z1 at *
        generalize (spanP (lbM M 1) s).2 = z2 at *
        generalize (spanP (lbM M 2) s).1 = z3 at *
        generalize (spanP (lbM M 2) s).2 = z4 at *
        (refine q_seq (q_region (ql_pure tabOk rfl rfl ?_)); refine ql_loadBa tabOk rfl rfl rfl ?_; refine ql_pure tabOk rfl rfl ?_; refine ql_loadBa tabOk rfl rfl rfl ?_; refine ql_lssF tabOk rfl rfl rfl (by omega) (ql_pure tabOk rfl rfl (ql_gyes rfl (ql_pure tabOk rfl rfl (ql_gyes rfl ?_)))); refine ql_loadBa tabOk rfl rfl rfl ?_; refine ql_gyes rfl (ql_pure tabOk rfl rfl (ql_gyes rfl ?_)); refine ql_loadBa tabOk rfl rfl rfl ?_; refine ql_gyes rfl (ql_gtrF tabOk rfl rfl rfl (by omega) (ql_pure tabOk rfl rfl (q_nil (q_cond_false rfl (q_skip (q_blk (q_region (ql_ar tabOk rfl rfl rfl rfl (by omega) (by omega) (ql_pure tabOk rfl rfl (q_nil ?_)))))))))))
        exact hK2 (1 + 1) _ _ (by omega) (by omega) ⟨rfl, rfl, rfl, rfl, rfl, rfl, rfl, trivial⟩ (by repeat constructor)
      · (refine q_seq (q_region (ql_lssF tabOk rfl rfl rfl (by omega) (q_nil (q_seq (q_cond_false rfl (q_exit _ rfl (q_blk (q_region (ql_ar tabOk rfl rfl rfl rfl (by omega) (by omega) (ql_pure tabOk rfl rfl (q_nil ?_))))))))))))
        exact hK (s + 1) _ _ (by omega) (by omega) ⟨rfl, rfl, rfl, rfl, rfl, trivial⟩ (by repeat constructor)
    · obtain rfl : s = sk := by omega
      have n0 := hl0 0 (by omega)
      have n1 := hl0 1 (by omega)
      have n2 := hl0 2 (by omega)
      have n3 := hl0 3 (by omega)
      have h8 : s ≤ 8 := by omega
      have hO0 : oM M 0 ≤ oM M 1 := by unfold oM; rw [n0, n1]; exact Int.ofNat_le.2 (cnt_mono h8 lf0 _)
      have hO1 : oM M 1 ≤ oM M 2 := by unfold oM; rw [n1, n2]; exact Int.ofNat_le.2 (cnt_mono h8 lf1 _)
      have hO3 : oM M 3 = oM M 1 := by unfold oM; rw [n1, n3, eO3]
      have hR0 : rM M (kx + 1) 0 ≤ rM M (kx + 1) 1 := by unfold rM; rw [n0, n1]; exact Int.ofNat_le.2 (plan_le_of h8 (hok' 1 (by omega)).1.o (hok' 0 (by omega)).1.o (by rw [← n0]; exact (hok' 0 (by omega)).2) lf0)
      have hR1 : rM M (kx + 1) 1 ≤ rM M (kx + 1) 2 := by unfold rM; rw [n1, n2]; exact Int.ofNat_le.2 (plan_le_of h8 (hok' 2 (by omega)).1.o (hok' 1 (by omega)).1.o (by rw [← n1]; exact (hok' 1 (by omega)).2) lf1)
      have hR3 : rM M (kx + 1) 3 = rM M (kx + 1) 1 := by unfold rM; rw [n1, n3, eO3]
      have hP3 : Pl 3 = Pl 1 := by
        refine List.ext_getElem (by rw [hPlen 3 (by omega), hPlen 1 (by omega)]) (fun q h1 h2 => ?_)
        rw [hPget 3 (by omega) q h1, hPget 1 (by omega) q h2]
        unfold spanP
        rw [n1, n3, eO3, hs0 1 (by omega), hs0 3 (by omega)]
      have hP1l := hPlen 1 (by omega)
      rw [filA_full, filA_full, hP3]
      generalize oM M 0 = o0 at *
      generalize oM M 1 = o1 at *
      generalize oM M 2 = o2 at *
      generalize oM M 3 = o3 at *
      generalize rM M (kx + 1) 0 = r0 at *
      generalize rM M (kx + 1) 1 = r1 at *
      generalize rM M (kx + 1) 2 = r2 at *
      generalize rM M (kx + 1) 3 = r3 at *
      (refine q_exit _ rfl (q_seq (q_region ?_)))
      refine ql_indexA (len := 4) a4_arr rfl rfl rfl (by decide) (by decide) ?_
      (refine ql_loadBa tabOk rfl rfl rfl ?_)
      refine ql_indexA (len := 4) a4_arr rfl rfl rfl (by decide) (by decide) ?_
      (refine ql_loadBa tabOk rfl rfl rfl ?_; refine ql_leqT tabOk rfl rfl rfl (by omega) (ql_pure tabOk rfl rfl (ql_gyes rfl ?_)))
      refine ql_indexA (len := 4) a4_arr rfl rfl rfl (by decide) (by decide) ?_
      (refine ql_gyes rfl ?_; refine ql_loadBa tabOk rfl rfl rfl ?_; refine ql_gyes rfl ?_)
      refine ql_indexA (len := 4) a4_arr rfl rfl rfl (by decide) (by decide) ?_
      (refine ql_gyes rfl ?_; refine ql_loadBa tabOk rfl rfl rfl ?_; refine ql_gyes rfl (ql_leqT tabOk rfl rfl rfl (by omega) (ql_pure tabOk rfl rfl (ql_pure tabOk rfl rfl (ql_gyes rfl ?_)))))
      refine ql_indexA (len := 4) a4_arr rfl rfl rfl (by decide) (by decide) ?_
      (refine ql_gyes rfl ?_; refine ql_loadBa tabOk rfl rfl rfl ?_; refine ql_gyes rfl ?_)
      refine ql_indexA (len := 4) a4_arr rfl rfl rfl (by decide) (by decide) ?_
      (refine ql_gyes rfl ?_; refine ql_loadBa tabOk rfl rfl rfl ?_; refine ql_gyes rfl (ql_leqT tabOk rfl rfl rfl (by omega) (ql_pure tabOk rfl rfl (ql_pure tabOk rfl rfl (ql_gyes rfl ?_)))))
      refine ql_indexA (len := 4) a4_arr rfl rfl rfl (by decide) (by decide) ?_
      (refine ql_gyes rfl ?_; refine ql_loadBa tabOk rfl rfl rfl ?_; refine ql_gyes rfl ?_)
      refine ql_indexA (len := 4) a4_arr rfl rfl rfl (by decide) (by decide) ?_
      (refine ql_gyes rfl ?_; refine ql_loadBa tabOk rfl rfl rfl ?_; refine ql_gyes rfl (ql_leqT tabOk rfl rfl rfl (by omega) (ql_pure tabOk rfl rfl (ql_pure tabOk rfl rfl (ql_gyes rfl ?_)))))
      refine ql_indexA (len := 4) a4_arr rfl rfl rfl (by decide) (by decide) ?_
      (refine ql_gyes rfl ?_; refine ql_loadBa tabOk rfl rfl rfl ?_; refine ql_gyes rfl ?_)
      refine ql_indexA (len := 4) a4_arr rfl rfl rfl (by decide) (by decide) ?_
      (refine ql_gyes rfl ?_; refine ql_loadBa tabOk rfl rfl rfl ?_; refine ql_gyes rfl (ql_eqlT tabOk rfl rfl rfl (by omega) (ql_pure tabOk rfl rfl (ql_pure tabOk rfl rfl (ql_gyes rfl ?_)))))
      refine ql_indexA (len := 4) a4_arr rfl rfl rfl (by decide) (by decide) ?_
      (refine ql_gyes rfl ?_; refine ql_loadBa tabOk rfl rfl rfl ?_; refine ql_gyes rfl ?_)
      refine ql_indexA (len := 4) a4_arr rfl rfl rfl (by decide) (by decide) ?_
      (refine ql_gyes rfl ?_; refine ql_loadBa tabOk rfl rfl rfl ?_; refine ql_gyes rfl (ql_eqlT tabOk rfl rfl rfl (by omega) (ql_pure tabOk rfl rfl (ql_pure tabOk rfl rfl (ql_gyes rfl ?_)))))
      refine ql_indexA (len := 4) p4_arr rfl rfl rfl (by decide) (by decide) ?_
      (refine ql_gyes rfl ?_; refine ql_loadBa tabOk rfl rfl rfl ?_; refine ql_gyes rfl ?_)
      refine ql_indexA (len := 4) p4_arr rfl rfl rfl (by decide) (by decide) ?_
      (refine ql_gyes rfl ?_; refine ql_loadBa tabOk rfl rfl rfl ?_; refine ql_gyes rfl ?_)
      refine ql_callv (val := .bool true) tabOk rfl rfl rfl rfl (fun w hs => ?_) ?_; exact eqS_ca w 0 w.heap.size 0 w.heap.size _ _ (Pl 1) (own_rdS (t := 45) (hs.mem (c := .ow (.slice (some ⟨g3, 0, none⟩) s c3) 45 2 s (spC (Pl 1))) (by repeat constructor)) hP1l.symm) (own_rdS (t := 45) (hs.mem (c := .ow (.slice (some ⟨g1, 0, none⟩) s c1) 45 2 s (spC (Pl 1))) (by repeat constructor)) hP1l.symm) (by omega)
      (refine ql_pure tabOk rfl rfl (ql_pure tabOk rfl rfl (ql_gyes rfl ?_)))
      refine ql_callv (val := .bool true) tabOk rfl rfl rfl rfl (fun w hs => ?_) ?_; exact awake_ca w
      (refine ql_pure tabOk rfl rfl (ql_pure tabOk rfl rfl (q_nil (q_ret ?_))))
      refine q_fin tabOk rfl (by repeat constructor) fun w hs => ?_
      exact ⟨rfl, hs.chg0⟩
end Go.Proofs.Ytcmpdmobmbbplaa
