/- My texts F40, F36, F41, F42, LwG, LwH, joined: a claim takes at most 60 files. -/
import Derived.Test.YtopdmadgkjdgcaaGreatJ4

/- Walks of the reference: what follows from a plan, and its depth. Written by gen_F40.py. -/
namespace Go.Proofs.YtopdmadgkjdgcaaGreat
set_option maxRecDepth 4000
open Go Go.Eng
theorem aft_free {s : Sc} {k : Kn} {i : Nat} (hf : k.free i = true) (b : Bool) : afterV s k i b = (kB s k i b, decide ((kB s k i b).lo ≤ (kB s k i b).hi)) := by
  unfold afterV kB
  rw [if_neg (by rw [hf]; simp)]
  cases b
  · rw [if_neg (by decide), if_neg (by decide), Bool.and_true]
  · rw [if_pos rfl, if_pos rfl, Bool.and_true]
theorem aft_old {s : Sc} {k : Kn} {i : Nat} (hf : k.free i = false) (b : Bool) : afterV s k i b = (k, k.p.getD i false == b) := by
  unfold afterV
  rw [if_pos hf]
theorem out_no {s : Sc} {plan : List Nd} {g : Nat} {x : Nd} {k : Kn} {i j : Nat} (h : (cJ s k i j).2 = false) : outJ s plan g x k i (j + 1) = outJ s plan g x k i j := by
  simp only [outJ]
  rw [if_neg (by rw [h]; simp)]
theorem out_yes {s : Sc} {plan : List Nd} {g : Nat} {x : Nd} {k : Kn} {i j : Nat} (h : (cJ s k i j).2 = true) : outJ s plan g x k i (j + 1) = max (outJ s plan g x k i j) (fJ s plan g x k i j + 1) := by
  simp only [outJ]
  rw [if_pos h, Int.add_comm 1]
theorem rfollow_end (w : World) (lo hi l2 h2 : Nat) (s : Sc) (tv rv ov sv vp : Value) (plan : List Nd) (k : Kn) (g : Nat) (h : ScR w lo hi tv rv s) (hs0 : s.Ok) (hk : k.Fit) (hkr : KnR w l2 h2 ov sv s k) : Ca Tryz.prog 132 [.agg (scC s tv rv).toArray, vp, .int .i64 (-1), .agg #[ov, sv]] w fun x w' => x = .int .i64 (folF s plan g (-1) k) ∧ Chg [] w w' := by
  have h8 := hs0.rn8
  obtain ⟨ta, tc, rfl, _⟩ := RdS.outI h.t
  obtain ⟨ra, rc, rfl, _⟩ := RdI.outI h.r
  obtain ⟨sa, sc, rfl, _⟩ := RdI.outI hkr.s
  obtain ⟨oa, oc, rfl, _⟩ := hkr.o.out
  obtain ⟨NS, hNS⟩ : ∃ N, N = (skL s k).length := ⟨_, rfl⟩
  obtain ⟨NO, hNO⟩ : ∃ N, N = (bools (ofsL k.lo k.hi)).length := ⟨_, rfl⟩
  rw [← hNS, ← hNO] at hkr ⊢
  rw [fol_neg]
  refine q_of (Sat.nil w M0) Tryz.func132 rfl (by simp [Tryz.ntmps132]) ?_
  (refine q_seq (q_region ?_))
  refine ql_box rfl rfl (fun b4 => ?_)
  rw [agg_cells]
  skip
  refine ql_box rfl rfl (fun b7 => ?_)
  (refine ql_pure tabOk rfl rfl (q_nil (q_seq (q_seq (q_region (ql_pure tabOk rfl rfl (ql_lssT tabOk rfl rfl rfl (by omega) (q_nil (q_cond_true rfl (q_seq (q_seq (q_region ?_))))))))))); refine ql_pure tabOk rfl rfl (q_nil (q_block ?_)))
  refine q_conv (H' := [.pt b7 [.slice oa NO oc, .slice sa NS sc] 209, .pt b4 (scC s (.slice ta s.tests.length tc) (.slice ra s.rifles.length rc)) 51]) (fun w' hs => hs.sp (by repeat constructor)) ?_
  refine q_loop (σ := Nat) (fun i => i ≤ s.rifles.length ∧ ∀ j, j < i → openK s k j = false) (fun i => s.rifles.length - i) (fun i => [(4, .pointer (some ⟨b4, 0, none⟩)), (7, .pointer (some ⟨b7, 0, none⟩)), (9, .int .i64 i)]) (fun _ => [.pt b7 [.slice oa NO oc, .slice sa NS sc] 209, .pt b4 (scC s (.slice ta s.tests.length tc) (.slice ra s.rifles.length rc)) 51]) 0 ⟨by omega, fun j hj => by omega⟩ ⟨rfl, rfl, rfl, trivial⟩ (by repeat constructor) ?_
  rintro i ⟨hi2, hno⟩ K hK
  (refine q_seq (q_seq (q_region (ql_pure tabOk rfl rfl (ql_pure tabOk rfl rfl ?_)))); refine ql_loadBa tabOk rfl rfl rfl ?_; refine ql_pure tabOk rfl rfl (ql_pure tabOk rfl rfl (q_nil ?_)))
  refine q_if rfl (fun hc => ?_) (fun hc => ?_)
  · have hi3 : i < s.rifles.length := by omega
    clear hc
    (refine q_skip (q_seq (q_block (q_seq (q_region ?_)))); (iterate 2 refine ql_loadABa tabOk rfl rfl rfl ?_); refine ql_pure tabOk rfl rfl ?_)
    refine ql_callv (val := .bool (openK s k i)) tabOk rfl rfl rfl rfl (fun w hs => ?_) ?_; exact rropen_ca w lo hi l2 h2 s _ _ _ _ k (h.keep hs.chg0) hs0 (hkr.keep hs.chg0) hk i hi3
    cases ho : openK s k i with
    | false =>
      (refine q_nil (q_cond_false rfl (q_skip (q_blk (q_region (ql_pure tabOk rfl rfl (ql_ar tabOk rfl rfl rfl rfl (by omega) (by omega) (ql_pure tabOk rfl rfl (q_nil ?_)))))))))
      exact hK (i + 1) _ _ ⟨by omega, fun j hj => (by omega : j < i ∨ j = i).elim (hno j) (fun e => by rw [e]; exact ho)⟩ (by omega) ⟨rfl, rfl, rfl, trivial⟩ (by repeat constructor)
    | true =>
      rw [if_neg (fun e => by have := openL_mem.2 ⟨hi3, ho⟩; rw [e] at this; cases this)]
      (refine q_nil (q_cond_true rfl (q_seq (q_region (ql_pure tabOk rfl rfl (q_nil (q_ret ?_)))))))
      refine q_fin tabOk rfl (by repeat constructor) fun w hs => ?_
      exact ⟨rfl, hs.chg0⟩
  · obtain rfl : i = s.rifles.length := by omega
    rw [if_pos (List.eq_nil_iff_forall_not_mem.2 fun j hj => by obtain ⟨g1, g2⟩ := openL_mem.1 hj; rw [hno j g1] at g2; cases g2)]
    (refine q_exit _ rfl (q_seq (q_region (ql_pure tabOk rfl rfl (q_nil (q_ret ?_))))))
    refine q_fin tabOk rfl (by repeat constructor) fun w hs => ?_
    exact ⟨rfl, hs.chg0⟩
def tF40_c0f9e8e : OT := .alt (chainT [0, 1, 2, 3, 4, 5, 6, 7, 8, 9, 10, 12, 13, 11, 14] (.nil)) (chainT [12, 0, 1, 2, 3, 4, 5, 6, 7, 8, 9, 10, 13, 11, 14] (.nil))
set_option maxHeartbeats 8000000 in
theorem rfollow_ca (lo hi : Nat) (s : Sc) (tv rv : Value) (plan : List Nd) (vp : Value) (hs0 : s.Ok) (hp : RpOk s plan) (hpl : plan.length ≤ 300) : ∀ (g : Nat), g ≤ 1000 → ∀ (n : Int) (k : Kn) (w : World) (l2 h2 : Nat) (ov sv : Value), (n = -1 ∨ 0 ≤ n ∧ n < plan.length ∧ plan.length ≤ g + n.toNat) → k.Fit → ScR w lo hi tv rv s → RdN w lo hi vp plan → KnR w l2 h2 ov sv s k →
    Ca Tryz.prog 132 [.agg (scC s tv rv).toArray, vp, .int .i64 n, .agg #[ov, sv]] w fun x w' => x = .int .i64 (folF s plan g n k) ∧ Chg [] w w' := by
  have h8 := hs0.rn8
  have hn1 := hs0.rn1
  intro g
  induction g with
  | zero =>
    intro hg n k w l2 h2 ov sv hn hk h hr hkr
    obtain rfl : n = -1 := by omega
    exact rfollow_end w lo hi l2 h2 s tv rv ov sv vp plan k 0 h hs0 hk hkr
  | succ g ih =>
    intro hg n k w l2 h2 ov sv hn hk h hr hkr
    by_cases hneg : n = -1
    · subst hneg
      exact rfollow_end w lo hi l2 h2 s tv rv ov sv vp plan k (g + 1) h hs0 hk hkr
    · obtain ⟨m, rfl⟩ := Int.eq_ofNat_of_zero_le (show 0 ≤ n by omega)
      have hm2 : m < plan.length := by omega
      have hnd := ndV_get hm2
      obtain ⟨⟨r0, r1⟩, p0, f0⟩ := hp m hm2
      obtain ⟨i, hri⟩ := Int.eq_ofNat_of_zero_le r0
      have hil : i < s.rifles.length := by omega
      obtain ⟨NN, hNN⟩ : ∃ N : Nat, N = 2001 := ⟨_, rfl⟩
      obtain ⟨pa, pc, rfl, hpa⟩ := RdN.outI hr
      obtain ⟨pa, po, rfl⟩ := hpa (by omega)
      obtain ⟨ta, tc, rfl, _⟩ := RdS.outI h.t
      obtain ⟨ra, rc, rfl, _⟩ := RdI.outI h.r
      obtain ⟨sa, sc, rfl, _⟩ := RdI.outI hkr.s
      obtain ⟨oa, oc, rfl, _⟩ := hkr.o.out
      obtain ⟨NS, hNS⟩ : ∃ N, N = (skL s k).length := ⟨_, rfl⟩
      obtain ⟨NO, hNO⟩ : ∃ N, N = (bools (ofsL k.lo k.hi)).length := ⟨_, rfl⟩
      rw [← hNS, ← hNO] at hkr ⊢
      refine q_of (Sat.nil w M0) Tryz.func132 rfl (by simp [Tryz.ntmps132]) ?_
      (refine q_seq (q_region ?_))
      refine ql_box rfl rfl (fun b4 => ?_)
      rw [agg_cells]
      skip
      refine ql_box rfl rfl (fun b7 => ?_)
      (refine ql_pure tabOk rfl rfl (q_nil (q_seq (q_seq (q_region (ql_pure tabOk rfl rfl (ql_lssF tabOk rfl rfl rfl (by omega) (q_nil (q_cond_false rfl (q_skip (q_seq (q_region ?_))))))))))); refine ql_pure tabOk rfl rfl (q_nil (q_seq (q_seq (q_region (ql_pure tabOk rfl rfl (q_nil (q_block ?_))))))))
      refine q_conv (H' := [.pt b7 [.slice oa NO oc, .slice sa NS sc] 209, .pt b4 (scC s (.slice ta s.tests.length tc) (.slice ra s.rifles.length rc)) 51]) (fun w' hs => hs.sp (by repeat constructor)) ?_
      refine q_loop (σ := Nat) (fun j => j ≤ 2 ∧ ∀ j', j' < j → ¬ ((cJ s k i j').2 = true ∧ fJ s plan g (ndV plan m) k i j' < 0)) (fun j => 2 - j) (fun j => [(1, .slice (some ⟨pa, po, none⟩) plan.length pc), (2, .int .i64 (m : Nat)), (4, .pointer (some ⟨b4, 0, none⟩)), (7, .pointer (some ⟨b7, 0, none⟩)), (10, .int .i64 (outJ s plan g (ndV plan m) k i j)), (11, .int .i64 ((j + 1 : Nat)))]) (fun _ => [.pt b7 [.slice oa NO oc, .slice sa NS sc] 209, .pt b4 (scC s (.slice ta s.tests.length tc) (.slice ra s.rifles.length rc)) 51]) 0 ⟨by omega, fun j hj => by omega⟩ ⟨rfl, rfl, rfl, rfl, rfl, rfl, trivial⟩ (by repeat constructor) ?_
      rintro j ⟨hj2, hno⟩ K2 hK2
      have hob := out_bd s plan g (ndV plan m) k i j
      by_cases hj0 : j = 0
      · subst hj0
        cases hf : k.free i with
        | true =>
          (refine q_seq (q_seq (q_region (ql_pure tabOk rfl rfl (ql_lssT tabOk rfl rfl rfl (by omega) (q_nil (q_cond_true rfl (q_skip (q_seq (q_block (q_seq (q_region ?_))))))))))); refine ql_pure tabOk rfl rfl (ql_pure tabOk rfl rfl ?_))
          refine ql_index tabOk rfl rfl rfl rfl rfl (by omega) (by omega) ?_
          (refine ql_pure tabOk rfl rfl ?_)
          refine ql_load1 (v := .int .i64 (ndV plan m).p) tabOk rfl rfl rfl (fun w hs => by rw [hnd]; exact RdN.at1 (RdE.keep hr hs.chg0) m hm2) ?_
          (refine ql_pure tabOk rfl rfl (q_nil (q_seq (q_seq (q_region (ql_pure tabOk rfl rfl (ql_eqlF tabOk rfl rfl rfl (by omega) (q_nil (q_cond_false rfl (q_skip (q_seq ?_)))))))))))
          refine q_cut (σ := (Option Addr × Nat) × (Option Addr × Nat) × Nat) (fun ⟨⟨u1, v1⟩, ⟨u2, v2⟩, b13⟩ => [(1, .slice (some ⟨pa, po, none⟩) plan.length pc), (2, .int .i64 (m : Nat)), (4, .pointer (some ⟨b4, 0, none⟩)), (7, .pointer (some ⟨b7, 0, none⟩)), (10, .int .i64 (outJ s plan g (ndV plan m) k i 0)), (11, .int .i64 ((0 + 1 : Nat))), (12, .int .i64 (nxJ (ndV plan m) 0)), (13, .pointer (some ⟨b13, 0, none⟩)), (14, .bool (decide ((kB s k i true).lo ≤ (kB s k i true).hi)))]) (fun ⟨⟨u1, v1⟩, ⟨u2, v2⟩, b13⟩ => [.ow (.slice u1 NN v1) 4 1 NN (bools (ofsL (kB s k i true).lo (kB s k i true).hi)), .ow (.slice u2 s.rifles.length v2) 3 1 s.rifles.length (ints (skL s (kB s k i true))), .pt b13 [.slice u1 NN v1, .slice u2 s.rifles.length v2] 209, .pt b7 [.slice oa NO oc, .slice sa NS sc] 209, .pt b4 (scC s (.slice ta s.tests.length tc) (.slice ra s.rifles.length rc)) 51]) ?_ ?_
          rotate_left
          · intro K3 hK3
            refine q_drawT (tF40_c0f9e8e) _ [] (Sp.refl _) (by kernel_rfl) (by kernel_rfl) ?_
            refine qt_alt ?_ ?_
            · skip
              refine qt_seg (by repeat (first | exact PickL.nil | (apply PickL.cons; rfl))) fun K1 hK1 => ?_
              ((iterate 2 refine qf_loadABa tabOk rfl rfl rfl ?_); refine qf_pure tabOk rfl rfl rfl (qf_pure tabOk rfl rfl rfl ?_))
              refine qf_index tabOk rfl rfl rfl rfl rfl (by omega) (by omega) ?_
              (refine qf_pure tabOk rfl rfl rfl ?_)
              refine qf_load1 (v := .int .i64 (ndV plan m).r) tabOk rfl rfl rfl (fun w hs => by rw [hnd]; exact RdN.at0 (RdE.keep hr hs.chg0) m hm2) ?_
              (refine qf_pure tabOk rfl rfl rfl ?_)
              rw [hri]
              refine qf_call (β := Value × Value) (ψ := fun y v => v = .tuple #[.agg #[y.1, y.2], .bool (decide ((kB s k i true).lo ≤ (kB s k i true).hi))]) (L' := fun y => [.ow y.1 4 1 NN (bools (ofsL (kB s k i true).lo (kB s k i true).hi)), .ow y.2 3 1 s.rifles.length (ints (skL s (kB s k i true)))]) tabOk [] _ M0 rfl rfl rfl rfl (Sp.refl _) (fun _ h => h.elim) (fun w' hs => by rw [hNN]; exact rafter_free w' lo hi l2 h2 s _ _ _ _ k (h.keep hs.chg0) hs0 (hkr.keep hs.chg0) hk i hil hf true) ?_
              rintro ⟨y1, y2⟩ _ rfl
              dsimp only [List.cons_append, List.nil_append]
              refine qf_fact (fun w hs => hs.slice2 (v := y1) (by repeat constructor)) ?_
              rintro ⟨u1, v1, rfl⟩
              refine qf_fact (fun w hs => hs.slice2 (v := y2) (by repeat constructor)) ?_
              rintro ⟨u2, v2, rfl⟩
              (refine qf_pure tabOk rfl rfl rfl (qf_ext tabOk rfl rfl rfl ?_))
              refine qf_alloc zero209 rfl (fun b13 => ?_)
              (refine qf_setA tabOk rfl rfl rfl rfl rfl (by repeat constructor) rfl ?_; refine qf_ext tabOk rfl rfl rfl (qf_pure tabOk rfl rfl rfl (qf_nil ?_)))
              skip
              skip
              exact hK1 _ _ (qt_nil (hK3 ((u1, v1), (u2, v2), b13) _ _ ⟨rfl, rfl, rfl, rfl, rfl, rfl, rfl, rfl, rfl, trivial⟩ (by repeat constructor)))
            · skip
              refine qt_seg (by repeat (first | exact PickL.nil | (apply PickL.cons; rfl))) fun K1 hK1 => ?_
              skip
              refine qf_alloc zero209 rfl (fun b13 => ?_)
              ((iterate 2 refine qf_loadABa tabOk rfl rfl rfl ?_); refine qf_pure tabOk rfl rfl rfl (qf_pure tabOk rfl rfl rfl ?_))
              refine qf_index tabOk rfl rfl rfl rfl rfl (by omega) (by omega) ?_
              (refine qf_pure tabOk rfl rfl rfl ?_)
              refine qf_load1 (v := .int .i64 (ndV plan m).r) tabOk rfl rfl rfl (fun w hs => by rw [hnd]; exact RdN.at0 (RdE.keep hr hs.chg0) m hm2) ?_
              (refine qf_pure tabOk rfl rfl rfl ?_)
              rw [hri]
              refine qf_call (β := Value × Value) (ψ := fun y v => v = .tuple #[.agg #[y.1, y.2], .bool (decide ((kB s k i true).lo ≤ (kB s k i true).hi))]) (L' := fun y => [.ow y.1 4 1 NN (bools (ofsL (kB s k i true).lo (kB s k i true).hi)), .ow y.2 3 1 s.rifles.length (ints (skL s (kB s k i true)))]) tabOk [] _ M0 rfl rfl rfl rfl (Sp.refl _) (fun _ h => h.elim) (fun w' hs => by rw [hNN]; exact rafter_free w' lo hi l2 h2 s _ _ _ _ k (h.keep hs.chg0) hs0 (hkr.keep hs.chg0) hk i hil hf true) ?_
              rintro ⟨y1, y2⟩ _ rfl
              dsimp only [List.cons_append, List.nil_append]
              refine qf_fact (fun w hs => hs.slice2 (v := y1) (by repeat constructor)) ?_
              rintro ⟨u1, v1, rfl⟩
              refine qf_fact (fun w hs => hs.slice2 (v := y2) (by repeat constructor)) ?_
              rintro ⟨u2, v2, rfl⟩
              (refine qf_pure tabOk rfl rfl rfl (qf_ext tabOk rfl rfl rfl ?_); refine qf_setA tabOk rfl rfl rfl rfl rfl (by repeat constructor) rfl ?_; refine qf_ext tabOk rfl rfl rfl (qf_pure tabOk rfl rfl rfl (qf_nil ?_)))
              skip
              skip
              exact hK1 _ _ (qt_nil (hK3 ((u1, v1), (u2, v2), b13) _ _ ⟨rfl, rfl, rfl, rfl, rfl, rfl, rfl, rfl, rfl, trivial⟩ (by repeat constructor)))
          rintro ⟨⟨u1, v1⟩, ⟨u2, v2⟩, b13⟩
          dsimp only
          have ea : cJ s k i 0 = ((kB s k i true), decide ((kB s k i true).lo ≤ (kB s k i true).hi)) := aft_free hf true
          cases hfl : decide ((kB s k i true).lo ≤ (kB s k i true).hi) with
          | false =>
            rw [hfl] at ea
            (refine q_seq (q_seq (q_region (ql_pure tabOk rfl rfl (ql_pure tabOk rfl rfl (q_nil (q_cond_true rfl (q_exit _ rfl (q_region (ql_pure tabOk rfl rfl (ql_ar tabOk rfl rfl rfl rfl (by omega) (by omega) (ql_pure tabOk rfl rfl ?_))))))))))); refine q_nil ?_)
            exact hK2 (0 + 1) _ _ ⟨by omega, fun j' hj' => (by omega : j' < 0 ∨ j' = 0).elim (hno j') (fun e => by subst e; rw [ea]; simp)⟩ (by omega) ⟨rfl, rfl, rfl, rfl, by rw [out_no (j := 0) (by rw [ea])]; rfl, rfl, trivial⟩ (by repeat constructor)
          | true =>
            rw [hfl] at ea
            have hfit : (kB s k i true).Fit := (by have := after_fit (s := s) (i := i) (b := true) hk (by rw [show afterV s k i true = cJ s k i 0 from rfl, ea]); rw [show afterV s k i true = cJ s k i 0 from rfl, ea] at this; exact this)
            have hfj : fJ s plan g (ndV plan m) k i 0 = folF s plan g (nxJ (ndV plan m) 0) (kB s k i true) := by unfold fJ; rw [ea]
            have hnx : nxJ (ndV plan m) 0 = -1 ∨ 0 ≤ nxJ (ndV plan m) 0 ∧ nxJ (ndV plan m) 0 < plan.length ∧ plan.length ≤ g + (nxJ (ndV plan m) 0).toNat := by
              rw [show nxJ (ndV plan m) 0 = (ndV plan m).p from rfl]
              omega
            have hfb := fol_bd s plan g (nxJ (ndV plan m) 0) (kB s k i true)
            (refine q_seq (q_seq (q_region (ql_pure tabOk rfl rfl (ql_pure tabOk rfl rfl (q_nil (q_cond_false rfl (q_skip (q_seq (q_region ?_))))))))); refine ql_loadABa tabOk rfl rfl rfl ?_; refine ql_pure tabOk rfl rfl (ql_pure tabOk rfl rfl ?_); refine ql_loadABa tabOk rfl rfl rfl ?_)
            refine ql_callv (val := .int .i64 (folF s plan g (nxJ (ndV plan m) 0) (kB s k i true))) tabOk rfl rfl rfl rfl (fun w hs => ?_) ?_; exact ih (by omega) (nxJ (ndV plan m) 0) (kB s k i true) w 0 w.heap.size (.slice u1 NN v1) (.slice u2 s.rifles.length v2) hnx hfit (h.keep hs.chg0) (RdE.keep hr hs.chg0) ⟨own_rdB (hs.mem (c := .ow (.slice u1 NN v1) 4 1 NN (bools (ofsL (kB s k i true).lo (kB s k i true).hi))) (by repeat constructor)) (by rw [ofsL_len, hNN]), hs.rdI (v := .slice u2 s.rifles.length v2) (t := 3) (n := s.rifles.length) (by repeat constructor) (skL_len _ _).symm⟩
            rw [← hfj] at hfb ⊢
            by_cases hneg : fJ s plan g (ndV plan m) k i 0 < 0
            · rw [fol_stop hri (show 0 < 2 by omega) (by rw [ea]) hneg]
              (refine ql_pure tabOk rfl rfl (q_nil (q_seq (q_seq (q_region (ql_pure tabOk rfl rfl (ql_lssT tabOk rfl rfl rfl (by omega) (q_nil (q_cond_true rfl (q_seq (q_region (ql_pure tabOk rfl rfl ?_))))))))))); refine q_nil (q_ret ?_))
              refine q_fin tabOk rfl (by repeat constructor) fun w hs => ?_
              exact ⟨rfl, hs.chg0⟩
            · (refine ql_pure tabOk rfl rfl (q_nil (q_seq (q_seq (q_region (ql_pure tabOk rfl rfl (ql_lssF tabOk rfl rfl rfl (by omega) (q_nil (q_cond_false rfl (q_skip (q_region (ql_pure tabOk rfl rfl ?_))))))))))); refine ql_pure tabOk rfl rfl (ql_ar tabOk rfl rfl rfl rfl (by omega) (by omega) (ql_pure tabOk rfl rfl (ql_pure tabOk rfl rfl (q_nil (q_blk (q_region (ql_pure tabOk rfl rfl (ql_ar tabOk rfl rfl rfl rfl (by omega) (by omega) (ql_pure tabOk rfl rfl (q_nil ?_)))))))))))
              exact hK2 (0 + 1) _ _ ⟨by omega, fun j' hj' => (by omega : j' < 0 ∨ j' = 0).elim (hno j') (fun e => by subst e; exact fun h => hneg h.2)⟩ (by omega) ⟨rfl, rfl, rfl, rfl, by rw [out_yes (j := 0) (by rw [ea])]; rfl, rfl, trivial⟩ (by repeat constructor)
        | false =>
          (refine q_seq (q_seq (q_region (ql_pure tabOk rfl rfl (ql_lssT tabOk rfl rfl rfl (by omega) (q_nil (q_cond_true rfl (q_skip (q_seq (q_block (q_seq (q_region ?_))))))))))); refine ql_pure tabOk rfl rfl (ql_pure tabOk rfl rfl ?_))
          refine ql_index tabOk rfl rfl rfl rfl rfl (by omega) (by omega) ?_
          (refine ql_pure tabOk rfl rfl ?_)
          refine ql_load1 (v := .int .i64 (ndV plan m).p) tabOk rfl rfl rfl (fun w hs => by rw [hnd]; exact RdN.at1 (RdE.keep hr hs.chg0) m hm2) ?_
          (refine ql_pure tabOk rfl rfl (q_nil (q_seq (q_seq (q_region (ql_pure tabOk rfl rfl (ql_eqlF tabOk rfl rfl rfl (by omega) (q_nil (q_cond_false rfl (q_skip (q_seq ?_)))))))))))
          refine q_cut (σ := Nat) (fun b13 => [(1, .slice (some ⟨pa, po, none⟩) plan.length pc), (2, .int .i64 (m : Nat)), (4, .pointer (some ⟨b4, 0, none⟩)), (7, .pointer (some ⟨b7, 0, none⟩)), (10, .int .i64 (outJ s plan g (ndV plan m) k i 0)), (11, .int .i64 ((0 + 1 : Nat))), (12, .int .i64 (nxJ (ndV plan m) 0)), (13, .pointer (some ⟨b13, 0, none⟩)), (14, .bool (k.p.getD i false == true))]) (fun b13 => [.pt b13 [.slice oa NO oc, .slice sa NS sc] 209, .pt b7 [.slice oa NO oc, .slice sa NS sc] 209, .pt b4 (scC s (.slice ta s.tests.length tc) (.slice ra s.rifles.length rc)) 51]) ?_ ?_
          rotate_left
          · intro K3 hK3
            refine q_drawT (tF40_c0f9e8e) _ [] (Sp.refl _) (by kernel_rfl) (by kernel_rfl) ?_
            refine qt_alt ?_ ?_
            · skip
              refine qt_seg (by repeat (first | exact PickL.nil | (apply PickL.cons; rfl))) fun K1 hK1 => ?_
              ((iterate 2 refine qf_loadABa tabOk rfl rfl rfl ?_); refine qf_pure tabOk rfl rfl rfl (qf_pure tabOk rfl rfl rfl ?_))
              refine qf_index tabOk rfl rfl rfl rfl rfl (by omega) (by omega) ?_
              (refine qf_pure tabOk rfl rfl rfl ?_)
              refine qf_load1 (v := .int .i64 (ndV plan m).r) tabOk rfl rfl rfl (fun w hs => by rw [hnd]; exact RdN.at0 (RdE.keep hr hs.chg0) m hm2) ?_
              (refine qf_pure tabOk rfl rfl rfl ?_)
              rw [hri]
              refine qf_callv (val := .tuple #[.agg #[.slice oa NO oc, .slice sa NS sc], .bool (k.p.getD i false == true)]) tabOk rfl rfl rfl rfl (fun w hs => rafter_old w lo hi l2 h2 s _ _ _ _ k (h.keep hs.chg0) (hkr.keep hs.chg0) i hil hf true) ?_
              (refine qf_pure tabOk rfl rfl rfl (qf_ext tabOk rfl rfl rfl ?_))
              refine qf_alloc zero209 rfl (fun b13 => ?_)
              (refine qf_setA tabOk rfl rfl rfl rfl rfl (by repeat constructor) rfl ?_; refine qf_ext tabOk rfl rfl rfl (qf_pure tabOk rfl rfl rfl (qf_nil ?_)))
              skip
              skip
              exact hK1 _ _ (qt_nil (hK3 b13 _ _ ⟨rfl, rfl, rfl, rfl, rfl, rfl, rfl, rfl, rfl, trivial⟩ (by repeat constructor)))
            · skip
              refine qt_seg (by repeat (first | exact PickL.nil | (apply PickL.cons; rfl))) fun K1 hK1 => ?_
              skip
              refine qf_alloc zero209 rfl (fun b13 => ?_)
              ((iterate 2 refine qf_loadABa tabOk rfl rfl rfl ?_); refine qf_pure tabOk rfl rfl rfl (qf_pure tabOk rfl rfl rfl ?_))
              refine qf_index tabOk rfl rfl rfl rfl rfl (by omega) (by omega) ?_
              (refine qf_pure tabOk rfl rfl rfl ?_)
              refine qf_load1 (v := .int .i64 (ndV plan m).r) tabOk rfl rfl rfl (fun w hs => by rw [hnd]; exact RdN.at0 (RdE.keep hr hs.chg0) m hm2) ?_
              (refine qf_pure tabOk rfl rfl rfl ?_)
              rw [hri]
              refine qf_callv (val := .tuple #[.agg #[.slice oa NO oc, .slice sa NS sc], .bool (k.p.getD i false == true)]) tabOk rfl rfl rfl rfl (fun w hs => rafter_old w lo hi l2 h2 s _ _ _ _ k (h.keep hs.chg0) (hkr.keep hs.chg0) i hil hf true) ?_
              (refine qf_pure tabOk rfl rfl rfl (qf_ext tabOk rfl rfl rfl ?_); refine qf_setA tabOk rfl rfl rfl rfl rfl (by repeat constructor) rfl ?_; refine qf_ext tabOk rfl rfl rfl (qf_pure tabOk rfl rfl rfl (qf_nil ?_)))
              skip
              skip
              exact hK1 _ _ (qt_nil (hK3 b13 _ _ ⟨rfl, rfl, rfl, rfl, rfl, rfl, rfl, rfl, rfl, trivial⟩ (by repeat constructor)))
          rintro b13
          skip
          have ea : cJ s k i 0 = (k, k.p.getD i false == true) := aft_old hf true
          cases hfl : (k.p.getD i false == true) with
          | false =>
            rw [hfl] at ea
            (refine q_seq (q_seq (q_region (ql_pure tabOk rfl rfl (ql_pure tabOk rfl rfl (q_nil (q_cond_true rfl (q_exit _ rfl (q_region (ql_pure tabOk rfl rfl (ql_ar tabOk rfl rfl rfl rfl (by omega) (by omega) (ql_pure tabOk rfl rfl ?_))))))))))); refine q_nil ?_)
            exact hK2 (0 + 1) _ _ ⟨by omega, fun j' hj' => (by omega : j' < 0 ∨ j' = 0).elim (hno j') (fun e => by subst e; rw [ea]; simp)⟩ (by omega) ⟨rfl, rfl, rfl, rfl, by rw [out_no (j := 0) (by rw [ea])]; rfl, rfl, trivial⟩ (by repeat constructor)
          | true =>
            rw [hfl] at ea
            have hfit : k.Fit := hk
            have hfj : fJ s plan g (ndV plan m) k i 0 = folF s plan g (nxJ (ndV plan m) 0) k := by unfold fJ; rw [ea]
            have hnx : nxJ (ndV plan m) 0 = -1 ∨ 0 ≤ nxJ (ndV plan m) 0 ∧ nxJ (ndV plan m) 0 < plan.length ∧ plan.length ≤ g + (nxJ (ndV plan m) 0).toNat := by
              rw [show nxJ (ndV plan m) 0 = (ndV plan m).p from rfl]
              omega
            have hfb := fol_bd s plan g (nxJ (ndV plan m) 0) k
            (refine q_seq (q_seq (q_region (ql_pure tabOk rfl rfl (ql_pure tabOk rfl rfl (q_nil (q_cond_false rfl (q_skip (q_seq (q_region ?_))))))))); refine ql_loadABa tabOk rfl rfl rfl ?_; refine ql_pure tabOk rfl rfl (ql_pure tabOk rfl rfl ?_); refine ql_loadABa tabOk rfl rfl rfl ?_)
            refine ql_callv (val := .int .i64 (folF s plan g (nxJ (ndV plan m) 0) k)) tabOk rfl rfl rfl rfl (fun w hs => ?_) ?_; exact ih (by omega) (nxJ (ndV plan m) 0) k w l2 h2 (.slice oa NO oc) (.slice sa NS sc) hnx hfit (h.keep hs.chg0) (RdE.keep hr hs.chg0) (hkr.keep hs.chg0)
            rw [← hfj] at hfb ⊢
            by_cases hneg : fJ s plan g (ndV plan m) k i 0 < 0
            · rw [fol_stop hri (show 0 < 2 by omega) (by rw [ea]) hneg]
              (refine ql_pure tabOk rfl rfl (q_nil (q_seq (q_seq (q_region (ql_pure tabOk rfl rfl (ql_lssT tabOk rfl rfl rfl (by omega) (q_nil (q_cond_true rfl (q_seq (q_region (ql_pure tabOk rfl rfl ?_))))))))))); refine q_nil (q_ret ?_))
              refine q_fin tabOk rfl (by repeat constructor) fun w hs => ?_
              exact ⟨rfl, hs.chg0⟩
            · (refine ql_pure tabOk rfl rfl (q_nil (q_seq (q_seq (q_region (ql_pure tabOk rfl rfl (ql_lssF tabOk rfl rfl rfl (by omega) (q_nil (q_cond_false rfl (q_skip (q_region (ql_pure tabOk rfl rfl ?_))))))))))); refine ql_pure tabOk rfl rfl (ql_ar tabOk rfl rfl rfl rfl (by omega) (by omega) (ql_pure tabOk rfl rfl (ql_pure tabOk rfl rfl (q_nil (q_blk (q_region (ql_pure tabOk rfl rfl (ql_ar tabOk rfl rfl rfl rfl (by omega) (by omega) (ql_pure tabOk rfl rfl (q_nil ?_)))))))))))
              exact hK2 (0 + 1) _ _ ⟨by omega, fun j' hj' => (by omega : j' < 0 ∨ j' = 0).elim (hno j') (fun e => by subst e; exact fun h => hneg h.2)⟩ (by omega) ⟨rfl, rfl, rfl, rfl, by rw [out_yes (j := 0) (by rw [ea])]; rfl, rfl, trivial⟩ (by repeat constructor)
      · by_cases hj1 : j = 1
        · subst hj1
          cases hf : k.free i with
          | true =>
            (refine q_seq (q_seq (q_region (ql_pure tabOk rfl rfl (ql_lssT tabOk rfl rfl rfl (by omega) (q_nil (q_cond_true rfl (q_skip (q_seq (q_block (q_seq (q_region ?_))))))))))); refine ql_pure tabOk rfl rfl (ql_pure tabOk rfl rfl ?_))
            refine ql_index tabOk rfl rfl rfl rfl rfl (by omega) (by omega) ?_
            (refine ql_pure tabOk rfl rfl ?_)
            refine ql_load1 (v := .int .i64 (ndV plan m).p) tabOk rfl rfl rfl (fun w hs => by rw [hnd]; exact RdN.at1 (RdE.keep hr hs.chg0) m hm2) ?_
            (refine ql_pure tabOk rfl rfl (q_nil (q_seq (q_seq (q_region (ql_pure tabOk rfl rfl (ql_eqlT tabOk rfl rfl rfl (by omega) (q_nil (q_cond_true rfl (q_region (ql_pure tabOk rfl rfl (ql_pure tabOk rfl rfl ?_))))))))))))
            refine ql_index tabOk rfl rfl rfl rfl rfl (by omega) (by omega) ?_
            (refine ql_pure tabOk rfl rfl ?_)
            refine ql_load1 (v := .int .i64 (ndV plan m).f) tabOk rfl rfl rfl (fun w hs => by rw [hnd]; exact RdN.at2 (RdE.keep hr hs.chg0) m hm2) ?_
            (refine ql_pure tabOk rfl rfl (q_nil (q_seq ?_)))
            refine q_cut (σ := (Option Addr × Nat) × (Option Addr × Nat) × Nat) (fun ⟨⟨u1, v1⟩, ⟨u2, v2⟩, b13⟩ => [(1, .slice (some ⟨pa, po, none⟩) plan.length pc), (2, .int .i64 (m : Nat)), (4, .pointer (some ⟨b4, 0, none⟩)), (7, .pointer (some ⟨b7, 0, none⟩)), (10, .int .i64 (outJ s plan g (ndV plan m) k i 1)), (11, .int .i64 ((1 + 1 : Nat))), (12, .int .i64 (nxJ (ndV plan m) 1)), (13, .pointer (some ⟨b13, 0, none⟩)), (14, .bool (decide ((kB s k i false).lo ≤ (kB s k i false).hi)))]) (fun ⟨⟨u1, v1⟩, ⟨u2, v2⟩, b13⟩ => [.ow (.slice u1 NN v1) 4 1 NN (bools (ofsL (kB s k i false).lo (kB s k i false).hi)), .ow (.slice u2 s.rifles.length v2) 3 1 s.rifles.length (ints (skL s (kB s k i false))), .pt b13 [.slice u1 NN v1, .slice u2 s.rifles.length v2] 209, .pt b7 [.slice oa NO oc, .slice sa NS sc] 209, .pt b4 (scC s (.slice ta s.tests.length tc) (.slice ra s.rifles.length rc)) 51]) ?_ ?_
            rotate_left
            · intro K3 hK3
              refine q_drawT (tF40_c0f9e8e) _ [] (Sp.refl _) (by kernel_rfl) (by kernel_rfl) ?_
              refine qt_alt ?_ ?_
              · skip
                refine qt_seg (by repeat (first | exact PickL.nil | (apply PickL.cons; rfl))) fun K1 hK1 => ?_
                ((iterate 2 refine qf_loadABa tabOk rfl rfl rfl ?_); refine qf_pure tabOk rfl rfl rfl (qf_pure tabOk rfl rfl rfl ?_))
                refine qf_index tabOk rfl rfl rfl rfl rfl (by omega) (by omega) ?_
                (refine qf_pure tabOk rfl rfl rfl ?_)
                refine qf_load1 (v := .int .i64 (ndV plan m).r) tabOk rfl rfl rfl (fun w hs => by rw [hnd]; exact RdN.at0 (RdE.keep hr hs.chg0) m hm2) ?_
                (refine qf_pure tabOk rfl rfl rfl ?_)
                rw [hri]
                refine qf_call (β := Value × Value) (ψ := fun y v => v = .tuple #[.agg #[y.1, y.2], .bool (decide ((kB s k i false).lo ≤ (kB s k i false).hi))]) (L' := fun y => [.ow y.1 4 1 NN (bools (ofsL (kB s k i false).lo (kB s k i false).hi)), .ow y.2 3 1 s.rifles.length (ints (skL s (kB s k i false)))]) tabOk [] _ M0 rfl rfl rfl rfl (Sp.refl _) (fun _ h => h.elim) (fun w' hs => by rw [hNN]; exact rafter_free w' lo hi l2 h2 s _ _ _ _ k (h.keep hs.chg0) hs0 (hkr.keep hs.chg0) hk i hil hf false) ?_
                rintro ⟨y1, y2⟩ _ rfl
                dsimp only [List.cons_append, List.nil_append]
                refine qf_fact (fun w hs => hs.slice2 (v := y1) (by repeat constructor)) ?_
                rintro ⟨u1, v1, rfl⟩
                refine qf_fact (fun w hs => hs.slice2 (v := y2) (by repeat constructor)) ?_
                rintro ⟨u2, v2, rfl⟩
                (refine qf_pure tabOk rfl rfl rfl (qf_ext tabOk rfl rfl rfl ?_))
                refine qf_alloc zero209 rfl (fun b13 => ?_)
                (refine qf_setA tabOk rfl rfl rfl rfl rfl (by repeat constructor) rfl ?_; refine qf_ext tabOk rfl rfl rfl (qf_pure tabOk rfl rfl rfl (qf_nil ?_)))
                skip
                skip
                exact hK1 _ _ (qt_nil (hK3 ((u1, v1), (u2, v2), b13) _ _ ⟨rfl, rfl, rfl, rfl, rfl, rfl, rfl, rfl, rfl, trivial⟩ (by repeat constructor)))
              · skip
                refine qt_seg (by repeat (first | exact PickL.nil | (apply PickL.cons; rfl))) fun K1 hK1 => ?_
                skip
                refine qf_alloc zero209 rfl (fun b13 => ?_)
                ((iterate 2 refine qf_loadABa tabOk rfl rfl rfl ?_); refine qf_pure tabOk rfl rfl rfl (qf_pure tabOk rfl rfl rfl ?_))
                refine qf_index tabOk rfl rfl rfl rfl rfl (by omega) (by omega) ?_
                (refine qf_pure tabOk rfl rfl rfl ?_)
                refine qf_load1 (v := .int .i64 (ndV plan m).r) tabOk rfl rfl rfl (fun w hs => by rw [hnd]; exact RdN.at0 (RdE.keep hr hs.chg0) m hm2) ?_
                (refine qf_pure tabOk rfl rfl rfl ?_)
                rw [hri]
                refine qf_call (β := Value × Value) (ψ := fun y v => v = .tuple #[.agg #[y.1, y.2], .bool (decide ((kB s k i false).lo ≤ (kB s k i false).hi))]) (L' := fun y => [.ow y.1 4 1 NN (bools (ofsL (kB s k i false).lo (kB s k i false).hi)), .ow y.2 3 1 s.rifles.length (ints (skL s (kB s k i false)))]) tabOk [] _ M0 rfl rfl rfl rfl (Sp.refl _) (fun _ h => h.elim) (fun w' hs => by rw [hNN]; exact rafter_free w' lo hi l2 h2 s _ _ _ _ k (h.keep hs.chg0) hs0 (hkr.keep hs.chg0) hk i hil hf false) ?_
                rintro ⟨y1, y2⟩ _ rfl
                dsimp only [List.cons_append, List.nil_append]
                refine qf_fact (fun w hs => hs.slice2 (v := y1) (by repeat constructor)) ?_
                rintro ⟨u1, v1, rfl⟩
                refine qf_fact (fun w hs => hs.slice2 (v := y2) (by repeat constructor)) ?_
                rintro ⟨u2, v2, rfl⟩
                (refine qf_pure tabOk rfl rfl rfl (qf_ext tabOk rfl rfl rfl ?_); refine qf_setA tabOk rfl rfl rfl rfl rfl (by repeat constructor) rfl ?_; refine qf_ext tabOk rfl rfl rfl (qf_pure tabOk rfl rfl rfl (qf_nil ?_)))
                skip
                skip
                exact hK1 _ _ (qt_nil (hK3 ((u1, v1), (u2, v2), b13) _ _ ⟨rfl, rfl, rfl, rfl, rfl, rfl, rfl, rfl, rfl, trivial⟩ (by repeat constructor)))
            rintro ⟨⟨u1, v1⟩, ⟨u2, v2⟩, b13⟩
            dsimp only
            have ea : cJ s k i 1 = ((kB s k i false), decide ((kB s k i false).lo ≤ (kB s k i false).hi)) := aft_free hf false
            cases hfl : decide ((kB s k i false).lo ≤ (kB s k i false).hi) with
            | false =>
              rw [hfl] at ea
              (refine q_seq (q_seq (q_region (ql_pure tabOk rfl rfl (ql_pure tabOk rfl rfl (q_nil (q_cond_true rfl (q_exit _ rfl (q_region (ql_pure tabOk rfl rfl (ql_ar tabOk rfl rfl rfl rfl (by omega) (by omega) (ql_pure tabOk rfl rfl ?_))))))))))); refine q_nil ?_)
              exact hK2 (1 + 1) _ _ ⟨by omega, fun j' hj' => (by omega : j' < 1 ∨ j' = 1).elim (hno j') (fun e => by subst e; rw [ea]; simp)⟩ (by omega) ⟨rfl, rfl, rfl, rfl, by rw [out_no (j := 1) (by rw [ea])]; rfl, rfl, trivial⟩ (by repeat constructor)
            | true =>
              rw [hfl] at ea
              have hfit : (kB s k i false).Fit := (by have := after_fit (s := s) (i := i) (b := false) hk (by rw [show afterV s k i false = cJ s k i 1 from rfl, ea]); rw [show afterV s k i false = cJ s k i 1 from rfl, ea] at this; exact this)
              have hfj : fJ s plan g (ndV plan m) k i 1 = folF s plan g (nxJ (ndV plan m) 1) (kB s k i false) := by unfold fJ; rw [ea]
              have hnx : nxJ (ndV plan m) 1 = -1 ∨ 0 ≤ nxJ (ndV plan m) 1 ∧ nxJ (ndV plan m) 1 < plan.length ∧ plan.length ≤ g + (nxJ (ndV plan m) 1).toNat := by
                rw [show nxJ (ndV plan m) 1 = (ndV plan m).f from rfl]
                omega
              have hfb := fol_bd s plan g (nxJ (ndV plan m) 1) (kB s k i false)
              (refine q_seq (q_seq (q_region (ql_pure tabOk rfl rfl (ql_pure tabOk rfl rfl (q_nil (q_cond_false rfl (q_skip (q_seq (q_region ?_))))))))); refine ql_loadABa tabOk rfl rfl rfl ?_; refine ql_pure tabOk rfl rfl (ql_pure tabOk rfl rfl ?_); refine ql_loadABa tabOk rfl rfl rfl ?_)
              refine ql_callv (val := .int .i64 (folF s plan g (nxJ (ndV plan m) 1) (kB s k i false))) tabOk rfl rfl rfl rfl (fun w hs => ?_) ?_; exact ih (by omega) (nxJ (ndV plan m) 1) (kB s k i false) w 0 w.heap.size (.slice u1 NN v1) (.slice u2 s.rifles.length v2) hnx hfit (h.keep hs.chg0) (RdE.keep hr hs.chg0) ⟨own_rdB (hs.mem (c := .ow (.slice u1 NN v1) 4 1 NN (bools (ofsL (kB s k i false).lo (kB s k i false).hi))) (by repeat constructor)) (by rw [ofsL_len, hNN]), hs.rdI (v := .slice u2 s.rifles.length v2) (t := 3) (n := s.rifles.length) (by repeat constructor) (skL_len _ _).symm⟩
              rw [← hfj] at hfb ⊢
              by_cases hneg : fJ s plan g (ndV plan m) k i 1 < 0
              · rw [fol_stop hri (show 1 < 2 by omega) (by rw [ea]) hneg]
                (refine ql_pure tabOk rfl rfl (q_nil (q_seq (q_seq (q_region (ql_pure tabOk rfl rfl (ql_lssT tabOk rfl rfl rfl (by omega) (q_nil (q_cond_true rfl (q_seq (q_region (ql_pure tabOk rfl rfl ?_))))))))))); refine q_nil (q_ret ?_))
                refine q_fin tabOk rfl (by repeat constructor) fun w hs => ?_
                exact ⟨rfl, hs.chg0⟩
              · (refine ql_pure tabOk rfl rfl (q_nil (q_seq (q_seq (q_region (ql_pure tabOk rfl rfl (ql_lssF tabOk rfl rfl rfl (by omega) (q_nil (q_cond_false rfl (q_skip (q_region (ql_pure tabOk rfl rfl ?_))))))))))); refine ql_pure tabOk rfl rfl (ql_ar tabOk rfl rfl rfl rfl (by omega) (by omega) (ql_pure tabOk rfl rfl (ql_pure tabOk rfl rfl (q_nil (q_blk (q_region (ql_pure tabOk rfl rfl (ql_ar tabOk rfl rfl rfl rfl (by omega) (by omega) (ql_pure tabOk rfl rfl (q_nil ?_)))))))))))
                exact hK2 (1 + 1) _ _ ⟨by omega, fun j' hj' => (by omega : j' < 1 ∨ j' = 1).elim (hno j') (fun e => by subst e; exact fun h => hneg h.2)⟩ (by omega) ⟨rfl, rfl, rfl, rfl, by rw [out_yes (j := 1) (by rw [ea])]; rfl, rfl, trivial⟩ (by repeat constructor)
          | false =>
            (refine q_seq (q_seq (q_region (ql_pure tabOk rfl rfl (ql_lssT tabOk rfl rfl rfl (by omega) (q_nil (q_cond_true rfl (q_skip (q_seq (q_block (q_seq (q_region ?_))))))))))); refine ql_pure tabOk rfl rfl (ql_pure tabOk rfl rfl ?_))
            refine ql_index tabOk rfl rfl rfl rfl rfl (by omega) (by omega) ?_
            (refine ql_pure tabOk rfl rfl ?_)
            refine ql_load1 (v := .int .i64 (ndV plan m).p) tabOk rfl rfl rfl (fun w hs => by rw [hnd]; exact RdN.at1 (RdE.keep hr hs.chg0) m hm2) ?_
            (refine ql_pure tabOk rfl rfl (q_nil (q_seq (q_seq (q_region (ql_pure tabOk rfl rfl (ql_eqlT tabOk rfl rfl rfl (by omega) (q_nil (q_cond_true rfl (q_region (ql_pure tabOk rfl rfl (ql_pure tabOk rfl rfl ?_))))))))))))
            refine ql_index tabOk rfl rfl rfl rfl rfl (by omega) (by omega) ?_
            (refine ql_pure tabOk rfl rfl ?_)
            refine ql_load1 (v := .int .i64 (ndV plan m).f) tabOk rfl rfl rfl (fun w hs => by rw [hnd]; exact RdN.at2 (RdE.keep hr hs.chg0) m hm2) ?_
            (refine ql_pure tabOk rfl rfl (q_nil (q_seq ?_)))
            refine q_cut (σ := Nat) (fun b13 => [(1, .slice (some ⟨pa, po, none⟩) plan.length pc), (2, .int .i64 (m : Nat)), (4, .pointer (some ⟨b4, 0, none⟩)), (7, .pointer (some ⟨b7, 0, none⟩)), (10, .int .i64 (outJ s plan g (ndV plan m) k i 1)), (11, .int .i64 ((1 + 1 : Nat))), (12, .int .i64 (nxJ (ndV plan m) 1)), (13, .pointer (some ⟨b13, 0, none⟩)), (14, .bool (k.p.getD i false == false))]) (fun b13 => [.pt b13 [.slice oa NO oc, .slice sa NS sc] 209, .pt b7 [.slice oa NO oc, .slice sa NS sc] 209, .pt b4 (scC s (.slice ta s.tests.length tc) (.slice ra s.rifles.length rc)) 51]) ?_ ?_
            rotate_left
            · intro K3 hK3
              refine q_drawT (tF40_c0f9e8e) _ [] (Sp.refl _) (by kernel_rfl) (by kernel_rfl) ?_
              refine qt_alt ?_ ?_
              · skip
                refine qt_seg (by repeat (first | exact PickL.nil | (apply PickL.cons; rfl))) fun K1 hK1 => ?_
                ((iterate 2 refine qf_loadABa tabOk rfl rfl rfl ?_); refine qf_pure tabOk rfl rfl rfl (qf_pure tabOk rfl rfl rfl ?_))
                refine qf_index tabOk rfl rfl rfl rfl rfl (by omega) (by omega) ?_
                (refine qf_pure tabOk rfl rfl rfl ?_)
                refine qf_load1 (v := .int .i64 (ndV plan m).r) tabOk rfl rfl rfl (fun w hs => by rw [hnd]; exact RdN.at0 (RdE.keep hr hs.chg0) m hm2) ?_
                (refine qf_pure tabOk rfl rfl rfl ?_)
                rw [hri]
                refine qf_callv (val := .tuple #[.agg #[.slice oa NO oc, .slice sa NS sc], .bool (k.p.getD i false == false)]) tabOk rfl rfl rfl rfl (fun w hs => rafter_old w lo hi l2 h2 s _ _ _ _ k (h.keep hs.chg0) (hkr.keep hs.chg0) i hil hf false) ?_
                (refine qf_pure tabOk rfl rfl rfl (qf_ext tabOk rfl rfl rfl ?_))
                refine qf_alloc zero209 rfl (fun b13 => ?_)
                (refine qf_setA tabOk rfl rfl rfl rfl rfl (by repeat constructor) rfl ?_; refine qf_ext tabOk rfl rfl rfl (qf_pure tabOk rfl rfl rfl (qf_nil ?_)))
                skip
                skip
                exact hK1 _ _ (qt_nil (hK3 b13 _ _ ⟨rfl, rfl, rfl, rfl, rfl, rfl, rfl, rfl, rfl, trivial⟩ (by repeat constructor)))
              · skip
                refine qt_seg (by repeat (first | exact PickL.nil | (apply PickL.cons; rfl))) fun K1 hK1 => ?_
                skip
                refine qf_alloc zero209 rfl (fun b13 => ?_)
                ((iterate 2 refine qf_loadABa tabOk rfl rfl rfl ?_); refine qf_pure tabOk rfl rfl rfl (qf_pure tabOk rfl rfl rfl ?_))
                refine qf_index tabOk rfl rfl rfl rfl rfl (by omega) (by omega) ?_
                (refine qf_pure tabOk rfl rfl rfl ?_)
                refine qf_load1 (v := .int .i64 (ndV plan m).r) tabOk rfl rfl rfl (fun w hs => by rw [hnd]; exact RdN.at0 (RdE.keep hr hs.chg0) m hm2) ?_
                (refine qf_pure tabOk rfl rfl rfl ?_)
                rw [hri]
                refine qf_callv (val := .tuple #[.agg #[.slice oa NO oc, .slice sa NS sc], .bool (k.p.getD i false == false)]) tabOk rfl rfl rfl rfl (fun w hs => rafter_old w lo hi l2 h2 s _ _ _ _ k (h.keep hs.chg0) (hkr.keep hs.chg0) i hil hf false) ?_
                (refine qf_pure tabOk rfl rfl rfl (qf_ext tabOk rfl rfl rfl ?_); refine qf_setA tabOk rfl rfl rfl rfl rfl (by repeat constructor) rfl ?_; refine qf_ext tabOk rfl rfl rfl (qf_pure tabOk rfl rfl rfl (qf_nil ?_)))
                skip
                skip
                exact hK1 _ _ (qt_nil (hK3 b13 _ _ ⟨rfl, rfl, rfl, rfl, rfl, rfl, rfl, rfl, rfl, trivial⟩ (by repeat constructor)))
            rintro b13
            skip
            have ea : cJ s k i 1 = (k, k.p.getD i false == false) := aft_old hf false
            cases hfl : (k.p.getD i false == false) with
            | false =>
              rw [hfl] at ea
              (refine q_seq (q_seq (q_region (ql_pure tabOk rfl rfl (ql_pure tabOk rfl rfl (q_nil (q_cond_true rfl (q_exit _ rfl (q_region (ql_pure tabOk rfl rfl (ql_ar tabOk rfl rfl rfl rfl (by omega) (by omega) (ql_pure tabOk rfl rfl ?_))))))))))); refine q_nil ?_)
              exact hK2 (1 + 1) _ _ ⟨by omega, fun j' hj' => (by omega : j' < 1 ∨ j' = 1).elim (hno j') (fun e => by subst e; rw [ea]; simp)⟩ (by omega) ⟨rfl, rfl, rfl, rfl, by rw [out_no (j := 1) (by rw [ea])]; rfl, rfl, trivial⟩ (by repeat constructor)
            | true =>
              rw [hfl] at ea
              have hfit : k.Fit := hk
              have hfj : fJ s plan g (ndV plan m) k i 1 = folF s plan g (nxJ (ndV plan m) 1) k := by unfold fJ; rw [ea]
              have hnx : nxJ (ndV plan m) 1 = -1 ∨ 0 ≤ nxJ (ndV plan m) 1 ∧ nxJ (ndV plan m) 1 < plan.length ∧ plan.length ≤ g + (nxJ (ndV plan m) 1).toNat := by
                rw [show nxJ (ndV plan m) 1 = (ndV plan m).f from rfl]
                omega
              have hfb := fol_bd s plan g (nxJ (ndV plan m) 1) k
              (refine q_seq (q_seq (q_region (ql_pure tabOk rfl rfl (ql_pure tabOk rfl rfl (q_nil (q_cond_false rfl (q_skip (q_seq (q_region ?_))))))))); refine ql_loadABa tabOk rfl rfl rfl ?_; refine ql_pure tabOk rfl rfl (ql_pure tabOk rfl rfl ?_); refine ql_loadABa tabOk rfl rfl rfl ?_)
              refine ql_callv (val := .int .i64 (folF s plan g (nxJ (ndV plan m) 1) k)) tabOk rfl rfl rfl rfl (fun w hs => ?_) ?_; exact ih (by omega) (nxJ (ndV plan m) 1) k w l2 h2 (.slice oa NO oc) (.slice sa NS sc) hnx hfit (h.keep hs.chg0) (RdE.keep hr hs.chg0) (hkr.keep hs.chg0)
              rw [← hfj] at hfb ⊢
              by_cases hneg : fJ s plan g (ndV plan m) k i 1 < 0
              · rw [fol_stop hri (show 1 < 2 by omega) (by rw [ea]) hneg]
                (refine ql_pure tabOk rfl rfl (q_nil (q_seq (q_seq (q_region (ql_pure tabOk rfl rfl (ql_lssT tabOk rfl rfl rfl (by omega) (q_nil (q_cond_true rfl (q_seq (q_region (ql_pure tabOk rfl rfl ?_))))))))))); refine q_nil (q_ret ?_))
                refine q_fin tabOk rfl (by repeat constructor) fun w hs => ?_
                exact ⟨rfl, hs.chg0⟩
              · (refine ql_pure tabOk rfl rfl (q_nil (q_seq (q_seq (q_region (ql_pure tabOk rfl rfl (ql_lssF tabOk rfl rfl rfl (by omega) (q_nil (q_cond_false rfl (q_skip (q_region (ql_pure tabOk rfl rfl ?_))))))))))); refine ql_pure tabOk rfl rfl (ql_ar tabOk rfl rfl rfl rfl (by omega) (by omega) (ql_pure tabOk rfl rfl (ql_pure tabOk rfl rfl (q_nil (q_blk (q_region (ql_pure tabOk rfl rfl (ql_ar tabOk rfl rfl rfl rfl (by omega) (by omega) (ql_pure tabOk rfl rfl (q_nil ?_)))))))))))
                exact hK2 (1 + 1) _ _ ⟨by omega, fun j' hj' => (by omega : j' < 1 ∨ j' = 1).elim (hno j') (fun e => by subst e; exact fun h => hneg h.2)⟩ (by omega) ⟨rfl, rfl, rfl, rfl, by rw [out_yes (j := 1) (by rw [ea])]; rfl, rfl, trivial⟩ (by repeat constructor)
        · obtain rfl : j = 2 := by omega
          rw [fol_out hri (fun j' hj' => hno j' hj')]
          (refine q_seq (q_seq (q_region (ql_pure tabOk rfl rfl (ql_lssF tabOk rfl rfl rfl (by omega) (q_nil (q_cond_false rfl (q_exit _ rfl (q_seq (q_region (ql_pure tabOk rfl rfl (ql_pure tabOk rfl rfl ?_))))))))))); refine q_nil (q_ret ?_))
          refine q_fin tabOk rfl (by repeat constructor) fun w hs => ?_
          exact ⟨rfl, hs.chg0⟩
end Go.Proofs.YtopdmadgkjdgcaaGreat

/- Walks of rifle: a plan. -/
namespace Go.Proofs.YtopdmadgkjdgcaaGreat
set_option maxRecDepth 4000
open Go Go.Eng
theorem slNd : SlT Tryz.prog 88 91 3 24 (.agg #[.int .i64 0, .int .i64 0, .int .i64 0]) := ⟨by kernel_rfl, by kernel_rfl, by kernel_rfl, by decide⟩
theorem nodC_app (L M : List Nd) : nodC (L ++ M) = nodC L ++ nodC M := by simp [nodC]
theorem nodC_putP (L R : List Nd) (r p f q : Int) : (nodC (L ++ ⟨r, p, f⟩ :: R)).set (L.length * 3 + 1) (.int .i64 q) = nodC (L ++ ⟨r, q, f⟩ :: R) := by
  rw [nodC_app, nodC_app, List.set_append_right _ _ (by rw [nodC_length]; omega), nodC_length, show L.length * 3 + 1 - L.length * 3 = 1 from by omega]
  rfl
theorem nodC_putF (L R : List Nd) (r p f q : Int) : (nodC (L ++ ⟨r, p, f⟩ :: R)).set (L.length * 3 + 2) (.int .i64 q) = nodC (L ++ ⟨r, p, q⟩ :: R) := by
  rw [nodC_app, nodC_app, List.set_append_right _ _ (by rw [nodC_length]; omega), nodC_length, show L.length * 3 + 2 - L.length * 3 = 2 from by omega]
  rfl
abbrev plgF (bf bo bD bg : Nat) : Value := .func (.func 130) #[] #[.pointer (some ⟨bf, 0, none⟩), .pointer (some ⟨bo, 0, none⟩), .pointer (some ⟨bD, 0, none⟩), .pointer (some ⟨bg, 0, none⟩)]
abbrev grP (bm bo : Nat) (f : Value → Option Value) (u : Value) (L : List Nd) : List Ck := [mpB bm f, .pt bo [u] 88, .ow u 91 3 L.length (nodC L)]
theorem Sat.left {w0 w : World} {M : Nat → Prop} {A B : List Ck} (h : Sat w0 M (A ++ B) w) : Sat w0 M A w := ⟨h.chg, fun c hc => h.all c (List.mem_append_left _ hc), (List.pairwise_append.1 h.sep).1, fun c hc => h.bd c (List.mem_append_left _ hc)⟩
/-- The plan's other variables. -/
structure PlX (w : World) (lo hi bm b1 b2 b3 bd bf bo bD bg : Nat) (s : Sc) (tv rv : Value) (k0 : Kn) (t1 t2 t3 : TypeId) : Prop where
  sc : ScR w lo hi tv rv s
  pn : PnE w bm b1 b2 b3 bd s tv rv k0
  hf : Blk w bf [bstF b1 b2 b3] t1
  hD : Blk w bD [.pointer (some ⟨bd, 0, none⟩)] t2
  hg : Blk w bg [plgF bf bo bD bg] t3
theorem bst_pair {s : Sc} (h8 : s.rifles.length ≤ 8) {k : Kn} (hk : k.Fit) (h : depV s k ≠ 0) : ∃ i : Nat, NodeAt s k i ∧ bstK s k = ((i : Int), depV s k) ∧ (bstK s k).1.toNat = i := by
  obtain ⟨i, h1, h2, h3⟩ := dep_at h8 hk fun e => h ((dep_zero h8 hk).2 e)
  obtain ⟨g1, g2⟩ := openL_mem.1 h1
  exact ⟨i, ⟨g1, g2, h3⟩, h2, by rw [h2]; rfl⟩
set_option maxHeartbeats 8000000 in
theorem pgrow_ca (lo hi bm b1 b2 b3 bd bf bo bD bg : Nat) (s : Sc) (tv rv : Value) (k0 : Kn) (t1 t2 t3 : TypeId) (hs0 : s.Ok) : ∀ (g : Nat) (k : Kn) (w : World) (f : Value → Option Value) (u : Value) (L : List Nd), cntK s k ≤ g → k.Fit → GoodB s f → L.length + (growV s g k L.length).length ≤ 1000 →
    Sat w (DL (grP bm bo f u L)) (grP bm bo f u L) w → (∀ w', ChgP (DL (grP bm bo f u L)) w w' → PlX w' lo hi bm b1 b2 b3 bd bf bo bD bg s tv rv k0 t1 t2 t3) →
    Ca Tryz.prog 130 [knV k, .pointer (some ⟨bf, 0, none⟩), .pointer (some ⟨bo, 0, none⟩), .pointer (some ⟨bD, 0, none⟩), .pointer (some ⟨bg, 0, none⟩)] w fun v w' => ∃ y : (Value → Option Value) × Value, (v = .int .i64 (rtN L.length (growV s g k L.length)) ∧ GoodB s y.1) ∧ Sat w (DL (grP bm bo f u L)) (grP bm bo y.1 y.2 (L ++ growV s g k L.length)) w' := by
  have h8 := hs0.rn8
  intro g
  induction g using Nat.strongRecOn with
  | ind g ih =>
  intro k w f u L hg hk hgd hL hS hX
  have hkb := hk.bd
  have hbf := fun w' hc => (hX w' hc).hf
  have hbD := fun w' hc => (hX w' hc).hD
  have hbg := fun w' hc => (hX w' hc).hg
  refine q_ofM hS Tryz.func130 rfl (by simp [Tryz.ntmps130]) ?_
  refine q_fact (fun w hs => hs.slice2 (v := u) (by repeat constructor)) ?_
  rintro ⟨ua, uc, rfl⟩
  (refine q_seq (q_region ?_))
  refine ql_box rfl rfl (fun b5 => ?_)
  rw [agg_cells]
  (refine ql_pure tabOk rfl rfl (q_nil (q_seq (q_region ?_))); refine ql_loadG tabOk rfl rfl rfl (by assumption) (by rfl) ?_)
  refine ql_loadA (cs := knC k) tabOk rfl rfl rfl (knC_len hkb) (fun w hs q hq => by rw [(hs.blk (b := b5) (by repeat constructor)).cell, Nat.zero_add]) ?_
  skip
  refine ql_callF (β := Value → Option Value) (ψ := fun g v => v = pkV (bstK s k) ∧ GoodB s g) (L' := fun g => [mpB bm g]) [mpB bm f] _ (· = bm) rfl rfl rfl (Sp.cons (by repeat constructor) (Sp.refl _)) (fun x hx => ⟨_, .head _, hx⟩) (fun w' hs => CaF.of tabOk rfl (best_ca lo hi bm b1 b2 b3 bd s tv rv k0 hs0 _ k w' f rfl hk (hX w' hs.chg).sc (hX w' hs.chg).pn (hs.mem (c := mpB bm f) (by repeat constructor)) hgd)) ?_
  rintro f1 _ ⟨rfl, hgd1⟩
  dsimp only [List.cons_append, List.nil_append]
  skip
  refine ql_alloc zero204 rfl (fun b7 => ?_)
  by_cases e : depV s k = 0
  · have e2 : (bstK s k).2 = 0 := e
    have e3 : growV s g k L.length = [] := (grow_nil h8 hk hg).2 e
    rw [e3, List.append_nil]
    (refine ql_setA tabOk rfl rfl rfl rfl rfl (by repeat constructor) rfl ?_; refine q_nil (q_seq (q_seq (q_region (ql_pure tabOk rfl rfl ?_)))); refine ql_loadBa tabOk rfl rfl rfl ?_; refine ql_eqlT tabOk rfl rfl rfl (by omega) (q_nil (q_cond_true rfl (q_seq (q_region (ql_pure tabOk rfl rfl (q_nil (q_ret ?_))))))))
    refine q_finM tabOk rfl (by repeat constructor) fun w hs => ?_
    exact ⟨(f1, .slice ua L.length uc), ⟨rfl, hgd1⟩, hs.sp (by repeat constructor)⟩
  · obtain ⟨i, hn, hb, hbi⟩ := bst_pair h8 hk e
    have dp := dep_8 h8 hk
    obtain ⟨g, rfl⟩ : ∃ g', g = g' + 1 := by
      cases g with
      | zero => exact absurd ((dep_zero h8 hk).2 (open_none (by omega))) e
      | succ g => exact ⟨g, rfl⟩
    have hfr := (open_iff.1 hn.op).1
    have c1 := cnt_pass hk h8 hn.lt hfr
    have c2 := cnt_fail hk h8 hn.lt hfr
    have fp := passK_fit hk hn.op
    have ff := failK_fit hk hn.op
    obtain ⟨A, hA⟩ : ∃ A, growV s g (passK s k i) (L.length + 1) = A := ⟨_, rfl⟩
    obtain ⟨B, hB⟩ : ∃ B, growV s g (failK s k i) (L.length + 1 + A.length) = B := ⟨_, rfl⟩
    have hG : growV s (g + 1) k L.length = ⟨i, rtN (L.length + 1) A, rtN (L.length + 1 + A.length) B⟩ :: (A ++ B) := by
      simp only [growV, if_neg e, hbi, hA, hB, rtN]
    rw [hG] at hL ⊢
    rw [List.length_cons, List.length_append] at hL
    rw [hb]
    (refine ql_setA tabOk rfl rfl rfl rfl rfl (by repeat constructor) rfl ?_; refine q_nil (q_seq (q_seq (q_region (ql_pure tabOk rfl rfl ?_)))); refine ql_loadBa tabOk rfl rfl rfl ?_; refine ql_eqlF tabOk rfl rfl rfl (by omega) (q_nil (q_cond_false rfl (q_skip (q_seq (q_region ?_))))); refine ql_loadBa tabOk rfl rfl rfl ?_; refine ql_pure tabOk rfl rfl (ql_pure tabOk rfl rfl (q_nil (q_seq (q_region ?_)))); refine ql_loadBa tabOk rfl rfl rfl ?_; refine ql_pure tabOk rfl rfl ?_; refine ql_loadBa tabOk rfl rfl rfl ?_)
    refine ql_mk #[.int .i64 i, .int .i64 0, .int .i64 0] rfl (by kernel_rfl) rfl ?_
    skip
    refine ql_mkS 91 [.int .i64 i, .int .i64 0, .int .i64 0] rfl (by kernel_rfl) rfl (fun bn => ?_)
    skip
    refine ql_append (q := 1) (news := [.int .i64 i, .int .i64 0, .int .i64 0]) slNd rfl rfl rfl (fun v' => by repeat constructor) (fun w' hs => ⟨_, _, Blk.rdN (hs.blk (b := bn) (by repeat constructor)) rfl⟩) (by simp [oneV]) (by omega) (by omega) (fun u1 => ?_)
    refine ql_fact (fun w hs => hs.slice2 (v := u1) (by repeat constructor)) ?_
    rintro ⟨a1, m1, rfl⟩
    (refine ql_set tabOk rfl rfl rfl rfl (by repeat constructor) ?_; refine q_nil (q_seq (q_region ?_)); refine ql_loadG tabOk rfl rfl rfl (by assumption) (by rfl) ?_)
    refine ql_loadA (cs := knC k) tabOk rfl rfl rfl (knC_len hkb) (fun w hs q hq => by rw [(hs.blk (b := b5) (by repeat constructor)).cell, Nat.zero_add]) ?_
    (refine ql_pure tabOk rfl rfl ?_; refine ql_loadBa tabOk rfl rfl rfl ?_)
    refine ql_callv (val := .tuple #[knV (passK s k i), .bool true]) tabOk rfl rfl rfl rfl (fun w hs => ?_) ?_; exact by have := after_ca w lo hi bd s tv rv k0 k (hX w hs.chg).sc (hX w hs.chg).pn.hd hs0 hkb i hn.lt true; rw [(afterV_open hk hn.op).1] at this; exact this
    (refine ql_pure tabOk rfl rfl (ql_ext tabOk rfl rfl rfl (ql_ext tabOk rfl rfl rfl ?_)))
    refine ql_alloc zero182 rfl (fun b9 => ?_)
    skip
    refine ql_setA (us := knC (passK s k i)) tabOk rfl rfl rfl (knC_len fp.bd) (knC_one _) (by repeat constructor) rfl ?_
    (refine ql_pure tabOk rfl rfl (q_nil (q_seq (q_region ?_))); refine ql_loadG tabOk rfl rfl rfl (by assumption) (by rfl) ?_)
    refine ql_loadA (cs := knC k) tabOk rfl rfl rfl (knC_len hkb) (fun w hs q hq => by rw [(hs.blk (b := b5) (by repeat constructor)).cell, Nat.zero_add]) ?_
    (refine ql_pure tabOk rfl rfl ?_; refine ql_loadBa tabOk rfl rfl rfl ?_)
    refine ql_callv (val := .tuple #[knV (failK s k i), .bool true]) tabOk rfl rfl rfl rfl (fun w hs => ?_) ?_; exact by have := after_ca w lo hi bd s tv rv k0 k (hX w hs.chg).sc (hX w hs.chg).pn.hd hs0 hkb i hn.lt false; rw [(afterV_open hk hn.op).2] at this; exact this
    (refine ql_pure tabOk rfl rfl (ql_ext tabOk rfl rfl rfl (ql_ext tabOk rfl rfl rfl ?_)))
    refine ql_alloc zero182 rfl (fun b11 => ?_)
    skip
    refine ql_setA (us := knC (failK s k i)) tabOk rfl rfl rfl (knC_len ff.bd) (knC_one _) (by repeat constructor) rfl ?_
    (refine ql_pure tabOk rfl rfl (q_nil (q_seq (q_region ?_))); refine ql_loadG tabOk rfl rfl rfl (by assumption) (by rfl) ?_)
    rw [← nodC_snoc L ⟨i, 0, 0⟩]
    have e1 : (L ++ [(⟨i, 0, 0⟩ : Nd)]).length = L.length + 1 := by simp only [List.length_append, List.length_singleton]
    have e1a : growV s g (passK s k i) (L ++ [(⟨i, 0, 0⟩ : Nd)]).length = A := by rw [e1]; exact hA
    refine ql_conv (H' := grP bm bo f1 (.slice a1 (L.length + 1) m1) (L ++ [(⟨i, 0, 0⟩ : Nd)]) ++ [.pt b9 (knC (passK s k i)) 182, .pt b11 (knC (failK s k i)) 182]) (fun w hs => by
      dsimp only [grP]
      rw [e1]
      exact hs.sp (by repeat constructor)) ?_
    refine ql_loadA (cs := knC (passK s k i)) tabOk rfl rfl rfl (knC_len fp.bd) (fun w hs q hq => by rw [(hs.blk (b := b9) (by repeat constructor)).cell, Nat.zero_add]) ?_
    skip
    refine ql_callF (β := (Value → Option Value) × Value) (ψ := fun y v => v = .int .i64 (rtN (L ++ [(⟨i, 0, 0⟩ : Nd)]).length (growV s g (passK s k i) (L ++ [(⟨i, 0, 0⟩ : Nd)]).length)) ∧ GoodB s y.1) (L' := fun y => grP bm bo y.1 y.2 (L ++ [(⟨i, 0, 0⟩ : Nd)] ++ growV s g (passK s k i) (L ++ [(⟨i, 0, 0⟩ : Nd)]).length)) (grP bm bo f1 (.slice a1 (L.length + 1) m1) (L ++ [(⟨i, 0, 0⟩ : Nd)])) [.pt b9 (knC (passK s k i)) 182, .pt b11 (knC (failK s k i)) 182] (DL (grP bm bo f1 (.slice a1 (L.length + 1) m1) (L ++ [(⟨i, 0, 0⟩ : Nd)]))) rfl rfl rfl (Sp.refl _) (fun x hx => hx) (fun w' hs => CaF.of tabOk rfl (ih g (by omega) (passK s k i) w' f1 (.slice a1 (L.length + 1) m1) (L ++ [(⟨i, 0, 0⟩ : Nd)]) (by omega) fp hgd1 (by rw [e1a, e1]; omega) hs.self (fun w'' hc => hX w'' ((Sat.left hs).later hc)))) ?_
    rintro ⟨f2, u2⟩ _ ⟨rfl, hgd2⟩
    dsimp only at hgd2 ⊢
    rw [e1a, show rtN (L ++ [(⟨i, 0, 0⟩ : Nd)]).length A = rtN (L.length + 1) A from by rw [e1]]
    refine ql_fact (fun w hs => hs.slice2 (v := u2) (by repeat constructor)) ?_
    rintro ⟨u2a, u2c, rfl⟩
    (refine ql_pure tabOk rfl rfl (q_nil (q_seq (q_region ?_))); refine ql_loadG tabOk rfl rfl rfl (by assumption) (by rfl) ?_)
    have e2 : (L ++ [(⟨i, 0, 0⟩ : Nd)] ++ A).length = L.length + 1 + A.length := by simp only [List.length_append, List.length_singleton]
    have e2a : growV s g (failK s k i) (L ++ [(⟨i, 0, 0⟩ : Nd)] ++ A).length = B := by rw [e2]; exact hB
    refine ql_loadA (cs := knC (failK s k i)) tabOk rfl rfl rfl (knC_len ff.bd) (fun w hs q hq => by rw [(hs.blk (b := b11) (by repeat constructor)).cell, Nat.zero_add]) ?_
    skip
    refine ql_callF (β := (Value → Option Value) × Value) (ψ := fun y v => v = .int .i64 (rtN (L ++ [(⟨i, 0, 0⟩ : Nd)] ++ A).length (growV s g (failK s k i) (L ++ [(⟨i, 0, 0⟩ : Nd)] ++ A).length)) ∧ GoodB s y.1) (L' := fun y => grP bm bo y.1 y.2 (L ++ [(⟨i, 0, 0⟩ : Nd)] ++ A ++ growV s g (failK s k i) (L ++ [(⟨i, 0, 0⟩ : Nd)] ++ A).length)) (grP bm bo f2 (.slice u2a (L ++ [(⟨i, 0, 0⟩ : Nd)] ++ A).length u2c) (L ++ [(⟨i, 0, 0⟩ : Nd)] ++ A)) [.pt b9 (knC (passK s k i)) 182, .pt b11 (knC (failK s k i)) 182] (DL (grP bm bo f2 (.slice u2a (L ++ [(⟨i, 0, 0⟩ : Nd)] ++ A).length u2c) (L ++ [(⟨i, 0, 0⟩ : Nd)] ++ A))) rfl rfl rfl (Sp.refl _) (fun x hx => hx) (fun w' hs => CaF.of tabOk rfl (ih g (by omega) (failK s k i) w' f2 (.slice u2a (L ++ [(⟨i, 0, 0⟩ : Nd)] ++ A).length u2c) (L ++ [(⟨i, 0, 0⟩ : Nd)] ++ A) (by omega) ff hgd2 (by rw [e2a, e2]; omega) hs.self (fun w'' hc => hX w'' ((Sat.left hs).later hc)))) ?_
    rintro ⟨f3, u3⟩ _ ⟨rfl, hgd3⟩
    dsimp only at hgd3 ⊢
    rw [e2a, show rtN (L ++ [(⟨i, 0, 0⟩ : Nd)] ++ A).length B = rtN (L.length + 1 + A.length) B from by rw [e2]]
    refine ql_fact (fun w hs => hs.slice2 (v := u3) (by repeat constructor)) ?_
    rintro ⟨u3a, u3c, rfl⟩
    (refine ql_pure tabOk rfl rfl (q_nil (q_seq ?_)))
    have el : L ++ [(⟨i, 0, 0⟩ : Nd)] ++ A ++ B = L ++ ⟨i, 0, 0⟩ :: (A ++ B) := by simp
    rw [el]
    obtain ⟨N, hN⟩ : ∃ N, N = (L ++ (⟨i, 0, 0⟩ : Nd) :: (A ++ B)).length := ⟨_, rfl⟩
    have hN2 : N = L.length + 1 + A.length + B.length := by rw [hN]; simp only [List.length_append, List.length_cons]; omega
    dsimp only [grP]
    rw [← hN]
    refine q_fact (fun w hs => hs.ownSome (v := .slice u3a N u3c) (by repeat constructor) (by omega)) ?_
    rintro ⟨g3, c3, hg3⟩
    cases hg3
    refine q_draw _ [.ow (.slice (some ⟨g3, 0, none⟩) N u3c) 91 3 N (nodC (L ++ ⟨i, 0, 0⟩ :: (A ++ B)))] (Sp.cons (by repeat constructor) (Sp.refl _)) (by kernel_rfl) (by kernel_rfl) ?_
    (refine qf_loadBa tabOk rfl rfl rfl ?_; refine qf_pure tabOk rfl rfl rfl ?_; refine qf_loadBa tabOk rfl rfl rfl ?_; (iterate 3 refine qf_pure tabOk rfl rfl rfl ?_))
    refine qf_index tabOk rfl rfl rfl rfl rfl (by omega) (by omega) ?_
    (refine qf_pure tabOk rfl rfl rfl ?_)
    refine qf_storeWs tabOk (L.length * 3 + 1) rfl rfl rfl rfl (by repeat constructor) (by omega) (by rw [nodC_length, ← hN]; omega) ?_
    rw [nodC_putP]
    skip
    refine qf_index tabOk rfl rfl rfl rfl rfl (by omega) (by omega) ?_
    (refine qf_pure tabOk rfl rfl rfl ?_)
    refine qf_storeWs tabOk (L.length * 3 + 2) rfl rfl rfl rfl (by repeat constructor) (by omega) (by rw [nodC_length]; simp only [List.length_append, List.length_cons]; omega) ?_
    rw [nodC_putF]
    (refine qf_nil (q_seq (q_region (ql_pure tabOk rfl rfl (ql_pure tabOk rfl rfl (q_nil (q_ret ?_)))))))
    refine q_finM tabOk rfl (by repeat constructor) fun w hs => ?_
    have hret : rtN L.length ((⟨i, rtN (L.length + 1) A, rtN (L.length + 1 + A.length) B⟩ : Nd) :: (A ++ B)) = (L.length : Int) := by simp [rtN]
    have hN3 : (L ++ (⟨i, rtN (L.length + 1) A, rtN (L.length + 1 + A.length) B⟩ : Nd) :: (A ++ B)).length = N := by rw [hN2]; simp only [List.length_append, List.length_cons]; omega
    exact ⟨(f3, .slice (some ⟨g3, 0, none⟩) N u3c), ⟨by rw [hret]; rfl, hgd3⟩, by
      dsimp only [grP]
      rw [hN3]
      exact hs.sp (by repeat constructor)⟩
theorem rplan_no (w : World) (lo hi : Nat) (s : Sc) (tv rv : Value) (h : ScR w lo hi tv rv s) (hl1 : s.tests.length ≤ maxLen) (hl2 : s.rifles.length ≤ maxLen) (h0 : chkO s ≠ 0) : Ca Tryz.prog 56 [.agg (scC s tv rv).toArray] w fun x w' => x = .tuple #[.slice none 0 0, .int .i64 (chkO s)] ∧ Chg [] w w' := by
  refine q_of (Sat.nil w M0) Tryz.func56 rfl (by simp [Tryz.ntmps56]) ?_
  (refine q_seq (q_region ?_))
  refine ql_box rfl rfl (fun b1 => ?_)
  rw [agg_cells]
  (refine ql_pure tabOk rfl rfl (ql_pure tabOk rfl rfl (q_nil (q_seq (q_region ?_)))); refine ql_loadABa tabOk rfl rfl rfl ?_)
  refine ql_callv (val := .tuple #[.pointer none, .int .i64 (chkO s)]) tabOk rfl rfl rfl rfl (fun w hs => ?_) ?_; exact rask_no w lo hi s tv rv (h.keep hs.chg0) hl1 hl2 h0
  (refine ql_pure tabOk rfl rfl (ql_ext tabOk rfl rfl rfl (ql_ext tabOk rfl rfl rfl ?_)))
  refine ql_alloc zero177 rfl (fun b4 => ?_)
  (refine ql_set tabOk rfl rfl rfl rfl (by repeat constructor) ?_; refine ql_pure tabOk rfl rfl (q_nil (q_seq (q_seq (q_region (ql_pure tabOk rfl rfl (ql_neqT tabOk rfl rfl rfl (by omega) (q_nil (q_cond_true rfl (q_seq (q_region ?_)))))))))); (iterate 3 refine ql_pure tabOk rfl rfl ?_); refine q_nil (q_ret ?_))
  refine q_fin tabOk rfl (by repeat constructor) fun w hs => ?_
  exact ⟨rfl, hs.chg0⟩
set_option maxHeartbeats 2000000 in
theorem rplan_ok (w : World) (lo hi : Nat) (s : Sc) (tv rv : Value) (h : ScR w lo hi tv rv s) (hs0 : SOk s) : Ca Tryz.prog 56 [.agg (scC s tv rv).toArray] w fun x w' => ∃ u : Value, x = .tuple #[u, .int .i64 0] ∧ Sat w M0 [.ow u 91 3 (planV s).length (nodC (planV s))] w' := by
  have hfit := firstK_fit hs0.le
  have h8 := hs0.ok.rn8
  have hpl := plan_len h8 hs0.le
  refine q_of (Sat.nil w M0) Tryz.func56 rfl (by simp [Tryz.ntmps56]) ?_
  (refine q_seq (q_region ?_))
  refine ql_box rfl rfl (fun b1 => ?_)
  rw [agg_cells]
  (refine ql_pure tabOk rfl rfl (ql_pure tabOk rfl rfl (q_nil (q_seq (q_region ?_)))); refine ql_loadABa tabOk rfl rfl rfl ?_)
  refine ql_call (β := Nat) tabOk [] _ M0 rfl rfl rfl rfl (Sp.refl _) (fun _ h => h.elim) (fun w' hs => rask_ok w' lo hi s tv _ (h.keep hs.chg0) hs0.ok hs0.le) ?_
  rintro bd _ rfl
  dsimp only [List.cons_append, List.nil_append]
  (refine ql_pure tabOk rfl rfl (ql_ext tabOk rfl rfl rfl (ql_ext tabOk rfl rfl rfl ?_)))
  refine ql_alloc zero177 rfl (fun b4 => ?_)
  (refine ql_set tabOk rfl rfl rfl rfl (by repeat constructor) ?_; refine ql_pure tabOk rfl rfl (q_nil (q_seq (q_seq (q_region (ql_pure tabOk rfl rfl (ql_neqF tabOk rfl rfl rfl (by omega) (q_nil (q_cond_false rfl (q_skip (q_seq (q_region ?_))))))))))); refine ql_loadBa tabOk rfl rfl rfl ?_)
  refine ql_call (β := Nat × Nat × Nat × Nat) (ψ := fun y v => v = bstF y.2.1 y.2.2.1 y.2.2.2) (L' := fun y => plnL bd y) tabOk [] _ M0 rfl rfl rfl rfl (Sp.refl _) (fun _ h => h.elim) (fun w' hs => rplanner_ca w' bd) ?_
  rintro ⟨bm, p1, p2, p3⟩ _ rfl
  dsimp only [plnL, List.cons_append, List.nil_append]
  skip
  refine ql_alloc zero205 rfl (fun b6 => ?_)
  (refine ql_set tabOk rfl rfl rfl rfl (by repeat constructor) ?_; refine q_nil (q_seq (q_region ?_)))
  refine ql_alloc zero88 rfl (fun b7 => ?_)
  (refine q_nil (q_seq (q_region ?_)))
  refine ql_alloc zero210 rfl (fun b8 => ?_)
  (refine q_nil (q_seq (q_region (ql_pure tabOk rfl rfl ?_))); refine ql_set tabOk rfl rfl rfl rfl (by repeat constructor) ?_; refine q_nil (q_seq ?_))
  refine q_conv (H' := grP bm b7 (fun _ => none) (.slice none 0 0) [] ++ [.pt p1 [.map (some bm)] 243, .pt p2 [.pointer (some ⟨bd, 0, none⟩)] 177, .pt p3 [bstF p1 p2 p3] 205, .pt b6 [bstF p1 p2 p3] 205, .pt b4 [.pointer (some ⟨bd, 0, none⟩)] 177, .pt b8 [plgF b6 b7 b4 b8] 210, .pt bd (dskC s tv rv (firstK s)) 184]) (fun w' hs => (Sat.ownil hs 91 3).sp (by repeat constructor)) ?_
  refine q_draw [.pt p1 [.map (some bm)] 243, .pt p2 [.pointer (some ⟨bd, 0, none⟩)] 177, .pt p3 [bstF p1 p2 p3] 205, .pt b6 [bstF p1 p2 p3] 205, .pt b4 [.pointer (some ⟨bd, 0, none⟩)] 177, .pt b8 [plgF b6 b7 b4 b8] 210, .pt bd (dskC s tv rv (firstK s)) 184] (grP bm b7 (fun _ => none) (.slice none 0 0) []) (Sp.refl _) (by kernel_rfl) (by kernel_rfl) ?_
  ((iterate 2 refine qf_loadBa tabOk rfl rfl rfl ?_); refine qf_pure tabOk rfl rfl rfl (qf_pure tabOk rfl rfl rfl ?_); refine qf_loadABa tabOk rfl rfl rfl ?_)
  rw [dsk_take2 s tv rv]
  refine qf_callF (β := (Value → Option Value) × Value) (ψ := fun y v => v = .int .i64 (rtN 0 (growV s (cntK s (firstK s)) (firstK s) 0)) ∧ GoodB s y.1) (L' := fun y => grP bm b7 y.1 y.2 ([] ++ growV s (cntK s (firstK s)) (firstK s) 0)) (grP bm b7 (fun _ => none) (.slice none 0 0) []) [] (DL (grP bm b7 (fun _ => none) (.slice none 0 0) [])) rfl rfl rfl (Sp.refl _) (fun x hx => hx) (fun w' hs => CaF.of tabOk rfl (pgrow_ca lo hi bm p1 p2 p3 bd b6 b7 b4 b8 s tv rv (firstK s) _ _ _ hs0.ok (cntK s (firstK s)) (firstK s) w' (fun _ => none) (.slice none 0 0) [] (Nat.le_refl _) hfit (goodB_nil s) (by show 0 + (planV s).length ≤ 1000; omega) hs.self (fun w'' c => ⟨h.keep (hs.asideOld c), ⟨⟨_, (Sat.aside (A := grP bm b7 (fun _ => none) (.slice none 0 0) []) hs c (x := .pt p1 [.map (some bm)] 243) (by repeat constructor))⟩, ⟨_, (Sat.aside (A := grP bm b7 (fun _ => none) (.slice none 0 0) []) hs c (x := .pt p2 [.pointer (some ⟨bd, 0, none⟩)] 177) (by repeat constructor))⟩, ⟨_, (Sat.aside (A := grP bm b7 (fun _ => none) (.slice none 0 0) []) hs c (x := .pt p3 [bstF p1 p2 p3] 205) (by repeat constructor))⟩, (Sat.aside (A := grP bm b7 (fun _ => none) (.slice none 0 0) []) hs c (x := .pt bd (dskC s tv rv (firstK s)) 184) (by repeat constructor))⟩, (Sat.aside (A := grP bm b7 (fun _ => none) (.slice none 0 0) []) hs c (x := .pt b6 [bstF p1 p2 p3] 205) (by repeat constructor)), (Sat.aside (A := grP bm b7 (fun _ => none) (.slice none 0 0) []) hs c (x := .pt b4 [.pointer (some ⟨bd, 0, none⟩)] 177) (by repeat constructor)), (Sat.aside (A := grP bm b7 (fun _ => none) (.slice none 0 0) []) hs c (x := .pt b8 [plgF b6 b7 b4 b8] 210) (by repeat constructor))⟩))) ?_
  rintro ⟨g, u⟩ _ ⟨rfl, _⟩
  rw [List.nil_append, show growV s (cntK s (firstK s)) (firstK s) 0 = planV s from rfl]
  dsimp only [grP]
  refine qf_fact (fun w hs => hs.slice2 (v := u) (by repeat constructor)) ?_
  rintro ⟨ua, uc, rfl⟩
  (refine qf_nil (q_seq (q_region ?_)); refine ql_loadBa tabOk rfl rfl rfl ?_; refine ql_pure tabOk rfl rfl (ql_pure tabOk rfl rfl (q_nil (q_ret ?_))))
  refine q_fin tabOk rfl (by repeat constructor) fun w hs => ?_
  exact ⟨.slice ua (planV s).length uc, rfl, hs.sp (by repeat constructor)⟩
end Go.Proofs.YtopdmadgkjdgcaaGreat

/- Walks: the depth of a plan, package and reference; plans of the reference; plans compared. -/
namespace Go.Proofs.YtopdmadgkjdgcaaGreat
set_option maxRecDepth 4000
open Go Go.Eng
/-- The depth that is told, and the error. -/
def depU (s : Sc) (plan : List Nd) : Int × Int := if chkO s ≠ 0 then (0, chkO s) else if 300 < plan.length then (0, 2) else if rpB s plan = true then (if depP s plan < 0 then (0, 8) else (depP s plan, 0)) else (0, 1)
theorem rdepth_u (w : World) (lo hi : Nat) (s : Sc) (tv rv vp : Value) (plan : List Nd) (h : ScR w lo hi tv rv s) (hl1 : s.tests.length ≤ maxLen) (hl2 : s.rifles.length ≤ maxLen) (hr : RdN w lo hi vp plan) (hlp : plan.length ≤ 1000) : Ca Tryz.prog 59 [.agg (scC s tv rv).toArray, vp] w fun x w' => x = .tuple #[.int .i64 (depU s plan).1, .int .i64 (depU s plan).2] ∧ Chg [] w w' := by
  by_cases h0 : chkO s = 0
  · have hsok := chkO_zero.1 h0
    by_cases h3 : 300 < plan.length
    · have e : depU s plan = (0, 2) := by unfold depU; rw [if_neg (by rw [h0]; simp), if_pos h3]
      rw [e]
      obtain ⟨pa, pcap, rfl, hps⟩ := hr.outI
      refine q_of (Sat.nil w M0) Tryz.func59 rfl (by simp [Tryz.ntmps59]) ?_
      (refine q_seq (q_region ?_))
      refine ql_box rfl rfl (fun b2 => ?_)
      rw [agg_cells]
      refine ql_box rfl rfl (fun b3 => ?_)
      (refine ql_pure tabOk rfl rfl (ql_pure tabOk rfl rfl (q_nil (q_seq (q_region ?_)))); refine ql_loadABa tabOk rfl rfl rfl ?_)
      refine ql_call (β := Nat) tabOk [] _ M0 rfl rfl rfl rfl (Sp.refl _) (fun _ h => h.elim) (fun w' hs => rask_ok w' lo hi s tv _ (h.keep hs.chg0) hsok.ok hsok.le) ?_
      rintro bd _ rfl
      dsimp only [List.cons_append, List.nil_append]
      (refine ql_pure tabOk rfl rfl (ql_ext tabOk rfl rfl rfl (ql_ext tabOk rfl rfl rfl ?_)))
      refine ql_alloc zero177 rfl (fun b6 => ?_)
      (refine ql_set tabOk rfl rfl rfl rfl (by repeat constructor) ?_; refine ql_pure tabOk rfl rfl (q_nil (q_seq (q_block (q_seq (q_region (ql_pure tabOk rfl rfl (ql_neqF tabOk rfl rfl rfl (by omega) (ql_pure tabOk rfl rfl (q_nil (q_cond_false rfl (q_seq ?_))))))))))); refine q_region ?_; refine ql_loadBa tabOk rfl rfl rfl ?_; refine ql_pure tabOk rfl rfl (ql_gtrT tabOk rfl rfl rfl (by omega) (ql_pure tabOk rfl rfl (q_nil (q_cond_true rfl (q_seq (q_region (ql_pure tabOk rfl rfl (ql_pure tabOk rfl rfl (q_nil (q_ret ?_)))))))))))
      refine q_fin tabOk rfl (by repeat constructor) fun w hs => ?_
      exact ⟨rfl, hs.chg0⟩
    · have := rdepth_ok w lo hi s tv rv vp plan h hsok hr (by omega)
      refine this.mono fun x w' => ?_
      rintro ⟨rfl, hc⟩
      refine ⟨?_, hc⟩
      have e : depU s plan = if rpB s plan = true then (if depP s plan < 0 then (0, 8) else (depP s plan, 0)) else (0, 1) := by unfold depU; rw [if_neg (by rw [h0]; simp), if_neg h3]
      rw [e]
      by_cases c : rpB s plan = true
      · simp only [if_pos c]
        by_cases d : depP s plan < 0
        · simp only [if_pos d]
        · simp only [if_neg d]
      · simp only [if_neg c]
  · have := rdepth_no w lo hi s tv rv vp plan h hl1 hl2 hr h0
    unfold depU
    rw [if_pos h0]
    exact this
def ndK (s : Sc) (plan : List Nd) (k : Nat) : Bool := (List.range k).all (ndB s plan)
theorem ndK_succ (s : Sc) (plan : List Nd) (k : Nat) : ndK s plan (k + 1) = (ndK s plan k && ndB s plan k) := by
  unfold ndK
  rw [List.range_succ, List.all_append]
  simp
def tF41_8cc3c51 : OT := .alt (chainT [0, 1, 2, 3, 4, 5, 6, 7, 8, 9, 10, 11, 12, 13] (.nil)) (chainT [7, 8, 9, 10, 0, 1, 2, 3, 4, 5, 6, 11, 12, 13] (.nil))
set_option maxHeartbeats 8000000 in
theorem rrdepth_u (w : World) (lo hi : Nat) (s : Sc) (tv rv vp : Value) (plan : List Nd) (h : ScR w lo hi tv rv s) (hl1 : s.tests.length ≤ maxLen) (hl2 : s.rifles.length ≤ maxLen) (hr : RdN w lo hi vp plan) (hlp : plan.length ≤ 1000) : Ca Tryz.prog 57 [.agg (scC s tv rv).toArray, vp] w fun x w' => x = .tuple #[.int .i64 (depU s plan).1, .int .i64 (depU s plan).2] ∧ Chg [] w w' := by
  obtain ⟨ta, tc, rfl, _⟩ := RdS.outI h.t
  obtain ⟨ra, rc, rfl, _⟩ := RdI.outI h.r
  obtain ⟨pa, pc, rfl, hpa⟩ := hr.outI
  refine q_of (Sat.nil w M0) Tryz.func57 rfl (by simp [Tryz.ntmps57]) ?_
  (refine q_seq (q_region ?_))
  refine ql_box rfl rfl (fun b2 => ?_)
  rw [agg_cells]
  (refine ql_pure tabOk rfl rfl (ql_pure tabOk rfl rfl (q_nil (q_seq (q_seq (q_region ?_))))); refine ql_loadABa tabOk rfl rfl rfl ?_)
  refine ql_callv (val := .tuple #[spV2 (offU s), .int .i64 (chkO s)]) tabOk rfl rfl rfl rfl (fun w hs => ?_) ?_; exact rroff_u w lo hi s _ _ (h.keep hs.chg0) hl1 hl2
  by_cases h0 : chkO s = 0
  · have hsok := chkO_zero.1 h0
    have hok := hsok.ok
    have hfit := firstK_fit hsok.le
    have h8 := hok.rn8
    have hn1 := hok.rn1
    by_cases h3 : 300 < plan.length
    · have e : depU s plan = (0, 2) := by unfold depU; rw [if_neg (by rw [h0]; simp), if_pos h3]
      rw [e, h0]
      (refine ql_pure tabOk rfl rfl (ql_ext tabOk rfl rfl rfl (ql_ext tabOk rfl rfl rfl ?_)))
      refine ql_alloc zero56 rfl (fun b6 => ?_)
      (refine ql_setA tabOk rfl rfl rfl rfl rfl (by repeat constructor) rfl ?_; refine ql_pure tabOk rfl rfl (q_nil (q_seq (q_region (ql_pure tabOk rfl rfl (ql_neqF tabOk rfl rfl rfl (by omega) (q_nil (q_cond_false rfl (q_skip (q_seq (q_seq (q_region ?_))))))))))); refine ql_pure tabOk rfl rfl (ql_pure tabOk rfl rfl (ql_gtrT tabOk rfl rfl rfl (by omega) (q_nil (q_cond_true rfl (q_seq (q_region (ql_pure tabOk rfl rfl (ql_pure tabOk rfl rfl (q_nil (q_ret ?_)))))))))))
      refine q_fin tabOk rfl (by repeat constructor) fun w hs => ?_
      exact ⟨rfl, hs.chg0⟩
    · have e : depU s plan = if rpB s plan = true then (if depP s plan < 0 then (0, 8) else (depP s plan, 0)) else (0, 1) := by unfold depU; rw [if_neg (by rw [h0]; simp), if_neg h3]
      rw [e, h0]
      (refine ql_pure tabOk rfl rfl (ql_ext tabOk rfl rfl rfl (ql_ext tabOk rfl rfl rfl ?_)))
      refine ql_alloc zero56 rfl (fun b6 => ?_)
      (refine ql_setA tabOk rfl rfl rfl rfl rfl (by repeat constructor) rfl ?_; refine ql_pure tabOk rfl rfl (q_nil (q_seq (q_region (ql_pure tabOk rfl rfl (ql_neqF tabOk rfl rfl rfl (by omega) (q_nil (q_cond_false rfl (q_skip (q_seq (q_seq (q_region ?_))))))))))); refine ql_pure tabOk rfl rfl (ql_pure tabOk rfl rfl (ql_gtrF tabOk rfl rfl rfl (by omega) (q_nil (q_cond_false rfl (q_skip (q_seq (q_seq (q_region (ql_pure tabOk rfl rfl (q_nil (q_block ?_))))))))))))
      refine q_loop (σ := Nat) (fun k => k ≤ plan.length ∧ ndK s plan k = true) (fun k => plan.length - k) (fun k => [(1, .slice pa plan.length pc), (2, .pointer (some ⟨b2, 0, none⟩)), (8, .int .i64 k)]) (fun _ => [.pt b2 (scC s (.slice ta s.tests.length tc) (.slice ra s.rifles.length rc)) 51]) 0 ⟨by omega, rfl⟩ ⟨rfl, rfl, rfl, trivial⟩ (by repeat constructor) ?_
      rintro k ⟨hk, hno⟩ K hK
      (refine q_seq (q_seq (q_region ?_)); (iterate 4 refine ql_pure tabOk rfl rfl ?_); refine q_nil ?_)
      refine q_if rfl (fun hc => ?_) (fun hc => ?_)
      · have hk2 : k < plan.length := by omega
        clear hc
        obtain ⟨pb, po, rfl⟩ := hpa (by omega)
        have hnd := ndV_get hk2
        have hsu := ndK_succ s plan k
        rw [hno, Bool.true_and] at hsu
        have hbad : ndB s plan k = false → rpB s plan = false := fun e => all_false (p := ndB s plan) e hk2
        have hnB : ndB s plan k = (inB plan[k].r 0 ((s.rifles.length : Int) - 1) && (nxB k plan plan[k].p && nxB k plan plan[k].f)) := by unfold ndB; rw [hnd]
        (refine q_skip (q_seq (q_block (q_seq (q_region (ql_pure tabOk rfl rfl (ql_pure tabOk rfl rfl ?_)))))))
        refine ql_index tabOk rfl rfl rfl rfl rfl (by omega) (by omega) ?_
        skip
        refine ql_loadA (cs := [.int .i64 plan[k].r, .int .i64 plan[k].p, .int .i64 plan[k].f]) tabOk rfl rfl rfl rfl (fun w hs q hq => by simpa using RdN.at (RdE.keep hr hs.chg0) k hk2 q hq) ?_
        skip
        refine ql_alloc zero213 rfl (fun b9 => ?_)
        (refine ql_setA tabOk rfl rfl rfl rfl rfl (by repeat constructor) rfl ?_; refine q_nil (q_seq (q_region (ql_pure tabOk rfl rfl ?_))); refine ql_loadBa tabOk rfl rfl rfl ?_; refine ql_pure tabOk rfl rfl ?_; refine ql_loadBa tabOk rfl rfl rfl ?_; refine ql_pure tabOk rfl rfl (ql_ar tabOk rfl rfl rfl rfl (by omega) (by omega) ?_))
        refine ql_callv (val := .bool (!(inB plan[k].r 0 ((s.rifles.length : Int) - 1)))) tabOk rfl rfl rfl rfl (fun w hs => ?_) ?_; exact routs_ca plan[k].r 0 ((s.rifles.length : Int) - 1) w
        cases d1 : inB plan[k].r 0 ((s.rifles.length : Int) - 1) with
        | false =>
          rw [hbad (by rw [hnB, d1]; rfl), if_neg (by decide)]
          (refine ql_pure tabOk rfl rfl ?_; (iterate 4 refine ql_gno rfl rfl rfl ?_); (iterate 8 refine ql_gnone rfl rfl ?_); refine ql_gno rfl rfl rfl (ql_pure tabOk rfl rfl (ql_pure tabOk rfl rfl ?_)); (iterate 4 refine ql_gno rfl rfl rfl ?_); (iterate 8 refine ql_gnone rfl rfl ?_); refine ql_gno rfl rfl rfl (ql_pure tabOk rfl rfl (q_nil (q_cond_true rfl (q_seq (q_region (ql_pure tabOk rfl rfl (ql_pure tabOk rfl rfl (q_nil (q_ret ?_))))))))))
          refine q_fin tabOk rfl (by repeat constructor) fun w hs => ?_
          exact ⟨rfl, hs.chg0⟩
        | true =>
          have hP : ∀ x : Int, x = -1 ∨ x ≠ -1 := fun x => Classical.em _
          have n1 : ∀ x : Int, x = -1 → nxB k plan x = true := fun x hx => by unfold nxB; rw [decide_eq_true hx]; rfl
          have n2 : ∀ x : Int, x ≠ -1 → nxB k plan x = inB x ((k : Int) + 1) ((plan.length : Int) - 1) := fun x hx => by unfold nxB; rw [decide_eq_false hx]; rfl
          rcases hP plan[k].p with hp | hp
          · have np := n1 _ hp
            rcases hP plan[k].f with hf | hf
            · have nf := n1 _ hf
              (refine ql_pure tabOk rfl rfl (ql_gyes rfl (ql_pure tabOk rfl rfl (ql_gyes rfl ?_))); refine ql_loadBa tabOk rfl rfl rfl ?_; refine ql_gyes rfl (ql_neqF tabOk rfl rfl rfl (by omega) (ql_gyes rfl (ql_pure tabOk rfl rfl ?_))); (iterate 8 refine ql_gno rfl rfl rfl ?_); refine ql_gyes rfl ?_; (iterate 3 refine ql_pure tabOk rfl rfl ?_); refine ql_gyes rfl (ql_pure tabOk rfl rfl (ql_gyes rfl ?_)); refine ql_loadBa tabOk rfl rfl rfl ?_; refine ql_gyes rfl (ql_neqF tabOk rfl rfl rfl (by omega) (ql_gyes rfl (ql_pure tabOk rfl rfl ?_))); (iterate 8 refine ql_gno rfl rfl rfl ?_); refine ql_gyes rfl (ql_pure tabOk rfl rfl (ql_pure tabOk rfl rfl (q_nil (q_cond_false rfl (q_skip (q_blk (q_region (ql_pure tabOk rfl rfl (ql_ar tabOk rfl rfl rfl rfl (by omega) (by omega) (ql_pure tabOk rfl rfl (q_nil ?_))))))))))))
              exact hK (k + 1) _ _ ⟨by omega, by rw [hsu, hnB, d1, np, nf]; rfl⟩ (by omega) ⟨rfl, rfl, rfl, trivial⟩ (by repeat constructor)
            · have nf := n2 _ hf
              (refine ql_pure tabOk rfl rfl (ql_gyes rfl (ql_pure tabOk rfl rfl (ql_gyes rfl ?_))); refine ql_loadBa tabOk rfl rfl rfl ?_; refine ql_gyes rfl (ql_neqF tabOk rfl rfl rfl (by omega) (ql_gyes rfl (ql_pure tabOk rfl rfl ?_))); (iterate 8 refine ql_gno rfl rfl rfl ?_); refine ql_gyes rfl ?_; (iterate 3 refine ql_pure tabOk rfl rfl ?_); refine ql_gyes rfl (ql_pure tabOk rfl rfl (ql_gyes rfl ?_)); refine ql_loadBa tabOk rfl rfl rfl ?_; refine ql_gyes rfl (ql_neqT tabOk rfl rfl rfl (by omega) (ql_gyes rfl (ql_pure tabOk rfl rfl (ql_gyes rfl (ql_pure tabOk rfl rfl (ql_gyes rfl ?_)))))); refine ql_loadBa tabOk rfl rfl rfl ?_; refine ql_gyes rfl (ql_pure tabOk rfl rfl (ql_gyes rfl (ql_ar tabOk rfl rfl rfl rfl (by omega) (by omega) (ql_gyes rfl (ql_pure tabOk rfl rfl (ql_gyes rfl (ql_pure tabOk rfl rfl (ql_gyes rfl (ql_ar tabOk rfl rfl rfl rfl (by omega) (by omega) (ql_gyes rfl ?_)))))))))))
              refine ql_callv (val := .bool (!(inB plan[k].f ((k : Int) + 1) ((plan.length : Int) - 1)))) tabOk rfl rfl rfl rfl (fun w hs => ?_) ?_; exact routs_ca plan[k].f ((k : Int) + 1) ((plan.length : Int) - 1) w
              cases d3 : inB plan[k].f ((k : Int) + 1) ((plan.length : Int) - 1) with
              | false =>
                rw [d3] at nf
                rw [hbad (by rw [hnB, d1, np, nf]; rfl), if_neg (by decide)]
                (refine ql_gyes rfl (ql_pure tabOk rfl rfl (ql_pure tabOk rfl rfl (q_nil (q_cond_true rfl (q_seq (q_region (ql_pure tabOk rfl rfl (ql_pure tabOk rfl rfl (q_nil (q_ret ?_)))))))))))
                refine q_fin tabOk rfl (by repeat constructor) fun w hs => ?_
                exact ⟨rfl, hs.chg0⟩
              | true =>
                rw [d3] at nf
                (refine ql_gyes rfl (ql_pure tabOk rfl rfl (ql_pure tabOk rfl rfl (q_nil (q_cond_false rfl (q_skip (q_blk (q_region (ql_pure tabOk rfl rfl (ql_ar tabOk rfl rfl rfl rfl (by omega) (by omega) (ql_pure tabOk rfl rfl (q_nil ?_))))))))))))
                exact hK (k + 1) _ _ ⟨by omega, by rw [hsu, hnB, d1, np, nf]; rfl⟩ (by omega) ⟨rfl, rfl, rfl, trivial⟩ (by repeat constructor)
          · have np := n2 _ hp
            (refine ql_pure tabOk rfl rfl (ql_gyes rfl (ql_pure tabOk rfl rfl (ql_gyes rfl ?_))); refine ql_loadBa tabOk rfl rfl rfl ?_; refine ql_gyes rfl (ql_neqT tabOk rfl rfl rfl (by omega) (ql_gyes rfl (ql_pure tabOk rfl rfl (ql_gyes rfl (ql_pure tabOk rfl rfl (ql_gyes rfl ?_)))))); refine ql_loadBa tabOk rfl rfl rfl ?_; refine ql_gyes rfl (ql_pure tabOk rfl rfl (ql_gyes rfl (ql_ar tabOk rfl rfl rfl rfl (by omega) (by omega) (ql_gyes rfl (ql_pure tabOk rfl rfl (ql_gyes rfl (ql_pure tabOk rfl rfl (ql_gyes rfl (ql_ar tabOk rfl rfl rfl rfl (by omega) (by omega) (ql_gyes rfl ?_)))))))))))
            refine ql_callv (val := .bool (!(inB plan[k].p ((k : Int) + 1) ((plan.length : Int) - 1)))) tabOk rfl rfl rfl rfl (fun w hs => ?_) ?_; exact routs_ca plan[k].p ((k : Int) + 1) ((plan.length : Int) - 1) w
            cases d2 : inB plan[k].p ((k : Int) + 1) ((plan.length : Int) - 1) with
            | false =>
              rw [d2] at np
              rw [hbad (by rw [hnB, d1, np]; rfl), if_neg (by decide)]
              (refine ql_gyes rfl ?_; (iterate 3 refine ql_pure tabOk rfl rfl ?_); (iterate 4 refine ql_gno rfl rfl rfl ?_); (iterate 8 refine ql_gnone rfl rfl ?_); refine ql_gno rfl rfl rfl (ql_pure tabOk rfl rfl (q_nil (q_cond_true rfl (q_seq (q_region (ql_pure tabOk rfl rfl (ql_pure tabOk rfl rfl (q_nil (q_ret ?_))))))))))
              refine q_fin tabOk rfl (by repeat constructor) fun w hs => ?_
              exact ⟨rfl, hs.chg0⟩
            | true =>
              rw [d2] at np
              rcases hP plan[k].f with hf | hf
              · have nf := n1 _ hf
                (refine ql_gyes rfl ?_; (iterate 3 refine ql_pure tabOk rfl rfl ?_); refine ql_gyes rfl (ql_pure tabOk rfl rfl (ql_gyes rfl ?_)); refine ql_loadBa tabOk rfl rfl rfl ?_; refine ql_gyes rfl (ql_neqF tabOk rfl rfl rfl (by omega) (ql_gyes rfl (ql_pure tabOk rfl rfl ?_))); (iterate 8 refine ql_gno rfl rfl rfl ?_); refine ql_gyes rfl (ql_pure tabOk rfl rfl (ql_pure tabOk rfl rfl (q_nil (q_cond_false rfl (q_skip (q_blk (q_region (ql_pure tabOk rfl rfl (ql_ar tabOk rfl rfl rfl rfl (by omega) (by omega) (ql_pure tabOk rfl rfl (q_nil ?_))))))))))))
                exact hK (k + 1) _ _ ⟨by omega, by rw [hsu, hnB, d1, np, nf]; rfl⟩ (by omega) ⟨rfl, rfl, rfl, trivial⟩ (by repeat constructor)
              · have nf := n2 _ hf
                (refine ql_gyes rfl ?_; (iterate 3 refine ql_pure tabOk rfl rfl ?_); refine ql_gyes rfl (ql_pure tabOk rfl rfl (ql_gyes rfl ?_)); refine ql_loadBa tabOk rfl rfl rfl ?_; refine ql_gyes rfl (ql_neqT tabOk rfl rfl rfl (by omega) (ql_gyes rfl (ql_pure tabOk rfl rfl (ql_gyes rfl (ql_pure tabOk rfl rfl (ql_gyes rfl ?_)))))); refine ql_loadBa tabOk rfl rfl rfl ?_; refine ql_gyes rfl (ql_pure tabOk rfl rfl (ql_gyes rfl (ql_ar tabOk rfl rfl rfl rfl (by omega) (by omega) (ql_gyes rfl (ql_pure tabOk rfl rfl (ql_gyes rfl (ql_pure tabOk rfl rfl (ql_gyes rfl (ql_ar tabOk rfl rfl rfl rfl (by omega) (by omega) (ql_gyes rfl ?_)))))))))))
                refine ql_callv (val := .bool (!(inB plan[k].f ((k : Int) + 1) ((plan.length : Int) - 1)))) tabOk rfl rfl rfl rfl (fun w hs => ?_) ?_; exact routs_ca plan[k].f ((k : Int) + 1) ((plan.length : Int) - 1) w
                cases d3 : inB plan[k].f ((k : Int) + 1) ((plan.length : Int) - 1) with
                | false =>
                  rw [d3] at nf
                  rw [hbad (by rw [hnB, d1, np, nf]; rfl), if_neg (by decide)]
                  (refine ql_gyes rfl (ql_pure tabOk rfl rfl (ql_pure tabOk rfl rfl (q_nil (q_cond_true rfl (q_seq (q_region (ql_pure tabOk rfl rfl (ql_pure tabOk rfl rfl (q_nil (q_ret ?_)))))))))))
                  refine q_fin tabOk rfl (by repeat constructor) fun w hs => ?_
                  exact ⟨rfl, hs.chg0⟩
                | true =>
                  rw [d3] at nf
                  (refine ql_gyes rfl (ql_pure tabOk rfl rfl (ql_pure tabOk rfl rfl (q_nil (q_cond_false rfl (q_skip (q_blk (q_region (ql_pure tabOk rfl rfl (ql_ar tabOk rfl rfl rfl rfl (by omega) (by omega) (ql_pure tabOk rfl rfl (q_nil ?_))))))))))))
                  exact hK (k + 1) _ _ ⟨by omega, by rw [hsu, hnB, d1, np, nf]; rfl⟩ (by omega) ⟨rfl, rfl, rfl, trivial⟩ (by repeat constructor)
      · obtain rfl : k = plan.length := by omega
        have hrp : rpB s plan = true := hno
        rw [hrp, if_pos rfl]
        clear hc hK
        have hpo := rpB_iff.1 hrp
        have hdp : depP s plan = folF s plan plan.length (startN plan) (firstK s) := rfl
        obtain ⟨st, hst⟩ : ∃ st, st = startN plan := ⟨_, rfl⟩
        have hst2 : st = -1 ∨ 0 ≤ st ∧ st < plan.length ∧ plan.length ≤ plan.length + st.toNat := by
          rw [hst]
          unfold startN
          split
          · exact .inl rfl
          · exact .inr ⟨by omega, by omega, by omega⟩
        have hfb := fol_bd s plan plan.length st (firstK s)
        rw [← hst] at hdp
        by_cases hp0 : plan.length = 0
        · have hs1 : st = -1 := by rw [hst]; unfold startN; rw [if_pos hp0]
          subst hs1
          (refine q_exit _ rfl (q_seq (q_region (ql_pure tabOk rfl rfl (q_nil (q_seq (q_seq (q_region (ql_pure tabOk rfl rfl (ql_pure tabOk rfl rfl (ql_eqlT tabOk rfl rfl rfl (by omega) (q_nil ?_))))))))))); refine q_cond_true rfl (q_region (ql_pure tabOk rfl rfl (q_nil (q_seq ?_)))))
          refine q_cut (σ := Unit) (fun _ => [(11, .int .i64 (depP s plan))]) (fun _ => []) ?_ ?_
          rotate_left
          · intro K3 hK3
            refine q_drawT (tF41_8cc3c51) _ [] (Sp.refl _) (by kernel_rfl) (by kernel_rfl) ?_
            refine qt_alt ?_ ?_
            · skip
              refine qt_seg (by repeat (first | exact PickL.nil | (apply PickL.cons; rfl))) fun K1 hK1 => ?_
              (refine qf_loadABa tabOk rfl rfl rfl ?_; refine qf_pure tabOk rfl rfl rfl (qf_pure tabOk rfl rfl rfl ?_); refine qf_loadABa tabOk rfl rfl rfl ?_; refine qf_pure tabOk rfl rfl rfl ?_; refine qf_loadBa tabOk rfl rfl rfl ?_)
              refine qf_call (β := Nat) (ψ := fun b v => v = .slice (some ⟨b, 0, none⟩) 2001 2001) (L' := fun b => [.pt b (bools (ofsL (offV s).1 (offV s).2)) 4]) tabOk [] _ M0 rfl rfl rfl rfl (Sp.refl _) (fun _ h => h.elim) (fun w' hs => allowed_ca w' lo hi lo hi s _ _ _ s.tests (h.keep hs.chg0) (RdE.keep h.t hs.chg0) hok hok.tst) ?_
              rintro b5 _ rfl
              dsimp only [List.cons_append, List.nil_append]
              (refine qf_pure tabOk rfl rfl rfl ?_; refine qf_loadBa tabOk rfl rfl rfl ?_; refine qf_pure tabOk rfl rfl rfl ?_)
              refine qf_makeI (m := s.rifles.length) slI rfl rfl rfl (by omega) (fun b16 => ?_)
              skip
              refine qf_mk #[.slice (some ⟨b5, 0, none⟩) 2001 2001, .slice (some ⟨b16, 0, none⟩) s.rifles.length s.rifles.length] rfl (by kernel_rfl) rfl ?_
              skip
              refine qf_callv (val := .int .i64 (depP s plan)) tabOk rfl rfl rfl rfl (fun w hs => by rw [hdp]; exact rfollow_ca lo hi s _ _ plan _ hok hpo (by omega) plan.length (by omega) _ (firstK s) w 0 w.heap.size _ _ hst2 hfit (h.keep hs.chg0) (RdE.keep hr hs.chg0) ⟨blk_rdB (c := 2001) (hs.blk (b := b5) (by repeat constructor)) (by rw [ofsL_len]), by rw [skL_first]; exact blk_rdI' (hs.blk (b := b16) (cs := ints (List.replicate s.rifles.length 0)) (by repeat constructor)) (by simp)⟩) ?_
              (refine qf_pure tabOk rfl rfl rfl (qf_nil ?_))
              exact hK1 _ _ (qt_nil (hK3 () _ _ ⟨rfl, trivial⟩ (by repeat constructor)))
            · skip
              refine qt_seg (by repeat (first | exact PickL.nil | (apply PickL.cons; rfl))) fun K1 hK1 => ?_
              (refine qf_pure tabOk rfl rfl rfl ?_; refine qf_loadBa tabOk rfl rfl rfl ?_; refine qf_pure tabOk rfl rfl rfl ?_)
              refine qf_makeI (m := s.rifles.length) slI rfl rfl rfl (by omega) (fun b16 => ?_)
              (refine qf_loadABa tabOk rfl rfl rfl ?_; refine qf_pure tabOk rfl rfl rfl (qf_pure tabOk rfl rfl rfl ?_); refine qf_loadABa tabOk rfl rfl rfl ?_; refine qf_pure tabOk rfl rfl rfl ?_; refine qf_loadBa tabOk rfl rfl rfl ?_)
              refine qf_call (β := Nat) (ψ := fun b v => v = .slice (some ⟨b, 0, none⟩) 2001 2001) (L' := fun b => [.pt b (bools (ofsL (offV s).1 (offV s).2)) 4]) tabOk [] _ M0 rfl rfl rfl rfl (Sp.refl _) (fun _ h => h.elim) (fun w' hs => allowed_ca w' lo hi lo hi s _ _ _ s.tests (h.keep hs.chg0) (RdE.keep h.t hs.chg0) hok hok.tst) ?_
              rintro b5 _ rfl
              dsimp only [List.cons_append, List.nil_append]
              skip
              refine qf_mk #[.slice (some ⟨b5, 0, none⟩) 2001 2001, .slice (some ⟨b16, 0, none⟩) s.rifles.length s.rifles.length] rfl (by kernel_rfl) rfl ?_
              skip
              refine qf_callv (val := .int .i64 (depP s plan)) tabOk rfl rfl rfl rfl (fun w hs => by rw [hdp]; exact rfollow_ca lo hi s _ _ plan _ hok hpo (by omega) plan.length (by omega) _ (firstK s) w 0 w.heap.size _ _ hst2 hfit (h.keep hs.chg0) (RdE.keep hr hs.chg0) ⟨blk_rdB (c := 2001) (hs.blk (b := b5) (by repeat constructor)) (by rw [ofsL_len]), by rw [skL_first]; exact blk_rdI' (hs.blk (b := b16) (cs := ints (List.replicate s.rifles.length 0)) (by repeat constructor)) (by simp)⟩) ?_
              (refine qf_pure tabOk rfl rfl rfl (qf_nil ?_))
              exact hK1 _ _ (qt_nil (hK3 () _ _ ⟨rfl, trivial⟩ (by repeat constructor)))
          intro _
          rw [← hdp] at hfb
          by_cases hneg : depP s plan < 0
          · rw [if_pos hneg]
            (refine q_seq (q_seq (q_region (ql_pure tabOk rfl rfl (ql_lssT tabOk rfl rfl rfl (by omega) (q_nil (q_cond_true rfl (q_seq (q_region (ql_pure tabOk rfl rfl (ql_pure tabOk rfl rfl (q_nil ?_))))))))))); refine q_ret ?_)
            refine q_fin tabOk rfl (by repeat constructor) fun w hs => ?_
            exact ⟨rfl, hs.chg0⟩
          · rw [if_neg hneg]
            (refine q_seq (q_seq (q_region (ql_pure tabOk rfl rfl (ql_lssF tabOk rfl rfl rfl (by omega) (q_nil (q_cond_false rfl (q_skip (q_seq (q_region ?_))))))))); (iterate 3 refine ql_pure tabOk rfl rfl ?_); refine q_nil (q_ret ?_))
            refine q_fin tabOk rfl (by repeat constructor) fun w hs => ?_
            exact ⟨rfl, hs.chg0⟩
        · have hs1 : st = 0 := by rw [hst]; unfold startN; rw [if_neg hp0]
          subst hs1
          (refine q_exit _ rfl (q_seq (q_region (ql_pure tabOk rfl rfl (q_nil (q_seq (q_seq (q_region (ql_pure tabOk rfl rfl (ql_pure tabOk rfl rfl (ql_eqlF tabOk rfl rfl rfl (by omega) (q_nil ?_))))))))))); refine q_cond_false rfl (q_skip (q_seq ?_)))
          refine q_cut (σ := Unit) (fun _ => [(11, .int .i64 (depP s plan))]) (fun _ => []) ?_ ?_
          rotate_left
          · intro K3 hK3
            refine q_drawT (tF41_8cc3c51) _ [] (Sp.refl _) (by kernel_rfl) (by kernel_rfl) ?_
            refine qt_alt ?_ ?_
            · skip
              refine qt_seg (by repeat (first | exact PickL.nil | (apply PickL.cons; rfl))) fun K1 hK1 => ?_
              (refine qf_loadABa tabOk rfl rfl rfl ?_; refine qf_pure tabOk rfl rfl rfl (qf_pure tabOk rfl rfl rfl ?_); refine qf_loadABa tabOk rfl rfl rfl ?_; refine qf_pure tabOk rfl rfl rfl ?_; refine qf_loadBa tabOk rfl rfl rfl ?_)
              refine qf_call (β := Nat) (ψ := fun b v => v = .slice (some ⟨b, 0, none⟩) 2001 2001) (L' := fun b => [.pt b (bools (ofsL (offV s).1 (offV s).2)) 4]) tabOk [] _ M0 rfl rfl rfl rfl (Sp.refl _) (fun _ h => h.elim) (fun w' hs => allowed_ca w' lo hi lo hi s _ _ _ s.tests (h.keep hs.chg0) (RdE.keep h.t hs.chg0) hok hok.tst) ?_
              rintro b5 _ rfl
              dsimp only [List.cons_append, List.nil_append]
              (refine qf_pure tabOk rfl rfl rfl ?_; refine qf_loadBa tabOk rfl rfl rfl ?_; refine qf_pure tabOk rfl rfl rfl ?_)
              refine qf_makeI (m := s.rifles.length) slI rfl rfl rfl (by omega) (fun b16 => ?_)
              skip
              refine qf_mk #[.slice (some ⟨b5, 0, none⟩) 2001 2001, .slice (some ⟨b16, 0, none⟩) s.rifles.length s.rifles.length] rfl (by kernel_rfl) rfl ?_
              skip
              refine qf_callv (val := .int .i64 (depP s plan)) tabOk rfl rfl rfl rfl (fun w hs => by rw [hdp]; exact rfollow_ca lo hi s _ _ plan _ hok hpo (by omega) plan.length (by omega) _ (firstK s) w 0 w.heap.size _ _ hst2 hfit (h.keep hs.chg0) (RdE.keep hr hs.chg0) ⟨blk_rdB (c := 2001) (hs.blk (b := b5) (by repeat constructor)) (by rw [ofsL_len]), by rw [skL_first]; exact blk_rdI' (hs.blk (b := b16) (cs := ints (List.replicate s.rifles.length 0)) (by repeat constructor)) (by simp)⟩) ?_
              (refine qf_pure tabOk rfl rfl rfl (qf_nil ?_))
              exact hK1 _ _ (qt_nil (hK3 () _ _ ⟨rfl, trivial⟩ (by repeat constructor)))
            · skip
              refine qt_seg (by repeat (first | exact PickL.nil | (apply PickL.cons; rfl))) fun K1 hK1 => ?_
              (refine qf_pure tabOk rfl rfl rfl ?_; refine qf_loadBa tabOk rfl rfl rfl ?_; refine qf_pure tabOk rfl rfl rfl ?_)
              refine qf_makeI (m := s.rifles.length) slI rfl rfl rfl (by omega) (fun b16 => ?_)
              (refine qf_loadABa tabOk rfl rfl rfl ?_; refine qf_pure tabOk rfl rfl rfl (qf_pure tabOk rfl rfl rfl ?_); refine qf_loadABa tabOk rfl rfl rfl ?_; refine qf_pure tabOk rfl rfl rfl ?_; refine qf_loadBa tabOk rfl rfl rfl ?_)
              refine qf_call (β := Nat) (ψ := fun b v => v = .slice (some ⟨b, 0, none⟩) 2001 2001) (L' := fun b => [.pt b (bools (ofsL (offV s).1 (offV s).2)) 4]) tabOk [] _ M0 rfl rfl rfl rfl (Sp.refl _) (fun _ h => h.elim) (fun w' hs => allowed_ca w' lo hi lo hi s _ _ _ s.tests (h.keep hs.chg0) (RdE.keep h.t hs.chg0) hok hok.tst) ?_
              rintro b5 _ rfl
              dsimp only [List.cons_append, List.nil_append]
              skip
              refine qf_mk #[.slice (some ⟨b5, 0, none⟩) 2001 2001, .slice (some ⟨b16, 0, none⟩) s.rifles.length s.rifles.length] rfl (by kernel_rfl) rfl ?_
              skip
              refine qf_callv (val := .int .i64 (depP s plan)) tabOk rfl rfl rfl rfl (fun w hs => by rw [hdp]; exact rfollow_ca lo hi s _ _ plan _ hok hpo (by omega) plan.length (by omega) _ (firstK s) w 0 w.heap.size _ _ hst2 hfit (h.keep hs.chg0) (RdE.keep hr hs.chg0) ⟨blk_rdB (c := 2001) (hs.blk (b := b5) (by repeat constructor)) (by rw [ofsL_len]), by rw [skL_first]; exact blk_rdI' (hs.blk (b := b16) (cs := ints (List.replicate s.rifles.length 0)) (by repeat constructor)) (by simp)⟩) ?_
              (refine qf_pure tabOk rfl rfl rfl (qf_nil ?_))
              exact hK1 _ _ (qt_nil (hK3 () _ _ ⟨rfl, trivial⟩ (by repeat constructor)))
          intro _
          rw [← hdp] at hfb
          by_cases hneg : depP s plan < 0
          · rw [if_pos hneg]
            (refine q_seq (q_seq (q_region (ql_pure tabOk rfl rfl (ql_lssT tabOk rfl rfl rfl (by omega) (q_nil (q_cond_true rfl (q_seq (q_region (ql_pure tabOk rfl rfl (ql_pure tabOk rfl rfl (q_nil ?_))))))))))); refine q_ret ?_)
            refine q_fin tabOk rfl (by repeat constructor) fun w hs => ?_
            exact ⟨rfl, hs.chg0⟩
          · rw [if_neg hneg]
            (refine q_seq (q_seq (q_region (ql_pure tabOk rfl rfl (ql_lssF tabOk rfl rfl rfl (by omega) (q_nil (q_cond_false rfl (q_skip (q_seq (q_region ?_))))))))); (iterate 3 refine ql_pure tabOk rfl rfl ?_); refine q_nil (q_ret ?_))
            refine q_fin tabOk rfl (by repeat constructor) fun w hs => ?_
            exact ⟨rfl, hs.chg0⟩
  · have e : depU s plan = (0, chkO s) := by unfold depU; rw [if_pos h0]
    rw [e]
    (refine ql_pure tabOk rfl rfl (ql_ext tabOk rfl rfl rfl (ql_ext tabOk rfl rfl rfl ?_)))
    refine ql_alloc zero56 rfl (fun b6 => ?_)
    (refine ql_setA tabOk rfl rfl rfl rfl rfl (by repeat constructor) rfl ?_; refine ql_pure tabOk rfl rfl (q_nil (q_seq (q_region (ql_pure tabOk rfl rfl (ql_neqT tabOk rfl rfl rfl (by omega) (q_nil (q_cond_true rfl (q_seq (q_region ?_))))))))); (iterate 3 refine ql_pure tabOk rfl rfl ?_); refine q_nil (q_ret ?_))
    refine q_fin tabOk rfl (by repeat constructor) fun w hs => ?_
    exact ⟨rfl, hs.chg0⟩
end Go.Proofs.YtopdmadgkjdgcaaGreat

/- Walks of the law: plans copied, and plans of the reference. -/
namespace Go.Proofs.YtopdmadgkjdgcaaGreat
set_option maxRecDepth 4000
open Go Go.Eng
theorem nodC_one (l : List Nd) : ∀ c ∈ nodC l, oneV c = true := fun c hc => by obtain ⟨y, _, hy⟩ := List.mem_flatMap.1 hc; simp at hy; rcases hy with rfl | rfl | rfl <;> rfl
theorem cloneNd_ca (w : World) (lo hi : Nat) (v : Value) (l : List Nd) (h : RdN w lo hi v l) (hlen : l.length ≤ 1000) : Ca Tryz.prog 54 [v] w fun x w' => ∃ u : Value, x = u ∧ Sat w M0 [.ow u 91 3 l.length (nodC l)] w' := by
  obtain ⟨a, c, rfl, ha⟩ := RdN.outI h
  refine q_of (Sat.nil w M0) Tryz.func54 rfl (by simp [Tryz.ntmps54]) ?_
  refine q_conv (H' := [.ow (.slice none 0 0) 91 3 0 (nodC [])]) (fun w' hs => Sat.ownil hs 91 3) ?_
  (refine q_seq (q_region (ql_pure tabOk rfl rfl (q_nil (q_seq (q_region (ql_pure tabOk rfl rfl ?_)))))))
  refine ql_append (q := l.length) (news := nodC l) slNd rfl rfl rfl (fun v' => by repeat constructor) (fun w' hs => ⟨_, _, RdN.row (RdE.keep h hs.chg0)⟩) (nodC_one l) (by omega) (by omega) (fun u' => ?_)
  (refine ql_pure tabOk rfl rfl (q_nil (q_ret ?_)))
  refine q_fin tabOk rfl (by repeat constructor) fun w hs => ?_
  exact ⟨u', rfl, hs.sp (by simp only [nodC, List.flatMap_nil, List.nil_append, Nat.zero_add]; repeat constructor)⟩
theorem slRN : SlT Tryz.prog 96 213 3 24 (.agg #[.int .i64 0, .int .i64 0, .int .i64 0]) := ⟨by kernel_rfl, by kernel_rfl, by kernel_rfl, by decide⟩
theorem rnodes_ca (w : World) (lo hi : Nat) (v : Value) (l : List Nd) (h : RdN w lo hi v l) (hlen : l.length ≤ 1000) : Ca Tryz.prog 58 [v] w fun x w' => ∃ u : Value, x = u ∧ Sat w M0 [.ow u 213 3 l.length (nodC l)] w' := by
  obtain ⟨a, c, rfl, ha⟩ := RdN.outI h
  refine q_of (Sat.nil w M0) Tryz.func58 rfl (by simp [Tryz.ntmps58]) ?_
  (refine q_seq (q_region (ql_pure tabOk rfl rfl (q_nil (q_seq (q_region (ql_pure tabOk rfl rfl (q_nil (q_seq (q_seq (q_region ?_)))))))))); (iterate 3 refine ql_pure tabOk rfl rfl ?_); refine q_nil (q_block ?_))
  refine q_conv (H' := [.ow (.slice none 0 0) 213 3 0 (nodC (l.take 0))]) (fun w' hs => Sat.ownil hs 213 3) ?_
  refine q_loop (σ := Nat × Value) (fun z => z.1 ≤ l.length) (fun z => l.length - z.1) (fun z => [(3, z.2), (6, .slice a l.length c), (7, .int .i64 l.length), (8, .int .i64 z.1)])
    (fun z => [.ow z.2 213 3 z.1 (nodC (l.take z.1))]) (0, .slice none 0 0) (by simp) ⟨rfl, rfl, rfl, rfl, trivial⟩ (by repeat constructor) ?_
  rintro ⟨i, u⟩ hi2 K hK
  dsimp only at hi2 hK ⊢
  (refine q_seq (q_region (ql_pure tabOk rfl rfl (q_nil (q_seq ?_)))))
  refine q_if rfl (fun hc => ?_) (fun hc => ?_)
  · have hi3 : i < l.length := by omega
    clear hc
    obtain ⟨tb, to, rfl⟩ := ha (by omega)
    (refine q_skip (q_seq (q_block (q_seq (q_region ?_)))))
    refine ql_index tabOk rfl rfl rfl rfl rfl (by omega) (by omega) ?_
    refine ql_loadA (cs := [.int .i64 l[i].r, .int .i64 l[i].p, .int .i64 l[i].f]) tabOk rfl rfl rfl rfl (fun w hs q hq => by simpa using RdN.at (RdE.keep h hs.chg0) i hi3 q hq) ?_
    skip
    refine ql_alloc zero91 rfl (fun b5 => ?_)
    (refine ql_setA tabOk rfl rfl rfl rfl rfl (by repeat constructor) rfl ?_; refine q_nil (q_region (ql_pure tabOk rfl rfl ?_)); refine ql_loadABa tabOk rfl rfl rfl ?_)
    refine ql_mkS 213 [.int .i64 l[i].r, .int .i64 l[i].p, .int .i64 l[i].f] rfl (by kernel_rfl) rfl (fun bn => ?_)
    skip
    refine ql_append (q := 1) (news := [.int .i64 l[i].r, .int .i64 l[i].p, .int .i64 l[i].f]) slRN rfl rfl rfl (fun v' => by repeat constructor) (fun w' hs => ⟨_, _, Blk.rdN (hs.blk (b := bn) (by repeat constructor)) rfl⟩) (by simp [oneV]) (by omega) (by omega) (fun u' => ?_)
    (refine ql_pure tabOk rfl rfl (q_nil (q_blk (q_region (ql_ar tabOk rfl rfl rfl rfl (by omega) (by omega) (ql_pure tabOk rfl rfl (q_nil ?_)))))))
    have e : nodC (l.take (i + 1)) = nodC (l.take i) ++ [.int .i64 l[i].r, .int .i64 l[i].p, .int .i64 l[i].f] := by
      rw [List.take_succ_eq_append_getElem hi3, nodC_snoc]
    exact hK (i + 1, u') _ _ (by simp only; omega) (by simp only; omega) ⟨rfl, rfl, rfl, rfl, trivial⟩ (by dsimp only; rw [e]; repeat constructor)
  · obtain rfl : i = l.length := by omega
    rw [List.take_length]
    (refine q_exit _ rfl (q_seq (q_region (ql_pure tabOk rfl rfl (ql_pure tabOk rfl rfl (q_nil (q_ret ?_)))))))
    refine q_fin tabOk rfl (by repeat constructor) fun w hs => ?_
    exact ⟨_, rfl, hs.sp (by repeat constructor)⟩
theorem depU_plan {s : Sc} (h0 : chkO s = 0) : depU s (planV s) = (depV s (firstK s), 0) := by
  have hsok := chkO_zero.1 h0
  have h8 := hsok.ok.rn8
  have hl := plan_len h8 hsok.le
  have h1 := plan_fol h8 hsok.le (f := (planV s).length) (Nat.le_refl _)
  have h2 := rpB_iff.2 (plan_ok h8 hsok.le)
  have h3 := dep_nn s (firstK s)
  have e : depP s (planV s) = depV s (firstK s) := by
    rw [← h1]
    unfold depP startN
    congr 1
    by_cases c : planV s = []
    · rw [if_pos (by rw [c]; rfl), if_pos c]
    · rw [if_neg (fun e => c (List.length_eq_zero_iff.1 e)), if_neg c]
  unfold depU
  rw [if_neg (by rw [h0]; simp), if_neg (by omega), if_pos h2, e, if_neg (by omega)]
end Go.Proofs.YtopdmadgkjdgcaaGreat

/- RifleWeights. Written by gen_LwG.py. -/
namespace Go.Proofs.YtopdmadgkjdgcaaGreat
set_option maxRecDepth 4000
open Go Go.Eng
theorem RdE.wide {w : World} {lo hi l2 h2 : Nat} {v : Value} {sz : Nat} {es : List Value} (h : RdE w lo hi v sz es) (h1 : l2 ≤ lo) (h3 : hi ≤ h2) : RdE w l2 h2 v sz es := by
  obtain ⟨⟨hl, hr⟩, h4⟩ := h
  refine ⟨⟨hl, ?_⟩, h4⟩
  rcases hr with hr | ⟨b, off, cap, e, hp, hc⟩
  · exact .inl hr
  · exact .inr ⟨b, off, cap, e, fun hq => by have := hp hq; omega, hc⟩
theorem ScR.self {w w0 : World} {s : Sc} {tv rv : Value} (h : ScR w0 0 w0.heap.size tv rv s) (c : Chg [] w0 w) (hs : w0.heap.size ≤ w.heap.size) : ScR w 0 w.heap.size tv rv s := ⟨RdE.wide (RdE.keep h.t c) (Nat.le_refl _) hs, RdE.wide (RdE.keep h.r c) (Nat.le_refl _) hs⟩
theorem scr_two {w : World} {hi : Nat} {s : Sc} {tv rv uv : Value} (h : ScR w 0 hi tv rv s) (hu : RdS w 0 w.heap.size uv s.tests) (hw : hi ≤ w.heap.size) : ScR w 0 w.heap.size uv rv s := ⟨hu, RdE.wide h.r (Nat.le_refl _) hw⟩
def tLwG_9f6b35e : OT := chainT [7] (.nil)
def tLwG_384676e : OT := chainT [6] (tLwG_9f6b35e)
def tLwG_0768ab3 : OT := chainT [5] (tLwG_384676e)
def tLwG_bac2fea : OT := chainT [4] (tLwG_384676e)
def tLwG_cae5bd2 : OT := .alt (chainT [4] (tLwG_0768ab3)) (chainT [5] (tLwG_bac2fea))
def tLwG_0c42eda : OT := chainT [2, 3] (tLwG_384676e)
def tLwG_1064656 : OT := .alt (chainT [2, 3] (tLwG_0768ab3)) (chainT [5] (tLwG_0c42eda))
def tLwG_ba7dd18 : OT := .alt (chainT [2, 3] (tLwG_bac2fea)) (chainT [4] (tLwG_0c42eda))
def tLwG_54d3bd4 : OT := .alt (chainT [2, 3] (tLwG_cae5bd2)) (.alt (chainT [4] (tLwG_1064656)) (chainT [5] (tLwG_ba7dd18)))
def tLwG_cdca612 : OT := chainT [0, 1] (tLwG_0c42eda)
def tLwG_95e93e2 : OT := .alt (chainT [0, 1] (tLwG_1064656)) (chainT [5] (tLwG_cdca612))
def tLwG_ae3c7f7 : OT := .alt (chainT [0, 1] (tLwG_ba7dd18)) (chainT [4] (tLwG_cdca612))
def tLwG_d8f867d : OT := .alt (chainT [0, 1] (tLwG_54d3bd4)) (.alt (chainT [4] (tLwG_95e93e2)) (chainT [5] (tLwG_ae3c7f7)))
end Go.Proofs.YtopdmadgkjdgcaaGreat

/- RiflePlans. Written by gen_LwH.py. -/
namespace Go.Proofs.YtopdmadgkjdgcaaGreat
set_option maxRecDepth 4000
open Go Go.Eng
def tLwH_f5e1940 : OT := chainT [10] (.nil)
def tLwH_7878e7d : OT := chainT [8, 9] (tLwH_f5e1940)
def tLwH_8ca0539 : OT := chainT [7] (tLwH_7878e7d)
def tLwH_1ff97e8 : OT := chainT [6] (tLwH_7878e7d)
def tLwH_ff5e99b : OT := .alt (chainT [6] (tLwH_8ca0539)) (chainT [7] (tLwH_1ff97e8))
def tLwH_b5beb93 : OT := chainT [4, 5] (tLwH_7878e7d)
def tLwH_6a22a5e : OT := .alt (chainT [4, 5] (tLwH_8ca0539)) (chainT [7] (tLwH_b5beb93))
def tLwH_5e43488 : OT := .alt (chainT [4, 5] (tLwH_1ff97e8)) (chainT [6] (tLwH_b5beb93))
def tLwH_8ee6943 : OT := .alt (chainT [4, 5] (tLwH_ff5e99b)) (.alt (chainT [6] (tLwH_6a22a5e)) (chainT [7] (tLwH_5e43488)))
def tLwH_a93f1bc : OT := chainT [2, 3] (tLwH_b5beb93)
def tLwH_95fdc18 : OT := .alt (chainT [2, 3] (tLwH_6a22a5e)) (chainT [7] (tLwH_a93f1bc))
def tLwH_3151bdf : OT := .alt (chainT [2, 3] (tLwH_5e43488)) (chainT [6] (tLwH_a93f1bc))
def tLwH_c7dfc12 : OT := .alt (chainT [2, 3] (tLwH_8ee6943)) (.alt (chainT [6] (tLwH_95fdc18)) (chainT [7] (tLwH_3151bdf)))
def tLwH_7413eef : OT := chainT [0, 1] (tLwH_a93f1bc)
def tLwH_7659a2d : OT := .alt (chainT [0, 1] (tLwH_95fdc18)) (chainT [7] (tLwH_7413eef))
def tLwH_094281b : OT := .alt (chainT [0, 1] (tLwH_3151bdf)) (chainT [6] (tLwH_7413eef))
def tLwH_e59e8c5 : OT := .alt (chainT [0, 1] (tLwH_c7dfc12)) (.alt (chainT [6] (tLwH_7659a2d)) (chainT [7] (tLwH_094281b)))
set_option maxHeartbeats 8000000 in
set_option maxRecDepth 20000 in
theorem riflePlans_ca (w : World) (s : Sc) (tv rv vp : Value) (plan : List Nd) (h : ScR w 0 w.heap.size tv rv s) (hp : RdN w 0 w.heap.size vp plan) (hpl : plan.length ≤ maxLen) : Ca Tryz.prog 8 [.agg (scC s tv rv).toArray, vp] w fun r w' => r = .bool true ∧ Chg [] w w' := by
  simp only [maxLen] at hpl
  obtain ⟨w0size, hw0⟩ : ∃ n, n = w.heap.size := ⟨_, rfl⟩
  obtain ⟨ta, tc, rfl, _⟩ := RdS.outI h.t
  obtain ⟨ra, rc, rfl, _⟩ := RdI.outI h.r
  obtain ⟨pa, pc, rfl, _⟩ := RdN.outI hp
  refine q_of (Sat.nil w M0) Tryz.func8 rfl (by simp [Tryz.ntmps8]) ?_
  (refine q_seq (q_region ?_))
  refine ql_box rfl rfl (fun b2 => ?_)
  rw [agg_cells]
  (refine ql_pure tabOk rfl rfl (q_nil (q_seq (q_seq (q_region ?_)))); refine ql_loadABa tabOk rfl rfl rfl ?_)
  cases hg : grtB s 3 with
  | true =>
    refine ql_callv (val := .bool true) tabOk rfl rfl rfl rfl (fun w hs => ?_) ?_; exact by have := rgreat_ca w 0 w.heap.size s (.slice ta s.tests.length tc) (.slice ra s.rifles.length rc) 3 (ScR.self h hs.chg0 hs.chg.size); rw [hg] at this; exact this
    (refine ql_pure tabOk rfl rfl ?_; (iterate 4 refine ql_gno rfl rfl rfl ?_); (iterate 3 refine ql_gnone rfl rfl ?_); refine ql_gno rfl rfl rfl (ql_pure tabOk rfl rfl (ql_pure tabOk rfl rfl ?_)); (iterate 3 refine ql_gno rfl rfl rfl ?_); refine ql_pure tabOk rfl rfl (q_nil (q_cond_true rfl (q_seq (q_region ?_)))))
    refine ql_callv (val := .bool true) tabOk rfl rfl rfl rfl (fun w hs => ?_) ?_; exact rawake_ca w
    (refine ql_pure tabOk rfl rfl (q_nil (q_ret ?_)))
    refine q_fin tabOk rfl (by repeat constructor) fun w hs => ?_
    exact ⟨rfl, hs.chg0⟩
  | false =>
    obtain ⟨_, hr12, ht14⟩ := grtB_false hg
    refine ql_callv (val := .bool false) tabOk rfl rfl rfl rfl (fun w hs => ?_) ?_; exact by have := rgreat_ca w 0 w.heap.size s (.slice ta s.tests.length tc) (.slice ra s.rifles.length rc) 3 (ScR.self h hs.chg0 hs.chg.size); rw [hg] at this; exact this
    by_cases c1 : 8 < plan.length ∧ plan.length ≤ 300
    · (refine ql_pure tabOk rfl rfl (ql_gyes rfl (ql_pure tabOk rfl rfl (ql_gyes rfl (ql_pure tabOk rfl rfl (ql_gyes rfl (ql_gtrT tabOk rfl rfl rfl (by omega) (ql_gyes rfl (ql_pure tabOk rfl rfl (ql_gyes rfl (ql_pure tabOk rfl rfl (ql_gyes rfl ?_))))))))))); refine ql_pure tabOk rfl rfl (ql_gyes rfl (ql_leqT tabOk rfl rfl rfl (by omega) (ql_gyes rfl ?_))); (iterate 3 refine ql_pure tabOk rfl rfl ?_); (iterate 3 refine ql_gno rfl rfl rfl ?_); refine ql_pure tabOk rfl rfl (q_nil (q_cond_true rfl (q_seq (q_region ?_)))))
      refine ql_callv (val := .bool true) tabOk rfl rfl rfl rfl (fun w hs => ?_) ?_; exact rawake_ca w
      (refine ql_pure tabOk rfl rfl (q_nil (q_ret ?_)))
      refine q_fin tabOk rfl (by repeat constructor) fun w hs => ?_
      exact ⟨rfl, hs.chg0⟩
    · by_cases c2 : 310 < plan.length
      · (refine ql_pure tabOk rfl rfl (ql_gyes rfl (ql_pure tabOk rfl rfl (ql_gyes rfl (ql_pure tabOk rfl rfl (ql_gyes rfl (ql_gtrT tabOk rfl rfl rfl (by omega) (ql_gyes rfl (ql_pure tabOk rfl rfl (ql_gyes rfl (ql_pure tabOk rfl rfl (ql_gyes rfl ?_))))))))))); refine ql_pure tabOk rfl rfl (ql_gyes rfl (ql_leqF tabOk rfl rfl rfl (by omega) (ql_gyes rfl ?_))); (iterate 3 refine ql_pure tabOk rfl rfl ?_); refine ql_gyes rfl (ql_pure tabOk rfl rfl (ql_gyes rfl (ql_pure tabOk rfl rfl (ql_gyes rfl (ql_gtrT tabOk rfl rfl rfl (by omega) (ql_pure tabOk rfl rfl (q_nil (q_cond_true rfl (q_seq (q_region ?_)))))))))))
        refine ql_callv (val := .bool true) tabOk rfl rfl rfl rfl (fun w hs => ?_) ?_; exact rawake_ca w
        (refine ql_pure tabOk rfl rfl (q_nil (q_ret ?_)))
        refine q_fin tabOk rfl (by repeat constructor) fun w hs => ?_
        exact ⟨rfl, hs.chg0⟩
      · have hp310 : plan.length ≤ 310 := by omega
        have m1 : s.tests.length ≤ maxLen := by simp only [maxLen]; omega
        have m2 : s.rifles.length ≤ maxLen := by simp only [maxLen]; omega
        by_cases c3 : 8 < plan.length
        · (refine ql_pure tabOk rfl rfl (ql_gyes rfl (ql_pure tabOk rfl rfl (ql_gyes rfl (ql_pure tabOk rfl rfl (ql_gyes rfl (ql_gtrT tabOk rfl rfl rfl (by omega) (ql_gyes rfl (ql_pure tabOk rfl rfl (ql_gyes rfl (ql_pure tabOk rfl rfl (ql_gyes rfl ?_))))))))))); refine ql_pure tabOk rfl rfl (ql_gyes rfl (ql_leqF tabOk rfl rfl rfl (by omega) (ql_gyes rfl ?_))); (iterate 3 refine ql_pure tabOk rfl rfl ?_); refine ql_gyes rfl (ql_pure tabOk rfl rfl (ql_gyes rfl (ql_pure tabOk rfl rfl (ql_gyes rfl (ql_gtrF tabOk rfl rfl rfl (by omega) (ql_pure tabOk rfl rfl (q_nil (q_cond_false rfl (q_skip (q_seq ?_)))))))))))
          refine q_conv (H' := [.pt b2 (scC s (.slice ta s.tests.length tc) (.slice ra s.rifles.length rc)) 46]) (fun w' hs => hs.sp (by repeat constructor)) ?_
          refine q_cut (σ := Option Addr × Nat × Option Addr × Nat × Option Addr × Nat × Option Addr × Nat × Nat × Nat) (fun ⟨p1, q1, r1, z1, p3, q3, p5, q5, b5, b7⟩ => [(2, .pointer (some ⟨b2, 0, none⟩)), (1, (.slice pa plan.length pc)), (6, (.slice p3 plan.length q3)), (5, .pointer (some ⟨b5, 0, none⟩)), (7, .pointer (some ⟨b7, 0, none⟩))]) (fun ⟨p1, q1, r1, z1, p3, q3, p5, q5, b5, b7⟩ => [.ow (.slice p1 s.tests.length q1) 78 2 s.tests.length (spC s.tests), .ow (.slice r1 s.rifles.length z1) 3 1 s.rifles.length (ints s.rifles), .ow (.slice p3 plan.length q3) 91 3 plan.length (nodC plan), .ow (.slice p5 s.tests.length q5) 172 2 s.tests.length (spC s.tests), .pt b5 (scC s (.slice p1 s.tests.length q1) (.slice r1 s.rifles.length z1)) 46, .pt b7 (scC s (.slice p5 s.tests.length q5) (.slice ra s.rifles.length rc)) 51, .pt b2 (scC s (.slice ta s.tests.length tc) (.slice ra s.rifles.length rc)) 46]) ?_ ?_
          rotate_left
          · intro K2 hK2
            refine q_drawT (tLwH_e59e8c5) _ [] (Sp.refl _) (by kernel_rfl) (by kernel_rfl) ?_
            refine qt_let (σ := Option Addr × Nat × Option Addr × Nat × Option Addr × Nat × Option Addr × Nat × Nat × Nat × Unit) (.nil) (fun ⟨p1, q1, r1, z1, p3, q3, p5, q5, b5, b7, ()⟩ => [(2, .pointer (some ⟨b2, 0, none⟩)), (1, (.slice pa plan.length pc)), (6, (.slice p3 plan.length q3)), (5, .pointer (some ⟨b5, 0, none⟩)), (7, .pointer (some ⟨b7, 0, none⟩))]) (fun ⟨p1, q1, r1, z1, p3, q3, p5, q5, b5, b7, ()⟩ => [.ow (.slice p1 s.tests.length q1) 78 2 s.tests.length (spC s.tests), .ow (.slice r1 s.rifles.length z1) 3 1 s.rifles.length (ints s.rifles), .ow (.slice p3 plan.length q3) 91 3 plan.length (nodC plan), .ow (.slice p5 s.tests.length q5) 172 2 s.tests.length (spC s.tests), .pt b5 (scC s (.slice p1 s.tests.length q1) (.slice r1 s.rifles.length z1)) 46, .pt b7 (scC s (.slice p5 s.tests.length q5) (.slice ra s.rifles.length rc)) 51]) ?_ (fun hS1_3_5_6_7_8_10 => ?_)
            · rintro ⟨p1, q1, r1, z1, p3, q3, p5, q5, b5, b7, _⟩
              exact qt_nil (hK2 (p1, q1, r1, z1, p3, q3, p5, q5, b5, b7) _ _ ⟨rfl, rfl, rfl, rfl, rfl, trivial⟩ (by repeat constructor))
            refine qt_let (σ := Option Addr × Nat × Option Addr × Nat × Option Addr × Nat × Option Addr × Nat × Nat × Nat × Unit) (tLwH_f5e1940) (fun ⟨p1, q1, r1, z1, p3, q3, p5, q5, b5, b7, ()⟩ => [(2, .pointer (some ⟨b2, 0, none⟩)), (1, (.slice pa plan.length pc)), (6, (.slice p3 plan.length q3)), (38, .agg (scC s (.slice p5 s.tests.length q5) (.slice ra s.rifles.length rc)).toArray), (5, .pointer (some ⟨b5, 0, none⟩)), (7, .pointer (some ⟨b7, 0, none⟩))]) (fun ⟨p1, q1, r1, z1, p3, q3, p5, q5, b5, b7, ()⟩ => [.ow (.slice p1 s.tests.length q1) 78 2 s.tests.length (spC s.tests), .ow (.slice r1 s.rifles.length z1) 3 1 s.rifles.length (ints s.rifles), .ow (.slice p3 plan.length q3) 91 3 plan.length (nodC plan), .ow (.slice p5 s.tests.length q5) 172 2 s.tests.length (spC s.tests), .pt b5 (scC s (.slice p1 s.tests.length q1) (.slice r1 s.rifles.length z1)) 46, .pt b7 [.int .i64 0, .int .i64 0, .slice none 0 0, .slice none 0 0] 51]) ?_ (fun hS1_3_5_6_7_8 => ?_)
            · rintro ⟨p1, q1, r1, z1, p3, q3, p5, q5, b5, b7, _⟩
              refine qt_seg (by repeat (first | exact PickL.nil | (apply PickL.cons; rfl))) fun K1 hK1 => ?_
              (refine qf_setA tabOk rfl rfl rfl rfl rfl (by repeat constructor) rfl ?_; refine qf_nil ?_)
              skip
              exact hK1 _ _ (hS1_3_5_6_7_8_10 ⟨p1, q1, r1, z1, p3, q3, p5, q5, b5, b7, ()⟩ _ _ ⟨rfl, rfl, rfl, rfl, rfl, trivial⟩ (by repeat constructor))
            refine qt_let (σ := Option Addr × Nat × Option Addr × Nat × Option Addr × Nat × Option Addr × Nat × Nat × Nat × Unit) (tLwH_7878e7d) (fun ⟨p1, q1, r1, z1, p3, q3, p5, q5, b5, b7, ()⟩ => [(2, .pointer (some ⟨b2, 0, none⟩)), (1, (.slice pa plan.length pc)), (34, .agg (scC s (.slice p1 s.tests.length q1) (.slice r1 s.rifles.length z1)).toArray), (36, (.slice p3 plan.length q3)), (38, .agg (scC s (.slice p5 s.tests.length q5) (.slice ra s.rifles.length rc)).toArray), (5, .pointer (some ⟨b5, 0, none⟩)), (7, .pointer (some ⟨b7, 0, none⟩))]) (fun ⟨p1, q1, r1, z1, p3, q3, p5, q5, b5, b7, ()⟩ => [.ow (.slice p1 s.tests.length q1) 78 2 s.tests.length (spC s.tests), .ow (.slice r1 s.rifles.length z1) 3 1 s.rifles.length (ints s.rifles), .ow (.slice p3 plan.length q3) 91 3 plan.length (nodC plan), .ow (.slice p5 s.tests.length q5) 172 2 s.tests.length (spC s.tests), .pt b5 [.int .i64 0, .int .i64 0, .slice none 0 0, .slice none 0 0] 46, .pt b7 [.int .i64 0, .int .i64 0, .slice none 0 0, .slice none 0 0] 51]) ?_ (fun hS1_3_5_6_7 => ?_)
            · rintro ⟨p1, q1, r1, z1, p3, q3, p5, q5, b5, b7, _⟩
              refine qt_seg (by repeat (first | exact PickL.nil | (apply PickL.cons; rfl))) fun K1 hK1 => ?_
              (refine qf_setA tabOk rfl rfl rfl rfl rfl (by repeat constructor) rfl ?_; refine qf_pure tabOk rfl rfl rfl (qf_nil ?_))
              skip
              exact hK1 _ _ (hS1_3_5_6_7_8 ⟨p1, q1, r1, z1, p3, q3, p5, q5, b5, b7, ()⟩ _ _ ⟨rfl, rfl, rfl, rfl, rfl, rfl, trivial⟩ (by repeat constructor))
            refine qt_let (σ := Option Addr × Nat × Option Addr × Nat × Option Addr × Nat × Option Addr × Nat × Nat × Unit) (tLwH_8ca0539) (fun ⟨p1, q1, r1, z1, p3, q3, p5, q5, b5, ()⟩ => [(2, .pointer (some ⟨b2, 0, none⟩)), (1, (.slice pa plan.length pc)), (34, .agg (scC s (.slice p1 s.tests.length q1) (.slice r1 s.rifles.length z1)).toArray), (36, (.slice p3 plan.length q3)), (38, .agg (scC s (.slice p5 s.tests.length q5) (.slice ra s.rifles.length rc)).toArray), (5, .pointer (some ⟨b5, 0, none⟩))]) (fun ⟨p1, q1, r1, z1, p3, q3, p5, q5, b5, ()⟩ => [.ow (.slice p1 s.tests.length q1) 78 2 s.tests.length (spC s.tests), .ow (.slice r1 s.rifles.length z1) 3 1 s.rifles.length (ints s.rifles), .ow (.slice p3 plan.length q3) 91 3 plan.length (nodC plan), .ow (.slice p5 s.tests.length q5) 172 2 s.tests.length (spC s.tests), .pt b5 [.int .i64 0, .int .i64 0, .slice none 0 0, .slice none 0 0] 46]) ?_ (fun hS1_3_5_6 => ?_)
            · rintro ⟨p1, q1, r1, z1, p3, q3, p5, q5, b5, _⟩
              refine qt_seg (by repeat (first | exact PickL.nil | (apply PickL.cons; rfl))) fun K1 hK1 => ?_
              skip
              refine qf_alloc zero51 rfl (fun b7 => ?_)
              (refine qf_nil ?_)
              exact hK1 _ _ (hS1_3_5_6_7 ⟨p1, q1, r1, z1, p3, q3, p5, q5, b5, b7, ()⟩ _ _ ⟨rfl, rfl, rfl, rfl, rfl, rfl, rfl, trivial⟩ (by repeat constructor))
            refine qt_let (σ := Option Addr × Nat × Option Addr × Nat × Option Addr × Nat × Option Addr × Nat × Nat × Unit) (tLwH_1ff97e8) (fun ⟨p1, q1, r1, z1, p3, q3, p5, q5, b7, ()⟩ => [(2, .pointer (some ⟨b2, 0, none⟩)), (1, (.slice pa plan.length pc)), (34, .agg (scC s (.slice p1 s.tests.length q1) (.slice r1 s.rifles.length z1)).toArray), (36, (.slice p3 plan.length q3)), (38, .agg (scC s (.slice p5 s.tests.length q5) (.slice ra s.rifles.length rc)).toArray), (7, .pointer (some ⟨b7, 0, none⟩))]) (fun ⟨p1, q1, r1, z1, p3, q3, p5, q5, b7, ()⟩ => [.ow (.slice p1 s.tests.length q1) 78 2 s.tests.length (spC s.tests), .ow (.slice r1 s.rifles.length z1) 3 1 s.rifles.length (ints s.rifles), .ow (.slice p3 plan.length q3) 91 3 plan.length (nodC plan), .ow (.slice p5 s.tests.length q5) 172 2 s.tests.length (spC s.tests), .pt b7 [.int .i64 0, .int .i64 0, .slice none 0 0, .slice none 0 0] 51]) ?_ (fun hS1_3_5_7 => ?_)
            · rintro ⟨p1, q1, r1, z1, p3, q3, p5, q5, b7, _⟩
              refine qt_seg (by repeat (first | exact PickL.nil | (apply PickL.cons; rfl))) fun K1 hK1 => ?_
              skip
              refine qf_alloc zero46 rfl (fun b5 => ?_)
              (refine qf_nil ?_)
              exact hK1 _ _ (hS1_3_5_6_7 ⟨p1, q1, r1, z1, p3, q3, p5, q5, b5, b7, ()⟩ _ _ ⟨rfl, rfl, rfl, rfl, rfl, rfl, rfl, trivial⟩ (by repeat constructor))
            refine qt_let (σ := Option Addr × Nat × Option Addr × Nat × Option Addr × Nat × Nat × Nat × Unit) (tLwH_b5beb93) (fun ⟨p1, q1, r1, z1, p3, q3, b5, b7, ()⟩ => [(2, .pointer (some ⟨b2, 0, none⟩)), (1, (.slice pa plan.length pc)), (34, .agg (scC s (.slice p1 s.tests.length q1) (.slice r1 s.rifles.length z1)).toArray), (36, (.slice p3 plan.length q3)), (5, .pointer (some ⟨b5, 0, none⟩)), (7, .pointer (some ⟨b7, 0, none⟩))]) (fun ⟨p1, q1, r1, z1, p3, q3, b5, b7, ()⟩ => [.ow (.slice p1 s.tests.length q1) 78 2 s.tests.length (spC s.tests), .ow (.slice r1 s.rifles.length z1) 3 1 s.rifles.length (ints s.rifles), .ow (.slice p3 plan.length q3) 91 3 plan.length (nodC plan), .pt b5 [.int .i64 0, .int .i64 0, .slice none 0 0, .slice none 0 0] 46, .pt b7 [.int .i64 0, .int .i64 0, .slice none 0 0, .slice none 0 0] 51]) ?_ (fun hS1_3_6_7 => ?_)
            · rintro ⟨p1, q1, r1, z1, p3, q3, b5, b7, _⟩
              refine qt_seg (by repeat (first | exact PickL.nil | (apply PickL.cons; rfl))) fun K1 hK1 => ?_
              (refine qf_loadABa tabOk rfl rfl rfl ?_)
              refine qf_call (β := Value) (ψ := fun y v => v = .agg (scC s y (.slice ra s.rifles.length rc)).toArray) (L' := fun y => [.ow y 172 2 s.tests.length (spC s.tests)]) tabOk [] _ M0 rfl rfl rfl rfl (Sp.refl _) (fun _ h => h.elim) (fun w' hs => rscale_ca w' 0 w.heap.size s _ _ (h.keep hs.chg0) (by omega)) ?_
              rintro u5 _ rfl
              dsimp only [List.cons_append, List.nil_append]
              refine qf_fact (fun w hs => hs.slice2 (v := u5) (by repeat constructor)) ?_
              rintro ⟨p5, q5, rfl⟩
              (refine qf_nil ?_)
              exact hK1 _ _ (hS1_3_5_6_7 ⟨p1, q1, r1, z1, p3, q3, p5, q5, b5, b7, ()⟩ _ _ ⟨rfl, rfl, rfl, rfl, rfl, rfl, rfl, trivial⟩ (by repeat constructor))
            refine qt_let (σ := Option Addr × Nat × Option Addr × Nat × Option Addr × Nat × Option Addr × Nat × Unit) (tLwH_ff5e99b) (fun ⟨p1, q1, r1, z1, p3, q3, p5, q5, ()⟩ => [(2, .pointer (some ⟨b2, 0, none⟩)), (1, (.slice pa plan.length pc)), (34, .agg (scC s (.slice p1 s.tests.length q1) (.slice r1 s.rifles.length z1)).toArray), (36, (.slice p3 plan.length q3)), (38, .agg (scC s (.slice p5 s.tests.length q5) (.slice ra s.rifles.length rc)).toArray)]) (fun ⟨p1, q1, r1, z1, p3, q3, p5, q5, ()⟩ => [.ow (.slice p1 s.tests.length q1) 78 2 s.tests.length (spC s.tests), .ow (.slice r1 s.rifles.length z1) 3 1 s.rifles.length (ints s.rifles), .ow (.slice p3 plan.length q3) 91 3 plan.length (nodC plan), .ow (.slice p5 s.tests.length q5) 172 2 s.tests.length (spC s.tests)]) ?_ (fun hS1_3_5 => ?_)
            · rintro ⟨p1, q1, r1, z1, p3, q3, p5, q5, _⟩
              refine qt_alt ?_ ?_
              · skip
                refine qt_seg (by repeat (first | exact PickL.nil | (apply PickL.cons; rfl))) fun K1 hK1 => ?_
                skip
                refine qf_alloc zero46 rfl (fun b5 => ?_)
                (refine qf_nil ?_)
                exact hK1 _ _ (hS1_3_5_6 ⟨p1, q1, r1, z1, p3, q3, p5, q5, b5, ()⟩ _ _ ⟨rfl, rfl, rfl, rfl, rfl, rfl, trivial⟩ (by repeat constructor))
              · skip
                refine qt_seg (by repeat (first | exact PickL.nil | (apply PickL.cons; rfl))) fun K1 hK1 => ?_
                skip
                refine qf_alloc zero51 rfl (fun b7 => ?_)
                (refine qf_nil ?_)
                exact hK1 _ _ (hS1_3_5_7 ⟨p1, q1, r1, z1, p3, q3, p5, q5, b7, ()⟩ _ _ ⟨rfl, rfl, rfl, rfl, rfl, rfl, trivial⟩ (by repeat constructor))
            refine qt_let (σ := Option Addr × Nat × Option Addr × Nat × Option Addr × Nat × Nat × Unit) (tLwH_6a22a5e) (fun ⟨p1, q1, r1, z1, p3, q3, b5, ()⟩ => [(2, .pointer (some ⟨b2, 0, none⟩)), (1, (.slice pa plan.length pc)), (34, .agg (scC s (.slice p1 s.tests.length q1) (.slice r1 s.rifles.length z1)).toArray), (36, (.slice p3 plan.length q3)), (5, .pointer (some ⟨b5, 0, none⟩))]) (fun ⟨p1, q1, r1, z1, p3, q3, b5, ()⟩ => [.ow (.slice p1 s.tests.length q1) 78 2 s.tests.length (spC s.tests), .ow (.slice r1 s.rifles.length z1) 3 1 s.rifles.length (ints s.rifles), .ow (.slice p3 plan.length q3) 91 3 plan.length (nodC plan), .pt b5 [.int .i64 0, .int .i64 0, .slice none 0 0, .slice none 0 0] 46]) ?_ (fun hS1_3_6 => ?_)
            · rintro ⟨p1, q1, r1, z1, p3, q3, b5, _⟩
              refine qt_alt ?_ ?_
              · skip
                refine qt_seg (by repeat (first | exact PickL.nil | (apply PickL.cons; rfl))) fun K1 hK1 => ?_
                (refine qf_loadABa tabOk rfl rfl rfl ?_)
                refine qf_call (β := Value) (ψ := fun y v => v = .agg (scC s y (.slice ra s.rifles.length rc)).toArray) (L' := fun y => [.ow y 172 2 s.tests.length (spC s.tests)]) tabOk [] _ M0 rfl rfl rfl rfl (Sp.refl _) (fun _ h => h.elim) (fun w' hs => rscale_ca w' 0 w.heap.size s _ _ (h.keep hs.chg0) (by omega)) ?_
                rintro u5 _ rfl
                dsimp only [List.cons_append, List.nil_append]
                refine qf_fact (fun w hs => hs.slice2 (v := u5) (by repeat constructor)) ?_
                rintro ⟨p5, q5, rfl⟩
                (refine qf_nil ?_)
                exact hK1 _ _ (hS1_3_5_6 ⟨p1, q1, r1, z1, p3, q3, p5, q5, b5, ()⟩ _ _ ⟨rfl, rfl, rfl, rfl, rfl, rfl, trivial⟩ (by repeat constructor))
              · skip
                refine qt_seg (by repeat (first | exact PickL.nil | (apply PickL.cons; rfl))) fun K1 hK1 => ?_
                skip
                refine qf_alloc zero51 rfl (fun b7 => ?_)
                (refine qf_nil ?_)
                exact hK1 _ _ (hS1_3_6_7 ⟨p1, q1, r1, z1, p3, q3, b5, b7, ()⟩ _ _ ⟨rfl, rfl, rfl, rfl, rfl, rfl, trivial⟩ (by repeat constructor))
            refine qt_let (σ := Option Addr × Nat × Option Addr × Nat × Option Addr × Nat × Nat × Unit) (tLwH_5e43488) (fun ⟨p1, q1, r1, z1, p3, q3, b7, ()⟩ => [(2, .pointer (some ⟨b2, 0, none⟩)), (1, (.slice pa plan.length pc)), (34, .agg (scC s (.slice p1 s.tests.length q1) (.slice r1 s.rifles.length z1)).toArray), (36, (.slice p3 plan.length q3)), (7, .pointer (some ⟨b7, 0, none⟩))]) (fun ⟨p1, q1, r1, z1, p3, q3, b7, ()⟩ => [.ow (.slice p1 s.tests.length q1) 78 2 s.tests.length (spC s.tests), .ow (.slice r1 s.rifles.length z1) 3 1 s.rifles.length (ints s.rifles), .ow (.slice p3 plan.length q3) 91 3 plan.length (nodC plan), .pt b7 [.int .i64 0, .int .i64 0, .slice none 0 0, .slice none 0 0] 51]) ?_ (fun hS1_3_7 => ?_)
            · rintro ⟨p1, q1, r1, z1, p3, q3, b7, _⟩
              refine qt_alt ?_ ?_
              · skip
                refine qt_seg (by repeat (first | exact PickL.nil | (apply PickL.cons; rfl))) fun K1 hK1 => ?_
                (refine qf_loadABa tabOk rfl rfl rfl ?_)
                refine qf_call (β := Value) (ψ := fun y v => v = .agg (scC s y (.slice ra s.rifles.length rc)).toArray) (L' := fun y => [.ow y 172 2 s.tests.length (spC s.tests)]) tabOk [] _ M0 rfl rfl rfl rfl (Sp.refl _) (fun _ h => h.elim) (fun w' hs => rscale_ca w' 0 w.heap.size s _ _ (h.keep hs.chg0) (by omega)) ?_
                rintro u5 _ rfl
                dsimp only [List.cons_append, List.nil_append]
                refine qf_fact (fun w hs => hs.slice2 (v := u5) (by repeat constructor)) ?_
                rintro ⟨p5, q5, rfl⟩
                (refine qf_nil ?_)
                exact hK1 _ _ (hS1_3_5_7 ⟨p1, q1, r1, z1, p3, q3, p5, q5, b7, ()⟩ _ _ ⟨rfl, rfl, rfl, rfl, rfl, rfl, trivial⟩ (by repeat constructor))
              · skip
                refine qt_seg (by repeat (first | exact PickL.nil | (apply PickL.cons; rfl))) fun K1 hK1 => ?_
                skip
                refine qf_alloc zero46 rfl (fun b5 => ?_)
                (refine qf_nil ?_)
                exact hK1 _ _ (hS1_3_6_7 ⟨p1, q1, r1, z1, p3, q3, b5, b7, ()⟩ _ _ ⟨rfl, rfl, rfl, rfl, rfl, rfl, trivial⟩ (by repeat constructor))
            refine qt_let (σ := Option Addr × Nat × Option Addr × Nat × Nat × Nat × Unit) (tLwH_a93f1bc) (fun ⟨p1, q1, r1, z1, b5, b7, ()⟩ => [(2, .pointer (some ⟨b2, 0, none⟩)), (1, (.slice pa plan.length pc)), (34, .agg (scC s (.slice p1 s.tests.length q1) (.slice r1 s.rifles.length z1)).toArray), (5, .pointer (some ⟨b5, 0, none⟩)), (7, .pointer (some ⟨b7, 0, none⟩))]) (fun ⟨p1, q1, r1, z1, b5, b7, ()⟩ => [.ow (.slice p1 s.tests.length q1) 78 2 s.tests.length (spC s.tests), .ow (.slice r1 s.rifles.length z1) 3 1 s.rifles.length (ints s.rifles), .pt b5 [.int .i64 0, .int .i64 0, .slice none 0 0, .slice none 0 0] 46, .pt b7 [.int .i64 0, .int .i64 0, .slice none 0 0, .slice none 0 0] 51]) ?_ (fun hS1_6_7 => ?_)
            · rintro ⟨p1, q1, r1, z1, b5, b7, _⟩
              refine qt_seg (by repeat (first | exact PickL.nil | (apply PickL.cons; rfl))) fun K1 hK1 => ?_
              (refine qf_pure tabOk rfl rfl rfl ?_)
              refine qf_call (β := Value) (ψ := fun y v => v = y) (L' := fun y => [.ow y 91 3 plan.length (nodC plan)]) tabOk [] _ M0 rfl rfl rfl rfl (Sp.refl _) (fun _ h => h.elim) (fun w' hs => cloneNd_ca w' 0 w.heap.size _ plan (RdE.keep hp hs.chg0) (by omega)) ?_
              rintro _ u3 rfl
              dsimp only [List.cons_append, List.nil_append]
              refine qf_fact (fun w hs => hs.slice2 (v := u3) (by repeat constructor)) ?_
              rintro ⟨p3, q3, rfl⟩
              (refine qf_nil ?_)
              exact hK1 _ _ (hS1_3_6_7 ⟨p1, q1, r1, z1, p3, q3, b5, b7, ()⟩ _ _ ⟨rfl, rfl, rfl, rfl, rfl, rfl, trivial⟩ (by repeat constructor))
            refine qt_let (σ := Option Addr × Nat × Option Addr × Nat × Option Addr × Nat × Unit) (tLwH_8ee6943) (fun ⟨p1, q1, r1, z1, p3, q3, ()⟩ => [(2, .pointer (some ⟨b2, 0, none⟩)), (1, (.slice pa plan.length pc)), (34, .agg (scC s (.slice p1 s.tests.length q1) (.slice r1 s.rifles.length z1)).toArray), (36, (.slice p3 plan.length q3))]) (fun ⟨p1, q1, r1, z1, p3, q3, ()⟩ => [.ow (.slice p1 s.tests.length q1) 78 2 s.tests.length (spC s.tests), .ow (.slice r1 s.rifles.length z1) 3 1 s.rifles.length (ints s.rifles), .ow (.slice p3 plan.length q3) 91 3 plan.length (nodC plan)]) ?_ (fun hS1_3 => ?_)
            · rintro ⟨p1, q1, r1, z1, p3, q3, _⟩
              refine qt_alt ?_ (qt_alt ?_ ?_)
              · skip
                refine qt_seg (by repeat (first | exact PickL.nil | (apply PickL.cons; rfl))) fun K1 hK1 => ?_
                (refine qf_loadABa tabOk rfl rfl rfl ?_)
                refine qf_call (β := Value) (ψ := fun y v => v = .agg (scC s y (.slice ra s.rifles.length rc)).toArray) (L' := fun y => [.ow y 172 2 s.tests.length (spC s.tests)]) tabOk [] _ M0 rfl rfl rfl rfl (Sp.refl _) (fun _ h => h.elim) (fun w' hs => rscale_ca w' 0 w.heap.size s _ _ (h.keep hs.chg0) (by omega)) ?_
                rintro u5 _ rfl
                dsimp only [List.cons_append, List.nil_append]
                refine qf_fact (fun w hs => hs.slice2 (v := u5) (by repeat constructor)) ?_
                rintro ⟨p5, q5, rfl⟩
                (refine qf_nil ?_)
                exact hK1 _ _ (hS1_3_5 ⟨p1, q1, r1, z1, p3, q3, p5, q5, ()⟩ _ _ ⟨rfl, rfl, rfl, rfl, rfl, trivial⟩ (by repeat constructor))
              · skip
                refine qt_seg (by repeat (first | exact PickL.nil | (apply PickL.cons; rfl))) fun K1 hK1 => ?_
                skip
                refine qf_alloc zero46 rfl (fun b5 => ?_)
                (refine qf_nil ?_)
                exact hK1 _ _ (hS1_3_6 ⟨p1, q1, r1, z1, p3, q3, b5, ()⟩ _ _ ⟨rfl, rfl, rfl, rfl, rfl, trivial⟩ (by repeat constructor))
              · skip
                refine qt_seg (by repeat (first | exact PickL.nil | (apply PickL.cons; rfl))) fun K1 hK1 => ?_
                skip
                refine qf_alloc zero51 rfl (fun b7 => ?_)
                (refine qf_nil ?_)
                exact hK1 _ _ (hS1_3_7 ⟨p1, q1, r1, z1, p3, q3, b7, ()⟩ _ _ ⟨rfl, rfl, rfl, rfl, rfl, trivial⟩ (by repeat constructor))
            refine qt_let (σ := Option Addr × Nat × Option Addr × Nat × Nat × Unit) (tLwH_95fdc18) (fun ⟨p1, q1, r1, z1, b5, ()⟩ => [(2, .pointer (some ⟨b2, 0, none⟩)), (1, (.slice pa plan.length pc)), (34, .agg (scC s (.slice p1 s.tests.length q1) (.slice r1 s.rifles.length z1)).toArray), (5, .pointer (some ⟨b5, 0, none⟩))]) (fun ⟨p1, q1, r1, z1, b5, ()⟩ => [.ow (.slice p1 s.tests.length q1) 78 2 s.tests.length (spC s.tests), .ow (.slice r1 s.rifles.length z1) 3 1 s.rifles.length (ints s.rifles), .pt b5 [.int .i64 0, .int .i64 0, .slice none 0 0, .slice none 0 0] 46]) ?_ (fun hS1_6 => ?_)
            · rintro ⟨p1, q1, r1, z1, b5, _⟩
              refine qt_alt ?_ ?_
              · skip
                refine qt_seg (by repeat (first | exact PickL.nil | (apply PickL.cons; rfl))) fun K1 hK1 => ?_
                (refine qf_pure tabOk rfl rfl rfl ?_)
                refine qf_call (β := Value) (ψ := fun y v => v = y) (L' := fun y => [.ow y 91 3 plan.length (nodC plan)]) tabOk [] _ M0 rfl rfl rfl rfl (Sp.refl _) (fun _ h => h.elim) (fun w' hs => cloneNd_ca w' 0 w.heap.size _ plan (RdE.keep hp hs.chg0) (by omega)) ?_
                rintro _ u3 rfl
                dsimp only [List.cons_append, List.nil_append]
                refine qf_fact (fun w hs => hs.slice2 (v := u3) (by repeat constructor)) ?_
                rintro ⟨p3, q3, rfl⟩
                (refine qf_nil ?_)
                exact hK1 _ _ (hS1_3_6 ⟨p1, q1, r1, z1, p3, q3, b5, ()⟩ _ _ ⟨rfl, rfl, rfl, rfl, rfl, trivial⟩ (by repeat constructor))
              · skip
                refine qt_seg (by repeat (first | exact PickL.nil | (apply PickL.cons; rfl))) fun K1 hK1 => ?_
                skip
                refine qf_alloc zero51 rfl (fun b7 => ?_)
                (refine qf_nil ?_)
                exact hK1 _ _ (hS1_6_7 ⟨p1, q1, r1, z1, b5, b7, ()⟩ _ _ ⟨rfl, rfl, rfl, rfl, rfl, trivial⟩ (by repeat constructor))
            refine qt_let (σ := Option Addr × Nat × Option Addr × Nat × Nat × Unit) (tLwH_3151bdf) (fun ⟨p1, q1, r1, z1, b7, ()⟩ => [(2, .pointer (some ⟨b2, 0, none⟩)), (1, (.slice pa plan.length pc)), (34, .agg (scC s (.slice p1 s.tests.length q1) (.slice r1 s.rifles.length z1)).toArray), (7, .pointer (some ⟨b7, 0, none⟩))]) (fun ⟨p1, q1, r1, z1, b7, ()⟩ => [.ow (.slice p1 s.tests.length q1) 78 2 s.tests.length (spC s.tests), .ow (.slice r1 s.rifles.length z1) 3 1 s.rifles.length (ints s.rifles), .pt b7 [.int .i64 0, .int .i64 0, .slice none 0 0, .slice none 0 0] 51]) ?_ (fun hS1_7 => ?_)
            · rintro ⟨p1, q1, r1, z1, b7, _⟩
              refine qt_alt ?_ ?_
              · skip
                refine qt_seg (by repeat (first | exact PickL.nil | (apply PickL.cons; rfl))) fun K1 hK1 => ?_
                (refine qf_pure tabOk rfl rfl rfl ?_)
                refine qf_call (β := Value) (ψ := fun y v => v = y) (L' := fun y => [.ow y 91 3 plan.length (nodC plan)]) tabOk [] _ M0 rfl rfl rfl rfl (Sp.refl _) (fun _ h => h.elim) (fun w' hs => cloneNd_ca w' 0 w.heap.size _ plan (RdE.keep hp hs.chg0) (by omega)) ?_
                rintro _ u3 rfl
                dsimp only [List.cons_append, List.nil_append]
                refine qf_fact (fun w hs => hs.slice2 (v := u3) (by repeat constructor)) ?_
                rintro ⟨p3, q3, rfl⟩
                (refine qf_nil ?_)
                exact hK1 _ _ (hS1_3_7 ⟨p1, q1, r1, z1, p3, q3, b7, ()⟩ _ _ ⟨rfl, rfl, rfl, rfl, rfl, trivial⟩ (by repeat constructor))
              · skip
                refine qt_seg (by repeat (first | exact PickL.nil | (apply PickL.cons; rfl))) fun K1 hK1 => ?_
                skip
                refine qf_alloc zero46 rfl (fun b5 => ?_)
                (refine qf_nil ?_)
                exact hK1 _ _ (hS1_6_7 ⟨p1, q1, r1, z1, b5, b7, ()⟩ _ _ ⟨rfl, rfl, rfl, rfl, rfl, trivial⟩ (by repeat constructor))
            refine qt_let (σ := Nat × Nat × Unit) (tLwH_7413eef) (fun ⟨b5, b7, ()⟩ => [(2, .pointer (some ⟨b2, 0, none⟩)), (1, (.slice pa plan.length pc)), (5, .pointer (some ⟨b5, 0, none⟩)), (7, .pointer (some ⟨b7, 0, none⟩))]) (fun ⟨b5, b7, ()⟩ => [.pt b5 [.int .i64 0, .int .i64 0, .slice none 0 0, .slice none 0 0] 46, .pt b7 [.int .i64 0, .int .i64 0, .slice none 0 0, .slice none 0 0] 51]) ?_ (fun hS6_7 => ?_)
            · rintro ⟨b5, b7, _⟩
              refine qt_seg (by repeat (first | exact PickL.nil | (apply PickL.cons; rfl))) fun K1 hK1 => ?_
              (refine qf_loadABa tabOk rfl rfl rfl ?_)
              refine qf_call (β := Value × Value) (ψ := fun y v => v = .agg (scC s y.1 y.2).toArray) (L' := fun y => [.ow y.1 78 2 s.tests.length (spC s.tests), .ow y.2 3 1 s.rifles.length (ints s.rifles)]) tabOk [] _ M0 rfl rfl rfl rfl (Sp.refl _) (fun _ h => h.elim) (fun w' hs => clone7_ca w' 0 w.heap.size s _ _ (h.keep hs.chg0) (by omega) (by omega)) ?_
              rintro ⟨u1, v1⟩ _ rfl
              dsimp only [List.cons_append, List.nil_append]
              refine qf_fact (fun w hs => hs.slice2 (v := u1) (by repeat constructor)) ?_
              rintro ⟨p1, q1, rfl⟩
              refine qf_fact (fun w hs => hs.slice2 (v := v1) (by repeat constructor)) ?_
              rintro ⟨r1, z1, rfl⟩
              (refine qf_nil ?_)
              exact hK1 _ _ (hS1_6_7 ⟨p1, q1, r1, z1, b5, b7, ()⟩ _ _ ⟨rfl, rfl, rfl, rfl, rfl, trivial⟩ (by repeat constructor))
            refine qt_let (σ := Option Addr × Nat × Option Addr × Nat × Unit) (tLwH_c7dfc12) (fun ⟨p1, q1, r1, z1, ()⟩ => [(2, .pointer (some ⟨b2, 0, none⟩)), (1, (.slice pa plan.length pc)), (34, .agg (scC s (.slice p1 s.tests.length q1) (.slice r1 s.rifles.length z1)).toArray)]) (fun ⟨p1, q1, r1, z1, ()⟩ => [.ow (.slice p1 s.tests.length q1) 78 2 s.tests.length (spC s.tests), .ow (.slice r1 s.rifles.length z1) 3 1 s.rifles.length (ints s.rifles)]) ?_ (fun hS1 => ?_)
            · rintro ⟨p1, q1, r1, z1, _⟩
              refine qt_alt ?_ (qt_alt ?_ ?_)
              · skip
                refine qt_seg (by repeat (first | exact PickL.nil | (apply PickL.cons; rfl))) fun K1 hK1 => ?_
                (refine qf_pure tabOk rfl rfl rfl ?_)
                refine qf_call (β := Value) (ψ := fun y v => v = y) (L' := fun y => [.ow y 91 3 plan.length (nodC plan)]) tabOk [] _ M0 rfl rfl rfl rfl (Sp.refl _) (fun _ h => h.elim) (fun w' hs => cloneNd_ca w' 0 w.heap.size _ plan (RdE.keep hp hs.chg0) (by omega)) ?_
                rintro _ u3 rfl
                dsimp only [List.cons_append, List.nil_append]
                refine qf_fact (fun w hs => hs.slice2 (v := u3) (by repeat constructor)) ?_
                rintro ⟨p3, q3, rfl⟩
                (refine qf_nil ?_)
                exact hK1 _ _ (hS1_3 ⟨p1, q1, r1, z1, p3, q3, ()⟩ _ _ ⟨rfl, rfl, rfl, rfl, trivial⟩ (by repeat constructor))
              · skip
                refine qt_seg (by repeat (first | exact PickL.nil | (apply PickL.cons; rfl))) fun K1 hK1 => ?_
                skip
                refine qf_alloc zero46 rfl (fun b5 => ?_)
                (refine qf_nil ?_)
                exact hK1 _ _ (hS1_6 ⟨p1, q1, r1, z1, b5, ()⟩ _ _ ⟨rfl, rfl, rfl, rfl, trivial⟩ (by repeat constructor))
              · skip
                refine qt_seg (by repeat (first | exact PickL.nil | (apply PickL.cons; rfl))) fun K1 hK1 => ?_
                skip
                refine qf_alloc zero51 rfl (fun b7 => ?_)
                (refine qf_nil ?_)
                exact hK1 _ _ (hS1_7 ⟨p1, q1, r1, z1, b7, ()⟩ _ _ ⟨rfl, rfl, rfl, rfl, trivial⟩ (by repeat constructor))
            refine qt_let (σ := Nat × Unit) (tLwH_7659a2d) (fun ⟨b5, ()⟩ => [(2, .pointer (some ⟨b2, 0, none⟩)), (1, (.slice pa plan.length pc)), (5, .pointer (some ⟨b5, 0, none⟩))]) (fun ⟨b5, ()⟩ => [.pt b5 [.int .i64 0, .int .i64 0, .slice none 0 0, .slice none 0 0] 46]) ?_ (fun hS6 => ?_)
            · rintro ⟨b5, _⟩
              refine qt_alt ?_ ?_
              · skip
                refine qt_seg (by repeat (first | exact PickL.nil | (apply PickL.cons; rfl))) fun K1 hK1 => ?_
                (refine qf_loadABa tabOk rfl rfl rfl ?_)
                refine qf_call (β := Value × Value) (ψ := fun y v => v = .agg (scC s y.1 y.2).toArray) (L' := fun y => [.ow y.1 78 2 s.tests.length (spC s.tests), .ow y.2 3 1 s.rifles.length (ints s.rifles)]) tabOk [] _ M0 rfl rfl rfl rfl (Sp.refl _) (fun _ h => h.elim) (fun w' hs => clone7_ca w' 0 w.heap.size s _ _ (h.keep hs.chg0) (by omega) (by omega)) ?_
                rintro ⟨u1, v1⟩ _ rfl
                dsimp only [List.cons_append, List.nil_append]
                refine qf_fact (fun w hs => hs.slice2 (v := u1) (by repeat constructor)) ?_
                rintro ⟨p1, q1, rfl⟩
                refine qf_fact (fun w hs => hs.slice2 (v := v1) (by repeat constructor)) ?_
                rintro ⟨r1, z1, rfl⟩
                (refine qf_nil ?_)
                exact hK1 _ _ (hS1_6 ⟨p1, q1, r1, z1, b5, ()⟩ _ _ ⟨rfl, rfl, rfl, rfl, trivial⟩ (by repeat constructor))
              · skip
                refine qt_seg (by repeat (first | exact PickL.nil | (apply PickL.cons; rfl))) fun K1 hK1 => ?_
                skip
                refine qf_alloc zero51 rfl (fun b7 => ?_)
                (refine qf_nil ?_)
                exact hK1 _ _ (hS6_7 ⟨b5, b7, ()⟩ _ _ ⟨rfl, rfl, rfl, rfl, trivial⟩ (by repeat constructor))
            refine qt_let (σ := Nat × Unit) (tLwH_094281b) (fun ⟨b7, ()⟩ => [(2, .pointer (some ⟨b2, 0, none⟩)), (1, (.slice pa plan.length pc)), (7, .pointer (some ⟨b7, 0, none⟩))]) (fun ⟨b7, ()⟩ => [.pt b7 [.int .i64 0, .int .i64 0, .slice none 0 0, .slice none 0 0] 51]) ?_ (fun hS7 => ?_)
            · rintro ⟨b7, _⟩
              refine qt_alt ?_ ?_
              · skip
                refine qt_seg (by repeat (first | exact PickL.nil | (apply PickL.cons; rfl))) fun K1 hK1 => ?_
                (refine qf_loadABa tabOk rfl rfl rfl ?_)
                refine qf_call (β := Value × Value) (ψ := fun y v => v = .agg (scC s y.1 y.2).toArray) (L' := fun y => [.ow y.1 78 2 s.tests.length (spC s.tests), .ow y.2 3 1 s.rifles.length (ints s.rifles)]) tabOk [] _ M0 rfl rfl rfl rfl (Sp.refl _) (fun _ h => h.elim) (fun w' hs => clone7_ca w' 0 w.heap.size s _ _ (h.keep hs.chg0) (by omega) (by omega)) ?_
                rintro ⟨u1, v1⟩ _ rfl
                dsimp only [List.cons_append, List.nil_append]
                refine qf_fact (fun w hs => hs.slice2 (v := u1) (by repeat constructor)) ?_
                rintro ⟨p1, q1, rfl⟩
                refine qf_fact (fun w hs => hs.slice2 (v := v1) (by repeat constructor)) ?_
                rintro ⟨r1, z1, rfl⟩
                (refine qf_nil ?_)
                exact hK1 _ _ (hS1_7 ⟨p1, q1, r1, z1, b7, ()⟩ _ _ ⟨rfl, rfl, rfl, rfl, trivial⟩ (by repeat constructor))
              · skip
                refine qt_seg (by repeat (first | exact PickL.nil | (apply PickL.cons; rfl))) fun K1 hK1 => ?_
                skip
                refine qf_alloc zero46 rfl (fun b5 => ?_)
                (refine qf_nil ?_)
                exact hK1 _ _ (hS6_7 ⟨b5, b7, ()⟩ _ _ ⟨rfl, rfl, rfl, rfl, trivial⟩ (by repeat constructor))
            refine qt_alt ?_ (qt_alt ?_ ?_)
            · skip
              refine qt_seg (by repeat (first | exact PickL.nil | (apply PickL.cons; rfl))) fun K1 hK1 => ?_
              (refine qf_loadABa tabOk rfl rfl rfl ?_)
              refine qf_call (β := Value × Value) (ψ := fun y v => v = .agg (scC s y.1 y.2).toArray) (L' := fun y => [.ow y.1 78 2 s.tests.length (spC s.tests), .ow y.2 3 1 s.rifles.length (ints s.rifles)]) tabOk [] _ M0 rfl rfl rfl rfl (Sp.refl _) (fun _ h => h.elim) (fun w' hs => clone7_ca w' 0 w.heap.size s _ _ (h.keep hs.chg0) (by omega) (by omega)) ?_
              rintro ⟨u1, v1⟩ _ rfl
              dsimp only [List.cons_append, List.nil_append]
              refine qf_fact (fun w hs => hs.slice2 (v := u1) (by repeat constructor)) ?_
              rintro ⟨p1, q1, rfl⟩
              refine qf_fact (fun w hs => hs.slice2 (v := v1) (by repeat constructor)) ?_
              rintro ⟨r1, z1, rfl⟩
              (refine qf_nil ?_)
              exact hK1 _ _ (hS1 ⟨p1, q1, r1, z1, ()⟩ _ _ ⟨rfl, rfl, rfl, trivial⟩ (by repeat constructor))
            · skip
              refine qt_seg (by repeat (first | exact PickL.nil | (apply PickL.cons; rfl))) fun K1 hK1 => ?_
              skip
              refine qf_alloc zero46 rfl (fun b5 => ?_)
              (refine qf_nil ?_)
              exact hK1 _ _ (hS6 ⟨b5, ()⟩ _ _ ⟨rfl, rfl, rfl, trivial⟩ (by repeat constructor))
            · skip
              refine qt_seg (by repeat (first | exact PickL.nil | (apply PickL.cons; rfl))) fun K1 hK1 => ?_
              skip
              refine qf_alloc zero51 rfl (fun b7 => ?_)
              (refine qf_nil ?_)
              exact hK1 _ _ (hS7 ⟨b7, ()⟩ _ _ ⟨rfl, rfl, rfl, trivial⟩ (by repeat constructor))
          rintro ⟨p1, q1, r1, z1, p3, q3, p5, q5, b5, b7⟩
          dsimp only
          (refine q_seq (q_region ?_); refine ql_loadABa tabOk rfl rfl rfl ?_)
          refine ql_callv (val := .tuple #[.int .i64 (fewU s), .int .i64 (chkO s)]) tabOk rfl rfl rfl rfl (fun w hs => ?_) ?_; exact rfewest_u w 0 w.heap.size s _ _ ⟨own_rdS (hs.mem (c := .ow (.slice p1 s.tests.length q1) 78 2 s.tests.length (spC s.tests)) (by repeat constructor)) rfl, own_rdI (hs.mem (c := .ow (.slice r1 s.rifles.length z1) 3 1 s.rifles.length (ints s.rifles)) (by repeat constructor)) rfl⟩ m1 m2
          (refine ql_pure tabOk rfl rfl (ql_ext tabOk rfl rfl rfl (ql_ext tabOk rfl rfl rfl (ql_pure tabOk rfl rfl (ql_pure tabOk rfl rfl (q_nil (q_seq (q_region ?_))))))); refine ql_loadABa tabOk rfl rfl rfl ?_)
          refine ql_callv (val := .tuple #[.int .i64 (fewU s), .int .i64 (chkO s)]) tabOk rfl rfl rfl rfl (fun w hs => ?_) ?_; exact rrfewest_u w 0 w.heap.size s _ _ (scr_two (h.keep hs.chg0) (own_rdS (hs.mem (c := .ow (.slice p5 s.tests.length q5) 172 2 s.tests.length (spC s.tests)) (by repeat constructor)) rfl) hs.chg.size) m1 m2
          (refine ql_pure tabOk rfl rfl (ql_ext tabOk rfl rfl rfl (ql_ext tabOk rfl rfl rfl (ql_pure tabOk rfl rfl (ql_pure tabOk rfl rfl (q_nil (q_seq (q_seq (q_region (ql_pure tabOk rfl rfl (ql_pure tabOk rfl rfl (ql_neqF tabOk rfl rfl rfl (by omega) ?_))))))))))); refine ql_pure tabOk rfl rfl (ql_gyes rfl (ql_pure tabOk rfl rfl (ql_gyes rfl (ql_pure tabOk rfl rfl (ql_gyes rfl (ql_neqF tabOk rfl rfl rfl (by omega) (ql_pure tabOk rfl rfl (q_nil (q_cond_false rfl (q_skip (q_seq ?_))))))))))); refine q_region ?_; refine ql_loadABa tabOk rfl rfl rfl ?_)
          by_cases h0 : chkO s = 0
          · have hsok := chkO_zero.1 h0
            have hpl2 := plan_len hsok.ok.rn8 hsok.le
            have hdu := depU_plan h0
            have hfu : fewU s = depV s (firstK s) := by unfold fewU; rw [if_pos h0]
            obtain ⟨PL, hPL⟩ : ∃ P, P = planV s := ⟨_, rfl⟩
            rw [h0, hfu]
            refine ql_call (β := Value) (ψ := fun y v => v = .tuple #[y, .int .i64 0]) (L' := fun y => [.ow y 91 3 PL.length (nodC PL)]) tabOk [] _ M0 rfl rfl rfl rfl (Sp.refl _) (fun _ h => h.elim) (fun w' hs => by rw [hPL]; exact rplan_ok w' 0 w'.heap.size s _ _ ⟨own_rdS (hs.mem (c := .ow (.slice p1 s.tests.length q1) 78 2 s.tests.length (spC s.tests)) (by repeat constructor)) rfl, own_rdI (hs.mem (c := .ow (.slice r1 s.rifles.length z1) 3 1 s.rifles.length (ints s.rifles)) (by repeat constructor)) rfl⟩ hsok) ?_
            rintro vl _ rfl
            dsimp only [List.cons_append, List.nil_append]
            rw [← hPL] at hpl2 hdu
            (refine ql_pure tabOk rfl rfl (ql_ext tabOk rfl rfl rfl (ql_ext tabOk rfl rfl rfl (ql_pure tabOk rfl rfl (ql_pure tabOk rfl rfl (q_nil (q_seq (q_seq (q_region (ql_pure tabOk rfl rfl (ql_pure tabOk rfl rfl (ql_neqF tabOk rfl rfl rfl (by omega) ?_))))))))))); refine ql_pure tabOk rfl rfl (ql_gyes rfl (ql_pure tabOk rfl rfl (ql_gyes rfl (ql_neqF tabOk rfl rfl rfl (by omega) (ql_gyes rfl (ql_pure tabOk rfl rfl ?_)))))); (iterate 3 refine ql_gno rfl rfl rfl ?_); refine ql_gyes rfl (ql_pure tabOk rfl rfl (ql_pure tabOk rfl rfl (q_nil (q_cond_false rfl (q_skip (q_seq (q_seq (q_region (ql_pure tabOk rfl rfl (ql_eqlT tabOk rfl rfl rfl (by omega) (q_nil ?_))))))))))); refine q_cond_true rfl (q_seq ?_))
            refine q_draw _ [] (Sp.refl _) (by kernel_rfl) (by kernel_rfl) ?_
            (refine qf_loadABa tabOk rfl rfl rfl ?_; refine qf_pure tabOk rfl rfl rfl ?_)
            refine qf_call (β := Value) (ψ := fun y v => v = y) (L' := fun y => [.ow y 213 3 PL.length (nodC PL)]) tabOk [] _ M0 rfl rfl rfl rfl (Sp.refl _) (fun _ h => h.elim) (fun w' hs => rnodes_ca w' 0 w'.heap.size _ PL (own_rdN (hs.mem (c := .ow vl 91 3 PL.length (nodC PL)) (by repeat constructor)) rfl) (by omega)) ?_
            rintro _ vm rfl
            dsimp only [List.cons_append, List.nil_append]
            skip
            refine qf_callv (val := .tuple #[.int .i64 (depU s PL).1, .int .i64 (depU s PL).2]) tabOk rfl rfl rfl rfl (fun w hs => ?_) ?_; exact rrdepth_u w 0 w.heap.size s _ _ vm PL (scr_two (h.keep hs.chg0) (own_rdS (hs.mem (c := .ow (.slice p5 s.tests.length q5) 172 2 s.tests.length (spC s.tests)) (by repeat constructor)) rfl) hs.chg.size) m1 m2 (own_rdN (hs.mem (c := .ow vm 213 3 PL.length (nodC PL)) (by repeat constructor)) rfl) (by omega)
            rw [hdu]
            (refine qf_pure tabOk rfl rfl rfl (qf_ext tabOk rfl rfl rfl (qf_ext tabOk rfl rfl rfl (qf_pure tabOk rfl rfl rfl (qf_pure tabOk rfl rfl rfl (qf_nil (q_seq (q_region (ql_pure tabOk rfl rfl (ql_neqF tabOk rfl rfl rfl (by omega) (ql_pure tabOk rfl rfl (ql_gyes rfl ?_))))))))))); refine ql_pure tabOk rfl rfl (ql_gyes rfl (ql_pure tabOk rfl rfl (ql_gyes rfl (ql_neqF tabOk rfl rfl rfl (by omega) (ql_pure tabOk rfl rfl (q_nil (q_cond_false rfl (q_skip (q_seq (q_region ?_)))))))))); refine ql_loadABa tabOk rfl rfl rfl ?_; refine ql_pure tabOk rfl rfl ?_)
            refine ql_callv (val := .tuple #[.int .i64 (depU s plan).1, .int .i64 (depU s plan).2]) tabOk rfl rfl rfl rfl (fun w hs => ?_) ?_; exact rdepth_u w 0 w.heap.size s _ _ (.slice p3 plan.length q3) plan ⟨own_rdS (hs.mem (c := .ow (.slice p1 s.tests.length q1) 78 2 s.tests.length (spC s.tests)) (by repeat constructor)) rfl, own_rdI (hs.mem (c := .ow (.slice r1 s.rifles.length z1) 3 1 s.rifles.length (ints s.rifles)) (by repeat constructor)) rfl⟩ m1 m2 (own_rdN (hs.mem (c := .ow (.slice p3 plan.length q3) 91 3 plan.length (nodC plan)) (by repeat constructor)) rfl) (by omega)
            (refine ql_pure tabOk rfl rfl (ql_ext tabOk rfl rfl rfl (ql_ext tabOk rfl rfl rfl (ql_pure tabOk rfl rfl (ql_pure tabOk rfl rfl (q_nil (q_seq ?_)))))))
            refine q_draw _ [] (Sp.refl _) (by kernel_rfl) (by kernel_rfl) ?_
            (refine qf_loadABa tabOk rfl rfl rfl ?_; refine qf_pure tabOk rfl rfl rfl ?_)
            refine qf_call (β := Value) (ψ := fun y v => v = y) (L' := fun y => [.ow y 213 3 plan.length (nodC plan)]) tabOk [] _ M0 rfl rfl rfl rfl (Sp.refl _) (fun _ h => h.elim) (fun w' hs => rnodes_ca w' 0 w.heap.size _ plan (RdE.keep hp hs.chg0) (by omega)) ?_
            rintro _ vn rfl
            dsimp only [List.cons_append, List.nil_append]
            skip
            refine qf_callv (val := .tuple #[.int .i64 (depU s plan).1, .int .i64 (depU s plan).2]) tabOk rfl rfl rfl rfl (fun w hs => ?_) ?_; exact rrdepth_u w 0 w.heap.size s _ _ vn plan (scr_two (h.keep hs.chg0) (own_rdS (hs.mem (c := .ow (.slice p5 s.tests.length q5) 172 2 s.tests.length (spC s.tests)) (by repeat constructor)) rfl) hs.chg.size) m1 m2 (own_rdN (hs.mem (c := .ow vn 213 3 plan.length (nodC plan)) (by repeat constructor)) rfl) (by omega)
            (refine qf_pure tabOk rfl rfl rfl (qf_ext tabOk rfl rfl rfl (qf_ext tabOk rfl rfl rfl (qf_pure tabOk rfl rfl rfl (qf_pure tabOk rfl rfl rfl (qf_nil (q_seq (q_region (ql_pure tabOk rfl rfl (ql_pure tabOk rfl rfl (ql_eqlT tabOk rfl rfl rfl (by omega) (ql_pure tabOk rfl rfl ?_))))))))))); refine ql_gyes rfl (ql_pure tabOk rfl rfl (ql_gyes rfl (ql_pure tabOk rfl rfl (ql_gyes rfl (ql_eqlT tabOk rfl rfl rfl (by omega) (ql_pure tabOk rfl rfl (ql_pure tabOk rfl rfl (ql_gyes rfl ?_)))))))); refine ql_loadABa tabOk rfl rfl rfl ?_; refine ql_gyes rfl ?_; refine ql_loadABa tabOk rfl rfl rfl ?_; refine ql_gyes rfl ?_)
            refine ql_callv (val := .bool true) tabOk rfl rfl rfl rfl (fun w hs => ?_) ?_; exact rsame_ca w 0 w.heap.size 0 w.heap.size s _ _ (.slice ta s.tests.length tc) (.slice ra s.rifles.length rc) ⟨own_rdS (hs.mem (c := .ow (.slice p1 s.tests.length q1) 78 2 s.tests.length (spC s.tests)) (by repeat constructor)) rfl, own_rdI (hs.mem (c := .ow (.slice r1 s.rifles.length z1) 3 1 s.rifles.length (ints s.rifles)) (by repeat constructor)) rfl⟩ (ScR.self h hs.chg0 hs.chg.size) (by omega) (by omega)
            (refine ql_pure tabOk rfl rfl (ql_pure tabOk rfl rfl (ql_gyes rfl (ql_pure tabOk rfl rfl (ql_gyes rfl (ql_pure tabOk rfl rfl (ql_gyes rfl ?_)))))))
            refine ql_callv (val := .bool true) tabOk rfl rfl rfl rfl (fun w hs => ?_) ?_; exact eqN_ca w 0 w.heap.size _ _ _ (.slice pa plan.length pc) plan (own_rdN (hs.mem (c := .ow (.slice p3 plan.length q3) 91 3 plan.length (nodC plan)) (by repeat constructor)) rfl) (RdE.keep hp hs.chg0) (by omega)
            (refine ql_pure tabOk rfl rfl (ql_pure tabOk rfl rfl (ql_gyes rfl ?_)))
            refine ql_callv (val := .bool true) tabOk rfl rfl rfl rfl (fun w hs => ?_) ?_; exact rawake_ca w
            (refine ql_pure tabOk rfl rfl (ql_pure tabOk rfl rfl (q_nil (q_ret ?_))))
            refine q_fin tabOk rfl (by repeat constructor) fun w hs => ?_
            exact ⟨rfl, hs.chg0⟩
          · refine ql_callv (val := .tuple #[.slice none 0 0, .int .i64 (chkO s)]) tabOk rfl rfl rfl rfl (fun w hs => ?_) ?_; exact rplan_no w 0 w.heap.size s _ _ ⟨own_rdS (hs.mem (c := .ow (.slice p1 s.tests.length q1) 78 2 s.tests.length (spC s.tests)) (by repeat constructor)) rfl, own_rdI (hs.mem (c := .ow (.slice r1 s.rifles.length z1) 3 1 s.rifles.length (ints s.rifles)) (by repeat constructor)) rfl⟩ m1 m2 h0
            (refine ql_pure tabOk rfl rfl (ql_ext tabOk rfl rfl rfl (ql_ext tabOk rfl rfl rfl (ql_pure tabOk rfl rfl (ql_pure tabOk rfl rfl (q_nil (q_seq (q_seq (q_region (ql_pure tabOk rfl rfl (ql_pure tabOk rfl rfl (ql_neqF tabOk rfl rfl rfl (by omega) ?_))))))))))); refine ql_pure tabOk rfl rfl (ql_gyes rfl (ql_pure tabOk rfl rfl (ql_gyes rfl (ql_neqT tabOk rfl rfl rfl (by omega) (ql_gyes rfl (ql_pure tabOk rfl rfl (ql_gyes rfl (ql_pure tabOk rfl rfl (ql_gyes rfl (ql_pure tabOk rfl rfl (ql_gyes rfl ?_))))))))))); refine ql_gtrF tabOk rfl rfl rfl (by omega) (ql_gyes rfl (ql_pure tabOk rfl rfl (ql_pure tabOk rfl rfl (q_nil (q_cond_false rfl (q_skip (q_seq (q_seq (q_region (ql_pure tabOk rfl rfl (ql_eqlF tabOk rfl rfl rfl (by omega) ?_))))))))))); refine q_nil (q_cond_false rfl (q_skip (q_seq (q_region ?_)))); refine ql_loadABa tabOk rfl rfl rfl ?_; refine ql_pure tabOk rfl rfl ?_)
            refine ql_callv (val := .tuple #[.int .i64 (depU s plan).1, .int .i64 (depU s plan).2]) tabOk rfl rfl rfl rfl (fun w hs => ?_) ?_; exact rdepth_u w 0 w.heap.size s _ _ (.slice p3 plan.length q3) plan ⟨own_rdS (hs.mem (c := .ow (.slice p1 s.tests.length q1) 78 2 s.tests.length (spC s.tests)) (by repeat constructor)) rfl, own_rdI (hs.mem (c := .ow (.slice r1 s.rifles.length z1) 3 1 s.rifles.length (ints s.rifles)) (by repeat constructor)) rfl⟩ m1 m2 (own_rdN (hs.mem (c := .ow (.slice p3 plan.length q3) 91 3 plan.length (nodC plan)) (by repeat constructor)) rfl) (by omega)
            (refine ql_pure tabOk rfl rfl (ql_ext tabOk rfl rfl rfl (ql_ext tabOk rfl rfl rfl (ql_pure tabOk rfl rfl (ql_pure tabOk rfl rfl (q_nil (q_seq ?_)))))))
            refine q_draw _ [] (Sp.refl _) (by kernel_rfl) (by kernel_rfl) ?_
            (refine qf_loadABa tabOk rfl rfl rfl ?_; refine qf_pure tabOk rfl rfl rfl ?_)
            refine qf_call (β := Value) (ψ := fun y v => v = y) (L' := fun y => [.ow y 213 3 plan.length (nodC plan)]) tabOk [] _ M0 rfl rfl rfl rfl (Sp.refl _) (fun _ h => h.elim) (fun w' hs => rnodes_ca w' 0 w.heap.size _ plan (RdE.keep hp hs.chg0) (by omega)) ?_
            rintro _ vn rfl
            dsimp only [List.cons_append, List.nil_append]
            skip
            refine qf_callv (val := .tuple #[.int .i64 (depU s plan).1, .int .i64 (depU s plan).2]) tabOk rfl rfl rfl rfl (fun w hs => ?_) ?_; exact rrdepth_u w 0 w.heap.size s _ _ vn plan (scr_two (h.keep hs.chg0) (own_rdS (hs.mem (c := .ow (.slice p5 s.tests.length q5) 172 2 s.tests.length (spC s.tests)) (by repeat constructor)) rfl) hs.chg.size) m1 m2 (own_rdN (hs.mem (c := .ow vn 213 3 plan.length (nodC plan)) (by repeat constructor)) rfl) (by omega)
            (refine qf_pure tabOk rfl rfl rfl (qf_ext tabOk rfl rfl rfl (qf_ext tabOk rfl rfl rfl (qf_pure tabOk rfl rfl rfl (qf_pure tabOk rfl rfl rfl (qf_nil (q_seq (q_region (ql_pure tabOk rfl rfl (ql_pure tabOk rfl rfl (ql_eqlT tabOk rfl rfl rfl (by omega) (ql_pure tabOk rfl rfl ?_))))))))))); refine ql_gyes rfl (ql_pure tabOk rfl rfl (ql_gyes rfl (ql_pure tabOk rfl rfl (ql_gyes rfl (ql_eqlT tabOk rfl rfl rfl (by omega) (ql_pure tabOk rfl rfl (ql_pure tabOk rfl rfl (ql_gyes rfl ?_)))))))); refine ql_loadABa tabOk rfl rfl rfl ?_; refine ql_gyes rfl ?_; refine ql_loadABa tabOk rfl rfl rfl ?_; refine ql_gyes rfl ?_)
            refine ql_callv (val := .bool true) tabOk rfl rfl rfl rfl (fun w hs => ?_) ?_; exact rsame_ca w 0 w.heap.size 0 w.heap.size s _ _ (.slice ta s.tests.length tc) (.slice ra s.rifles.length rc) ⟨own_rdS (hs.mem (c := .ow (.slice p1 s.tests.length q1) 78 2 s.tests.length (spC s.tests)) (by repeat constructor)) rfl, own_rdI (hs.mem (c := .ow (.slice r1 s.rifles.length z1) 3 1 s.rifles.length (ints s.rifles)) (by repeat constructor)) rfl⟩ (ScR.self h hs.chg0 hs.chg.size) (by omega) (by omega)
            (refine ql_pure tabOk rfl rfl (ql_pure tabOk rfl rfl (ql_gyes rfl (ql_pure tabOk rfl rfl (ql_gyes rfl (ql_pure tabOk rfl rfl (ql_gyes rfl ?_)))))))
            refine ql_callv (val := .bool true) tabOk rfl rfl rfl rfl (fun w hs => ?_) ?_; exact eqN_ca w 0 w.heap.size _ _ _ (.slice pa plan.length pc) plan (own_rdN (hs.mem (c := .ow (.slice p3 plan.length q3) 91 3 plan.length (nodC plan)) (by repeat constructor)) rfl) (RdE.keep hp hs.chg0) (by omega)
            (refine ql_pure tabOk rfl rfl (ql_pure tabOk rfl rfl (ql_gyes rfl ?_)))
            refine ql_callv (val := .bool true) tabOk rfl rfl rfl rfl (fun w hs => ?_) ?_; exact rawake_ca w
            (refine ql_pure tabOk rfl rfl (ql_pure tabOk rfl rfl (q_nil (q_ret ?_))))
            refine q_fin tabOk rfl (by repeat constructor) fun w hs => ?_
            exact ⟨rfl, hs.chg0⟩
        · (refine ql_pure tabOk rfl rfl (ql_gyes rfl (ql_pure tabOk rfl rfl (ql_gyes rfl (ql_pure tabOk rfl rfl (ql_gyes rfl (ql_gtrF tabOk rfl rfl rfl (by omega) (ql_gyes rfl (ql_pure tabOk rfl rfl ?_)))))))); (iterate 3 refine ql_gno rfl rfl rfl ?_); refine ql_gyes rfl ?_; (iterate 3 refine ql_pure tabOk rfl rfl ?_); refine ql_gyes rfl (ql_pure tabOk rfl rfl (ql_gyes rfl (ql_pure tabOk rfl rfl (ql_gyes rfl (ql_gtrF tabOk rfl rfl rfl (by omega) (ql_pure tabOk rfl rfl (q_nil (q_cond_false rfl (q_skip (q_seq ?_)))))))))))
          refine q_conv (H' := [.pt b2 (scC s (.slice ta s.tests.length tc) (.slice ra s.rifles.length rc)) 46]) (fun w' hs => hs.sp (by repeat constructor)) ?_
          refine q_cut (σ := Option Addr × Nat × Option Addr × Nat × Option Addr × Nat × Option Addr × Nat × Nat × Nat) (fun ⟨p1, q1, r1, z1, p3, q3, p5, q5, b5, b7⟩ => [(2, .pointer (some ⟨b2, 0, none⟩)), (1, (.slice pa plan.length pc)), (6, (.slice p3 plan.length q3)), (5, .pointer (some ⟨b5, 0, none⟩)), (7, .pointer (some ⟨b7, 0, none⟩))]) (fun ⟨p1, q1, r1, z1, p3, q3, p5, q5, b5, b7⟩ => [.ow (.slice p1 s.tests.length q1) 78 2 s.tests.length (spC s.tests), .ow (.slice r1 s.rifles.length z1) 3 1 s.rifles.length (ints s.rifles), .ow (.slice p3 plan.length q3) 91 3 plan.length (nodC plan), .ow (.slice p5 s.tests.length q5) 172 2 s.tests.length (spC s.tests), .pt b5 (scC s (.slice p1 s.tests.length q1) (.slice r1 s.rifles.length z1)) 46, .pt b7 (scC s (.slice p5 s.tests.length q5) (.slice ra s.rifles.length rc)) 51, .pt b2 (scC s (.slice ta s.tests.length tc) (.slice ra s.rifles.length rc)) 46]) ?_ ?_
          rotate_left
          · intro K2 hK2
            refine q_drawT (tLwH_e59e8c5) _ [] (Sp.refl _) (by kernel_rfl) (by kernel_rfl) ?_
            refine qt_let (σ := Option Addr × Nat × Option Addr × Nat × Option Addr × Nat × Option Addr × Nat × Nat × Nat × Unit) (.nil) (fun ⟨p1, q1, r1, z1, p3, q3, p5, q5, b5, b7, ()⟩ => [(2, .pointer (some ⟨b2, 0, none⟩)), (1, (.slice pa plan.length pc)), (6, (.slice p3 plan.length q3)), (5, .pointer (some ⟨b5, 0, none⟩)), (7, .pointer (some ⟨b7, 0, none⟩))]) (fun ⟨p1, q1, r1, z1, p3, q3, p5, q5, b5, b7, ()⟩ => [.ow (.slice p1 s.tests.length q1) 78 2 s.tests.length (spC s.tests), .ow (.slice r1 s.rifles.length z1) 3 1 s.rifles.length (ints s.rifles), .ow (.slice p3 plan.length q3) 91 3 plan.length (nodC plan), .ow (.slice p5 s.tests.length q5) 172 2 s.tests.length (spC s.tests), .pt b5 (scC s (.slice p1 s.tests.length q1) (.slice r1 s.rifles.length z1)) 46, .pt b7 (scC s (.slice p5 s.tests.length q5) (.slice ra s.rifles.length rc)) 51]) ?_ (fun hS1_3_5_6_7_8_10 => ?_)
            · rintro ⟨p1, q1, r1, z1, p3, q3, p5, q5, b5, b7, _⟩
              exact qt_nil (hK2 (p1, q1, r1, z1, p3, q3, p5, q5, b5, b7) _ _ ⟨rfl, rfl, rfl, rfl, rfl, trivial⟩ (by repeat constructor))
            refine qt_let (σ := Option Addr × Nat × Option Addr × Nat × Option Addr × Nat × Option Addr × Nat × Nat × Nat × Unit) (tLwH_f5e1940) (fun ⟨p1, q1, r1, z1, p3, q3, p5, q5, b5, b7, ()⟩ => [(2, .pointer (some ⟨b2, 0, none⟩)), (1, (.slice pa plan.length pc)), (6, (.slice p3 plan.length q3)), (38, .agg (scC s (.slice p5 s.tests.length q5) (.slice ra s.rifles.length rc)).toArray), (5, .pointer (some ⟨b5, 0, none⟩)), (7, .pointer (some ⟨b7, 0, none⟩))]) (fun ⟨p1, q1, r1, z1, p3, q3, p5, q5, b5, b7, ()⟩ => [.ow (.slice p1 s.tests.length q1) 78 2 s.tests.length (spC s.tests), .ow (.slice r1 s.rifles.length z1) 3 1 s.rifles.length (ints s.rifles), .ow (.slice p3 plan.length q3) 91 3 plan.length (nodC plan), .ow (.slice p5 s.tests.length q5) 172 2 s.tests.length (spC s.tests), .pt b5 (scC s (.slice p1 s.tests.length q1) (.slice r1 s.rifles.length z1)) 46, .pt b7 [.int .i64 0, .int .i64 0, .slice none 0 0, .slice none 0 0] 51]) ?_ (fun hS1_3_5_6_7_8 => ?_)
            · rintro ⟨p1, q1, r1, z1, p3, q3, p5, q5, b5, b7, _⟩
              refine qt_seg (by repeat (first | exact PickL.nil | (apply PickL.cons; rfl))) fun K1 hK1 => ?_
              (refine qf_setA tabOk rfl rfl rfl rfl rfl (by repeat constructor) rfl ?_; refine qf_nil ?_)
              skip
              exact hK1 _ _ (hS1_3_5_6_7_8_10 ⟨p1, q1, r1, z1, p3, q3, p5, q5, b5, b7, ()⟩ _ _ ⟨rfl, rfl, rfl, rfl, rfl, trivial⟩ (by repeat constructor))
            refine qt_let (σ := Option Addr × Nat × Option Addr × Nat × Option Addr × Nat × Option Addr × Nat × Nat × Nat × Unit) (tLwH_7878e7d) (fun ⟨p1, q1, r1, z1, p3, q3, p5, q5, b5, b7, ()⟩ => [(2, .pointer (some ⟨b2, 0, none⟩)), (1, (.slice pa plan.length pc)), (34, .agg (scC s (.slice p1 s.tests.length q1) (.slice r1 s.rifles.length z1)).toArray), (36, (.slice p3 plan.length q3)), (38, .agg (scC s (.slice p5 s.tests.length q5) (.slice ra s.rifles.length rc)).toArray), (5, .pointer (some ⟨b5, 0, none⟩)), (7, .pointer (some ⟨b7, 0, none⟩))]) (fun ⟨p1, q1, r1, z1, p3, q3, p5, q5, b5, b7, ()⟩ => [.ow (.slice p1 s.tests.length q1) 78 2 s.tests.length (spC s.tests), .ow (.slice r1 s.rifles.length z1) 3 1 s.rifles.length (ints s.rifles), .ow (.slice p3 plan.length q3) 91 3 plan.length (nodC plan), .ow (.slice p5 s.tests.length q5) 172 2 s.tests.length (spC s.tests), .pt b5 [.int .i64 0, .int .i64 0, .slice none 0 0, .slice none 0 0] 46, .pt b7 [.int .i64 0, .int .i64 0, .slice none 0 0, .slice none 0 0] 51]) ?_ (fun hS1_3_5_6_7 => ?_)
            · rintro ⟨p1, q1, r1, z1, p3, q3, p5, q5, b5, b7, _⟩
              refine qt_seg (by repeat (first | exact PickL.nil | (apply PickL.cons; rfl))) fun K1 hK1 => ?_
              (refine qf_setA tabOk rfl rfl rfl rfl rfl (by repeat constructor) rfl ?_; refine qf_pure tabOk rfl rfl rfl (qf_nil ?_))
              skip
              exact hK1 _ _ (hS1_3_5_6_7_8 ⟨p1, q1, r1, z1, p3, q3, p5, q5, b5, b7, ()⟩ _ _ ⟨rfl, rfl, rfl, rfl, rfl, rfl, trivial⟩ (by repeat constructor))
            refine qt_let (σ := Option Addr × Nat × Option Addr × Nat × Option Addr × Nat × Option Addr × Nat × Nat × Unit) (tLwH_8ca0539) (fun ⟨p1, q1, r1, z1, p3, q3, p5, q5, b5, ()⟩ => [(2, .pointer (some ⟨b2, 0, none⟩)), (1, (.slice pa plan.length pc)), (34, .agg (scC s (.slice p1 s.tests.length q1) (.slice r1 s.rifles.length z1)).toArray), (36, (.slice p3 plan.length q3)), (38, .agg (scC s (.slice p5 s.tests.length q5) (.slice ra s.rifles.length rc)).toArray), (5, .pointer (some ⟨b5, 0, none⟩))]) (fun ⟨p1, q1, r1, z1, p3, q3, p5, q5, b5, ()⟩ => [.ow (.slice p1 s.tests.length q1) 78 2 s.tests.length (spC s.tests), .ow (.slice r1 s.rifles.length z1) 3 1 s.rifles.length (ints s.rifles), .ow (.slice p3 plan.length q3) 91 3 plan.length (nodC plan), .ow (.slice p5 s.tests.length q5) 172 2 s.tests.length (spC s.tests), .pt b5 [.int .i64 0, .int .i64 0, .slice none 0 0, .slice none 0 0] 46]) ?_ (fun hS1_3_5_6 => ?_)
            · rintro ⟨p1, q1, r1, z1, p3, q3, p5, q5, b5, _⟩
              refine qt_seg (by repeat (first | exact PickL.nil | (apply PickL.cons; rfl))) fun K1 hK1 => ?_
              skip
              refine qf_alloc zero51 rfl (fun b7 => ?_)
              (refine qf_nil ?_)
              exact hK1 _ _ (hS1_3_5_6_7 ⟨p1, q1, r1, z1, p3, q3, p5, q5, b5, b7, ()⟩ _ _ ⟨rfl, rfl, rfl, rfl, rfl, rfl, rfl, trivial⟩ (by repeat constructor))
            refine qt_let (σ := Option Addr × Nat × Option Addr × Nat × Option Addr × Nat × Option Addr × Nat × Nat × Unit) (tLwH_1ff97e8) (fun ⟨p1, q1, r1, z1, p3, q3, p5, q5, b7, ()⟩ => [(2, .pointer (some ⟨b2, 0, none⟩)), (1, (.slice pa plan.length pc)), (34, .agg (scC s (.slice p1 s.tests.length q1) (.slice r1 s.rifles.length z1)).toArray), (36, (.slice p3 plan.length q3)), (38, .agg (scC s (.slice p5 s.tests.length q5) (.slice ra s.rifles.length rc)).toArray), (7, .pointer (some ⟨b7, 0, none⟩))]) (fun ⟨p1, q1, r1, z1, p3, q3, p5, q5, b7, ()⟩ => [.ow (.slice p1 s.tests.length q1) 78 2 s.tests.length (spC s.tests), .ow (.slice r1 s.rifles.length z1) 3 1 s.rifles.length (ints s.rifles), .ow (.slice p3 plan.length q3) 91 3 plan.length (nodC plan), .ow (.slice p5 s.tests.length q5) 172 2 s.tests.length (spC s.tests), .pt b7 [.int .i64 0, .int .i64 0, .slice none 0 0, .slice none 0 0] 51]) ?_ (fun hS1_3_5_7 => ?_)
            · rintro ⟨p1, q1, r1, z1, p3, q3, p5, q5, b7, _⟩
              refine qt_seg (by repeat (first | exact PickL.nil | (apply PickL.cons; rfl))) fun K1 hK1 => ?_
              skip
              refine qf_alloc zero46 rfl (fun b5 => ?_)
              (refine qf_nil ?_)
              exact hK1 _ _ (hS1_3_5_6_7 ⟨p1, q1, r1, z1, p3, q3, p5, q5, b5, b7, ()⟩ _ _ ⟨rfl, rfl, rfl, rfl, rfl, rfl, rfl, trivial⟩ (by repeat constructor))
            refine qt_let (σ := Option Addr × Nat × Option Addr × Nat × Option Addr × Nat × Nat × Nat × Unit) (tLwH_b5beb93) (fun ⟨p1, q1, r1, z1, p3, q3, b5, b7, ()⟩ => [(2, .pointer (some ⟨b2, 0, none⟩)), (1, (.slice pa plan.length pc)), (34, .agg (scC s (.slice p1 s.tests.length q1) (.slice r1 s.rifles.length z1)).toArray), (36, (.slice p3 plan.length q3)), (5, .pointer (some ⟨b5, 0, none⟩)), (7, .pointer (some ⟨b7, 0, none⟩))]) (fun ⟨p1, q1, r1, z1, p3, q3, b5, b7, ()⟩ => [.ow (.slice p1 s.tests.length q1) 78 2 s.tests.length (spC s.tests), .ow (.slice r1 s.rifles.length z1) 3 1 s.rifles.length (ints s.rifles), .ow (.slice p3 plan.length q3) 91 3 plan.length (nodC plan), .pt b5 [.int .i64 0, .int .i64 0, .slice none 0 0, .slice none 0 0] 46, .pt b7 [.int .i64 0, .int .i64 0, .slice none 0 0, .slice none 0 0] 51]) ?_ (fun hS1_3_6_7 => ?_)
            · rintro ⟨p1, q1, r1, z1, p3, q3, b5, b7, _⟩
              refine qt_seg (by repeat (first | exact PickL.nil | (apply PickL.cons; rfl))) fun K1 hK1 => ?_
              (refine qf_loadABa tabOk rfl rfl rfl ?_)
              refine qf_call (β := Value) (ψ := fun y v => v = .agg (scC s y (.slice ra s.rifles.length rc)).toArray) (L' := fun y => [.ow y 172 2 s.tests.length (spC s.tests)]) tabOk [] _ M0 rfl rfl rfl rfl (Sp.refl _) (fun _ h => h.elim) (fun w' hs => rscale_ca w' 0 w.heap.size s _ _ (h.keep hs.chg0) (by omega)) ?_
              rintro u5 _ rfl
              dsimp only [List.cons_append, List.nil_append]
              refine qf_fact (fun w hs => hs.slice2 (v := u5) (by repeat constructor)) ?_
              rintro ⟨p5, q5, rfl⟩
              (refine qf_nil ?_)
              exact hK1 _ _ (hS1_3_5_6_7 ⟨p1, q1, r1, z1, p3, q3, p5, q5, b5, b7, ()⟩ _ _ ⟨rfl, rfl, rfl, rfl, rfl, rfl, rfl, trivial⟩ (by repeat constructor))
            refine qt_let (σ := Option Addr × Nat × Option Addr × Nat × Option Addr × Nat × Option Addr × Nat × Unit) (tLwH_ff5e99b) (fun ⟨p1, q1, r1, z1, p3, q3, p5, q5, ()⟩ => [(2, .pointer (some ⟨b2, 0, none⟩)), (1, (.slice pa plan.length pc)), (34, .agg (scC s (.slice p1 s.tests.length q1) (.slice r1 s.rifles.length z1)).toArray), (36, (.slice p3 plan.length q3)), (38, .agg (scC s (.slice p5 s.tests.length q5) (.slice ra s.rifles.length rc)).toArray)]) (fun ⟨p1, q1, r1, z1, p3, q3, p5, q5, ()⟩ => [.ow (.slice p1 s.tests.length q1) 78 2 s.tests.length (spC s.tests), .ow (.slice r1 s.rifles.length z1) 3 1 s.rifles.length (ints s.rifles), .ow (.slice p3 plan.length q3) 91 3 plan.length (nodC plan), .ow (.slice p5 s.tests.length q5) 172 2 s.tests.length (spC s.tests)]) ?_ (fun hS1_3_5 => ?_)
            · rintro ⟨p1, q1, r1, z1, p3, q3, p5, q5, _⟩
              refine qt_alt ?_ ?_
              · skip
                refine qt_seg (by repeat (first | exact PickL.nil | (apply PickL.cons; rfl))) fun K1 hK1 => ?_
                skip
                refine qf_alloc zero46 rfl (fun b5 => ?_)
                (refine qf_nil ?_)
                exact hK1 _ _ (hS1_3_5_6 ⟨p1, q1, r1, z1, p3, q3, p5, q5, b5, ()⟩ _ _ ⟨rfl, rfl, rfl, rfl, rfl, rfl, trivial⟩ (by repeat constructor))
              · skip
                refine qt_seg (by repeat (first | exact PickL.nil | (apply PickL.cons; rfl))) fun K1 hK1 => ?_
                skip
                refine qf_alloc zero51 rfl (fun b7 => ?_)
                (refine qf_nil ?_)
                exact hK1 _ _ (hS1_3_5_7 ⟨p1, q1, r1, z1, p3, q3, p5, q5, b7, ()⟩ _ _ ⟨rfl, rfl, rfl, rfl, rfl, rfl, trivial⟩ (by repeat constructor))
            refine qt_let (σ := Option Addr × Nat × Option Addr × Nat × Option Addr × Nat × Nat × Unit) (tLwH_6a22a5e) (fun ⟨p1, q1, r1, z1, p3, q3, b5, ()⟩ => [(2, .pointer (some ⟨b2, 0, none⟩)), (1, (.slice pa plan.length pc)), (34, .agg (scC s (.slice p1 s.tests.length q1) (.slice r1 s.rifles.length z1)).toArray), (36, (.slice p3 plan.length q3)), (5, .pointer (some ⟨b5, 0, none⟩))]) (fun ⟨p1, q1, r1, z1, p3, q3, b5, ()⟩ => [.ow (.slice p1 s.tests.length q1) 78 2 s.tests.length (spC s.tests), .ow (.slice r1 s.rifles.length z1) 3 1 s.rifles.length (ints s.rifles), .ow (.slice p3 plan.length q3) 91 3 plan.length (nodC plan), .pt b5 [.int .i64 0, .int .i64 0, .slice none 0 0, .slice none 0 0] 46]) ?_ (fun hS1_3_6 => ?_)
            · rintro ⟨p1, q1, r1, z1, p3, q3, b5, _⟩
              refine qt_alt ?_ ?_
              · skip
                refine qt_seg (by repeat (first | exact PickL.nil | (apply PickL.cons; rfl))) fun K1 hK1 => ?_
                (refine qf_loadABa tabOk rfl rfl rfl ?_)
                refine qf_call (β := Value) (ψ := fun y v => v = .agg (scC s y (.slice ra s.rifles.length rc)).toArray) (L' := fun y => [.ow y 172 2 s.tests.length (spC s.tests)]) tabOk [] _ M0 rfl rfl rfl rfl (Sp.refl _) (fun _ h => h.elim) (fun w' hs => rscale_ca w' 0 w.heap.size s _ _ (h.keep hs.chg0) (by omega)) ?_
                rintro u5 _ rfl
                dsimp only [List.cons_append, List.nil_append]
                refine qf_fact (fun w hs => hs.slice2 (v := u5) (by repeat constructor)) ?_
                rintro ⟨p5, q5, rfl⟩
                (refine qf_nil ?_)
                exact hK1 _ _ (hS1_3_5_6 ⟨p1, q1, r1, z1, p3, q3, p5, q5, b5, ()⟩ _ _ ⟨rfl, rfl, rfl, rfl, rfl, rfl, trivial⟩ (by repeat constructor))
              · skip
                refine qt_seg (by repeat (first | exact PickL.nil | (apply PickL.cons; rfl))) fun K1 hK1 => ?_
                skip
                refine qf_alloc zero51 rfl (fun b7 => ?_)
                (refine qf_nil ?_)
                exact hK1 _ _ (hS1_3_6_7 ⟨p1, q1, r1, z1, p3, q3, b5, b7, ()⟩ _ _ ⟨rfl, rfl, rfl, rfl, rfl, rfl, trivial⟩ (by repeat constructor))
            refine qt_let (σ := Option Addr × Nat × Option Addr × Nat × Option Addr × Nat × Nat × Unit) (tLwH_5e43488) (fun ⟨p1, q1, r1, z1, p3, q3, b7, ()⟩ => [(2, .pointer (some ⟨b2, 0, none⟩)), (1, (.slice pa plan.length pc)), (34, .agg (scC s (.slice p1 s.tests.length q1) (.slice r1 s.rifles.length z1)).toArray), (36, (.slice p3 plan.length q3)), (7, .pointer (some ⟨b7, 0, none⟩))]) (fun ⟨p1, q1, r1, z1, p3, q3, b7, ()⟩ => [.ow (.slice p1 s.tests.length q1) 78 2 s.tests.length (spC s.tests), .ow (.slice r1 s.rifles.length z1) 3 1 s.rifles.length (ints s.rifles), .ow (.slice p3 plan.length q3) 91 3 plan.length (nodC plan), .pt b7 [.int .i64 0, .int .i64 0, .slice none 0 0, .slice none 0 0] 51]) ?_ (fun hS1_3_7 => ?_)
            · rintro ⟨p1, q1, r1, z1, p3, q3, b7, _⟩
              refine qt_alt ?_ ?_
              · skip
                refine qt_seg (by repeat (first | exact PickL.nil | (apply PickL.cons; rfl))) fun K1 hK1 => ?_
                (refine qf_loadABa tabOk rfl rfl rfl ?_)
                refine qf_call (β := Value) (ψ := fun y v => v = .agg (scC s y (.slice ra s.rifles.length rc)).toArray) (L' := fun y => [.ow y 172 2 s.tests.length (spC s.tests)]) tabOk [] _ M0 rfl rfl rfl rfl (Sp.refl _) (fun _ h => h.elim) (fun w' hs => rscale_ca w' 0 w.heap.size s _ _ (h.keep hs.chg0) (by omega)) ?_
                rintro u5 _ rfl
                dsimp only [List.cons_append, List.nil_append]
                refine qf_fact (fun w hs => hs.slice2 (v := u5) (by repeat constructor)) ?_
                rintro ⟨p5, q5, rfl⟩
                (refine qf_nil ?_)
                exact hK1 _ _ (hS1_3_5_7 ⟨p1, q1, r1, z1, p3, q3, p5, q5, b7, ()⟩ _ _ ⟨rfl, rfl, rfl, rfl, rfl, rfl, trivial⟩ (by repeat constructor))
              · skip
                refine qt_seg (by repeat (first | exact PickL.nil | (apply PickL.cons; rfl))) fun K1 hK1 => ?_
                skip
                refine qf_alloc zero46 rfl (fun b5 => ?_)
                (refine qf_nil ?_)
                exact hK1 _ _ (hS1_3_6_7 ⟨p1, q1, r1, z1, p3, q3, b5, b7, ()⟩ _ _ ⟨rfl, rfl, rfl, rfl, rfl, rfl, trivial⟩ (by repeat constructor))
            refine qt_let (σ := Option Addr × Nat × Option Addr × Nat × Nat × Nat × Unit) (tLwH_a93f1bc) (fun ⟨p1, q1, r1, z1, b5, b7, ()⟩ => [(2, .pointer (some ⟨b2, 0, none⟩)), (1, (.slice pa plan.length pc)), (34, .agg (scC s (.slice p1 s.tests.length q1) (.slice r1 s.rifles.length z1)).toArray), (5, .pointer (some ⟨b5, 0, none⟩)), (7, .pointer (some ⟨b7, 0, none⟩))]) (fun ⟨p1, q1, r1, z1, b5, b7, ()⟩ => [.ow (.slice p1 s.tests.length q1) 78 2 s.tests.length (spC s.tests), .ow (.slice r1 s.rifles.length z1) 3 1 s.rifles.length (ints s.rifles), .pt b5 [.int .i64 0, .int .i64 0, .slice none 0 0, .slice none 0 0] 46, .pt b7 [.int .i64 0, .int .i64 0, .slice none 0 0, .slice none 0 0] 51]) ?_ (fun hS1_6_7 => ?_)
            · rintro ⟨p1, q1, r1, z1, b5, b7, _⟩
              refine qt_seg (by repeat (first | exact PickL.nil | (apply PickL.cons; rfl))) fun K1 hK1 => ?_
              (refine qf_pure tabOk rfl rfl rfl ?_)
              refine qf_call (β := Value) (ψ := fun y v => v = y) (L' := fun y => [.ow y 91 3 plan.length (nodC plan)]) tabOk [] _ M0 rfl rfl rfl rfl (Sp.refl _) (fun _ h => h.elim) (fun w' hs => cloneNd_ca w' 0 w.heap.size _ plan (RdE.keep hp hs.chg0) (by omega)) ?_
              rintro _ u3 rfl
              dsimp only [List.cons_append, List.nil_append]
              refine qf_fact (fun w hs => hs.slice2 (v := u3) (by repeat constructor)) ?_
              rintro ⟨p3, q3, rfl⟩
              (refine qf_nil ?_)
              exact hK1 _ _ (hS1_3_6_7 ⟨p1, q1, r1, z1, p3, q3, b5, b7, ()⟩ _ _ ⟨rfl, rfl, rfl, rfl, rfl, rfl, trivial⟩ (by repeat constructor))
            refine qt_let (σ := Option Addr × Nat × Option Addr × Nat × Option Addr × Nat × Unit) (tLwH_8ee6943) (fun ⟨p1, q1, r1, z1, p3, q3, ()⟩ => [(2, .pointer (some ⟨b2, 0, none⟩)), (1, (.slice pa plan.length pc)), (34, .agg (scC s (.slice p1 s.tests.length q1) (.slice r1 s.rifles.length z1)).toArray), (36, (.slice p3 plan.length q3))]) (fun ⟨p1, q1, r1, z1, p3, q3, ()⟩ => [.ow (.slice p1 s.tests.length q1) 78 2 s.tests.length (spC s.tests), .ow (.slice r1 s.rifles.length z1) 3 1 s.rifles.length (ints s.rifles), .ow (.slice p3 plan.length q3) 91 3 plan.length (nodC plan)]) ?_ (fun hS1_3 => ?_)
            · rintro ⟨p1, q1, r1, z1, p3, q3, _⟩
              refine qt_alt ?_ (qt_alt ?_ ?_)
              · skip
                refine qt_seg (by repeat (first | exact PickL.nil | (apply PickL.cons; rfl))) fun K1 hK1 => ?_
                (refine qf_loadABa tabOk rfl rfl rfl ?_)
                refine qf_call (β := Value) (ψ := fun y v => v = .agg (scC s y (.slice ra s.rifles.length rc)).toArray) (L' := fun y => [.ow y 172 2 s.tests.length (spC s.tests)]) tabOk [] _ M0 rfl rfl rfl rfl (Sp.refl _) (fun _ h => h.elim) (fun w' hs => rscale_ca w' 0 w.heap.size s _ _ (h.keep hs.chg0) (by omega)) ?_
                rintro u5 _ rfl
                dsimp only [List.cons_append, List.nil_append]
                refine qf_fact (fun w hs => hs.slice2 (v := u5) (by repeat constructor)) ?_
                rintro ⟨p5, q5, rfl⟩
                (refine qf_nil ?_)
                exact hK1 _ _ (hS1_3_5 ⟨p1, q1, r1, z1, p3, q3, p5, q5, ()⟩ _ _ ⟨rfl, rfl, rfl, rfl, rfl, trivial⟩ (by repeat constructor))
              · skip
                refine qt_seg (by repeat (first | exact PickL.nil | (apply PickL.cons; rfl))) fun K1 hK1 => ?_
                skip
                refine qf_alloc zero46 rfl (fun b5 => ?_)
                (refine qf_nil ?_)
                exact hK1 _ _ (hS1_3_6 ⟨p1, q1, r1, z1, p3, q3, b5, ()⟩ _ _ ⟨rfl, rfl, rfl, rfl, rfl, trivial⟩ (by repeat constructor))
              · skip
                refine qt_seg (by repeat (first | exact PickL.nil | (apply PickL.cons; rfl))) fun K1 hK1 => ?_
                skip
                refine qf_alloc zero51 rfl (fun b7 => ?_)
                (refine qf_nil ?_)
                exact hK1 _ _ (hS1_3_7 ⟨p1, q1, r1, z1, p3, q3, b7, ()⟩ _ _ ⟨rfl, rfl, rfl, rfl, rfl, trivial⟩ (by repeat constructor))
            refine qt_let (σ := Option Addr × Nat × Option Addr × Nat × Nat × Unit) (tLwH_95fdc18) (fun ⟨p1, q1, r1, z1, b5, ()⟩ => [(2, .pointer (some ⟨b2, 0, none⟩)), (1, (.slice pa plan.length pc)), (34, .agg (scC s (.slice p1 s.tests.length q1) (.slice r1 s.rifles.length z1)).toArray), (5, .pointer (some ⟨b5, 0, none⟩))]) (fun ⟨p1, q1, r1, z1, b5, ()⟩ => [.ow (.slice p1 s.tests.length q1) 78 2 s.tests.length (spC s.tests), .ow (.slice r1 s.rifles.length z1) 3 1 s.rifles.length (ints s.rifles), .pt b5 [.int .i64 0, .int .i64 0, .slice none 0 0, .slice none 0 0] 46]) ?_ (fun hS1_6 => ?_)
            · rintro ⟨p1, q1, r1, z1, b5, _⟩
              refine qt_alt ?_ ?_
              · skip
                refine qt_seg (by repeat (first | exact PickL.nil | (apply PickL.cons; rfl))) fun K1 hK1 => ?_
                (refine qf_pure tabOk rfl rfl rfl ?_)
                refine qf_call (β := Value) (ψ := fun y v => v = y) (L' := fun y => [.ow y 91 3 plan.length (nodC plan)]) tabOk [] _ M0 rfl rfl rfl rfl (Sp.refl _) (fun _ h => h.elim) (fun w' hs => cloneNd_ca w' 0 w.heap.size _ plan (RdE.keep hp hs.chg0) (by omega)) ?_
                rintro _ u3 rfl
                dsimp only [List.cons_append, List.nil_append]
                refine qf_fact (fun w hs => hs.slice2 (v := u3) (by repeat constructor)) ?_
                rintro ⟨p3, q3, rfl⟩
                (refine qf_nil ?_)
                exact hK1 _ _ (hS1_3_6 ⟨p1, q1, r1, z1, p3, q3, b5, ()⟩ _ _ ⟨rfl, rfl, rfl, rfl, rfl, trivial⟩ (by repeat constructor))
              · skip
                refine qt_seg (by repeat (first | exact PickL.nil | (apply PickL.cons; rfl))) fun K1 hK1 => ?_
                skip
                refine qf_alloc zero51 rfl (fun b7 => ?_)
                (refine qf_nil ?_)
                exact hK1 _ _ (hS1_6_7 ⟨p1, q1, r1, z1, b5, b7, ()⟩ _ _ ⟨rfl, rfl, rfl, rfl, rfl, trivial⟩ (by repeat constructor))
            refine qt_let (σ := Option Addr × Nat × Option Addr × Nat × Nat × Unit) (tLwH_3151bdf) (fun ⟨p1, q1, r1, z1, b7, ()⟩ => [(2, .pointer (some ⟨b2, 0, none⟩)), (1, (.slice pa plan.length pc)), (34, .agg (scC s (.slice p1 s.tests.length q1) (.slice r1 s.rifles.length z1)).toArray), (7, .pointer (some ⟨b7, 0, none⟩))]) (fun ⟨p1, q1, r1, z1, b7, ()⟩ => [.ow (.slice p1 s.tests.length q1) 78 2 s.tests.length (spC s.tests), .ow (.slice r1 s.rifles.length z1) 3 1 s.rifles.length (ints s.rifles), .pt b7 [.int .i64 0, .int .i64 0, .slice none 0 0, .slice none 0 0] 51]) ?_ (fun hS1_7 => ?_)
            · rintro ⟨p1, q1, r1, z1, b7, _⟩
              refine qt_alt ?_ ?_
              · skip
                refine qt_seg (by repeat (first | exact PickL.nil | (apply PickL.cons; rfl))) fun K1 hK1 => ?_
                (refine qf_pure tabOk rfl rfl rfl ?_)
                refine qf_call (β := Value) (ψ := fun y v => v = y) (L' := fun y => [.ow y 91 3 plan.length (nodC plan)]) tabOk [] _ M0 rfl rfl rfl rfl (Sp.refl _) (fun _ h => h.elim) (fun w' hs => cloneNd_ca w' 0 w.heap.size _ plan (RdE.keep hp hs.chg0) (by omega)) ?_
                rintro _ u3 rfl
                dsimp only [List.cons_append, List.nil_append]
                refine qf_fact (fun w hs => hs.slice2 (v := u3) (by repeat constructor)) ?_
                rintro ⟨p3, q3, rfl⟩
                (refine qf_nil ?_)
                exact hK1 _ _ (hS1_3_7 ⟨p1, q1, r1, z1, p3, q3, b7, ()⟩ _ _ ⟨rfl, rfl, rfl, rfl, rfl, trivial⟩ (by repeat constructor))
              · skip
                refine qt_seg (by repeat (first | exact PickL.nil | (apply PickL.cons; rfl))) fun K1 hK1 => ?_
                skip
                refine qf_alloc zero46 rfl (fun b5 => ?_)
                (refine qf_nil ?_)
                exact hK1 _ _ (hS1_6_7 ⟨p1, q1, r1, z1, b5, b7, ()⟩ _ _ ⟨rfl, rfl, rfl, rfl, rfl, trivial⟩ (by repeat constructor))
            refine qt_let (σ := Nat × Nat × Unit) (tLwH_7413eef) (fun ⟨b5, b7, ()⟩ => [(2, .pointer (some ⟨b2, 0, none⟩)), (1, (.slice pa plan.length pc)), (5, .pointer (some ⟨b5, 0, none⟩)), (7, .pointer (some ⟨b7, 0, none⟩))]) (fun ⟨b5, b7, ()⟩ => [.pt b5 [.int .i64 0, .int .i64 0, .slice none 0 0, .slice none 0 0] 46, .pt b7 [.int .i64 0, .int .i64 0, .slice none 0 0, .slice none 0 0] 51]) ?_ (fun hS6_7 => ?_)
            · rintro ⟨b5, b7, _⟩
              refine qt_seg (by repeat (first | exact PickL.nil | (apply PickL.cons; rfl))) fun K1 hK1 => ?_
              (refine qf_loadABa tabOk rfl rfl rfl ?_)
              refine qf_call (β := Value × Value) (ψ := fun y v => v = .agg (scC s y.1 y.2).toArray) (L' := fun y => [.ow y.1 78 2 s.tests.length (spC s.tests), .ow y.2 3 1 s.rifles.length (ints s.rifles)]) tabOk [] _ M0 rfl rfl rfl rfl (Sp.refl _) (fun _ h => h.elim) (fun w' hs => clone7_ca w' 0 w.heap.size s _ _ (h.keep hs.chg0) (by omega) (by omega)) ?_
              rintro ⟨u1, v1⟩ _ rfl
              dsimp only [List.cons_append, List.nil_append]
              refine qf_fact (fun w hs => hs.slice2 (v := u1) (by repeat constructor)) ?_
              rintro ⟨p1, q1, rfl⟩
              refine qf_fact (fun w hs => hs.slice2 (v := v1) (by repeat constructor)) ?_
              rintro ⟨r1, z1, rfl⟩
              (refine qf_nil ?_)
              exact hK1 _ _ (hS1_6_7 ⟨p1, q1, r1, z1, b5, b7, ()⟩ _ _ ⟨rfl, rfl, rfl, rfl, rfl, trivial⟩ (by repeat constructor))
            refine qt_let (σ := Option Addr × Nat × Option Addr × Nat × Unit) (tLwH_c7dfc12) (fun ⟨p1, q1, r1, z1, ()⟩ => [(2, .pointer (some ⟨b2, 0, none⟩)), (1, (.slice pa plan.length pc)), (34, .agg (scC s (.slice p1 s.tests.length q1) (.slice r1 s.rifles.length z1)).toArray)]) (fun ⟨p1, q1, r1, z1, ()⟩ => [.ow (.slice p1 s.tests.length q1) 78 2 s.tests.length (spC s.tests), .ow (.slice r1 s.rifles.length z1) 3 1 s.rifles.length (ints s.rifles)]) ?_ (fun hS1 => ?_)
            · rintro ⟨p1, q1, r1, z1, _⟩
              refine qt_alt ?_ (qt_alt ?_ ?_)
              · skip
                refine qt_seg (by repeat (first | exact PickL.nil | (apply PickL.cons; rfl))) fun K1 hK1 => ?_
                (refine qf_pure tabOk rfl rfl rfl ?_)
                refine qf_call (β := Value) (ψ := fun y v => v = y) (L' := fun y => [.ow y 91 3 plan.length (nodC plan)]) tabOk [] _ M0 rfl rfl rfl rfl (Sp.refl _) (fun _ h => h.elim) (fun w' hs => cloneNd_ca w' 0 w.heap.size _ plan (RdE.keep hp hs.chg0) (by omega)) ?_
                rintro _ u3 rfl
                dsimp only [List.cons_append, List.nil_append]
                refine qf_fact (fun w hs => hs.slice2 (v := u3) (by repeat constructor)) ?_
                rintro ⟨p3, q3, rfl⟩
                (refine qf_nil ?_)
                exact hK1 _ _ (hS1_3 ⟨p1, q1, r1, z1, p3, q3, ()⟩ _ _ ⟨rfl, rfl, rfl, rfl, trivial⟩ (by repeat constructor))
              · skip
                refine qt_seg (by repeat (first | exact PickL.nil | (apply PickL.cons; rfl))) fun K1 hK1 => ?_
                skip
                refine qf_alloc zero46 rfl (fun b5 => ?_)
                (refine qf_nil ?_)
                exact hK1 _ _ (hS1_6 ⟨p1, q1, r1, z1, b5, ()⟩ _ _ ⟨rfl, rfl, rfl, rfl, trivial⟩ (by repeat constructor))
              · skip
                refine qt_seg (by repeat (first | exact PickL.nil | (apply PickL.cons; rfl))) fun K1 hK1 => ?_
                skip
                refine qf_alloc zero51 rfl (fun b7 => ?_)
                (refine qf_nil ?_)
                exact hK1 _ _ (hS1_7 ⟨p1, q1, r1, z1, b7, ()⟩ _ _ ⟨rfl, rfl, rfl, rfl, trivial⟩ (by repeat constructor))
            refine qt_let (σ := Nat × Unit) (tLwH_7659a2d) (fun ⟨b5, ()⟩ => [(2, .pointer (some ⟨b2, 0, none⟩)), (1, (.slice pa plan.length pc)), (5, .pointer (some ⟨b5, 0, none⟩))]) (fun ⟨b5, ()⟩ => [.pt b5 [.int .i64 0, .int .i64 0, .slice none 0 0, .slice none 0 0] 46]) ?_ (fun hS6 => ?_)
            · rintro ⟨b5, _⟩
              refine qt_alt ?_ ?_
              · skip
                refine qt_seg (by repeat (first | exact PickL.nil | (apply PickL.cons; rfl))) fun K1 hK1 => ?_
                (refine qf_loadABa tabOk rfl rfl rfl ?_)
                refine qf_call (β := Value × Value) (ψ := fun y v => v = .agg (scC s y.1 y.2).toArray) (L' := fun y => [.ow y.1 78 2 s.tests.length (spC s.tests), .ow y.2 3 1 s.rifles.length (ints s.rifles)]) tabOk [] _ M0 rfl rfl rfl rfl (Sp.refl _) (fun _ h => h.elim) (fun w' hs => clone7_ca w' 0 w.heap.size s _ _ (h.keep hs.chg0) (by omega) (by omega)) ?_
                rintro ⟨u1, v1⟩ _ rfl
                dsimp only [List.cons_append, List.nil_append]
                refine qf_fact (fun w hs => hs.slice2 (v := u1) (by repeat constructor)) ?_
                rintro ⟨p1, q1, rfl⟩
                refine qf_fact (fun w hs => hs.slice2 (v := v1) (by repeat constructor)) ?_
                rintro ⟨r1, z1, rfl⟩
                (refine qf_nil ?_)
                exact hK1 _ _ (hS1_6 ⟨p1, q1, r1, z1, b5, ()⟩ _ _ ⟨rfl, rfl, rfl, rfl, trivial⟩ (by repeat constructor))
              · skip
                refine qt_seg (by repeat (first | exact PickL.nil | (apply PickL.cons; rfl))) fun K1 hK1 => ?_
                skip
                refine qf_alloc zero51 rfl (fun b7 => ?_)
                (refine qf_nil ?_)
                exact hK1 _ _ (hS6_7 ⟨b5, b7, ()⟩ _ _ ⟨rfl, rfl, rfl, rfl, trivial⟩ (by repeat constructor))
            refine qt_let (σ := Nat × Unit) (tLwH_094281b) (fun ⟨b7, ()⟩ => [(2, .pointer (some ⟨b2, 0, none⟩)), (1, (.slice pa plan.length pc)), (7, .pointer (some ⟨b7, 0, none⟩))]) (fun ⟨b7, ()⟩ => [.pt b7 [.int .i64 0, .int .i64 0, .slice none 0 0, .slice none 0 0] 51]) ?_ (fun hS7 => ?_)
            · rintro ⟨b7, _⟩
              refine qt_alt ?_ ?_
              · skip
                refine qt_seg (by repeat (first | exact PickL.nil | (apply PickL.cons; rfl))) fun K1 hK1 => ?_
                (refine qf_loadABa tabOk rfl rfl rfl ?_)
                refine qf_call (β := Value × Value) (ψ := fun y v => v = .agg (scC s y.1 y.2).toArray) (L' := fun y => [.ow y.1 78 2 s.tests.length (spC s.tests), .ow y.2 3 1 s.rifles.length (ints s.rifles)]) tabOk [] _ M0 rfl rfl rfl rfl (Sp.refl _) (fun _ h => h.elim) (fun w' hs => clone7_ca w' 0 w.heap.size s _ _ (h.keep hs.chg0) (by omega) (by omega)) ?_
                rintro ⟨u1, v1⟩ _ rfl
                dsimp only [List.cons_append, List.nil_append]
                refine qf_fact (fun w hs => hs.slice2 (v := u1) (by repeat constructor)) ?_
                rintro ⟨p1, q1, rfl⟩
                refine qf_fact (fun w hs => hs.slice2 (v := v1) (by repeat constructor)) ?_
                rintro ⟨r1, z1, rfl⟩
                (refine qf_nil ?_)
                exact hK1 _ _ (hS1_7 ⟨p1, q1, r1, z1, b7, ()⟩ _ _ ⟨rfl, rfl, rfl, rfl, trivial⟩ (by repeat constructor))
              · skip
                refine qt_seg (by repeat (first | exact PickL.nil | (apply PickL.cons; rfl))) fun K1 hK1 => ?_
                skip
                refine qf_alloc zero46 rfl (fun b5 => ?_)
                (refine qf_nil ?_)
                exact hK1 _ _ (hS6_7 ⟨b5, b7, ()⟩ _ _ ⟨rfl, rfl, rfl, rfl, trivial⟩ (by repeat constructor))
            refine qt_alt ?_ (qt_alt ?_ ?_)
            · skip
              refine qt_seg (by repeat (first | exact PickL.nil | (apply PickL.cons; rfl))) fun K1 hK1 => ?_
              (refine qf_loadABa tabOk rfl rfl rfl ?_)
              refine qf_call (β := Value × Value) (ψ := fun y v => v = .agg (scC s y.1 y.2).toArray) (L' := fun y => [.ow y.1 78 2 s.tests.length (spC s.tests), .ow y.2 3 1 s.rifles.length (ints s.rifles)]) tabOk [] _ M0 rfl rfl rfl rfl (Sp.refl _) (fun _ h => h.elim) (fun w' hs => clone7_ca w' 0 w.heap.size s _ _ (h.keep hs.chg0) (by omega) (by omega)) ?_
              rintro ⟨u1, v1⟩ _ rfl
              dsimp only [List.cons_append, List.nil_append]
              refine qf_fact (fun w hs => hs.slice2 (v := u1) (by repeat constructor)) ?_
              rintro ⟨p1, q1, rfl⟩
              refine qf_fact (fun w hs => hs.slice2 (v := v1) (by repeat constructor)) ?_
              rintro ⟨r1, z1, rfl⟩
              (refine qf_nil ?_)
              exact hK1 _ _ (hS1 ⟨p1, q1, r1, z1, ()⟩ _ _ ⟨rfl, rfl, rfl, trivial⟩ (by repeat constructor))
            · skip
              refine qt_seg (by repeat (first | exact PickL.nil | (apply PickL.cons; rfl))) fun K1 hK1 => ?_
              skip
              refine qf_alloc zero46 rfl (fun b5 => ?_)
              (refine qf_nil ?_)
              exact hK1 _ _ (hS6 ⟨b5, ()⟩ _ _ ⟨rfl, rfl, rfl, trivial⟩ (by repeat constructor))
            · skip
              refine qt_seg (by repeat (first | exact PickL.nil | (apply PickL.cons; rfl))) fun K1 hK1 => ?_
              skip
              refine qf_alloc zero51 rfl (fun b7 => ?_)
              (refine qf_nil ?_)
              exact hK1 _ _ (hS7 ⟨b7, ()⟩ _ _ ⟨rfl, rfl, rfl, trivial⟩ (by repeat constructor))
          rintro ⟨p1, q1, r1, z1, p3, q3, p5, q5, b5, b7⟩
          dsimp only
          (refine q_seq (q_region ?_); refine ql_loadABa tabOk rfl rfl rfl ?_)
          refine ql_callv (val := .tuple #[.int .i64 (fewU s), .int .i64 (chkO s)]) tabOk rfl rfl rfl rfl (fun w hs => ?_) ?_; exact rfewest_u w 0 w.heap.size s _ _ ⟨own_rdS (hs.mem (c := .ow (.slice p1 s.tests.length q1) 78 2 s.tests.length (spC s.tests)) (by repeat constructor)) rfl, own_rdI (hs.mem (c := .ow (.slice r1 s.rifles.length z1) 3 1 s.rifles.length (ints s.rifles)) (by repeat constructor)) rfl⟩ m1 m2
          (refine ql_pure tabOk rfl rfl (ql_ext tabOk rfl rfl rfl (ql_ext tabOk rfl rfl rfl (ql_pure tabOk rfl rfl (ql_pure tabOk rfl rfl (q_nil (q_seq (q_region ?_))))))); refine ql_loadABa tabOk rfl rfl rfl ?_)
          refine ql_callv (val := .tuple #[.int .i64 (fewU s), .int .i64 (chkO s)]) tabOk rfl rfl rfl rfl (fun w hs => ?_) ?_; exact rrfewest_u w 0 w.heap.size s _ _ (scr_two (h.keep hs.chg0) (own_rdS (hs.mem (c := .ow (.slice p5 s.tests.length q5) 172 2 s.tests.length (spC s.tests)) (by repeat constructor)) rfl) hs.chg.size) m1 m2
          (refine ql_pure tabOk rfl rfl (ql_ext tabOk rfl rfl rfl (ql_ext tabOk rfl rfl rfl (ql_pure tabOk rfl rfl (ql_pure tabOk rfl rfl (q_nil (q_seq (q_seq (q_region (ql_pure tabOk rfl rfl (ql_pure tabOk rfl rfl (ql_neqF tabOk rfl rfl rfl (by omega) ?_))))))))))); refine ql_pure tabOk rfl rfl (ql_gyes rfl (ql_pure tabOk rfl rfl (ql_gyes rfl (ql_pure tabOk rfl rfl (ql_gyes rfl (ql_neqF tabOk rfl rfl rfl (by omega) (ql_pure tabOk rfl rfl (q_nil (q_cond_false rfl (q_skip (q_seq ?_))))))))))); refine q_region ?_; refine ql_loadABa tabOk rfl rfl rfl ?_)
          by_cases h0 : chkO s = 0
          · have hsok := chkO_zero.1 h0
            have hpl2 := plan_len hsok.ok.rn8 hsok.le
            have hdu := depU_plan h0
            have hfu : fewU s = depV s (firstK s) := by unfold fewU; rw [if_pos h0]
            obtain ⟨PL, hPL⟩ : ∃ P, P = planV s := ⟨_, rfl⟩
            rw [h0, hfu]
            refine ql_call (β := Value) (ψ := fun y v => v = .tuple #[y, .int .i64 0]) (L' := fun y => [.ow y 91 3 PL.length (nodC PL)]) tabOk [] _ M0 rfl rfl rfl rfl (Sp.refl _) (fun _ h => h.elim) (fun w' hs => by rw [hPL]; exact rplan_ok w' 0 w'.heap.size s _ _ ⟨own_rdS (hs.mem (c := .ow (.slice p1 s.tests.length q1) 78 2 s.tests.length (spC s.tests)) (by repeat constructor)) rfl, own_rdI (hs.mem (c := .ow (.slice r1 s.rifles.length z1) 3 1 s.rifles.length (ints s.rifles)) (by repeat constructor)) rfl⟩ hsok) ?_
            rintro vl _ rfl
            dsimp only [List.cons_append, List.nil_append]
            rw [← hPL] at hpl2 hdu
            (refine ql_pure tabOk rfl rfl (ql_ext tabOk rfl rfl rfl (ql_ext tabOk rfl rfl rfl (ql_pure tabOk rfl rfl (ql_pure tabOk rfl rfl (q_nil (q_seq (q_seq (q_region (ql_pure tabOk rfl rfl (ql_pure tabOk rfl rfl (ql_neqF tabOk rfl rfl rfl (by omega) ?_))))))))))); refine ql_pure tabOk rfl rfl (ql_gyes rfl (ql_pure tabOk rfl rfl (ql_gyes rfl (ql_neqF tabOk rfl rfl rfl (by omega) (ql_gyes rfl (ql_pure tabOk rfl rfl ?_)))))); (iterate 3 refine ql_gno rfl rfl rfl ?_); refine ql_gyes rfl (ql_pure tabOk rfl rfl (ql_pure tabOk rfl rfl (q_nil (q_cond_false rfl (q_skip (q_seq (q_seq (q_region (ql_pure tabOk rfl rfl (ql_eqlT tabOk rfl rfl rfl (by omega) (q_nil ?_))))))))))); refine q_cond_true rfl (q_seq ?_))
            refine q_draw _ [] (Sp.refl _) (by kernel_rfl) (by kernel_rfl) ?_
            (refine qf_loadABa tabOk rfl rfl rfl ?_; refine qf_pure tabOk rfl rfl rfl ?_)
            refine qf_call (β := Value) (ψ := fun y v => v = y) (L' := fun y => [.ow y 213 3 PL.length (nodC PL)]) tabOk [] _ M0 rfl rfl rfl rfl (Sp.refl _) (fun _ h => h.elim) (fun w' hs => rnodes_ca w' 0 w'.heap.size _ PL (own_rdN (hs.mem (c := .ow vl 91 3 PL.length (nodC PL)) (by repeat constructor)) rfl) (by omega)) ?_
            rintro _ vm rfl
            dsimp only [List.cons_append, List.nil_append]
            skip
            refine qf_callv (val := .tuple #[.int .i64 (depU s PL).1, .int .i64 (depU s PL).2]) tabOk rfl rfl rfl rfl (fun w hs => ?_) ?_; exact rrdepth_u w 0 w.heap.size s _ _ vm PL (scr_two (h.keep hs.chg0) (own_rdS (hs.mem (c := .ow (.slice p5 s.tests.length q5) 172 2 s.tests.length (spC s.tests)) (by repeat constructor)) rfl) hs.chg.size) m1 m2 (own_rdN (hs.mem (c := .ow vm 213 3 PL.length (nodC PL)) (by repeat constructor)) rfl) (by omega)
            rw [hdu]
            (refine qf_pure tabOk rfl rfl rfl (qf_ext tabOk rfl rfl rfl (qf_ext tabOk rfl rfl rfl (qf_pure tabOk rfl rfl rfl (qf_pure tabOk rfl rfl rfl (qf_nil (q_seq (q_region (ql_pure tabOk rfl rfl (ql_neqF tabOk rfl rfl rfl (by omega) (ql_pure tabOk rfl rfl (ql_gyes rfl ?_))))))))))); refine ql_pure tabOk rfl rfl (ql_gyes rfl (ql_pure tabOk rfl rfl (ql_gyes rfl (ql_neqF tabOk rfl rfl rfl (by omega) (ql_pure tabOk rfl rfl (q_nil (q_cond_false rfl (q_skip (q_seq (q_region ?_)))))))))); refine ql_loadABa tabOk rfl rfl rfl ?_; refine ql_pure tabOk rfl rfl ?_)
            refine ql_callv (val := .tuple #[.int .i64 (depU s plan).1, .int .i64 (depU s plan).2]) tabOk rfl rfl rfl rfl (fun w hs => ?_) ?_; exact rdepth_u w 0 w.heap.size s _ _ (.slice p3 plan.length q3) plan ⟨own_rdS (hs.mem (c := .ow (.slice p1 s.tests.length q1) 78 2 s.tests.length (spC s.tests)) (by repeat constructor)) rfl, own_rdI (hs.mem (c := .ow (.slice r1 s.rifles.length z1) 3 1 s.rifles.length (ints s.rifles)) (by repeat constructor)) rfl⟩ m1 m2 (own_rdN (hs.mem (c := .ow (.slice p3 plan.length q3) 91 3 plan.length (nodC plan)) (by repeat constructor)) rfl) (by omega)
            (refine ql_pure tabOk rfl rfl (ql_ext tabOk rfl rfl rfl (ql_ext tabOk rfl rfl rfl (ql_pure tabOk rfl rfl (ql_pure tabOk rfl rfl (q_nil (q_seq ?_)))))))
            refine q_draw _ [] (Sp.refl _) (by kernel_rfl) (by kernel_rfl) ?_
            (refine qf_loadABa tabOk rfl rfl rfl ?_; refine qf_pure tabOk rfl rfl rfl ?_)
            refine qf_call (β := Value) (ψ := fun y v => v = y) (L' := fun y => [.ow y 213 3 plan.length (nodC plan)]) tabOk [] _ M0 rfl rfl rfl rfl (Sp.refl _) (fun _ h => h.elim) (fun w' hs => rnodes_ca w' 0 w.heap.size _ plan (RdE.keep hp hs.chg0) (by omega)) ?_
            rintro _ vn rfl
            dsimp only [List.cons_append, List.nil_append]
            skip
            refine qf_callv (val := .tuple #[.int .i64 (depU s plan).1, .int .i64 (depU s plan).2]) tabOk rfl rfl rfl rfl (fun w hs => ?_) ?_; exact rrdepth_u w 0 w.heap.size s _ _ vn plan (scr_two (h.keep hs.chg0) (own_rdS (hs.mem (c := .ow (.slice p5 s.tests.length q5) 172 2 s.tests.length (spC s.tests)) (by repeat constructor)) rfl) hs.chg.size) m1 m2 (own_rdN (hs.mem (c := .ow vn 213 3 plan.length (nodC plan)) (by repeat constructor)) rfl) (by omega)
            (refine qf_pure tabOk rfl rfl rfl (qf_ext tabOk rfl rfl rfl (qf_ext tabOk rfl rfl rfl (qf_pure tabOk rfl rfl rfl (qf_pure tabOk rfl rfl rfl (qf_nil (q_seq (q_region (ql_pure tabOk rfl rfl (ql_pure tabOk rfl rfl (ql_eqlT tabOk rfl rfl rfl (by omega) (ql_pure tabOk rfl rfl ?_))))))))))); refine ql_gyes rfl (ql_pure tabOk rfl rfl (ql_gyes rfl (ql_pure tabOk rfl rfl (ql_gyes rfl (ql_eqlT tabOk rfl rfl rfl (by omega) (ql_pure tabOk rfl rfl (ql_pure tabOk rfl rfl (ql_gyes rfl ?_)))))))); refine ql_loadABa tabOk rfl rfl rfl ?_; refine ql_gyes rfl ?_; refine ql_loadABa tabOk rfl rfl rfl ?_; refine ql_gyes rfl ?_)
            refine ql_callv (val := .bool true) tabOk rfl rfl rfl rfl (fun w hs => ?_) ?_; exact rsame_ca w 0 w.heap.size 0 w.heap.size s _ _ (.slice ta s.tests.length tc) (.slice ra s.rifles.length rc) ⟨own_rdS (hs.mem (c := .ow (.slice p1 s.tests.length q1) 78 2 s.tests.length (spC s.tests)) (by repeat constructor)) rfl, own_rdI (hs.mem (c := .ow (.slice r1 s.rifles.length z1) 3 1 s.rifles.length (ints s.rifles)) (by repeat constructor)) rfl⟩ (ScR.self h hs.chg0 hs.chg.size) (by omega) (by omega)
            (refine ql_pure tabOk rfl rfl (ql_pure tabOk rfl rfl (ql_gyes rfl (ql_pure tabOk rfl rfl (ql_gyes rfl (ql_pure tabOk rfl rfl (ql_gyes rfl ?_)))))))
            refine ql_callv (val := .bool true) tabOk rfl rfl rfl rfl (fun w hs => ?_) ?_; exact eqN_ca w 0 w.heap.size _ _ _ (.slice pa plan.length pc) plan (own_rdN (hs.mem (c := .ow (.slice p3 plan.length q3) 91 3 plan.length (nodC plan)) (by repeat constructor)) rfl) (RdE.keep hp hs.chg0) (by omega)
            (refine ql_pure tabOk rfl rfl (ql_pure tabOk rfl rfl (ql_gyes rfl ?_)))
            refine ql_callv (val := .bool true) tabOk rfl rfl rfl rfl (fun w hs => ?_) ?_; exact rawake_ca w
            (refine ql_pure tabOk rfl rfl (ql_pure tabOk rfl rfl (q_nil (q_ret ?_))))
            refine q_fin tabOk rfl (by repeat constructor) fun w hs => ?_
            exact ⟨rfl, hs.chg0⟩
          · refine ql_callv (val := .tuple #[.slice none 0 0, .int .i64 (chkO s)]) tabOk rfl rfl rfl rfl (fun w hs => ?_) ?_; exact rplan_no w 0 w.heap.size s _ _ ⟨own_rdS (hs.mem (c := .ow (.slice p1 s.tests.length q1) 78 2 s.tests.length (spC s.tests)) (by repeat constructor)) rfl, own_rdI (hs.mem (c := .ow (.slice r1 s.rifles.length z1) 3 1 s.rifles.length (ints s.rifles)) (by repeat constructor)) rfl⟩ m1 m2 h0
            (refine ql_pure tabOk rfl rfl (ql_ext tabOk rfl rfl rfl (ql_ext tabOk rfl rfl rfl (ql_pure tabOk rfl rfl (ql_pure tabOk rfl rfl (q_nil (q_seq (q_seq (q_region (ql_pure tabOk rfl rfl (ql_pure tabOk rfl rfl (ql_neqF tabOk rfl rfl rfl (by omega) ?_))))))))))); refine ql_pure tabOk rfl rfl (ql_gyes rfl (ql_pure tabOk rfl rfl (ql_gyes rfl (ql_neqT tabOk rfl rfl rfl (by omega) (ql_gyes rfl (ql_pure tabOk rfl rfl (ql_gyes rfl (ql_pure tabOk rfl rfl (ql_gyes rfl (ql_pure tabOk rfl rfl (ql_gyes rfl ?_))))))))))); refine ql_gtrF tabOk rfl rfl rfl (by omega) (ql_gyes rfl (ql_pure tabOk rfl rfl (ql_pure tabOk rfl rfl (q_nil (q_cond_false rfl (q_skip (q_seq (q_seq (q_region (ql_pure tabOk rfl rfl (ql_eqlF tabOk rfl rfl rfl (by omega) ?_))))))))))); refine q_nil (q_cond_false rfl (q_skip (q_seq (q_region ?_)))); refine ql_loadABa tabOk rfl rfl rfl ?_; refine ql_pure tabOk rfl rfl ?_)
            refine ql_callv (val := .tuple #[.int .i64 (depU s plan).1, .int .i64 (depU s plan).2]) tabOk rfl rfl rfl rfl (fun w hs => ?_) ?_; exact rdepth_u w 0 w.heap.size s _ _ (.slice p3 plan.length q3) plan ⟨own_rdS (hs.mem (c := .ow (.slice p1 s.tests.length q1) 78 2 s.tests.length (spC s.tests)) (by repeat constructor)) rfl, own_rdI (hs.mem (c := .ow (.slice r1 s.rifles.length z1) 3 1 s.rifles.length (ints s.rifles)) (by repeat constructor)) rfl⟩ m1 m2 (own_rdN (hs.mem (c := .ow (.slice p3 plan.length q3) 91 3 plan.length (nodC plan)) (by repeat constructor)) rfl) (by omega)
            (refine ql_pure tabOk rfl rfl (ql_ext tabOk rfl rfl rfl (ql_ext tabOk rfl rfl rfl (ql_pure tabOk rfl rfl (ql_pure tabOk rfl rfl (q_nil (q_seq ?_)))))))
            refine q_draw _ [] (Sp.refl _) (by kernel_rfl) (by kernel_rfl) ?_
            (refine qf_loadABa tabOk rfl rfl rfl ?_; refine qf_pure tabOk rfl rfl rfl ?_)
            refine qf_call (β := Value) (ψ := fun y v => v = y) (L' := fun y => [.ow y 213 3 plan.length (nodC plan)]) tabOk [] _ M0 rfl rfl rfl rfl (Sp.refl _) (fun _ h => h.elim) (fun w' hs => rnodes_ca w' 0 w.heap.size _ plan (RdE.keep hp hs.chg0) (by omega)) ?_
            rintro _ vn rfl
            dsimp only [List.cons_append, List.nil_append]
            skip
            refine qf_callv (val := .tuple #[.int .i64 (depU s plan).1, .int .i64 (depU s plan).2]) tabOk rfl rfl rfl rfl (fun w hs => ?_) ?_; exact rrdepth_u w 0 w.heap.size s _ _ vn plan (scr_two (h.keep hs.chg0) (own_rdS (hs.mem (c := .ow (.slice p5 s.tests.length q5) 172 2 s.tests.length (spC s.tests)) (by repeat constructor)) rfl) hs.chg.size) m1 m2 (own_rdN (hs.mem (c := .ow vn 213 3 plan.length (nodC plan)) (by repeat constructor)) rfl) (by omega)
            (refine qf_pure tabOk rfl rfl rfl (qf_ext tabOk rfl rfl rfl (qf_ext tabOk rfl rfl rfl (qf_pure tabOk rfl rfl rfl (qf_pure tabOk rfl rfl rfl (qf_nil (q_seq (q_region (ql_pure tabOk rfl rfl (ql_pure tabOk rfl rfl (ql_eqlT tabOk rfl rfl rfl (by omega) (ql_pure tabOk rfl rfl ?_))))))))))); refine ql_gyes rfl (ql_pure tabOk rfl rfl (ql_gyes rfl (ql_pure tabOk rfl rfl (ql_gyes rfl (ql_eqlT tabOk rfl rfl rfl (by omega) (ql_pure tabOk rfl rfl (ql_pure tabOk rfl rfl (ql_gyes rfl ?_)))))))); refine ql_loadABa tabOk rfl rfl rfl ?_; refine ql_gyes rfl ?_; refine ql_loadABa tabOk rfl rfl rfl ?_; refine ql_gyes rfl ?_)
            refine ql_callv (val := .bool true) tabOk rfl rfl rfl rfl (fun w hs => ?_) ?_; exact rsame_ca w 0 w.heap.size 0 w.heap.size s _ _ (.slice ta s.tests.length tc) (.slice ra s.rifles.length rc) ⟨own_rdS (hs.mem (c := .ow (.slice p1 s.tests.length q1) 78 2 s.tests.length (spC s.tests)) (by repeat constructor)) rfl, own_rdI (hs.mem (c := .ow (.slice r1 s.rifles.length z1) 3 1 s.rifles.length (ints s.rifles)) (by repeat constructor)) rfl⟩ (ScR.self h hs.chg0 hs.chg.size) (by omega) (by omega)
            (refine ql_pure tabOk rfl rfl (ql_pure tabOk rfl rfl (ql_gyes rfl (ql_pure tabOk rfl rfl (ql_gyes rfl (ql_pure tabOk rfl rfl (ql_gyes rfl ?_)))))))
            refine ql_callv (val := .bool true) tabOk rfl rfl rfl rfl (fun w hs => ?_) ?_; exact eqN_ca w 0 w.heap.size _ _ _ (.slice pa plan.length pc) plan (own_rdN (hs.mem (c := .ow (.slice p3 plan.length q3) 91 3 plan.length (nodC plan)) (by repeat constructor)) rfl) (RdE.keep hp hs.chg0) (by omega)
            (refine ql_pure tabOk rfl rfl (ql_pure tabOk rfl rfl (ql_gyes rfl ?_)))
            refine ql_callv (val := .bool true) tabOk rfl rfl rfl rfl (fun w hs => ?_) ?_; exact rawake_ca w
            (refine ql_pure tabOk rfl rfl (ql_pure tabOk rfl rfl (q_nil (q_ret ?_))))
            refine q_fin tabOk rfl (by repeat constructor) fun w hs => ?_
            exact ⟨rfl, hs.chg0⟩
end Go.Proofs.YtopdmadgkjdgcaaGreat
