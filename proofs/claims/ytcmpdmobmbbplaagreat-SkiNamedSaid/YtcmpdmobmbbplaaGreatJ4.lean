/- My texts K24, K25, K26, D1, D2, D3, D4, K29, D5, K27, K28, W13, K30, B33, K41, K42, K43, W14, W15, W22, B34, B35, K44, K45, B36, W23, W24, W25, K46, K47, W26, E0, E1, E2, E3, E4, E5, K33, K48, K49, K50, K34, K35, W17, K31, W16, K32, L8, joined: a claim takes at most 60 files. -/
import Derived.Test.YtcmpdmobmbbplaaGreatJ3
import Derived.Shelf.Slices.In.SortNone

/- Walks: whether gaps show something. -/
namespace Go.Proofs.YtcmpdmobmbbplaaGreat
set_option maxRecDepth 4000
open Go Go.Eng

theorem gapsF_cons (st : List Int) (p : Option Int) (g : Int × Int) (l : List (Int × Int)) : gapsF st p (g :: l) = if gapBad st p g = true then none else (gapsF st (some g.2) l).map fun s => s + (g.2 - g.1) := rfl
theorem low_step' (st : List Int) (x : Int) (k : Nat) (hk : k < st.length) : lowC (st.take (k + 1)) x = lowC (st.take k) x + if st[k] ≤ x then 1 else 0 := by
  unfold lowC
  rw [List.take_succ_eq_append_getElem hk, List.countP_append, List.countP_singleton]
  simp
theorem high_step' (st : List Int) (x : Int) (k : Nat) (hk : k < st.length) : highC (st.take (k + 1)) x = highC (st.take k) x + if x ≤ st[k] then 1 else 0 := by
  unfold highC
  rw [List.take_succ_eq_append_getElem hk, List.countP_append, List.countP_singleton]
  simp
theorem gap_bd {st : List Int} (hs0 : SingOk st) {p : Option Int} {g : Int × Int} (h : gapBad st p g = false) : 0 ≤ g.1 ∧ g.1 < g.2 ∧ g.2 ≤ 100000 := by
  unfold gapBad at h
  simp only [Bool.or_eq_false_iff, decide_eq_false_iff_not] at h
  obtain ⟨h1, h2, h3, h4⟩ := h
  have hl : 0 < lowC st g.1 := by omega
  have hev := hs0.ev
  have hh : 0 < highC st g.2 := by omega
  obtain ⟨x, hx, h5⟩ := List.countP_pos_iff.1 hl
  obtain ⟨y, hy, h6⟩ := List.countP_pos_iff.1 hh
  have h7 := hs0.num x hx
  have h8 := hs0.num y hy
  have h5 : x ≤ g.1 := by simpa using h5
  have h6 : g.2 ≤ y := by simpa using h6
  omega
/-- The gap before the k-th one ends here. -/
def prevH (gs : List (Int × Int)) (k : Nat) : Option Int := if k = 0 then none else some (gs.getD (k - 1) (0, 0)).2
set_option maxHeartbeats 4000000 in
theorem gapsShow_ca (w : World) (lo hi lo2 hi2 : Nat) (v u : Value) (st : List Int) (gs : List (Int × Int)) (h : RdI w lo hi v st) (hu : RdS w lo2 hi2 u gs) (hg0 : gs.length ≤ 1000000) : Ca Tryz.prog 59 [v, u] w fun x w' => x = .tuple #[.int .i64 (gapsV st gs).1, .int .i64 (gapsV st gs).2] ∧ Chg [] w w' := by
  obtain ⟨a, c, rfl, ha⟩ := RdI.outI h
  obtain ⟨ga, gc, rfl, hga⟩ := RdS.outI hu
  refine q_of (Sat.nil w M0) Tryz.func59 rfl (by simp [Tryz.ntmps59]) ?_
  (refine q_seq (q_region (ql_pure tabOk rfl rfl (ql_pure tabOk rfl rfl (q_nil (q_seq (q_region (ql_pure tabOk rfl rfl ?_))))))))
  refine ql_callv (val := .int .i64 (singlesV st)) tabOk rfl rfl rfl rfl (fun w hs => ?_) ?_; exact singles_ca w lo hi _ st (RdE.keep h hs.chg0)
  by_cases he : singlesV st = 0
  · have hs0 := sing_iff.1 he
    have hl1 := hs0.l1
    have hl2 := hs0.l2
    obtain ⟨ab, ao, rfl⟩ := ha (by omega)
    by_cases hg : 16 < gs.length
    · (refine ql_pure tabOk rfl rfl (q_nil (q_seq (q_block (q_seq (q_region (ql_pure tabOk rfl rfl (ql_neqF tabOk rfl rfl rfl (by omega) (ql_pure tabOk rfl rfl (q_nil (q_cond_false rfl (q_seq ?_))))))))))); refine q_region (ql_pure tabOk rfl rfl (ql_pure tabOk rfl rfl (ql_gtrT tabOk rfl rfl rfl (by omega) (ql_pure tabOk rfl rfl (q_nil (q_cond_true rfl (q_seq (q_region (ql_pure tabOk rfl rfl (ql_pure tabOk rfl rfl (q_nil ?_))))))))))); refine q_ret ?_)
      refine q_fin tabOk rfl (by repeat constructor) fun w hs => ?_
      exact ⟨by unfold gapsV; rw [if_neg (by simpa using he), if_pos hg]; rfl, hs.chg0⟩
    · have hgv : gapsV st gs = match gapsF st none gs with | some s => (s, 0) | none => (0, 8) := by unfold gapsV; rw [if_neg (by simpa using he), if_neg hg] <;> rfl
      rw [hgv]
      (refine ql_pure tabOk rfl rfl (q_nil (q_seq (q_block (q_seq (q_region (ql_pure tabOk rfl rfl (ql_neqF tabOk rfl rfl rfl (by omega) (ql_pure tabOk rfl rfl (q_nil (q_cond_false rfl (q_seq ?_))))))))))); refine q_region (ql_pure tabOk rfl rfl (ql_pure tabOk rfl rfl (ql_gtrF tabOk rfl rfl rfl (by omega) (ql_pure tabOk rfl rfl (q_nil (q_cond_false rfl (q_skip (q_blk (q_seq (q_region (ql_pure tabOk rfl rfl ?_))))))))))); refine q_nil (q_seq (q_seq (q_region ?_))); (iterate 3 refine ql_pure tabOk rfl rfl ?_); refine q_nil (q_block ?_))
      refine q_loop (σ := Nat × Int) (fun y => y.1 ≤ gs.length ∧ gapsF st none gs = (gapsF st (prevH gs y.1) (gs.drop y.1)).map (fun s => s + y.2) ∧ 0 ≤ y.2 ∧ y.2 ≤ 100000 * y.1) (fun y => gs.length - y.1)
        (fun y => [(0, .slice (some ⟨ab, ao, none⟩) st.length c), (1, .slice ga gs.length gc), (7, .int .i64 y.2), (24, .slice ga gs.length gc), (25, .int .i64 gs.length), (26, .int .i64 y.1)]) (fun _ => []) (0, 0) ⟨by simp only; omega, by simp [prevH], by simp, by simp⟩ ⟨rfl, rfl, rfl, rfl, rfl, rfl, trivial⟩ (by repeat constructor) ?_
      rintro ⟨k, sum⟩ ⟨hk, hF, hs1, hs2⟩ K hK
      dsimp only at hk hF hs1 hs2 ⊢
      (refine q_seq (q_region (ql_pure tabOk rfl rfl (q_nil (q_seq ?_)))))
      refine q_if rfl (fun hc => ?_) (fun hc => ?_)
      · have hk2 : k < gs.length := by omega
        clear hc
        obtain ⟨gb, go, rfl⟩ := hga (by omega)
        (refine q_skip (q_seq (q_block (q_seq (q_region (ql_pure tabOk rfl rfl ?_))))))
        refine ql_index tabOk rfl rfl rfl rfl rfl (by omega) (by omega) ?_
        refine ql_loadA tabOk rfl rfl rfl rfl (fun w hs => RdS.at (RdE.keep hu hs.chg0) k hk2) ?_
        rw [List.drop_eq_getElem_cons hk2, gapsF_cons] at hF
        have hbd := gap_bd hs0 (p := prevH gs k) (g := gs[k])
        have hnext : prevH gs (k + 1) = some gs[k].2 := by
          unfold prevH
          rw [if_neg (by omega), Nat.add_sub_cancel, List.getD_eq_getElem?_getD, List.getElem?_eq_getElem hk2]
          rfl
        have hprev : 0 < k → prevH gs k = some (gs[k - 1]'(by omega)).2 := fun h => by
          unfold prevH
          rw [if_neg (by omega), List.getD_eq_getElem?_getD, List.getElem?_eq_getElem (show k - 1 < gs.length by omega)]
          rfl
        have hprev0 : k = 0 → prevH gs k = none := fun h => if_pos h
        generalize hgk : gs[k] = gk at *
        obtain ⟨gl, gh⟩ := gk
        dsimp only at *
        skip
        refine ql_alloc zero64 rfl (fun b9 => ?_)
        (refine ql_pure tabOk rfl rfl ?_; refine ql_setA tabOk rfl rfl rfl rfl rfl (by repeat constructor) rfl ?_; refine q_nil (q_seq (q_region (ql_pure tabOk rfl rfl (ql_pure tabOk rfl rfl (q_nil (q_seq (q_seq (q_region ?_)))))))); (iterate 3 refine ql_pure tabOk rfl rfl ?_); refine q_nil (q_block ?_))
        refine q_loop (σ := Nat) (fun y => y ≤ st.length) (fun y => st.length - y)
          (fun y => [(0, .slice (some ⟨ab, ao, none⟩) st.length c), (1, .slice (some ⟨gb, go, none⟩) gs.length gc), (7, .int .i64 sum), (8, .int .i64 k), (9, .pointer (some ⟨b9, 0, none⟩)), (10, .int .i64 (lowC (st.take y) gl)), (11, .int .i64 (highC (st.take y) gh)), (24, .slice (some ⟨gb, go, none⟩) gs.length gc), (25, .int .i64 gs.length), (26, .int .i64 k), (31, .slice (some ⟨ab, ao, none⟩) st.length c), (32, .int .i64 st.length), (33, .int .i64 y)])
          (fun _ => [.pt b9 [.int .i64 gl, .int .i64 gh] 64]) 0 (by omega) ⟨rfl, rfl, rfl, rfl, rfl, rfl, rfl, rfl, rfl, rfl, rfl, rfl, rfl, trivial⟩ (by repeat constructor) ?_
        rintro y hy K2 hK2
        have hlc : lowC (st.take y) gl ≤ y := by unfold lowC; exact Nat.le_trans List.countP_le_length (by rw [List.length_take]; omega)
        have hhc : highC (st.take y) gh ≤ y := by unfold highC; exact Nat.le_trans List.countP_le_length (by rw [List.length_take]; omega)
        (refine q_seq (q_region (ql_pure tabOk rfl rfl (q_nil (q_seq ?_)))))
        refine q_if rfl (fun hc => ?_) (fun hc => ?_)
        · have hy2 : y < st.length := by omega
          have l1 := low_step' st gl y hy2
          have l2 := high_step' st gh y hy2
          clear hc
          (refine q_skip (q_seq (q_block (q_seq (q_region ?_)))))
          refine ql_index tabOk rfl rfl rfl rfl rfl (by omega) (by omega) ?_
          refine ql_load1 (v := .int .i64 st[y]) tabOk rfl rfl rfl (fun w hs => RdI.at (RdE.keep h hs.chg0) y hy2) ?_
          by_cases c1 : st[y] ≤ gl
          · rw [if_pos c1] at l1
            by_cases c2 : gh ≤ st[y]
            · rw [if_pos c2] at l2
              (refine ql_pure tabOk rfl rfl (q_nil (q_seq (q_seq (q_region (ql_pure tabOk rfl rfl (ql_pure tabOk rfl rfl ?_)))))); refine ql_loadBa tabOk rfl rfl rfl ?_; refine ql_leqT tabOk rfl rfl rfl (by omega) (q_nil (q_cond_true rfl (q_region (ql_pure tabOk rfl rfl (ql_ar tabOk rfl rfl rfl rfl (by omega) (by omega) (ql_pure tabOk rfl rfl (q_nil (q_seq (q_region (ql_pure tabOk rfl rfl (ql_pure tabOk rfl rfl ?_))))))))))); refine ql_loadBa tabOk rfl rfl rfl ?_; refine ql_geqT tabOk rfl rfl rfl (by omega) (q_nil (q_cond_true rfl (q_region (ql_pure tabOk rfl rfl (ql_ar tabOk rfl rfl rfl rfl (by omega) (by omega) (ql_pure tabOk rfl rfl (q_nil (q_blk (q_region (ql_ar tabOk rfl rfl rfl rfl (by omega) (by omega) (ql_pure tabOk rfl rfl ?_))))))))))); refine q_nil ?_)
              exact hK2 (y + 1) _ _ (by omega) (by omega) ⟨rfl, rfl, rfl, rfl, rfl, (by refine lookI rfl ?_; omega), (by refine lookI rfl ?_; omega), rfl, rfl, rfl, rfl, rfl, rfl, trivial⟩ (by repeat constructor)
            · rw [if_neg c2] at l2
              (refine ql_pure tabOk rfl rfl (q_nil (q_seq (q_seq (q_region (ql_pure tabOk rfl rfl (ql_pure tabOk rfl rfl ?_)))))); refine ql_loadBa tabOk rfl rfl rfl ?_; refine ql_leqT tabOk rfl rfl rfl (by omega) (q_nil (q_cond_true rfl (q_region (ql_pure tabOk rfl rfl (ql_ar tabOk rfl rfl rfl rfl (by omega) (by omega) (ql_pure tabOk rfl rfl (q_nil (q_seq (q_region (ql_pure tabOk rfl rfl (ql_pure tabOk rfl rfl ?_))))))))))); refine ql_loadBa tabOk rfl rfl rfl ?_; refine ql_geqF tabOk rfl rfl rfl (by omega) (q_nil (q_cond_false rfl (q_skip (q_blk (q_region (ql_ar tabOk rfl rfl rfl rfl (by omega) (by omega) (ql_pure tabOk rfl rfl (q_nil ?_)))))))))
              exact hK2 (y + 1) _ _ (by omega) (by omega) ⟨rfl, rfl, rfl, rfl, rfl, (by refine lookI rfl ?_; omega), (by refine lookI rfl ?_; omega), rfl, rfl, rfl, rfl, rfl, rfl, trivial⟩ (by repeat constructor)
          · rw [if_neg c1] at l1
            by_cases c2 : gh ≤ st[y]
            · rw [if_pos c2] at l2
              (refine ql_pure tabOk rfl rfl (q_nil (q_seq (q_seq (q_region (ql_pure tabOk rfl rfl (ql_pure tabOk rfl rfl ?_)))))); refine ql_loadBa tabOk rfl rfl rfl ?_; refine ql_leqF tabOk rfl rfl rfl (by omega) (q_nil (q_cond_false rfl (q_skip (q_seq (q_region (ql_pure tabOk rfl rfl (ql_pure tabOk rfl rfl ?_))))))); refine ql_loadBa tabOk rfl rfl rfl ?_; refine ql_geqT tabOk rfl rfl rfl (by omega) (q_nil (q_cond_true rfl (q_region (ql_pure tabOk rfl rfl (ql_ar tabOk rfl rfl rfl rfl (by omega) (by omega) (ql_pure tabOk rfl rfl (q_nil (q_blk (q_region (ql_ar tabOk rfl rfl rfl rfl (by omega) (by omega) (ql_pure tabOk rfl rfl ?_))))))))))); refine q_nil ?_)
              exact hK2 (y + 1) _ _ (by omega) (by omega) ⟨rfl, rfl, rfl, rfl, rfl, (by refine lookI rfl ?_; omega), (by refine lookI rfl ?_; omega), rfl, rfl, rfl, rfl, rfl, rfl, trivial⟩ (by repeat constructor)
            · rw [if_neg c2] at l2
              (refine ql_pure tabOk rfl rfl (q_nil (q_seq (q_seq (q_region (ql_pure tabOk rfl rfl (ql_pure tabOk rfl rfl ?_)))))); refine ql_loadBa tabOk rfl rfl rfl ?_; refine ql_leqF tabOk rfl rfl rfl (by omega) (q_nil (q_cond_false rfl (q_skip (q_seq (q_region (ql_pure tabOk rfl rfl (ql_pure tabOk rfl rfl ?_))))))); refine ql_loadBa tabOk rfl rfl rfl ?_; refine ql_geqF tabOk rfl rfl rfl (by omega) (q_nil (q_cond_false rfl (q_skip (q_blk (q_region (ql_ar tabOk rfl rfl rfl rfl (by omega) (by omega) (ql_pure tabOk rfl rfl (q_nil ?_)))))))))
              exact hK2 (y + 1) _ _ (by omega) (by omega) ⟨rfl, rfl, rfl, rfl, rfl, (by refine lookI rfl ?_; omega), (by refine lookI rfl ?_; omega), rfl, rfl, rfl, rfl, rfl, rfl, trivial⟩ (by repeat constructor)
        · obtain rfl : y = st.length := by omega
          clear hc
          rw [List.take_length] at hlc hhc ⊢
          have hbad : gapBad st (prevH gs k) (gl, gh) = true → gapsF st none gs = none := fun h => by rw [hF, if_pos h]; rfl
          have hgood : gapBad st (prevH gs k) (gl, gh) = false → gapsF st none gs = (gapsF st (prevH gs (k + 1)) (gs.drop (k + 1))).map (fun s => s + (sum + (gh - gl))) := fun h => by
            rw [hF, if_neg (by rw [h]; simp), hnext, Option.map_map]
            congr 1
            funext s
            show s + (gh - gl) + sum = _
            omega
          by_cases h1 : gh ≤ gl
          · (refine q_exit _ rfl (q_seq (q_seq ?_)))
            refine q_draw _ [] (Sp.refl _) (by kernel_rfl) (by kernel_rfl) ?_
            (refine qf_pure tabOk rfl rfl rfl ?_; refine qf_loadBa tabOk rfl rfl rfl ?_; refine qf_pure tabOk rfl rfl rfl ?_; refine qf_loadBa tabOk rfl rfl rfl ?_; refine qf_geqT tabOk rfl rfl rfl (by omega) (qf_pure tabOk rfl rfl rfl ?_); (iterate 3 refine qf_gno rfl rfl rfl ?_); (iterate 9 refine qf_gnone rfl rfl ?_); refine qf_gno rfl rfl rfl (qf_pure tabOk rfl rfl rfl (qf_pure tabOk rfl rfl rfl ?_)); (iterate 3 refine qf_gno rfl rfl rfl ?_); refine qf_pure tabOk rfl rfl rfl (qf_pure tabOk rfl rfl rfl ?_); (iterate 6 refine qf_gno rfl rfl rfl ?_); refine qf_pure tabOk rfl rfl rfl (qf_nil (q_cond_true rfl (q_seq (q_region (ql_pure tabOk rfl rfl (ql_pure tabOk rfl rfl (q_nil (q_ret ?_)))))))))
            refine q_fin tabOk rfl (by repeat constructor) fun w hs => ?_
            exact ⟨by rw [hbad (by unfold gapBad; dsimp only; simp [*])]; rfl, hs.chg0⟩
          · by_cases hk0 : k = 0
            · have hp0 := hprev0 hk0
              by_cases h3 : lowC st gl % 2 = 0
              · (refine q_exit _ rfl (q_seq (q_seq ?_)))
                refine q_draw _ [] (Sp.refl _) (by kernel_rfl) (by kernel_rfl) ?_
                (refine qf_pure tabOk rfl rfl rfl ?_; refine qf_loadBa tabOk rfl rfl rfl ?_; refine qf_pure tabOk rfl rfl rfl ?_; refine qf_loadBa tabOk rfl rfl rfl ?_; refine qf_geqF tabOk rfl rfl rfl (by omega) (qf_pure tabOk rfl rfl rfl (qf_gyes rfl (qf_pure tabOk rfl rfl rfl (qf_gyes rfl (qf_gtrF tabOk rfl rfl rfl (by omega) (qf_gyes rfl (qf_pure tabOk rfl rfl rfl ?_))))))); (iterate 9 refine qf_gno rfl rfl rfl ?_); refine qf_gyes rfl ?_; (iterate 3 refine qf_pure tabOk rfl rfl rfl ?_); refine qf_gyes rfl (qf_pure tabOk rfl rfl rfl (qf_gyes rfl (qf_remN rfl rfl rfl (by omega) (by omega) (qf_gyes rfl (qf_eqlT tabOk rfl rfl rfl (by omega) (qf_pure tabOk rfl rfl rfl (qf_pure tabOk rfl rfl rfl ?_))))))); (iterate 6 refine qf_gno rfl rfl rfl ?_); refine qf_pure tabOk rfl rfl rfl (qf_nil (q_cond_true rfl (q_seq (q_region (ql_pure tabOk rfl rfl (ql_pure tabOk rfl rfl (q_nil (q_ret ?_)))))))))
                refine q_fin tabOk rfl (by repeat constructor) fun w hs => ?_
                exact ⟨by rw [hbad (by unfold gapBad; dsimp only; simp [*])]; rfl, hs.chg0⟩
              · by_cases h4 : lowC st gl + highC st gh = st.length
                · have hgd : gapBad st (prevH gs k) (gl, gh) = false := by unfold gapBad; rw [hp0]; dsimp only; simp [h1, h3, h4]
                  have hb2 := hbd hgd
                  (refine q_exit _ rfl (q_seq (q_seq ?_)))
                  refine q_draw _ [] (Sp.refl _) (by kernel_rfl) (by kernel_rfl) ?_
                  (refine qf_pure tabOk rfl rfl rfl ?_; refine qf_loadBa tabOk rfl rfl rfl ?_; refine qf_pure tabOk rfl rfl rfl ?_; refine qf_loadBa tabOk rfl rfl rfl ?_; refine qf_geqF tabOk rfl rfl rfl (by omega) (qf_pure tabOk rfl rfl rfl (qf_gyes rfl (qf_pure tabOk rfl rfl rfl (qf_gyes rfl (qf_gtrF tabOk rfl rfl rfl (by omega) (qf_gyes rfl (qf_pure tabOk rfl rfl rfl ?_))))))); (iterate 9 refine qf_gno rfl rfl rfl ?_); refine qf_gyes rfl ?_; (iterate 3 refine qf_pure tabOk rfl rfl rfl ?_); refine qf_gyes rfl (qf_pure tabOk rfl rfl rfl (qf_gyes rfl (qf_remN rfl rfl rfl (by omega) (by omega) (qf_gyes rfl (qf_eqlF tabOk rfl rfl rfl (by omega) (qf_pure tabOk rfl rfl rfl (qf_pure tabOk rfl rfl rfl (qf_gyes rfl (qf_pure tabOk rfl rfl rfl (qf_gyes rfl (qf_pure tabOk rfl rfl rfl ?_))))))))))); refine qf_gyes rfl (qf_ar tabOk rfl rfl rfl rfl (by omega) (by omega) (qf_gyes rfl (qf_pure tabOk rfl rfl rfl (qf_gyes rfl (qf_pure tabOk rfl rfl rfl (qf_gyes rfl (qf_neqF tabOk rfl rfl rfl (by omega) (qf_pure tabOk rfl rfl rfl (qf_nil (q_cond_false rfl (q_skip ?_))))))))))); refine q_region (ql_pure tabOk rfl rfl (ql_pure tabOk rfl rfl ?_)); refine ql_loadBa tabOk rfl rfl rfl ?_; refine ql_pure tabOk rfl rfl ?_; refine ql_loadBa tabOk rfl rfl rfl ?_; refine ql_ar tabOk rfl rfl rfl rfl (by omega) (by omega) (ql_ar tabOk rfl rfl rfl rfl (by omega) (by omega) (ql_pure tabOk rfl rfl (q_nil (q_blk (q_region (ql_ar tabOk rfl rfl rfl rfl (by omega) (by omega) (ql_pure tabOk rfl rfl (q_nil ?_)))))))))
                  exact hK (k + 1, sum + (gh - gl)) _ _ ⟨by simp only; omega, hgood hgd, by simp only; omega, by simp only; omega⟩ (by simp only; omega) ⟨rfl, rfl, rfl, rfl, rfl, rfl, trivial⟩ (by repeat constructor)
                · (refine q_exit _ rfl (q_seq (q_seq ?_)))
                  refine q_draw _ [] (Sp.refl _) (by kernel_rfl) (by kernel_rfl) ?_
                  (refine qf_pure tabOk rfl rfl rfl ?_; refine qf_loadBa tabOk rfl rfl rfl ?_; refine qf_pure tabOk rfl rfl rfl ?_; refine qf_loadBa tabOk rfl rfl rfl ?_; refine qf_geqF tabOk rfl rfl rfl (by omega) (qf_pure tabOk rfl rfl rfl (qf_gyes rfl (qf_pure tabOk rfl rfl rfl (qf_gyes rfl (qf_gtrF tabOk rfl rfl rfl (by omega) (qf_gyes rfl (qf_pure tabOk rfl rfl rfl ?_))))))); (iterate 9 refine qf_gno rfl rfl rfl ?_); refine qf_gyes rfl ?_; (iterate 3 refine qf_pure tabOk rfl rfl rfl ?_); refine qf_gyes rfl (qf_pure tabOk rfl rfl rfl (qf_gyes rfl (qf_remN rfl rfl rfl (by omega) (by omega) (qf_gyes rfl (qf_eqlF tabOk rfl rfl rfl (by omega) (qf_pure tabOk rfl rfl rfl (qf_pure tabOk rfl rfl rfl (qf_gyes rfl (qf_pure tabOk rfl rfl rfl (qf_gyes rfl (qf_pure tabOk rfl rfl rfl ?_))))))))))); refine qf_gyes rfl (qf_ar tabOk rfl rfl rfl rfl (by omega) (by omega) (qf_gyes rfl (qf_pure tabOk rfl rfl rfl (qf_gyes rfl (qf_pure tabOk rfl rfl rfl (qf_gyes rfl (qf_neqT tabOk rfl rfl rfl (by omega) (qf_pure tabOk rfl rfl rfl (qf_nil (q_cond_true rfl (q_seq ?_))))))))))); refine q_region (ql_pure tabOk rfl rfl (ql_pure tabOk rfl rfl (q_nil (q_ret ?_)))))
                  refine q_fin tabOk rfl (by repeat constructor) fun w hs => ?_
                  exact ⟨by rw [hbad (by unfold gapBad; dsimp only; simp [*])]; rfl, hs.chg0⟩
            · have hp0 := hprev (by omega)
              have hk3 : k - 1 < gs.length := by omega
              have ek : ((k : Int) - 1).toNat = k - 1 := by omega
              generalize hgp : gs[k - 1] = gp at *
              obtain ⟨gp1, gp2⟩ := gp
              dsimp only at *
              (refine q_exit _ rfl (q_seq (q_seq ?_)))
              refine q_draw _ [] (Sp.refl _) (by kernel_rfl) (by kernel_rfl) ?_
              (refine qf_pure tabOk rfl rfl rfl ?_; refine qf_loadBa tabOk rfl rfl rfl ?_; refine qf_pure tabOk rfl rfl rfl ?_; refine qf_loadBa tabOk rfl rfl rfl ?_; refine qf_geqF tabOk rfl rfl rfl (by omega) (qf_pure tabOk rfl rfl rfl (qf_gyes rfl (qf_pure tabOk rfl rfl rfl (qf_gyes rfl (qf_gtrT tabOk rfl rfl rfl (by omega) (qf_gyes rfl (qf_pure tabOk rfl rfl rfl (qf_gyes rfl (qf_pure tabOk rfl rfl rfl (qf_gyes rfl ?_)))))))))); refine qf_loadBa tabOk rfl rfl rfl ?_; refine qf_gyes rfl (qf_pure tabOk rfl rfl rfl (qf_gyes rfl (qf_pure tabOk rfl rfl rfl (qf_gyes rfl (qf_ar tabOk rfl rfl rfl rfl (by omega) (by omega) (qf_gyes rfl ?_)))))))
              refine qf_index tabOk rfl rfl rfl rfl rfl (by omega) (by omega) ?_
              (refine qf_gyes rfl (qf_pure tabOk rfl rfl rfl (qf_gyes rfl ?_)))
              refine qf_load1 (v := .int .i64 gp2) tabOk rfl rfl rfl (fun w hs => by
                rw [ek]
                have := RdS.at1 (RdE.keep hu hs.chg0) (k - 1) hk3
                rw [hgp] at this
                exact this) ?_
              by_cases h2 : gl < gp2
              · (refine qf_gyes rfl (qf_lssT tabOk rfl rfl rfl (by omega) (qf_gyes rfl ?_)); (iterate 3 refine qf_pure tabOk rfl rfl rfl ?_); (iterate 3 refine qf_gno rfl rfl rfl ?_); refine qf_pure tabOk rfl rfl rfl (qf_pure tabOk rfl rfl rfl ?_); (iterate 6 refine qf_gno rfl rfl rfl ?_); refine qf_pure tabOk rfl rfl rfl (qf_nil (q_cond_true rfl (q_seq (q_region (ql_pure tabOk rfl rfl (ql_pure tabOk rfl rfl (q_nil (q_ret ?_)))))))))
                refine q_fin tabOk rfl (by repeat constructor) fun w hs => ?_
                exact ⟨by rw [hbad (by unfold gapBad; dsimp only; simp [*])]; rfl, hs.chg0⟩
              · by_cases h3 : lowC st gl % 2 = 0
                · (refine qf_gyes rfl (qf_lssF tabOk rfl rfl rfl (by omega) (qf_gyes rfl ?_)); (iterate 3 refine qf_pure tabOk rfl rfl rfl ?_); refine qf_gyes rfl (qf_pure tabOk rfl rfl rfl (qf_gyes rfl (qf_remN rfl rfl rfl (by omega) (by omega) (qf_gyes rfl (qf_eqlT tabOk rfl rfl rfl (by omega) (qf_pure tabOk rfl rfl rfl (qf_pure tabOk rfl rfl rfl ?_))))))); (iterate 6 refine qf_gno rfl rfl rfl ?_); refine qf_pure tabOk rfl rfl rfl (qf_nil (q_cond_true rfl (q_seq (q_region (ql_pure tabOk rfl rfl (ql_pure tabOk rfl rfl (q_nil (q_ret ?_)))))))))
                  refine q_fin tabOk rfl (by repeat constructor) fun w hs => ?_
                  exact ⟨by rw [hbad (by unfold gapBad; dsimp only; simp [*])]; rfl, hs.chg0⟩
                · by_cases h4 : lowC st gl + highC st gh = st.length
                  · have hgd : gapBad st (prevH gs k) (gl, gh) = false := by unfold gapBad; dsimp only; simp [*]
                    have hb2 := hbd hgd
                    (refine qf_gyes rfl (qf_lssF tabOk rfl rfl rfl (by omega) (qf_gyes rfl ?_)); (iterate 3 refine qf_pure tabOk rfl rfl rfl ?_); refine qf_gyes rfl (qf_pure tabOk rfl rfl rfl (qf_gyes rfl (qf_remN rfl rfl rfl (by omega) (by omega) (qf_gyes rfl (qf_eqlF tabOk rfl rfl rfl (by omega) (qf_pure tabOk rfl rfl rfl (qf_pure tabOk rfl rfl rfl (qf_gyes rfl (qf_pure tabOk rfl rfl rfl (qf_gyes rfl (qf_pure tabOk rfl rfl rfl ?_))))))))))); refine qf_gyes rfl (qf_ar tabOk rfl rfl rfl rfl (by omega) (by omega) (qf_gyes rfl (qf_pure tabOk rfl rfl rfl (qf_gyes rfl (qf_pure tabOk rfl rfl rfl (qf_gyes rfl (qf_neqF tabOk rfl rfl rfl (by omega) (qf_pure tabOk rfl rfl rfl (qf_nil (q_cond_false rfl (q_skip ?_))))))))))); refine q_region (ql_pure tabOk rfl rfl (ql_pure tabOk rfl rfl ?_)); refine ql_loadBa tabOk rfl rfl rfl ?_; refine ql_pure tabOk rfl rfl ?_; refine ql_loadBa tabOk rfl rfl rfl ?_; refine ql_ar tabOk rfl rfl rfl rfl (by omega) (by omega) (ql_ar tabOk rfl rfl rfl rfl (by omega) (by omega) (ql_pure tabOk rfl rfl (q_nil (q_blk (q_region (ql_ar tabOk rfl rfl rfl rfl (by omega) (by omega) (ql_pure tabOk rfl rfl (q_nil ?_)))))))))
                    exact hK (k + 1, sum + (gh - gl)) _ _ ⟨by simp only; omega, hgood hgd, by simp only; omega, by simp only; omega⟩ (by simp only; omega) ⟨rfl, rfl, rfl, rfl, rfl, rfl, trivial⟩ (by repeat constructor)
                  · (refine qf_gyes rfl (qf_lssF tabOk rfl rfl rfl (by omega) (qf_gyes rfl ?_)); (iterate 3 refine qf_pure tabOk rfl rfl rfl ?_); refine qf_gyes rfl (qf_pure tabOk rfl rfl rfl (qf_gyes rfl (qf_remN rfl rfl rfl (by omega) (by omega) (qf_gyes rfl (qf_eqlF tabOk rfl rfl rfl (by omega) (qf_pure tabOk rfl rfl rfl (qf_pure tabOk rfl rfl rfl (qf_gyes rfl (qf_pure tabOk rfl rfl rfl (qf_gyes rfl (qf_pure tabOk rfl rfl rfl ?_))))))))))); refine qf_gyes rfl (qf_ar tabOk rfl rfl rfl rfl (by omega) (by omega) (qf_gyes rfl (qf_pure tabOk rfl rfl rfl (qf_gyes rfl (qf_pure tabOk rfl rfl rfl (qf_gyes rfl (qf_neqT tabOk rfl rfl rfl (by omega) (qf_pure tabOk rfl rfl rfl (qf_nil (q_cond_true rfl (q_seq ?_))))))))))); refine q_region (ql_pure tabOk rfl rfl (ql_pure tabOk rfl rfl (q_nil (q_ret ?_)))))
                    refine q_fin tabOk rfl (by repeat constructor) fun w hs => ?_
                    exact ⟨by rw [hbad (by unfold gapBad; dsimp only; simp [*])]; rfl, hs.chg0⟩
      · obtain rfl : k = gs.length := by omega
        rw [List.drop_length] at hF
        have e : gapsF st none gs = some sum := by rw [hF]; show some (0 + sum) = _; rw [Int.zero_add]
        rw [e]
        (refine q_exit _ rfl (q_seq (q_region ?_)); (iterate 3 refine ql_pure tabOk rfl rfl ?_); refine q_nil (q_ret ?_))
        refine q_fin tabOk rfl (by repeat constructor) fun w hs => ?_
        exact ⟨rfl, hs.chg0⟩
  · (refine ql_pure tabOk rfl rfl (q_nil (q_seq (q_block (q_seq (q_region (ql_pure tabOk rfl rfl (ql_neqT tabOk rfl rfl rfl (by omega) (ql_pure tabOk rfl rfl (q_nil (q_cond_true rfl (q_seq ?_))))))))))); refine q_region ?_; (iterate 3 refine ql_pure tabOk rfl rfl ?_); refine q_nil (q_ret ?_))
    refine q_fin tabOk rfl (by repeat constructor) fun w hs => ?_
    exact ⟨by unfold gapsV; rw [if_pos he]; rfl, hs.chg0⟩
end Go.Proofs.YtcmpdmobmbbplaaGreat

/- Walks: lists compared. -/
namespace Go.Proofs.YtcmpdmobmbbplaaGreat
set_option maxRecDepth 4000
open Go Go.Eng

def eqIB (a b : List Int) : Bool := decide (a = b) && true
theorem spn_flat : flatB Tryz.prog 64 [some .i64, some .i64] = true := by kernel_rfl
set_option maxHeartbeats 1000000 in
theorem eqS_ca (w : World) (lo hi lo2 hi2 : Nat) (v u : Value) (l : List (Int × Int)) (h1 : RdS w lo hi v l) (h2 : RdS w lo2 hi2 u l) (hlen : l.length ≤ 1000000) :
    Ca Tryz.prog 38 [v, u] w fun r w' => r = .bool true ∧ Chg [] w w' := by
  obtain ⟨a, ca, rfl, hsa⟩ := RdS.outI h1
  obtain ⟨b, cb, rfl, hsb⟩ := RdS.outI h2
  refine q_of (Sat.nil w M0) Tryz.func38 rfl (by simp [Tryz.ntmps38]) ?_
  (refine q_seq (q_region (ql_pure tabOk rfl rfl (q_nil (q_seq (q_seq (q_region ?_)))))); (iterate 4 refine ql_pure tabOk rfl rfl ?_); refine ql_neqF tabOk rfl rfl rfl (by omega) (q_nil (q_cond_false rfl (q_skip (q_seq (q_seq (q_region ?_)))))); (iterate 3 refine ql_pure tabOk rfl rfl ?_); refine q_nil (q_block ?_))
  refine q_loop (σ := Nat) (fun s => s ≤ l.length) (fun s => l.length - s) (fun s => [(0, .slice a l.length ca), (1, .slice b l.length cb), (12, .int .i64 l.length), (13, .int .i64 s)]) (fun _ => []) 0 (by omega) ⟨rfl, rfl, rfl, rfl, trivial⟩ (by repeat constructor) ?_
  intro i hi K hK
  (refine q_seq (q_region (ql_pure tabOk rfl rfl (q_nil (q_seq ?_)))))
  refine q_if rfl (fun hc => ?_) (fun hc => ?_)
  · have hi2 : i < l.length := by omega
    clear hc
    obtain ⟨ba, oa, rfl⟩ := hsa (by omega)
    obtain ⟨bb, ob, rfl⟩ := hsb (by omega)
    (refine q_skip (q_seq (q_block (q_seq (q_region (ql_pure tabOk rfl rfl (ql_pure tabOk rfl rfl (q_nil (q_seq ?_)))))))))
    refine q_draw _ [] (Sp.refl _) (by kernel_rfl) (by kernel_rfl) ?_
    (refine qf_pure tabOk rfl rfl rfl (qf_pure tabOk rfl rfl rfl ?_))
    refine qf_index tabOk rfl rfl rfl rfl rfl (by omega) (by omega) ?_
    refine qf_loadA tabOk rfl rfl rfl rfl (fun w hs => RdS.at (RdE.keep h1 hs.chg0) i hi2) ?_
    (refine qf_pure tabOk rfl rfl rfl (qf_pure tabOk rfl rfl rfl ?_))
    refine qf_index tabOk rfl rfl rfl rfl rfl (by omega) (by omega) ?_
    refine qf_loadA tabOk rfl rfl rfl rfl (fun w hs => RdS.at (RdE.keep h2 hs.chg0) i hi2) ?_
    skip
    refine qf_neF [some .i64, some .i64] spn_flat rfl rfl rfl rfl rfl ?_
    rw [eqL_refl]
    (refine qf_nil (q_cond_false rfl (q_skip (q_blk (q_region (ql_ar tabOk rfl rfl rfl rfl (by omega) (by omega) (ql_pure tabOk rfl rfl (q_nil ?_))))))))
    exact hK (i + 1) _ _ (by omega) (by omega) ⟨rfl, rfl, rfl, rfl, trivial⟩ (by repeat constructor)
  · (refine q_exit _ rfl (q_seq (q_region (ql_pure tabOk rfl rfl (q_nil (q_ret ?_))))))
    refine q_fin tabOk rfl (by repeat constructor) fun w hs => ?_
    exact ⟨rfl, hs.chg0⟩

theorem zone_flat : flatB Tryz.prog 111 [some .i64, some .i64, some .i64] = true := by kernel_rfl
set_option maxHeartbeats 1000000 in
theorem eqZ_ca (w : World) (lo hi lo2 hi2 : Nat) (v u : Value) (l : List Rn) (h1 : RdR w lo hi v l) (h2 : RdR w lo2 hi2 u l) (hlen : l.length ≤ 1000000) :
    Ca Tryz.prog 60 [v, u] w fun r w' => r = .bool true ∧ Chg [] w w' := by
  obtain ⟨a, ca, rfl, hsa⟩ := RdR.outI h1
  obtain ⟨b, cb, rfl, hsb⟩ := RdR.outI h2
  refine q_of (Sat.nil w M0) Tryz.func60 rfl (by simp [Tryz.ntmps60]) ?_
  (refine q_seq (q_region (ql_pure tabOk rfl rfl (q_nil (q_seq (q_seq (q_region ?_)))))); (iterate 4 refine ql_pure tabOk rfl rfl ?_); refine ql_neqF tabOk rfl rfl rfl (by omega) (q_nil (q_cond_false rfl (q_skip (q_seq (q_seq (q_region ?_)))))); (iterate 3 refine ql_pure tabOk rfl rfl ?_); refine q_nil (q_block ?_))
  refine q_loop (σ := Nat) (fun s => s ≤ l.length) (fun s => l.length - s) (fun s => [(0, .slice a l.length ca), (1, .slice b l.length cb), (12, .int .i64 l.length), (13, .int .i64 s)]) (fun _ => []) 0 (by omega) ⟨rfl, rfl, rfl, rfl, trivial⟩ (by repeat constructor) ?_
  intro i hi K hK
  (refine q_seq (q_region (ql_pure tabOk rfl rfl (q_nil (q_seq ?_)))))
  refine q_if rfl (fun hc => ?_) (fun hc => ?_)
  · have hi2 : i < l.length := by omega
    clear hc
    obtain ⟨ba, oa, rfl⟩ := hsa (by omega)
    obtain ⟨bb, ob, rfl⟩ := hsb (by omega)
    (refine q_skip (q_seq (q_block (q_seq (q_region (ql_pure tabOk rfl rfl (ql_pure tabOk rfl rfl (q_nil (q_seq ?_)))))))))
    refine q_draw _ [] (Sp.refl _) (by kernel_rfl) (by kernel_rfl) ?_
    (refine qf_pure tabOk rfl rfl rfl (qf_pure tabOk rfl rfl rfl ?_))
    refine qf_index tabOk rfl rfl rfl rfl rfl (by omega) (by omega) ?_
    refine qf_loadA tabOk rfl rfl rfl rfl (fun w hs => RdR.at (RdE.keep h1 hs.chg0) i hi2) ?_
    (refine qf_pure tabOk rfl rfl rfl (qf_pure tabOk rfl rfl rfl ?_))
    refine qf_index tabOk rfl rfl rfl rfl rfl (by omega) (by omega) ?_
    refine qf_loadA tabOk rfl rfl rfl rfl (fun w hs => RdR.at (RdE.keep h2 hs.chg0) i hi2) ?_
    skip
    refine qf_neF [some .i64, some .i64, some .i64] zone_flat rfl rfl rfl rfl rfl ?_
    rw [eqL_refl]
    (refine qf_nil (q_cond_false rfl (q_skip (q_blk (q_region (ql_ar tabOk rfl rfl rfl rfl (by omega) (by omega) (ql_pure tabOk rfl rfl (q_nil ?_))))))))
    exact hK (i + 1) _ _ (by omega) (by omega) ⟨rfl, rfl, rfl, rfl, trivial⟩ (by repeat constructor)
  · (refine q_exit _ rfl (q_seq (q_region (ql_pure tabOk rfl rfl (q_nil (q_ret ?_))))))
    refine q_fin tabOk rfl (by repeat constructor) fun w hs => ?_
    exact ⟨rfl, hs.chg0⟩
end Go.Proofs.YtcmpdmobmbbplaaGreat

/- Walks: the examples of the chapter. -/
namespace Go.Proofs.YtcmpdmobmbbplaaGreat
set_option maxRecDepth 4000
open Go Go.Eng

theorem Blk.rdS' {w : World} {b c n : Nat} {l : List (Int × Int)} {t : TypeId} (h : Blk w b (spC l) t) (hn : n = l.length) : RdS w 0 w.heap.size (.slice (some ⟨b, 0, none⟩) n c) l := by
  subst hn
  exact RdS.of (Blk.rdN (sz := 2) h (spC_length l))
theorem Blk.rdR' {w : World} {b c n : Nat} {l : List Rn} {t : TypeId} (h : Blk w b (rnC l) t) (hn : n = l.length) : RdR w 0 w.heap.size (.slice (some ⟨b, 0, none⟩) n c) l := by
  subst hn
  exact RdR.of (Blk.rdN (sz := 3) h (rnC_length l))
theorem four_ca (w : World) : Ca Tryz.prog 48 [] w fun x w' => ∃ b : Nat, x = .agg (lbC fourL (.slice (some ⟨b, 0, none⟩) 4 4)).toArray ∧ Sat w M0 [.pt b (rnC fourL.runs) 40] w' := by
  refine q_of (Sat.nil w M0) Tryz.func48 rfl (by simp [Tryz.ntmps48]) ?_
  (refine q_seq (q_region ?_))
  refine ql_alloc zero24 rfl (fun b0 => ?_)
  (refine q_nil (q_seq (q_region ?_)))
  refine ql_mk #[.int .i64 0, .int .i64 1, .int .i64 8] rfl (by kernel_rfl) rfl ?_
  refine ql_mk #[.int .i64 1, .int .i64 2, .int .i64 3] rfl (by kernel_rfl) rfl ?_
  refine ql_mk #[.int .i64 2, .int .i64 1, .int .i64 (-9)] rfl (by kernel_rfl) rfl ?_
  refine ql_mk #[.int .i64 3, .int .i64 0, .int .i64 (-6)] rfl (by kernel_rfl) rfl ?_
  refine ql_mkS 40 (rnC fourL.runs) rfl (by kernel_rfl) rfl (fun b5 => ?_)
  refine ql_mk #[.int .i64 4, .int .i64 5, .slice (some ⟨b5, 0, none⟩) 4 4] rfl (by kernel_rfl) rfl ?_
  (refine ql_setA tabOk rfl rfl rfl rfl rfl (by repeat constructor) rfl ?_; refine q_nil (q_ret ?_))
  refine q_fin tabOk rfl (by repeat constructor) fun w hs => ?_
  exact ⟨b5, rfl, hs.sp (by repeat constructor)⟩
theorem three_ca (w : World) : Ca Tryz.prog 50 [] w fun x w' => ∃ y : Nat × Nat × Nat × Nat, x = .slice (some ⟨y.2.2.2, 0, none⟩) 3 3 ∧ Sat w M0 [.pt y.2.2.2 [.slice (some ⟨y.1, 0, none⟩) 4 4, .slice (some ⟨y.2.1, 0, none⟩) 4 4, .slice (some ⟨y.2.2.1, 0, none⟩) 4 4] 48, .pt y.2.2.1 (ints [9, 9, 2, 1]) 3, .pt y.2.1 (ints [6, 2, 3, 8]) 3, .pt y.1 (ints [5, 4, 9, 9]) 3] w' := by
  refine q_of (Sat.nil w M0) Tryz.func50 rfl (by simp [Tryz.ntmps50]) ?_
  (refine q_seq (q_region (ql_pure tabOk rfl rfl (q_nil (q_seq (q_region ?_))))))
  refine ql_mkS 3 (ints [5, 4, 9, 9]) rfl (by kernel_rfl) rfl (fun c1 => ?_)
  refine ql_mkS 3 (ints [6, 2, 3, 8]) rfl (by kernel_rfl) rfl (fun c2 => ?_)
  refine ql_mkS 3 (ints [9, 9, 2, 1]) rfl (by kernel_rfl) rfl (fun c3 => ?_)
  refine ql_mkS 48 [.slice (some ⟨c1, 0, none⟩) 4 4, .slice (some ⟨c2, 0, none⟩) 4 4, .slice (some ⟨c3, 0, none⟩) 4 4] rfl (by kernel_rfl) rfl (fun c4 => ?_)
  (refine ql_pure tabOk rfl rfl (q_nil (q_ret ?_)))
  refine q_fin tabOk rfl (by repeat constructor) fun w hs => ?_
  exact ⟨(c1, c2, c3, c4), rfl, hs.sp (by repeat constructor)⟩
theorem six_ca (w : World) : Ca Tryz.prog 51 [] w fun x w' => ∃ b : Nat, x = .slice (some ⟨b, 0, none⟩) 6 6 ∧ Sat w M0 [.pt b (ints sixL) 3] w' := by
  refine q_of (Sat.nil w M0) Tryz.func51 rfl (by simp [Tryz.ntmps51]) ?_
  (refine q_seq (q_region (ql_pure tabOk rfl rfl (q_nil (q_seq (q_region ?_))))))
  refine ql_mkS 3 (ints sixL) rfl (by kernel_rfl) rfl (fun c1 => ?_)
  (refine ql_pure tabOk rfl rfl (q_nil (q_ret ?_)))
  refine q_fin tabOk rfl (by repeat constructor) fun w hs => ?_
  exact ⟨c1, rfl, hs.sp (by repeat constructor)⟩
theorem span_ca (lo hi : Int) (w : World) : Ca Tryz.prog 52 [.int .i64 lo, .int .i64 hi] w fun x w' => x = rtV (lo, hi) ∧ Chg [] w w' := by
  refine q_of (Sat.nil w M0) Tryz.func52 rfl (by simp [Tryz.ntmps52]) ?_
  (refine q_seq (q_region ?_))
  refine ql_alloc zero64 rfl (fun b4 => ?_)
  (refine q_nil (q_seq (q_region (ql_pure tabOk rfl rfl (ql_pure tabOk rfl rfl ?_)))))
  refine ql_mk #[.int .i64 lo, .int .i64 hi] rfl (by kernel_rfl) rfl ?_
  (refine ql_setA tabOk rfl rfl rfl rfl rfl (by repeat constructor) rfl ?_; refine q_nil (q_ret ?_))
  refine q_fin tabOk rfl (by repeat constructor) fun w hs => ?_
  exact ⟨rfl, hs.chg0⟩
theorem blk_II {w : World} {c1 c2 c3 c4 : Nat} {t1 t2 t3 t4 : TypeId} {l1 l2 l3 : List Int} {n1 n2 n3 : Nat} (e1 : n1 = l1.length) (e2 : n2 = l2.length) (e3 : n3 = l3.length) (h1 : Blk w c1 (ints l1) t1) (h2 : Blk w c2 (ints l2) t2) (h3 : Blk w c3 (ints l3) t3)
    (h4 : Blk w c4 [.slice (some ⟨c1, 0, none⟩) n1 n1, .slice (some ⟨c2, 0, none⟩) n2 n2, .slice (some ⟨c3, 0, none⟩) n3 n3] t4) : RdII w 0 w.heap.size (.slice (some ⟨c4, 0, none⟩) 3 3) [l1, l2, l3] := by
  subst e1 e2 e3
  refine ⟨[.slice (some ⟨c1, 0, none⟩) l1.length l1.length, .slice (some ⟨c2, 0, none⟩) l2.length l2.length, .slice (some ⟨c3, 0, none⟩) l3.length l3.length], RdE.one (by have := Blk.rdN (c := 3) (sz := 1) (q := 3) h4 rfl; exact this) (by simp [oneV]), rfl, fun i hi hi' => ?_⟩
  obtain rfl | rfl | rfl : i = 0 ∨ i = 1 ∨ i = 2 := by simp at hi; omega
  · exact Blk.rdI h1
  · exact Blk.rdI h2
  · exact Blk.rdI h3
theorem aw_ok : fourL.Ok ∧ NoC fourL.ord fourL.n := agreed_iff.1 aw_check
theorem aw_plan : PlanOk fourL 4 := planned_iff.1 (by decide +kernel)
theorem aw_few2 : planO fourL.n 4 fourL.ord = 2 := by decide +kernel
theorem aw_n : fourL.n = 4 := by decide
theorem aw_ord2 : cnt fourL.ord fourL.n (2 ^ fourL.n - 1) = 3 := aw_orders
theorem aw_pl2 : plC fourL fourL.ord fourL.n = [(1, 1), (2, 3), (3, 4), (2, 4)] := aw_places
theorem aw_wax2 : bestV threeT 0 2 = (1, 1, 0) := by decide +kernel
theorem aw_lim : limitV threeT 1 = 0 := by decide +kernel
set_option maxHeartbeats 4000000 in
set_option maxRecDepth 4000 in
theorem awake_ca (w : World) : Ca Tryz.prog 10 [] w fun v w' => v = .bool true ∧ Chg [] w w' := by
  refine q_of (Sat.nil w M0) Tryz.func10 rfl (by simp [Tryz.ntmps10]) ?_
  have hF : ∀ w' b, Blk w' b (rnC fourL.runs) 40 → RdR w' 0 w'.heap.size (.slice (some ⟨b, 0, none⟩) 4 4) fourL.runs := fun w' b hb => Blk.rdR' hb rfl
  (refine q_seq (q_region (ql_pure tabOk rfl rfl (q_nil (q_seq (q_region ?_))))))
  refine ql_call (β := Nat) tabOk [] _ M0 rfl rfl rfl rfl (Sp.refl _) (fun _ h => h.elim) (fun w' hs => four_ca w') ?_
  rintro b1 _ rfl
  dsimp only [List.cons_append, List.nil_append]
  refine ql_call (β := Value) tabOk [] _ M0 rfl rfl rfl rfl (Sp.refl _) (fun _ h => h.elim) (fun w' hs => places_ok w' 0 w'.heap.size fourL _ (hF w' b1 (hs.blk (by repeat constructor))) aw_ok.1 aw_ok.2) ?_
  rintro va _ rfl
  rw [aw_pl2, aw_n]
  dsimp only [List.cons_append, List.nil_append]
  refine ql_fact (fun w hs => hs.ownSome (v := va) (by repeat constructor) (by decide)) ?_
  rintro ⟨a1, a2, rfl⟩
  (refine ql_pure tabOk rfl rfl (ql_ext tabOk rfl rfl rfl (ql_ext tabOk rfl rfl rfl (ql_pure tabOk rfl rfl (ql_pure tabOk rfl rfl (q_nil (q_seq (q_region ?_))))))))
  refine ql_call (β := Nat) tabOk [] _ M0 rfl rfl rfl rfl (Sp.refl _) (fun _ h => h.elim) (fun w' hs => four_ca w') ?_
  rintro b2 _ rfl
  dsimp only [List.cons_append, List.nil_append]
  refine ql_callv (val := .tuple #[.int .i64 3, .int .i64 0]) tabOk rfl rfl rfl rfl (fun w hs => ?_) ?_; exact by have := orders_ok w 0 w.heap.size fourL _ (hF w b2 (hs.blk (by repeat constructor))) aw_ok.1 aw_ok.2; rw [aw_ord2] at this; exact this
  (refine ql_pure tabOk rfl rfl (ql_ext tabOk rfl rfl rfl (ql_ext tabOk rfl rfl rfl (ql_pure tabOk rfl rfl (ql_pure tabOk rfl rfl (q_nil (q_seq (q_region ?_))))))))
  refine ql_call (β := Nat) tabOk [] _ M0 rfl rfl rfl rfl (Sp.refl _) (fun _ h => h.elim) (fun w' hs => four_ca w') ?_
  rintro b3 _ rfl
  dsimp only [List.cons_append, List.nil_append]
  refine ql_mkS 3 (ints [0, 2]) rfl (by kernel_rfl) rfl (fun c1 => ?_)
  refine ql_callv (val := .tuple #[.bool true, .int .i64 0]) tabOk rfl rfl rfl rfl (fun w hs => ?_) ?_; exact by have := chainShows_ca w 0 w.heap.size 0 w.heap.size fourL _ 0 2 _ [0, 2] (hF w b3 (hs.blk (by repeat constructor))) (by decide) (Blk.rdI (c := 2) (hs.blk (b := c1) (by repeat constructor))) (by decide); rw [aw_chain] at this; exact this
  (refine ql_pure tabOk rfl rfl (ql_ext tabOk rfl rfl rfl (ql_ext tabOk rfl rfl rfl (ql_pure tabOk rfl rfl (ql_pure tabOk rfl rfl (q_nil (q_seq (q_region ?_))))))))
  refine ql_call (β := Nat) tabOk [] _ M0 rfl rfl rfl rfl (Sp.refl _) (fun _ h => h.elim) (fun w' hs => four_ca w') ?_
  rintro b4 _ rfl
  dsimp only [List.cons_append, List.nil_append]
  refine ql_callv (val := .tuple #[.int .i64 2, .int .i64 0]) tabOk rfl rfl rfl rfl (fun w hs => ?_) ?_; exact by have := fewest_ok w 0 w.heap.size fourL _ 4 (hF w b4 (hs.blk (by repeat constructor))) aw_plan; rw [aw_few2] at this; exact this
  (refine ql_pure tabOk rfl rfl (ql_ext tabOk rfl rfl rfl (ql_ext tabOk rfl rfl rfl (ql_pure tabOk rfl rfl (ql_pure tabOk rfl rfl (q_nil (q_seq (q_seq (q_region (ql_pure tabOk rfl rfl (ql_neqF tabOk rfl rfl rfl (by omega) (ql_pure tabOk rfl rfl ?_))))))))))); refine ql_gyes rfl (ql_pure tabOk rfl rfl (ql_gyes rfl (ql_neqF tabOk rfl rfl rfl (by omega) (ql_pure tabOk rfl rfl (ql_pure tabOk rfl rfl (ql_gyes rfl (ql_pure tabOk rfl rfl (ql_gyes rfl (ql_neqF tabOk rfl rfl rfl (by omega) (ql_pure tabOk rfl rfl (ql_pure tabOk rfl rfl ?_))))))))))); refine ql_gyes rfl (ql_pure tabOk rfl rfl (ql_gyes rfl (ql_neqF tabOk rfl rfl rfl (by omega) (ql_pure tabOk rfl rfl (ql_pure tabOk rfl rfl (ql_gyes rfl (ql_pure tabOk rfl rfl (ql_gyes rfl ?_)))))))))
  refine ql_callv (val := rtV (1, 1)) tabOk rfl rfl rfl rfl (fun w hs => ?_) ?_; exact span_ca 1 1 w
  refine ql_gyes rfl ?_
  refine ql_callv (val := rtV (2, 3)) tabOk rfl rfl rfl rfl (fun w hs => ?_) ?_; exact span_ca 2 3 w
  refine ql_gyes rfl ?_
  refine ql_callv (val := rtV (3, 4)) tabOk rfl rfl rfl rfl (fun w hs => ?_) ?_; exact span_ca 3 4 w
  refine ql_gyes rfl ?_
  refine ql_callv (val := rtV (2, 4)) tabOk rfl rfl rfl rfl (fun w hs => ?_) ?_; exact span_ca 2 4 w
  refine ql_gyes rfl ?_
  refine ql_mkS 64 (spC [(1, 1), (2, 3), (3, 4), (2, 4)]) rfl (by kernel_rfl) rfl (fun c2 => ?_)
  refine ql_gyes rfl ?_
  refine ql_callv (val := .bool true) tabOk rfl rfl rfl rfl (fun w hs => ?_) ?_; exact eqS_ca w 0 w.heap.size 0 w.heap.size _ _ [(1, 1), (2, 3), (3, 4), (2, 4)] (own_rdS (t := 64) (hs.mem (c := .ow (.slice (some ⟨a1, 0, none⟩) 4 a2) 64 2 4 (spC [(1, 1), (2, 3), (3, 4), (2, 4)])) (by repeat constructor)) rfl) (Blk.rdS' (c := 4) (hs.blk (b := c2) (by repeat constructor)) rfl) (by decide)
  (refine ql_gyes rfl ?_; (iterate 3 refine ql_pure tabOk rfl rfl ?_); refine ql_gyes rfl (ql_pure tabOk rfl rfl (ql_gyes rfl (ql_neqF tabOk rfl rfl rfl (by omega) (ql_pure tabOk rfl rfl (ql_pure tabOk rfl rfl (ql_gyes rfl (ql_pure tabOk rfl rfl (ql_gyes rfl ?_)))))))); (iterate 3 refine ql_pure tabOk rfl rfl ?_); refine ql_gyes rfl (ql_pure tabOk rfl rfl (ql_gyes rfl (ql_neqF tabOk rfl rfl rfl (by omega) (ql_pure tabOk rfl rfl (q_nil (q_cond_false rfl (q_skip (q_seq (q_region ?_))))))))))
  have hT : ∀ w' x1 x2 x3 x4, Blk w' x4 [.slice (some ⟨x1, 0, none⟩) 4 4, .slice (some ⟨x2, 0, none⟩) 4 4, .slice (some ⟨x3, 0, none⟩) 4 4] 48 → Blk w' x3 (ints [9, 9, 2, 1]) 3 → Blk w' x2 (ints [6, 2, 3, 8]) 3 → Blk w' x1 (ints [5, 4, 9, 9]) 3 → RdII w' 0 w'.heap.size (.slice (some ⟨x4, 0, none⟩) 3 3) threeT := fun w' x1 x2 x3 x4 h4 h3 h2 h1 => blk_II (l1 := [5, 4, 9, 9]) (l2 := [6, 2, 3, 8]) (l3 := [9, 9, 2, 1]) rfl rfl rfl h1 h2 h3 h4
  refine ql_call (β := Nat × Nat × Nat × Nat) tabOk [] _ M0 rfl rfl rfl rfl (Sp.refl _) (fun _ h => h.elim) (fun w' hs => three_ca w') ?_
  rintro ⟨x1, x2, x3, x4⟩ _ rfl
  dsimp only [List.cons_append, List.nil_append]
  refine ql_callv (val := .tuple #[.int .i64 1, .int .i64 1, .int .i64 0]) tabOk rfl rfl rfl rfl (fun w hs => ?_) ?_; exact by have := wax_ca w 0 w.heap.size _ threeT 0 2 (hT w x1 x2 x3 x4 (hs.blk (by repeat constructor)) (hs.blk (by repeat constructor)) (hs.blk (by repeat constructor)) (hs.blk (by repeat constructor))); rw [aw_wax2] at this; exact this
  (refine ql_pure tabOk rfl rfl ?_; (iterate 3 refine ql_ext tabOk rfl rfl rfl ?_); (iterate 3 refine ql_pure tabOk rfl rfl ?_); refine q_nil (q_seq (q_region ?_)))
  refine ql_call (β := Nat × Nat × Nat × Nat) tabOk [] _ M0 rfl rfl rfl rfl (Sp.refl _) (fun _ h => h.elim) (fun w' hs => three_ca w') ?_
  rintro ⟨y1, y2, y3, y4⟩ _ rfl
  dsimp only [List.cons_append, List.nil_append]
  refine ql_call (β := Value) tabOk [] _ M0 rfl rfl rfl rfl (Sp.refl _) (fun _ h => h.elim) (fun w' hs => zones_ok w' 0 w'.heap.size _ threeT 1 (hT w' y1 y2 y3 y4 (hs.blk (by repeat constructor)) (hs.blk (by repeat constructor)) (hs.blk (by repeat constructor)) (hs.blk (by repeat constructor))) aw_lim) ?_
  rintro vz _ rfl
  rw [aw_zones]
  dsimp only [List.cons_append, List.nil_append, List.length_cons, List.length_nil]
  refine ql_fact (fun w hs => hs.ownSome (v := vz) (by repeat constructor) (by decide)) ?_
  rintro ⟨z1, z2, rfl⟩
  (refine ql_pure tabOk rfl rfl (ql_ext tabOk rfl rfl rfl (ql_ext tabOk rfl rfl rfl (ql_pure tabOk rfl rfl (ql_pure tabOk rfl rfl (q_nil (q_seq (q_region ?_))))))))
  refine ql_call (β := Nat × Nat × Nat × Nat) tabOk [] _ M0 rfl rfl rfl rfl (Sp.refl _) (fun _ h => h.elim) (fun w' hs => three_ca w') ?_
  rintro ⟨u1, u2, u3, u4⟩ _ rfl
  dsimp only [List.cons_append, List.nil_append]
  refine ql_mkS 3 (ints [0, 3]) rfl (by kernel_rfl) rfl (fun c3 => ?_)
  refine ql_callv (val := .tuple #[.bool true, .int .i64 0]) tabOk rfl rfl rfl rfl (fun w hs => ?_) ?_; exact by have := breaksShow_ca w 0 w.heap.size 0 w.heap.size _ _ threeT 1 [0, 3] (hT w u1 u2 u3 u4 (hs.blk (by repeat constructor)) (hs.blk (by repeat constructor)) (hs.blk (by repeat constructor)) (hs.blk (by repeat constructor))) (Blk.rdI (c := 2) (hs.blk (b := c3) (by repeat constructor))) (by decide); rw [aw_breaks] at this; exact this
  (refine ql_pure tabOk rfl rfl (ql_ext tabOk rfl rfl rfl (ql_ext tabOk rfl rfl rfl (ql_pure tabOk rfl rfl (ql_pure tabOk rfl rfl (q_nil (q_seq (q_region ?_))))))))
  refine ql_call (β := Nat) tabOk [] _ M0 rfl rfl rfl rfl (Sp.refl _) (fun _ h => h.elim) (fun w' hs => six_ca w') ?_
  rintro s1 _ rfl
  dsimp only [List.cons_append, List.nil_append]
  refine ql_call (β := Value) tabOk [] _ M0 rfl rfl rfl rfl (Sp.refl _) (fun _ h => h.elim) (fun w' hs => match_ok w' 0 w'.heap.size _ sixL (show RdI w' 0 w'.heap.size (.slice (some ⟨s1, 0, none⟩) 6 6) sixL from Blk.rdI (c := 6) (l := sixL) (hs.blk (b := s1) (by repeat constructor))) (sing_iff.1 aw_sing)) ?_
  rintro vm _ rfl
  rw [aw_cost]
  dsimp only [List.cons_append, List.nil_append]
  (refine ql_pure tabOk rfl rfl ?_; (iterate 3 refine ql_ext tabOk rfl rfl rfl ?_); (iterate 3 refine ql_pure tabOk rfl rfl ?_); refine q_nil (q_seq (q_region ?_)))
  refine ql_call (β := Nat) tabOk [] _ M0 rfl rfl rfl rfl (Sp.refl _) (fun _ h => h.elim) (fun w' hs => six_ca w') ?_
  rintro s2 _ rfl
  dsimp only [List.cons_append, List.nil_append]
  refine ql_callv (val := rtV (20, 23)) tabOk rfl rfl rfl rfl (fun w hs => ?_) ?_; exact span_ca 20 23 w
  refine ql_callv (val := rtV (38, 41)) tabOk rfl rfl rfl rfl (fun w hs => ?_) ?_; exact span_ca 38 41 w
  refine ql_callv (val := rtV (50, 60)) tabOk rfl rfl rfl rfl (fun w hs => ?_) ?_; exact span_ca 50 60 w
  refine ql_mkS 64 (spC [(20, 23), (38, 41), (50, 60)]) rfl (by kernel_rfl) rfl (fun c4 => ?_)
  refine ql_callv (val := .tuple #[.int .i64 16, .int .i64 0]) tabOk rfl rfl rfl rfl (fun w hs => ?_) ?_; exact by have := gapsShow_ca w 0 w.heap.size 0 w.heap.size _ _ sixL [(20, 23), (38, 41), (50, 60)] (show RdI w 0 w.heap.size (.slice (some ⟨s2, 0, none⟩) 6 6) sixL from Blk.rdI (c := 6) (l := sixL) (hs.blk (b := s2) (by repeat constructor))) (Blk.rdS' (c := 3) (hs.blk (b := c4) (by repeat constructor)) rfl) (by decide); rw [aw_gaps] at this; exact this
  (refine ql_pure tabOk rfl rfl (ql_ext tabOk rfl rfl rfl (ql_ext tabOk rfl rfl rfl (ql_pure tabOk rfl rfl (ql_pure tabOk rfl rfl (q_nil (q_seq (q_region (ql_pure tabOk rfl rfl (ql_eqlT tabOk rfl rfl rfl (by omega) (ql_pure tabOk rfl rfl (ql_gyes rfl ?_))))))))))); refine ql_pure tabOk rfl rfl (ql_gyes rfl (ql_eqlT tabOk rfl rfl rfl (by omega) (ql_pure tabOk rfl rfl (ql_pure tabOk rfl rfl (ql_gyes rfl (ql_pure tabOk rfl rfl (ql_gyes rfl (ql_eqlT tabOk rfl rfl rfl (by omega) (ql_pure tabOk rfl rfl (ql_pure tabOk rfl rfl (ql_gyes rfl ?_))))))))))); refine ql_pure tabOk rfl rfl (ql_gyes rfl (ql_eqlT tabOk rfl rfl rfl (by omega) (ql_pure tabOk rfl rfl (ql_pure tabOk rfl rfl (ql_gyes rfl (ql_pure tabOk rfl rfl (ql_gyes rfl (ql_eqlT tabOk rfl rfl rfl (by omega) (ql_pure tabOk rfl rfl (ql_pure tabOk rfl rfl (ql_gyes rfl ?_))))))))))); refine ql_pure tabOk rfl rfl (ql_gyes rfl (ql_eqlT tabOk rfl rfl rfl (by omega) (ql_pure tabOk rfl rfl (ql_pure tabOk rfl rfl (ql_gyes rfl (ql_pure tabOk rfl rfl (ql_gyes rfl (ql_eqlT tabOk rfl rfl rfl (by omega) (ql_pure tabOk rfl rfl (ql_pure tabOk rfl rfl (ql_gyes rfl ?_))))))))))); refine ql_pure tabOk rfl rfl (ql_gyes rfl ?_))
  refine ql_mk #[.int .i64 0, .int .i64 2, .int .i64 1] rfl (by kernel_rfl) rfl ?_
  refine ql_gyes rfl ?_
  refine ql_mk #[.int .i64 3, .int .i64 3, .int .i64 2] rfl (by kernel_rfl) rfl ?_
  refine ql_gyes rfl ?_
  refine ql_mkS 111 (rnC [⟨0, 2, 1⟩, ⟨3, 3, 2⟩]) rfl (by kernel_rfl) rfl (fun c5 => ?_)
  refine ql_gyes rfl ?_
  refine ql_callv (val := .bool true) tabOk rfl rfl rfl rfl (fun w hs => ?_) ?_; exact eqZ_ca w 0 w.heap.size 0 w.heap.size _ _ [⟨0, 2, 1⟩, ⟨3, 3, 2⟩] (own_rdR (t := 111) (hs.mem (c := .ow (.slice (some ⟨z1, 0, none⟩) 2 z2) 111 3 2 (rnC [⟨0, 2, 1⟩, ⟨3, 3, 2⟩])) (by repeat constructor)) rfl) (Blk.rdR' (c := 2) (hs.blk (b := c5) (by repeat constructor)) rfl) (by decide)
  (refine ql_pure tabOk rfl rfl (ql_pure tabOk rfl rfl (ql_gyes rfl ?_)); (iterate 3 refine ql_pure tabOk rfl rfl ?_); refine ql_gyes rfl (ql_pure tabOk rfl rfl (ql_gyes rfl (ql_eqlT tabOk rfl rfl rfl (by omega) (ql_pure tabOk rfl rfl (ql_pure tabOk rfl rfl (ql_gyes rfl (ql_pure tabOk rfl rfl (ql_gyes rfl (ql_pure tabOk rfl rfl (ql_gyes rfl (ql_eqlT tabOk rfl rfl rfl (by omega) ?_))))))))))); refine ql_pure tabOk rfl rfl (ql_pure tabOk rfl rfl (q_nil (q_ret ?_))))
  refine q_fin tabOk rfl (by repeat constructor) fun w hs => ?_
  exact ⟨rfl, hs.chg0⟩
end Go.Proofs.YtcmpdmobmbbplaaGreat

/- Walks: klisterkit's deck. Only the ranges of what it deals are told. -/
namespace Go.Proofs.YtcmpdmobmbbplaaGreat
set_option maxRecDepth 4000
open Go Go.Eng

section
attribute [local irreducible] IntKind.wrap Int.tmod Int.tdiv

/-- The deck's own variable, after at most K cards. -/
def DkS (w : World) (b : Nat) (bs : Value) (K : Nat) : Prop :=
  ∃ next st, Blk w b [bs, .int .i64 next, .int .u32 st] 137 ∧ 0 ≤ next ∧ next ≤ K ∧ 0 ≤ st ∧ st < 4294967296
/-- Its bytes. -/
def DkB (w : World) (lo hi : Nat) (bs : Value) : Prop := ∃ nb cs, Rd w lo hi bs 1 nb cs ∧ (∀ c ∈ cs, ∃ x, c = .int .u8 x ∧ 0 ≤ x ∧ x < 256)
theorem DkB.keep {w w' : World} {lo hi : Nat} {bs : Value} (h : DkB w lo hi bs) (c : Chg [] w w') : DkB w' lo hi bs := by
  obtain ⟨nb, cs, h1, h2⟩ := h
  exact ⟨nb, cs, h1.keep c, h2⟩

set_option maxHeartbeats 1000000 in
theorem draw_ca (n : Int) (K : Nat) (hK : K < 4611686018427387904) (w : World) (b lo hi : Nat) (bs : Value) (hby : DkB w lo hi bs) (hlh : hi ≤ b) (hd : DkS w b bs K) :
    Ca Tryz.prog 23 [.pointer (some ⟨b, 0, none⟩), .int .i64 n] w fun v w' => ∃ r, v = .int .i64 r ∧ 0 ≤ r ∧ (r < n ∨ r = 0) ∧ Chg [b] w w' ∧ w'.heap.size = w.heap.size ∧ DkS w' b bs (K + 1) := by
  obtain ⟨nb, cs, hrd, hcs⟩ := hby
  obtain ⟨next, st, hb, hn0, hnK, hs0, hs1⟩ := hd
  have hd : DkS w b bs (K + 1) := ⟨next, st, hb, hn0, by omega, hs0, hs1⟩
  obtain ⟨a, cap, rfl, hsl⟩ := hrd.out
  refine ca_of Tryz.func23 rfl (by simp [Tryz.ntmps23]) ?_
  (refine y_seq (y_region (yl_pure tabOk rfl rfl (y_seq (y_seq (y_region ?_))))); (iterate 3 refine yl_pure tabOk rfl rfl ?_))
  refine yl_split rfl rfl (fun hc => ?_) (fun hc => ?_)
  · ((iterate 6 refine yl_guard_no rfl rfl rfl ?_); refine yl_pure tabOk rfl rfl (y_cond_true rfl (y_seq (y_region (yl_pure tabOk rfl rfl (y_ret ?_))))))
    exact y_fin1 rfl rfl ⟨0, rfl, by omega, .inr rfl, Chg.refl _ _, rfl, hd⟩
  (refine yl_guard_yes rfl (yl_pure tabOk rfl rfl (yl_guard_yes rfl (yl_pure tabOk rfl rfl (yl_guard_yes rfl (yl_pure tabOk rfl rfl (yl_guard_yes rfl ?_)))))); refine yl_loadB tabOk rfl rfl rfl (by assumption) (by rfl) ?_; refine yl_guard_yes rfl (yl_pure tabOk rfl rfl (yl_guard_yes rfl (yl_pure tabOk rfl rfl (yl_pure tabOk rfl rfl (yl_nil ?_))))))
  have hn := of_decide_eq_false hc
  refine y_if rfl (fun hc => ?_) (fun hc => ?_)
  · (refine y_seq (y_region (yl_pure tabOk rfl rfl (y_ret ?_))))
    exact y_fin1 rfl rfl ⟨0, rfl, by omega, .inr rfl, Chg.refl _ _, rfl, hd⟩
  have hnb : 0 < nb := by omega
  obtain ⟨bb, off, rfl, hcell⟩ := hsl hnb
  (refine y_skip (y_seq ?_))
  refine y_draw [] (by kernel_rfl) (by kernel_rfl) (fun w1 hc1 hs1 => ?_)
  have hb1 := hb.keep hc1
  ((iterate 3 refine yf_pure tabOk rfl rfl rfl ?_); refine yf_loadB tabOk rfl rfl rfl (by assumption) (by first | assumption | simp) (by rfl) ?_; (iterate 3 refine yf_pure tabOk rfl rfl rfl ?_); refine yf_loadB tabOk rfl rfl rfl (by assumption) (by first | assumption | simp) (by rfl) ?_; (iterate 3 refine yf_pure tabOk rfl rfl rfl ?_); refine yf_loadB tabOk rfl rfl rfl (by assumption) (by first | assumption | simp) (by rfl) ?_; refine yf_pure tabOk rfl rfl rfl ?_)
  have hlen : cs.length = nb := by have := hrd.1; omega
  have hm := tmod_pos hn0 (by omega : (0 : Int) < nb)
  refine yf_rem rfl rfl (by omega) rfl ?_
  refine yf_index tabOk rfl rfl rfl rfl rfl hm.1 hm.2 ?_
  obtain ⟨x, hx, hx0, hx1⟩ := hcs (cs[(next.tmod nb).toNat]'(by omega)) (List.getElem_mem _)
  refine yf_load1 tabOk rfl rfl rfl (fun w' hw' => ?_) (v := .int .u8 x) ?_
  · have h1 := ((hrd.keep hc1).keep hw').cell rfl (next.tmod nb).toNat (by omega)
    rw [Nat.mul_one, h1, List.getElem?_eq_getElem (by omega), hx]
  ((iterate 4 refine yf_pure tabOk rfl rfl rfl ?_); refine yf_loadB tabOk rfl rfl rfl (by assumption) (by first | assumption | simp) (by rfl) ?_; (iterate 3 refine yf_pure tabOk rfl rfl rfl ?_); refine yf_loadB tabOk rfl rfl rfl (by assumption) (by first | assumption | simp) (by rfl) ?_; refine yf_pure tabOk rfl rfl rfl ?_)
  refine yf_quo rfl rfl (by omega) rfl ?_
  ((iterate 3 refine yf_pure tabOk rfl rfl rfl ?_); refine y_seq (y_region ?_); (iterate 3 refine yl_pure tabOk rfl rfl ?_); refine yl_loadB tabOk rfl rfl rfl (by assumption) (by rfl) ?_; (iterate 3 refine yl_pure tabOk rfl rfl ?_))
  refine yl_store1 tabOk rfl rfl rfl rfl (by assumption) (by simp) (fun w2 hc2 hs2 hb2 => ?_)
  (refine y_seq (y_region ?_); (iterate 4 refine yl_pure tabOk rfl rfl ?_); refine yl_loadB tabOk rfl rfl rfl (by assumption) (by rfl) ?_; (iterate 7 refine yl_pure tabOk rfl rfl ?_))
  refine yl_rem rfl rfl (by omega) rfl ?_
  (refine yl_pure tabOk rfl rfl (yl_pure tabOk rfl rfl ?_))
  refine yl_store1 tabOk rfl rfl rfl rfl (by assumption) (by simp) (fun w3 hc3 hs3 hb3 => ?_)
  have hc03 : Chg [b] w w3 := (hc1.nil.trans hc2).trans hc3
  generalize hq : IntKind.u32.wrap (IntKind.i64.wrap (next.tdiv nb)) = q at *
  clear hq
  generalize hz : Int.tmod _ 65519 = z at *
  have hz0 : 0 ≤ z ∧ z < 65519 := by rw [← hz]; exact tmod_pos (wu32_range _).1 (by omega)
  clear hz
  have hd3 : DkS w3 b (.slice (some ⟨bb, off, none⟩) nb cap) (K + 1) := by
    refine ⟨next + 1, z, ?_, by omega, by omega, hz0.1, by omega⟩
    rw [w64 (by omega) (by omega)] at hb3
    exact hb3
  have hfin : ∀ y : Int, ∃ r, Value.int .i64 ((IntKind.i64.wrap (IntKind.u32.wrap y)).tmod n) = .int .i64 r ∧ 0 ≤ r ∧ (r < n ∨ r = 0) ∧ Chg [b] w w3 ∧ w3.heap.size = w.heap.size ∧ DkS w3 b (.slice (some ⟨bb, off, none⟩) nb cap) (K + 1) := by
    intro y
    have h1 := wu32_range y
    have h2 : IntKind.i64.wrap (IntKind.u32.wrap y) = IntKind.u32.wrap y := w64 (by omega) (by omega)
    rw [h2]
    have h3 := tmod_pos h1.1 (by omega : (0 : Int) < n)
    exact ⟨_, rfl, h3.1, .inl h3.2, hc03, by omega, hd3⟩
  (refine y_seq (y_seq (y_region ?_)); (iterate 3 refine yl_pure tabOk rfl rfl ?_))
  refine yl_split rfl rfl (fun hc => ?_) (fun hc => ?_)
  · (refine yl_guard_yes rfl (yl_pure tabOk rfl rfl (yl_guard_yes rfl (yl_pure tabOk rfl rfl (yl_pure tabOk rfl rfl (yl_nil ?_))))))
    refine y_if rfl (fun hc => ?_) (fun hc => ?_)
    · (refine y_seq (y_region ?_); (iterate 3 refine yl_pure tabOk rfl rfl ?_))
      refine yl_rem rfl rfl (by omega) rfl ?_
      (refine yl_pure tabOk rfl rfl (y_ret ?_))
      exact y_fin1 rfl rfl (hfin _)
    · (refine y_skip (y_seq (y_region ?_)); (iterate 3 refine yl_pure tabOk rfl rfl ?_); refine yl_loadB tabOk rfl rfl rfl (by assumption) (by rfl) ?_; (iterate 5 refine yl_pure tabOk rfl rfl ?_))
      refine yl_rem rfl rfl (by omega) rfl ?_
      (refine yl_pure tabOk rfl rfl (y_ret ?_))
      exact y_fin1 rfl rfl (hfin _)
  · (refine yl_guard_no rfl rfl rfl (yl_guard_no rfl rfl rfl (yl_pure tabOk rfl rfl (y_cond_false rfl (y_skip (y_seq (y_region ?_)))))); (iterate 3 refine yl_pure tabOk rfl rfl ?_); refine yl_loadB tabOk rfl rfl rfl (by assumption) (by rfl) ?_; (iterate 5 refine yl_pure tabOk rfl rfl ?_))
    refine yl_rem rfl rfl (by omega) rfl ?_
    (refine yl_pure tabOk rfl rfl (y_ret ?_))
    exact y_fin1 rfl rfl (hfin _)


end
/-- A deck, after at most K cards. -/
def dkP (bs : Value) (b K : Nat) : Ck := .gn (fun x => x = b) (fun w => DkS w b bs K) (fun w w' N h hc hN => by
  obtain ⟨next, st, h1, h2⟩ := h
  exact ⟨next, st, (hc.block b h1.lt (hN b rfl)).trans h1, h2⟩)

theorem drawP_ca (n : Int) (K : Nat) (hK : K < 4611686018427387904) (w : World) (b lo hi : Nat) (bs : Value) (hby : DkB w lo hi bs) (hlh : hi ≤ b) (hd : DkS w b bs K) :
    Ca Tryz.prog 23 [.pointer (some ⟨b, 0, none⟩), .int .i64 n] w fun v w' => ∃ x : Int, (v = .int .i64 x ∧ 0 ≤ x ∧ (x < n ∨ x = 0)) ∧ Sat w (fun x => x = b) [dkP bs b (K + 1)] w' :=
  (draw_ca n K hK w b lo hi bs hby hlh hd).mono fun v w' ⟨r, h1, h2, h3, h4, h5, h6⟩ =>
    ⟨r, ⟨h1, h2, h3⟩, ⟨h4.os, h4.tape, h4.output, h4.size, fun k hk hkb => h4.block k hk (by simpa using hkb)⟩, by simpa [dkP, Ck.p] using h6, .cons (by simp) .nil, fun c hc x hx => by
      obtain rfl : c = dkP bs b (K + 1) := by simpa using hc
      obtain rfl : x = b := hx
      obtain ⟨_, _, h7, _⟩ := h6
      exact ⟨h7.lt, .inl rfl⟩⟩



theorem dk_sat {w : World} {b K : Nat} {bs : Value} (hd : DkS w b bs K) : Sat w (fun x => x = b) [dkP bs b K] w :=
  ⟨ChgP.refl _ _, by simpa [dkP, Ck.p] using hd, .cons (by simp) .nil, fun c hc x hx => by
    obtain rfl : c = dkP bs b K := by simpa using hc
    obtain rfl : x = b := hx
    obtain ⟨_, _, h7, _⟩ := hd
    exact ⟨h7.lt, .inl rfl⟩⟩

theorem between_ca (l h : Int) (hl : -1000000 ≤ l) (hh : h ≤ 1000000) (hlh2 : l ≤ h) (K : Nat) (hK : K < 4611686018427387904) (w : World) (b lo hi : Nat) (bs : Value) (hby : DkB w lo hi bs) (hlh : hi ≤ b) (hd : DkS w b bs K) :
    Ca Tryz.prog 75 [.pointer (some ⟨b, 0, none⟩), .int .i64 l, .int .i64 h] w fun v w' => ∃ x : Int, (v = .int .i64 x ∧ l ≤ x ∧ x ≤ h) ∧ Sat w (fun x => x = b) [dkP bs b (K + 1)] w' := by
  refine q_of (dk_sat hd) Tryz.func75 rfl (by simp [Tryz.ntmps75]) ?_
  (refine q_seq (q_region (ql_pure tabOk rfl rfl (q_nil (q_seq (q_region ?_))))); (iterate 4 refine ql_pure tabOk rfl rfl ?_); refine ql_ar tabOk rfl rfl rfl rfl (by omega) (by omega) (ql_ar tabOk rfl rfl rfl rfl (by omega) (by omega) ?_))
  refine ql_call (β := Int) (ψ := fun x v => v = .int .i64 x ∧ 0 ≤ x ∧ (x < h - l + 1 ∨ x = 0)) (L' := fun _ => [dkP bs b (K + 1)]) tabOk [dkP bs b K] [] (fun x => x = b) rfl rfl rfl rfl (Sp.refl _) (fun x hx => ⟨_, .head _, hx⟩) (fun w' hs => drawP_ca (h - l + 1) K hK w' b lo hi bs (by
    obtain ⟨nb, cs, h1, h2⟩ := hby
    exact ⟨nb, cs, h1.chg (N := [b]) ⟨hs.chg.os, hs.chg.tape, hs.chg.output, hs.chg.size, fun k hk hkb => hs.chg.block k hk (by simpa using hkb)⟩ (fun k hk => .inr (by simp at hk; omega)), h2⟩) hlh (hs.all _ (.head _))) ?_
  rintro x _ ⟨rfl, hx0, hx1⟩
  (refine ql_ar tabOk rfl rfl rfl rfl (by omega) (by omega) (ql_pure tabOk rfl rfl (q_nil (q_ret ?_))))
  refine q_fin tabOk rfl (by repeat constructor) fun w hs => ?_
  exact ⟨_, ⟨rfl, by omega, by omega⟩, hs⟩



theorem of_ca (w : World) (a : Option Addr) (n c : Nat) : Ca Tryz.prog 22 [.slice a n c] w fun v w' => ∃ b : Nat, v = .pointer (some ⟨b, 0, none⟩) ∧ Sat w M0 [dkP (.slice a n c) b 0] w' := by
  refine q_of (Sat.nil w M0) Tryz.func22 rfl (by simp [Tryz.ntmps22]) ?_
  (refine q_seq (q_region (ql_pure tabOk rfl rfl (q_nil (q_seq (q_region (ql_pure tabOk rfl rfl ?_)))))))
  refine ql_mk #[.slice a n c, .int .i64 0, .int .u32 17] rfl (by kernel_rfl) rfl ?_
  skip
  refine ql_box rfl rfl (fun b1 => ?_)
  (refine ql_pure tabOk rfl rfl (q_nil (q_ret ?_)))
  refine q_fin tabOk rfl (by repeat constructor) fun w hs => ?_
  refine ⟨b1, rfl, ⟨hs.chg, fun d hd => ?_, .cons (by simp) .nil, fun d hd x hx => ?_⟩⟩
  · obtain rfl : d = dkP (.slice a n c) b1 0 := by simpa using hd
    exact ⟨0, 17, hs.all _ (.head _), by omega, by omega, by omega, by omega⟩
  · obtain rfl : d = dkP (.slice a n c) b1 0 := by simpa using hd
    obtain rfl : x = b1 := hx
    exact hs.bd _ (.head _) x rfl



theorem DkB.keepP {w w' : World} {lo hi b : Nat} {bs : Value} (h : DkB w lo hi bs) (hlh : hi ≤ b) (hc : ChgP (fun x => x = b) w w') : DkB w' lo hi bs := by
  obtain ⟨nb, cs, h1, h2⟩ := h
  exact ⟨nb, cs, h1.chg (N := [b]) ⟨hc.os, hc.tape, hc.output, hc.size, fun k hk hkb => hc.block k hk (by simpa using hkb)⟩ (fun k hk => .inr (by simp at hk; omega)), h2⟩
theorem DkS.mono {w : World} {b K K' : Nat} {bs : Value} (h : DkS w b bs K) (hk : K ≤ K') : DkS w b bs K' := by
  obtain ⟨next, st, h1, h2, h3, h4⟩ := h
  exact ⟨next, st, h1, h2, by omega, h4⟩
theorem Sat.dk {w0 w : World} {M : Nat → Prop} {R : List Ck} {b K K' : Nat} {bs : Value} (h : Sat w0 M (dkP bs b K :: R) w) (hk : K ≤ K') : Sat w0 M (dkP bs b K' :: R) w := h.turn (fun _ h => h) (fun h => DkS.mono h hk)



section
variable {K b : Nat} {bs : Value} {w0 w : World} {R : List Ck}
theorem dk_new (hs : Sat w0 M0 (dkP bs b K :: R) w) : w0.heap.size ≤ b := (hs.bd _ (.head _) b rfl).2.resolve_left (fun h => h)
theorem drw0 {n : Int} (hby : DkB w0 0 w0.heap.size bs) (hs : Sat w0 M0 (dkP bs b K :: R) w) (hn : 1 ≤ n) (hK : K < 1000000) :
    Ca Tryz.prog 23 [.pointer (some ⟨b, 0, none⟩), .int .i64 n] w fun v w' => ∃ x : Int, (v = .int .i64 x ∧ 0 ≤ x ∧ x ≤ n - 1) ∧ Sat w (fun x => x = b) [dkP bs b (K + 1)] w' :=
  (drawP_ca n K (by omega) w b 0 w0.heap.size _ (hby.keep hs.chg0) (dk_new hs) (hs.all _ (.head _))).mono fun v w' ⟨x, ⟨h1, h2, h3⟩, h4⟩ => ⟨x, ⟨h1, h2, by omega⟩, h4⟩
end
end Go.Proofs.YtcmpdmobmbbplaaGreat

/- Walks: a lab is made of numbers. -/
namespace Go.Proofs.YtcmpdmobmbbplaaGreat
set_option maxRecDepth 4000
open Go Go.Eng

/-- What a lab that was made has. -/
structure MadeL (most runs : Nat) (l : Lb) (real : List Int) : Prop where
  ok : l.Ok
  s2 : 2 ≤ l.skis
  sm : l.skis ≤ most
  e12 : l.err ≤ 11
  len : l.runs.length ≤ runs
  tr : l.True real
  rl : real.length = l.n
  rb : ∀ x ∈ real, 0 ≤ x ∧ x ≤ 96
theorem slR : SlT Tryz.prog 22 40 3 24 (.agg #[.int .i64 0, .int .i64 0, .int .i64 0]) := ⟨by kernel_rfl, by kernel_rfl, by kernel_rfl, by decide⟩
theorem rnC_snoc (l : List Rn) (r : Rn) : rnC (l ++ [r]) = rnC l ++ [.int .i64 r.a, .int .i64 r.b, .int .i64 r.lead] := by simp [rnC]
theorem mod_two {n i : Nat} {x : Int} (hi : i < n) (h0 : 0 ≤ x) (hx : x < (n : Int) - 1) : ∃ j : Nat, ((i : Int) + 1 + x) % (n : Int) = j ∧ j < n ∧ j ≠ i := by
  by_cases h : (i : Int) + 1 + x < n
  · exact ⟨(i + 1 + x).toNat, by rw [Int.emod_eq_of_lt (by omega) h]; omega, by omega, by omega⟩
  · refine ⟨(i + 1 + x - n).toNat, ?_, by omega, by omega⟩
    have : ((i : Int) + 1 + x) % n = (i + 1 + x - n) % n := by rw [Int.sub_emod_right]
    rw [this, Int.emod_eq_of_lt (by omega) (by omega)]
    omega
set_option maxHeartbeats 4000000 in
theorem made_ca (most runs : Nat) (h1 : 2 ≤ most) (h2 : most ≤ 8) (h3 : runs ≤ 20) (K : Nat) (hK : K < 100000) (w : World) (b lo hi : Nat) (bs : Value) (hby : DkB w lo hi bs) (hlh : hi ≤ b) (hd : DkS w b bs K) :
    Ca Tryz.prog 21 [.pointer (some ⟨b, 0, none⟩), .int .i64 most, .int .i64 runs] w fun v w' => ∃ y : Value × Value × Lb × List Int, (v = .tuple #[.agg (lbC y.2.2.1 y.1).toArray, y.2.1] ∧ MadeL most runs y.2.2.1 y.2.2.2) ∧ Sat w (fun x => x = b) [.ow y.1 40 3 y.2.2.1.runs.length (rnC y.2.2.1.runs), .ow y.2.1 3 1 y.2.2.2.length (ints y.2.2.2), dkP bs b (K + 100)] w' := by
  refine q_of (dk_sat hd) Tryz.func21 rfl (by simp [Tryz.ntmps21]) ?_
  (refine q_seq (q_region ?_))
  refine ql_alloc zero24 rfl (fun b6 => ?_)
  (refine ql_pure tabOk rfl rfl (q_nil (q_seq (q_region (ql_pure tabOk rfl rfl (ql_pure tabOk rfl rfl ?_))))))
  refine ql_call (β := Int) (ψ := fun zq v => v = .int .i64 zq ∧ 2 ≤ zq ∧ zq ≤ most) (L' := fun _ => [dkP bs b (K + 1)]) tabOk [dkP bs b (K)] _ (fun x => x = b) rfl rfl rfl rfl (Sp.cons (by repeat constructor) (Sp.refl _)) (fun x hx => ⟨_, .head _, hx⟩) (fun w' hs => between_ca (2) (most) (by omega) (by omega) (by omega) (K) (by omega) w' b lo hi bs (hby.keepP hlh hs.chg) hlh (hs.all _ (.head _))) ?_; rintro sk _ ⟨rfl, hsk⟩
  (refine ql_pure tabOk rfl rfl ?_)
  refine ql_call (β := Int) (ψ := fun zq v => v = .int .i64 zq ∧ 0 ≤ zq ∧ (zq < 12 ∨ zq = 0)) (L' := fun _ => [dkP bs b (K + 1 + 1)]) tabOk [dkP bs b (K + 1)] _ (fun x => x = b) rfl rfl rfl rfl (Sp.cons (by repeat constructor) (Sp.refl _)) (fun x hx => ⟨_, .head _, hx⟩) (fun w' hs => drawP_ca (12) (K + 1) (by omega) w' b lo hi bs (hby.keepP hlh hs.chg) hlh (hs.all _ (.head _))) ?_; rintro er _ ⟨rfl, her⟩
  skip
  obtain ⟨n, rfl⟩ := Int.eq_ofNat_of_zero_le (show 0 ≤ sk by omega)
  have hn : 2 ≤ n ∧ n ≤ most := by omega
  refine ql_mk #[.int .i64 n, .int .i64 er, .slice none 0 0] rfl (by kernel_rfl) rfl ?_
  skip
  refine ql_alloc zero24 rfl (fun b8 => ?_)
  (refine ql_setA tabOk rfl rfl rfl rfl rfl (by repeat constructor) rfl ?_; refine q_nil (q_seq (q_region (ql_pure tabOk rfl rfl (q_nil (q_seq (q_seq (q_region (ql_pure tabOk rfl rfl ?_)))))))); refine ql_loadBa tabOk rfl rfl rfl ?_; refine ql_pure tabOk rfl rfl (q_nil (q_block ?_)))
  refine q_conv (H' := [.ow (.slice none 0 0) 3 1 0 (ints []), dkP bs b (K + 2 + 0), .pt b8 [.int .i64 n, .int .i64 er, .slice none 0 0] 24, .pt b6 [.int .i64 0, .int .i64 0, .slice none 0 0] 24]) (fun w' hs => (Sat.ownil hs 3 1).sp (by repeat constructor)) ?_
  refine q_loop (σ := Value × List Int) (fun s => s.2.length ≤ n ∧ ∀ x ∈ s.2, 0 ≤ x ∧ x ≤ 96) (fun s => n - s.2.length) (fun s => [(0, .pointer (some ⟨b, 0, none⟩)), (2, .int .i64 runs), (6, .pointer (some ⟨b6, 0, none⟩)), (8, .pointer (some ⟨b8, 0, none⟩)), (9, s.1), (19, .int .i64 n), (20, .int .i64 s.2.length)])
    (fun s => [.ow s.1 3 1 s.2.length (ints s.2), dkP bs b (K + 2 + s.2.length), .pt b8 [.int .i64 n, .int .i64 er, .slice none 0 0] 24, .pt b6 [.int .i64 0, .int .i64 0, .slice none 0 0] 24]) (.slice none 0 0, []) (by simp) ⟨rfl, rfl, rfl, rfl, rfl, rfl, rfl, trivial⟩ (by repeat constructor) ?_
  rintro ⟨u, real⟩ ⟨hl, hB⟩ K1 hK1
  dsimp only at hl hB ⊢
  (refine q_seq (q_region (ql_pure tabOk rfl rfl (q_nil (q_seq ?_)))))
  refine q_if rfl (fun hc => ?_) (fun hc => ?_)
  · have hl2 : real.length < n := by omega
    clear hc
    obtain ⟨k, hk⟩ : ∃ k, k = real.length := ⟨_, rfl⟩
    rw [← hk]
    (refine q_skip (q_seq (q_block (q_region (ql_pure tabOk rfl rfl (ql_pure tabOk rfl rfl ?_))))))
    refine ql_call (β := Int) (ψ := fun zq v => v = .int .i64 zq ∧ 0 ≤ zq ∧ (zq < 25 ∨ zq = 0)) (L' := fun _ => [dkP bs b (K + 2 + k + 1)]) tabOk [dkP bs b (K + 2 + k)] _ (fun x => x = b) rfl rfl rfl rfl (Sp.cons (by repeat constructor) (Sp.refl _)) (fun x hx => ⟨_, .head _, hx⟩) (fun w' hs => drawP_ca (25) (K + 2 + k) (by omega) w' b lo hi bs (hby.keepP hlh hs.chg) hlh (hs.all _ (.head _))) ?_; rintro x _ ⟨rfl, hx⟩
    (refine ql_ar tabOk rfl rfl rfl rfl (by omega) (by omega) ?_)
    refine ql_mkS 3 [.int .i64 (4 * x)] rfl (by kernel_rfl) rfl (fun bn => ?_)
    skip
    refine ql_append (q := 1) (news := [.int .i64 (4 * x)]) slI rfl rfl rfl (fun v' => by repeat constructor) (fun w' hs => ⟨_, _, Blk.rdN (hs.blk (b := bn) (by repeat constructor)) rfl⟩) (by simp [oneV]) (by omega) (by omega) (fun u' => ?_)
    (refine ql_pure tabOk rfl rfl (q_nil (q_blk (q_region (ql_ar tabOk rfl rfl rfl rfl (by omega) (by omega) (ql_pure tabOk rfl rfl (q_nil ?_)))))))
    have e1 : ints (real ++ [4 * x]) = ints real ++ [.int .i64 (4 * x)] := by simp [ints]
    exact hK1 (u', real ++ [4 * x]) _ _ ⟨by simp; omega, fun y hy => by
      rcases List.mem_append.1 hy with hy | hy
      · exact hB y hy
      · rw [List.mem_singleton.1 hy]; omega⟩ (by simp; omega) ⟨rfl, rfl, rfl, rfl, rfl, rfl, lookI rfl (by simp; omega), trivial⟩ (by dsimp only; rw [e1, show (real ++ [4 * x]).length = k + 1 from by simp [hk]]; repeat constructor)
  · have hln : real.length = n := by omega
    clear hc hK1 hl
    rw [hln]
    (refine q_exit _ rfl (q_seq (q_seq (q_region (ql_pure tabOk rfl rfl (ql_pure tabOk rfl rfl (ql_ar tabOk rfl rfl rfl rfl (by omega) (by omega) ?_)))))))
    refine ql_call (β := Int) (ψ := fun zq v => v = .int .i64 zq ∧ 0 ≤ zq ∧ (zq < (runs : Int) + 1 ∨ zq = 0)) (L' := fun _ => [dkP bs b (K + 2 + n + 1)]) tabOk [dkP bs b (K + 2 + n)] _ (fun x => x = b) rfl rfl rfl rfl (Sp.cons (by repeat constructor) (Sp.refl _)) (fun x hx => ⟨_, .head _, hx⟩) (fun w' hs => drawP_ca ((runs : Int) + 1) (K + 2 + n) (by omega) w' b lo hi bs (hby.keepP hlh hs.chg) hlh (hs.all _ (.head _))) ?_; rintro ct _ ⟨rfl, hct⟩
    (refine ql_pure tabOk rfl rfl (q_nil (q_block ?_)))
    obtain ⟨cn, rfl⟩ := Int.eq_ofNat_of_zero_le hct.1
    have hcn : cn ≤ runs := by omega
    clear hct
    refine q_fact (fun w hs => hs.ownSome (v := u) (by repeat constructor) (by omega)) ?_
    rintro ⟨g, gc, rfl⟩
    refine q_conv (H' := [.ow (.slice none 0 0) 40 3 0 (rnC []), dkP bs b (K + 3 + n + 0), .pt b8 [.int .i64 n, .int .i64 er, .slice none 0 0] 24, .ow (.slice (some ⟨g, 0, none⟩) n gc) 3 1 n (ints real), .pt b6 [.int .i64 0, .int .i64 0, .slice none 0 0] 24]) (fun w' hs => by
      have e : K + 2 + n + 1 = K + 3 + n + 0 := by omega
      rw [e] at hs
      exact (Sat.ownil hs 40 3).sp (by repeat constructor)) ?_
    refine q_loop (σ := Value × List Rn) (fun s => s.2.length ≤ cn ∧ ∀ r ∈ s.2, r.Ok n ∧ r.True er real) (fun s => cn - s.2.length) (fun s => [(0, .pointer (some ⟨b, 0, none⟩)), (6, .pointer (some ⟨b6, 0, none⟩)), (8, .pointer (some ⟨b8, 0, none⟩)), (9, .slice (some ⟨g, 0, none⟩) n gc), (32, .int .i64 cn), (33, .int .i64 s.2.length)])
      (fun s => [.ow s.1 40 3 s.2.length (rnC s.2), dkP bs b (K + 3 + n + 3 * s.2.length), .pt b8 [.int .i64 n, .int .i64 er, s.1] 24, .ow (.slice (some ⟨g, 0, none⟩) n gc) 3 1 n (ints real), .pt b6 [.int .i64 0, .int .i64 0, .slice none 0 0] 24]) (.slice none 0 0, []) (by simp) ⟨rfl, rfl, rfl, rfl, rfl, rfl, trivial⟩ (by repeat constructor) ?_
    rintro ⟨v, rs⟩ ⟨hl, hI⟩ K1 hK1
    dsimp only at hl hI ⊢
    (refine q_seq (q_region (ql_pure tabOk rfl rfl (q_nil (q_seq ?_)))))
    refine q_if rfl (fun hc => ?_) (fun hc => ?_)
    · have hl2 : rs.length < cn := by omega
      clear hc
      obtain ⟨k, hk⟩ : ∃ k, k = rs.length := ⟨_, rfl⟩
      rw [← hk]
      refine q_fact (fun w hs => hs.slice2 (v := v) (by repeat constructor)) ?_
      rintro ⟨va, vc, rfl⟩
      (refine q_skip (q_seq (q_block (q_seq (q_region (ql_pure tabOk rfl rfl (ql_pure tabOk rfl rfl ?_)))))); refine ql_loadBa tabOk rfl rfl rfl ?_)
      refine ql_call (β := Int) (ψ := fun zq v => v = .int .i64 zq ∧ 0 ≤ zq ∧ (zq < (n : Int) ∨ zq = 0)) (L' := fun _ => [dkP bs b (K + 3 + n + 3 * k + 1)]) tabOk [dkP bs b (K + 3 + n + 3 * k)] _ (fun x => x = b) rfl rfl rfl rfl (Sp.cons (by repeat constructor) (Sp.refl _)) (fun x hx => ⟨_, .head _, hx⟩) (fun w' hs => drawP_ca ((n : Int)) (K + 3 + n + 3 * k) (by omega) w' b lo hi bs (hby.keepP hlh hs.chg) hlh (hs.all _ (.head _))) ?_; rintro ai _ ⟨rfl, hai⟩
      (refine ql_pure tabOk rfl rfl (q_nil (q_seq ?_)))
      obtain ⟨i, rfl⟩ := Int.eq_ofNat_of_zero_le hai.1
      have hi2 : i < n := by omega
      clear hai
      refine q_drawB2 [true, true, true, true, true, true, true, true, true, true, true, true] [.pt b8 [.int .i64 n, .int .i64 er, (.slice va k vc)] 24, .ow (.slice va k vc) 40 3 k (rnC rs), .ow (.slice (some ⟨g, 0, none⟩) n gc) 3 1 n (ints real), .pt b6 [.int .i64 0, .int .i64 0, .slice none 0 0] 24] [dkP bs b (K + 3 + n + 3 * k + 1)] [.pt b8 [.int .i64 n, .int .i64 er, (.slice va k vc)] 24, .ow (.slice va k vc) 40 3 k (rnC rs), .ow (.slice (some ⟨g, 0, none⟩) n gc) 3 1 n (ints real), .pt b6 [.int .i64 0, .int .i64 0, .slice none 0 0] 24] [] (by repeat constructor) (by repeat constructor) (by kernel_rfl) (by kernel_rfl) (by kernel_rfl) ?_
      refine qb_T2 12 [dkP bs b (K + 3 + n + 3 * k + 1)] rfl rfl (by repeat constructor) fun K2 hK2 => ?_
      (refine qf_pure tabOk rfl rfl rfl (qf_ar tabOk rfl rfl rfl rfl (by omega) (by omega) (qf_pure tabOk rfl rfl rfl (qf_pure tabOk rfl rfl rfl ?_))); refine qf_loadBa tabOk rfl rfl rfl ?_; refine qf_ar tabOk rfl rfl rfl rfl (by omega) (by omega) ?_)
      refine qf_call (β := Int) (ψ := fun zq v => v = .int .i64 zq ∧ 0 ≤ zq ∧ (zq < ((n : Int) - 1) ∨ zq = 0)) (L' := fun _ => [dkP bs b (K + 3 + n + 3 * k + 1 + 1)]) tabOk [dkP bs b (K + 3 + n + 3 * k + 1)] _ (fun x => x = b) rfl rfl rfl rfl (Sp.cons (by repeat constructor) (Sp.refl _)) (fun x hx => ⟨_, .head _, hx⟩) (fun w' hs => drawP_ca (((n : Int) - 1)) (K + 3 + n + 3 * k + 1) (by omega) w' b lo hi bs (hby.keepP hlh hs.chg) hlh (hs.all _ (.head _))) ?_; rintro x _ ⟨rfl, hx⟩
      (refine qf_ar tabOk rfl rfl rfl rfl (by omega) (by omega) (qf_pure tabOk rfl rfl rfl ?_); refine qf_loadBa tabOk rfl rfl rfl ?_; refine qf_remN rfl rfl rfl (by omega) (by omega) (qf_pure tabOk rfl rfl rfl (qf_nil ?_)))
      refine hK2 _ _ (qb_nil ?_)
      obtain ⟨j, hj, hj2, hj3⟩ := mod_two hi2 hx.1 (by omega)
      rw [hj]
      have hi4 : i < real.length := by omega
      have hj4 : j < real.length := by omega
      have bi := hB _ (List.getElem_mem hi4)
      have bj := hB _ (List.getElem_mem hj4)
      skip
      refine q_drawB2 [true, true, true, true, true, true, true, true, true, true, true, true, true, true, true, true, true, true, true, true, true, true, true, false, false, false] [.pt b8 [.int .i64 n, .int .i64 er, .slice va k vc] 24, .ow (.slice va k vc) 40 3 k (rnC rs), .ow (.slice (some ⟨g, 0, none⟩) n gc) 3 1 n (ints real), .pt b6 [.int .i64 0, .int .i64 0, .slice none 0 0] 24] [dkP bs b (K + 3 + n + 3 * k + 1 + 1)] [.ow (.slice (some ⟨g, 0, none⟩) n gc) 3 1 n (ints real), .pt b6 [.int .i64 0, .int .i64 0, .slice none 0 0] 24] [.pt b8 [.int .i64 n, .int .i64 er, .slice va k vc] 24, .ow (.slice va k vc) 40 3 k (rnC rs)] (by repeat constructor) (by repeat constructor) (by kernel_rfl) (by kernel_rfl) (by kernel_rfl) ?_
      refine qb_T2 23 [dkP bs b (K + 3 + n + 3 * k + 1 + 1)] rfl rfl (by repeat constructor) fun K2 hK2 => ?_
      (refine qf_pure tabOk rfl rfl rfl ?_; refine qf_loadBa tabOk rfl rfl rfl ?_; (iterate 4 refine qf_pure tabOk rfl rfl rfl ?_))
      refine qf_index tabOk rfl rfl rfl rfl rfl (by omega) (by omega) ?_
      refine qf_load1 (v := .int .i64 real[i]) tabOk rfl rfl rfl (fun w hs => RdI.at (hs.rdI (v := .slice (some ⟨g, 0, none⟩) n gc) (l := real) (t := 3) (n := n) (by repeat constructor) hln.symm) i hi4) ?_
      (refine qf_pure tabOk rfl rfl rfl (qf_pure tabOk rfl rfl rfl ?_))
      refine qf_index tabOk rfl rfl rfl rfl rfl (by omega) (by omega) ?_
      refine qf_load1 (v := .int .i64 real[j]) tabOk rfl rfl rfl (fun w hs => RdI.at (hs.rdI (v := .slice (some ⟨g, 0, none⟩) n gc) (l := real) (t := 3) (n := n) (by repeat constructor) hln.symm) j hj4) ?_
      (refine qf_ar tabOk rfl rfl rfl rfl (by omega) (by omega) (qf_pure tabOk rfl rfl rfl (qf_pure tabOk rfl rfl rfl ?_)); refine qf_loadBa tabOk rfl rfl rfl ?_; refine qf_neg tabOk rfl rfl (by omega) (by omega) (qf_pure tabOk rfl rfl rfl ?_); refine qf_loadBa tabOk rfl rfl rfl ?_)
      refine qf_call (β := Int) (ψ := fun zq v => v = .int .i64 zq ∧ (-er) ≤ zq ∧ zq ≤ er) (L' := fun _ => [dkP bs b (K + 3 + n + 3 * k + 1 + 1 + 1)]) tabOk [dkP bs b (K + 3 + n + 3 * k + 1 + 1)] _ (fun x => x = b) rfl rfl rfl rfl (Sp.cons (by repeat constructor) (Sp.refl _)) (fun x hx => ⟨_, .head _, hx⟩) (fun w' hs => between_ca ((-er)) (er) (by omega) (by omega) (by omega) (K + 3 + n + 3 * k + 1 + 1) (by omega) w' b lo hi bs (hby.keepP hlh hs.chg) hlh (hs.all _ (.head _))) ?_; rintro y _ ⟨rfl, hy⟩
      (refine qf_ar tabOk rfl rfl rfl rfl (by omega) (by omega) ?_)
      refine qf_mk #[.int .i64 i, .int .i64 j, .int .i64 (real[i] - real[j] + y)] rfl (by kernel_rfl) rfl ?_
      skip
      refine qf_mkS 40 [.int .i64 i, .int .i64 j, .int .i64 (real[i] - real[j] + y)] rfl (by kernel_rfl) rfl (fun bn => ?_)
      (refine qf_nil ?_)
      refine hK2 _ _ (qb_F 3 [.pt bn [.int .i64 i, .int .i64 j, .int .i64 (real[i] - real[j] + y)] 40, dkP bs b (K + 3 + n + 3 * k + 1 + 1 + 1), .pt b8 [.int .i64 n, .int .i64 er, .slice va k vc] 24, .ow (.slice va k vc) 40 3 k (rnC rs)] rfl rfl (by repeat constructor) fun K2 hK2 => ?_)
      refine qf_append (q := 1) (news := [.int .i64 i, .int .i64 j, .int .i64 (real[i] - real[j] + y)]) slR rfl rfl rfl (fun v' => by repeat constructor) (fun w' hs => ⟨_, _, Blk.rdN (hs.blk (b := bn) (by repeat constructor)) rfl⟩) (by simp [oneV]) (by omega) (by omega) (fun u' => ?_)
      refine qf_fact (fun w hs => hs.slice2 (v := u') (by repeat constructor)) ?_
      rintro ⟨a1, c1, rfl⟩
      (refine qf_pure tabOk rfl rfl rfl ?_; refine qf_st2 tabOk rfl rfl rfl rfl (by repeat constructor) ?_; refine qf_nil ?_)
      refine hK2 _ _ (qb_nil ?_)
      (refine q_blk (q_region (ql_ar tabOk rfl rfl rfl rfl (by omega) (by omega) (ql_pure tabOk rfl rfl (q_nil ?_)))))
      have e1 := rnC_snoc rs ⟨i, j, real[i] - real[j] + y⟩
      have e3 : K + 3 + n + 3 * (k + 1) = K + 3 + n + 3 * k + 1 + 1 + 1 := by omega
      exact hK1 (.slice a1 (k + 1) c1, rs ++ [⟨i, j, real[i] - real[j] + y⟩]) _ _ ⟨by simp; omega, fun r hr => by
        rcases List.mem_append.1 hr with hr | hr
        · exact hI r hr
        · rw [List.mem_singleton.1 hr]
          refine ⟨⟨by simp only; omega, by simp only; omega, by simp only; omega, by simp only; omega, by simp only; omega, by simp only; omega, by simp only; omega⟩, ?_, ?_⟩
          · simp only [Int.toNat_natCast, getD_get hi4, getD_get hj4]; omega
          · simp only [Int.toNat_natCast, getD_get hi4, getD_get hj4]; omega⟩ (by simp; omega) ⟨rfl, rfl, rfl, rfl, rfl, lookI rfl (by simp; omega), trivial⟩ (by dsimp only; rw [e1, show (rs ++ [(⟨i, j, real[i] - real[j] + y⟩ : Rn)]).length = k + 1 from by simp [hk], e3]; repeat constructor)
    · have hcc : rs.length = cn := by omega
      have hln' : real.length = n := hln
      clear hc hK1
      refine q_fact (fun w hs => hs.slice2 (v := v) (by repeat constructor)) ?_
      rintro ⟨va, vc, rfl⟩
      (refine q_exit _ rfl (q_seq (q_region ?_)); refine ql_loadABa tabOk rfl rfl rfl ?_; refine ql_pure tabOk rfl rfl ?_; refine ql_setA tabOk rfl rfl rfl rfl rfl (by repeat constructor) rfl ?_; refine ql_pure tabOk rfl rfl (q_nil (q_ret ?_)))
      refine q_fin tabOk rfl (by repeat constructor) fun w hs => ?_
      refine ⟨(.slice va rs.length vc, .slice (some ⟨g, 0, none⟩) n gc, ⟨n, er, rs⟩, real), ⟨rfl, ⟨by simp only; omega, by simp only; omega, by simp only; omega, by simp only; omega, by simp only; omega, fun r hr => (hI r hr).1⟩, by simp only; omega, by simp only; omega, by simp only; omega, by simp only; omega, fun r hr => (hI r hr).2, by unfold Lb.n; simp only; omega, hB⟩, ?_⟩
      have hs1 := hs.sp (H' := [dkP bs b (K + 3 + n + 3 * rs.length), .ow (.slice va rs.length vc) 40 3 rs.length (rnC rs), .ow (.slice (some ⟨g, 0, none⟩) n gc) 3 1 n (ints real)]) (by repeat constructor)
      have hs2 := Sat.dk hs1 (K' := K + 100) (by omega)
      dsimp only
      rw [hln']
      exact hs2.sp (by repeat constructor)
end Go.Proofs.YtcmpdmobmbbplaaGreat

/- Walks: labs are copied, and get a run more. -/
namespace Go.Proofs.YtcmpdmobmbbplaaGreat
set_option maxRecDepth 4000
open Go Go.Eng

def tD3_563eb24 : OT := chainT [0, 1, 2, 3, 4, 5, 6, 7, 8] (.nil)
end Go.Proofs.YtcmpdmobmbbplaaGreat

/- Lists of labs, and what is told of them. -/
namespace Go.Proofs.YtcmpdmobmbbplaaGreat
set_option maxRecDepth 4000
open Go Go.Eng

abbrev LbM := Lb × Option Addr × Nat
def labCs (M : List LbM) : List Value := M.flatMap fun m => [.int .i64 m.1.skis, .int .i64 m.1.err, .slice m.2.1 m.1.runs.length m.2.2]
def labOs (t : Nat) (M : List LbM) : List Ck := M.map fun m => .ow (.slice m.2.1 m.1.runs.length m.2.2) t 3 m.1.runs.length (rnC m.1.runs)
/-- Places that were told. -/
def plOs (t : Nat) (M : List LbM) (ps : List Value) : List Ck := (M.zip ps).map fun x => .ow x.2 t 2 x.1.1.n (spC (plC x.1.1 x.1.1.ord x.1.1.n))
/-- An array that is filled. -/
def filA (f : Nat → Int) (n j : Nat) : List Int := (List.range n).map fun i => if i < j then f i else 0
def lbM (M : List LbM) (i : Nat) : Lb := (M.getD i (⟨0, 0, []⟩, none, 0)).1
def oM (M : List LbM) (i : Nat) : Int := cnt (lbM M i).ord (lbM M i).n (2 ^ (lbM M i).n - 1)
def rM (M : List LbM) (k i : Nat) : Int := (planO (lbM M i).n k (lbM M i).ord : Nat)
/-- What all labs of a list have. -/
structure AllOk (sk : Nat) (m : LbM) : Prop where
  ok : m.1.Ok
  noC : NoC m.1.ord m.1.n
  skis : m.1.skis = (sk : Int)
theorem AllOk.n {sk : Nat} {m : LbM} (h : AllOk sk m) : m.1.n = sk := by unfold Lb.n; rw [h.skis]; omega
end Go.Proofs.YtcmpdmobmbbplaaGreat

/- Walks: all pairs of skis of which one is faster; whether a pair is among them. -/
namespace Go.Proofs.YtcmpdmobmbbplaaGreat
set_option maxRecDepth 4000
open Go Go.Eng

/-- The pairs with a faster ski of a list of skis. -/
def prA (o n : Nat) (L : List Nat) : List (Int × Int) := L.flatMap fun a => ((List.range n).filter fun b => fa o a b).map fun (b : Nat) => ((a : Int), (b : Int))
/-- All pairs of skis of which one is faster. -/
def fasL (o n : Nat) : List (Int × Int) := prA o n (List.range n)
/-- Those of the skis ahead of the k-th one, and the first ones of its own. -/
def fasI (o n a b : Nat) : List (Int × Int) := prA o n (List.range a) ++ ((List.range b).filter fun b => fa o a b).map fun (b : Nat) => ((a : Int), (b : Int))
/-- Where a pair is, or -1. -/
def idxP (L : List (Int × Int)) (p : Int × Int) : Int := if p ∈ L then (L.idxOf p : Int) else -1
end Go.Proofs.YtcmpdmobmbbplaaGreat

/- Labs that grow, and what is read of them. -/
namespace Go.Proofs.YtcmpdmobmbbplaaGreat
set_option maxRecDepth 4000
open Go Go.Eng

theorem mod_natK {a : Int} {n : Nat} (ha : 0 ≤ a) (hn : 0 < n) : ∃ x : Nat, a % (n : Int) = x ∧ x < n := ⟨(a % n).toNat, by have := Int.emod_nonneg a (show (n : Int) ≠ 0 by omega); omega, by have := Int.emod_lt_of_pos a (show (0 : Int) < n by omega); have := Int.emod_nonneg a (show (n : Int) ≠ 0 by omega); omega⟩
theorem madeK {w0 w : World} {R : List Ck} {b K : Nat} {bs : Value} {most runs : Nat} (hby : DkB w0 0 w0.heap.size bs) (hs : Sat w0 M0 (dkP bs b K :: R) w) (h1 : 2 ≤ most) (h2 : most ≤ 8) (h3 : runs ≤ 20) (hK : K < 100000) :
    Ca Tryz.prog 21 [.pointer (some ⟨b, 0, none⟩), .int .i64 most, .int .i64 runs] w fun v w' => ∃ y : Value × Value × Lb × List Int, (v = .tuple #[.agg (lbC y.2.2.1 y.1).toArray, y.2.1] ∧ MadeL most runs y.2.2.1 y.2.2.2) ∧ Sat w (fun x => x = b) [.ow y.1 40 3 y.2.2.1.runs.length (rnC y.2.2.1.runs), .ow y.2.1 3 1 y.2.2.2.length (ints y.2.2.2), dkP bs b (K + 100)] w' :=
  made_ca most runs h1 h2 h3 K hK w b 0 w0.heap.size bs (hby.keep hs.chg0) (dk_new hs) (hs.all _ (.head _))
theorem runs_rdK {w0 w : World} {M : Nat → Prop} {H : List Ck} {v : Value} {t n : Nat} {l : List Rn} (hs : Sat w0 M H w) (hm : .ow v t 3 n (rnC l) ∈ H) (hn : n = l.length) : RdR w 0 w.heap.size v l := own_rdR (t := t) (hs.mem hm) hn
/-- The slice of a lab's runs. -/
abbrev slV (m : LbM) : Value := .slice m.2.1 m.1.runs.length m.2.2
theorem sp_at {w0 w : World} {Mp : Nat → Prop} {H : List Ck} {t m g c : Nat} {L : List (Int × Int)} {x1 x2 : Int} (hs : Sat w0 Mp H w) (hm : .ow (.slice (some ⟨g, 0, none⟩) m c) t 2 m (spC L) ∈ H) (hl : m = L.length) {i : Nat} (hi : i < L.length) (hx : L[i] = (x1, x2)) : ∀ q, q < 2 → w.cell? ⟨g, 0 + i * 2 + q, none⟩ = [Value.int .i64 x1, .int .i64 x2][q]? := fun q hq => by
  have := RdS.at (own_rdS (t := t) (hs.mem hm) hl) i hi q hq
  rw [hx] at this
  exact this
end Go.Proofs.YtcmpdmobmbbplaaGreat

/- Walks: tables are made of numbers, and copied. -/
namespace Go.Proofs.YtcmpdmobmbbplaaGreat
set_option maxRecDepth 4000
open Go Go.Eng

end Go.Proofs.YtcmpdmobmbbplaaGreat

/- Walks: the regrets of a table; lists of lists copied. -/
namespace Go.Proofs.YtcmpdmobmbbplaaGreat
set_option maxRecDepth 4000
open Go Go.Eng

end Go.Proofs.YtcmpdmobmbbplaaGreat

/- The plain law of SkiBagged. -/
namespace Go.Proofs.YtcmpdmobmbbplaaGreat
set_option maxRecDepth 4000

/-- Where the best zone from a snow on ends, and one. -/
def reachF (rs : List (List Int)) (most : Int) (a : Nat) : Nat := ((zoneF rs most a rs.length).1 + 1).toNat
structure ReachZ (rs : List (List Int)) (most : Int) (n a e : Nat) : Prop where
  lt : a < e
  le : e ≤ n
  wax : ∃ w : Nat, w < rs.length ∧ (zoneF rs most a rs.length).2 = (w : Int) ∧ ∀ s, a ≤ s → s < e → (rs.getD w []).getD s 0 ≤ most
  max : ∀ w s, w < rs.length → a ≤ s → s < n → (∀ t, a ≤ t → t ≤ s → (rs.getD w []).getD t 0 ≤ most) → s < e
  eq : (zoneF rs most a rs.length).1 = (e : Int) - 1
/-- Where the next zone begins. -/
def nxtZ (Z : List (Int × Int × Int)) (a : Int) : Nat → Int
  | 0 => a
  | i + 1 => (Z.getD i (0, 0, 0)).2.1 + 1
structure ZoneIs (rs : List (List Int)) (most : Int) (n : Nat) (a : Int) (z : Int × Int × Int) : Prop where
  frm : z.1 = a
  a0 : 0 ≤ a
  le : a ≤ z.2.1
  lt : z.2.1 < n
  w0 : 0 ≤ z.2.2
  w1 : z.2.2 < rs.length
  good : ∀ s : Nat, a ≤ s → (s : Int) ≤ z.2.1 → (rs.getD z.2.2.toNat []).getD s 0 ≤ most
/-- The first number for which something is found. -/
def tryF {α : Type} (g : Nat → Option α) : Nat → Nat → Option α
  | 0, _ => none
  | f + 1, w => match g w with
    | some x => some x
    | none => tryF g f (w + 1)
def fstB (ch : List Nat) : Nat := match ch.getLast? with | none => 0 | some x => x + 1
/-- The first list of so many waxes more that is good enough. -/
def chooseF (cov : List Nat → Bool) (m : Nat) : Nat → List Nat → Option (List Nat)
  | 0, ch => if cov ch then some ch else none
  | k + 1, ch => tryF (fun w => chooseF cov m k (ch ++ [w])) (m - fstB ch) (fstB ch)
def bagF (cov : List Nat → Bool) (m : Nat) : Option (List Nat) := tryF (fun n => chooseF cov m (n + 1) []) m 0
def Inc (m : Nat) (ch : List Nat) : Prop := ch.Pairwise (· < ·) ∧ ∀ x ∈ ch, x < m
/-- Some waxes have a good one for each snow. -/
def covB (rs : List (List Int)) (most : Int) (n : Nat) (ch : List Nat) : Bool := (List.range n).all fun s => ch.any fun w => decide ((rs.getD w []).getD s 0 ≤ most)
theorem filter_or {α : Type} (p q : α → Bool) : ∀ l : List α, (l.filter fun x => p x || q x).length ≤ (l.filter p).length + (l.filter q).length
  | [] => by simp
  | x :: l => by
    have ih := filter_or p q l
    simp only [List.filter_cons]
    cases p x <;> cases q x <;> simp <;> omega
theorem filter_one (c m : Nat) : ((List.range m).filter fun w => decide (w = c)).length ≤ 1 := by
  induction m with
  | zero => simp
  | succ m ih =>
    rw [List.range_succ, List.filter_append, List.length_append]
    by_cases e : m = c
    · subst e
      have : ((List.range m).filter fun w => decide (w = m)) = [] := List.filter_eq_nil_iff.2 fun w hw => by have := List.mem_range.1 hw; simp; omega
      rw [this]
      simp
    · have : ([m].filter fun w => decide (w = c)) = [] := by simp [e]
      rw [this, List.length_nil]
      omega
end Go.Proofs.YtcmpdmobmbbplaaGreat

/- Walks: breaks; slices.Clone; waxes that are good on a snow. -/
namespace Go.Proofs.YtcmpdmobmbbplaaGreat
set_option maxRecDepth 4000
open Go Go.Eng

/-- Chosen waxes as numbers. -/
def chI (ch : List Nat) : List Int := ch.map fun (x : Nat) => (x : Int)
theorem chI_len (ch : List Nat) : (chI ch).length = ch.length := by simp [chI]
def pGd (R : List (List Int)) (most : Int) (s : Nat) : Value → Bool
  | .int _ i => decide ((R.getD i.toNat []).getD s 0 ≤ most)
  | _ => false
end Go.Proofs.YtcmpdmobmbbplaaGreat

/- The engine: loops in which each round leaves marks; the end of a function with many marks. -/
namespace Go.Eng
set_option maxRecDepth 4000
open Go Go.RowKit

section
variable {P : Program} {n : Nat} {F : Fin} {k : List It} {e : Env} {w : World}
theorem y_loopD {r : Option Nat} {ds : List Deferred} {body : Code} (I : List Deferred → Nat → Env → World → Prop) {m : Nat} {l : Env} (h0 : I ds m l w) (hs : Sub l e)
    (round : ∀ ds m l w, I ds m l w → ∀ K : Act → World → Prop, (∀ ds' m' l' e' w', I ds' m' l' w' → m' < m → Sub l' e' → ∀ a, Fits n e' a → a.defers = ds' → K a w') → Y P ⟨r, ds⟩ n F (.code body :: .k K :: k) l w) :
    Y P ⟨r, ds⟩ n F (.code (.loop body) :: k) e w := by
  intro a hf hd
  have key : ∀ m ds l w, I ds m l w → ∀ a, Fits n l a → a.defers = ds → Code.roundsIn (FR r) 0 P body (S P r F k) (m + 1) a w := by
    intro m
    induction m using Nat.strongRecOn with
    | _ m ih =>
      intro ds l w hI a hf hd
      exact round ds m l w hI (Code.roundsIn (FR r) 0 P body (S P r F k) m) (fun ds' m' l' e' w' hI' hlt hs' a' hf' hd' => roundsIn_mono (by omega) (ih m' hlt ds' l' w' hI' a' (hf'.sub hs') hd')) a hf hd
  exact wpIn_loop_rounds (m + 1) (key m ds l w h0 a (hf.sub hs) hd)
end
section
variable {P : Program} {n : Nat} {F : Fin} {w0 : World} {M : Nat → Prop} {k : List It} {e : Env} {H : List Ck}
/-- A loop whose rounds may leave marks. -/
theorem q_loopD {r : Option Nat} {σ : Type} {body : Code} (dsf : σ → List Deferred) (inv : σ → Prop) (m : σ → Nat) (env : σ → Env) (hp : σ → List Ck) (s0 : σ) (h0 : inv s0) (hs : Sub (env s0) e) (hH : Sp H (hp s0))
    (round : ∀ s, inv s → ∀ K : Act → World → Prop, (∀ s' e' H', inv s' → m s' < m s → Sub (env s') e' → Sp H' (hp s') → Q P ⟨r, dsf s'⟩ n F w0 M (.k K :: k) e' H') → Q P ⟨r, dsf s⟩ n F w0 M (.code body :: .k K :: k) (env s) (hp s)) :
    Q P ⟨r, dsf s0⟩ n F w0 M (.code (.loop body) :: k) e H := .mk fun w hw =>
  y_loopD (fun ds m' l w' => ∃ s, inv s ∧ ds = dsf s ∧ m' = m s ∧ l = env s ∧ Sat w0 M (hp s) w') (m := m s0) (l := env s0) ⟨s0, h0, rfl, rfl, rfl, hw.sp hH⟩ hs (by
    rintro ds m' l w' ⟨s, hi, rfl, rfl, rfl, hsat⟩ K hK
    exact (round s hi K (fun s' e' H' hi' hlt hsub hsp => .mk fun w'' hw'' a hf hd => hK (dsf s') (m s') (env s') e' w'' ⟨s', hi', rfl, rfl, rfl, hw''.sp hsp⟩ hlt hsub a hf hd)).h w' hsat)
theorem leaves_marks {fn : Func} {tmps : Array Value} {R : Ending → World → Prop} {H' : List Ck} (hl : ∀ w, Sat w0 M H' w → LeavesInM (FR none) 0 P fn tmps R [] .returning w) : ∀ (Ds : List Nat) (w : World), Sat w0 M (Ds.map dfr ++ H') w → LeavesInM (FR none) 0 P fn tmps R (Ds.map mark) .returning w
  | [], w, h => hl w h
  | D :: Ds, w, h1 => by
    have hp : w.heap[D]? = some (.deferred (some [])) := h1.all _ List.mem_cons_self
    have h2 : Sat w0 M (Ds.map dfr ++ H') (w.putObj D (.deferred none)) := by
      have hsep := List.pairwise_cons.1 h1.sep
      refine ⟨h1.chg.up (putObj_chg w D _) (fun b hb => ?_), fun c hc => Ck.st (h1.all c (List.mem_cons_of_mem _ hc)) (putObj_chg w D _).P (fun b hb hm => ?_), hsep.2, fun c hc b hb => ?_⟩
      · simp at hb
        subst hb
        exact (h1.bd _ List.mem_cons_self b rfl).2
      · simp at hm
        subst hm
        exact hsep.1 c hc b rfl hb
      · rw [World.putObj_size]
        exact h1.bd c (List.mem_cons_of_mem _ hc) b hb
    refine ⟨by simp, .inl ⟨D, _, rfl, run_takeDeferred hp, ?_⟩⟩
    exact leaves_marks hl Ds _ h2
theorem q_finMs {T : Tab} (hT : T.Ok P) (Ds : List Nat) {fn : Func} {R : Value → World → Prop} {rs : List ResultVar} {vs : List Value} {H' : List Ck} (hH : Rm H (un (Ds.map dfr)) H') (hres : fn.results = rs.toArray) (h : RVs T e H' rs vs) (hR : ∀ w, Sat w0 M H' w → R (retV vs) w) : Q P ⟨none, Ds.map mark⟩ n (fun _ => finM P fn R .ret) w0 M [] e H := .mk fun w hs a hf hd => by
  show LeavesInM (FR none) 0 P fn a.tmps _ a.defers .returning w
  rw [show a.defers = Ds.map mark from hd]
  exact leaves_marks (fun w hs => leaves_nil (results_run hT hres h hf hs) ⟨retV vs, rfl, hR w hs⟩) Ds w (Sat.un_iff.1 (hs.perm hH.perm))
end
end Go.Eng

/- Walks: the search of a shortest chain of runs. -/
namespace Go.Proofs.YtcmpdmobmbbplaaGreat
set_option maxRecDepth 4000
open Go Go.Eng

/-- Turned round at both ends, so far. -/
def RevI (l : List Int) (k : Nat) (l' : List Int) : Prop := l'.length = l.length ∧ 2 * k ≤ l.length ∧ ∀ m, m < l.length → l'.getD m 0 = if m < k ∨ l.length ≤ m + k then l.getD (l.length - 1 - m) 0 else l.getD m 0
theorem RevI.zero (l : List Int) : RevI l 0 l := ⟨rfl, by omega, fun m hm => by rw [if_neg (by omega)]⟩
theorem RevI.step {l l' : List Int} {k : Nat} (h : RevI l k l') (hk : k < l.length - 1 - k) (h1 : k < l'.length) (h2 : l.length - 1 - k < l'.length) : RevI l (k + 1) ((l'.set k l'[l.length - 1 - k]).set (l.length - 1 - k) l'[k]) := by
  obtain ⟨hl, hk2, hv⟩ := h
  refine ⟨by simp [hl], by omega, fun m hm => ?_⟩
  have e1 : l'[l.length - 1 - k] = l.getD (l.length - 1 - k) 0 := by
    have := hv (l.length - 1 - k) (by omega)
    rw [if_neg (by omega), List.getD_eq_getElem?_getD, List.getElem?_eq_getElem h2] at this
    exact this
  have e2 : l'[k] = l.getD k 0 := by
    have := hv k (by omega)
    rw [if_neg (by omega), List.getD_eq_getElem?_getD, List.getElem?_eq_getElem h1] at this
    exact this
  rw [set_getD _ _ _ _ (by simpa using h2), set_getD _ _ _ _ h1, e1, e2]
  by_cases c1 : m = l.length - 1 - k
  · rw [if_pos c1, if_pos (by omega), c1]
    congr 1
    omega
  · rw [if_neg c1]
    by_cases c2 : m = k
    · rw [if_pos c2, if_pos (by omega), c2]
    · rw [if_neg c2, hv m hm]
      by_cases c3 : m < k ∨ l.length ≤ m + k
      · rw [if_pos c3, if_pos (by omega)]
      · rw [if_neg c3, if_neg (by omega)]
theorem RevI.end {l l' : List Int} {k : Nat} (h : RevI l k l') (hk : l.length ≤ 2 * k + 1) : l' = l.reverse := by
  obtain ⟨hl, hk2, hv⟩ := h
  refine List.ext_getElem (by simp [hl]) (fun m h1 h2 => ?_)
  have := hv m (by omega)
  rw [List.getD_eq_getElem?_getD, List.getElem?_eq_getElem h1] at this
  rw [List.getElem_reverse]
  have e : l.getD (l.length - 1 - m) 0 = l[l.length - 1 - m] := by
    rw [List.getD_eq_getElem?_getD, List.getElem?_eq_getElem (by omega)]; rfl
  rw [← e, ← Option.getD_some (a := l'[m]) (b := 0), this]
  split
  · rfl
  · congr 1
    omega

set_option maxHeartbeats 4000000 in
theorem rev_ca (w : World) (g c : Nat) (l : List Int) (hl : l.length ≤ 1000000) (hb : w.ownsRow 0 3 1 (.slice (some ⟨g, 0, none⟩) l.length c) l.length (ints l)) :
    Ca Tryz.prog 139 [.slice (some ⟨g, 0, none⟩) l.length c] w fun v w' => v = .tuple #[] ∧ Sat w (fun x => x = g) [.ow (.slice (some ⟨g, 0, none⟩) l.length c) 3 1 l.length (ints l.reverse)] w' := by
  refine q_of (Sat.own0 hb) Tryz.func139 rfl (by simp [Tryz.ntmps139]) ?_
  (refine q_seq (q_region (ql_pure tabOk rfl rfl (ql_pure tabOk rfl rfl (ql_ar tabOk rfl rfl rfl rfl (by omega) (by omega) (ql_pure tabOk rfl rfl (ql_pure tabOk rfl rfl (q_nil (q_block ?_)))))))))
  refine q_loop (σ := Nat × List Int) (fun s => RevI l s.1 s.2) (fun s => l.length - s.1) (fun s => [(0, .slice (some ⟨g, 0, none⟩) l.length c), (2, .int .i64 s.1), (3, .int .i64 (l.length - 1 - s.1))])
    (fun s => [.ow (.slice (some ⟨g, 0, none⟩) l.length c) 3 1 l.length (ints s.2)]) (0, l) (RevI.zero l) ⟨rfl, rfl, lookI rfl (by simp), trivial⟩ (by repeat constructor) ?_
  rintro ⟨k, l'⟩ hI K hK
  simp only at hI
  have hI2 := hI
  obtain ⟨hl', hk2, _⟩ := hI2
  dsimp only
  (refine q_seq (q_seq (q_region ?_)); (iterate 3 refine ql_pure tabOk rfl rfl ?_); refine q_nil ?_)
  refine q_if rfl (fun hc => ?_) (fun hc => ?_)
  · have hk : k < l.length - 1 - k := by omega
    have h1 : k < l'.length := by omega
    have h2 : l.length - 1 - k < l'.length := by omega
    clear hc
    have hst := hI.step hk h1 h2
    obtain ⟨q, hq⟩ : ∃ q : Nat, (q : Int) = (l.length : Int) - 1 - k := ⟨l.length - 1 - k, by omega⟩
    have hq2 : l.length - 1 - k = q := by omega
    simp only [hq2] at hst
    rw [hq2] at h2
    rw [← hq]
    (refine q_skip (q_seq (q_block ?_)))
    refine q_drawB [true, true, false, false, true, true, true, true, true, true, true, true, false, false, false, false] [] [.ow (.slice (some ⟨g, 0, none⟩) l.length c) 3 1 l.length (ints l')] (by repeat constructor) (by kernel_rfl) (by kernel_rfl) (by kernel_rfl) ?_
    refine qb_T 2 rfl rfl (Sp.refl _) fun K1 hK1 => ?_
    (refine qf_pure tabOk rfl rfl rfl (qf_pure tabOk rfl rfl rfl (qf_nil ?_)))
    refine hK1 _ _ (qb_F 2 [.ow (.slice (some ⟨g, 0, none⟩) l.length c) 3 1 l.length (ints l')] rfl rfl (by repeat constructor) fun K1 hK1 => ?_)
    (refine qf_pure tabOk rfl rfl rfl (qf_pure tabOk rfl rfl rfl (qf_nil ?_)))
    refine hK1 _ _ (qb_T 8 rfl rfl (by repeat constructor) fun K1 hK1 => ?_)
    (refine qf_pure tabOk rfl rfl rfl (qf_pure tabOk rfl rfl rfl ?_))
    (refine qf_index tabOk rfl rfl rfl rfl rfl (by omega) (by omega) ?_; refine qf_load1 tabOk rfl rfl rfl (fun w hs => RdI.at (hs.rdI (l := l') (t := 3) (n := l.length) (by repeat constructor) hl'.symm) q h2) ?_)
    (refine qf_pure tabOk rfl rfl rfl (qf_pure tabOk rfl rfl rfl ?_))
    (refine qf_index tabOk rfl rfl rfl rfl rfl (by omega) (by omega) ?_; refine qf_load1 tabOk rfl rfl rfl (fun w hs => RdI.at (hs.rdI (l := l') (t := 3) (n := l.length) (by repeat constructor) hl'.symm) k h1) ?_)
    (refine qf_nil ?_)
    refine hK1 _ _ (qb_F 4 [.ow (.slice (some ⟨g, 0, none⟩) l.length c) 3 1 l.length (ints l')] rfl rfl (by repeat constructor) fun K1 hK1 => ?_)
    skip
    refine qf_index tabOk rfl rfl rfl rfl rfl (by omega) (by omega) ?_
    refine qf_storeW tabOk k rfl rfl rfl rfl (by repeat constructor) (by omega) (by simpa using h1) ?_
    skip
    refine qf_index tabOk rfl rfl rfl rfl rfl (by omega) (by omega) ?_
    refine qf_storeW tabOk q rfl rfl rfl rfl (by repeat constructor) (by omega) (by simpa using h2) ?_
    rw [← List.map_set, ← List.map_set]
    (refine qf_nil ?_)
    refine hK1 _ _ (qb_nil ?_)
    (refine q_blk (q_region (ql_pure tabOk rfl rfl (ql_ar tabOk rfl rfl rfl rfl (by omega) (by omega) (ql_pure tabOk rfl rfl (ql_ar tabOk rfl rfl rfl rfl (by omega) (by omega) (ql_pure tabOk rfl rfl (ql_pure tabOk rfl rfl (q_nil ?_)))))))))
    exact hK (k + 1, _) _ _ hst (by simp only; omega) ⟨rfl, rfl, lookI rfl (by omega), trivial⟩ (by repeat constructor)
  · obtain rfl := hI.end (by omega)
    (refine q_exit _ rfl ?_)
    refine q_end tabOk rfl (by repeat constructor) fun w hs => ?_
    exact ⟨rfl, hs⟩

/-- Numbers that are set to -1, so far. -/
def filP (k : Nat) : List Int := (List.range 8).map fun i => if i < k then -1 else 0
theorem filP_len (k : Nat) : (filP k).length = 8 := by simp [filP]
theorem filP_set {k : Nat} (hk : k < 8) : (filP k).set k (-1) = filP (k + 1) := by
  refine List.ext_getElem (by simp [filP]) (fun i h1 h2 => ?_)
  rw [List.getElem_set]
  simp only [filP, List.getElem_map, List.getElem_range]
  by_cases e : k = i
  · subst e; simp
  · rw [if_neg e]
    by_cases e2 : i < k
    · rw [if_pos e2, if_pos (by omega)]
    · rw [if_neg e2, if_neg (by omega)]
theorem filP_8 : filP 8 = List.replicate 8 (-1) := by decide
theorem i_arr : arrB Tryz.prog 200 8 3 1 = true := by kernel_rfl
theorem chI_add (l : List Nat) (x : Nat) : ints (chI (l ++ [x])) = ints (chI l) ++ [.int .i64 x] := by simp [chI]
theorem sh_run {l : Lb} (hl : l.Ok) {i f s : Nat} (h : Sh l i f s) : ∃ hi : i < l.runs.length, runI l.err l.runs[i] = some ((f : Int), (s : Int)) := by
  obtain ⟨h1, h2⟩ := h
  refine ⟨h1, ?_⟩
  rw [List.getD_eq_getElem?_getD, List.getElem?_eq_getElem h1, Option.getD_some] at h2
  have hr := hl.run _ (List.getElem_mem h1)
  have h3 := hr.a0
  have h5 := hr.b0
  unfold runV at h2
  unfold runI
  split at h2
  · rename_i hc
    rw [if_pos hc]
    have e1 := congrArg Prod.fst (Option.some.inj h2)
    have e2 := congrArg Prod.snd (Option.some.inj h2)
    dsimp only at e1 e2
    rw [← e1, ← e2, Int.toNat_of_nonneg h3, Int.toNat_of_nonneg h5]
  · rename_i hc
    rw [if_neg hc]
    split at h2
    · rename_i hc2
      rw [if_pos hc2]
      have e1 := congrArg Prod.fst (Option.some.inj h2)
      have e2 := congrArg Prod.snd (Option.some.inj h2)
      dsimp only at e1 e2
      rw [← e1, ← e2, Int.toNat_of_nonneg h3, Int.toNat_of_nonneg h5]
    · cases h2
/-- The search ahead of a round. -/
def BIx (l : Lb) (fast slow n : Nat) (by' : List Int) (met lev : List Nat) : Prop := (n < met.length ∧ BI l fast slow n [] by' met lev) ∨ ∃ m, n = m + 1 ∧ n = met.length ∧ BI l fast slow m (shL l) by' met lev
theorem BI.bd {l : Lb} {fast slow n : Nat} {pre : List (Nat × Int × Int)} {by' : List Int} {met lev : List Nat} (h : BI l fast slow n pre by' met lev) : met.length ≤ 9 := by
  have h2 := h.sz
  have h3 := List.length_filter_le (fun s => decide (0 ≤ by'.getD s 0)) (List.range 8)
  rw [List.length_range] at h3
  omega
theorem BIx.bd {l : Lb} {fast slow n : Nat} {by' : List Int} {met lev : List Nat} (h : BIx l fast slow n by' met lev) : n ≤ met.length ∧ met.length ≤ 9 := by
  rcases h with ⟨h1, h2⟩ | ⟨m, h1, h2, h3⟩
  · exact ⟨by omega, h2.bd⟩
  · exact ⟨by omega, h3.bd⟩
theorem BIx.go {l : Lb} {fast slow n : Nat} {by' : List Int} {met lev : List Nat} (h : BIx l fast slow n by' met lev) (hn : n < met.length) : BI l fast slow n [] by' met lev := by
  rcases h with ⟨_, h2⟩ | ⟨m, h1, h2, h3⟩
  · exact h2
  · omega
theorem BIx.after {l : Lb} {fast slow n : Nat} {by' : List Int} {met lev : List Nat} (h : BI l fast slow n (shL l) by' met lev) : BIx l fast slow (n + 1) by' met lev := by
  have := h.nl
  by_cases h1 : n + 1 < met.length
  · exact .inl ⟨h1, h.next h1⟩
  · exact .inr ⟨n, rfl, by omega, h⟩
theorem BIx.none {l : Lb} {fast slow n : Nat} {by' : List Int} {met lev : List Nat} (he : 0 ≤ l.err) (h : BIx l fast slow n by' met lev) (hn : n = met.length) : NoCh l fast slow ∧ by'.getD slow 0 < 0 ∧ by'.length = 8 := by
  rcases h with ⟨h1, _⟩ | ⟨m, h1, h2, h3⟩
  · omega
  · exact ⟨h3.none he (by omega), h3.slow, h3.bl⟩
def tK41_bd78311 : OT := .alt (chainT [11, 0, 1, 2, 3, 4, 5, 6, 7, 8, 9, 10, 12, 13] (.nil)) (chainT [0, 1, 2, 3, 4, 5, 6, 7, 11, 8, 9, 10, 12, 13] (.nil))
set_option maxHeartbeats 4000000 in
theorem chain_ca (w : World) (b : Nat) (lo hi : Nat) (l : Lb) (v : Value) (o : Nat) (t : TypeId) (hb : Blk w b (dkC l v o) t) (h : RdR w lo hi v l.runs) (hl : l.Ok) (fast slow : Nat) (hf8 : fast < 8) (hs8 : slow < 8) :
    Ca Tryz.prog 80 [.pointer (some ⟨b, 0, none⟩), .int .i64 fast, .int .i64 slow] w fun x w' => (x = .slice none 0 0 ∧ NoCh l fast slow ∧ Chg [] w w') ∨ ∃ g cp : Nat, ∃ c : List Int, x = .slice (some ⟨g, 0, none⟩) c.length cp ∧ Short l fast slow c ∧ Sat w M0 [.ow x 3 1 c.length (ints c)] w' := by
  have hlen : l.runs.length ≤ maxLen := by have := hl.len; simp only [maxLen]; omega
  refine q_ofM (Sat.nil w M0) Tryz.func80 rfl (by simp [Tryz.ntmps80]) ?_
  (refine q_seq (q_region ?_))
  refine ql_box rfl rfl (fun b5 => ?_)
  (refine ql_pure tabOk rfl rfl (q_nil ?_))
  refine q_scope (fun _ _ _ h => h) ?_
  (refine q_seq (q_region ?_))
  refine ql_alloc zero200 rfl (fun b7 => ?_)
  (refine q_nil (q_seq (q_seq (q_region (ql_pure tabOk rfl rfl (q_nil (q_block ?_)))))))
  refine q_loop (σ := Nat) (fun k => k ≤ 8) (fun k => 8 - k) (fun k => [(0, .pointer (some ⟨b, 0, none⟩)), (1, .int .i64 fast), (5, .pointer (some ⟨b5, 0, none⟩)), (7, .pointer (some ⟨b7, 0, none⟩)), (17, .int .i64 k)]) (fun k => [.pt b7 (ints (filP k)) 200, .pt b5 [.int .i64 slow] 3]) 0 (by omega) ⟨rfl, rfl, rfl, rfl, rfl, trivial⟩ (by repeat constructor) ?_
  · rintro k hk K hK
    (refine q_seq (q_region (ql_pure tabOk rfl rfl (q_nil (q_seq ?_)))))
    refine q_if rfl (fun hc => ?_) (fun hc => ?_)
    · have hk2 : k < 8 := by omega
      clear hc
      (refine q_skip (q_seq (q_block (q_seq (q_region (ql_pure tabOk rfl rfl (ql_pure tabOk rfl rfl (q_nil (q_region (ql_pure tabOk rfl rfl ?_))))))))))
      refine ql_indexA (len := 8) i_arr rfl rfl rfl (by omega) (by omega) ?_
      have hi : k < (filP k).length := by rw [filP_len]; omega
      refine ql_storeI tabOk (k) rfl rfl rfl (by repeat constructor) (by first | rfl | omega | simp) hi ?_
      rw [filP_set hk2]
      (refine q_nil (q_blk (q_region (ql_ar tabOk rfl rfl rfl rfl (by omega) (by omega) (ql_pure tabOk rfl rfl (q_nil ?_))))))
      exact hK (k + 1) _ _ (by omega) (by omega) ⟨rfl, rfl, rfl, rfl, rfl, trivial⟩ (by repeat constructor)
    · have hk8 : k = 8 := by omega
      subst hk8
      rw [filP_8]
      clear hc hK hk
      (refine q_exit _ rfl (q_seq (q_region (ql_pure tabOk rfl rfl ?_))))
      refine ql_mkS 3 [.int .i64 fast] rfl (by kernel_rfl) rfl (fun b24 => ?_)
      skip
      refine ql_alloc zero48 rfl (fun b9 => ?_)
      (refine ql_set tabOk rfl rfl rfl rfl (by repeat constructor) ?_; refine q_nil (q_seq (q_label (q_seq (q_seq (q_region ?_))))))
      refine ql_alloc zero3 rfl (fun b10 => ?_)
      (refine ql_set tabOk rfl rfl rfl rfl (by repeat constructor) ?_; refine q_nil (q_block ?_))
      refine q_conv (H' := [.ow (.slice (some ⟨b24, 0, none⟩) 1 1) 3 1 1 (ints (chI [fast])), .pt b9 [.slice (some ⟨b24, 0, none⟩) 1 1] 48, .pt b10 [.int .i64 0] 3, .pt b7 (ints (List.replicate 8 (-1))) 200, .pt b5 [.int .i64 slow] 3, un (([] : List Nat).map dfr)]) (fun w' hs => (Sat.un_nil (Sat.pt_ow (sz := 1) (m := 1) rfl (by omega) (hs.sp (H' := [.pt b24 [.int .i64 fast] 3, .pt b9 [.slice (some ⟨b24, 0, none⟩) 1 1] 48, .pt b10 [.int .i64 0] 3, .pt b7 (ints (List.replicate 8 (-1))) 200, .pt b5 [.int .i64 slow] 3]) (by repeat constructor)))).sp (by repeat constructor)) ?_
      refine q_loopD (σ := Nat × List Int × (List Nat × List Nat) × List Nat × Nat × Value) (fun s => s.2.2.2.1.map Eng.mark) (fun s => BIx l fast slow s.1 s.2.1 s.2.2.1.1 s.2.2.1.2) (fun s => 10 - s.1)
        (fun s => [(0, .pointer (some ⟨b, 0, none⟩)), (1, .int .i64 fast), (5, .pointer (some ⟨b5, 0, none⟩)), (7, .pointer (some ⟨b7, 0, none⟩)), (9, .pointer (some ⟨b9, 0, none⟩)), (10, .pointer (some ⟨s.2.2.2.2.1, 0, none⟩))])
        (fun s => [.ow s.2.2.2.2.2 3 1 s.2.2.1.1.length (ints (chI s.2.2.1.1)), .pt b9 [s.2.2.2.2.2] 48, .pt s.2.2.2.2.1 [.int .i64 s.1] 3, .pt b7 (ints s.2.1) 200, .pt b5 [.int .i64 slow] 3, un (s.2.2.2.1.map dfr)])
        (0, List.replicate 8 (-1), ([fast], [0]), [], b10, .slice (some ⟨b24, 0, none⟩) 1 1) (.inl ⟨by simp, BI.start l hf8 hs8⟩) ⟨rfl, rfl, rfl, rfl, rfl, rfl, trivial⟩ (by repeat constructor) ?_
      rintro ⟨n, by', ⟨met, lev⟩, Ds, x10, vm⟩ hI K hK
      dsimp only at hI hK ⊢
      have hmc : n ≤ met.length ∧ met.length ≤ 9 := hI.bd
      refine q_fact (fun w hs => hs.slice2 (v := vm) (by repeat constructor)) ?_
      rintro ⟨ga, gc, rfl⟩
      (refine q_seq (q_seq (q_region ?_)); (iterate 2 refine ql_loadBa tabOk rfl rfl rfl ?_); refine ql_pure tabOk rfl rfl (ql_pure tabOk rfl rfl (q_nil ?_)))
      refine q_if rfl (fun hc => ?_) (fun hc => ?_)
      · have hn : n < met.length := by omega
        clear hc
        have hB := hI.go hn
        (refine q_skip (q_seq (q_block (q_seq (q_region ?_)))); (iterate 3 refine ql_pure tabOk rfl rfl ?_); refine ql_loadPA tabOk rfl rfl rfl (by assumption) (by rfl) (by rfl) ?_)
        refine ql_call (β := Nat) tabOk [] _ M0 rfl rfl rfl rfl (Sp.refl _) (fun _ h => h.elim) (fun w' hs => shown_ca w' l v) ?_
        rintro bs _ rfl
        dsimp only [List.cons_append, List.nil_append]
        (refine q_nil (q_block ?_))
        obtain ⟨he0, he1⟩ : 0 ≤ l.err ∧ l.err ≤ 1000 := ⟨hl.e0, hl.e1⟩
        refine q_range shE (List Int × (List Nat × List Nat) × Value) (shL l) (fun pre s => BI l fast slow n pre s.1 s.2.1.1 s.2.1.2) (fun c s => c = .exit 2 ∧ ∃ K, BK l fast slow s.1 slow [] K)
          (fun s => [.ow s.2.2 3 1 s.2.1.1.length (ints (chI s.2.1.1)), .pt b9 [s.2.2] 48, .pt b7 (ints s.1) 200]) [.pt x10 [.int .i64 n] 3, .pt b5 [.int .i64 slow] 3, un (Ds.map dfr), .pt bs (lbC l v) 24] (by', (met, lev), .slice ga met.length gc)
          rfl (by kernel_rfl) rfl (fun _ _ => rfl) hB (by repeat constructor) ?_ ?_ ?_ ?_
        · intro w1 D hs hD
          exact shown_it w w1 D lo hi bs l v h ⟨hl.e0, hl.e1⟩ (by have := hl.len; omega) (fun w' hc => hs.chg0.old hc (fun k hk => (hD k hk).2.resolve_left (fun h => h))) (hs.blk (by repeat constructor)) (fun h => (hD _ h).1 ⟨.pt bs (lbC l v) _, (by repeat constructor), rfl⟩)
        · clear hB hI K hK
          rintro pre ⟨i, p1, p2⟩ post ⟨by', ⟨met, lev⟩, vm⟩ w1 lb rdy bsy K F' hx hB hsat hR hbegin hend hret hexit
          dsimp only at hB hend hexit hbegin ⊢
          have hxm : (i, p1, p2) ∈ shL l := by rw [hx]; simp
          have hxl := shL_in hl _ hxm
          have hxs := sh_mem hxm
          have h8 := hl.s1
          obtain ⟨f, hf⟩ := Int.eq_ofNat_of_zero_le hxl.1
          obtain ⟨g, hg⟩ := Int.eq_ofNat_of_zero_le hxl.2.2.1
          dsimp only at hf hg hxl hxs
          subst hf hg
          have hg8 : g < 8 := by omega
          rw [Int.toNat_natCast, Int.toNat_natCast] at hxs
          dsimp only [shE, List.zip_cons_cons, List.zip_nil_left, List.zip_nil_right, List.foldl_cons, List.foldl_nil]
          (refine q_seq (q_region (ql_pure tabOk rfl rfl (q_nil (q_region ?_)))))
          refine ql_alloc zero86 rfl (fun b12 => ?_)
          (refine ql_setA tabOk rfl rfl rfl rfl rfl (by repeat constructor) rfl ?_; refine q_nil ?_)
          refine q_conv (H' := [rdy, .pt b12 [.int .i64 f, .int .i64 g] 86, .ow vm 3 1 met.length (ints (chI met)), .pt b9 [vm] 48, .pt b7 (ints by') 200]) (fun w' hs => hs.sp (by repeat constructor)) ?_
          refine hbegin _ _ ?_
          have hnl := hB.nl
          have hm9 := hB.bd
          have hbl := hB.bl
          have hgb : g < by'.length := by omega
          obtain ⟨mn, hmn⟩ : ∃ mn, mn = met.getD n 0 := ⟨_, rfl⟩
          have hmI : (chI met)[n]'(by rw [chI_len]; exact hnl) = (mn : Int) := by rw [hmn, List.getD_eq_getElem?_getD, List.getElem?_eq_getElem hnl]; simp [chI]
          have hnc : n < (chI met).length := by rw [chI_len]; exact hnl
          obtain ⟨bg, hbg⟩ : ∃ bg, bg = by'.getD g 0 := ⟨_, rfl⟩
          have hbI : by'[g] = bg := by rw [hbg, List.getD_eq_getElem?_getD, List.getElem?_eq_getElem hgb]; rfl
          refine q_fact (fun w hs => hs.ownSome (v := vm) (by repeat constructor) (by omega)) ?_
          rintro ⟨gn, gm, rfl⟩
          (refine q_block (q_seq ?_))
          by_cases hfm : f = mn
          · by_cases hbn : bg < 0
            · skip
              refine q_draw _ [] (Sp.refl _) (by kernel_rfl) (by kernel_rfl) ?_
              (refine qf_pure tabOk rfl rfl rfl ?_; (iterate 2 refine qf_loadBa tabOk rfl rfl rfl ?_))
              refine qf_load1 (v := .int .i64 n) tabOk rfl rfl rfl (fun w hs => by rw [Blk.cell ((hR w hs.chg).blk (b := x10) (cs := [.int .i64 n]) (t := 3) (by repeat constructor))]; rfl) ?_
              skip
              (refine qf_index tabOk rfl rfl rfl rfl rfl (by omega) (by omega) ?_; refine qf_load1 tabOk rfl rfl rfl (fun w hs => RdI.at (hs.rdI (l := chI met) (t := 3) (n := met.length) (by repeat constructor) (chI_len _).symm) n hnc) ?_)
              rw [hmI]
              (refine qf_eqlT tabOk rfl rfl rfl (by omega) (qf_pure tabOk rfl rfl rfl (qf_gyes rfl (qf_pure tabOk rfl rfl rfl (qf_gyes rfl ?_)))); refine qf_loadBa tabOk rfl rfl rfl ?_; refine qf_gyes rfl ?_)
              refine qf_indexA (len := 8) i_arr rfl rfl rfl (by omega) (by omega) ?_
              (refine qf_gyes rfl ?_)
              refine qf_loadI tabOk (g) rfl rfl rfl (by repeat constructor) (by first | rfl | omega | simp) hgb ?_
              rw [hbI]
              (refine qf_gyes rfl (qf_lssT tabOk rfl rfl rfl (by omega) (qf_pure tabOk rfl rfl rfl (qf_nil (q_cond_true rfl (q_seq (q_region (ql_pure tabOk rfl rfl ?_))))))); refine ql_loadBa tabOk rfl rfl rfl ?_; refine ql_pure tabOk rfl rfl ?_)
              refine ql_indexA (len := 8) i_arr rfl rfl rfl (by omega) (by omega) ?_
              refine ql_storeI tabOk (g) rfl rfl rfl (by repeat constructor) (by first | rfl | omega | simp) hgb ?_
              (refine q_nil (q_seq (q_seq (q_region (ql_pure tabOk rfl rfl ?_)))); refine ql_loadBa tabOk rfl rfl rfl ?_)
              refine ql_load1 (v := .int .i64 slow) tabOk rfl rfl rfl (fun w hs => by rw [Blk.cell ((hR w hs.chg).blk (b := b5) (cs := [.int .i64 slow]) (t := 3) (by repeat constructor))]; rfl) ?_
              by_cases hgs : g = slow
              · have hstop : BK l fast slow (by'.set g (i : Int)) slow [] (lev.getD n 0 + 1) := by
                  have := hB.stop (x := (i, (f : Int), (g : Int))) hl.e0 (by rw [Int.toNat_natCast, Int.toNat_natCast]; exact hxs) hs8 (by rw [Int.toNat_natCast, ← hmn]; exact hfm) (by rw [Int.toNat_natCast]; exact hgs)
                  rw [hgs]
                  exact this
                (refine ql_eqlT tabOk rfl rfl rfl (by omega) (q_nil (q_cond_true rfl ?_)))
                refine q_exit_out rfl ?_
                exact hexit 2 _ _ (by'.set g i, (met, lev), _) ⟨rfl, lev.getD n 0 + 1, hstop⟩ (by repeat constructor)
              · (refine ql_eqlF tabOk rfl rfl rfl (by omega) (q_nil (q_cond_false rfl (q_skip (q_region ?_)))); refine ql_loadBa tabOk rfl rfl rfl ?_; refine ql_pure tabOk rfl rfl ?_; refine ql_loadBa tabOk rfl rfl rfl ?_)
                refine ql_mkS 3 [.int .i64 g] rfl (by kernel_rfl) rfl (fun bn => ?_)
                skip
                refine ql_append (q := 1) (news := [.int .i64 g]) slI rfl rfl rfl (fun v' => by repeat constructor) (fun w' hs => ⟨_, _, Blk.rdN (hs.blk (b := bn) (by repeat constructor)) rfl⟩) (by simp [oneV]) (by omega) (by omega) (fun u' => ?_)
                refine ql_fact (fun w' hs => hs.own_one (v := u') (by repeat constructor)) (fun hone => ?_)
                refine ql_store1 tabOk rfl rfl rfl hone (by repeat constructor) (by simp) ?_
                (refine q_nil (q_blk ?_))
                have hA := hB.add (x := (i, (f : Int), (g : Int))) (by rw [Int.toNat_natCast, Int.toNat_natCast]; exact hxs) (by rw [Int.toNat_natCast]; exact hg8) (by show Int.toNat (f : Int) = met.getD n 0; rw [Int.toNat_natCast, ← hmn]; exact hfm) (by show by'.getD (Int.toNat (g : Int)) 0 < 0; rw [Int.toNat_natCast, ← hbg]; exact hbn) (by show Int.toNat (g : Int) ≠ slow; rw [Int.toNat_natCast]; exact hgs)
                simp only [Int.toNat_natCast] at hA
                exact hend _ _ (by'.set g i, (met ++ [g], lev ++ [lev.getD n 0 + 1]), u') hA (by dsimp only; rw [List.length_append, List.length_singleton, chI_add]; repeat constructor)
            · skip
              refine q_draw _ [] (Sp.refl _) (by kernel_rfl) (by kernel_rfl) ?_
              (refine qf_pure tabOk rfl rfl rfl ?_; (iterate 2 refine qf_loadBa tabOk rfl rfl rfl ?_))
              refine qf_load1 (v := .int .i64 n) tabOk rfl rfl rfl (fun w hs => by rw [Blk.cell ((hR w hs.chg).blk (b := x10) (cs := [.int .i64 n]) (t := 3) (by repeat constructor))]; rfl) ?_
              skip
              (refine qf_index tabOk rfl rfl rfl rfl rfl (by omega) (by omega) ?_; refine qf_load1 tabOk rfl rfl rfl (fun w hs => RdI.at (hs.rdI (l := chI met) (t := 3) (n := met.length) (by repeat constructor) (chI_len _).symm) n hnc) ?_)
              rw [hmI]
              (refine qf_eqlT tabOk rfl rfl rfl (by omega) (qf_pure tabOk rfl rfl rfl (qf_gyes rfl (qf_pure tabOk rfl rfl rfl (qf_gyes rfl ?_)))); refine qf_loadBa tabOk rfl rfl rfl ?_; refine qf_gyes rfl ?_)
              refine qf_indexA (len := 8) i_arr rfl rfl rfl (by omega) (by omega) ?_
              (refine qf_gyes rfl ?_)
              refine qf_loadI tabOk (g) rfl rfl rfl (by repeat constructor) (by first | rfl | omega | simp) hgb ?_
              rw [hbI]
              (refine qf_gyes rfl (qf_lssF tabOk rfl rfl rfl (by omega) (qf_pure tabOk rfl rfl rfl (qf_nil (q_cond_false rfl (q_skip (q_blk ?_)))))))
              exact hend _ _ (by', (met, lev), _) (hB.skip hg8 (.inr (by show 0 ≤ by'.getD (Int.toNat (g : Int)) 0; rw [Int.toNat_natCast, ← hbg]; omega))) (by repeat constructor)
          · skip
            refine q_draw _ [] (Sp.refl _) (by kernel_rfl) (by kernel_rfl) ?_
            (refine qf_pure tabOk rfl rfl rfl ?_; (iterate 2 refine qf_loadBa tabOk rfl rfl rfl ?_))
            refine qf_load1 (v := .int .i64 n) tabOk rfl rfl rfl (fun w hs => by rw [Blk.cell ((hR w hs.chg).blk (b := x10) (cs := [.int .i64 n]) (t := 3) (by repeat constructor))]; rfl) ?_
            skip
            (refine qf_index tabOk rfl rfl rfl rfl rfl (by omega) (by omega) ?_; refine qf_load1 tabOk rfl rfl rfl (fun w hs => RdI.at (hs.rdI (l := chI met) (t := 3) (n := met.length) (by repeat constructor) (chI_len _).symm) n hnc) ?_)
            rw [hmI]
            (refine qf_eqlF tabOk rfl rfl rfl (by omega) (qf_pure tabOk rfl rfl rfl ?_); (iterate 5 refine qf_gno rfl rfl rfl ?_); refine qf_pure tabOk rfl rfl rfl (qf_nil (q_cond_false rfl (q_skip (q_blk ?_)))))
            exact hend _ _ (by', (met, lev), _) (hB.skip hg8 (.inl (by show Int.toNat (f : Int) ≠ met.getD n 0; rw [Int.toNat_natCast, ← hmn]; exact hfm))) (by repeat constructor)
        · intro D s hI2
          obtain ⟨by', ⟨met, lev⟩, vm⟩ := s
          dsimp only at hI2 ⊢
          (refine q_blk (q_blk (q_seq (q_seq (q_region ?_)))); refine ql_loadBa tabOk rfl rfl rfl ?_; refine q_nil (q_region ?_))
          refine ql_alloc zero3 rfl (fun y10 => ?_)
          (refine ql_set tabOk rfl rfl rfl rfl (by repeat constructor) ?_; refine q_nil (q_region ?_); refine ql_loadBa tabOk rfl rfl rfl ?_; refine ql_ar tabOk rfl rfl rfl rfl (by omega) (by omega) ?_; refine ql_set tabOk rfl rfl rfl rfl (by repeat constructor) ?_; refine q_nil ?_)
          refine q_conv (H' := [.ow vm 3 1 met.length (ints (chI met)), .pt b9 [vm] 48, .pt y10 [.int .i64 (n + 1)] 3, .pt b7 (ints by') 200, .pt b5 [.int .i64 slow] 3, un ((D :: Ds).map dfr)]) (fun w' hs => (Sat.un_in (hs.sp (H' := [dfr D, un (Ds.map dfr), .ow vm 3 1 met.length (ints (chI met)), .pt b9 [vm] 48, .pt y10 [.int .i64 (n + 1)] 3, .pt b7 (ints by') 200, .pt b5 [.int .i64 slow] 3]) (by repeat constructor))).sp (by repeat constructor)) ?_
          exact hK (n + 1, by', (met, lev), D :: Ds, y10, vm) _ _ (BIx.after hI2) (by dsimp only; omega) ⟨rfl, rfl, rfl, rfl, rfl, rfl, trivial⟩ (Sp.refl _)
        · rintro D ⟨by', ⟨met, lev⟩, vm⟩ c ⟨rfl, KK, hBK⟩
          dsimp only at hBK ⊢
          (refine q_exit _ rfl (q_seq (q_seq (q_region ?_))); refine ql_loadBa tabOk rfl rfl rfl ?_)
          have hb8 := hBK.bl
          have hge : 0 ≤ by'.getD slow 0 := by
            rcases hBK.ge with h1 | ⟨_, h2⟩
            · exact h1
            · exact absurd rfl h2
          refine ql_indexA (len := 8) i_arr rfl rfl rfl (by omega) (by omega) ?_
          have his : slow < by'.length := by omega
          refine ql_loadI tabOk (slow) rfl rfl rfl (by repeat constructor) (by first | rfl | omega | simp) his ?_
          rw [show by'[slow] = by'.getD slow 0 from by rw [List.getD_eq_getElem?_getD, List.getElem?_eq_getElem his]; rfl]
          (refine ql_lssF tabOk rfl rfl rfl (by omega) (q_nil (q_cond_false rfl (q_skip (q_seq (q_region (ql_pure tabOk rfl rfl (q_nil (q_seq (q_seq (q_region ?_)))))))))); refine ql_loadBa tabOk rfl rfl rfl ?_; refine ql_pure tabOk rfl rfl (q_nil (q_block ?_)))
          refine q_conv (H' := [.ow (.slice none 0 0) 3 1 0 (ints []), .pt b7 (ints by') 200, un ((D :: Ds).map dfr)]) (fun w' hs => Sat.ownil ((Sat.un_in (hs.sp (H' := [dfr D, un (Ds.map dfr), .pt b7 (ints by') 200]) (by repeat constructor))).sp (by repeat constructor)) _ _) ?_
          refine q_loop (σ := Nat × List Int × Value) (fun s => BK l fast slow by' s.1 s.2.1 KK) (fun s => KK + 1 - s.2.1.length)
            (fun s => [(0, .pointer (some ⟨b, 0, none⟩)), (1, .int .i64 fast), (7, .pointer (some ⟨b7, 0, none⟩)), (13, s.2.2), (14, .int .i64 s.1)])
            (fun s => [.ow s.2.2 3 1 s.2.1.length (ints s.2.1), .pt b7 (ints by') 200, un ((D :: Ds).map dfr)]) (slow, [], .slice none 0 0) hBK ⟨rfl, rfl, rfl, rfl, rfl, trivial⟩ (Sp.refl _) ?_
          rintro ⟨at', out, vo⟩ hO K3 hK3
          dsimp only at hO hK3 ⊢
          have hob := hO.bound
          have hk9 := hO.kb
          have ha8 := hO.at8
          refine q_fact (fun w hs => hs.slice2 (v := vo) (by repeat constructor)) ?_
          rintro ⟨vg, vc, rfl⟩
          by_cases hol : out.length = 0
          · have hgo : out = [] ∨ at' ≠ fast := .inl (List.length_eq_zero_iff.1 hol)
            (refine q_seq (q_seq (q_region (ql_pure tabOk rfl rfl (ql_pure tabOk rfl rfl (ql_eqlT tabOk rfl rfl rfl (by omega) (ql_pure tabOk rfl rfl ?_)))))); (iterate 3 refine ql_gno rfl rfl rfl ?_); refine ql_pure tabOk rfl rfl (q_nil (q_cond_true rfl (q_skip (q_block (q_seq (q_region (ql_pure tabOk rfl rfl (ql_pure tabOk rfl rfl ?_)))))))))
            obtain ⟨f, hf0, hsh, hO2⟩ := hO.step hgo
            have hib : at' < by'.length := by omega
            obtain ⟨bi, hbi⟩ : ∃ bi : Nat, (bi : Int) = by'.getD at' 0 := ⟨(by'.getD at' 0).toNat, by omega⟩
            rw [← hbi] at hO2 hsh
            rw [Int.toNat_natCast] at hsh
            have hbI : by'[at'] = bi := by rw [hbi, List.getD_eq_getElem?_getD, List.getElem?_eq_getElem hib]; rfl
            skip
            refine ql_indexA (len := 8) i_arr rfl rfl rfl (by omega) (by omega) ?_
            refine ql_loadI tabOk (at') rfl rfl rfl (by repeat constructor) (by first | rfl | omega | simp) hib ?_
            rw [hbI]
            skip
            refine ql_mkS 3 [.int .i64 bi] rfl (by kernel_rfl) rfl (fun bn => ?_)
            skip
            refine ql_append (q := 1) (news := [.int .i64 bi]) slI rfl rfl rfl (fun v' => by repeat constructor) (fun w' hs => ⟨_, _, Blk.rdN (hs.blk (b := bn) (by repeat constructor)) rfl⟩) (by simp [oneV]) (by omega) (by omega) (fun u' => ?_)
            (refine ql_pure tabOk rfl rfl (q_nil (q_seq ?_)))
            obtain ⟨hbl, hrun⟩ := sh_run hl hsh
            refine q_cut (σ := Nat) (fun z => [(0, .pointer (some ⟨b, 0, none⟩)), (1, .int .i64 fast), (7, .pointer (some ⟨b7, 0, none⟩)), (13, u'), (14, .int .i64 at'), (15, .pointer (some ⟨z, 0, none⟩))])
              (fun z => [.pt z [.int .i64 f, .int .i64 at'] 86, .ow u' 3 1 (out.length + 1) (ints out ++ [.int .i64 bi]), .pt b7 (ints by') 200, un ((D :: Ds).map dfr)]) ?_ ?_
            rotate_left
            · intro K4 hK4
              refine q_drawT (tK41_bd78311) _ [] (Sp.refl _) (by kernel_rfl) (by kernel_rfl) ?_
              refine qt_alt ?_ ?_
              · skip
                refine qt_seg (by repeat (first | exact PickL.nil | (apply PickL.cons; rfl))) fun K1 hK1 => ?_
                skip
                refine qf_alloc zero86 rfl (fun b15 => ?_)
                ((iterate 3 refine qf_pure tabOk rfl rfl rfl ?_); refine qf_loadPA tabOk rfl rfl rfl (by assumption) (by rfl) (by rfl) ?_; refine qf_pure tabOk rfl rfl rfl ?_)
                refine qf_indexA (len := 8) i_arr rfl rfl rfl (by omega) (by omega) ?_
                refine qf_loadI tabOk (at') rfl rfl rfl (by repeat constructor) (by first | rfl | omega | simp) hib ?_
                rw [hbI]
                skip
                refine qf_callv (val := .tuple #[.agg #[.int .i64 f, .int .i64 at'], .bool true]) tabOk rfl rfl rfl rfl (fun w hs => ?_) ?_; exact by have := shows_ca w lo hi l v (RdE.keep h hs.chg0) ⟨hl.e0, hl.e1⟩ bi hbl; rw [hrun] at this; exact this
                (refine qf_pure tabOk rfl rfl rfl (qf_ext tabOk rfl rfl rfl (qf_ext tabOk rfl rfl rfl ?_)); refine qf_setA tabOk rfl rfl rfl rfl rfl (by repeat constructor) rfl ?_; refine qf_pure tabOk rfl rfl rfl (qf_nil ?_))
                skip
                exact hK1 _ _ (qt_nil (hK4 b15 _ _ ⟨rfl, rfl, rfl, rfl, rfl, rfl, trivial⟩ (by repeat constructor)))
              · skip
                refine qt_seg (by repeat (first | exact PickL.nil | (apply PickL.cons; rfl))) fun K1 hK1 => ?_
                ((iterate 3 refine qf_pure tabOk rfl rfl rfl ?_); refine qf_loadPA tabOk rfl rfl rfl (by assumption) (by rfl) (by rfl) ?_; refine qf_pure tabOk rfl rfl rfl ?_)
                refine qf_indexA (len := 8) i_arr rfl rfl rfl (by omega) (by omega) ?_
                refine qf_loadI tabOk (at') rfl rfl rfl (by repeat constructor) (by first | rfl | omega | simp) hib ?_
                rw [hbI]
                skip
                refine qf_callv (val := .tuple #[.agg #[.int .i64 f, .int .i64 at'], .bool true]) tabOk rfl rfl rfl rfl (fun w hs => ?_) ?_; exact by have := shows_ca w lo hi l v (RdE.keep h hs.chg0) ⟨hl.e0, hl.e1⟩ bi hbl; rw [hrun] at this; exact this
                skip
                refine qf_alloc zero86 rfl (fun b15 => ?_)
                (refine qf_pure tabOk rfl rfl rfl (qf_ext tabOk rfl rfl rfl (qf_ext tabOk rfl rfl rfl ?_)); refine qf_setA tabOk rfl rfl rfl rfl rfl (by repeat constructor) rfl ?_; refine qf_pure tabOk rfl rfl rfl (qf_nil ?_))
                skip
                exact hK1 _ _ (qt_nil (hK4 b15 _ _ ⟨rfl, rfl, rfl, rfl, rfl, rfl, trivial⟩ (by repeat constructor)))
            intro b15
            (refine q_region (ql_pure tabOk rfl rfl ?_); refine ql_loadBa tabOk rfl rfl rfl ?_; refine ql_pure tabOk rfl rfl (q_nil (q_blk ?_)))
            have hb2 := hO2.bound
            rw [List.length_append, List.length_singleton] at hb2
            exact hK3 (f, out ++ [(bi : Int)], u') _ _ hO2 (by dsimp only; rw [List.length_append, List.length_singleton]; omega) ⟨rfl, rfl, rfl, rfl, rfl, trivial⟩ (by dsimp only; rw [List.length_append, List.length_singleton, show ints (out ++ [(bi : Int)]) = ints out ++ [.int .i64 bi] from by simp]; repeat constructor)
          · by_cases haf : at' = fast
            · have hne : out ≠ [] := fun e => hol (by rw [e]; rfl)
              have hsh := (show BK l fast slow by' fast out KK from haf ▸ hO).end hne
              refine q_fact (fun w hs => hs.ownSome (v := .slice vg out.length vc) (by repeat constructor) (by omega)) ?_
              rintro ⟨qg, qc, hq⟩
              cases hq
              (refine q_seq (q_seq (q_region (ql_pure tabOk rfl rfl (ql_pure tabOk rfl rfl (ql_eqlF tabOk rfl rfl rfl (by omega) (ql_pure tabOk rfl rfl (ql_gyes rfl (ql_pure tabOk rfl rfl (ql_gyes rfl (ql_pure tabOk rfl rfl (ql_gyes rfl ?_))))))))))); refine ql_neqF tabOk rfl rfl rfl (by omega) (ql_pure tabOk rfl rfl (q_nil (q_cond_false rfl (q_exit _ rfl (q_seq (q_region (ql_pure tabOk rfl rfl ?_))))))))
              refine ql_call (β := Unit) (ψ := fun _ v => v = .tuple #[]) (L' := fun _ => [.ow (.slice (some ⟨qg, 0, none⟩) out.length vc) 3 1 out.length (ints out.reverse)]) tabOk [.ow (.slice (some ⟨qg, 0, none⟩) out.length vc) 3 1 out.length (ints out)] _ (fun x => x = qg) rfl rfl rfl rfl (Sp.cons (by repeat constructor) (Sp.refl _)) (fun x hx => ⟨_, .head _, by subst hx; rfl⟩) (fun w' hs => (rev_ca w' qg vc out (by omega) (hs.all _ (.head _))).mono fun v w'' h => ⟨(), h⟩) ?_
              rintro _ _ rfl
              (refine q_nil (q_seq (q_region (ql_pure tabOk rfl rfl (ql_pure tabOk rfl rfl (q_nil (q_ret ?_)))))))
              refine q_finMs tabOk (D :: Ds) (by repeat constructor) rfl (by repeat constructor) fun w hs => ?_
              exact .inr ⟨qg, vc, out.reverse, by rw [List.length_reverse]; rfl, hsh, by rw [List.length_reverse]; exact hs.sp (by repeat constructor)⟩
            · have hgo : out = [] ∨ at' ≠ fast := .inr haf
              (refine q_seq (q_seq (q_region (ql_pure tabOk rfl rfl (ql_pure tabOk rfl rfl (ql_eqlF tabOk rfl rfl rfl (by omega) (ql_pure tabOk rfl rfl (ql_gyes rfl (ql_pure tabOk rfl rfl (ql_gyes rfl (ql_pure tabOk rfl rfl (ql_gyes rfl ?_))))))))))); refine ql_neqT tabOk rfl rfl rfl (by omega) (ql_pure tabOk rfl rfl (q_nil (q_cond_true rfl (q_skip (q_block (q_seq (q_region (ql_pure tabOk rfl rfl (ql_pure tabOk rfl rfl ?_))))))))))
              obtain ⟨f, hf0, hsh, hO2⟩ := hO.step hgo
              have hib : at' < by'.length := by omega
              obtain ⟨bi, hbi⟩ : ∃ bi : Nat, (bi : Int) = by'.getD at' 0 := ⟨(by'.getD at' 0).toNat, by omega⟩
              rw [← hbi] at hO2 hsh
              rw [Int.toNat_natCast] at hsh
              have hbI : by'[at'] = bi := by rw [hbi, List.getD_eq_getElem?_getD, List.getElem?_eq_getElem hib]; rfl
              skip
              refine ql_indexA (len := 8) i_arr rfl rfl rfl (by omega) (by omega) ?_
              refine ql_loadI tabOk (at') rfl rfl rfl (by repeat constructor) (by first | rfl | omega | simp) hib ?_
              rw [hbI]
              skip
              refine ql_mkS 3 [.int .i64 bi] rfl (by kernel_rfl) rfl (fun bn => ?_)
              skip
              refine ql_append (q := 1) (news := [.int .i64 bi]) slI rfl rfl rfl (fun v' => by repeat constructor) (fun w' hs => ⟨_, _, Blk.rdN (hs.blk (b := bn) (by repeat constructor)) rfl⟩) (by simp [oneV]) (by omega) (by omega) (fun u' => ?_)
              (refine ql_pure tabOk rfl rfl (q_nil (q_seq ?_)))
              obtain ⟨hbl, hrun⟩ := sh_run hl hsh
              refine q_cut (σ := Nat) (fun z => [(0, .pointer (some ⟨b, 0, none⟩)), (1, .int .i64 fast), (7, .pointer (some ⟨b7, 0, none⟩)), (13, u'), (14, .int .i64 at'), (15, .pointer (some ⟨z, 0, none⟩))])
                (fun z => [.pt z [.int .i64 f, .int .i64 at'] 86, .ow u' 3 1 (out.length + 1) (ints out ++ [.int .i64 bi]), .pt b7 (ints by') 200, un ((D :: Ds).map dfr)]) ?_ ?_
              rotate_left
              · intro K4 hK4
                refine q_drawT (tK41_bd78311) _ [] (Sp.refl _) (by kernel_rfl) (by kernel_rfl) ?_
                refine qt_alt ?_ ?_
                · skip
                  refine qt_seg (by repeat (first | exact PickL.nil | (apply PickL.cons; rfl))) fun K1 hK1 => ?_
                  skip
                  refine qf_alloc zero86 rfl (fun b15 => ?_)
                  ((iterate 3 refine qf_pure tabOk rfl rfl rfl ?_); refine qf_loadPA tabOk rfl rfl rfl (by assumption) (by rfl) (by rfl) ?_; refine qf_pure tabOk rfl rfl rfl ?_)
                  refine qf_indexA (len := 8) i_arr rfl rfl rfl (by omega) (by omega) ?_
                  refine qf_loadI tabOk (at') rfl rfl rfl (by repeat constructor) (by first | rfl | omega | simp) hib ?_
                  rw [hbI]
                  skip
                  refine qf_callv (val := .tuple #[.agg #[.int .i64 f, .int .i64 at'], .bool true]) tabOk rfl rfl rfl rfl (fun w hs => ?_) ?_; exact by have := shows_ca w lo hi l v (RdE.keep h hs.chg0) ⟨hl.e0, hl.e1⟩ bi hbl; rw [hrun] at this; exact this
                  (refine qf_pure tabOk rfl rfl rfl (qf_ext tabOk rfl rfl rfl (qf_ext tabOk rfl rfl rfl ?_)); refine qf_setA tabOk rfl rfl rfl rfl rfl (by repeat constructor) rfl ?_; refine qf_pure tabOk rfl rfl rfl (qf_nil ?_))
                  skip
                  exact hK1 _ _ (qt_nil (hK4 b15 _ _ ⟨rfl, rfl, rfl, rfl, rfl, rfl, trivial⟩ (by repeat constructor)))
                · skip
                  refine qt_seg (by repeat (first | exact PickL.nil | (apply PickL.cons; rfl))) fun K1 hK1 => ?_
                  ((iterate 3 refine qf_pure tabOk rfl rfl rfl ?_); refine qf_loadPA tabOk rfl rfl rfl (by assumption) (by rfl) (by rfl) ?_; refine qf_pure tabOk rfl rfl rfl ?_)
                  refine qf_indexA (len := 8) i_arr rfl rfl rfl (by omega) (by omega) ?_
                  refine qf_loadI tabOk (at') rfl rfl rfl (by repeat constructor) (by first | rfl | omega | simp) hib ?_
                  rw [hbI]
                  skip
                  refine qf_callv (val := .tuple #[.agg #[.int .i64 f, .int .i64 at'], .bool true]) tabOk rfl rfl rfl rfl (fun w hs => ?_) ?_; exact by have := shows_ca w lo hi l v (RdE.keep h hs.chg0) ⟨hl.e0, hl.e1⟩ bi hbl; rw [hrun] at this; exact this
                  skip
                  refine qf_alloc zero86 rfl (fun b15 => ?_)
                  (refine qf_pure tabOk rfl rfl rfl (qf_ext tabOk rfl rfl rfl (qf_ext tabOk rfl rfl rfl ?_)); refine qf_setA tabOk rfl rfl rfl rfl rfl (by repeat constructor) rfl ?_; refine qf_pure tabOk rfl rfl rfl (qf_nil ?_))
                  skip
                  exact hK1 _ _ (qt_nil (hK4 b15 _ _ ⟨rfl, rfl, rfl, rfl, rfl, rfl, trivial⟩ (by repeat constructor)))
              intro b15
              (refine q_region (ql_pure tabOk rfl rfl ?_); refine ql_loadBa tabOk rfl rfl rfl ?_; refine ql_pure tabOk rfl rfl (q_nil (q_blk ?_)))
              have hb2 := hO2.bound
              rw [List.length_append, List.length_singleton] at hb2
              exact hK3 (f, out ++ [(bi : Int)], u') _ _ hO2 (by dsimp only; rw [List.length_append, List.length_singleton]; omega) ⟨rfl, rfl, rfl, rfl, rfl, trivial⟩ (by dsimp only; rw [List.length_append, List.length_singleton, show ints (out ++ [(bi : Int)]) = ints out ++ [.int .i64 bi] from by simp]; repeat constructor)
      · have hn : n = met.length := by omega
        clear hc
        (refine q_exit _ rfl (q_seq (q_seq (q_region ?_))); refine ql_loadBa tabOk rfl rfl rfl ?_)
        obtain ⟨hno, hb0, hb8⟩ := hI.none hl.e0 hn
        refine ql_indexA (len := 8) i_arr rfl rfl rfl (by omega) (by omega) ?_
        have hi : slow < by'.length := by omega
        refine ql_loadI tabOk (slow) rfl rfl rfl (by repeat constructor) (by first | rfl | omega | simp) hi ?_
        rw [show by'[slow] = by'.getD slow 0 from by rw [List.getD_eq_getElem?_getD, List.getElem?_eq_getElem hi]; rfl]
        (refine ql_lssT tabOk rfl rfl rfl (by omega) (q_nil (q_cond_true rfl (q_seq (q_region (ql_pure tabOk rfl rfl (q_nil (q_ret ?_))))))))
        refine q_finMs tabOk Ds (by repeat constructor) rfl (by repeat constructor) fun w hs => ?_
        exact .inl ⟨rfl, hno, hs.chg0⟩
end Go.Proofs.YtcmpdmobmbbplaaGreat

/- Walks: the shortest chain, or the error. -/
namespace Go.Proofs.YtcmpdmobmbbplaaGreat
set_option maxRecDepth 4000
open Go Go.Eng

/-- What comes of asking for a chain. -/
def ChR (l : Lb) (a b : Int) (c : List Int) (e : Int) : Prop := (twoV l a b ≠ 0 ∧ c = [] ∧ e = twoV l a b) ∨ (twoV l a b = 0 ∧ NoCh l a.toNat b.toNat ∧ c = [] ∧ e = 6) ∨ (twoV l a b = 0 ∧ Short l a.toNat b.toNat c ∧ e = 0)
theorem chain0_ca (w : World) (lo hi : Nat) (l : Lb) (v : Value) (a b : Int) (h : RdR w lo hi v l.runs) (hlen : l.runs.length ≤ maxLen) :
    Ca Tryz.prog 27 [.agg (lbC l v).toArray, .int .i64 a, .int .i64 b] w fun x w' => ∃ y : Value × List Int × Int, (x = .tuple #[y.1, .int .i64 y.2.2] ∧ ChR l a b y.2.1 y.2.2) ∧ Sat w M0 [.ow y.1 3 1 y.2.1.length (ints y.2.1)] w' := by
  refine q_of (Sat.nil w M0) Tryz.func27 rfl (by simp [Tryz.ntmps27]) ?_
  (refine q_seq (q_region ?_))
  refine ql_box rfl rfl (fun b3 => ?_)
  rw [agg_cells]
  (refine ql_pure tabOk rfl rfl (ql_pure tabOk rfl rfl (q_nil (q_seq (q_region ?_)))); refine ql_loadABa tabOk rfl rfl rfl ?_; refine ql_pure tabOk rfl rfl (ql_pure tabOk rfl rfl ?_))
  by_cases h2 : twoV l a b = 0
  · obtain ⟨hl, ha, hb⟩ := two_iff.1 h2
    have s1 := hl.s1
    have a1 := inB_iff.1 ha
    have b1 := inB_iff.1 hb
    refine ql_call (β := Nat) tabOk [] _ M0 rfl rfl rfl rfl (Sp.refl _) (fun _ h => h.elim) (fun w' hs => two_ok w' lo hi l v a b (RdE.keep h hs.chg0) h2) ?_
    rintro d _ rfl
    dsimp only [List.cons_append, List.nil_append]
    (refine ql_pure tabOk rfl rfl (ql_ext tabOk rfl rfl rfl (ql_ext tabOk rfl rfl rfl (ql_pure tabOk rfl rfl (ql_pure tabOk rfl rfl (q_nil (q_seq (q_seq (q_region (ql_pure tabOk rfl rfl (ql_neqF tabOk rfl rfl rfl (by omega) (q_nil ?_))))))))))); refine q_cond_false rfl (q_skip (q_seq (q_seq (q_region ?_)))); (iterate 3 refine ql_pure tabOk rfl rfl ?_))
    refine ql_call (β := Option (Nat × Nat × List Int)) (ψ := fun o x => match o with | none => x = .slice none 0 0 ∧ NoCh l a.toNat b.toNat | some y => x = .slice (some ⟨y.1, 0, none⟩) y.2.2.length y.2.1 ∧ Short l a.toNat b.toNat y.2.2) (L' := fun o => match o with | none => [] | some y => [.ow (.slice (some ⟨y.1, 0, none⟩) y.2.2.length y.2.1) 3 1 y.2.2.length (ints y.2.2)]) tabOk [] _ M0 rfl rfl rfl rfl (Sp.refl _) (fun _ h => h.elim) (fun w' hs => by
      have hch := chain_ca w' d lo hi l v l.ord 122 (hs.blk (by repeat constructor)) (RdE.keep h hs.chg0) hl a.toNat b.toNat (by omega) (by omega)
      rw [Int.toNat_of_nonneg a1.1, Int.toNat_of_nonneg b1.1] at hch
      refine hch.mono fun x w2 hx => ?_
      rcases hx with ⟨g1, g2, g3⟩ | ⟨g, cp, c, g1, g2, g3⟩
      · exact ⟨none, ⟨g1, g2⟩, (Sat.nil w' M0).keep g3⟩
      · exact ⟨some (g, cp, c), ⟨g1, g2⟩, by rw [g1] at g3; exact g3⟩) ?_
    rintro o x hox
    cases o with
    | none =>
      obtain ⟨rfl, hno⟩ := hox
      dsimp only [List.nil_append]
      (refine ql_pure tabOk rfl rfl (q_nil (q_seq (q_region (ql_pure tabOk rfl rfl ?_)))))
      refine ql_neqnil tabOk rfl rfl rfl rfl ?_
      (refine q_nil (q_cond_false rfl (q_skip (q_seq (q_region (ql_pure tabOk rfl rfl (ql_pure tabOk rfl rfl (q_nil (q_ret ?_)))))))))
      refine q_fin tabOk rfl (by repeat constructor) fun w hs => ?_
      exact ⟨(.slice none 0 0, [], 6), ⟨rfl, .inr (.inl ⟨h2, hno, rfl, rfl⟩)⟩, Sat.ownil (hs.sp (by repeat constructor)) _ _⟩
    | some y =>
      obtain ⟨g, cp, c⟩ := y
      obtain ⟨rfl, hsh⟩ := hox
      dsimp only [List.nil_append, List.cons_append]
      (refine ql_pure tabOk rfl rfl (q_nil (q_seq (q_region (ql_pure tabOk rfl rfl ?_)))))
      refine ql_neqnil tabOk rfl rfl rfl rfl ?_
      (refine q_nil (q_cond_true rfl (q_seq (q_region ?_))); (iterate 3 refine ql_pure tabOk rfl rfl ?_); refine q_nil (q_ret ?_))
      refine q_fin tabOk rfl (by repeat constructor) fun w hs => ?_
      exact ⟨(.slice (some ⟨g, 0, none⟩) c.length cp, c, 0), ⟨rfl, .inr (.inr ⟨h2, hsh, rfl⟩)⟩, hs.sp (by repeat constructor)⟩
  · refine ql_call (β := Option Addr) tabOk [] _ M0 rfl rfl rfl rfl (Sp.refl _) (fun _ h => h.elim) (fun w' hs => two_no w' lo hi l v a b (RdE.keep h hs.chg0) hlen h2) ?_
    rintro p _ rfl
    dsimp only [List.cons_append, List.nil_append]
    (refine ql_pure tabOk rfl rfl (ql_ext tabOk rfl rfl rfl (ql_ext tabOk rfl rfl rfl (ql_pure tabOk rfl rfl (ql_pure tabOk rfl rfl (q_nil (q_seq (q_seq (q_region (ql_pure tabOk rfl rfl (ql_neqT tabOk rfl rfl rfl (by omega) (q_nil ?_))))))))))); refine q_cond_true rfl (q_seq (q_region ?_)); (iterate 3 refine ql_pure tabOk rfl rfl ?_); refine q_nil (q_ret ?_))
    refine q_fin tabOk rfl (by repeat constructor) fun w hs => ?_
    exact ⟨(.slice none 0 0, [], twoV l a b), ⟨rfl, .inl ⟨h2, rfl, rfl⟩⟩, Sat.ownil (hs.sp (by repeat constructor)) _ _⟩
end Go.Proofs.YtcmpdmobmbbplaaGreat

/- Walks: runs that contradict each other. -/
namespace Go.Proofs.YtcmpdmobmbbplaaGreat
set_option maxRecDepth 4000
open Go Go.Eng
/-- What comes of asking for a round. -/
def RoR (l : Lb) (c : List Int) (e : Int) : Prop := (checkV l ≠ 0 ∧ c = [] ∧ e = checkV l) ∨ (l.Ok ∧ NoC l.ord l.n ∧ c = [] ∧ e = 6) ∨ (l.Ok ∧ e = 0 ∧ ∃ s : Nat, s < l.n ∧ fa l.ord s s = true ∧ Short l s s c)
end Go.Proofs.YtcmpdmobmbbplaaGreat

/- The plain law of SkiPlanned: plans. -/
namespace Go.Proofs.YtcmpdmobmbbplaaGreat
set_option maxRecDepth 4000

theorem sumN_one : ∀ n, sumN (fun _ => 1) n = n
  | 0 => rfl
  | n + 1 => by unfold sumN; rw [sumN_one n]
theorem count_all {f : Nat → Nat} {n : Nat} : ∀ m, (∀ s, s < m → f s < n) → sumN (fun p => ((List.range m).filter fun s => decide (f s = p)).length) n = m
  | 0, _ => by
    have := sumN_bd (f := fun p => ((List.range 0).filter fun s => decide (f s = p)).length) (B := 0) n (fun i _ => by simp)
    omega
  | m + 1, h => by
    have ih := count_all (f := f) m (fun s hs => h s (by omega))
    have h1 := sumN_upd (f := fun p => ((List.range m).filter fun s => decide (f s = p)).length) (g := fun p => ((List.range (m + 1)).filter fun s => decide (f s = p)).length) (k := f m) (d := 1) n (h m (by omega)) (fun i hi hne => by
      have e : ([m].filter fun s => decide (f s = i)) = [] := by simp [Ne.symm hne]
      simp only [List.range_succ, List.filter_append, e, List.append_nil]) (by
      have e : ([m].filter fun s => decide (f s = f m)) = [m] := by simp
      simp only [List.range_succ, List.filter_append, e, List.length_append, List.length_singleton])
    rw [h1, ih]
theorem surj {f : Nat → Nat} {n : Nat} (hf : ∀ s, s < n → f s < n) (inj : ∀ s t, s < n → t < n → f s = f t → s = t) : ∀ p, p < n → ∃ s, s < n ∧ f s = p := fun p hp => by
  rcases Classical.em (∃ s, s < n ∧ f s = p) with h | h
  · exact h
  · exfalso
    have h1 := count_all (f := f) n hf
    have h2 : sumN (fun p => ((List.range n).filter fun s => decide (f s = p)).length) n ≤ sumN (fun i => if i = p then 0 else 1) n := sumN_le n fun i hi => by
      split
      · rename_i e
        subst e
        have : ((List.range n).filter fun s => decide (f s = i)) = [] := List.filter_eq_nil_iff.2 fun s hs => by
          have := List.mem_range.1 hs
          simp only [decide_eq_true_eq]
          exact fun e => h ⟨s, this, e⟩
        rw [this]
        simp
      · rcases Classical.em (∃ s, s < n ∧ f s = i) with ⟨s, hs, e⟩ | h3
        · refine Nat.le_trans (filter_le _ (fun t => decide (t = s)) _ fun t ht h4 => ?_) (filter_one s n)
          have := List.mem_range.1 ht
          simp only [decide_eq_true_eq] at h4 ⊢
          exact inj t s this hs (by omega)
        · have : ((List.range n).filter fun s => decide (f s = i)) = [] := List.filter_eq_nil_iff.2 fun s hs => by
            have := List.mem_range.1 hs
            simp only [decide_eq_true_eq]
            exact fun e => h3 ⟨s, this, e⟩
          rw [this]
          simp
    have h3 := sumN_upd (f := fun i => if i = p then 0 else 1) (g := fun _ => 1) (k := p) (d := 1) n hp (fun i _ hne => by simp [hne]) (by simp)
    rw [sumN_one] at h3
    omega
/-- Of each two skis one is faster. -/
def Tot (o n : Nat) : Prop := ∀ s t, s < n → t < n → s ≠ t → fa o s t = true ∨ fa o t s = true
theorem tot_sum {o n s : Nat} (ht : Tot o n) (ho : Ord o) (hc : NoC o n) (hn : n ≤ 8) (hs : s < n) : upN o s n + dnN o s n + 1 = n := by
  have h1 := up_dn hc ho hn hs
  have h2 := filter_add (fun t => fa o t s) (fun t => fa o s t) (List.range n) (fun t h h3 => hc.asym ho hn (List.mem_range.1 h) hs h3)
  have h3 := filter_or (fun t => fa o t s || fa o s t) (fun t => decide (t = s)) (List.range n)
  have h4 := filter_one s n
  have h5 : ((List.range n).filter fun t => (fa o t s || fa o s t) || decide (t = s)) = List.range n := List.filter_eq_self.2 fun t h => by
    have := List.mem_range.1 h
    by_cases e : t = s
    · simp [e]
    · rcases ht t s this hs e with h | h <;> simp [h]
  rw [h5, List.length_range] at h3
  unfold upN dnN at *
  omega
theorem up_lt {o n s t : Nat} (ho : Ord o) (hc : NoC o n) (hn : n ≤ 8) (hs : s < n) (ht : t < n) (h : fa o s t = true) : upN o s n < upN o t n :=
  filter_lt _ _ _ (fun a ha h1 => ho.tr a s t (by have := List.mem_range.1 ha; omega) (by omega) (by omega) h1 h) ⟨s, List.mem_range.2 hs, h, hc s hs⟩
theorem tot_known {o n k : Nat} (ht : Tot o n) (ho : Ord o) (hc : NoC o n) (hn : n ≤ 8) (hk : k ≤ n) : knownO o n k = true := known_iff.2 fun p hp => by
  obtain ⟨s, hs, e⟩ := surj (f := fun s => upN o s n) (n := n) (fun s hs => by have := tot_sum ht ho hc hn hs; omega) (fun s t hs ht' e => by
    rcases Classical.em (s = t) with h | h
    · exact h
    · rcases ht s t hs ht' h with h1 | h1
      · have := up_lt ho hc hn hs ht' h1; omega
      · have := up_lt ho hc hn ht' hs h1; omega) p (by omega)
  have := tot_sum ht ho hc hn hs
  exact ⟨s, hs, e, by omega⟩
theorem tot_or {o n : Nat} (h : ¬ Tot o n) : ∃ p ∈ pairsN n, undO o p = true := by
  rcases Classical.em (∃ p ∈ pairsN n, undO o p = true) with h1 | h1
  · exact h1
  · refine absurd (fun s t hs ht hne => ?_) h
    rcases Classical.em (fa o s t = true ∨ fa o t s = true) with h2 | h2
    · exact h2
    · exfalso
      rw [not_or] at h2
      rcases Nat.lt_or_gt_of_ne hne with h3 | h3
      · exact h1 ⟨(t, s), pairs_iff.2 ⟨ht, h3⟩, und_iff.2 ⟨Bool.eq_false_iff.2 h2.2, Bool.eq_false_iff.2 h2.1⟩⟩
      · exact h1 ⟨(s, t), pairs_iff.2 ⟨hs, h3⟩, und_iff.2 ⟨Bool.eq_false_iff.2 h2.1, Bool.eq_false_iff.2 h2.2⟩⟩
theorem plan_und {n k : Nat} (hn : n ≤ 8) (hk : k ≤ n) : ∀ u o, undN o n ≤ u → Ord o → NoC o n → planO n k o ≤ undN o n
  | u, o, hu, ho, hc => by
    by_cases hkn : knownO o n k = true
    · rw [plan_eq hn ho, if_pos hkn]
      omega
    · obtain ⟨p, hp, hup⟩ := tot_or (o := o) (n := n) (fun ht => hkn (tot_known ht ho hc hn hk))
      have hU := Und.of ho hn hp hup
      have h1 := und_lt hU
      have h2 := und_lt hU.swap
      have h3 := plan_worth (k := k) hU
      match u with
      | 0 => omega
      | u + 1 =>
        have h4 := plan_und hn hk u _ (by omega) (ho.with (f := p.1) (s := p.2) (by have := hU.hx; omega) (by have := hU.hy; omega)) (hc.with hU)
        have h5 := plan_und hn hk u _ (by omega) (ho.with (f := p.2) (s := p.1) (by have := hU.hy; omega) (by have := hU.hx; omega)) (hc.with hU.swap)
        unfold worthO at h3
        omega
theorem pairs_len {n : Nat} (hn : n ≤ 8) (h1 : 1 ≤ n) : (pairsN n).length < n * n ∧ (n ≤ 5 → (pairsN n).length ≤ 10) := by
  obtain rfl | rfl | rfl | rfl | rfl | rfl | rfl | rfl : n = 1 ∨ n = 2 ∨ n = 3 ∨ n = 4 ∨ n = 5 ∨ n = 6 ∨ n = 7 ∨ n = 8 := by omega
  all_goals decide
theorem und_len (o n : Nat) : undN o n ≤ (pairsN n).length := List.length_filter_le _ _
theorem fold_mem (u : Nat × Nat → Bool) (g : Nat × Nat → Nat) : ∀ (l : List (Nat × Nat)) (a : Nat), l.foldl (fun best p => cond (u p) (min best (g p)) best) a = a ∨ ∃ p ∈ l, u p = true ∧ l.foldl (fun best p => cond (u p) (min best (g p)) best) a = g p
  | [], a => .inl rfl
  | p :: l, a => by
    rw [List.foldl_cons]
    rcases fold_mem u g l (cond (u p) (min a (g p)) a) with h | ⟨q, hq, h1, h2⟩
    · rw [h]
      cases hu : u p with
      | false => exact .inl rfl
      | true =>
        rw [cond_true]
        rcases Nat.le_total a (g p) with h3 | h3
        · exact .inl (Nat.min_eq_left h3)
        · exact .inr ⟨p, List.mem_cons_self, hu, Nat.min_eq_right h3⟩
    · exact .inr ⟨q, List.mem_cons_of_mem _ hq, h1, h2⟩
/-- Some run of two skis of which it is not known which one is faster is worth the fewest. -/
theorem plan_at {n k o : Nat} (hn : n ≤ 8) (h1 : 1 ≤ n) (hk : k ≤ n) (ho : Ord o) (hc : NoC o n) (hkn : ¬ knownO o n k = true) : ∃ p ∈ pairsN n, undO o p = true ∧ worthO n k o p.1 p.2 = planO n k o := by
  have h2 := plan_und hn hk _ o (Nat.le_refl _) ho hc
  have h3 := und_len o n
  have h4 := (pairs_len hn h1).1
  have h5 := plan_eq (k := k) hn ho
  rw [if_neg hkn] at h5
  rcases fold_mem (undO o) (fun p => worthO n k o p.1 p.2) (pairsN n) (n * n) with h6 | ⟨p, hp, hu, h6⟩
  · rw [h6] at h5
    omega
  · exact ⟨p, hp, hu, by rw [h5, h6]⟩
end Go.Proofs.YtcmpdmobmbbplaaGreat

/- The plain law of SkiPlanned: orders that fit. -/
namespace Go.Proofs.YtcmpdmobmbbplaaGreat
set_option maxRecDepth 4000

/-- An order that fits. -/
structure LinO (o n : Nat) (L : List Nat) : Prop where
  perm : L.Perm (List.range n)
  idx : ∀ a b, a < 8 → b < 8 → fa o a b = true → a < n ∧ b < n ∧ L.idxOf a < L.idxOf b
theorem LinO.len {o n : Nat} {L : List Nat} (h : LinO o n L) : L.length = n := by rw [h.perm.length_eq, List.length_range]
theorem LinO.mem {o n : Nat} {L : List Nat} (h : LinO o n L) {s : Nat} : s ∈ L ↔ s < n := by rw [h.perm.mem_iff, List.mem_range]
theorem LinO.noC {o n : Nat} {L : List Nat} (h : LinO o n L) (hn : n ≤ 8) : NoC o n := fun s hs => Bool.eq_false_iff.2 fun hh => by
  have := (h.idx s s (by omega) (by omega) hh).2.2
  omega
theorem LinO.with {o n x y : Nat} {L : List Nat} (h : LinO o n L) (hn : n ≤ 8) (hx : x < n) (hy : y < n) (hxy : L.idxOf x < L.idxOf y) : LinO (withO o x y) n L :=
  ⟨h.perm, with_sub (R := fun a b => a < n ∧ b < n ∧ L.idxOf a < L.idxOf b) (by omega) (by omega) (fun a b c _ _ _ h1 h2 => ⟨h1.1, h2.2.1, by omega⟩) h.idx ⟨hx, hy, hxy⟩⟩
/-- The first order that fits. -/
def nextO (o n S : Nat) : Option Nat := (List.range n).find? fun s => freeO o n s S
def firF (o n : Nat) : Nat → List Nat × Nat
  | 0 => ([], 0)
  | j + 1 => match nextO o n (firF o n j).2 with
    | some s => ((firF o n j).1 ++ [s], (firF o n j).2 ||| 2 ^ s)
    | none => firF o n j
structure FirI (o n j : Nat) (L : List Nat) (S : Nat) : Prop where
  rest : ∃ R, (L ++ R).Perm (List.range n)
  len : L.length = j
  bit : ∀ t, t < n → (S.testBit t = true ↔ t ∈ L)
  bd : S < 2 ^ n
  down : ∀ s, s ∈ L → ∀ t, t < n → fa o t s = true → t ∈ L ∧ L.idxOf t < L.idxOf s
theorem or_bit {S s t : Nat} : (S ||| 2 ^ s).testBit t = (S.testBit t || decide (s = t)) := by rw [Nat.testBit_or, Nat.testBit_two_pow]
theorem min_in {o n S : Nat} (hc : NoC o n) (ho : Ord o) (hn : n ≤ 8) : ∀ k s, s < n → S.testBit s = false → upN o s n ≤ k → ∃ t, t < n ∧ freeO o n t S = true
  | k, s, hs, hb, hk => by
    by_cases h : ∃ u, u < n ∧ S.testBit u = false ∧ fa o u s = true
    · obtain ⟨u, hu, hbu, hf⟩ := h
      have hlt := up_lt ho hc hn hu hs hf
      match k with
      | 0 => omega
      | k + 1 => exact min_in hc ho hn k u hu hbu (by omega)
    · refine ⟨s, hs, free_iff.2 ⟨hb, fun u hu hf => ?_⟩⟩
      cases h2 : S.testBit u with
      | true => rfl
      | false => exact absurd ⟨u, hu, h2, hf⟩ h
theorem fir_step {o n j : Nat} {L : List Nat} {S s : Nat} (h : FirI o n j L S) (hs : s < n) (hf : freeO o n s S = true) : FirI o n (j + 1) (L ++ [s]) (S ||| 2 ^ s) := by
  obtain ⟨R, hR⟩ := h.rest
  obtain ⟨h1, h2⟩ := free_iff.1 hf
  have hsL : s ∉ L := fun hm => by rw [(h.bit s hs).2 hm] at h1; cases h1
  have hsR : s ∈ R := by
    have : s ∈ L ++ R := hR.mem_iff.2 (List.mem_range.2 hs)
    exact (List.mem_append.1 this).resolve_left hsL
  refine ⟨⟨R.erase s, ?_⟩, by rw [List.length_append, h.len]; rfl, fun t ht => ?_, ?_, fun t ht u hu hf2 => ?_⟩
  · rw [List.append_assoc]
    exact (List.Perm.append_left L (List.perm_cons_erase hsR).symm).trans hR
  · rw [or_bit, Bool.or_eq_true, h.bit t ht, List.mem_append, List.mem_singleton, decide_eq_true_iff]
    exact ⟨fun h => h.imp_right Eq.symm, fun h => h.imp_right Eq.symm⟩
  · refine Nat.or_lt_two_pow h.bd (Nat.pow_lt_pow_right (by omega) hs)
  · rcases List.mem_append.1 ht with h3 | h3
    · obtain ⟨h4, h5⟩ := h.down t h3 u hu hf2
      exact ⟨List.mem_append_left _ h4, by rw [List.idxOf_append, List.idxOf_append, if_pos h4, if_pos h3]; exact h5⟩
    · obtain rfl := List.mem_singleton.1 h3
      have h4 := (h.bit u hu).1 (h2 u hu hf2)
      refine ⟨List.mem_append_left _ h4, ?_⟩
      rw [List.idxOf_append, List.idxOf_append, if_pos h4, if_neg hsL]
      have := List.idxOf_lt_length_iff.2 h4
      omega
theorem fir_is {o n : Nat} (hc : NoC o n) (ho : Ord o) (hn : n ≤ 8) : ∀ j, j ≤ n → FirI o n j (firF o n j).1 (firF o n j).2
  | 0, _ => ⟨⟨List.range n, by simp [firF]⟩, rfl, fun t _ => by simp [firF], Nat.pow_pos (by omega), fun s hs => by simp [firF] at hs⟩
  | j + 1, hj => by
    have ih := fir_is hc ho hn j (by omega)
    unfold firF
    split
    · rename_i s hs
      have h1 := List.find?_some hs
      have h2 := List.mem_of_find?_eq_some hs
      exact fir_step ih (List.mem_range.1 h2) h1
    · rename_i hs
      exfalso
      obtain ⟨R, hR⟩ := ih.rest
      have h1 := hR.length_eq
      rw [List.length_append, ih.len, List.length_range] at h1
      obtain ⟨s, hsR⟩ : ∃ s, s ∈ R := by
        cases R with
        | nil => simp at h1; omega
        | cons s R => exact ⟨s, List.mem_cons_self⟩
      have hsn : s < n := List.mem_range.1 (hR.mem_iff.1 (List.mem_append_right _ hsR))
      have hnd := hR.nodup_iff.2 List.nodup_range
      have hb : (firF o n j).2.testBit s = false := Bool.eq_false_iff.2 fun h => by
        have h2 := (ih.bit s hsn).1 h
        exact (List.nodup_append.1 hnd).2.2 s h2 s hsR rfl
      obtain ⟨t, ht, hf⟩ := min_in hc ho hn (upN o s n) s hsn hb (Nat.le_refl _)
      exact List.find?_eq_none.1 hs t (List.mem_range.2 ht) hf
/-- Skis that are faster, and slower, are skis of the lab. -/
def InO (o n : Nat) : Prop := ∀ a b, a < 8 → b < 8 → fa o a b = true → a < n ∧ b < n
theorem Lb.Ok.inO {l : Lb} (h : l.Ok) : InO l.ord l.n := order_sub (R := fun a b => a < l.n ∧ b < l.n) h.in8 (fun _ _ _ _ _ _ h1 h2 => ⟨h1.1, h2.2⟩) fun p hp => ⟨(h.in p hp).1, (h.in p hp).2.1⟩
theorem first_lin {o n : Nat} (hc : NoC o n) (ho : Ord o) (hn : n ≤ 8) (hi : InO o n) : LinO o n (firF o n n).1 := by
  have h := fir_is hc ho hn n (Nat.le_refl _)
  obtain ⟨R, hR⟩ := h.rest
  have h1 := hR.length_eq
  rw [List.length_append, h.len, List.length_range] at h1
  have h2 : R = [] := List.length_eq_zero_iff.1 (by omega)
  rw [h2, List.append_nil] at hR
  refine ⟨hR, fun a b ha hb hf => ?_⟩
  obtain ⟨h3, h4⟩ := hi a b ha hb hf
  exact ⟨h3, h4, (h.down b (hR.mem_iff.2 (List.mem_range.2 h4)) a h3 hf).2⟩
/-- The skis, the fastest one first. -/
def rnkK (real : List Int) (x : Int) : Int := -(real.getD x.toNat 0)
def rankL (real : List Int) : List Int := ordK (rnkK real) real.length
end Go.Proofs.YtcmpdmobmbbplaaGreat

/- The plain law of Drop: the fewest runs without which the others do not contradict each other, found set by set. -/
namespace Go.Proofs.YtcmpdmobmbbplaaGreat
set_option maxRecDepth 4000
open Go Go.Eng
/-- Sets of skis as numbers. -/
def bitL (R : List Nat) : Nat := R.foldr (fun s S => S ||| 2 ^ s) 0
theorem bit_mem (t : Nat) : ∀ R : List Nat, (bitL R).testBit t = decide (t ∈ R)
  | [] => by simp [bitL]
  | s :: R => by
    have ih := bit_mem t R
    show (bitL R ||| 2 ^ s).testBit t = _
    rw [or_bit, ih]
    by_cases h : t = s
    · subst h; simp
    · have h2 : ¬ s = t := fun e => h e.symm
      simp [h, h2]
theorem bitL_ext {R R' : List Nat} (h : ∀ t, t ∈ R ↔ t ∈ R') : bitL R = bitL R' := Nat.eq_of_testBit_eq fun t => by
  rw [bit_mem, bit_mem]
  exact decide_eq_decide.2 (h t)
theorem bitL_all {R : List Nat} {n : Nat} (h : ∀ t, t ∈ R ↔ t < n) : bitL R = 2 ^ n - 1 := Nat.eq_of_testBit_eq fun t => by
  rw [bit_mem, Nat.testBit_two_pow_sub_one]
  exact decide_eq_decide.2 (h t)
theorem bitL_cons {s : Nat} {R : List Nat} (h : s ∉ R) : bitL (s :: R) ^^^ 2 ^ s = bitL R := Nat.eq_of_testBit_eq fun t => by
  by_cases e : t = s
  · subst e
    rw [bit_xor_self (by rw [bit_mem]; simp), bit_mem]
    simp [h]
  · rw [bit_xor e, bit_mem, bit_mem]
    simp [e]
/-- The runs that show a ski to be faster than one of a set. -/
def agB (s S : Nat) (x : Nat × Int × Int) : Bool := decide (x.2.1.toNat = s) && S.testBit x.2.2.toNat
def agL (l : Lb) (s S : Nat) : List Nat := ((shL l).filter (agB s S)).map (·.1)
theorem ag_mem {l : Lb} {s S i : Nat} : i ∈ agL l s S ↔ ∃ t, Sh l i s t ∧ S.testBit t = true := by
  unfold agL agB
  simp only [List.mem_map, List.mem_filter, Bool.and_eq_true, decide_eq_true_iff]
  constructor
  · rintro ⟨x, ⟨h1, h2, h3⟩, rfl⟩
    have := sh_mem h1
    rw [h2] at this
    exact ⟨_, this, h3⟩
  · rintro ⟨t, h1, h2⟩
    obtain ⟨x, hx, h3, h4, h5⟩ := mem_sh h1
    exact ⟨x, ⟨hx, h4, by rw [h5]; exact h2⟩, h3⟩
theorem sh_fun {l : Lb} {i f s f' s' : Nat} (h : Sh l i f s) (g : Sh l i f' s') : f = f' ∧ s = s' := by
  have := h.2.symm.trans g.2
  simpa using this
theorem sh_nodup (l : Lb) : ((shL l).map (·.1)).Nodup := by
  have key : ∀ n, (((shP l n).map (·.1)).Nodup ∧ ∀ x ∈ shP l n, x.1 < n) := by
    intro n
    induction n with
    | zero => exact ⟨by simp [shP], fun x hx => by simp [shP] at hx⟩
    | succ n ih =>
      have e : shP l (n + 1) = shP l n ++ ((runI l.err (l.runs.getD n ⟨0, 0, 0⟩)).map fun p => (n, p)).toList := by
        unfold shP
        rw [List.range_succ, List.filterMap_append]
        rw [List.filterMap_cons]
        cases h : runI l.err (l.runs.getD n ⟨0, 0, 0⟩) <;> rfl
      rw [e]
      cases runI l.err (l.runs.getD n ⟨0, 0, 0⟩) with
      | none =>
        rw [Option.map_none, Option.toList_none, List.append_nil]
        exact ⟨ih.1, fun x hx => by have := ih.2 x hx; omega⟩
      | some p =>
        refine ⟨?_, fun x hx => ?_⟩
        · rw [List.map_append]
          refine List.nodup_append.2 ⟨ih.1, by simp, fun a ha b hb => ?_⟩
          obtain ⟨x, hx, rfl⟩ := List.mem_map.1 ha
          have := ih.2 x hx
          have hb2 : b = n := by simpa using hb
          omega
        · rcases List.mem_append.1 hx with hx | hx
          · have := ih.2 x hx; omega
          · have : x = (n, p) := by simpa using hx
            rw [this]; simp
  exact (key _).1
theorem ag_nodup (l : Lb) (s S : Nat) : (agL l s S).Nodup := (sh_nodup l).sublist ((List.filter_sublist).map _)
/-- The runs against an order that is told from its end. -/
def dropR (l : Lb) : List Nat → List Nat
  | [] => []
  | s :: R => agL l s (bitL R) ++ dropR l R
theorem dropR_mem {l : Lb} {i : Nat} : ∀ R : List Nat, i ∈ dropR l R ↔ ∃ a s b t, R = a ++ s :: b ∧ t ∈ b ∧ Sh l i s t
  | [] => by simp [dropR]
  | s :: R => by
    rw [dropR, List.mem_append, dropR_mem R, ag_mem]
    constructor
    · rintro (⟨t, h1, h2⟩ | ⟨a, u, b, t, rfl, h2, h3⟩)
      · rw [bit_mem] at h2
        exact ⟨[], s, R, t, rfl, of_decide_eq_true h2, h1⟩
      · exact ⟨s :: a, u, b, t, rfl, h2, h3⟩
    · rintro ⟨a, u, b, t, h1, h2, h3⟩
      cases a with
      | nil =>
        simp only [List.nil_append, List.cons.injEq] at h1
        obtain ⟨rfl, rfl⟩ := h1
        exact .inl ⟨t, h3, by rw [bit_mem]; exact decide_eq_true h2⟩
      | cons x a =>
        simp only [List.cons_append, List.cons.injEq] at h1
        obtain ⟨rfl, rfl⟩ := h1
        exact .inr ⟨a, u, b, t, rfl, h2, h3⟩
theorem dropR_nodup {l : Lb} : ∀ R : List Nat, R.Nodup → (dropR l R).Nodup
  | [], _ => by simp [dropR]
  | s :: R, h => by
    rw [dropR]
    obtain ⟨h1, h2⟩ := List.nodup_cons.1 h
    refine List.nodup_append.2 ⟨ag_nodup l s _, dropR_nodup R h2, fun i hi j hj e => ?_⟩
    subst e
    obtain ⟨t, h3, _⟩ := ag_mem.1 hi
    obtain ⟨a, u, b, t', rfl, h4, h5⟩ := (dropR_mem R).1 hj
    obtain ⟨rfl, rfl⟩ := sh_fun h3 h5
    exact h1 (by simp)
theorem dropR_lt {l : Lb} {R : List Nat} {i : Nat} (h : i ∈ dropR l R) : i < l.runs.length := by
  obtain ⟨_, _, _, _, _, _, h⟩ := (dropR_mem R).1 h
  exact h.1
/-- The fewest runs against some order of a set, and the last ski of that order. -/
def dpStep (l : Lb) (F : Nat → Nat × Nat) (S : Nat) (p : Nat × Nat) (s : Nat) : Nat × Nat :=
  if S.testBit s = true then if (F (S ^^^ 2 ^ s)).1 + (agL l s (S ^^^ 2 ^ s)).length < p.1 then ((F (S ^^^ 2 ^ s)).1 + (agL l s (S ^^^ 2 ^ s)).length, s) else p else p
def dpF (l : Lb) (n : Nat) : Nat → Nat → Nat × Nat
  | 0, _ => (0, 0)
  | k + 1, S => if S = 0 then (0, 0) else (List.range n).foldl (dpStep l (dpF l n k) S) (41, 0)
def dp (l : Lb) (n S : Nat) : Nat × Nat := dpF l n S S
theorem dpStep_congr {l : Lb} {F G : Nat → Nat × Nat} {S : Nat} (h : ∀ s, S.testBit s = true → F (S ^^^ 2 ^ s) = G (S ^^^ 2 ^ s)) (p : Nat × Nat) (s : Nat) : dpStep l F S p s = dpStep l G S p s := by
  unfold dpStep
  by_cases hs : S.testBit s = true
  · rw [h s hs]
  · rw [if_neg hs, if_neg hs]
theorem foldl_congr2 {α β : Type} {f g : α → β → α} (h : ∀ a b, f a b = g a b) (l : List β) (a : α) : l.foldl f a = l.foldl g a := by
  have : f = g := funext fun a => funext fun b => h a b
  rw [this]
theorem dpF_eq (l : Lb) (n : Nat) : ∀ S k, S ≤ k → dpF l n k S = dp l n S := by
  intro S
  induction S using Nat.strongRecOn with
  | _ S ih =>
    have key : ∀ k, S ≤ k + 1 → S ≠ 0 → dpF l n (k + 1) S = (List.range n).foldl (dpStep l (dp l n) S) (41, 0) := by
      intro k hk h0
      rw [dpF, if_neg h0]
      exact foldl_congr2 (fun p s => dpStep_congr (fun s hs => ih _ (xor_lt hs) k (by have := xor_lt hs; omega)) p s) _ _
    intro k hk
    by_cases h0 : S = 0
    · subst h0
      cases k <;> simp [dp, dpF]
    · obtain ⟨k, rfl⟩ : ∃ m, k = m + 1 := ⟨k - 1, by omega⟩
      obtain ⟨S', hS⟩ : ∃ m, S = m + 1 := ⟨S - 1, by omega⟩
      rw [key k hk h0]
      show _ = dpF l n S S
      rw [show dpF l n S S = dpF l n (S' + 1) S from by rw [← hS], key S' (by omega) h0]
theorem dp_zero (l : Lb) (n : Nat) : dp l n 0 = (0, 0) := rfl
theorem dp_eq {l : Lb} {n S : Nat} (h : S ≠ 0) : dp l n S = (List.range n).foldl (dpStep l (dp l n) S) (41, 0) := by
  obtain ⟨S', hS⟩ : ∃ m, S = m + 1 := ⟨S - 1, by omega⟩
  show dpF l n S S = _
  rw [show dpF l n S S = dpF l n (S' + 1) S from by rw [← hS], dpF, if_neg h]
  exact foldl_congr2 (fun p s => dpStep_congr (fun s hs => dpF_eq l n _ S' (by have := xor_lt hs; omega)) p s) _ _
def dpPart (l : Lb) (n S j : Nat) : Nat × Nat := (List.range j).foldl (dpStep l (dp l n) S) (41, 0)
theorem dpPart_succ (l : Lb) (n S j : Nat) : dpPart l n S (j + 1) = dpStep l (dp l n) S (dpPart l n S j) j := by
  unfold dpPart
  rw [List.range_succ, List.foldl_append]
  rfl
/-- What the loop over skis has found. -/
structure DpI (l : Lb) (n S j : Nat) (p : Nat × Nat) : Prop where
  le : ∀ s, s < j → S.testBit s = true → p.1 ≤ (dp l n (S ^^^ 2 ^ s)).1 + (agL l s (S ^^^ 2 ^ s)).length
  at_ : p = (41, 0) ∨ (p.2 < j ∧ S.testBit p.2 = true ∧ p.1 = (dp l n (S ^^^ 2 ^ p.2)).1 + (agL l p.2 (S ^^^ 2 ^ p.2)).length)
theorem dp_i (l : Lb) (n S : Nat) : ∀ j, DpI l n S j (dpPart l n S j)
  | 0 => ⟨fun s h => by omega, .inl rfl⟩
  | j + 1 => by
    have ih := dp_i l n S j
    rw [dpPart_succ]
    unfold dpStep
    split
    · rename_i hs
      split
      · rename_i hlt
        refine ⟨fun s h1 h2 => ?_, .inr ⟨by simp, hs, rfl⟩⟩
        by_cases e : s = j
        · subst e; exact Nat.le_refl _
        · have := ih.le s (by omega) h2
          simp only; omega
      · rename_i hlt
        refine ⟨fun s h1 h2 => ?_, ih.at_.imp_right fun ⟨h1, h2, h3⟩ => ⟨by omega, h2, h3⟩⟩
        by_cases e : s = j
        · subst e; omega
        · exact ih.le s (by omega) h2
    · rename_i hs
      refine ⟨fun s h1 h2 => ?_, ih.at_.imp_right fun ⟨h1, h2, h3⟩ => ⟨by omega, h2, h3⟩⟩
      by_cases e : s = j
      · subst e; exact absurd h2 hs
      · exact ih.le s (by omega) h2
theorem dp_is {l : Lb} {n S : Nat} (h : S ≠ 0) : DpI l n S n (dp l n S) := by
  rw [dp_eq h]
  exact dp_i l n S n
theorem dp_le {l : Lb} {n : Nat} : ∀ R : List Nat, R.Nodup → (∀ s ∈ R, s < n) → (dp l n (bitL R)).1 ≤ (dropR l R).length
  | [], _, _ => by simp [bitL, dp_zero]
  | s :: R, hn, hr => by
    obtain ⟨h1, h2⟩ := List.nodup_cons.1 hn
    have ih := dp_le (l := l) (n := n) R h2 (fun t ht => hr t (List.mem_cons_of_mem _ ht))
    have hb : (bitL (s :: R)).testBit s = true := by rw [bit_mem]; simp
    have h0 : bitL (s :: R) ≠ 0 := fun e => by rw [e] at hb; simp at hb
    have h3 := (dp_is (l := l) (n := n) h0).le s (hr s List.mem_cons_self) hb
    rw [bitL_cons h1] at h3
    rw [dropR, List.length_append]
    omega
theorem sub_len {α : Type} [DecidableEq α] {D : List α} : ∀ {L : List α}, L.Nodup → (∀ x ∈ L, x ∈ D) → L.length ≤ D.length
  | [], _, _ => by simp
  | x :: L, h, hs => by
    obtain ⟨h1, h2⟩ := List.nodup_cons.1 h
    have hx := hs x List.mem_cons_self
    have ih := sub_len (D := D.erase x) h2 (fun y hy => (List.mem_erase_of_ne (fun e => h1 (by rw [← e]; exact hy))).2 (hs y (List.mem_cons_of_mem _ hy)))
    rw [List.length_erase_of_mem hx] at ih
    have : 0 < D.length := List.length_pos_of_mem hx
    simp only [List.length_cons]
    omega
theorem dropR_len {l : Lb} {R : List Nat} (h : R.Nodup) : (dropR l R).length ≤ l.runs.length := by
  have := sub_len (D := List.range l.runs.length) (dropR_nodup R h) (fun x hx => List.mem_range.2 (dropR_lt hx))
  simpa using this
/-- The way back. -/
def btF (l : Lb) (n : Nat) : Nat → Nat → List Nat
  | 0, _ => []
  | k + 1, S => if S = 0 then [] else agL l (dp l n S).2 (S ^^^ 2 ^ (dp l n S).2) ++ btF l n k (S ^^^ 2 ^ (dp l n S).2)
/-- The way back finds the runs against some order that has the fewest. -/
theorem bt_is {l : Lb} {n : Nat} (h40 : l.runs.length ≤ 40) : ∀ (R : List Nat), R.Nodup → (∀ s ∈ R, s < n) → ∃ R', R'.Perm R ∧ btF l n R.length (bitL R) = dropR l R' ∧ (dp l n (bitL R)).1 = (dropR l R').length := by
  intro R
  generalize hk : R.length = k
  induction k generalizing R with
  | zero =>
    intro _ _
    have : R = [] := List.length_eq_zero_iff.1 hk
    subst this
    exact ⟨[], .refl _, rfl, by simp [bitL, dp_zero, dropR]⟩
  | succ k ih =>
    intro hn hr
    have hb : ∃ x, x ∈ R := by
      cases R with
      | nil => simp at hk
      | cons x R => exact ⟨x, List.mem_cons_self⟩
    obtain ⟨x, hx⟩ := hb
    have h0 : bitL R ≠ 0 := fun e => by
      have := bit_mem x R
      rw [e] at this
      simp [hx] at this
    have hI := dp_is (l := l) (n := n) h0
    have hle : (dp l n (bitL R)).1 ≤ 40 := by
      have h1 := dp_le (l := l) R hn hr
      have h2 := dropR_len (l := l) hn
      omega
    rcases hI.at_ with h | ⟨h1, h2, h3⟩
    · rw [h] at hle; simp at hle
    · have hm : (dp l n (bitL R)).2 ∈ R := by rw [bit_mem] at h2; exact of_decide_eq_true h2
      have hp := List.perm_cons_erase hm
      have hn2 := hp.nodup_iff.1 hn
      obtain ⟨h4, h5⟩ := List.nodup_cons.1 hn2
      have he : bitL R = bitL ((dp l n (bitL R)).2 :: R.erase (dp l n (bitL R)).2) := bitL_ext fun t => hp.mem_iff
      have he2 : bitL R ^^^ 2 ^ (dp l n (bitL R)).2 = bitL (R.erase (dp l n (bitL R)).2) := by
        conv => lhs; arg 1; rw [he]
        exact bitL_cons h4
      obtain ⟨R', g1, g2, g3⟩ := ih (R.erase (dp l n (bitL R)).2) (by rw [List.length_erase_of_mem hm, hk]; rfl) h5 (fun s hs => hr s (List.mem_of_mem_erase hs))
      have hb2 : bitL R' = bitL (R.erase (dp l n (bitL R)).2) := bitL_ext fun t => g1.mem_iff
      refine ⟨(dp l n (bitL R)).2 :: R', (g1.cons _).trans hp.symm, ?_, ?_⟩
      · rw [btF, if_neg h0, he2, g2, dropR, hb2]
      · rw [dropR, List.length_append, hb2, ← g3, ← he2]
        omega
/-- A lab without some runs. -/
def woL (l : Lb) (D : List Nat) : Lb := ⟨l.skis, l.err, ((List.range l.runs.length).filter fun i => !decide (i ∈ D)).map fun i => l.runs.getD i ⟨0, 0, 0⟩⟩
theorem wo_pairs {l : Lb} {D : List Nat} {p : Nat × Nat} : p ∈ (woL l D).pairs ↔ ∃ i, i ∉ D ∧ Sh l i p.1 p.2 := by
  unfold Lb.pairs woL Sh
  simp only [List.mem_filterMap, List.mem_map, List.mem_filter, List.mem_range, Bool.not_eq_true', decide_eq_false_iff_not]
  constructor
  · rintro ⟨r, ⟨i, ⟨h1, h2⟩, rfl⟩, h3⟩
    exact ⟨i, h2, h1, h3⟩
  · rintro ⟨i, h1, h2, h3⟩
    exact ⟨_, ⟨i, ⟨h2, h1⟩, rfl⟩, h3⟩
theorem wo_ok {l : Lb} (hl : l.Ok) (D : List Nat) : (woL l D).Ok := ⟨hl.s0, hl.s1, hl.e0, hl.e1, by
    have h1 := List.length_filter_le (fun i => !decide (i ∈ D)) (List.range l.runs.length)
    have h2 := hl.len
    rw [List.length_range] at h1
    show (((List.range l.runs.length).filter fun i => !decide (i ∈ D)).map fun i => l.runs.getD i ⟨0, 0, 0⟩).length ≤ 40
    rw [List.length_map]; omega, fun r hr => by
    obtain ⟨i, hi, rfl⟩ := List.mem_map.1 hr
    have hi2 := List.mem_range.1 (List.mem_filter.1 hi).1
    rw [List.getD_eq_getElem?_getD, List.getElem?_eq_getElem hi2, Option.getD_some]
    exact hl.run _ (List.getElem_mem hi2)⟩
/-- Runs that fit an order do not contradict each other. -/
theorem order_noC {l : Lb} (hl : l.Ok) {L : List Nat} (h : ∀ p ∈ l.pairs, L.idxOf p.1 < L.idxOf p.2) : NoC l.ord l.n := fun s hs => Bool.eq_false_iff.2 fun hf => by
  have hn := hl.n8
  have := order_sub (R := fun a b => L.idxOf a < L.idxOf b) hl.in8 (fun a b c _ _ _ h1 h2 => by omega) h s s (by omega) (by omega) hf
  omega
theorem idx_cons_ne {a b : Nat} {l : List Nat} (h : a ≠ b) : (a :: l).idxOf b = l.idxOf b + 1 := by
  have h2 : (a == b) = false := by simpa using h
  rw [List.idxOf_cons, h2]
  rfl
theorem idx_app {a b : List Nat} {s t : Nat} (hn : (a ++ s :: b).Nodup) (ht : t ∈ b) : (a ++ s :: b).idxOf s < (a ++ s :: b).idxOf t := by
  rw [List.nodup_append] at hn
  obtain ⟨h1, h2, h3⟩ := hn
  have hs : s ∉ a := fun h => h3 s h s (by simp) rfl
  have hta : t ∉ a := fun h => h3 t h t (by simp [ht]) rfl
  have hst : s ≠ t := fun e => by subst e; exact (List.nodup_cons.1 h2).1 ht
  rw [List.idxOf_append, List.idxOf_append, if_neg hs, if_neg hta, List.idxOf_cons_self, idx_cons_ne hst]
  omega
theorem split_at {R : List Nat} {s t : Nat} (hs : s ∈ R) (ht : t ∈ R) (h : R.idxOf s < R.idxOf t) : ∃ a b, R = a ++ s :: b ∧ t ∈ b := by
  obtain ⟨a, b, rfl, hna⟩ := List.eq_append_cons_of_mem hs
  refine ⟨a, b, rfl, ?_⟩
  rcases List.mem_append.1 ht with h1 | h1
  · exfalso
    rw [List.idxOf_append, List.idxOf_append, if_neg hna, if_pos h1, List.idxOf_cons_self] at h
    have := List.idxOf_lt_length_iff.2 h1
    omega
  · rcases List.mem_cons.1 h1 with h2 | h2
    · subst h2; omega
    · exact h2
/-- The runs against an order, by the places of skis. -/
theorem dropR_idx {l : Lb} (hl : l.Ok) {R : List Nat} (hn : R.Nodup) (hr : ∀ s, s < l.n → s ∈ R) {i : Nat} : i ∈ dropR l R ↔ ∃ s t, Sh l i s t ∧ R.idxOf s < R.idxOf t := by
  rw [dropR_mem]
  constructor
  · rintro ⟨a, s, b, t, rfl, h1, h2⟩
    exact ⟨s, t, h2, idx_app hn h1⟩
  · rintro ⟨s, t, h1, h2⟩
    have h3 : (s, t) ∈ l.pairs := by
      rw [pairs_sh]
      obtain ⟨x, hx, _, h4, h5⟩ := mem_sh h1
      exact List.mem_map.2 ⟨x, hx, by rw [h4, h5]⟩
    obtain ⟨h4, h5, _⟩ := hl.in _ h3
    obtain ⟨a, b, rfl, h6⟩ := split_at (hr s h4) (hr t h5) h2
    exact ⟨a, s, b, t, rfl, h6, h1⟩
theorem rev_idx {L : List Nat} (hn : L.Nodup) {s : Nat} (hs : s ∈ L) : L.reverse.idxOf s + L.idxOf s + 1 = L.length := by
  have h1 := List.idxOf_lt_length_iff.2 hs
  have h2 : L.length - 1 - L.idxOf s < L.reverse.length := by rw [List.length_reverse]; omega
  have h3 : L.reverse[L.length - 1 - L.idxOf s] = s := by
    rw [List.getElem_reverse]
    have : L.length - 1 - (L.length - 1 - L.idxOf s) = L.idxOf s := by omega
    simp only [this]
    exact List.getElem_idxOf h1
  have h4 := (((List.reverse_perm L).nodup_iff.2 hn)).idxOf_getElem _ h2
  rw [h3] at h4
  omega
/-- What is told of the runs that are to be dropped. -/
structure DropP (l : Lb) (d : List Nat) : Prop where
  asc : d.Pairwise (· < ·)
  lt : ∀ i ∈ d, i < l.runs.length
  noC : NoC (woL l d).ord l.n
  min : ∀ D : List Nat, NoC (woL l D).ord l.n → d.length ≤ D.length
  at_ : ∃ L : List Nat, L.Perm (List.range l.n) ∧ ∀ i, i ∈ d ↔ ∃ s t, Sh l i s t ∧ L.idxOf t < L.idxOf s
theorem noC_drop {l : Lb} (hl : l.Ok) {L : List Nat} (hp : L.Perm (List.range l.n)) {D : List Nat} (hD : ∀ i s t, Sh l i s t → L.idxOf t < L.idxOf s → i ∈ D) : NoC (woL l D).ord l.n := by
  refine order_noC (l := woL l D) (wo_ok hl D) (L := L) fun p hpp => ?_
  obtain ⟨i, h1, h2⟩ := wo_pairs.1 hpp
  have h3 : p ∈ l.pairs := by
    rw [pairs_sh]
    obtain ⟨x, hx, _, h4, h5⟩ := mem_sh h2
    exact List.mem_map.2 ⟨x, hx, by rw [h4, h5]⟩
  obtain ⟨h4, h5, h6⟩ := hl.in _ h3
  rcases Nat.lt_trichotomy (L.idxOf p.1) (L.idxOf p.2) with h | h | h
  · exact h
  · exfalso
    have m1 := List.idxOf_lt_length_iff.2 (hp.mem_iff.2 (List.mem_range.2 h4))
    have m2 := List.idxOf_lt_length_iff.2 (hp.mem_iff.2 (List.mem_range.2 h5))
    have e1 := List.getElem_idxOf m1
    have e2 := List.getElem_idxOf m2
    simp only [h] at e1
    exact h6 (e1.symm.trans e2)
  · exact absurd (hD i _ _ h2 h) h1
theorem noC_lin {l : Lb} (hl : l.Ok) (D : List Nat) (h : NoC (woL l D).ord l.n) : ∃ L : List Nat, L.Perm (List.range l.n) ∧ ∀ i s t, Sh l i s t → L.idxOf t < L.idxOf s → i ∈ D := by
  have hw := wo_ok hl D
  have hL := first_lin (o := (woL l D).ord) (n := l.n) h hw.o hl.n8 hw.inO
  refine ⟨_, hL.perm, fun i s t h1 h2 => ?_⟩
  rcases Classical.em (i ∈ D) with h3 | h3
  · exact h3
  · exfalso
    have h4 : (s, t) ∈ (woL l D).pairs := wo_pairs.2 ⟨i, h3, h1⟩
    have h5 := hw.in8 _ h4
    have h6 := (hL.idx s t h5.1 h5.2 (order_has hw.in8 h4)).2.2
    omega
/-- The way back from all skis, sorted. -/
theorem drop_says {l : Lb} (hl : l.Ok) {d : List Nat} (hp : d.Perm (btF l l.n l.n (2 ^ l.n - 1))) (hs : d.Pairwise (· ≤ ·)) : DropP l d := by
  have hb : bitL (List.range l.n) = 2 ^ l.n - 1 := bitL_all fun t => List.mem_range
  obtain ⟨R, h1, h2, h3⟩ := bt_is (l := l) (n := l.n) hl.len (List.range l.n) List.nodup_range (fun s h => List.mem_range.1 h)
  rw [List.length_range, hb] at h2
  rw [hb] at h3
  rw [h2] at hp
  have hR : R.Nodup := h1.nodup_iff.2 List.nodup_range
  have hmR : ∀ s, s < l.n → s ∈ R := fun s h => h1.mem_iff.2 (List.mem_range.2 h)
  have hrp : R.reverse.Perm (List.range l.n) := (List.reverse_perm R).trans h1
  have key : ∀ i, i ∈ dropR l R ↔ ∃ s t, Sh l i s t ∧ R.reverse.idxOf t < R.reverse.idxOf s := fun i => by
    rw [dropR_idx hl hR hmR]
    constructor
    · rintro ⟨s, t, g1, g2⟩
      have g3 : (s, t) ∈ l.pairs := by
        rw [pairs_sh]
        obtain ⟨x, hx, _, h4, h5⟩ := mem_sh g1
        exact List.mem_map.2 ⟨x, hx, by rw [h4, h5]⟩
      obtain ⟨g4, g5, _⟩ := hl.in _ g3
      have g6 := rev_idx hR (hmR s g4)
      have g7 := rev_idx hR (hmR t g5)
      exact ⟨s, t, g1, by omega⟩
    · rintro ⟨s, t, g1, g2⟩
      have g3 : (s, t) ∈ l.pairs := by
        rw [pairs_sh]
        obtain ⟨x, hx, _, h4, h5⟩ := mem_sh g1
        exact List.mem_map.2 ⟨x, hx, by rw [h4, h5]⟩
      obtain ⟨g4, g5, _⟩ := hl.in _ g3
      have g6 := rev_idx hR (hmR s g4)
      have g7 := rev_idx hR (hmR t g5)
      exact ⟨s, t, g1, by omega⟩
  have hnd : d.Nodup := hp.nodup_iff.2 (dropR_nodup R hR)
  refine ⟨?_, fun i hi => dropR_lt (hp.mem_iff.1 hi), ?_, fun D hD => ?_, R.reverse, hrp, fun i => by rw [hp.mem_iff, key]⟩
  · exact List.Pairwise.imp₂ (fun a b h1 h2 => by omega) hs hnd
  · exact noC_drop hl hrp fun i s t g1 g2 => hp.mem_iff.2 ((key i).2 ⟨s, t, g1, g2⟩)
  · obtain ⟨L, g1, g2⟩ := noC_lin hl D hD
    have hLn : L.Nodup := g1.nodup_iff.2 List.nodup_range
    have hLr := (List.reverse_perm L).nodup_iff.2 hLn
    have g3 := dp_le (l := l) (n := l.n) L.reverse hLr (fun s h => List.mem_range.1 (g1.mem_iff.1 (List.mem_reverse.1 h)))
    rw [bitL_all (R := L.reverse) (n := l.n) (fun t => by rw [List.mem_reverse, g1.mem_iff, List.mem_range])] at g3
    have hmL : ∀ s, s < l.n → s ∈ L := fun s h => g1.mem_iff.2 (List.mem_range.2 h)
    have g4 := sub_len (D := D) (dropR_nodup L.reverse hLr) (fun i hi => by
      obtain ⟨s, t, k1, k2⟩ := (dropR_idx hl hLr (fun s h => List.mem_reverse.2 (hmL s h))).1 hi
      have k3 : (s, t) ∈ l.pairs := by
        rw [pairs_sh]
        obtain ⟨x, hx, _, h4, h5⟩ := mem_sh k1
        exact List.mem_map.2 ⟨x, hx, by rw [h4, h5]⟩
      obtain ⟨k4, k5, _⟩ := hl.in _ k3
      have k6 := rev_idx hLn (hmL s k4)
      have k7 := rev_idx hLn (hmL t k5)
      exact g2 i s t k1 (by omega))
    rw [hp.length_eq, ← h3]
    omega
end Go.Proofs.YtcmpdmobmbbplaaGreat

/- The engine: make of a list whose elements are one cell each. -/
namespace Go.Eng
set_option maxRecDepth 4000
open Go Go.RowKit
section
variable {P : Program} {T : Tab} {ro : Cx} {n : Nat} {F : Fin} {w0 : World} {M : Nat → Prop} {k : List It} {ops : Array Oper} {rest : List Oper} {e : Env} {H Hq : List Ck}
end
end Go.Eng

/- The engine, part B35: a bit of a number is cleared. -/
namespace Go.Eng
set_option maxRecDepth 4000
open Go Go.RowKit

section
variable {P : Program} {ro : Cx} {n : Nat} {F : Fin} {w0 : World} {M : Nat → Prop} {k : List It} {ops : Array Oper} {rest : List Oper} {e : Env} {H Hq : List Ck}
/-- A number without a bit. -/
def delB (a s : Nat) : Nat := if a.testBit s = true then a ^^^ 2 ^ s else a
theorem delB_bit (a s i : Nat) : (delB a s).testBit i = (a.testBit i && !decide (i = s)) := by
  unfold delB
  by_cases e : i = s
  · subst e
    split
    · rename_i h
      rw [Nat.testBit_xor, h, Nat.testBit_two_pow_self]; simp
    · rename_i h
      simp [h]
  · split
    · rw [Nat.testBit_xor, Nat.testBit_two_pow_of_ne (Ne.symm e)]; simp [e]
    · simp [e]
theorem delB_le (a s : Nat) : delB a s ≤ a := by
  have : delB a s = a &&& delB a s := Nat.eq_of_testBit_eq fun i => by
    rw [Nat.testBit_and, delB_bit]
    cases a.testBit i <;> simp
  rw [this]
  exact Nat.and_le_left
theorem run_delB {a s : Nat} (ha : a < 9223372036854775808) (hs : s < 63) (w : World) : (Op.intBits .andNot .i64 (a : Int) ((2 ^ s : Nat) : Int)).run P w = .ok (.int .i64 ((delB a s : Nat) : Int)) w := by
  have hp : 2 ^ s < 9223372036854775808 := by
    have := Nat.pow_lt_pow_right (a := 2) (by omega) hs
    simpa using this
  have h0 : ∀ x : Nat, x < 9223372036854775808 → (BitVec.ofInt 64 (x : Int)).toNat = x := fun x hx => by
    simp [BitVec.toNat_ofInt]; omega
  have h1 : (BitVec.ofInt IntKind.i64.bits (a : Int) &&& ~~~BitVec.ofInt IntKind.i64.bits ((2 ^ s : Nat) : Int)).toNat = delB a s := by
    show (BitVec.ofInt 64 (a : Int) &&& ~~~BitVec.ofInt 64 ((2 ^ s : Nat) : Int)).toNat = delB a s
    refine Nat.eq_of_testBit_eq fun i => ?_
    rw [delB_bit, BitVec.testBit_toNat, BitVec.getLsbD_and, BitVec.getLsbD_not, ← BitVec.testBit_toNat, ← BitVec.testBit_toNat, h0 a ha, h0 _ hp, Nat.testBit_two_pow]
    by_cases hi : i < 64
    · simp [hi, eq_comm]
    · rw [Nat.testBit_lt_two_pow (Nat.lt_of_lt_of_le ha (Nat.le_trans (by decide : 9223372036854775808 ≤ 2 ^ 64) (Nat.pow_le_pow_right (by omega) (by omega))))]
      rfl
  have h2 := delB_le a s
  simp only [Op.intBits]
  rw [h1, w64 (by omega) (by omega)]
  rfl
theorem ql_delB {d t t' : Nat} {x y : Operand} {a s : Nat} {b : Int} {ty : TypeId} {pos : String} {af : Array Edge} (hx : opv e x = some (.int .i64 a)) (hy : opv e y = some (.int .i64 b)) (hb : b = ((2 ^ s : Nat) : Int)) (hd : Nat.blt d n = true) (ha : a < 9223372036854775808) (hs : s < 63)
    (h : QL P ro n F w0 M k ops rest ((d, .int .i64 ((delB a s : Nat) : Int)) :: e) H) : QL P ro n F w0 M k ops (⟨some d, .binOp .andNot t x y t', ty, pos, af, none⟩ :: rest) e H := .mk fun w hw =>
  yl_val (by simp) hd (fun a' hf => by
    have e1 := hf.op hx
    have e2 := hf.op hy
    simp only [execOp, e1, e2]
    have := run_delB (P := P) ha hs w
    rw [← hb] at this
    simp [eqGuard, binOp, this]) (h.h w hw)
end
end Go.Eng

/- Walks: the runs against an order; the fewest runs against some order of each set. -/
namespace Go.Proofs.YtcmpdmobmbbplaaGreat
set_option maxRecDepth 4000
open Go Go.Eng
def agI (l : Lb) (s S : Nat) (pre : List (Nat × Int × Int)) : List Nat := (pre.filter (agB s S)).map (·.1)
theorem agI_snoc (l : Lb) (s S : Nat) (pre : List (Nat × Int × Int)) (x : Nat × Int × Int) : agI l s S (pre ++ [x]) = agI l s S pre ++ (if agB s S x = true then [x.1] else []) := by
  unfold agI
  rw [List.filter_append, List.map_append, List.filter_cons]
  split <;> rfl
theorem agI_len (l : Lb) (s S : Nat) (pre : List (Nat × Int × Int)) : (agI l s S pre).length ≤ pre.length := by
  unfold agI
  rw [List.length_map]
  exact List.length_filter_le _ _
theorem shL_len (l : Lb) : (shL l).length ≤ l.runs.length := by
  have := List.length_filterMap_le (fun i => (runI l.err (l.runs.getD i ⟨0, 0, 0⟩)).map fun p => (i, p)) (List.range l.runs.length)
  rw [List.length_range] at this
  exact this
set_option maxHeartbeats 1000000 in
theorem against_ca (w : World) (b : Nat) (lo hi : Nat) (l : Lb) (v : Value) (o : Nat) (t : TypeId) (hb : Blk w b (dkC l v o) t) (h : RdR w lo hi v l.runs) (hl : l.Ok) (s S : Nat) (hs8 : s < 8) (hS : S < 256) :
    Ca Tryz.prog 77 [.pointer (some ⟨b, 0, none⟩), .int .i64 s, .int .i64 S] w fun x w' => ∃ u : Value, x = u ∧ Sat w M0 [.ow u 3 1 (agL l s S).length (ints (chI (agL l s S)))] w' := by
  have hlen : l.runs.length ≤ 40 := hl.len
  have hbd : ∀ k : Nat, 0 ≤ (S : Int) / 2 ^ (k : Int).toNat ∧ (S : Int) / 2 ^ (k : Int).toNat < 9223372036854775808 := fun k => by
    have h1 : (0 : Int) ≤ (S : Int) / 2 ^ (k : Int).toNat := Int.ediv_nonneg (by omega) (Int.pow_nonneg (by omega))
    have h2 : (S : Int) / 2 ^ (k : Int).toNat ≤ S := Int.ediv_le_self _ (by omega)
    omega
  refine q_ofM (Sat.nil w M0) Tryz.func77 rfl (by simp [Tryz.ntmps77]) ?_
  (refine q_seq (q_region ?_))
  refine ql_box rfl rfl (fun b4 => ?_)
  refine ql_box rfl rfl (fun b5 => ?_)
  (refine ql_pure tabOk rfl rfl (q_nil (q_seq (q_region ?_))))
  refine ql_alloc zero48 rfl (fun b7 => ?_)
  (refine q_nil (q_seq (q_seq (q_region ?_))); (iterate 3 refine ql_pure tabOk rfl rfl ?_); refine ql_loadPA tabOk rfl rfl rfl (by assumption) (by rfl) (by rfl) ?_)
  refine ql_call (β := Nat) tabOk [] _ M0 rfl rfl rfl rfl (Sp.refl _) (fun _ h => h.elim) (fun w' hs => shown_ca w' l v) ?_
  rintro bs _ rfl
  dsimp only [List.cons_append, List.nil_append]
  (refine q_nil (q_block ?_))
  refine q_conv (H' := [.ow (.slice none 0 0) 3 1 (agI l s S []).length (ints (chI (agI l s S []))), .pt b7 [.slice none 0 0] 48, .pt b4 [.int .i64 s] 3, .pt b5 [.int .i64 S] 3, .pt bs (lbC l v) 24]) (fun w' hs => (Sat.ownil hs 3 1).sp (by repeat constructor)) ?_
  refine q_range shE (List Nat × Value) (shL l) (fun pre z => z.1 = agI l s S pre) (fun _ _ => False) (fun z => [.ow z.2 3 1 z.1.length (ints (chI z.1)), .pt b7 [z.2] 48]) [.pt b4 [.int .i64 s] 3, .pt b5 [.int .i64 S] 3, .pt bs (lbC l v) 24] ([], .slice none 0 0)
    rfl (by kernel_rfl) rfl (fun _ _ => rfl) rfl (by repeat constructor) ?_ ?_ ?_ (fun _ _ _ h => h.elim)
  · intro w1 D hs hD
    exact shown_it w w1 D lo hi bs l v h ⟨hl.e0, hl.e1⟩ (by have := hl.len; omega) (fun w' hc => hs.chg0.old hc (fun k hk => (hD k hk).2.resolve_left (fun h => h))) (hs.blk (by repeat constructor)) (fun h => (hD _ h).1 ⟨.pt bs (lbC l v) _, (by repeat constructor), rfl⟩)
  · rintro pre ⟨i, p1, p2⟩ post ⟨L, vm⟩ w1 lb rdy bsy K F' hx hB hsat hR hbegin hend hret hexit
    dsimp only at hB hend hexit hbegin ⊢
    have hxm : (i, p1, p2) ∈ shL l := by rw [hx]; simp
    have hxl := shL_in hl _ hxm
    have h8 := hl.s1
    have hLl : L.length ≤ 40 := by
      have h1 := agI_len l s S pre
      have h2 := shL_len l
      rw [hx, List.length_append] at h2
      rw [hB]; omega
    obtain ⟨f, hf⟩ := Int.eq_ofNat_of_zero_le hxl.1
    obtain ⟨g, hg⟩ := Int.eq_ofNat_of_zero_le hxl.2.2.1
    dsimp only at hf hg hxl
    subst hf hg
    have hg8 : g < 8 := by omega
    have hsn := agI_snoc l s S pre (i, (f : Int), (g : Int))
    rw [← hB] at hsn
    dsimp only [shE, List.zip_cons_cons, List.zip_nil_left, List.zip_nil_right, List.foldl_cons, List.foldl_nil]
    (refine q_seq (q_region (ql_pure tabOk rfl rfl (q_nil (q_region ?_)))))
    refine ql_alloc zero86 rfl (fun b12 => ?_)
    (refine ql_setA tabOk rfl rfl rfl rfl rfl (by repeat constructor) rfl ?_; refine q_nil ?_)
    refine q_conv (H' := [rdy, .pt b12 [.int .i64 f, .int .i64 g] 86, .ow vm 3 1 L.length (ints (chI L)), .pt b7 [vm] 48]) (fun w' hs => hs.sp (by repeat constructor)) ?_
    refine hbegin _ _ ?_
    (refine q_block (q_seq (q_region (ql_pure tabOk rfl rfl ?_))); refine ql_loadBa tabOk rfl rfl rfl ?_)
    refine ql_load1 (v := .int .i64 s) tabOk rfl rfl rfl (fun w hs => by rw [Blk.cell ((hR w hs.chg).blk (b := b4) (cs := [.int .i64 s]) (t := 3) (by repeat constructor))]; rfl) ?_
    by_cases hfs : f = s
    · cases hbg : S.testBit g with
      | true =>
        have e : agB s S (i, (f : Int), (g : Int)) = true := by
          unfold agB
          rw [Int.toNat_natCast, Int.toNat_natCast, hbg, decide_eq_true hfs]; rfl
        rw [if_pos e] at hsn
        (refine ql_eqlT tabOk rfl rfl rfl (by omega) (ql_pure tabOk rfl rfl (ql_gyes rfl ?_)))
        refine ql_load1 (v := .int .i64 S) tabOk rfl rfl rfl (fun w hs => by rw [Blk.cell ((hR w hs.chg).blk (b := b5) (cs := [.int .i64 S]) (t := 3) (by repeat constructor))]; rfl) ?_
        (refine ql_gyes rfl (ql_pure tabOk rfl rfl (ql_gyes rfl ?_)); refine ql_loadBa tabOk rfl rfl rfl ?_; refine ql_gyes rfl ?_)
        refine ql_shr rfl rfl rfl (by omega) (by omega) ?_
        (refine ql_gyes rfl ?_)
        refine ql_and1 rfl rfl rfl (hbd _) ?_
        rw [bit_int, hbg, show (((true).toNat : Nat) : Int) = 1 from rfl]
        (refine ql_gyes rfl (ql_eqlT tabOk rfl rfl rfl (by omega) (ql_pure tabOk rfl rfl (q_nil (q_cond_true rfl (q_region ?_))))); refine ql_loadBa tabOk rfl rfl rfl ?_; refine ql_pure tabOk rfl rfl ?_)
        refine ql_mkS 3 [.int .i64 i] rfl (by kernel_rfl) rfl (fun bn => ?_)
        skip
        refine ql_append (q := 1) (news := [.int .i64 i]) slI rfl rfl rfl (fun v' => by repeat constructor) (fun w' hs => ⟨_, _, Blk.rdN (hs.blk (b := bn) (by repeat constructor)) rfl⟩) (by simp [oneV]) (by omega) (by omega) (fun u' => ?_)
        refine ql_fact (fun w' hs => hs.own_one (v := u') (by repeat constructor)) (fun hone => ?_)
        refine ql_store1 tabOk rfl rfl rfl hone (by repeat constructor) (by simp) ?_
        (refine q_nil (q_blk ?_))
        exact hend _ _ (L ++ [i], u') hsn.symm (by dsimp only; rw [List.length_append, List.length_singleton, chI_add]; repeat constructor)
      | false =>
        have e : ¬ agB s S (i, (f : Int), (g : Int)) = true := by
          unfold agB
          rw [Int.toNat_natCast, Int.toNat_natCast, hbg, Bool.and_false]; simp
        rw [if_neg e, List.append_nil] at hsn
        (refine ql_eqlT tabOk rfl rfl rfl (by omega) (ql_pure tabOk rfl rfl (ql_gyes rfl ?_)))
        refine ql_load1 (v := .int .i64 S) tabOk rfl rfl rfl (fun w hs => by rw [Blk.cell ((hR w hs.chg).blk (b := b5) (cs := [.int .i64 S]) (t := 3) (by repeat constructor))]; rfl) ?_
        (refine ql_gyes rfl (ql_pure tabOk rfl rfl (ql_gyes rfl ?_)); refine ql_loadBa tabOk rfl rfl rfl ?_; refine ql_gyes rfl ?_)
        refine ql_shr rfl rfl rfl (by omega) (by omega) ?_
        (refine ql_gyes rfl ?_)
        refine ql_and1 rfl rfl rfl (hbd _) ?_
        rw [bit_int, hbg, show (((false).toNat : Nat) : Int) = 0 from rfl]
        (refine ql_gyes rfl (ql_eqlF tabOk rfl rfl rfl (by omega) (ql_pure tabOk rfl rfl (q_nil (q_cond_false rfl (q_skip (q_blk ?_)))))))
        exact hend _ _ (L, vm) hsn.symm (by repeat constructor)
    · have e : ¬ agB s S (i, (f : Int), (g : Int)) = true := by
        unfold agB
        rw [Int.toNat_natCast, decide_eq_false hfs, Bool.false_and]; simp
      rw [if_neg e, List.append_nil] at hsn
      (refine ql_eqlF tabOk rfl rfl rfl (by omega) (ql_pure tabOk rfl rfl ?_); (iterate 6 refine ql_gno rfl rfl rfl ?_); refine ql_pure tabOk rfl rfl (q_nil (q_cond_false rfl (q_skip (q_blk ?_)))))
      exact hend _ _ (L, vm) hsn.symm (by repeat constructor)
  · rintro D ⟨L, vm⟩ hI
    dsimp only at hI ⊢
    obtain rfl : L = agL l s S := hI
    (refine q_blk (q_seq (q_region ?_)); refine ql_loadBa tabOk rfl rfl rfl ?_; refine ql_pure tabOk rfl rfl (q_nil (q_ret ?_)))
    refine q_finMD tabOk (by repeat constructor) rfl (by repeat constructor) fun w hs => ?_
    exact ⟨vm, rfl, hs.sp (by repeat constructor)⟩
end Go.Proofs.YtcmpdmobmbbplaaGreat

/- slices.Sort of numbers, of any length, by the kit's contract. -/
namespace Go.Proofs.YtcmpdmobmbbplaaGreat
set_option maxRecDepth 4000
open Go Go.Eng
theorem sort_ca (w : World) (g c : Nat) (l : List Int) (hl : l.length ≤ 1000000) (hb : w.ownsRow 0 3 1 (.slice (some ⟨g, 0, none⟩) l.length c) l.length (ints l)) :
    Ca Tryz.prog 78 [.slice (some ⟨g, 0, none⟩) l.length c] w fun v w' => ∃ L : List Int, (v = .tuple #[] ∧ L.Perm l ∧ L.Pairwise (· ≤ ·)) ∧ Sat w (fun x => x = g) [.ow (.slice (some ⟨g, 0, none⟩) l.length c) 3 1 l.length (ints L)] w' := by
  have hs0 := Sat.own0 hb
  obtain ⟨hlen, h2⟩ := hb
  rcases h2 with ⟨h3, _⟩ | ⟨g', cap, cur, h3, h4, h5, h6, h7, h8, h9⟩
  · injection h3 with h3 _ _
    cases h3
  · injection h3 with e1 _ e3
    injection e1 with e1
    injection e1 with e1 _ _
    subst e1 e3
    have hg : g < w.heap.size := (Array.getElem?_eq_some_iff.1 h5).1
    have hcell : ∀ j (hj : j < l.length), cur[j]? = some (.int .i64 l[j]) := fun j hj => by
      have h10 : (cur.toList.take (l.length * 1))[j]? = (ints l)[j]? := by rw [h9]
      rw [List.getElem?_take_of_lt (by omega)] at h10
      rw [← Array.getElem?_toList, h10]
      simp [ints, hj]
    have hH : Go.Sort.Holds (Value.int .i64) w g 0 l.toArray := fun j hj => by
      have hj2 : j < l.length := by simpa using hj
      refine ⟨?_, ?_⟩
      · have h11 : l.toArray[j]! = l[j] := by
          rw [getElem!_pos l.toArray j hj]
          simp
        rw [h11]
        have h12 := hcell j hj2
        simp only [World.cell?, h5, Nat.zero_add]
        simpa using h12
      · simp [World.frozen?, h5]
    have hc := Any.slices_Sort_int lays189 g 0 c l w hH hg (by omega)
    refine Calls.mono (show Calls Tryz.prog 78 _ w _ from hc) ?_
    rintro e w' ⟨rfl, n, os, rfl⟩
    refine ⟨_, rfl, l.mergeSort (fun x y => decide (x ≤ y)), ⟨rfl, List.mergeSort_perm _ _, ?_⟩, ?_⟩
    · have := List.pairwise_mergeSort (le := fun x y : Int => decide (x ≤ y)) (by intro a b c h1 h2; simp at *; omega) (by intro a b; simp; omega) l
      exact this.imp (by intro a b h; simpa using h)
    · have hL : (l.mergeSort (fun x y => decide (x ≤ y))).length = l.length := List.length_mergeSort _
      generalize l.mergeSort (fun x y => decide (x ≤ y)) = L at hL
      have hhp : ∀ k, k < w.heap.size → (Go.Sort.grow (Go.Sort.putRow (Value.int .i64) (Go.Sort.ahead w n) g 0 L.toArray) os).heap[k]? = (w.heap.modify g (Go.Sort.onCells (Go.Sort.putCells (Value.int .i64) 0 L.toArray)))[k]? := fun k hk => by
        show ((w.heap.modify g (Go.Sort.onCells (Go.Sort.putCells (Value.int .i64) 0 L.toArray))) ++ os)[k]? = _
        rw [Array.getElem?_append_left (by simpa using hk)]
      have hgc : (Go.Sort.grow (Go.Sort.putRow (Value.int .i64) (Go.Sort.ahead w n) g 0 L.toArray) os).heap[g]? = some (.cells (Go.Sort.putCells (Value.int .i64) 0 L.toArray cur) 3 (0, 0)) := by
        rw [hhp g hg, Array.getElem?_modify, if_pos rfl, h5]
        rfl
      refine hs0.app (v := .slice (some ⟨g, 0, none⟩) l.length c) (v' := .slice (some ⟨g, 0, none⟩) l.length c) (et := 3) (sz := 1) (m := l.length) (q := l.length) (xs := ints l) (ys := ints L) (by repeat constructor) ⟨rfl, rfl, rfl, ?_, fun k hk hn => ?_⟩ ⟨by simp [ints, hL], .inr ⟨g, c, _, rfl, h4, hgc, h6, h7, ?_, ?_⟩⟩ (fun x hx => .inl hx)
      · show w.heap.size ≤ ((w.heap.modify g _) ++ os).size
        simp
      · rw [hhp k hk, Array.getElem?_modify, if_neg (fun e => hn (by simp [Value.ownBlock, e]))]
      · rw [← h8]
        simp [Go.Sort.putCells]
      · refine List.ext_getElem? fun j => ?_
        by_cases hj : j < l.length
        · have hjL : j < L.length := by omega
          have hjc : j < cur.size := by omega
          rw [List.getElem?_take_of_lt (by omega), Array.getElem?_toList]
          simp [Go.Sort.putCells, ints, hjL, hjc]
        · rw [List.getElem?_eq_none (by rw [List.length_take]; omega), List.getElem?_eq_none (by simp [ints]; omega)]
/-- No number: nothing is done. -/
theorem sort0_ca (w : World) (a : Option Addr) (c : Nat) : Ca Tryz.prog 78 [.slice a 0 c] w fun v w' => v = .tuple #[] ∧ Chg [] w w' :=
  Calls.mono (show Calls Tryz.prog 78 _ w _ from Any.slices_Sort_int_none lays189 a c w) fun e w' ⟨h1, h2⟩ => ⟨_, h1, rfl, by rw [h2]; exact Chg.refl _ _⟩
end Go.Proofs.YtcmpdmobmbbplaaGreat

/- The engine, part B36: shifts and make of a list of numbers in a region that draws. -/
namespace Go.Eng
set_option maxRecDepth 4000
open Go Go.RowKit

section
variable {P : Program} {ro : Cx} {n : Nat} {F : Fin} {w0 : World} {M : Nat → Prop} {k : List It} {ops : Array Oper} {rest : List Oper} {e : Env} {H Hq : List Ck}
theorem qf_shl {d t t' : Nat} {x y : Operand} {a b : Int} {ty : TypeId} {pos : String} {af : Array Edge} (hx : opv e x = some (.int .i64 a)) (hy : opv e y = some (.int .i64 b)) (hd : Nat.blt d n = true) (hb : 0 ≤ b ∧ b < 64) (h1 : -9223372036854775808 ≤ a * 2 ^ b.toNat) (h2 : a * 2 ^ b.toNat < 9223372036854775808)
    (h : QF P ro n F w0 M k ops Hq rest ((d, .int .i64 (a * 2 ^ b.toNat)) :: e) H) : QF P ro n F w0 M k ops Hq (⟨some d, .binOp .shl t x y t', ty, pos, af, none⟩ :: rest) e H := .mk fun w hw =>
  yf_quiet rfl hd (fun a' hf w' _ => by
    have e1 := hf.op hx
    have e2 := hf.op hy
    simp only [execOp, e1, e2]
    have := run_shl (P := P) hb h1 h2 w'
    simp [eqGuard, binOp, this]
    exact w64 h1 h2) (h.h w hw)
theorem qf_makeI {d t et m : Nat} {x y : Operand} {ty : TypeId} {pos : String} {af : Array Edge} (hS : SlT P t et 1 8 (.int .i64 0)) (hx : opv e x = some (.int .i64 m)) (hy : opv e y = some (.int .i64 m)) (hd : Nat.blt d n = true) (hm : m ≤ 1000000)
    (h : ∀ b, QF P ro n F w0 M k ops Hq rest ((d, .slice (some ⟨b, 0, none⟩) m m) :: e) (.pt b (ints (List.replicate m 0)) et :: H)) :
    QF P ro n F w0 M k ops Hq (⟨some d, .makeSlice t x y, ty, pos, af, none⟩ :: rest) e H := .mk fun w hs => by
  obtain ⟨ht, hi', hzs, hsz⟩ := hS
  cases hinf : P.info? et with
  | none => simp [hinf] at hi'
  | some i =>
    simp [hinf] at hi'
    obtain ⟨hz, hsize, hby⟩ := hi'
    have hr := run_makeSlice (P := P) w t et i _ ht hinf hz .i64 .i64 m m (by omega) (Int.le_refl _) (by rw [hsize]; simp; omega) (by rw [hby]; omega) (by omega)
    have hcells : (madeCells (Value.int .i64 0).cells ((m : Int).toNat * i.size)) = (ints (List.replicate m 0)).toArray := by
      apply Array.ext'
      rw [hsize, show (Value.int .i64 0).cells = #[Value.int .i64 0] from rfl, toList_madeCells_one]
      simp
    rw [hcells] at hr
    have hs' : Sat w0 M ((.pt w.heap.size (ints (List.replicate m 0)) et :: H) ++ Hq) (w.alloc (.cells (ints (List.replicate m 0)).toArray et)) := hs.addPt (alloc_chg _ _) (by simp) (alloc_blk w _ _)
    refine yf_eff (w' := w.alloc (.cells (ints (List.replicate m 0)).toArray et)) rfl hd (fun ac hf => ?_) hs'.right ((h w.heap.size).h _ hs')
    simp only [execOp, hf.op hx, hf.op hy]
    simp [hr]
end
end Go.Eng

/- The plain law of SkiOrders: all orders that fit, one by one. -/
namespace Go.Proofs.YtcmpdmobmbbplaaGreat
set_option maxRecDepth 4000
open Go Go.Eng
/-- All lists of so many skis, each once, in lexicographic order. -/
def permN (n : Nat) : Nat → List (List Nat)
  | 0 => [[]]
  | i + 1 => (permN n i).flatMap fun p => ((List.range n).filter fun s => !decide (s ∈ p)).map fun s => p ++ [s]
theorem perm_mem {n : Nat} : ∀ {i : Nat} {p : List Nat}, p ∈ permN n i ↔ p.Nodup ∧ (∀ x ∈ p, x < n) ∧ p.length = i
  | 0, p => by
    simp only [permN, List.mem_singleton]
    constructor
    · rintro rfl; simp
    · rintro ⟨_, _, h⟩; exact List.length_eq_zero_iff.1 h
  | i + 1, p => by
    simp only [permN, List.mem_flatMap, List.mem_map, List.mem_filter, List.mem_range, Bool.not_eq_true', decide_eq_false_iff_not]
    constructor
    · rintro ⟨q, hq, s, ⟨h1, h2⟩, rfl⟩
      obtain ⟨h3, h4, h5⟩ := perm_mem.1 hq
      refine ⟨List.nodup_append.2 ⟨h3, by simp, fun a ha b hb e => ?_⟩, fun x hx => ?_, by simp [h5]⟩
      · obtain rfl : b = s := by simpa using hb
        subst e
        exact h2 ha
      · rcases List.mem_append.1 hx with hx | hx
        · exact h4 x hx
        · obtain rfl : x = s := by simpa using hx
          exact h1
    · rintro ⟨h1, h2, h3⟩
      rcases List.eq_nil_or_concat p with rfl | ⟨q, s, rfl⟩
      · simp at h3
      · rw [List.concat_eq_append] at *
        obtain ⟨h4, h5, h6⟩ := List.nodup_append.1 h1
        refine ⟨q, perm_mem.2 ⟨h4, fun x hx => h2 x (by simp [hx]), by simpa using h3⟩, s, ⟨h2 s (by simp), fun hs => h6 s hs s (by simp) rfl⟩, rfl⟩
theorem full_perm {n : Nat} {p : List Nat} (h1 : p.Nodup) (h2 : ∀ x ∈ p, x < n) (h3 : p.length = n) : p.Perm (List.range n) := by
  refine List.perm_iff_count.2 fun a => ?_
  rw [h1.count, List.nodup_range.count]
  have key : ∀ t, t < n → t ∈ p := fun t ht => by
    obtain ⟨i, hi, e⟩ := surj (f := fun i => p.getD i 0) (n := n) (fun i hi => by
      rw [List.getD_eq_getElem?_getD, List.getElem?_eq_getElem (by omega), Option.getD_some]
      exact h2 _ (List.getElem_mem _)) (fun i j hi hj e => by
      rw [List.getD_eq_getElem?_getD, List.getElem?_eq_getElem (by omega), Option.getD_some, List.getD_eq_getElem?_getD, List.getElem?_eq_getElem (by omega), Option.getD_some] at e
      exact (List.getElem_inj h1).1 e) t ht
    rw [List.getD_eq_getElem?_getD, List.getElem?_eq_getElem (by omega), Option.getD_some] at e
    rw [← e]
    exact List.getElem_mem _
  by_cases ha : a < n
  · rw [if_pos (key a ha), if_pos (List.mem_range.2 ha)]
  · rw [if_neg (fun h => ha (h2 a h)), if_neg (fun h => ha (List.mem_range.1 h))]
theorem perm_full {n : Nat} {p : List Nat} : p ∈ permN n n ↔ p.Perm (List.range n) := by
  rw [perm_mem]
  constructor
  · rintro ⟨h1, h2, h3⟩
    exact full_perm h1 h2 h3
  · intro h
    exact ⟨h.nodup_iff.2 List.nodup_range, fun x hx => List.mem_range.1 (h.mem_iff.1 hx), by rw [h.length_eq, List.length_range]⟩
/-- All lists of so many skis that fit, in lexicographic order. -/
def FL (o n : Nat) : Nat → List (List Nat)
  | 0 => [[]]
  | i + 1 => (FL o n i).flatMap fun p => ((List.range n).filter fun s => freeO o n s (bitL p)).map fun s => p ++ [s]
/-- Whether a list fits behind another one. -/
def preB (o n : Nat) : List Nat → List Nat → Bool
  | _, [] => true
  | acc, s :: r => freeO o n s (bitL acc) && preB o n (acc ++ [s]) r
theorem pre_snoc (o n s : Nat) : ∀ (p acc : List Nat), preB o n acc (p ++ [s]) = (preB o n acc p && freeO o n s (bitL (acc ++ p)))
  | [], acc => by simp [preB]
  | x :: p, acc => by
    rw [List.cons_append, preB, preB, pre_snoc o n s p (acc ++ [x]), Bool.and_assoc]
    simp
theorem filter_flatMap' {α β : Type} (q : β → Bool) (g : α → List β) : ∀ l : List α, (l.flatMap g).filter q = l.flatMap fun a => (g a).filter q
  | [] => rfl
  | a :: l => by rw [List.flatMap_cons, List.filter_append, filter_flatMap' q g l, List.flatMap_cons]
theorem flatMap_if {α β : Type} (q : α → Bool) (g : α → List β) : ∀ l : List α, (l.flatMap fun a => if q a = true then g a else []) = (l.filter q).flatMap g
  | [] => rfl
  | a :: l => by
    rw [List.flatMap_cons, flatMap_if q g l, List.filter_cons]
    cases q a <;> simp
theorem FL_eq (o n : Nat) : ∀ i, (permN n i).filter (preB o n []) = FL o n i
  | 0 => rfl
  | i + 1 => by
    rw [permN, filter_flatMap', FL, ← FL_eq o n i, ← flatMap_if]
    congr 1
    funext p
    rw [List.filter_map, List.filter_filter]
    cases hp : preB o n [] p with
    | false =>
      rw [if_neg (by simp)]
      have : ((List.range n).filter fun s => (preB o n [] ∘ fun s => p ++ [s]) s && !decide (s ∈ p)) = [] := List.filter_eq_nil_iff.2 fun s _ => by
        simp [Function.comp, pre_snoc, hp]
      rw [this]; rfl
    | true =>
      rw [if_pos rfl]
      congr 1
      refine List.filter_congr fun s _ => ?_
      simp only [Function.comp, pre_snoc, hp, Bool.true_and, List.nil_append]
      cases hf : freeO o n s (bitL p) with
      | false => rfl
      | true =>
        have := (free_iff.1 hf).1
        rw [bit_mem] at this
        simpa using this
theorem pre_iff {o n : Nat} : ∀ (p acc : List Nat), preB o n acc p = true ↔ ∀ a s b, p = a ++ s :: b → freeO o n s (bitL (acc ++ a)) = true
  | [], acc => by simp [preB]
  | x :: p, acc => by
    rw [preB, Bool.and_eq_true, pre_iff p]
    constructor
    · rintro ⟨h1, h2⟩ a s b h
      cases a with
      | nil =>
        simp only [List.nil_append, List.cons.injEq] at h
        obtain ⟨rfl, rfl⟩ := h
        simpa using h1
      | cons y a =>
        simp only [List.cons_append, List.cons.injEq] at h
        obtain ⟨rfl, rfl⟩ := h
        have := h2 a s b rfl
        simpa using this
    · intro h
      refine ⟨by simpa using h [] x p rfl, fun a s b e => ?_⟩
      have := h (x :: a) s b (by rw [e]; rfl)
      simpa using this
theorem pre_lin {o n : Nat} (hn : n ≤ 8) (hi : InO o n) {p : List Nat} (hp : p.Perm (List.range n)) : preB o n [] p = true ↔ LinO o n p := by
  have hnd : p.Nodup := hp.nodup_iff.2 List.nodup_range
  rw [pre_iff]
  constructor
  · intro h
    refine ⟨hp, fun a b ha hb hf => ?_⟩
    obtain ⟨h1, h2⟩ := hi a b ha hb hf
    refine ⟨h1, h2, ?_⟩
    obtain ⟨x, y, e⟩ := List.append_of_mem (hp.mem_iff.2 (List.mem_range.2 h2))
    have h3 := (free_iff.1 (h x b y e)).2 a h1 hf
    rw [List.nil_append, bit_mem] at h3
    have h4 := of_decide_eq_true h3
    have hbx : b ∉ x := fun hm => by
      rw [e] at hnd
      exact (List.nodup_append.1 hnd).2.2 b hm b (by simp) rfl
    rw [e, List.idxOf_append, List.idxOf_append, if_pos h4, if_neg hbx, List.idxOf_cons_self]
    have := List.idxOf_lt_length_iff.2 h4
    omega
  · intro h a s b e
    have hs : s < n := List.mem_range.1 (hp.mem_iff.1 (by rw [e]; simp))
    have hsa : s ∉ a := fun hm => by
      rw [e] at hnd
      exact (List.nodup_append.1 hnd).2.2 s hm s (by simp) rfl
    refine free_iff.2 ⟨?_, fun t ht hf => ?_⟩
    · rw [List.nil_append, bit_mem]; exact decide_eq_false hsa
    · rw [List.nil_append, bit_mem]
      refine decide_eq_true ?_
      have h3 := (h.idx t s (by omega) (by omega) hf).2.2
      rcases Classical.em (t ∈ a) with h4 | h4
      · exact h4
      · exfalso
        rw [e, List.idxOf_append, List.idxOf_append, if_neg h4, if_neg hsa, List.idxOf_cons_self] at h3
        omega
theorem fl_mem {o n : Nat} (hn : n ≤ 8) (hi : InO o n) {L : List Nat} : L ∈ FL o n n ↔ LinO o n L := by
  rw [← FL_eq, List.mem_filter, perm_full]
  constructor
  · rintro ⟨h1, h2⟩
    exact (pre_lin hn hi h1).1 h2
  · intro h
    exact ⟨h.perm, (pre_lin hn hi h.perm).2 h⟩
/-- How many there are. -/
def crd (S : Nat) : Nat → Nat := sumN fun s => cond (S.testBit s) 1 0
theorem crd_xor {S s : Nat} (h : S.testBit s = true) : ∀ n, crd (S ^^^ 2 ^ s) n + (if s < n then 1 else 0) = crd S n
  | 0 => rfl
  | n + 1 => by
    have ih := crd_xor h n
    unfold crd at ih ⊢
    rw [sumN, sumN]
    by_cases e : n = s
    · subst e
      rw [if_neg (by omega)] at ih
      rw [bit_xor_self h, h, if_pos (by omega)]
      simp only [cond_true, cond_false]
      omega
    · rw [bit_xor e]
      by_cases e2 : s < n
      · rw [if_pos e2] at ih
        rw [if_pos (by omega)]
        omega
      · rw [if_neg e2] at ih
        rw [if_neg (by omega)]
        omega
theorem filter_sum (q : Nat → Bool) : ∀ n, ((List.range n).filter q).length = sumN (fun s => cond (q s) 1 0) n
  | 0 => rfl
  | n + 1 => by
    rw [List.range_succ, List.filter_append, List.length_append, filter_sum q n, sumN]
    cases h : q n <;> simp [h]
theorem or_iff {A S s : Nat} (h : A.testBit s = false) : A ||| 2 ^ s = S ↔ S.testBit s = true ∧ A = S ^^^ 2 ^ s := by
  constructor
  · rintro rfl
    refine ⟨by rw [or_bit]; simp, Nat.eq_of_testBit_eq fun t => ?_⟩
    by_cases e : t = s
    · subst e; rw [bit_xor_self (by rw [or_bit]; simp), h]
    · rw [bit_xor e, or_bit]; simp [show ¬ s = t from fun h => e h.symm]
  · rintro ⟨h1, rfl⟩
    refine Nat.eq_of_testBit_eq fun t => ?_
    rw [or_bit]
    by_cases e : t = s
    · subst e; simp [h1]
    · rw [bit_xor e]; simp [show ¬ s = t from fun h => e h.symm]
theorem fl_step (o n S : Nat) : ∀ X : List (List Nat), (((X.flatMap fun p => ((List.range n).filter fun s => freeO o n s (bitL p)).map fun s => p ++ [s]).filter fun p => decide (bitL p = S)).length) = sumN (fun s => cond (S.testBit s && freeO o n s (S ^^^ 2 ^ s)) ((X.filter fun p => decide (bitL p = S ^^^ 2 ^ s)).length) 0) n
  | [] => by
    have : ∀ n, sumN (fun s => cond (S.testBit s && freeO o n s (S ^^^ 2 ^ s)) 0 0) n = 0 := fun n => by
      rw [sumN_congr (g := fun _ => 0) n (fun s _ => cond_zero _)]
      clear S o
      induction n with
      | zero => rfl
      | succ n ih => rw [sumN, ih]
    have h2 : sumN (fun s => cond (S.testBit s && freeO o n s (S ^^^ 2 ^ s)) 0 0) n = 0 := by
      rw [sumN_congr (g := fun _ => 0) n (fun s _ => cond_zero _)]
      generalize n = m
      induction m with
      | zero => rfl
      | succ n ih => rw [sumN, ih]
    exact h2.symm
  | p :: X => by
    rw [List.flatMap_cons, List.filter_append, List.length_append, fl_step o n S X, List.filter_map, List.length_map, List.filter_filter, filter_sum, ← sumN_add]
    refine sumN_congr n fun s hs => ?_
    rw [List.filter_cons]
    have eb : bitL (p ++ [s]) = bitL p ||| 2 ^ s := Nat.eq_of_testBit_eq fun t => by
      rw [bit_mem, or_bit, bit_mem]
      by_cases h : t = s
      · subst h; simp
      · simp [h, show ¬ s = t from fun e => h e.symm]
    simp only [Function.comp, eb]
    by_cases hf : freeO o n s (bitL p) = true
    · have h1 := or_iff (S := S) (free_iff.1 hf).1
      by_cases h2 : bitL p ||| 2 ^ s = S
      · obtain ⟨h3, h4⟩ := h1.1 h2
        rw [← h4, h3, hf, decide_eq_true h2, decide_eq_true rfl]
        simp; omega
      · rw [decide_eq_false h2]
        by_cases h3 : S.testBit s = true
        · have h4 : ¬ bitL p = S ^^^ 2 ^ s := fun e => h2 (h1.2 ⟨h3, e⟩)
          rw [decide_eq_false h4]
          simp
        · simp [h3]
    · rw [Bool.not_eq_true] at hf
      rw [hf]
      by_cases h4 : bitL p = S ^^^ 2 ^ s
      · rw [← h4, hf]; simp
      · rw [decide_eq_false h4]; simp
theorem sumN_zero {f : Nat → Nat} : ∀ n, (∀ i, i < n → f i = 0) → sumN f n = 0
  | 0, _ => rfl
  | n + 1, h => by rw [sumN, sumN_zero n fun i hi => h i (by omega), h n (by omega)]
theorem fl_cnt (o n : Nat) : ∀ i S, crd S n = i → ((FL o n i).filter fun p => decide (bitL p = S)).length = cnt o n S
  | 0, S, h => by
    by_cases h0 : S = 0
    · subst h0; rw [cnt_zero]; rfl
    · have hz : ∀ s, s < n → S.testBit s = false := fun s hs => Bool.eq_false_iff.2 fun hb => by
        have := sumN_ge (f := fun s => cond (S.testBit s) 1 0) n hs
        unfold crd at h
        rw [h] at this
        simp [hb] at this
      rw [cnt_eq h0, sumN_zero n (fun s hs => by rw [hz s hs]; rfl)]
      have : ¬ 0 = S := fun e => h0 e.symm
      simp [FL, bitL, this]
  | i + 1, S, h => by
    have h0 : S ≠ 0 := by
      rintro rfl
      unfold crd at h
      rw [sumN_zero n (fun s _ => by simp)] at h
      omega
    rw [FL, fl_step, cnt_eq h0]
    refine sumN_congr n fun s hs => ?_
    cases hb : S.testBit s with
    | false => rfl
    | true =>
      have := crd_xor hb n
      rw [if_pos hs] at this
      rw [fl_cnt o n i (S ^^^ 2 ^ s) (by omega)]
theorem fl_has {o n : Nat} : ∀ {i : Nat} {p : List Nat}, p ∈ FL o n i → p.Nodup ∧ (∀ x ∈ p, x < n) ∧ p.length = i := fun {i p} h => by
  rw [← FL_eq, List.mem_filter] at h
  exact perm_mem.1 h.1
theorem fl_len (o n : Nat) : (FL o n n).length = cnt o n (2 ^ n - 1) := by
  rw [← fl_cnt o n n (2 ^ n - 1) (by
    unfold crd
    rw [sumN_congr (g := fun _ => 1) n (fun s hs => by rw [full_bit hs]; rfl), sumN_one])]
  congr 1
  refine (List.filter_eq_self.2 fun p hp => ?_).symm
  obtain ⟨h1, h2, h3⟩ := fl_has hp
  have := full_perm h1 h2 h3
  exact decide_eq_true (bitL_all fun t => by rw [this.mem_iff, List.mem_range])
end Go.Proofs.YtcmpdmobmbbplaaGreat

/- The plain law of SkiPlans: orders that are left, and their first places. -/
namespace Go.Proofs.YtcmpdmobmbbplaaGreat
set_option maxRecDepth 4000
open Go Go.Eng
/-- Lists without those that came before. -/
def dl {α : Type} [DecidableEq α] (X : List α) : List α := X.foldl (fun acc x => if x ∈ acc then acc else acc ++ [x]) []
section
variable {α : Type} [DecidableEq α]
end
/-- How many beginnings of so many skis there are. -/
def preN (X : List (List Nat)) (k : Nat) : Nat := (dl (X.map (·.take k))).length
/-- Orders with one ski before another one. -/
def bfB (a b : Nat) (L : List Nat) : Bool := decide (L.idxOf a < L.idxOf b)
theorem InO.with {o n a b : Nat} (h : InO o n) (hn : n ≤ 8) (ha : a < n) (hb : b < n) : InO (withO o a b) n := with_sub (R := fun a b => a < n ∧ b < n) (by omega) (by omega) (fun _ _ _ _ _ _ h1 h2 => ⟨h1.1, h2.2⟩) h ⟨ha, hb⟩
theorem LinO.mono {o p n : Nat} {L : List Nat} (h : LinO p n L) (hl : LeO o p) : LinO o n L := ⟨h.perm, fun a b ha hb hf => h.idx a b ha hb (hl a b ha hb hf)⟩
/-- Whether so many further runs are enough if a run of two skis is the next one. -/
def enoB (n k r o a b : Nat) : Bool := (!fa o a b && (!fa o b a && decide (worthO n k o a b ≤ r))) && true
end Go.Proofs.YtcmpdmobmbbplaaGreat

/- The plain law of SkiNamed: skis and runs in another order. -/
namespace Go.Proofs.YtcmpdmobmbbplaaGreat
set_option maxRecDepth 4000
open Go Go.Eng
/-- Numbers in another order. -/
structure Bij (n : Nat) (t u : Nat → Nat) : Prop where
  t1 : ∀ i, i < n → t i < n
  u1 : ∀ i, i < n → u i < n
  tu : ∀ i, i < n → t (u i) = i
  ut : ∀ i, i < n → u (t i) = i
theorem Bij.symm {n : Nat} {t u : Nat → Nat} (h : Bij n t u) : Bij n u t := ⟨h.u1, h.t1, h.ut, h.tu⟩
theorem Bij.inj {n : Nat} {t u : Nat → Nat} (h : Bij n t u) {i j : Nat} (hi : i < n) (hj : j < n) (e : t i = t j) : i = j := by
  rw [← h.ut i hi, ← h.ut j hj, e]
theorem bij_of {n : Nat} {t : Nat → Nat} (h1 : ∀ i, i < n → t i < n) (h2 : ∀ i j, i < n → j < n → t i = t j → i = j) : ∃ u, Bij n t u := by
  have h3 : ∀ p, ∃ s, p < n → s < n ∧ t s = p := fun p => by
    by_cases hp : p < n
    · obtain ⟨s, h4⟩ := surj h1 h2 p hp
      exact ⟨s, fun _ => h4⟩
    · exact ⟨0, fun h => absurd h hp⟩
  obtain ⟨u, hu⟩ := Classical.axiomOfChoice h3
  exact ⟨u, h1, fun i hi => (hu i hi).1, fun i hi => (hu i hi).2, fun i hi => h2 _ _ (hu _ (h1 i hi)).1 hi (hu _ (h1 i hi)).2⟩
/-- Orders of skis that are numbered otherwise. -/
structure RenO (n : Nat) (t u : Nat → Nat) (o p : Nat) : Prop where
  n8 : n ≤ 8
  bij : Bij n t u
  oo : Ord o
  op : Ord p
  io : InO o n
  ip : InO p n
  eq : ∀ a b, a < n → b < n → fa p (t a) (t b) = fa o a b
theorem RenO.symm {n : Nat} {t u : Nat → Nat} {o p : Nat} (h : RenO n t u o p) : RenO n u t p o := ⟨h.n8, h.bij.symm, h.op, h.oo, h.ip, h.io, fun a b ha hb => by
  rw [← h.eq _ _ (h.bij.u1 a ha) (h.bij.u1 b hb), h.bij.tu a ha, h.bij.tu b hb]⟩
theorem RenO.noC {n : Nat} {t u : Nat → Nat} {o p : Nat} (h : RenO n t u o p) (hc : NoC o n) : NoC p n := fun s hs => by
  have := h.eq _ _ (h.bij.u1 s hs) (h.bij.u1 s hs)
  rw [h.bij.tu s hs] at this
  rw [this]
  exact hc _ (h.bij.u1 s hs)
theorem RenO.with {n : Nat} {t u : Nat → Nat} {o p x y : Nat} (h : RenO n t u o p) (hx : x < n) (hy : y < n) : RenO n t u (withO o x y) (withO p (t x) (t y)) := by
  have h8 := h.n8
  have tx := h.bij.t1 x hx
  have ty := h.bij.t1 y hy
  refine ⟨h8, h.bij, h.oo.with (by omega) (by omega), h.op.with (by omega) (by omega), h.io.with h8 hx hy, h.ip.with h8 tx ty, fun a b ha hb => ?_⟩
  have ta := h.bij.t1 a ha
  have tb := h.bij.t1 b hb
  rw [Bool.eq_iff_iff, with_iff (by omega) (by omega), with_iff (by omega) (by omega), h.eq a b ha hb, h.eq a x ha hx, h.eq y b hy hb]
  have e1 : t a = t x ↔ a = x := ⟨h.bij.inj ha hx, fun e => by rw [e]⟩
  have e2 : t b = t y ↔ b = y := ⟨h.bij.inj hb hy, fun e => by rw [e]⟩
  rw [e1, e2]
theorem count_ren {n : Nat} {t u : Nat → Nat} (h : Bij n t u) {q r : Nat → Bool} (hq : ∀ i, i < n → q i = true → r (t i) = true) : ((List.range n).filter q).length ≤ ((List.range n).filter r).length := by
  rw [← List.length_map (f := t)]
  refine sub_len ?_ fun x hx => ?_
  · refine List.pairwise_map.2 (List.Pairwise.imp_of_mem ?_ (List.nodup_range.sublist List.filter_sublist))
    intro a b ha hb hne e
    exact hne (h.inj (List.mem_range.1 (List.mem_filter.1 ha).1) (List.mem_range.1 (List.mem_filter.1 hb).1) e)
  · obtain ⟨i, hi, rfl⟩ := List.mem_map.1 hx
    obtain ⟨h1, h2⟩ := List.mem_filter.1 hi
    have h3 := List.mem_range.1 h1
    exact List.mem_filter.2 ⟨List.mem_range.2 (h.t1 i h3), hq i h3 h2⟩
theorem RenO.up {n : Nat} {t u : Nat → Nat} {o p s : Nat} (h : RenO n t u o p) (hs : s < n) : upN p (t s) n = upN o s n := by
  refine Nat.le_antisymm ?_ ?_
  · refine count_ren h.bij.symm fun i hi hf => ?_
    have := h.eq (u i) s (h.bij.u1 i hi) hs
    rw [h.bij.tu i hi] at this
    rw [← this]; exact hf
  · refine count_ren h.bij fun i hi hf => ?_
    rw [h.eq i s hi hs]; exact hf
theorem RenO.dn {n : Nat} {t u : Nat → Nat} {o p s : Nat} (h : RenO n t u o p) (hs : s < n) : dnN p (t s) n = dnN o s n := by
  refine Nat.le_antisymm ?_ ?_
  · refine count_ren h.bij.symm fun i hi hf => ?_
    have := h.eq s (u i) hs (h.bij.u1 i hi)
    rw [h.bij.tu i hi] at this
    rw [← this]; exact hf
  · refine count_ren h.bij fun i hi hf => ?_
    rw [h.eq s i hs hi]; exact hf
theorem RenO.known {n k : Nat} {t u : Nat → Nat} {o p : Nat} (h : RenO n t u o p) (hk : knownO o n k = true) : knownO p n k = true := by
  rw [known_iff] at hk ⊢
  intro place hp
  obtain ⟨s, hs, h1, h2⟩ := hk place hp
  exact ⟨t s, h.bij.t1 s hs, by rw [h.up hs]; exact h1, by rw [h.dn hs]; exact h2⟩
theorem ren_plan_le {n k : Nat} {t u : Nat → Nat} (hn : n ≤ 8) (h1 : 1 ≤ n) (hk : k ≤ n) : ∀ v o p, undN o n ≤ v → NoC o n → RenO n t u o p → planO n k p ≤ planO n k o
  | v, o, p, hv, hc, h => by
    rcases Classical.em (knownO o n k = true) with hkn | hkn
    · rw [plan_eq hn h.op, if_pos (h.known hkn)]
      omega
    · obtain ⟨q, hq, hup, hw⟩ := plan_at hn h1 hk h.oo hc hkn
      have hU := Und.of h.oo hn hq hup
      have l1 := und_lt hU
      have l2 := und_lt hU.swap
      match v with
      | 0 => omega
      | v + 1 =>
        have q1 := hU.hx
        have q2 := hU.hy
        have g1 := ren_plan_le (k := k) hn h1 hk v _ _ (by omega) (hc.with hU) (h.with q1 q2)
        have g2 := ren_plan_le (k := k) hn h1 hk v _ _ (by omega) (hc.with hU.swap) (h.with q2 q1)
        have hU2 : Und p n (t q.1) (t q.2) := ⟨h.op, hn, h.bij.t1 _ q1, h.bij.t1 _ q2, fun e => hU.ne (h.bij.inj q1 q2 e), by rw [h.eq _ _ q1 q2]; exact hU.xy, by rw [h.eq _ _ q2 q1]; exact hU.yx⟩
        have g3 := plan_worth (k := k) hU2
        unfold worthO at g3 hw
        omega
theorem RenO.plan {n k : Nat} {t u : Nat → Nat} {o p : Nat} (h : RenO n t u o p) (h1 : 1 ≤ n) (hk : k ≤ n) (hc : NoC o n) : planO n k p = planO n k o :=
  Nat.le_antisymm (ren_plan_le h.n8 h1 hk _ _ _ (Nat.le_refl _) hc h) (ren_plan_le h.n8 h1 hk _ _ _ (Nat.le_refl _) (h.noC hc) h.symm)
theorem perm_nodup (n : Nat) : ∀ i, (permN n i).Nodup
  | 0 => by simp [permN]
  | i + 1 => by
    rw [permN]
    refine List.pairwise_flatMap.2 ⟨fun p _ => ?_, ?_⟩
    · refine List.pairwise_map.2 (List.Pairwise.imp ?_ (List.nodup_range.sublist List.filter_sublist))
      intro a b hne e
      exact hne (by simpa using e)
    · refine List.Pairwise.imp ?_ (perm_nodup n i)
      intro p q hne x hx y hy e
      obtain ⟨a, _, rfl⟩ := List.mem_map.1 hx
      obtain ⟨b, _, rfl⟩ := List.mem_map.1 hy
      exact hne (List.append_inj_left' e rfl)
theorem fl_nodup (o n i : Nat) : (FL o n i).Nodup := by
  rw [← FL_eq]
  exact (perm_nodup n i).sublist List.filter_sublist
theorem map_idx {n : Nat} {t u : Nat → Nat} (h : Bij n t u) : ∀ {L : List Nat}, (∀ x ∈ L, x < n) → ∀ {s : Nat}, s < n → (L.map t).idxOf (t s) = L.idxOf s
  | [], _, _, _ => rfl
  | x :: L, hL, s, hs => by
    have hx := hL x List.mem_cons_self
    have ih := map_idx h (L := L) (fun y hy => hL y (List.mem_cons_of_mem _ hy)) hs
    rw [List.map_cons]
    by_cases e : x = s
    · subst e; rw [List.idxOf_cons_self, List.idxOf_cons_self]
    · have e2 : t x ≠ t s := fun h2 => e (h.inj hx hs h2)
      rw [idx_cons_ne e2, idx_cons_ne e, ih]
theorem map_perm {n : Nat} {t u : Nat → Nat} (h : Bij n t u) {L : List Nat} (hp : L.Perm (List.range n)) : (L.map t).Perm (List.range n) := by
  have h1 : ∀ x ∈ L, x < n := fun x hx => List.mem_range.1 (hp.mem_iff.1 hx)
  refine full_perm ?_ (fun x hx => ?_) (by rw [List.length_map, hp.length_eq, List.length_range])
  · refine List.pairwise_map.2 (List.Pairwise.imp_of_mem ?_ (hp.nodup_iff.2 List.nodup_range))
    intro a b ha hb hne e
    exact hne (h.inj (h1 a ha) (h1 b hb) e)
  · obtain ⟨y, hy, rfl⟩ := List.mem_map.1 hx
    exact h.t1 y (h1 y hy)
theorem ren_lin {n : Nat} {t u : Nat → Nat} {o p : Nat} (h : RenO n t u o p) {L : List Nat} (hL : LinO o n L) : LinO p n (L.map t) := by
  have h1 : ∀ x ∈ L, x < n := fun x hx => hL.mem.1 hx
  refine ⟨map_perm h.bij hL.perm, fun a b ha hb hf => ?_⟩
  obtain ⟨h2, h3⟩ := h.ip a b ha hb hf
  refine ⟨h2, h3, ?_⟩
  have h8 := h.n8
  have ha2 := h.bij.u1 a h2
  have hb2 := h.bij.u1 b h3
  have h4 := h.eq _ _ ha2 hb2
  rw [h.bij.tu a h2, h.bij.tu b h3, hf] at h4
  have h5 := (hL.idx _ _ (by omega) (by omega) h4.symm).2.2
  have e1 := map_idx h.bij h1 ha2
  have e2 := map_idx h.bij h1 hb2
  rw [h.bij.tu a h2] at e1
  rw [h.bij.tu b h3] at e2
  omega
theorem ren_cnt_le {n : Nat} {t u : Nat → Nat} {o p : Nat} (h : RenO n t u o p) : (FL o n n).length ≤ (FL p n n).length := by
  rw [← List.length_map (f := fun L => L.map t)]
  refine sub_len ?_ fun x hx => ?_
  · refine List.pairwise_map.2 (List.Pairwise.imp_of_mem ?_ (fl_nodup o n n))
    intro a b ha hb hne e
    have h1 := (fl_mem h.n8 h.io).1 ha
    have h2 := (fl_mem h.n8 h.io).1 hb
    have k : ∀ L : List Nat, (∀ x ∈ L, x < n) → (L.map t).map u = L := fun L hL => by
      rw [List.map_map]
      exact (List.map_congr_left (fun x hx => h.bij.ut x (hL x hx))).trans (List.map_id _)
    refine hne ?_
    rw [← k a (fun x hx => h1.mem.1 hx), ← k b (fun x hx => h2.mem.1 hx), e]
  · obtain ⟨L, hL, rfl⟩ := List.mem_map.1 hx
    exact (fl_mem h.n8 h.ip).2 (ren_lin h ((fl_mem h.n8 h.io).1 hL))
theorem RenO.cnt {n : Nat} {t u : Nat → Nat} {o p : Nat} (h : RenO n t u o p) : cnt p n (2 ^ n - 1) = cnt o n (2 ^ n - 1) := by
  rw [← fl_len, ← fl_len]
  exact Nat.le_antisymm (ren_cnt_le h.symm) (ren_cnt_le h)
/-- A run that is told with other numbers, perhaps from the other side. -/
def RenR (t : Nat → Nat) (r r' : Rn) : Prop := (r'.a = (t r.a.toNat : Nat) ∧ r'.b = (t r.b.toNat : Nat) ∧ r'.lead = r.lead) ∨ (r'.a = (t r.b.toNat : Nat) ∧ r'.b = (t r.a.toNat : Nat) ∧ r'.lead = -r.lead)
theorem renR_run {t : Nat → Nat} {r r' : Rn} (h : RenR t r r') {e : Int} (he : 0 ≤ e) : runV e r' = (runV e r).map fun p => (t p.1, t p.2) := by
  rcases h with ⟨h1, h2, h3⟩ | ⟨h1, h2, h3⟩
  · unfold runV
    rw [h1, h2, h3, Int.toNat_natCast, Int.toNat_natCast]
    split
    · rfl
    · split <;> rfl
  · unfold runV
    rw [h1, h2, h3, Int.toNat_natCast, Int.toNat_natCast]
    by_cases c1 : e < r.lead
    · rw [if_neg (by omega), if_pos (by omega), if_pos c1]; rfl
    · by_cases c2 : r.lead < -e
      · rw [if_pos (by omega), if_neg c1, if_pos c2]; rfl
      · rw [if_neg (by omega), if_neg (by omega), if_neg c1, if_neg c2]; rfl
def rnG (l : Lb) (i : Nat) : Rn := l.runs.getD i ⟨0, 0, 0⟩
structure RenL (l m : Lb) (t : Nat → Nat) (σ : List Nat) : Prop where
  sk : m.skis = l.skis
  err : m.err = l.err
  len : m.runs.length = l.runs.length
  perm : σ.Perm (List.range l.runs.length)
  run : ∀ j, j < l.runs.length → RenR t (rnG l (σ.getD j 0)) (rnG m j)
section
variable {l m : Lb} {t u : Nat → Nat} {σ : List Nat}
theorem RenL.n (h : RenL l m t σ) : m.n = l.n := by unfold Lb.n; rw [h.sk]
theorem RenL.sl (h : RenL l m t σ) : σ.length = l.runs.length := by rw [h.perm.length_eq, List.length_range]
theorem RenL.lt (h : RenL l m t σ) {j : Nat} (hj : j < l.runs.length) : σ.getD j 0 < l.runs.length := by
  have := h.sl
  rw [List.getD_eq_getElem?_getD, List.getElem?_eq_getElem (by omega), Option.getD_some]
  exact List.mem_range.1 (h.perm.mem_iff.1 (List.getElem_mem _))
theorem RenL.at (h : RenL l m t σ) {i : Nat} (hi : i < l.runs.length) : ∃ j, j < l.runs.length ∧ σ.getD j 0 = i := by
  obtain ⟨j, hj, e⟩ := List.mem_iff_getElem.1 (h.perm.mem_iff.2 (List.mem_range.2 hi))
  have := h.sl
  exact ⟨j, by omega, by rw [List.getD_eq_getElem?_getD, List.getElem?_eq_getElem hj, Option.getD_some, e]⟩
theorem RenL.inj (h : RenL l m t σ) {i j : Nat} (hi : i < l.runs.length) (hj : j < l.runs.length) (e : σ.getD i 0 = σ.getD j 0) : i = j := by
  have := h.sl
  rw [List.getD_eq_getElem?_getD, List.getElem?_eq_getElem (by omega), Option.getD_some, List.getD_eq_getElem?_getD, List.getElem?_eq_getElem (by omega), Option.getD_some] at e
  exact (List.getElem_inj (h.perm.nodup_iff.2 List.nodup_range)).1 e
theorem RenL.sh (h : RenL l m t σ) (hl : l.Ok) {j f s : Nat} (hs : Sh l (σ.getD j 0) f s) (hj : j < l.runs.length) : Sh m j (t f) (t s) := ⟨by rw [h.len]; exact hj, by
  have h1 := renR_run (h.run j hj) hl.e0
  have h2 := hs.2
  unfold rnG at h1
  rw [h.err, h1, h2]; rfl⟩
theorem RenL.hs (h : RenL l m t σ) (hl : l.Ok) {j f s : Nat} (hs : Sh m j f s) : ∃ f' s', Sh l (σ.getD j 0) f' s' ∧ f = t f' ∧ s = t s' := by
  have hj : j < l.runs.length := by rw [← h.len]; exact hs.1
  have h1 := renR_run (h.run j hj) hl.e0
  have h2 := hs.2
  unfold rnG at h1
  rw [h.err, h1] at h2
  obtain ⟨p, h3, h4⟩ := Option.map_eq_some_iff.1 h2
  exact ⟨p.1, p.2, ⟨h.lt hj, h3⟩, (congrArg Prod.fst h4).symm, (congrArg Prod.snd h4).symm⟩
theorem RenL.ok (h : RenL l m t σ) (hl : l.Ok) (hb : Bij l.n t u) : m.Ok := ⟨by rw [h.sk]; exact hl.s0, by rw [h.sk]; exact hl.s1, by rw [h.err]; exact hl.e0, by rw [h.err]; exact hl.e1, by rw [h.len]; exact hl.len, fun r hr => by
  obtain ⟨j, hj, rfl⟩ := List.mem_iff_getElem.1 hr
  have hj2 : j < l.runs.length := by rw [← h.len]; exact hj
  have h1 := h.run j hj2
  have hlt := h.lt hj2
  have e1 : rnG m j = m.runs[j] := by unfold rnG; rw [List.getD_eq_getElem?_getD, List.getElem?_eq_getElem hj, Option.getD_some]
  have e2 : rnG l (σ.getD j 0) = l.runs[σ.getD j 0] := by unfold rnG; rw [List.getD_eq_getElem?_getD, List.getElem?_eq_getElem hlt, Option.getD_some]
  have ho := hl.run _ (List.getElem_mem hlt)
  rw [e1, e2] at h1
  have hn : (l.n : Int) = l.skis := by have := hl.s0; unfold Lb.n; omega
  have a0 := ho.a0
  have a1 := ho.a1
  have b0 := ho.b0
  have b1 := ho.b1
  have hne := ho.ne
  have l0 := ho.l0
  have l1 := ho.l1
  have ta := hb.t1 (l.runs[σ.getD j 0].a.toNat) (by omega)
  have tb := hb.t1 (l.runs[σ.getD j 0].b.toNat) (by omega)
  have tne : t l.runs[σ.getD j 0].a.toNat ≠ t l.runs[σ.getD j 0].b.toNat := fun e => by
    have := hb.inj (by omega) (by omega) e
    omega
  have hsk := h.sk
  rcases h1 with ⟨g1, g2, g3⟩ | ⟨g1, g2, g3⟩
  · exact ⟨by omega, by omega, by omega, by omega, by omega, by omega, by omega⟩
  · exact ⟨by omega, by omega, by omega, by omega, by omega, by omega, by omega⟩⟩
theorem RenL.o (h : RenL l m t σ) (hl : l.Ok) (hb : Bij l.n t u) : RenO l.n t u l.ord m.ord := by
  have hm := h.ok hl hb
  have h8 := hl.n8
  have him : InO m.ord l.n := by rw [← h.n]; exact hm.inO
  refine ⟨h8, hb, hl.o, hm.o, hl.inO, him, fun a b ha hb' => Bool.eq_iff_iff.2 ⟨fun hf => ?_, fun hf => ?_⟩⟩
  · have ta := hb.t1 a ha
    have tb := hb.t1 b hb'
    obtain ⟨x, y, hx, hy, e1, e2, h3⟩ := order_sub (l := m.pairs) (R := fun p q => ∃ x y, x < l.n ∧ y < l.n ∧ p = t x ∧ q = t y ∧ fa l.ord x y = true) hm.in8 (fun p q r _ _ _ h1 h2 => by
      obtain ⟨x, y, hx, hy, rfl, rfl, h3⟩ := h1
      obtain ⟨x', y', hx', hy', e1, rfl, h4⟩ := h2
      obtain rfl := hb.inj hy hx' e1
      exact ⟨x, y', hx, hy', rfl, rfl, hl.o.tr x y y' (by omega) (by omega) (by omega) h3 h4⟩) (fun p hp => by
      obtain ⟨j, hj⟩ := pair_sh hp
      obtain ⟨f, s, h3, h4, h5⟩ := h.hs hl hj
      have h6 := sh_pair h3
      obtain ⟨h7, h9, _⟩ := hl.in _ h6
      exact ⟨f, s, h7, h9, h4, h5, order_has hl.in8 h6⟩) (t a) (t b) (by omega) (by omega) hf
    rw [hb.inj ha hx e1, hb.inj hb' hy e2]
    exact h3
  · refine order_sub (l := l.pairs) (R := fun p q => p < l.n ∧ q < l.n ∧ fa m.ord (t p) (t q) = true) hl.in8 (fun p q r _ _ _ h1 h2 => ⟨h1.1, h2.2.1, ?_⟩) (fun p hp => ?_) a b (by omega) (by omega) hf |>.2.2
    · have tp := hb.t1 p h1.1
      have tq := hb.t1 q h1.2.1
      have tr := hb.t1 r h2.2.1
      exact hm.o.tr _ _ _ (by omega) (by omega) (by omega) h1.2.2 h2.2.2
    · obtain ⟨h7, h9, _⟩ := hl.in _ hp
      obtain ⟨i, hi⟩ := pair_sh hp
      obtain ⟨j, hj, e⟩ := h.at hi.1
      rw [← e] at hi
      exact ⟨h7, h9, order_has hm.in8 (sh_pair (h.sh hl hi hj))⟩
theorem wk_ren (h : RenL l m t σ) (hl : l.Ok) {a : Nat} : ∀ k b, Wk l a k b → Wk m (t a) k (t b)
  | 0, b, hw => by rw [show b = a from hw]; rfl
  | k + 1, b, ⟨s, i, h1, h2⟩ => by
    obtain ⟨j, hj, e⟩ := h.at h2.1
    rw [← e] at h2
    exact ⟨t s, j, wk_ren h hl k s h1, h.sh hl h2 hj⟩
theorem wk_ner (h : RenL l m t σ) (hl : l.Ok) (hb : Bij l.n t u) {a : Nat} (ha : a < l.n) : ∀ k b, Wk m (t a) k b → ∃ b', b' < l.n ∧ b = t b' ∧ Wk l a k b'
  | 0, b, hw => ⟨a, ha, hw, rfl⟩
  | k + 1, b, ⟨s, i, h1, h2⟩ => by
    obtain ⟨s', hs', rfl, h3⟩ := wk_ner h hl hb ha k s h1
    obtain ⟨f, b', h4, h5, rfl⟩ := h.hs hl h2
    obtain ⟨h7, h9, _⟩ := hl.in _ (sh_pair h4)
    obtain rfl := hb.inj hs' h7 h5
    exact ⟨b', h9, rfl, s', _, h3, h4⟩
theorem short_wk {a b : Nat} {c : List Int} (he : 0 ≤ l.err) (h : Short l a b c) : Wk l a c.length b := by
  obtain ⟨b', e, hw⟩ := lead_wk he a c.length c b rfl h.ok
  have : b' = b := by omega
  rw [← this]; exact hw
theorem short_min {a b k : Nat} {c : List Int} (h : Short l a b c) (hk : 1 ≤ k) (hw : Wk l a k b) : c.length ≤ k := by
  obtain ⟨c', h1, h2⟩ := wk_lead k b hw
  rw [← h1]
  exact h.min c' (fun e => by rw [e] at h1; simp at h1; omega) h2
theorem ren_chain (h : RenL l m t σ) (hl : l.Ok) (hb : Bij l.n t u) {a b : Nat} (ha : a < l.n) (hb' : b < l.n) {c c' : List Int} (h1 : Short l a b c) (h2 : Short m (t a) (t b) c') : c.length = c'.length := by
  have hm := h.ok hl hb
  have p1 : 1 ≤ c.length := List.length_pos_iff.2 h1.ne
  have p2 : 1 ≤ c'.length := List.length_pos_iff.2 h2.ne
  have g1 := short_min h2 p1 (wk_ren h hl _ _ (short_wk hl.e0 h1))
  obtain ⟨b2, hb2, e, g2⟩ := wk_ner h hl hb ha _ _ (short_wk hm.e0 h2)
  obtain rfl := hb.inj hb' hb2 e
  have g3 := short_min h1 p2 g2
  omega
theorem ren_no (h : RenL l m t σ) (hl : l.Ok) (hb : Bij l.n t u) {a b : Nat} (ha : a < l.n) (hb' : b < l.n) {c : List Int} (h1 : NoCh l a b) (h2 : Short m (t a) (t b) c) : False := by
  have hm := h.ok hl hb
  obtain ⟨b2, hb2, e, g2⟩ := wk_ner h hl hb ha _ _ (short_wk hm.e0 h2)
  obtain rfl := hb.inj hb' hb2 e
  obtain ⟨c', h3, h4⟩ := wk_lead _ _ g2
  exact h1 c' (fun e => by rw [e] at h3; exact h2.ne (List.length_eq_zero_iff.1 h3.symm)) h4
theorem ren_no2 (h : RenL l m t σ) (hl : l.Ok) {a b : Nat} {c : List Int} (h1 : NoCh m (t a) (t b)) (h2 : Short l a b c) : False := by
  obtain ⟨c', h3, h4⟩ := wk_lead _ _ (wk_ren h hl _ _ (short_wk hl.e0 h2))
  exact h1 c' (fun e => by rw [e] at h3; exact h2.ne (List.length_eq_zero_iff.1 h3.symm)) h4
theorem ren_drop (h : RenL l m t σ) (hl : l.Ok) (hb : Bij l.n t u) {d d' : List Nat} (h1 : DropP l d) (h2 : DropP m d') : d.length = d'.length := by
  have hm := h.ok hl hb
  have hn := h.n
  refine Nat.le_antisymm ?_ ?_
  · obtain ⟨L, hL, hi⟩ := h2.at_
    rw [hn] at hL
    have hLn : ∀ x ∈ L, x < l.n := fun x hx => List.mem_range.1 (hL.mem_iff.1 hx)
    refine Nat.le_trans (h1.min (d'.map fun j => σ.getD j 0) (noC_drop hl (map_perm hb.symm hL) fun i s r g1 g2 => ?_)) (by rw [List.length_map]; exact Nat.le_refl _)
    obtain ⟨j, hj, e⟩ := h.at g1.1
    rw [← e] at g1
    obtain ⟨k1, k2, _⟩ := hl.in _ (sh_pair g1)
    have m1 := map_idx hb.symm hLn (hb.t1 s k1)
    have m2 := map_idx hb.symm hLn (hb.t1 r k2)
    rw [hb.ut s k1] at m1
    rw [hb.ut r k2] at m2
    exact List.mem_map.2 ⟨j, (hi j).2 ⟨t s, t r, h.sh hl g1 hj, by omega⟩, e⟩
  · obtain ⟨L, hL, hi⟩ := h1.at_
    have hLn : ∀ x ∈ L, x < l.n := fun x hx => List.mem_range.1 (hL.mem_iff.1 hx)
    have hmp := map_perm hb hL
    rw [← hn] at hmp
    refine Nat.le_trans (h2.min ((List.range l.runs.length).filter fun j => decide (σ.getD j 0 ∈ d)) (noC_drop hm hmp fun j s r g1 g2 => ?_)) ?_
    · obtain ⟨f, q, k1, rfl, rfl⟩ := h.hs hl g1
      obtain ⟨k2, k3, _⟩ := hl.in _ (sh_pair k1)
      rw [map_idx hb hLn k2, map_idx hb hLn k3] at g2
      exact List.mem_filter.2 ⟨List.mem_range.2 (by rw [← h.len]; exact g1.1), decide_eq_true ((hi _).2 ⟨f, q, k1, g2⟩)⟩
    · rw [← List.length_map (f := fun j => σ.getD j 0)]
      refine sub_len ?_ fun x hx => ?_
      · refine List.pairwise_map.2 (List.Pairwise.imp_of_mem ?_ (List.nodup_range.sublist List.filter_sublist))
        intro a b ha hb2 hne e
        exact hne (h.inj (List.mem_range.1 (List.mem_filter.1 ha).1) (List.mem_range.1 (List.mem_filter.1 hb2).1) e)
      · obtain ⟨j, hj, rfl⟩ := List.mem_map.1 hx
        exact of_decide_eq_true (List.mem_filter.1 hj).2
end
end Go.Proofs.YtcmpdmobmbbplaaGreat

/- Walks: the fewest runs that are to be dropped. -/
namespace Go.Proofs.YtcmpdmobmbbplaaGreat
set_option maxRecDepth 4000
open Go Go.Eng
theorem dpStep_le (l : Lb) (F : Nat → Nat × Nat) (S : Nat) (p : Nat × Nat) (s : Nat) : (dpStep l F S p s).1 ≤ p.1 := by
  unfold dpStep
  split
  · split
    · simp only; omega
    · exact Nat.le_refl _
  · exact Nat.le_refl _
theorem dpPart_bd (l : Lb) (n S : Nat) : ∀ j, (dpPart l n S j).1 ≤ 41 ∧ (dpPart l n S j).2 ≤ j
  | 0 => ⟨Nat.le_refl _, Nat.le_refl _⟩
  | j + 1 => by
    have ih := dpPart_bd l n S j
    rw [dpPart_succ]
    refine ⟨Nat.le_trans (dpStep_le _ _ _ _ _) ih.1, ?_⟩
    unfold dpStep
    split
    · split
      · simp
      · omega
    · omega
theorem dp_part {l : Lb} {n S : Nat} (h : S ≠ 0) : dpPart l n S n = dp l n S := (dp_eq h).symm
theorem dp_bd (l : Lb) (n S : Nat) : (dp l n S).1 ≤ 41 ∧ (dp l n S).2 ≤ n := by
  by_cases h : S = 0
  · subst h; rw [dp_zero]; exact ⟨by omega, by omega⟩
  · rw [← dp_part h]; exact dpPart_bd l n S n
def fwL (l : Lb) (n S : Nat) : List Int := (List.range (2 ^ n)).map fun T => if T < S then ((dp l n T).1 : Int) else 0
def lsL (l : Lb) (n S : Nat) : List Int := (List.range (2 ^ n)).map fun T => if T < S then ((dp l n T).2 : Int) else 0
section
variable {l : Lb} {n S : Nat}
theorem fw_len (l : Lb) (n S : Nat) : (fwL l n S).length = 2 ^ n := by simp [fwL]
theorem ls_len (l : Lb) (n S : Nat) : (lsL l n S).length = 2 ^ n := by simp [lsL]
theorem fw_next (h : S < 2 ^ n) : (fwL l n S).set S ((dp l n S).1 : Int) = fwL l n (S + 1) := by
  refine List.ext_getElem (by simp [fwL]) fun T h1 h2 => ?_
  rw [List.getElem_set]
  simp only [fwL, List.getElem_map, List.getElem_range]
  by_cases e : S = T
  · subst e; rw [if_pos rfl, if_pos (by omega)]
  · rw [if_neg e]
    by_cases h3 : T < S
    · rw [if_pos h3, if_pos (by omega)]
    · rw [if_neg h3, if_neg (by omega)]
theorem ls_next (h : S < 2 ^ n) : (lsL l n S).set S ((dp l n S).2 : Int) = lsL l n (S + 1) := by
  refine List.ext_getElem (by simp [lsL]) fun T h1 h2 => ?_
  rw [List.getElem_set]
  simp only [lsL, List.getElem_map, List.getElem_range]
  by_cases e : S = T
  · subst e; rw [if_pos rfl, if_pos (by omega)]
  · rw [if_neg e]
    by_cases h3 : T < S
    · rw [if_pos h3, if_pos (by omega)]
    · rw [if_neg h3, if_neg (by omega)]
theorem ls_same : lsL l n S = (lsL l n S).set S 0 := by
  refine List.ext_getElem (by simp) fun T h1 h2 => ?_
  rw [List.getElem_set]
  by_cases e : S = T
  · subst e; rw [if_pos rfl]; simp [lsL]
  · rw [if_neg e]
theorem fw_one : List.replicate (2 ^ n) 0 = fwL l n 1 := by
  refine List.ext_getElem (by simp [fwL]) fun T h1 h2 => ?_
  simp only [fwL, List.getElem_map, List.getElem_range, List.getElem_replicate]
  split
  · obtain rfl : T = 0 := by omega
    rw [dp_zero]; rfl
  · rfl
theorem ls_one : List.replicate (2 ^ n) 0 = lsL l n 1 := by
  refine List.ext_getElem (by simp [lsL]) fun T h1 h2 => ?_
  simp only [lsL, List.getElem_map, List.getElem_range, List.getElem_replicate]
  split
  · obtain rfl : T = 0 := by omega
    rw [dp_zero]; rfl
  · rfl
theorem fw_at {T : Nat} {x : Int} (h : T < S) (hS : S < 2 ^ n) (h2 : T < ((fwL l n S).set S x).length) : ((fwL l n S).set S x)[T] = ((dp l n T).1 : Int) := by
  rw [List.getElem_set, if_neg (by omega)]
  simp [fwL, h]
theorem fw_self {x : Int} (h2 : S < ((fwL l n S).set S x).length) : ((fwL l n S).set S x)[S] = x := by
  rw [List.getElem_set, if_pos rfl]
theorem ls_at {T : Nat} (h : T < S) (h2 : T < (lsL l n S).length) : (lsL l n S)[T] = ((dp l n T).2 : Int) := by
  simp [lsL, h]
/-- One step of the way back. -/
theorem bt_step (h40 : l.runs.length ≤ 40) {R : List Nat} (hn : R.Nodup) (hr : ∀ s ∈ R, s < n) (h0 : bitL R ≠ 0) : (bitL R).testBit (dp l n (bitL R)).2 = true ∧ (dp l n (bitL R)).2 < n ∧ ∃ R' : List Nat, R'.Nodup ∧ (∀ s ∈ R', s < n) ∧ bitL R ^^^ 2 ^ (dp l n (bitL R)).2 = bitL R' ∧ R.length = R'.length + 1 ∧ btF l n R.length (bitL R) = agL l (dp l n (bitL R)).2 (bitL R') ++ btF l n R'.length (bitL R') := by
  have hI := dp_is (l := l) (n := n) h0
  have hle : (dp l n (bitL R)).1 ≤ 40 := by
    have h1 := dp_le (l := l) R hn hr
    have h2 := dropR_len (l := l) hn
    omega
  rcases hI.at_ with h | ⟨h1, h2, h3⟩
  · rw [h] at hle; simp at hle
  · have hm : (dp l n (bitL R)).2 ∈ R := by rw [bit_mem] at h2; exact of_decide_eq_true h2
    have hp := List.perm_cons_erase hm
    have hn2 := hp.nodup_iff.1 hn
    obtain ⟨h4, h5⟩ := List.nodup_cons.1 hn2
    have he : bitL R = bitL ((dp l n (bitL R)).2 :: R.erase (dp l n (bitL R)).2) := bitL_ext fun t => hp.mem_iff
    have he2 : bitL R ^^^ 2 ^ (dp l n (bitL R)).2 = bitL (R.erase (dp l n (bitL R)).2) := by
      conv => lhs; arg 1; rw [he]
      exact bitL_cons h4
    have hl : R.length = (R.erase (dp l n (bitL R)).2).length + 1 := by
      have := List.length_pos_of_mem hm
      rw [List.length_erase_of_mem hm]; omega
    refine ⟨h2, h1, _, h5, fun s hs => hr s (List.mem_of_mem_erase hs), he2, hl, ?_⟩
    conv => lhs; rw [hl, btF, if_neg h0, he2]
theorem bt_zero {R : List Nat} (h0 : bitL R = 0) : R = [] := by
  cases R with
  | nil => rfl
  | cons x R =>
    have := bit_mem x (x :: R)
    rw [h0] at this
    simp at this
end
end Go.Proofs.YtcmpdmobmbbplaaGreat

/- Walks: the fewest runs that are to be dropped. -/
namespace Go.Proofs.YtcmpdmobmbbplaaGreat
set_option maxRecDepth 4000
open Go Go.Eng
def tK47_d76cc7a : OT := .alt (chainT [0, 1, 2, 3, 4, 5, 6, 7, 8, 9, 10, 11, 12, 13, 14, 15] (.nil)) (chainT [7, 8, 9, 10, 11, 12, 13, 0, 1, 2, 3, 4, 5, 6, 14, 15] (.nil))
set_option maxHeartbeats 4000000 in
theorem drop_ok (w : World) (lo hi : Nat) (l : Lb) (v : Value) (h : RdR w lo hi v l.runs) (hl : l.Ok) :
    Ca Tryz.prog 26 [.agg (lbC l v).toArray] w fun x w' => ∃ y : Value × List Nat, (x = .tuple #[y.1, .int .i64 0] ∧ DropP l y.2) ∧ Sat w M0 [.ow y.1 3 1 y.2.length (ints (chI y.2))] w' := by
  have hdp := fun d hp hs => drop_says hl (d := d) hp hs
  obtain ⟨n, en, hn', h8, h1⟩ := hl.nat
  have h40 := hl.len
  have hp : 2 ^ n ≤ 256 := Nat.pow_le_pow_right (n := 2) (j := 8) (by omega) h8
  have hp1 : 2 ≤ 2 ^ n := Nat.pow_le_pow_right (n := 2) (i := 1) (by omega) h1
  have ep : (2 : Int) ^ n = ((2 ^ n : Nat) : Int) := by norm_cast
  have hbt : (btF l n n (2 ^ n - 1)).length ≤ 40 ∧ ∀ x ∈ btF l n n (2 ^ n - 1), x < l.runs.length := by
    obtain ⟨R, g1, g2, g3⟩ := bt_is (l := l) (n := n) h40 (List.range n) List.nodup_range (fun s h => List.mem_range.1 h)
    rw [List.length_range, bitL_all (n := n) (fun t => List.mem_range)] at g2
    rw [g2]
    have := dropR_len (l := l) (g1.nodup_iff.2 List.nodup_range)
    exact ⟨by omega, fun x hx => dropR_lt hx⟩
  rw [hn'] at hdp
  generalize hF : btF l n n (2 ^ n - 1) = Full at hbt hdp
  refine q_of (Sat.nil w M0) Tryz.func26 rfl (by simp [Tryz.ntmps26]) ?_
  (refine q_seq (q_region ?_))
  refine ql_box rfl rfl (fun b1 => ?_)
  rw [agg_cells]
  (refine ql_pure tabOk rfl rfl (ql_pure tabOk rfl rfl (q_nil (q_seq (q_region ?_)))); refine ql_loadABa tabOk rfl rfl rfl ?_)
  refine ql_call (β := Nat) tabOk [] _ M0 rfl rfl rfl rfl (Sp.refl _) (fun _ h => h.elim) (fun w' hs => asked_ok w' lo hi l v (RdE.keep h hs.chg0) hl) ?_
  rintro b _ rfl
  dsimp only [List.cons_append, List.nil_append]
  (refine ql_pure tabOk rfl rfl (ql_ext tabOk rfl rfl rfl (ql_ext tabOk rfl rfl rfl (ql_pure tabOk rfl rfl (ql_pure tabOk rfl rfl (q_nil (q_seq (q_seq (q_region (ql_pure tabOk rfl rfl (ql_neqF tabOk rfl rfl rfl (by omega) (q_nil ?_))))))))))); refine q_cond_false rfl (q_skip (q_seq ?_)))
  generalize hN : 2 ^ n = N at *
  refine q_cut (σ := Nat × Nat) (fun z => [(4, .pointer (some ⟨b, 0, none⟩)), (6, .slice (some ⟨z.1, 0, none⟩) N N), (7, .slice (some ⟨z.2, 0, none⟩) N N)]) (fun z => [.pt z.1 (ints (List.replicate N 0)) 3, .pt z.2 (ints (List.replicate N 0)) 3, .pt b (dkC l v l.ord) 122]) ?_ ?_
  rotate_left
  · intro K2 hK2
    refine q_drawT (tK47_d76cc7a) _ [] (Sp.refl _) (by kernel_rfl) (by kernel_rfl) ?_
    refine qt_alt ?_ ?_
    · skip
      refine qt_seg (by repeat (first | exact PickL.nil | (apply PickL.cons; rfl))) fun K1 hK1 => ?_
      ((iterate 4 refine qf_pure tabOk rfl rfl rfl ?_); refine qf_loadBa tabOk rfl rfl rfl ?_)
      rw [en]
      refine qf_shl rfl rfl rfl (by omega) (by rw [Int.toNat_natCast, ep]; omega) (by rw [Int.toNat_natCast, ep]; omega) ?_
      rw [Int.toNat_natCast, ep, Int.one_mul]
      skip
      refine qf_makeI slI rfl rfl rfl (by omega) (fun b6 => ?_)
      ((iterate 4 refine qf_pure tabOk rfl rfl rfl ?_); refine qf_loadBa tabOk rfl rfl rfl ?_)
      rw [en]
      refine qf_shl rfl rfl rfl (by omega) (by rw [Int.toNat_natCast, ep]; omega) (by rw [Int.toNat_natCast, ep]; omega) ?_
      rw [Int.toNat_natCast, ep, Int.one_mul]
      skip
      refine qf_makeI slI rfl rfl rfl (by omega) (fun b7 => ?_)
      (refine qf_pure tabOk rfl rfl rfl (qf_pure tabOk rfl rfl rfl (qf_nil ?_)))
      skip
      exact hK1 _ _ (qt_nil (hK2 (b6, b7) _ _ ⟨rfl, rfl, rfl, trivial⟩ (by repeat constructor)))
    · skip
      refine qt_seg (by repeat (first | exact PickL.nil | (apply PickL.cons; rfl))) fun K1 hK1 => ?_
      ((iterate 4 refine qf_pure tabOk rfl rfl rfl ?_); refine qf_loadBa tabOk rfl rfl rfl ?_)
      rw [en]
      refine qf_shl rfl rfl rfl (by omega) (by rw [Int.toNat_natCast, ep]; omega) (by rw [Int.toNat_natCast, ep]; omega) ?_
      rw [Int.toNat_natCast, ep, Int.one_mul]
      skip
      refine qf_makeI slI rfl rfl rfl (by omega) (fun b7 => ?_)
      ((iterate 4 refine qf_pure tabOk rfl rfl rfl ?_); refine qf_loadBa tabOk rfl rfl rfl ?_)
      rw [en]
      refine qf_shl rfl rfl rfl (by omega) (by rw [Int.toNat_natCast, ep]; omega) (by rw [Int.toNat_natCast, ep]; omega) ?_
      rw [Int.toNat_natCast, ep, Int.one_mul]
      skip
      refine qf_makeI slI rfl rfl rfl (by omega) (fun b6 => ?_)
      (refine qf_pure tabOk rfl rfl rfl (qf_pure tabOk rfl rfl rfl (qf_nil ?_)))
      skip
      exact hK1 _ _ (qt_nil (hK2 (b6, b7) _ _ ⟨rfl, rfl, rfl, trivial⟩ (by repeat constructor)))
  rintro ⟨b6, b7⟩
  dsimp only
  have e1 : List.replicate N 0 = fwL l n 1 := by rw [← hN]; exact fw_one
  have e2 : List.replicate N 0 = lsL l n 1 := by rw [← hN]; exact ls_one
  refine q_conv (H' := [.pt b6 (ints (fwL l n 1)) 3, .pt b7 (ints (lsL l n 1)) 3, .pt b (dkC l v l.ord) 122]) (fun w' hs => by rw [← e1, ← e2]; exact hs) ?_
  have lfw : ∀ S, (fwL l n S).length = N := fun S => by rw [fw_len, hN]
  have lls : ∀ S, (lsL l n S).length = N := fun S => by rw [ls_len, hN]
  have sh1 : ∀ k : Nat, (1 : Int) * 2 ^ (k : Int).toNat = ((2 ^ k : Nat) : Int) := fun k => by rw [Int.one_mul, Int.toNat_natCast]; norm_cast
  (refine q_seq (q_seq (q_region (ql_pure tabOk rfl rfl (q_nil (q_block ?_))))))
  refine q_loop (σ := Nat) (fun S => 1 ≤ S ∧ S ≤ N) (fun S => N - S) (fun S => [(4, .pointer (some ⟨b, 0, none⟩)), (6, .slice (some ⟨b6, 0, none⟩) N N), (7, .slice (some ⟨b7, 0, none⟩) N N), (8, .int .i64 S)]) (fun S => [.pt b6 (ints (fwL l n S)) 3, .pt b7 (ints (lsL l n S)) 3, .pt b (dkC l v l.ord) 122]) 1 (by omega) ⟨rfl, rfl, rfl, rfl, trivial⟩ (by repeat constructor) ?_
  rintro S ⟨hS1, hS⟩ K hK
  (refine q_seq (q_seq (q_region ?_)); (iterate 4 refine ql_pure tabOk rfl rfl ?_); refine q_nil ?_)
  refine q_if rfl (fun hc => ?_) (fun hc => ?_)
  · have hS2 : S < N := by omega
    have hSn : S < 2 ^ n := by rw [hN]; exact hS2
    clear hc
    (refine q_skip (q_seq (q_block (q_seq (q_region (ql_pure tabOk rfl rfl (ql_pure tabOk rfl rfl ?_)))))))
    have hiS : S < (fwL l n S).length := by rw [lfw]; exact hS2
    refine ql_index tabOk rfl rfl rfl rfl rfl (by omega) (by omega) ?_
    refine ql_storeI tabOk (S) rfl rfl rfl (by repeat constructor) (by first | rfl | omega | simp) hiS ?_
    rw [ls_same]
    (refine q_nil (q_seq (q_region ?_)); (iterate 4 refine ql_pure tabOk rfl rfl ?_); refine ql_loadBa tabOk rfl rfl rfl ?_; refine ql_pure tabOk rfl rfl (q_nil (q_block ?_)))
    rw [en]
    refine q_loop (σ := Nat) (fun j => j ≤ n) (fun j => n - j) (fun j => [(4, .pointer (some ⟨b, 0, none⟩)), (6, .slice (some ⟨b6, 0, none⟩) N N), (7, .slice (some ⟨b7, 0, none⟩) N N), (8, .int .i64 S), (50, .int .i64 n), (51, .int .i64 j)]) (fun j => [.pt b6 (ints ((fwL l n S).set S ((dpPart l n S j).1 : Nat))) 3, .pt b7 (ints ((lsL l n S).set S ((dpPart l n S j).2 : Nat))) 3, .pt b (dkC l v l.ord) 122]) 0 (by omega) ⟨rfl, rfl, rfl, rfl, rfl, rfl, trivial⟩ (by repeat constructor) ?_
    rintro j hj K2 hK2
    (refine q_seq (q_region (ql_pure tabOk rfl rfl (q_nil (q_seq ?_)))))
    refine q_if rfl (fun hc => ?_) (fun hc => ?_)
    · have hj2 : j < n := by omega
      clear hc
      have hpow : (2 : Nat) ^ j ≤ 128 := by have := Nat.pow_le_pow_right (show 0 < 2 by omega) (show j ≤ 7 by omega); simpa using this
      have hpb := dpPart_bd l n S j
      have hsu := dpPart_succ l n S j
      have hi1 : S < ((fwL l n S).set S ((dpPart l n S j).1 : Nat)).length := by rw [List.length_set]; exact hiS
      have hi2 : S < ((lsL l n S).set S ((dpPart l n S j).2 : Nat)).length := by rw [List.length_set, lls]; exact hS2
      obtain ⟨pk, hpk⟩ : ∃ p, p = 2 ^ j := ⟨_, rfl⟩
      have sh2 : (1 : Int) * 2 ^ (j : Int).toNat = (pk : Int) := by rw [sh1, hpk]
      rw [← hpk] at hpow
      (refine q_skip (q_seq (q_block (q_seq (q_region (ql_pure tabOk rfl rfl (ql_pure tabOk rfl rfl (q_nil (q_seq (q_region (ql_pure tabOk rfl rfl (ql_pure tabOk rfl rfl ?_))))))))))))
      refine ql_shl rfl rfl rfl (by omega) (by rw [sh2]; omega) (by rw [sh2]; omega) ?_
      rw [sh2]
      skip
      refine ql_delB (s := j) rfl rfl (by rw [hpk]) rfl (by omega) (by omega) ?_
      by_cases hb : S.testBit j = true
      · have hx := xor_lt hb
        have ed : delB S j = S ^^^ 2 ^ j := if_pos hb
        rw [ed]
        obtain ⟨T, hT⟩ : ∃ T, T = S ^^^ 2 ^ j := ⟨_, rfl⟩
        rw [← hT] at hx ⊢
        have hdT := dp_bd l n T
        have hst : dpPart l n S (j + 1) = if (dp l n T).1 + (agL l j T).length < (dpPart l n S j).1 then ((dp l n T).1 + (agL l j T).length, j) else dpPart l n S j := by
          rw [hsu]
          unfold dpStep
          rw [if_pos hb, ← hT]
        have hag : (agL l j T).length ≤ 40 := by
          have g1 := agI_len l j T (shL l)
          have g2 := shL_len l
          have g3 : agI l j T (shL l) = agL l j T := rfl
          rw [g3] at g1
          omega
        have hiT : T < ((fwL l n S).set S ((dpPart l n S j).1 : Nat)).length := by rw [List.length_set, lfw]; omega
        (refine ql_pure tabOk rfl rfl (q_nil (q_seq (q_region (ql_pure tabOk rfl rfl (ql_pure tabOk rfl rfl (ql_neqT tabOk rfl rfl rfl (by omega) (q_nil (q_cond_true rfl (q_seq ?_))))))))))
        refine q_draw _ [] (Sp.refl _) (by kernel_rfl) (by kernel_rfl) ?_
        (refine qf_pure tabOk rfl rfl rfl (qf_pure tabOk rfl rfl rfl ?_))
        refine qf_index tabOk rfl rfl rfl rfl rfl (by omega) (by omega) ?_
        refine qf_loadI tabOk (T) rfl rfl rfl (by repeat constructor) (by first | rfl | omega | simp) hiT ?_
        rw [fw_at hx hSn]
        ((iterate 3 refine qf_pure tabOk rfl rfl rfl ?_))
        refine qf_call (β := Value) tabOk [] _ M0 rfl rfl rfl rfl (Sp.refl _) (fun _ h => h.elim) (fun w' hs => against_ca w' b lo hi l v l.ord 122 (hs.blk (by repeat constructor)) (RdE.keep h hs.chg0) hl j T (by omega) (by omega)) ?_
        rintro _ u rfl
        dsimp only [List.cons_append, List.nil_append]
        refine qf_fact (fun w hs => hs.slice2 (v := u) (by repeat constructor)) ?_
        rintro ⟨ua, uc, rfl⟩
        (refine qf_pure tabOk rfl rfl rfl (qf_ar tabOk rfl rfl rfl rfl (by omega) (by omega) (qf_pure tabOk rfl rfl rfl (qf_nil (q_seq (q_region ?_))))); (iterate 3 refine ql_pure tabOk rfl rfl ?_))
        refine ql_index tabOk rfl rfl rfl rfl rfl (by omega) (by omega) ?_
        refine ql_loadI tabOk (S) rfl rfl rfl (by repeat constructor) (by first | rfl | omega | simp) hi1 ?_
        rw [fw_self]
        by_cases hlt : (dp l n T).1 + (agL l j T).length < (dpPart l n S j).1
        · rw [if_pos hlt] at hst
          (refine ql_lssT tabOk rfl rfl rfl (by omega) (q_nil (q_cond_true rfl (q_region ?_))); (iterate 6 refine ql_pure tabOk rfl rfl ?_))
          refine ql_index tabOk rfl rfl rfl rfl rfl (by omega) (by omega) ?_
          refine ql_storeI tabOk (S) rfl rfl rfl (by repeat constructor) (by first | rfl | omega | simp) hi1 ?_
          skip
          refine ql_index tabOk rfl rfl rfl rfl rfl (by omega) (by omega) ?_
          refine ql_storeI tabOk (S) rfl rfl rfl (by repeat constructor) (by first | rfl | omega | simp) hi2 ?_
          rw [List.set_set, List.set_set]
          (refine q_nil (q_blk (q_region (ql_ar tabOk rfl rfl rfl rfl (by omega) (by omega) (ql_pure tabOk rfl rfl (q_nil ?_))))))
          exact hK2 (j + 1) _ _ (by omega) (by omega) ⟨rfl, rfl, rfl, rfl, rfl, rfl, trivial⟩ (by rw [hst]; repeat constructor)
        · rw [if_neg hlt] at hst
          (refine ql_lssF tabOk rfl rfl rfl (by omega) (q_nil (q_cond_false rfl (q_skip (q_blk (q_region (ql_ar tabOk rfl rfl rfl rfl (by omega) (by omega) (ql_pure tabOk rfl rfl (q_nil ?_)))))))))
          exact hK2 (j + 1) _ _ (by omega) (by omega) ⟨rfl, rfl, rfl, rfl, rfl, rfl, trivial⟩ (by rw [hst]; repeat constructor)
      · have ed : delB S j = S := if_neg hb
        have hst : dpPart l n S (j + 1) = dpPart l n S j := by
          rw [hsu]
          unfold dpStep
          rw [if_neg hb]
        rw [ed]
        (refine ql_pure tabOk rfl rfl (q_nil (q_seq (q_region (ql_pure tabOk rfl rfl (ql_pure tabOk rfl rfl (ql_neqF tabOk rfl rfl rfl (by omega) (q_nil (q_cond_false rfl (q_skip (q_blk (q_region ?_))))))))))); refine ql_ar tabOk rfl rfl rfl rfl (by omega) (by omega) (ql_pure tabOk rfl rfl (q_nil ?_)))
        exact hK2 (j + 1) _ _ (by omega) (by omega) ⟨rfl, rfl, rfl, rfl, rfl, rfl, trivial⟩ (by rw [hst]; repeat constructor)
    · obtain rfl : n = j := by omega
      clear hc hK2 hj
      rw [dp_part (by omega), fw_next hSn, ls_next hSn]
      (refine q_exit _ rfl (q_blk (q_region (ql_pure tabOk rfl rfl (ql_ar tabOk rfl rfl rfl rfl (by omega) (by omega) (ql_pure tabOk rfl rfl (q_nil ?_)))))))
      exact hK (S + 1) _ _ (by omega) (by omega) ⟨rfl, rfl, rfl, rfl, trivial⟩ (by repeat constructor)
  · obtain rfl : N = S := by omega
    clear hc hK
    have hbf : bitL (List.range n) = N - 1 := by rw [bitL_all (n := n) (fun t => List.mem_range), hN]
    (refine q_exit _ rfl (q_seq (q_region (ql_pure tabOk rfl rfl (q_nil (q_seq (q_seq (q_region (ql_pure tabOk rfl rfl (ql_pure tabOk rfl rfl (ql_ar tabOk rfl rfl rfl rfl (by omega) (by omega) (ql_pure tabOk rfl rfl ?_))))))))))); refine q_nil (q_block ?_))
    refine q_conv (H' := [.ow (.slice none 0 0) 3 1 ([] : List Nat).length (ints (chI [])), .pt b7 (ints (lsL l n N)) 3, .pt b (dkC l v l.ord) 122]) (fun w' hs => (Sat.ownil hs 3 1).sp (by repeat constructor)) ?_
    refine q_loop (σ := List Nat × List Nat × Value) (fun z => z.1.Nodup ∧ (∀ s ∈ z.1, s < n) ∧ z.2.1 ++ btF l n z.1.length (bitL z.1) = Full) (fun z => z.1.length) (fun z => [(4, .pointer (some ⟨b, 0, none⟩)), (7, .slice (some ⟨b7, 0, none⟩) N N), (12, z.2.2), (13, .int .i64 (bitL z.1 : Nat))]) (fun z => [.ow z.2.2 3 1 z.2.1.length (ints (chI z.2.1)), .pt b7 (ints (lsL l n N)) 3, .pt b (dkC l v l.ord) 122]) (List.range n, [], .slice none 0 0) ⟨List.nodup_range, fun s h => List.mem_range.1 h, by rw [List.length_range, hbf]; exact hF⟩ ⟨rfl, rfl, rfl, by rw [hbf]; exact congrArg (fun z => some (Value.int IntKind.i64 z)) (by omega), trivial⟩ (by repeat constructor) ?_
    rintro ⟨R, out, u⟩ ⟨hR1, hR2, hR3⟩ K hK
    dsimp only at hR1 hR2 hR3 hK ⊢
    have hbR : bitL R < N := by
      rw [← hN]
      refine Nat.lt_pow_two_of_testBit _ fun i hi => ?_
      rw [bit_mem]
      exact decide_eq_false fun hm => by have := hR2 i hm; omega
    have hol : out.length ≤ 40 := by
      have h9 := hbt.1
      rw [← hR3, List.length_append] at h9
      omega
    (refine q_seq (q_seq (q_region (ql_pure tabOk rfl rfl (ql_pure tabOk rfl rfl (q_nil ?_))))))
    refine q_if rfl (fun hc => ?_) (fun hc => ?_)
    · have h0 : bitL R ≠ 0 := by omega
      clear hc
      obtain ⟨g1, g2, R', g3, g4, g5, g6, g7⟩ := bt_step (l := l) (n := n) h40 hR1 hR2 h0
      obtain ⟨S, hSR⟩ : ∃ S, S = bitL R := ⟨_, rfl⟩
      rw [← hSR] at g1 g2 g5 g7 hbR hR3 ⊢
      obtain ⟨s, hs'⟩ : ∃ s, s = (dp l n S).2 := ⟨_, rfl⟩
      have hpow : (2 : Nat) ^ s ≤ 128 := by have := Nat.pow_le_pow_right (show 0 < 2 by omega) (show s ≤ 7 by omega); simpa using this
      rw [← hs'] at g1 g2 g5 g7
      have hiS : S < (lsL l n N).length := by rw [lls]; exact hbR
      have hxl := xor_lt g1
      rw [g5] at hxl
      (refine q_skip (q_block (q_seq (q_region (ql_pure tabOk rfl rfl (ql_pure tabOk rfl rfl ?_))))))
      refine ql_index tabOk rfl rfl rfl rfl rfl (by omega) (by omega) ?_
      refine ql_loadI tabOk (S) rfl rfl rfl (by repeat constructor) (by first | rfl | omega | simp) hiS ?_
      rw [ls_at hbR, ← hs']
      obtain ⟨pk, hpk⟩ : ∃ p, p = 2 ^ s := ⟨_, rfl⟩
      have sh2 : (1 : Int) * 2 ^ (s : Int).toNat = (pk : Int) := by rw [sh1, hpk]
      rw [← hpk] at hpow
      (refine ql_pure tabOk rfl rfl (q_nil (q_seq (q_region (ql_pure tabOk rfl rfl (ql_pure tabOk rfl rfl ?_))))))
      refine ql_shl rfl rfl rfl (by omega) (by rw [sh2]; omega) (by rw [sh2]; omega) ?_
      rw [sh2]
      skip
      refine ql_delB (s := s) rfl rfl (by rw [hpk]) rfl (by omega) (by omega) ?_
      rw [show delB S s = bitL R' from (if_pos g1).trans g5]
      have hag : (agL l s (bitL R')).length ≤ 40 := by
        have g1 := agI_len l s (bitL R') (shL l)
        have g2 := shL_len l
        have g3 : agI l s (bitL R') (shL l) = agL l s (bitL R') := rfl
        rw [g3] at g1
        omega
      (refine ql_pure tabOk rfl rfl (q_nil (q_region ?_)); (iterate 4 refine ql_pure tabOk rfl rfl ?_))
      refine ql_call (β := Value) tabOk [] _ M0 rfl rfl rfl rfl (Sp.refl _) (fun _ h => h.elim) (fun w' hs => against_ca w' b lo hi l v l.ord 122 (hs.blk (by repeat constructor)) (RdE.keep h hs.chg0) hl s (bitL R') (by omega) (by omega)) ?_
      rintro _ u2 rfl
      dsimp only [List.cons_append, List.nil_append]
      skip
      refine ql_append (q := (agL l s (bitL R')).length) (news := ints (chI (agL l s (bitL R')))) slI rfl rfl rfl (fun v' => by repeat constructor) (fun w' hs => ⟨_, _, by have := (own_rdI (t := 3) (hs.mem (c := .ow u2 3 1 (agL l s (bitL R')).length (ints (chI (agL l s (bitL R'))))) (by repeat constructor)) (by rw [chI_len])).row; rw [chI_len] at this; exact this⟩) (by simp [ints, oneV]) (by omega) (by omega) (fun u' => ?_)
      (refine ql_pure tabOk rfl rfl (q_nil (q_blk ?_)))
      exact hK (R', out ++ agL l s (bitL R'), u') _ _ ⟨g3, g4, by rw [List.append_assoc, ← g7]; exact hR3⟩ (by dsimp only; omega) ⟨rfl, rfl, rfl, rfl, trivial⟩ (by dsimp only; rw [List.length_append, show ints (chI (out ++ agL l s (bitL R'))) = ints (chI out) ++ ints (chI (agL l s (bitL R'))) from by simp [ints, chI]]; repeat constructor)
    · have h0 : R = [] := bt_zero (by omega)
      clear hc hK
      subst h0
      have ho : out = Full := by simpa [btF] using hR3
      subst ho
      refine q_fact (fun w hs => hs.slice2 (v := u) (by repeat constructor)) ?_
      rintro ⟨ua, uc, rfl⟩
      (refine q_exit _ rfl (q_seq (q_region (ql_pure tabOk rfl rfl ?_))))
      by_cases hz : out.length = 0
      · obtain rfl : out = [] := List.length_eq_zero_iff.1 hz
        refine ql_callv (val := .tuple #[]) tabOk rfl rfl rfl rfl (fun w hs => ?_) ?_; exact sort0_ca w ua uc
        (refine q_nil (q_seq (q_region ?_)); (iterate 3 refine ql_pure tabOk rfl rfl ?_); refine q_nil (q_ret ?_))
        refine q_fin tabOk rfl (by repeat constructor) fun w hs => ?_
        exact ⟨(.slice ua 0 uc, []), ⟨rfl, hdp [] (.refl _) .nil⟩, hs.sp (by repeat constructor)⟩
      · refine ql_fact (fun w hs => hs.ownSome (v := .slice ua out.length uc) (by repeat constructor) (by omega)) ?_
        rintro ⟨g, gc, e⟩
        cases e
        have h9 := hbt.1
        have hcl : (chI out).length = out.length := chI_len _
        refine ql_call (β := List Int) (ψ := fun L x => x = .tuple #[] ∧ L.Perm (chI out) ∧ L.Pairwise (· ≤ ·)) (L' := fun L => [.ow (.slice (some ⟨g, 0, none⟩) out.length uc) 3 1 out.length (ints L)]) tabOk [.ow (.slice (some ⟨g, 0, none⟩) out.length uc) 3 1 out.length (ints (chI out))] _ (fun x => x = g) rfl rfl rfl rfl (Sp.cons (by repeat constructor) (Sp.refl _)) (fun x hx => ⟨_, .head _, by subst hx; rfl⟩) (fun w' hs => by have := sort_ca w' g uc (chI out) (by omega) (by rw [hcl]; exact hs.all _ (.head _)); rw [hcl] at this; exact this) ?_
        rintro L _ ⟨rfl, g1, g2⟩
        dsimp only [List.cons_append, List.nil_append]
        have hLt : chI (L.map Int.toNat) = L := by
          unfold chI
          rw [List.map_map]
          refine (List.map_congr_left fun x hx => ?_).trans (List.map_id _)
          obtain ⟨y, _, rfl⟩ := List.mem_map.1 (g1.mem_iff.1 hx)
          rfl
        have hLl : (L.map Int.toNat).length = out.length := by rw [List.length_map, g1.length_eq, hcl]
        have hLp : (L.map Int.toNat).Perm out := by
          have := g1.map Int.toNat
          rwa [show (chI out).map Int.toNat = out from by unfold chI; rw [List.map_map]; exact List.map_id'' (fun i => by simp) _] at this
        have hLs : (L.map Int.toNat).Pairwise (· ≤ ·) := List.pairwise_map.2 (g2.imp fun h => by omega)
        (refine q_nil (q_seq (q_region ?_)); (iterate 3 refine ql_pure tabOk rfl rfl ?_); refine q_nil (q_ret ?_))
        refine q_fin tabOk rfl (by repeat constructor) fun w hs => ?_
        exact ⟨(.slice (some ⟨g, 0, none⟩) out.length uc, L.map Int.toNat), ⟨rfl, hdp _ hLp hLs⟩, by rw [hLt, hLl]; exact hs.sp (by repeat constructor)⟩
end Go.Proofs.YtcmpdmobmbbplaaGreat

/- The plain law of SkiRanked: chains, and what is to be dropped, if runs do not contradict each other. -/
namespace Go.Proofs.YtcmpdmobmbbplaaGreat
set_option maxRecDepth 4000
open Go Go.Eng
theorem two_ok' {l : Lb} (hl : l.Ok) {a b : Nat} (ha : a < l.n) (hb : b < l.n) : twoV l a b = 0 := by
  have hs := hl.s0
  have : (l.n : Int) = l.skis := by unfold Lb.n; omega
  exact two_iff.2 ⟨hl, inB_iff.2 (by omega), inB_iff.2 (by omega)⟩
end Go.Proofs.YtcmpdmobmbbplaaGreat

/- Walks of the reference: the error of a lab, what a run shows. -/
namespace Go.Proofs.YtcmpdmobmbbplaaGreat
set_option maxRecDepth 4000
open Go Go.Eng

end Go.Proofs.YtcmpdmobmbbplaaGreat

/- Walks of the reference: two skis; which skis are faster. -/
namespace Go.Proofs.YtcmpdmobmbbplaaGreat
set_option maxRecDepth 4000
open Go Go.Eng

end Go.Proofs.YtcmpdmobmbbplaaGreat

/- Walks of the reference: whether runs contradict each other; the length of the shortest chain. -/
namespace Go.Proofs.YtcmpdmobmbbplaaGreat
set_option maxRecDepth 4000
open Go Go.Eng

end Go.Proofs.YtcmpdmobmbbplaaGreat

/- Walks of the reference: what a chain shows. -/
namespace Go.Proofs.YtcmpdmobmbbplaaGreat
set_option maxRecDepth 4000
open Go Go.Eng

end Go.Proofs.YtcmpdmobmbbplaaGreat

/- Walks: a lab of the reference; labs compared. -/
namespace Go.Proofs.YtcmpdmobmbbplaaGreat
set_option maxRecDepth 4000
open Go Go.Eng

end Go.Proofs.YtcmpdmobmbbplaaGreat

/- The walk of SkiChains. -/
namespace Go.Proofs.YtcmpdmobmbbplaaGreat
set_option maxRecDepth 4000
open Go Go.Eng

/-- All pairs that Faster returns. -/
def fasA (l : Lb) : List (Int × Int) := if agreedV l = 0 then fasL l.ord l.n else []
def tE5_d1a7a2f : OT := chainT [8, 9, 10] (.nil)
def tE5_4827765 : OT := chainT [7] (tE5_d1a7a2f)
def tE5_cadd481 : OT := chainT [6] (tE5_d1a7a2f)
def tE5_2bd7652 : OT := .alt (chainT [6] (tE5_4827765)) (chainT [7] (tE5_cadd481))
def tE5_69d16bf : OT := chainT [4, 5] (tE5_d1a7a2f)
def tE5_cad8bc1 : OT := .alt (chainT [4, 5] (tE5_4827765)) (chainT [7] (tE5_69d16bf))
def tE5_db7f0e3 : OT := .alt (chainT [4, 5] (tE5_cadd481)) (chainT [6] (tE5_69d16bf))
def tE5_c7f8ae7 : OT := .alt (chainT [4, 5] (tE5_2bd7652)) (.alt (chainT [6] (tE5_cad8bc1)) (chainT [7] (tE5_db7f0e3)))
def tE5_8ca2305 : OT := chainT [2, 3] (tE5_69d16bf)
def tE5_9e62ff0 : OT := .alt (chainT [2, 3] (tE5_cad8bc1)) (chainT [7] (tE5_8ca2305))
def tE5_62186b2 : OT := .alt (chainT [2, 3] (tE5_db7f0e3)) (chainT [6] (tE5_8ca2305))
def tE5_ed18e2b : OT := .alt (chainT [2, 3] (tE5_c7f8ae7)) (.alt (chainT [6] (tE5_9e62ff0)) (chainT [7] (tE5_62186b2)))
def tE5_f770ffc : OT := chainT [0, 1] (tE5_8ca2305)
def tE5_bb7b8ba : OT := .alt (chainT [0, 1] (tE5_9e62ff0)) (chainT [7] (tE5_f770ffc))
def tE5_02d9108 : OT := .alt (chainT [0, 1] (tE5_62186b2)) (chainT [6] (tE5_f770ffc))
def tE5_cb8a7af : OT := .alt (chainT [0, 1] (tE5_ed18e2b)) (.alt (chainT [6] (tE5_bb7b8ba)) (chainT [7] (tE5_02d9108)))
end Go.Proofs.YtcmpdmobmbbplaaGreat

/- Walks: whether places are known; the first order that fits; where a number is. -/
namespace Go.Proofs.YtcmpdmobmbbplaaGreat
set_option maxRecDepth 4000
open Go Go.Eng

/-- Where a number is in a list, or -1. -/
def idxN (L : List Nat) (x : Nat) : Int := if x ∈ L then (L.idxOf x : Int) else -1
end Go.Proofs.YtcmpdmobmbbplaaGreat

/- Walks: whether a number is in a list; runs without some of them. -/
namespace Go.Proofs.YtcmpdmobmbbplaaGreat
set_option maxRecDepth 4000
open Go Go.Eng
def woR (l : Lb) (D : List Nat) (k : Nat) : List Rn := ((List.range k).filter fun i => !decide (i ∈ D)).map fun i => l.runs.getD i ⟨0, 0, 0⟩
end Go.Proofs.YtcmpdmobmbbplaaGreat

/- Parts of lists. -/
namespace Go.Proofs.YtcmpdmobmbbplaaGreat
set_option maxRecDepth 4000
open Go Go.Eng
/-- Where a part begins. -/
def frA (a : Option Addr) (c k sz : Nat) : Option Addr := if c = k then a else a.map (·.add (k * sz))
section
variable {P : Program} {ro : Cx} {n : Nat} {F : Fin} {w0 : World} {M : Nat → Prop} {ks : List It} {ops : Array Oper} {rest : List Oper} {e : Env} {H Hq : List Ck}
end
end Go.Proofs.YtcmpdmobmbbplaaGreat

/- Walk: numbers are shuffled. -/
namespace Go.Proofs.YtcmpdmobmbbplaaGreat
set_option maxRecDepth 4000
open Go Go.Eng
theorem swap_perm {l : List Nat} {i j : Nat} (hi : i < l.length) (hj : j < l.length) : ((l.set i l[j]).set j l[i]).Perm l := List.set_set_perm hi hj
theorem chI_at {l : List Nat} {i : Nat} (h : i < l.length) (h2 : i < (chI l).length) : (chI l)[i] = ((l[i] : Nat) : Int) := by simp [chI]
set_option maxHeartbeats 4000000 in
theorem shuf_ca (m : Nat) (hm2 : m ≤ 1000) (K : Nat) (hK : K < 1000000) (w : World) (b lo hi : Nat) (bs : Value) (hby : DkB w lo hi bs) (hlh : hi ≤ b) (hd : DkS w b bs K) :
    Ca Tryz.prog 24 [.pointer (some ⟨b, 0, none⟩), .int .i64 m] w fun v w' => ∃ x : Value × List Nat, (v = x.1 ∧ x.2.Perm (List.range m)) ∧ Sat w (fun x => x = b) [.ow x.1 3 1 m (ints (chI x.2)), dkP bs b (K + m)] w' := by
  refine q_of (dk_sat hd) Tryz.func24 rfl (by simp [Tryz.ntmps24]) ?_
  (refine q_seq (q_region (ql_pure tabOk rfl rfl (q_nil (q_seq (q_region (ql_pure tabOk rfl rfl (q_nil (q_seq (q_seq (q_region ?_)))))))))); (iterate 3 refine ql_pure tabOk rfl rfl ?_); refine q_nil (q_block ?_))
  refine q_conv (H' := [.ow (.slice none 0 0) 3 1 0 (ints (chI (List.range 0))), dkP bs b K]) (fun w' hs => Sat.ownil (hs.sp (by repeat constructor)) _ _) ?_
  refine q_loop (σ := Nat × Value) (fun s => s.1 ≤ m) (fun s => m - s.1) (fun s => [(0, .pointer (some ⟨b, 0, none⟩)), (5, s.2), (10, .int .i64 m), (11, .int .i64 s.1)])
    (fun s => [.ow s.2 3 1 s.1 (ints (chI (List.range s.1))), dkP bs b K]) (0, .slice none 0 0) (by simp) ⟨rfl, rfl, lookI rfl (by omega), rfl, trivial⟩ (Sp.refl _) ?_
  rintro ⟨k, v⟩ hk K1 hK1
  simp only at hk
  dsimp only
  (refine q_seq (q_region (ql_pure tabOk rfl rfl (q_nil (q_seq ?_)))))
  refine q_if rfl (fun hc => ?_) (fun hc => ?_)
  · have hk2 : k < m := by omega
    clear hc
    (refine q_skip (q_seq (q_block (q_seq (q_region (ql_pure tabOk rfl rfl (ql_pure tabOk rfl rfl (q_nil (q_region (ql_pure tabOk rfl rfl (ql_pure tabOk rfl rfl ?_)))))))))))
    refine ql_mkS 3 [.int .i64 (k : Int)] rfl (by kernel_rfl) rfl (fun bn => ?_)
    refine ql_append (q := 1) slI rfl rfl rfl (fun v' => by repeat constructor) (fun w' hs => ⟨_, _, Blk.rdN (hs.blk (b := bn) (by repeat constructor)) rfl⟩) (by simp [oneV]) (by omega) (by omega) (fun v' => ?_)
    (refine ql_pure tabOk rfl rfl (q_nil (q_blk (q_region (ql_ar tabOk rfl rfl rfl rfl (by omega) (by omega) (ql_pure tabOk rfl rfl (q_nil ?_)))))))
    exact hK1 (k + 1, v') _ _ (by simp only; omega) (by simp only; omega) ⟨rfl, rfl, rfl, rfl, trivial⟩ (by dsimp only; rw [List.range_succ, chI_add]; repeat constructor)
  obtain rfl : k = m := by omega
  clear hc hK1
  refine q_fact (fun w hs => hs.slice2 (v := v) (by repeat constructor)) ?_
  rintro ⟨va, vc, rfl⟩
  by_cases hk0 : k = 0
  · subst hk0
    (refine q_exit _ rfl (q_seq (q_seq (q_region (ql_pure tabOk rfl rfl (ql_pure tabOk rfl rfl (ql_ar tabOk rfl rfl rfl rfl (by omega) (by omega) (ql_pure tabOk rfl rfl (q_nil (q_block ?_))))))))))
    refine q_loop (σ := Unit) (fun _ => True) (fun _ => 0) (fun _ => [(5, .slice va 0 vc), (7, .int .i64 (-1))]) (fun _ => [.ow (.slice va 0 vc) 3 1 0 (ints (chI (List.range 0))), dkP bs b K]) () trivial ⟨rfl, rfl, trivial⟩ (by repeat constructor) ?_
    intro _ _ K2 hK2
    (refine q_seq (q_seq (q_region (ql_pure tabOk rfl rfl (ql_gtrF tabOk rfl rfl rfl (by omega) (q_nil (q_cond_false rfl (q_exit _ rfl (q_seq (q_region (ql_pure tabOk rfl rfl (ql_pure tabOk rfl rfl ?_))))))))))); refine q_nil (q_ret ?_))
    refine q_fin tabOk rfl (by repeat constructor) fun w hs => ?_
    exact ⟨(.slice va 0 vc, []), ⟨rfl, .refl _⟩, hs.sp (by repeat constructor)⟩
  refine q_fact (fun w hs => hs.ownSome (v := .slice va k vc) (by repeat constructor) (by omega)) ?_
  rintro ⟨g, gc, ev⟩
  cases ev
  (refine q_exit _ rfl (q_seq (q_seq (q_region (ql_pure tabOk rfl rfl (ql_pure tabOk rfl rfl (ql_ar tabOk rfl rfl rfl rfl (by omega) (by omega) (ql_pure tabOk rfl rfl (q_nil (q_block ?_))))))))))
  refine q_loop (σ := Nat × List Nat) (fun s => s.1 ≤ k - 1 ∧ s.2.Perm (List.range k)) (fun s => s.1) (fun s => [(0, .pointer (some ⟨b, 0, none⟩)), (5, .slice (some ⟨g, 0, none⟩) k vc), (7, .int .i64 s.1)])
    (fun s => [.ow (.slice (some ⟨g, 0, none⟩) k vc) 3 1 k (ints (chI s.2)), dkP bs b (K + (k - 1 - s.1))]) (k - 1, List.range k) ⟨Nat.le_refl _, .refl _⟩ ⟨rfl, rfl, lookI rfl (by omega), trivial⟩ (by rw [show K + (k - 1 - (k - 1)) = K by omega]; repeat constructor) ?_
  rintro ⟨i, l⟩ ⟨hi1, hp⟩ K2 hK2
  simp only at hi1 hp
  dsimp only
  have hl : l.length = k := by rw [hp.length_eq, List.length_range]
  (refine q_seq (q_seq (q_region (ql_pure tabOk rfl rfl (ql_pure tabOk rfl rfl (q_nil ?_))))))
  refine q_if rfl (fun hc => ?_) (fun hc => ?_)
  · have hi2 : 0 < i := by omega
    clear hc
    (refine q_skip (q_seq (q_block (q_seq (q_region (ql_pure tabOk rfl rfl (ql_pure tabOk rfl rfl (ql_ar tabOk rfl rfl rfl rfl (by omega) (by omega) ?_))))))))
    refine ql_call (β := Int) (ψ := fun y v => v = .int .i64 y ∧ 0 ≤ y ∧ (y < (i : Int) + 1 ∨ y = 0)) (L' := fun _ => [dkP bs b (K + (k - 1 - i) + 1)]) tabOk [dkP bs b (K + (k - 1 - i))] [.ow (.slice (some ⟨g, 0, none⟩) k vc) 3 1 k (ints (chI l))] (fun x => x = b) rfl rfl rfl rfl (by repeat constructor) (fun x hx => ⟨_, .head _, hx⟩) (fun w' hs => drawP_ca ((i : Int) + 1) (K + (k - 1 - i)) (by omega) w' b lo hi bs (hby.keepP hlh hs.chg) hlh (hs.all _ (.head _))) ?_
    rintro y _ ⟨rfl, hy0, hy1⟩
    obtain ⟨j, rfl⟩ := Int.eq_ofNat_of_zero_le hy0
    have h1 : i < l.length := by omega
    have h2 : j < l.length := by omega
    have g1 : i < (chI l).length := by rw [chI_len]; exact h1
    have g2 : j < (chI l).length := by rw [chI_len]; exact h2
    have e : ((chI l).set i (chI l)[j]).set j (chI l)[i] = chI ((l.set i l[j]).set j l[i]) := by simp [chI, List.map_set]
    have hcl : k = (chI l).length := by rw [chI_len]; omega
    rw [show K + (k - 1 - i) + 1 = K + (k - 1 - (i - 1)) by omega]
    (refine ql_pure tabOk rfl rfl (q_nil ?_))
    refine q_drawB [true, true, false, false, true, true, true, true, true, true, true, true, false, false, false, false] [dkP bs b (K + (k - 1 - (i - 1)))] [.ow (.slice (some ⟨g, 0, none⟩) k vc) 3 1 k (ints (chI l))] (by repeat constructor) (by kernel_rfl) (by kernel_rfl) (by kernel_rfl) ?_
    refine qb_T 2 rfl rfl (Sp.refl _) fun K1 hK1 => ?_
    (refine qf_pure tabOk rfl rfl rfl (qf_pure tabOk rfl rfl rfl (qf_nil ?_)))
    refine hK1 _ _ (qb_F 2 [.ow (.slice (some ⟨g, 0, none⟩) k vc) 3 1 k (ints (chI l))] rfl rfl (by repeat constructor) fun K1 hK1 => ?_)
    (refine qf_pure tabOk rfl rfl rfl (qf_pure tabOk rfl rfl rfl (qf_nil ?_)))
    refine hK1 _ _ (qb_T 8 rfl rfl (by repeat constructor) fun K1 hK1 => ?_)
    (refine qf_pure tabOk rfl rfl rfl (qf_pure tabOk rfl rfl rfl ?_))
    (refine qf_index tabOk rfl rfl rfl rfl rfl (by omega) (by omega) ?_; refine qf_load1 tabOk rfl rfl rfl (fun w hs => RdI.at (hs.rdI (l := chI l) (t := 3) (n := k) (by repeat constructor) hcl) j g2) ?_)
    (refine qf_pure tabOk rfl rfl rfl (qf_pure tabOk rfl rfl rfl ?_))
    (refine qf_index tabOk rfl rfl rfl rfl rfl (by omega) (by omega) ?_; refine qf_load1 tabOk rfl rfl rfl (fun w hs => RdI.at (hs.rdI (l := chI l) (t := 3) (n := k) (by repeat constructor) hcl) i g1) ?_)
    (refine qf_nil ?_)
    refine hK1 _ _ (qb_F 4 [.ow (.slice (some ⟨g, 0, none⟩) k vc) 3 1 k (ints (chI l))] rfl rfl (by repeat constructor) fun K1 hK1 => ?_)
    skip
    refine qf_index tabOk rfl rfl rfl rfl rfl (by omega) (by omega) ?_
    refine qf_storeW tabOk i rfl rfl rfl rfl (by repeat constructor) (by omega) (by simpa using g1) ?_
    skip
    refine qf_index tabOk rfl rfl rfl rfl rfl (by omega) (by omega) ?_
    refine qf_storeW tabOk j rfl rfl rfl rfl (by repeat constructor) (by omega) (by simpa using g2) ?_
    rw [← List.map_set, ← List.map_set, e]
    (refine qf_nil ?_)
    refine hK1 _ _ (qb_nil ?_)
    (refine q_blk (q_region (ql_pure tabOk rfl rfl (ql_ar tabOk rfl rfl rfl rfl (by omega) (by omega) (ql_pure tabOk rfl rfl (q_nil ?_))))))
    exact hK2 (i - 1, _) _ _ ⟨by simp only; omega, (swap_perm h1 h2).trans hp⟩ (by simp only; omega) ⟨rfl, rfl, lookI rfl (by omega), trivial⟩ (by repeat constructor)
  · obtain rfl : i = 0 := by omega
    (refine q_exit _ rfl (q_seq (q_region (ql_pure tabOk rfl rfl (ql_pure tabOk rfl rfl (q_nil (q_ret ?_)))))))
    refine q_fin tabOk rfl (by repeat constructor) fun w hs => ?_
    exact ⟨(.slice (some ⟨g, 0, none⟩) k vc, l), ⟨rfl, hp⟩, (Sat.dk (K := K + (k - 1 - 0)) (K' := K + k) (hs.sp (H' := [dkP bs b (K + (k - 1 - 0)), .ow (.slice (some ⟨g, 0, none⟩) k vc) 3 1 k (ints (chI l))]) (by repeat constructor)) (by omega)).sp (by repeat constructor)⟩
end Go.Proofs.YtcmpdmobmbbplaaGreat

/- Walks: what a run is worth; the next run. -/
namespace Go.Proofs.YtcmpdmobmbbplaaGreat
set_option maxRecDepth 4000
open Go Go.Eng

/-- What a run of two skis is worth. -/
def worthV (n k o a b : Nat) : Nat := if (fa o a b || fa o b a) = true then 1 + planO n k o else worthO n k o a b
/-- The pairs as they are asked. -/
def nxPairs (b a : Nat) : List (Nat × Nat) := ((List.range b).flatMap fun y => (List.range y).map fun x => (x, y)) ++ (List.range a).map fun x => (x, b)
/-- The first pair that is worth the fewest. -/
def nxV (n k o : Nat) (L : List (Nat × Nat)) : Option (Nat × Nat) := L.find? fun p => decide (worthV n k o p.1 p.2 = planO n k o)
def nxC (p : Option (Nat × Nat)) : List Value := match p with | some p => [.int .i64 p.1, .int .i64 p.2, .int .i64 0] | none => [.int .i64 0, .int .i64 0, .int .i64 0]
end Go.Proofs.YtcmpdmobmbbplaaGreat

/- Walks: the skis, the fastest one first. -/
namespace Go.Proofs.YtcmpdmobmbbplaaGreat
set_option maxRecDepth 4000
open Go Go.Eng

end Go.Proofs.YtcmpdmobmbbplaaGreat

/- The plain law of SkiPlanned: following the plan; parts of lists. -/
namespace Go.Proofs.YtcmpdmobmbbplaaGreat
set_option maxRecDepth 4000
open Go Go.Eng
/-- What the skis that are run one after the other show. -/
structure Goes (l : Lb) (N k : Nat) (L : List Nat) (r : Nat) (m : Lb) : Prop where
  ok : m.Ok
  sk : m.skis = l.skis
  err : m.err = l.err
  len : m.runs.length ≤ l.runs.length + r
  lin : LinO m.ord l.n L
  few : planO l.n k m.ord + r ≤ N
theorem Goes.n {l m : Lb} {N k r : Nat} {L : List Nat} (h : Goes l N k L r m) : m.n = l.n := by unfold Lb.n; rw [h.sk]
theorem Goes.noC {l m : Lb} {N k r : Nat} {L : List Nat} (h : Goes l N k L r m) (hl : l.Ok) : NoC m.ord m.n := by rw [h.n]; exact h.lin.noC hl.n8
theorem Goes.next {l m : Lb} {N k r : Nat} {L : List Nat} (h : Goes l N k L r m) (hl : l.Ok) (hr : l.runs.length + r < 40) {x y : Nat} (hx : x < l.n) (hy : y < l.n) (hne : x ≠ y) (hi : L.idxOf x < L.idxOf y) (hp : planO l.n k (withO m.ord x y) + 1 ≤ planO l.n k m.ord) : Goes l N k L (r + 1) (m.add ⟨x, y, m.err + 1⟩) := by
  have h2 := h.len
  have h3 := h.few
  have ho := furt_ord h.ok x y
  refine ⟨furt_ok h.ok (by rw [h.n]; exact hx) (by rw [h.n]; exact hy) hne (by omega), h.sk, h.err, ?_, ?_, ?_⟩
  · show (m.runs ++ [_]).length ≤ _
    rw [List.length_append, List.length_singleton]
    omega
  · rw [ho]
    exact h.lin.with hl.n8 hx hy hi
  · rw [ho]
    omega
/-- Where a part begins. -/
def toA (a : Option Addr) (c : Nat) : Option Addr := if c = 0 then a else a.map (·.add 0)
section
variable {P : Program} {ro : Cx} {n : Nat} {F : Fin} {w0 : World} {M : Nat → Prop} {ks : List It} {ops : Array Oper} {rest : List Oper} {e : Env} {H Hq : List Ck}
end
end Go.Proofs.YtcmpdmobmbbplaaGreat

/- Walks: the bag. -/
namespace Go.Proofs.YtcmpdmobmbbplaaGreat
set_option maxRecDepth 4000
open Go Go.Eng

abbrev bagV (b2 b6 b8 : Nat) : Value := .func (.func 149) #[] #[.pointer (some ⟨b2, 0, none⟩), .pointer (some ⟨b6, 0, none⟩), .pointer (some ⟨b8, 0, none⟩)]
/-- The variables of the search for a bag. -/
structure BagE (w : World) (b2 b6 b8 : Nat) (l R : List (List Int)) (most : Int) : Prop where
  h2 : ∃ t a c lo hi, Blk w b2 [.slice a l.length c] t ∧ RdII w lo hi (.slice a l.length c) l
  h6 : ∃ t a c lo hi, Blk w b6 [.slice a R.length c] t ∧ RdW w lo hi (.slice a R.length c) most R
  h8 : ∃ t, Blk w b8 [bagV b2 b6 b8] t
theorem BagE.keep {w w' : World} {b2 b6 b8 : Nat} {l R : List (List Int)} {most : Int} (h : BagE w b2 b6 b8 l R most) (c : Chg [] w w') : BagE w' b2 b6 b8 l R most := by
  obtain ⟨t, a, c2, lo, hi, h1, h2⟩ := h.h2
  obtain ⟨t', a', c2', lo', hi', h1', h2'⟩ := h.h6
  obtain ⟨t8, h8⟩ := h.h8
  exact ⟨⟨t, a, c2, lo, hi, h1.keep c, RdII.keep h2 c⟩, ⟨t', a', c2', lo', hi', h1'.keep c, h2'.keep c⟩, ⟨t8, h8.keep c⟩⟩
def tK31_cfbf5ab : OT := .alt (chainT [1, 2, 3, 4, 5, 0, 6, 7, 8, 9] (.nil)) (chainT [3, 4, 1, 2, 5, 0, 6, 7, 8, 9] (.nil))
end Go.Proofs.YtcmpdmobmbbplaaGreat

/- The plain law of SkiBagged: breaks that are tried. -/
namespace Go.Proofs.YtcmpdmobmbbplaaGreat
set_option maxRecDepth 4000

theorem Inc.up {m : Nat} {ch : List Nat} (h : Inc m ch) : Inc (m + 1) ch := ⟨h.1, fun x hx => by have := h.2 x hx; omega⟩
theorem Inc.push {m : Nat} {ch : List Nat} (h : Inc m ch) : Inc (m + 1) (ch ++ [m]) := by
  refine ⟨List.pairwise_append.2 ⟨h.1, List.pairwise_singleton _ _, fun x hx y hy => ?_⟩, fun x hx => ?_⟩
  · rw [List.mem_singleton.1 hy]
    exact h.2 x hx
  · rcases List.mem_append.1 hx with h1 | h1
    · have := h.2 x h1; omega
    · rw [List.mem_singleton.1 h1]; omega
end Go.Proofs.YtcmpdmobmbbplaaGreat

/- Walks: a coin; whether waxes have a good one for each snow. -/
namespace Go.Proofs.YtcmpdmobmbbplaaGreat
set_option maxRecDepth 4000
open Go Go.Eng

theorem coin_ca (n : Int) (hn : 1 ≤ n) (K : Nat) (hK : K < 1000000) (w : World) (b lo hi : Nat) (bs : Value) (hby : DkB w lo hi bs) (hlh : hi ≤ b) (hd : DkS w b bs K) :
    Ca Tryz.prog 25 [.pointer (some ⟨b, 0, none⟩), .int .i64 n] w fun v w' => ∃ x : Bool, v = .bool x ∧ Sat w (fun x => x = b) [dkP bs b (K + 1)] w' := by
  refine q_of (dk_sat hd) Tryz.func25 rfl (by simp [Tryz.ntmps25]) ?_
  (refine q_seq (q_region (ql_pure tabOk rfl rfl (q_nil (q_seq (q_region (ql_pure tabOk rfl rfl (ql_pure tabOk rfl rfl ?_))))))))
  refine ql_call (β := Int) (ψ := fun zq v => v = .int .i64 zq ∧ 0 ≤ zq ∧ (zq < n ∨ zq = 0)) (L' := fun _ => [dkP bs b (K + 1)]) tabOk [dkP bs b (K)] _ (fun x => x = b) rfl rfl rfl rfl (Sp.cons (by repeat constructor) (Sp.refl _)) (fun x hx => ⟨_, .head _, hx⟩) (fun w' hs => drawP_ca (n) (K) (by omega) w' b lo hi bs (hby.keepP hlh hs.chg) hlh (hs.all _ (.head _))) ?_; rintro x _ ⟨rfl, hx⟩
  (refine ql_pure tabOk rfl rfl (ql_pure tabOk rfl rfl (q_nil (q_ret ?_))))
  refine q_fin tabOk rfl (by repeat constructor) fun w hs => ?_
  exact ⟨_, rfl, hs⟩
theorem coin0 {w0 w : World} {R : List Ck} {b K : Nat} {bs : Value} {n : Int} (hby : DkB w0 0 w0.heap.size bs) (hs : Sat w0 M0 (dkP bs b K :: R) w) (hn : 1 ≤ n) (hK : K < 1000000) :
    Ca Tryz.prog 25 [.pointer (some ⟨b, 0, none⟩), .int .i64 n] w fun v w' => ∃ x : Bool, v = .bool x ∧ Sat w (fun x => x = b) [dkP bs b (K + 1)] w' :=
  coin_ca n hn K hK w b 0 w0.heap.size bs (hby.keep hs.chg0) (dk_new hs) (hs.all _ (.head _))
/-- The variables of the law's own search. -/
structure CovE (w : World) (b11 b12 b13 : Nat) (R : List (List Int)) (most : Int) (n : Nat) : Prop where
  h1 : ∃ t, Blk w b11 [.int .i64 n] t
  h2 : ∃ t, Blk w b12 [.int .i64 most] t
  h3 : ∃ t a c lo hi, Blk w b13 [.slice a R.length c] t ∧ RdII w lo hi (.slice a R.length c) R
theorem CovE.keep {w w' : World} {b11 b12 b13 n : Nat} {R : List (List Int)} {most : Int} (h : CovE w b11 b12 b13 R most n) (c : Chg [] w w') : CovE w' b11 b12 b13 R most n := by
  obtain ⟨t1, h1⟩ := h.h1
  obtain ⟨t2, h2⟩ := h.h2
  obtain ⟨t3, a, c2, lo, hi, h3, h4⟩ := h.h3
  exact ⟨⟨t1, h1.keep c⟩, ⟨t2, h2.keep c⟩, ⟨t3, a, c2, lo, hi, h3.keep c, RdII.keep h4 c⟩⟩
end Go.Proofs.YtcmpdmobmbbplaaGreat

/- SkiContradicted. -/
namespace Go.Proofs.YtcmpdmobmbbplaaGreat
set_option maxRecDepth 4000
open Go Go.Eng
def ordN (l : Lb) : Nat := if agreedV l = 0 then cnt l.ord l.n (2 ^ l.n - 1) else 0
theorem ordersA_ca (w : World) (lo hi : Nat) (l : Lb) (v : Value) (h : RdR w lo hi v l.runs) (hlen : l.runs.length ≤ maxLen) : Ca Tryz.prog 29 [.agg (lbC l v).toArray] w fun x w' => x = .tuple #[.int .i64 (ordN l : Nat), .int .i64 (agreedV l)] ∧ Chg [] w w' := by
  by_cases h0 : agreedV l = 0
  · obtain ⟨hl, hc⟩ := agreed_iff.1 h0
    have := orders_ok w lo hi l v h hl hc
    unfold ordN
    rw [h0, if_pos rfl]
    exact this
  · have := orders_no w lo hi l v h hlen h0
    unfold ordN
    rw [if_neg h0]
    exact this
/-- The lead of a run is turned. -/
def flipR (r : List Rn) (i : Nat) : List Rn := r.set i ⟨(r.getD i ⟨0, 0, 0⟩).a, (r.getD i ⟨0, 0, 0⟩).b, -(r.getD i ⟨0, 0, 0⟩).lead⟩
theorem flip_len (r : List Rn) (i : Nat) : (flipR r i).length = r.length := by simp [flipR]
theorem rnC_setLead : ∀ (l : List Rn) (i : Nat) (x : Int), (rnC l).set (i * 3 + 2) (.int .i64 x) = rnC (l.modify i fun r => ⟨r.a, r.b, x⟩)
  | [], i, x => by simp [rnC]
  | r :: l, 0, x => rfl
  | r :: l, i + 1, x => by
    have := rnC_setLead l i x
    simp only [List.modify_succ_cons]
    show (_ :: _ :: _ :: rnC l).set ((i + 1) * 3 + 2) _ = _ :: _ :: _ :: rnC _
    rw [show (i + 1) * 3 + 2 = (i * 3 + 2) + 1 + 1 + 1 from by omega, List.set_cons_succ, List.set_cons_succ, List.set_cons_succ, this]
theorem flip_cells {r : List Rn} {i : Nat} (hi : i < r.length) : (rnC r).set (i * 3 + 2) (.int .i64 (-r[i].lead)) = rnC (flipR r i) := by
  rw [rnC_setLead]
  congr 1
  refine List.ext_getElem (by simp [flipR]) fun j h1 h2 => ?_
  rw [List.getElem_modify]
  simp only [flipR, List.getElem_set, List.getD_eq_getElem?_getD, List.getElem?_eq_getElem hi, Option.getD_some]
  by_cases e : i = j
  · subst e; simp
  · simp [e]
theorem flip_ok {s e : Int} {r : List Rn} {i : Nat} (h : (⟨s, e, r⟩ : Lb).Ok) (hi : i < r.length) : (⟨s, e, flipR r i⟩ : Lb).Ok := ⟨h.s0, h.s1, h.e0, h.e1, by have := h.len; show (flipR r i).length ≤ 40; rw [flip_len]; exact this, fun x hx => by
  obtain ⟨j, hj, rfl⟩ := List.mem_iff_getElem.1 hx
  have hj2 : j < r.length := by rw [← flip_len r i]; exact hj
  have ho := h.run r[i] (List.getElem_mem hi)
  have ho2 := h.run r[j] (List.getElem_mem hj2)
  simp only [flipR, List.getElem_set, List.getD_eq_getElem?_getD, List.getElem?_eq_getElem hi, Option.getD_some]
  split
  · have l0 := ho.l0
    have l1 := ho.l1
    exact ⟨ho.a0, ho.a1, ho.b0, ho.b1, ho.ne, by simp only; omega, by simp only; omega⟩
  · exact ho2⟩
/-- What is told of a lab and of the runs that are to be dropped. -/
theorem agreed_noC {l : Lb} (hl : l.Ok) : agreedV l = 0 ↔ NoC l.ord l.n := by rw [agreed_iff]; exact ⟨fun h => h.2, fun h => ⟨hl, h⟩⟩
theorem agreed_seven {l : Lb} (hl : l.Ok) (h : ¬ NoC l.ord l.n) : agreedV l = 7 := by
  have h1 := check_iff.2 hl
  have h2 : conflB l.ord l.n = true := by
    cases hc : conflB l.ord l.n with
    | true => rfl
    | false => exact absurd (confl_iff.1 hc) h
  unfold agreedV
  rw [if_neg (by rw [h1]; simp), if_pos h2]
def smB (l : Lb) (c : List Int) (k : Nat) : Bool := (List.range k).any fun s => decide ((chainV l s s c).2 = 0) && (chainV l s s c).1
end Go.Proofs.YtcmpdmobmbbplaaGreat
