/- My texts K24, K25, K26, D1, D2, K27, K28, K30, L2, E14, D3, D4, K29, D5, B33, K41, B34, W19, E0, E1, E2, E3, K42, E4, E5, W24, W25, E15, E16, Sort, K43, B35, K44, K45, B36, K46, K47, W26, K33, K48, E17, B37, E18, E19, K49, K50, K34, K35, W17, K31, W16, K32, L8, K51, E20, E21, E22, joined: a claim takes at most 60 files. -/
import Derived.Test.YtcmpdmobmbbplaaGreatJ3
import Derived.Shelf.Sort.Plain
import Derived.Shelf.Slices.In.SortNone

/- Walks: whether gaps show something. -/
namespace Go.Proofs.YtcmpdmobmbbplaaGreat
set_option maxRecDepth 4000
open Go Go.Eng

theorem gapsF_cons (st : List Int) (p : Option Int) (g : Int × Int) (l : List (Int × Int)) : gapsF st p (g :: l) = if gapBad st p g = true then none else (gapsF st (some g.2) l).map fun s => s + (g.2 - g.1) := rfl
theorem low_step' (st : List Int) (x : Int) (k : Nat) (hk : k < st.length) : lowC (st.take (k + 1)) x = lowC (st.take k) x + if st[k] ≤ x then 1 else 0 := by
  unfold lowC
  rw [List.take_succ_eq_append_getElem hk, List.countP_append, List.countP_singleton]
  simp
theorem high_step' (st : List Int) (x : Int) (k : Nat) (hk : k < st.length) : highC (st.take (k + 1)) x = highC (st.take k) x + if x ≤ st[k] then 1 else 0 := by
  unfold highC
  rw [List.take_succ_eq_append_getElem hk, List.countP_append, List.countP_singleton]
  simp
theorem gap_bd {st : List Int} (hs0 : SingOk st) {p : Option Int} {g : Int × Int} (h : gapBad st p g = false) : 0 ≤ g.1 ∧ g.1 < g.2 ∧ g.2 ≤ 100000 := by
  unfold gapBad at h
  simp only [Bool.or_eq_false_iff, decide_eq_false_iff_not] at h
  obtain ⟨h1, h2, h3, h4⟩ := h
  have hl : 0 < lowC st g.1 := by omega
  have hev := hs0.ev
  have hh : 0 < highC st g.2 := by omega
  obtain ⟨x, hx, h5⟩ := List.countP_pos_iff.1 hl
  obtain ⟨y, hy, h6⟩ := List.countP_pos_iff.1 hh
  have h7 := hs0.num x hx
  have h8 := hs0.num y hy
  have h5 : x ≤ g.1 := by simpa using h5
  have h6 : g.2 ≤ y := by simpa using h6
  omega
/-- The gap before the k-th one ends here. -/
def prevH (gs : List (Int × Int)) (k : Nat) : Option Int := if k = 0 then none else some (gs.getD (k - 1) (0, 0)).2
set_option maxHeartbeats 4000000 in
theorem gapsShow_ca (w : World) (lo hi lo2 hi2 : Nat) (v u : Value) (st : List Int) (gs : List (Int × Int)) (h : RdI w lo hi v st) (hu : RdS w lo2 hi2 u gs) (hg0 : gs.length ≤ 1000000) : Ca Tryz.prog 59 [v, u] w fun x w' => x = .tuple #[.int .i64 (gapsV st gs).1, .int .i64 (gapsV st gs).2] ∧ Chg [] w w' := by
  obtain ⟨a, c, rfl, ha⟩ := RdI.outI h
  obtain ⟨ga, gc, rfl, hga⟩ := RdS.outI hu
  refine q_of (Sat.nil w M0) Tryz.func59 rfl (by simp [Tryz.ntmps59]) ?_
  (refine q_seq (q_region (ql_pure tabOk rfl rfl (ql_pure tabOk rfl rfl (q_nil (q_seq (q_region (ql_pure tabOk rfl rfl ?_))))))))
  refine ql_callv (val := .int .i64 (singlesV st)) tabOk rfl rfl rfl rfl (fun w hs => ?_) ?_; exact singles_ca w lo hi _ st (RdE.keep h hs.chg0)
  by_cases he : singlesV st = 0
  · have hs0 := sing_iff.1 he
    have hl1 := hs0.l1
    have hl2 := hs0.l2
    obtain ⟨ab, ao, rfl⟩ := ha (by omega)
    by_cases hg : 16 < gs.length
    · (refine ql_pure tabOk rfl rfl (q_nil (q_seq (q_block (q_seq (q_region (ql_pure tabOk rfl rfl (ql_neqF tabOk rfl rfl rfl (by omega) (ql_pure tabOk rfl rfl (q_nil (q_cond_false rfl (q_seq ?_))))))))))); refine q_region (ql_pure tabOk rfl rfl (ql_pure tabOk rfl rfl (ql_gtrT tabOk rfl rfl rfl (by omega) (ql_pure tabOk rfl rfl (q_nil (q_cond_true rfl (q_seq (q_region (ql_pure tabOk rfl rfl (ql_pure tabOk rfl rfl (q_nil ?_))))))))))); refine q_ret ?_)
      refine q_fin tabOk rfl (by repeat constructor) fun w hs => ?_
      exact ⟨by unfold gapsV; rw [if_neg (by simpa using he), if_pos hg]; rfl, hs.chg0⟩
    · have hgv : gapsV st gs = match gapsF st none gs with | some s => (s, 0) | none => (0, 8) := by unfold gapsV; rw [if_neg (by simpa using he), if_neg hg] <;> rfl
      rw [hgv]
      (refine ql_pure tabOk rfl rfl (q_nil (q_seq (q_block (q_seq (q_region (ql_pure tabOk rfl rfl (ql_neqF tabOk rfl rfl rfl (by omega) (ql_pure tabOk rfl rfl (q_nil (q_cond_false rfl (q_seq ?_))))))))))); refine q_region (ql_pure tabOk rfl rfl (ql_pure tabOk rfl rfl (ql_gtrF tabOk rfl rfl rfl (by omega) (ql_pure tabOk rfl rfl (q_nil (q_cond_false rfl (q_skip (q_blk (q_seq (q_region (ql_pure tabOk rfl rfl ?_))))))))))); refine q_nil (q_seq (q_seq (q_region ?_))); (iterate 3 refine ql_pure tabOk rfl rfl ?_); refine q_nil (q_block ?_))
      refine q_loop (σ := Nat × Int) (fun y => y.1 ≤ gs.length ∧ gapsF st none gs = (gapsF st (prevH gs y.1) (gs.drop y.1)).map (fun s => s + y.2) ∧ 0 ≤ y.2 ∧ y.2 ≤ 100000 * y.1) (fun y => gs.length - y.1)
        (fun y => [(0, .slice (some ⟨ab, ao, none⟩) st.length c), (1, .slice ga gs.length gc), (7, .int .i64 y.2), (24, .slice ga gs.length gc), (25, .int .i64 gs.length), (26, .int .i64 y.1)]) (fun _ => []) (0, 0) ⟨by simp only; omega, by simp [prevH], by simp, by simp⟩ ⟨rfl, rfl, rfl, rfl, rfl, rfl, trivial⟩ (by repeat constructor) ?_
      rintro ⟨k, sum⟩ ⟨hk, hF, hs1, hs2⟩ K hK
      dsimp only at hk hF hs1 hs2 ⊢
      (refine q_seq (q_region (ql_pure tabOk rfl rfl (q_nil (q_seq ?_)))))
      refine q_if rfl (fun hc => ?_) (fun hc => ?_)
      · have hk2 : k < gs.length := by omega
        clear hc
        obtain ⟨gb, go, rfl⟩ := hga (by omega)
        (refine q_skip (q_seq (q_block (q_seq (q_region (ql_pure tabOk rfl rfl ?_))))))
        refine ql_index tabOk rfl rfl rfl rfl rfl (by omega) (by omega) ?_
        refine ql_loadA tabOk rfl rfl rfl rfl (fun w hs => RdS.at (RdE.keep hu hs.chg0) k hk2) ?_
        rw [List.drop_eq_getElem_cons hk2, gapsF_cons] at hF
        have hbd := gap_bd hs0 (p := prevH gs k) (g := gs[k])
        have hnext : prevH gs (k + 1) = some gs[k].2 := by
          unfold prevH
          rw [if_neg (by omega), Nat.add_sub_cancel, List.getD_eq_getElem?_getD, List.getElem?_eq_getElem hk2]
          rfl
        have hprev : 0 < k → prevH gs k = some (gs[k - 1]'(by omega)).2 := fun h => by
          unfold prevH
          rw [if_neg (by omega), List.getD_eq_getElem?_getD, List.getElem?_eq_getElem (show k - 1 < gs.length by omega)]
          rfl
        have hprev0 : k = 0 → prevH gs k = none := fun h => if_pos h
        generalize hgk : gs[k] = gk at *
        obtain ⟨gl, gh⟩ := gk
        dsimp only at *
        skip
        refine ql_alloc zero64 rfl (fun b9 => ?_)
        (refine ql_pure tabOk rfl rfl ?_; refine ql_setA tabOk rfl rfl rfl rfl rfl (by repeat constructor) rfl ?_; refine q_nil (q_seq (q_region (ql_pure tabOk rfl rfl (ql_pure tabOk rfl rfl (q_nil (q_seq (q_seq (q_region ?_)))))))); (iterate 3 refine ql_pure tabOk rfl rfl ?_); refine q_nil (q_block ?_))
        refine q_loop (σ := Nat) (fun y => y ≤ st.length) (fun y => st.length - y)
          (fun y => [(0, .slice (some ⟨ab, ao, none⟩) st.length c), (1, .slice (some ⟨gb, go, none⟩) gs.length gc), (7, .int .i64 sum), (8, .int .i64 k), (9, .pointer (some ⟨b9, 0, none⟩)), (10, .int .i64 (lowC (st.take y) gl)), (11, .int .i64 (highC (st.take y) gh)), (24, .slice (some ⟨gb, go, none⟩) gs.length gc), (25, .int .i64 gs.length), (26, .int .i64 k), (31, .slice (some ⟨ab, ao, none⟩) st.length c), (32, .int .i64 st.length), (33, .int .i64 y)])
          (fun _ => [.pt b9 [.int .i64 gl, .int .i64 gh] 64]) 0 (by omega) ⟨rfl, rfl, rfl, rfl, rfl, rfl, rfl, rfl, rfl, rfl, rfl, rfl, rfl, trivial⟩ (by repeat constructor) ?_
        rintro y hy K2 hK2
        have hlc : lowC (st.take y) gl ≤ y := by unfold lowC; exact Nat.le_trans List.countP_le_length (by rw [List.length_take]; omega)
        have hhc : highC (st.take y) gh ≤ y := by unfold highC; exact Nat.le_trans List.countP_le_length (by rw [List.length_take]; omega)
        (refine q_seq (q_region (ql_pure tabOk rfl rfl (q_nil (q_seq ?_)))))
        refine q_if rfl (fun hc => ?_) (fun hc => ?_)
        · have hy2 : y < st.length := by omega
          have l1 := low_step' st gl y hy2
          have l2 := high_step' st gh y hy2
          clear hc
          (refine q_skip (q_seq (q_block (q_seq (q_region ?_)))))
          refine ql_index tabOk rfl rfl rfl rfl rfl (by omega) (by omega) ?_
          refine ql_load1 (v := .int .i64 st[y]) tabOk rfl rfl rfl (fun w hs => RdI.at (RdE.keep h hs.chg0) y hy2) ?_
          by_cases c1 : st[y] ≤ gl
          · rw [if_pos c1] at l1
            by_cases c2 : gh ≤ st[y]
            · rw [if_pos c2] at l2
              (refine ql_pure tabOk rfl rfl (q_nil (q_seq (q_seq (q_region (ql_pure tabOk rfl rfl (ql_pure tabOk rfl rfl ?_)))))); refine ql_loadBa tabOk rfl rfl rfl ?_; refine ql_leqT tabOk rfl rfl rfl (by omega) (q_nil (q_cond_true rfl (q_region (ql_pure tabOk rfl rfl (ql_ar tabOk rfl rfl rfl rfl (by omega) (by omega) (ql_pure tabOk rfl rfl (q_nil (q_seq (q_region (ql_pure tabOk rfl rfl (ql_pure tabOk rfl rfl ?_))))))))))); refine ql_loadBa tabOk rfl rfl rfl ?_; refine ql_geqT tabOk rfl rfl rfl (by omega) (q_nil (q_cond_true rfl (q_region (ql_pure tabOk rfl rfl (ql_ar tabOk rfl rfl rfl rfl (by omega) (by omega) (ql_pure tabOk rfl rfl (q_nil (q_blk (q_region (ql_ar tabOk rfl rfl rfl rfl (by omega) (by omega) (ql_pure tabOk rfl rfl ?_))))))))))); refine q_nil ?_)
              exact hK2 (y + 1) _ _ (by omega) (by omega) ⟨rfl, rfl, rfl, rfl, rfl, (by refine lookI rfl ?_; omega), (by refine lookI rfl ?_; omega), rfl, rfl, rfl, rfl, rfl, rfl, trivial⟩ (by repeat constructor)
            · rw [if_neg c2] at l2
              (refine ql_pure tabOk rfl rfl (q_nil (q_seq (q_seq (q_region (ql_pure tabOk rfl rfl (ql_pure tabOk rfl rfl ?_)))))); refine ql_loadBa tabOk rfl rfl rfl ?_; refine ql_leqT tabOk rfl rfl rfl (by omega) (q_nil (q_cond_true rfl (q_region (ql_pure tabOk rfl rfl (ql_ar tabOk rfl rfl rfl rfl (by omega) (by omega) (ql_pure tabOk rfl rfl (q_nil (q_seq (q_region (ql_pure tabOk rfl rfl (ql_pure tabOk rfl rfl ?_))))))))))); refine ql_loadBa tabOk rfl rfl rfl ?_; refine ql_geqF tabOk rfl rfl rfl (by omega) (q_nil (q_cond_false rfl (q_skip (q_blk (q_region (ql_ar tabOk rfl rfl rfl rfl (by omega) (by omega) (ql_pure tabOk rfl rfl (q_nil ?_)))))))))
              exact hK2 (y + 1) _ _ (by omega) (by omega) ⟨rfl, rfl, rfl, rfl, rfl, (by refine lookI rfl ?_; omega), (by refine lookI rfl ?_; omega), rfl, rfl, rfl, rfl, rfl, rfl, trivial⟩ (by repeat constructor)
          · rw [if_neg c1] at l1
            by_cases c2 : gh ≤ st[y]
            · rw [if_pos c2] at l2
              (refine ql_pure tabOk rfl rfl (q_nil (q_seq (q_seq (q_region (ql_pure tabOk rfl rfl (ql_pure tabOk rfl rfl ?_)))))); refine ql_loadBa tabOk rfl rfl rfl ?_; refine ql_leqF tabOk rfl rfl rfl (by omega) (q_nil (q_cond_false rfl (q_skip (q_seq (q_region (ql_pure tabOk rfl rfl (ql_pure tabOk rfl rfl ?_))))))); refine ql_loadBa tabOk rfl rfl rfl ?_; refine ql_geqT tabOk rfl rfl rfl (by omega) (q_nil (q_cond_true rfl (q_region (ql_pure tabOk rfl rfl (ql_ar tabOk rfl rfl rfl rfl (by omega) (by omega) (ql_pure tabOk rfl rfl (q_nil (q_blk (q_region (ql_ar tabOk rfl rfl rfl rfl (by omega) (by omega) (ql_pure tabOk rfl rfl ?_))))))))))); refine q_nil ?_)
              exact hK2 (y + 1) _ _ (by omega) (by omega) ⟨rfl, rfl, rfl, rfl, rfl, (by refine lookI rfl ?_; omega), (by refine lookI rfl ?_; omega), rfl, rfl, rfl, rfl, rfl, rfl, trivial⟩ (by repeat constructor)
            · rw [if_neg c2] at l2
              (refine ql_pure tabOk rfl rfl (q_nil (q_seq (q_seq (q_region (ql_pure tabOk rfl rfl (ql_pure tabOk rfl rfl ?_)))))); refine ql_loadBa tabOk rfl rfl rfl ?_; refine ql_leqF tabOk rfl rfl rfl (by omega) (q_nil (q_cond_false rfl (q_skip (q_seq (q_region (ql_pure tabOk rfl rfl (ql_pure tabOk rfl rfl ?_))))))); refine ql_loadBa tabOk rfl rfl rfl ?_; refine ql_geqF tabOk rfl rfl rfl (by omega) (q_nil (q_cond_false rfl (q_skip (q_blk (q_region (ql_ar tabOk rfl rfl rfl rfl (by omega) (by omega) (ql_pure tabOk rfl rfl (q_nil ?_)))))))))
              exact hK2 (y + 1) _ _ (by omega) (by omega) ⟨rfl, rfl, rfl, rfl, rfl, (by refine lookI rfl ?_; omega), (by refine lookI rfl ?_; omega), rfl, rfl, rfl, rfl, rfl, rfl, trivial⟩ (by repeat constructor)
        · obtain rfl : y = st.length := by omega
          clear hc
          rw [List.take_length] at hlc hhc ⊢
          have hbad : gapBad st (prevH gs k) (gl, gh) = true → gapsF st none gs = none := fun h => by rw [hF, if_pos h]; rfl
          have hgood : gapBad st (prevH gs k) (gl, gh) = false → gapsF st none gs = (gapsF st (prevH gs (k + 1)) (gs.drop (k + 1))).map (fun s => s + (sum + (gh - gl))) := fun h => by
            rw [hF, if_neg (by rw [h]; simp), hnext, Option.map_map]
            congr 1
            funext s
            show s + (gh - gl) + sum = _
            omega
          by_cases h1 : gh ≤ gl
          · (refine q_exit _ rfl (q_seq (q_seq ?_)))
            refine q_draw _ [] (Sp.refl _) (by kernel_rfl) (by kernel_rfl) ?_
            (refine qf_pure tabOk rfl rfl rfl ?_; refine qf_loadBa tabOk rfl rfl rfl ?_; refine qf_pure tabOk rfl rfl rfl ?_; refine qf_loadBa tabOk rfl rfl rfl ?_; refine qf_geqT tabOk rfl rfl rfl (by omega) (qf_pure tabOk rfl rfl rfl ?_); (iterate 3 refine qf_gno rfl rfl rfl ?_); (iterate 9 refine qf_gnone rfl rfl ?_); refine qf_gno rfl rfl rfl (qf_pure tabOk rfl rfl rfl (qf_pure tabOk rfl rfl rfl ?_)); (iterate 3 refine qf_gno rfl rfl rfl ?_); refine qf_pure tabOk rfl rfl rfl (qf_pure tabOk rfl rfl rfl ?_); (iterate 6 refine qf_gno rfl rfl rfl ?_); refine qf_pure tabOk rfl rfl rfl (qf_nil (q_cond_true rfl (q_seq (q_region (ql_pure tabOk rfl rfl (ql_pure tabOk rfl rfl (q_nil (q_ret ?_)))))))))
            refine q_fin tabOk rfl (by repeat constructor) fun w hs => ?_
            exact ⟨by rw [hbad (by unfold gapBad; dsimp only; simp [*])]; rfl, hs.chg0⟩
          · by_cases hk0 : k = 0
            · have hp0 := hprev0 hk0
              by_cases h3 : lowC st gl % 2 = 0
              · (refine q_exit _ rfl (q_seq (q_seq ?_)))
                refine q_draw _ [] (Sp.refl _) (by kernel_rfl) (by kernel_rfl) ?_
                (refine qf_pure tabOk rfl rfl rfl ?_; refine qf_loadBa tabOk rfl rfl rfl ?_; refine qf_pure tabOk rfl rfl rfl ?_; refine qf_loadBa tabOk rfl rfl rfl ?_; refine qf_geqF tabOk rfl rfl rfl (by omega) (qf_pure tabOk rfl rfl rfl (qf_gyes rfl (qf_pure tabOk rfl rfl rfl (qf_gyes rfl (qf_gtrF tabOk rfl rfl rfl (by omega) (qf_gyes rfl (qf_pure tabOk rfl rfl rfl ?_))))))); (iterate 9 refine qf_gno rfl rfl rfl ?_); refine qf_gyes rfl ?_; (iterate 3 refine qf_pure tabOk rfl rfl rfl ?_); refine qf_gyes rfl (qf_pure tabOk rfl rfl rfl (qf_gyes rfl (qf_remN rfl rfl rfl (by omega) (by omega) (qf_gyes rfl (qf_eqlT tabOk rfl rfl rfl (by omega) (qf_pure tabOk rfl rfl rfl (qf_pure tabOk rfl rfl rfl ?_))))))); (iterate 6 refine qf_gno rfl rfl rfl ?_); refine qf_pure tabOk rfl rfl rfl (qf_nil (q_cond_true rfl (q_seq (q_region (ql_pure tabOk rfl rfl (ql_pure tabOk rfl rfl (q_nil (q_ret ?_)))))))))
                refine q_fin tabOk rfl (by repeat constructor) fun w hs => ?_
                exact ⟨by rw [hbad (by unfold gapBad; dsimp only; simp [*])]; rfl, hs.chg0⟩
              · by_cases h4 : lowC st gl + highC st gh = st.length
                · have hgd : gapBad st (prevH gs k) (gl, gh) = false := by unfold gapBad; rw [hp0]; dsimp only; simp [h1, h3, h4]
                  have hb2 := hbd hgd
                  (refine q_exit _ rfl (q_seq (q_seq ?_)))
                  refine q_draw _ [] (Sp.refl _) (by kernel_rfl) (by kernel_rfl) ?_
                  (refine qf_pure tabOk rfl rfl rfl ?_; refine qf_loadBa tabOk rfl rfl rfl ?_; refine qf_pure tabOk rfl rfl rfl ?_; refine qf_loadBa tabOk rfl rfl rfl ?_; refine qf_geqF tabOk rfl rfl rfl (by omega) (qf_pure tabOk rfl rfl rfl (qf_gyes rfl (qf_pure tabOk rfl rfl rfl (qf_gyes rfl (qf_gtrF tabOk rfl rfl rfl (by omega) (qf_gyes rfl (qf_pure tabOk rfl rfl rfl ?_))))))); (iterate 9 refine qf_gno rfl rfl rfl ?_); refine qf_gyes rfl ?_; (iterate 3 refine qf_pure tabOk rfl rfl rfl ?_); refine qf_gyes rfl (qf_pure tabOk rfl rfl rfl (qf_gyes rfl (qf_remN rfl rfl rfl (by omega) (by omega) (qf_gyes rfl (qf_eqlF tabOk rfl rfl rfl (by omega) (qf_pure tabOk rfl rfl rfl (qf_pure tabOk rfl rfl rfl (qf_gyes rfl (qf_pure tabOk rfl rfl rfl (qf_gyes rfl (qf_pure tabOk rfl rfl rfl ?_))))))))))); refine qf_gyes rfl (qf_ar tabOk rfl rfl rfl rfl (by omega) (by omega) (qf_gyes rfl (qf_pure tabOk rfl rfl rfl (qf_gyes rfl (qf_pure tabOk rfl rfl rfl (qf_gyes rfl (qf_neqF tabOk rfl rfl rfl (by omega) (qf_pure tabOk rfl rfl rfl (qf_nil (q_cond_false rfl (q_skip ?_))))))))))); refine q_region (ql_pure tabOk rfl rfl (ql_pure tabOk rfl rfl ?_)); refine ql_loadBa tabOk rfl rfl rfl ?_; refine ql_pure tabOk rfl rfl ?_; refine ql_loadBa tabOk rfl rfl rfl ?_; refine ql_ar tabOk rfl rfl rfl rfl (by omega) (by omega) (ql_ar tabOk rfl rfl rfl rfl (by omega) (by omega) (ql_pure tabOk rfl rfl (q_nil (q_blk (q_region (ql_ar tabOk rfl rfl rfl rfl (by omega) (by omega) (ql_pure tabOk rfl rfl (q_nil ?_)))))))))
                  exact hK (k + 1, sum + (gh - gl)) _ _ ⟨by simp only; omega, hgood hgd, by simp only; omega, by simp only; omega⟩ (by simp only; omega) ⟨rfl, rfl, rfl, rfl, rfl, rfl, trivial⟩ (by repeat constructor)
                · (refine q_exit _ rfl (q_seq (q_seq ?_)))
                  refine q_draw _ [] (Sp.refl _) (by kernel_rfl) (by kernel_rfl) ?_
                  (refine qf_pure tabOk rfl rfl rfl ?_; refine qf_loadBa tabOk rfl rfl rfl ?_; refine qf_pure tabOk rfl rfl rfl ?_; refine qf_loadBa tabOk rfl rfl rfl ?_; refine qf_geqF tabOk rfl rfl rfl (by omega) (qf_pure tabOk rfl rfl rfl (qf_gyes rfl (qf_pure tabOk rfl rfl rfl (qf_gyes rfl (qf_gtrF tabOk rfl rfl rfl (by omega) (qf_gyes rfl (qf_pure tabOk rfl rfl rfl ?_))))))); (iterate 9 refine qf_gno rfl rfl rfl ?_); refine qf_gyes rfl ?_; (iterate 3 refine qf_pure tabOk rfl rfl rfl ?_); refine qf_gyes rfl (qf_pure tabOk rfl rfl rfl (qf_gyes rfl (qf_remN rfl rfl rfl (by omega) (by omega) (qf_gyes rfl (qf_eqlF tabOk rfl rfl rfl (by omega) (qf_pure tabOk rfl rfl rfl (qf_pure tabOk rfl rfl rfl (qf_gyes rfl (qf_pure tabOk rfl rfl rfl (qf_gyes rfl (qf_pure tabOk rfl rfl rfl ?_))))))))))); refine qf_gyes rfl (qf_ar tabOk rfl rfl rfl rfl (by omega) (by omega) (qf_gyes rfl (qf_pure tabOk rfl rfl rfl (qf_gyes rfl (qf_pure tabOk rfl rfl rfl (qf_gyes rfl (qf_neqT tabOk rfl rfl rfl (by omega) (qf_pure tabOk rfl rfl rfl (qf_nil (q_cond_true rfl (q_seq ?_))))))))))); refine q_region (ql_pure tabOk rfl rfl (ql_pure tabOk rfl rfl (q_nil (q_ret ?_)))))
                  refine q_fin tabOk rfl (by repeat constructor) fun w hs => ?_
                  exact ⟨by rw [hbad (by unfold gapBad; dsimp only; simp [*])]; rfl, hs.chg0⟩
            · have hp0 := hprev (by omega)
              have hk3 : k - 1 < gs.length := by omega
              have ek : ((k : Int) - 1).toNat = k - 1 := by omega
              generalize hgp : gs[k - 1] = gp at *
              obtain ⟨gp1, gp2⟩ := gp
              dsimp only at *
              (refine q_exit _ rfl (q_seq (q_seq ?_)))
              refine q_draw _ [] (Sp.refl _) (by kernel_rfl) (by kernel_rfl) ?_
              (refine qf_pure tabOk rfl rfl rfl ?_; refine qf_loadBa tabOk rfl rfl rfl ?_; refine qf_pure tabOk rfl rfl rfl ?_; refine qf_loadBa tabOk rfl rfl rfl ?_; refine qf_geqF tabOk rfl rfl rfl (by omega) (qf_pure tabOk rfl rfl rfl (qf_gyes rfl (qf_pure tabOk rfl rfl rfl (qf_gyes rfl (qf_gtrT tabOk rfl rfl rfl (by omega) (qf_gyes rfl (qf_pure tabOk rfl rfl rfl (qf_gyes rfl (qf_pure tabOk rfl rfl rfl (qf_gyes rfl ?_)))))))))); refine qf_loadBa tabOk rfl rfl rfl ?_; refine qf_gyes rfl (qf_pure tabOk rfl rfl rfl (qf_gyes rfl (qf_pure tabOk rfl rfl rfl (qf_gyes rfl (qf_ar tabOk rfl rfl rfl rfl (by omega) (by omega) (qf_gyes rfl ?_)))))))
              refine qf_index tabOk rfl rfl rfl rfl rfl (by omega) (by omega) ?_
              (refine qf_gyes rfl (qf_pure tabOk rfl rfl rfl (qf_gyes rfl ?_)))
              refine qf_load1 (v := .int .i64 gp2) tabOk rfl rfl rfl (fun w hs => by
                rw [ek]
                have := RdS.at1 (RdE.keep hu hs.chg0) (k - 1) hk3
                rw [hgp] at this
                exact this) ?_
              by_cases h2 : gl < gp2
              · (refine qf_gyes rfl (qf_lssT tabOk rfl rfl rfl (by omega) (qf_gyes rfl ?_)); (iterate 3 refine qf_pure tabOk rfl rfl rfl ?_); (iterate 3 refine qf_gno rfl rfl rfl ?_); refine qf_pure tabOk rfl rfl rfl (qf_pure tabOk rfl rfl rfl ?_); (iterate 6 refine qf_gno rfl rfl rfl ?_); refine qf_pure tabOk rfl rfl rfl (qf_nil (q_cond_true rfl (q_seq (q_region (ql_pure tabOk rfl rfl (ql_pure tabOk rfl rfl (q_nil (q_ret ?_)))))))))
                refine q_fin tabOk rfl (by repeat constructor) fun w hs => ?_
                exact ⟨by rw [hbad (by unfold gapBad; dsimp only; simp [*])]; rfl, hs.chg0⟩
              · by_cases h3 : lowC st gl % 2 = 0
                · (refine qf_gyes rfl (qf_lssF tabOk rfl rfl rfl (by omega) (qf_gyes rfl ?_)); (iterate 3 refine qf_pure tabOk rfl rfl rfl ?_); refine qf_gyes rfl (qf_pure tabOk rfl rfl rfl (qf_gyes rfl (qf_remN rfl rfl rfl (by omega) (by omega) (qf_gyes rfl (qf_eqlT tabOk rfl rfl rfl (by omega) (qf_pure tabOk rfl rfl rfl (qf_pure tabOk rfl rfl rfl ?_))))))); (iterate 6 refine qf_gno rfl rfl rfl ?_); refine qf_pure tabOk rfl rfl rfl (qf_nil (q_cond_true rfl (q_seq (q_region (ql_pure tabOk rfl rfl (ql_pure tabOk rfl rfl (q_nil (q_ret ?_)))))))))
                  refine q_fin tabOk rfl (by repeat constructor) fun w hs => ?_
                  exact ⟨by rw [hbad (by unfold gapBad; dsimp only; simp [*])]; rfl, hs.chg0⟩
                · by_cases h4 : lowC st gl + highC st gh = st.length
                  · have hgd : gapBad st (prevH gs k) (gl, gh) = false := by unfold gapBad; dsimp only; simp [*]
                    have hb2 := hbd hgd
                    (refine qf_gyes rfl (qf_lssF tabOk rfl rfl rfl (by omega) (qf_gyes rfl ?_)); (iterate 3 refine qf_pure tabOk rfl rfl rfl ?_); refine qf_gyes rfl (qf_pure tabOk rfl rfl rfl (qf_gyes rfl (qf_remN rfl rfl rfl (by omega) (by omega) (qf_gyes rfl (qf_eqlF tabOk rfl rfl rfl (by omega) (qf_pure tabOk rfl rfl rfl (qf_pure tabOk rfl rfl rfl (qf_gyes rfl (qf_pure tabOk rfl rfl rfl (qf_gyes rfl (qf_pure tabOk rfl rfl rfl ?_))))))))))); refine qf_gyes rfl (qf_ar tabOk rfl rfl rfl rfl (by omega) (by omega) (qf_gyes rfl (qf_pure tabOk rfl rfl rfl (qf_gyes rfl (qf_pure tabOk rfl rfl rfl (qf_gyes rfl (qf_neqF tabOk rfl rfl rfl (by omega) (qf_pure tabOk rfl rfl rfl (qf_nil (q_cond_false rfl (q_skip ?_))))))))))); refine q_region (ql_pure tabOk rfl rfl (ql_pure tabOk rfl rfl ?_)); refine ql_loadBa tabOk rfl rfl rfl ?_; refine ql_pure tabOk rfl rfl ?_; refine ql_loadBa tabOk rfl rfl rfl ?_; refine ql_ar tabOk rfl rfl rfl rfl (by omega) (by omega) (ql_ar tabOk rfl rfl rfl rfl (by omega) (by omega) (ql_pure tabOk rfl rfl (q_nil (q_blk (q_region (ql_ar tabOk rfl rfl rfl rfl (by omega) (by omega) (ql_pure tabOk rfl rfl (q_nil ?_)))))))))
                    exact hK (k + 1, sum + (gh - gl)) _ _ ⟨by simp only; omega, hgood hgd, by simp only; omega, by simp only; omega⟩ (by simp only; omega) ⟨rfl, rfl, rfl, rfl, rfl, rfl, trivial⟩ (by repeat constructor)
                  · (refine qf_gyes rfl (qf_lssF tabOk rfl rfl rfl (by omega) (qf_gyes rfl ?_)); (iterate 3 refine qf_pure tabOk rfl rfl rfl ?_); refine qf_gyes rfl (qf_pure tabOk rfl rfl rfl (qf_gyes rfl (qf_remN rfl rfl rfl (by omega) (by omega) (qf_gyes rfl (qf_eqlF tabOk rfl rfl rfl (by omega) (qf_pure tabOk rfl rfl rfl (qf_pure tabOk rfl rfl rfl (qf_gyes rfl (qf_pure tabOk rfl rfl rfl (qf_gyes rfl (qf_pure tabOk rfl rfl rfl ?_))))))))))); refine qf_gyes rfl (qf_ar tabOk rfl rfl rfl rfl (by omega) (by omega) (qf_gyes rfl (qf_pure tabOk rfl rfl rfl (qf_gyes rfl (qf_pure tabOk rfl rfl rfl (qf_gyes rfl (qf_neqT tabOk rfl rfl rfl (by omega) (qf_pure tabOk rfl rfl rfl (qf_nil (q_cond_true rfl (q_seq ?_))))))))))); refine q_region (ql_pure tabOk rfl rfl (ql_pure tabOk rfl rfl (q_nil (q_ret ?_)))))
                    refine q_fin tabOk rfl (by repeat constructor) fun w hs => ?_
                    exact ⟨by rw [hbad (by unfold gapBad; dsimp only; simp [*])]; rfl, hs.chg0⟩
      · obtain rfl : k = gs.length := by omega
        rw [List.drop_length] at hF
        have e : gapsF st none gs = some sum := by rw [hF]; show some (0 + sum) = _; rw [Int.zero_add]
        rw [e]
        (refine q_exit _ rfl (q_seq (q_region ?_)); (iterate 3 refine ql_pure tabOk rfl rfl ?_); refine q_nil (q_ret ?_))
        refine q_fin tabOk rfl (by repeat constructor) fun w hs => ?_
        exact ⟨rfl, hs.chg0⟩
  · (refine ql_pure tabOk rfl rfl (q_nil (q_seq (q_block (q_seq (q_region (ql_pure tabOk rfl rfl (ql_neqT tabOk rfl rfl rfl (by omega) (ql_pure tabOk rfl rfl (q_nil (q_cond_true rfl (q_seq ?_))))))))))); refine q_region ?_; (iterate 3 refine ql_pure tabOk rfl rfl ?_); refine q_nil (q_ret ?_))
    refine q_fin tabOk rfl (by repeat constructor) fun w hs => ?_
    exact ⟨by unfold gapsV; rw [if_pos he]; rfl, hs.chg0⟩
end Go.Proofs.YtcmpdmobmbbplaaGreat

/- Walks: lists compared. -/
namespace Go.Proofs.YtcmpdmobmbbplaaGreat
set_option maxRecDepth 4000
open Go Go.Eng

def eqIB (a b : List Int) : Bool := decide (a = b) && true
theorem spn_flat : flatB Tryz.prog 64 [some .i64, some .i64] = true := by kernel_rfl
set_option maxHeartbeats 1000000 in
theorem eqS_ca (w : World) (lo hi lo2 hi2 : Nat) (v u : Value) (l : List (Int × Int)) (h1 : RdS w lo hi v l) (h2 : RdS w lo2 hi2 u l) (hlen : l.length ≤ 1000000) :
    Ca Tryz.prog 38 [v, u] w fun r w' => r = .bool true ∧ Chg [] w w' := by
  obtain ⟨a, ca, rfl, hsa⟩ := RdS.outI h1
  obtain ⟨b, cb, rfl, hsb⟩ := RdS.outI h2
  refine q_of (Sat.nil w M0) Tryz.func38 rfl (by simp [Tryz.ntmps38]) ?_
  (refine q_seq (q_region (ql_pure tabOk rfl rfl (q_nil (q_seq (q_seq (q_region ?_)))))); (iterate 4 refine ql_pure tabOk rfl rfl ?_); refine ql_neqF tabOk rfl rfl rfl (by omega) (q_nil (q_cond_false rfl (q_skip (q_seq (q_seq (q_region ?_)))))); (iterate 3 refine ql_pure tabOk rfl rfl ?_); refine q_nil (q_block ?_))
  refine q_loop (σ := Nat) (fun s => s ≤ l.length) (fun s => l.length - s) (fun s => [(0, .slice a l.length ca), (1, .slice b l.length cb), (12, .int .i64 l.length), (13, .int .i64 s)]) (fun _ => []) 0 (by omega) ⟨rfl, rfl, rfl, rfl, trivial⟩ (by repeat constructor) ?_
  intro i hi K hK
  (refine q_seq (q_region (ql_pure tabOk rfl rfl (q_nil (q_seq ?_)))))
  refine q_if rfl (fun hc => ?_) (fun hc => ?_)
  · have hi2 : i < l.length := by omega
    clear hc
    obtain ⟨ba, oa, rfl⟩ := hsa (by omega)
    obtain ⟨bb, ob, rfl⟩ := hsb (by omega)
    (refine q_skip (q_seq (q_block (q_seq (q_region (ql_pure tabOk rfl rfl (ql_pure tabOk rfl rfl (q_nil (q_seq ?_)))))))))
    refine q_draw _ [] (Sp.refl _) (by kernel_rfl) (by kernel_rfl) ?_
    (refine qf_pure tabOk rfl rfl rfl (qf_pure tabOk rfl rfl rfl ?_))
    refine qf_index tabOk rfl rfl rfl rfl rfl (by omega) (by omega) ?_
    refine qf_loadA tabOk rfl rfl rfl rfl (fun w hs => RdS.at (RdE.keep h1 hs.chg0) i hi2) ?_
    (refine qf_pure tabOk rfl rfl rfl (qf_pure tabOk rfl rfl rfl ?_))
    refine qf_index tabOk rfl rfl rfl rfl rfl (by omega) (by omega) ?_
    refine qf_loadA tabOk rfl rfl rfl rfl (fun w hs => RdS.at (RdE.keep h2 hs.chg0) i hi2) ?_
    skip
    refine qf_neF [some .i64, some .i64] spn_flat rfl rfl rfl rfl rfl ?_
    rw [eqL_refl]
    (refine qf_nil (q_cond_false rfl (q_skip (q_blk (q_region (ql_ar tabOk rfl rfl rfl rfl (by omega) (by omega) (ql_pure tabOk rfl rfl (q_nil ?_))))))))
    exact hK (i + 1) _ _ (by omega) (by omega) ⟨rfl, rfl, rfl, rfl, trivial⟩ (by repeat constructor)
  · (refine q_exit _ rfl (q_seq (q_region (ql_pure tabOk rfl rfl (q_nil (q_ret ?_))))))
    refine q_fin tabOk rfl (by repeat constructor) fun w hs => ?_
    exact ⟨rfl, hs.chg0⟩

theorem run_flat : flatB Tryz.prog 40 [some .i64, some .i64, some .i64] = true := by kernel_rfl
set_option maxHeartbeats 1000000 in
theorem eqR_ca (w : World) (lo hi lo2 hi2 : Nat) (v u : Value) (l : List Rn) (h1 : RdR w lo hi v l) (h2 : RdR w lo2 hi2 u l) (hlen : l.length ≤ 1000000) :
    Ca Tryz.prog 74 [v, u] w fun r w' => r = .bool true ∧ Chg [] w w' := by
  obtain ⟨a, ca, rfl, hsa⟩ := RdR.outI h1
  obtain ⟨b, cb, rfl, hsb⟩ := RdR.outI h2
  refine q_of (Sat.nil w M0) Tryz.func74 rfl (by simp [Tryz.ntmps74]) ?_
  (refine q_seq (q_region (ql_pure tabOk rfl rfl (q_nil (q_seq (q_seq (q_region ?_)))))); (iterate 4 refine ql_pure tabOk rfl rfl ?_); refine ql_neqF tabOk rfl rfl rfl (by omega) (q_nil (q_cond_false rfl (q_skip (q_seq (q_seq (q_region ?_)))))); (iterate 3 refine ql_pure tabOk rfl rfl ?_); refine q_nil (q_block ?_))
  refine q_loop (σ := Nat) (fun s => s ≤ l.length) (fun s => l.length - s) (fun s => [(0, .slice a l.length ca), (1, .slice b l.length cb), (12, .int .i64 l.length), (13, .int .i64 s)]) (fun _ => []) 0 (by omega) ⟨rfl, rfl, rfl, rfl, trivial⟩ (by repeat constructor) ?_
  intro i hi K hK
  (refine q_seq (q_region (ql_pure tabOk rfl rfl (q_nil (q_seq ?_)))))
  refine q_if rfl (fun hc => ?_) (fun hc => ?_)
  · have hi2 : i < l.length := by omega
    clear hc
    obtain ⟨ba, oa, rfl⟩ := hsa (by omega)
    obtain ⟨bb, ob, rfl⟩ := hsb (by omega)
    (refine q_skip (q_seq (q_block (q_seq (q_region (ql_pure tabOk rfl rfl (ql_pure tabOk rfl rfl (q_nil (q_seq ?_)))))))))
    refine q_draw _ [] (Sp.refl _) (by kernel_rfl) (by kernel_rfl) ?_
    (refine qf_pure tabOk rfl rfl rfl (qf_pure tabOk rfl rfl rfl ?_))
    refine qf_index tabOk rfl rfl rfl rfl rfl (by omega) (by omega) ?_
    refine qf_loadA tabOk rfl rfl rfl rfl (fun w hs => RdR.at (RdE.keep h1 hs.chg0) i hi2) ?_
    (refine qf_pure tabOk rfl rfl rfl (qf_pure tabOk rfl rfl rfl ?_))
    refine qf_index tabOk rfl rfl rfl rfl rfl (by omega) (by omega) ?_
    refine qf_loadA tabOk rfl rfl rfl rfl (fun w hs => RdR.at (RdE.keep h2 hs.chg0) i hi2) ?_
    skip
    refine qf_neF [some .i64, some .i64, some .i64] run_flat rfl rfl rfl rfl rfl ?_
    rw [eqL_refl]
    (refine qf_nil (q_cond_false rfl (q_skip (q_blk (q_region (ql_ar tabOk rfl rfl rfl rfl (by omega) (by omega) (ql_pure tabOk rfl rfl (q_nil ?_))))))))
    exact hK (i + 1) _ _ (by omega) (by omega) ⟨rfl, rfl, rfl, rfl, trivial⟩ (by repeat constructor)
  · (refine q_exit _ rfl (q_seq (q_region (ql_pure tabOk rfl rfl (q_nil (q_ret ?_))))))
    refine q_fin tabOk rfl (by repeat constructor) fun w hs => ?_
    exact ⟨rfl, hs.chg0⟩

theorem zone_flat : flatB Tryz.prog 111 [some .i64, some .i64, some .i64] = true := by kernel_rfl
set_option maxHeartbeats 1000000 in
theorem eqZ_ca (w : World) (lo hi lo2 hi2 : Nat) (v u : Value) (l : List Rn) (h1 : RdR w lo hi v l) (h2 : RdR w lo2 hi2 u l) (hlen : l.length ≤ 1000000) :
    Ca Tryz.prog 60 [v, u] w fun r w' => r = .bool true ∧ Chg [] w w' := by
  obtain ⟨a, ca, rfl, hsa⟩ := RdR.outI h1
  obtain ⟨b, cb, rfl, hsb⟩ := RdR.outI h2
  refine q_of (Sat.nil w M0) Tryz.func60 rfl (by simp [Tryz.ntmps60]) ?_
  (refine q_seq (q_region (ql_pure tabOk rfl rfl (q_nil (q_seq (q_seq (q_region ?_)))))); (iterate 4 refine ql_pure tabOk rfl rfl ?_); refine ql_neqF tabOk rfl rfl rfl (by omega) (q_nil (q_cond_false rfl (q_skip (q_seq (q_seq (q_region ?_)))))); (iterate 3 refine ql_pure tabOk rfl rfl ?_); refine q_nil (q_block ?_))
  refine q_loop (σ := Nat) (fun s => s ≤ l.length) (fun s => l.length - s) (fun s => [(0, .slice a l.length ca), (1, .slice b l.length cb), (12, .int .i64 l.length), (13, .int .i64 s)]) (fun _ => []) 0 (by omega) ⟨rfl, rfl, rfl, rfl, trivial⟩ (by repeat constructor) ?_
  intro i hi K hK
  (refine q_seq (q_region (ql_pure tabOk rfl rfl (q_nil (q_seq ?_)))))
  refine q_if rfl (fun hc => ?_) (fun hc => ?_)
  · have hi2 : i < l.length := by omega
    clear hc
    obtain ⟨ba, oa, rfl⟩ := hsa (by omega)
    obtain ⟨bb, ob, rfl⟩ := hsb (by omega)
    (refine q_skip (q_seq (q_block (q_seq (q_region (ql_pure tabOk rfl rfl (ql_pure tabOk rfl rfl (q_nil (q_seq ?_)))))))))
    refine q_draw _ [] (Sp.refl _) (by kernel_rfl) (by kernel_rfl) ?_
    (refine qf_pure tabOk rfl rfl rfl (qf_pure tabOk rfl rfl rfl ?_))
    refine qf_index tabOk rfl rfl rfl rfl rfl (by omega) (by omega) ?_
    refine qf_loadA tabOk rfl rfl rfl rfl (fun w hs => RdR.at (RdE.keep h1 hs.chg0) i hi2) ?_
    (refine qf_pure tabOk rfl rfl rfl (qf_pure tabOk rfl rfl rfl ?_))
    refine qf_index tabOk rfl rfl rfl rfl rfl (by omega) (by omega) ?_
    refine qf_loadA tabOk rfl rfl rfl rfl (fun w hs => RdR.at (RdE.keep h2 hs.chg0) i hi2) ?_
    skip
    refine qf_neF [some .i64, some .i64, some .i64] zone_flat rfl rfl rfl rfl rfl ?_
    rw [eqL_refl]
    (refine qf_nil (q_cond_false rfl (q_skip (q_blk (q_region (ql_ar tabOk rfl rfl rfl rfl (by omega) (by omega) (ql_pure tabOk rfl rfl (q_nil ?_))))))))
    exact hK (i + 1) _ _ (by omega) (by omega) ⟨rfl, rfl, rfl, rfl, trivial⟩ (by repeat constructor)
  · (refine q_exit _ rfl (q_seq (q_region (ql_pure tabOk rfl rfl (q_nil (q_ret ?_))))))
    refine q_fin tabOk rfl (by repeat constructor) fun w hs => ?_
    exact ⟨rfl, hs.chg0⟩
end Go.Proofs.YtcmpdmobmbbplaaGreat

/- Walks: the examples of the chapter. -/
namespace Go.Proofs.YtcmpdmobmbbplaaGreat
set_option maxRecDepth 4000
open Go Go.Eng

theorem Blk.rdS' {w : World} {b c n : Nat} {l : List (Int × Int)} {t : TypeId} (h : Blk w b (spC l) t) (hn : n = l.length) : RdS w 0 w.heap.size (.slice (some ⟨b, 0, none⟩) n c) l := by
  subst hn
  exact RdS.of (Blk.rdN (sz := 2) h (spC_length l))
theorem Blk.rdR' {w : World} {b c n : Nat} {l : List Rn} {t : TypeId} (h : Blk w b (rnC l) t) (hn : n = l.length) : RdR w 0 w.heap.size (.slice (some ⟨b, 0, none⟩) n c) l := by
  subst hn
  exact RdR.of (Blk.rdN (sz := 3) h (rnC_length l))
theorem four_ca (w : World) : Ca Tryz.prog 48 [] w fun x w' => ∃ b : Nat, x = .agg (lbC fourL (.slice (some ⟨b, 0, none⟩) 4 4)).toArray ∧ Sat w M0 [.pt b (rnC fourL.runs) 40] w' := by
  refine q_of (Sat.nil w M0) Tryz.func48 rfl (by simp [Tryz.ntmps48]) ?_
  (refine q_seq (q_region ?_))
  refine ql_alloc zero24 rfl (fun b0 => ?_)
  (refine q_nil (q_seq (q_region ?_)))
  refine ql_mk #[.int .i64 0, .int .i64 1, .int .i64 8] rfl (by kernel_rfl) rfl ?_
  refine ql_mk #[.int .i64 1, .int .i64 2, .int .i64 3] rfl (by kernel_rfl) rfl ?_
  refine ql_mk #[.int .i64 2, .int .i64 1, .int .i64 (-9)] rfl (by kernel_rfl) rfl ?_
  refine ql_mk #[.int .i64 3, .int .i64 0, .int .i64 (-6)] rfl (by kernel_rfl) rfl ?_
  refine ql_mkS 40 (rnC fourL.runs) rfl (by kernel_rfl) rfl (fun b5 => ?_)
  refine ql_mk #[.int .i64 4, .int .i64 5, .slice (some ⟨b5, 0, none⟩) 4 4] rfl (by kernel_rfl) rfl ?_
  (refine ql_setA tabOk rfl rfl rfl rfl rfl (by repeat constructor) rfl ?_; refine q_nil (q_ret ?_))
  refine q_fin tabOk rfl (by repeat constructor) fun w hs => ?_
  exact ⟨b5, rfl, hs.sp (by repeat constructor)⟩
theorem three_ca (w : World) : Ca Tryz.prog 50 [] w fun x w' => ∃ y : Nat × Nat × Nat × Nat, x = .slice (some ⟨y.2.2.2, 0, none⟩) 3 3 ∧ Sat w M0 [.pt y.2.2.2 [.slice (some ⟨y.1, 0, none⟩) 4 4, .slice (some ⟨y.2.1, 0, none⟩) 4 4, .slice (some ⟨y.2.2.1, 0, none⟩) 4 4] 48, .pt y.2.2.1 (ints [9, 9, 2, 1]) 3, .pt y.2.1 (ints [6, 2, 3, 8]) 3, .pt y.1 (ints [5, 4, 9, 9]) 3] w' := by
  refine q_of (Sat.nil w M0) Tryz.func50 rfl (by simp [Tryz.ntmps50]) ?_
  (refine q_seq (q_region (ql_pure tabOk rfl rfl (q_nil (q_seq (q_region ?_))))))
  refine ql_mkS 3 (ints [5, 4, 9, 9]) rfl (by kernel_rfl) rfl (fun c1 => ?_)
  refine ql_mkS 3 (ints [6, 2, 3, 8]) rfl (by kernel_rfl) rfl (fun c2 => ?_)
  refine ql_mkS 3 (ints [9, 9, 2, 1]) rfl (by kernel_rfl) rfl (fun c3 => ?_)
  refine ql_mkS 48 [.slice (some ⟨c1, 0, none⟩) 4 4, .slice (some ⟨c2, 0, none⟩) 4 4, .slice (some ⟨c3, 0, none⟩) 4 4] rfl (by kernel_rfl) rfl (fun c4 => ?_)
  (refine ql_pure tabOk rfl rfl (q_nil (q_ret ?_)))
  refine q_fin tabOk rfl (by repeat constructor) fun w hs => ?_
  exact ⟨(c1, c2, c3, c4), rfl, hs.sp (by repeat constructor)⟩
theorem six_ca (w : World) : Ca Tryz.prog 51 [] w fun x w' => ∃ b : Nat, x = .slice (some ⟨b, 0, none⟩) 6 6 ∧ Sat w M0 [.pt b (ints sixL) 3] w' := by
  refine q_of (Sat.nil w M0) Tryz.func51 rfl (by simp [Tryz.ntmps51]) ?_
  (refine q_seq (q_region (ql_pure tabOk rfl rfl (q_nil (q_seq (q_region ?_))))))
  refine ql_mkS 3 (ints sixL) rfl (by kernel_rfl) rfl (fun c1 => ?_)
  (refine ql_pure tabOk rfl rfl (q_nil (q_ret ?_)))
  refine q_fin tabOk rfl (by repeat constructor) fun w hs => ?_
  exact ⟨c1, rfl, hs.sp (by repeat constructor)⟩
theorem span_ca (lo hi : Int) (w : World) : Ca Tryz.prog 52 [.int .i64 lo, .int .i64 hi] w fun x w' => x = rtV (lo, hi) ∧ Chg [] w w' := by
  refine q_of (Sat.nil w M0) Tryz.func52 rfl (by simp [Tryz.ntmps52]) ?_
  (refine q_seq (q_region ?_))
  refine ql_alloc zero64 rfl (fun b4 => ?_)
  (refine q_nil (q_seq (q_region (ql_pure tabOk rfl rfl (ql_pure tabOk rfl rfl ?_)))))
  refine ql_mk #[.int .i64 lo, .int .i64 hi] rfl (by kernel_rfl) rfl ?_
  (refine ql_setA tabOk rfl rfl rfl rfl rfl (by repeat constructor) rfl ?_; refine q_nil (q_ret ?_))
  refine q_fin tabOk rfl (by repeat constructor) fun w hs => ?_
  exact ⟨rfl, hs.chg0⟩
theorem blk_II {w : World} {c1 c2 c3 c4 : Nat} {t1 t2 t3 t4 : TypeId} {l1 l2 l3 : List Int} {n1 n2 n3 : Nat} (e1 : n1 = l1.length) (e2 : n2 = l2.length) (e3 : n3 = l3.length) (h1 : Blk w c1 (ints l1) t1) (h2 : Blk w c2 (ints l2) t2) (h3 : Blk w c3 (ints l3) t3)
    (h4 : Blk w c4 [.slice (some ⟨c1, 0, none⟩) n1 n1, .slice (some ⟨c2, 0, none⟩) n2 n2, .slice (some ⟨c3, 0, none⟩) n3 n3] t4) : RdII w 0 w.heap.size (.slice (some ⟨c4, 0, none⟩) 3 3) [l1, l2, l3] := by
  subst e1 e2 e3
  refine ⟨[.slice (some ⟨c1, 0, none⟩) l1.length l1.length, .slice (some ⟨c2, 0, none⟩) l2.length l2.length, .slice (some ⟨c3, 0, none⟩) l3.length l3.length], RdE.one (by have := Blk.rdN (c := 3) (sz := 1) (q := 3) h4 rfl; exact this) (by simp [oneV]), rfl, fun i hi hi' => ?_⟩
  obtain rfl | rfl | rfl : i = 0 ∨ i = 1 ∨ i = 2 := by simp at hi; omega
  · exact Blk.rdI h1
  · exact Blk.rdI h2
  · exact Blk.rdI h3
theorem aw_ok : fourL.Ok ∧ NoC fourL.ord fourL.n := agreed_iff.1 aw_check
theorem aw_plan : PlanOk fourL 4 := planned_iff.1 (by decide +kernel)
theorem aw_few2 : planO fourL.n 4 fourL.ord = 2 := by decide +kernel
theorem aw_n : fourL.n = 4 := by decide
theorem aw_ord2 : cnt fourL.ord fourL.n (2 ^ fourL.n - 1) = 3 := aw_orders
theorem aw_pl2 : plC fourL fourL.ord fourL.n = [(1, 1), (2, 3), (3, 4), (2, 4)] := aw_places
theorem aw_wax2 : bestV threeT 0 2 = (1, 1, 0) := by decide +kernel
theorem aw_lim : limitV threeT 1 = 0 := by decide +kernel
set_option maxHeartbeats 4000000 in
set_option maxRecDepth 4000 in
theorem awake_ca (w : World) : Ca Tryz.prog 10 [] w fun v w' => v = .bool true ∧ Chg [] w w' := by
  refine q_of (Sat.nil w M0) Tryz.func10 rfl (by simp [Tryz.ntmps10]) ?_
  have hF : ∀ w' b, Blk w' b (rnC fourL.runs) 40 → RdR w' 0 w'.heap.size (.slice (some ⟨b, 0, none⟩) 4 4) fourL.runs := fun w' b hb => Blk.rdR' hb rfl
  (refine q_seq (q_region (ql_pure tabOk rfl rfl (q_nil (q_seq (q_region ?_))))))
  refine ql_call (β := Nat) tabOk [] _ M0 rfl rfl rfl rfl (Sp.refl _) (fun _ h => h.elim) (fun w' hs => four_ca w') ?_
  rintro b1 _ rfl
  dsimp only [List.cons_append, List.nil_append]
  refine ql_call (β := Value) tabOk [] _ M0 rfl rfl rfl rfl (Sp.refl _) (fun _ h => h.elim) (fun w' hs => places_ok w' 0 w'.heap.size fourL _ (hF w' b1 (hs.blk (by repeat constructor))) aw_ok.1 aw_ok.2) ?_
  rintro va _ rfl
  rw [aw_pl2, aw_n]
  dsimp only [List.cons_append, List.nil_append]
  refine ql_fact (fun w hs => hs.ownSome (v := va) (by repeat constructor) (by decide)) ?_
  rintro ⟨a1, a2, rfl⟩
  (refine ql_pure tabOk rfl rfl (ql_ext tabOk rfl rfl rfl (ql_ext tabOk rfl rfl rfl (ql_pure tabOk rfl rfl (ql_pure tabOk rfl rfl (q_nil (q_seq (q_region ?_))))))))
  refine ql_call (β := Nat) tabOk [] _ M0 rfl rfl rfl rfl (Sp.refl _) (fun _ h => h.elim) (fun w' hs => four_ca w') ?_
  rintro b2 _ rfl
  dsimp only [List.cons_append, List.nil_append]
  refine ql_callv (val := .tuple #[.int .i64 3, .int .i64 0]) tabOk rfl rfl rfl rfl (fun w hs => ?_) ?_; exact by have := orders_ok w 0 w.heap.size fourL _ (hF w b2 (hs.blk (by repeat constructor))) aw_ok.1 aw_ok.2; rw [aw_ord2] at this; exact this
  (refine ql_pure tabOk rfl rfl (ql_ext tabOk rfl rfl rfl (ql_ext tabOk rfl rfl rfl (ql_pure tabOk rfl rfl (ql_pure tabOk rfl rfl (q_nil (q_seq (q_region ?_))))))))
  refine ql_call (β := Nat) tabOk [] _ M0 rfl rfl rfl rfl (Sp.refl _) (fun _ h => h.elim) (fun w' hs => four_ca w') ?_
  rintro b3 _ rfl
  dsimp only [List.cons_append, List.nil_append]
  refine ql_mkS 3 (ints [0, 2]) rfl (by kernel_rfl) rfl (fun c1 => ?_)
  refine ql_callv (val := .tuple #[.bool true, .int .i64 0]) tabOk rfl rfl rfl rfl (fun w hs => ?_) ?_; exact by have := chainShows_ca w 0 w.heap.size 0 w.heap.size fourL _ 0 2 _ [0, 2] (hF w b3 (hs.blk (by repeat constructor))) (by decide) (Blk.rdI (c := 2) (hs.blk (b := c1) (by repeat constructor))) (by decide); rw [aw_chain] at this; exact this
  (refine ql_pure tabOk rfl rfl (ql_ext tabOk rfl rfl rfl (ql_ext tabOk rfl rfl rfl (ql_pure tabOk rfl rfl (ql_pure tabOk rfl rfl (q_nil (q_seq (q_region ?_))))))))
  refine ql_call (β := Nat) tabOk [] _ M0 rfl rfl rfl rfl (Sp.refl _) (fun _ h => h.elim) (fun w' hs => four_ca w') ?_
  rintro b4 _ rfl
  dsimp only [List.cons_append, List.nil_append]
  refine ql_callv (val := .tuple #[.int .i64 2, .int .i64 0]) tabOk rfl rfl rfl rfl (fun w hs => ?_) ?_; exact by have := fewest_ok w 0 w.heap.size fourL _ 4 (hF w b4 (hs.blk (by repeat constructor))) aw_plan; rw [aw_few2] at this; exact this
  (refine ql_pure tabOk rfl rfl (ql_ext tabOk rfl rfl rfl (ql_ext tabOk rfl rfl rfl (ql_pure tabOk rfl rfl (ql_pure tabOk rfl rfl (q_nil (q_seq (q_seq (q_region (ql_pure tabOk rfl rfl (ql_neqF tabOk rfl rfl rfl (by omega) (ql_pure tabOk rfl rfl ?_))))))))))); refine ql_gyes rfl (ql_pure tabOk rfl rfl (ql_gyes rfl (ql_neqF tabOk rfl rfl rfl (by omega) (ql_pure tabOk rfl rfl (ql_pure tabOk rfl rfl (ql_gyes rfl (ql_pure tabOk rfl rfl (ql_gyes rfl (ql_neqF tabOk rfl rfl rfl (by omega) (ql_pure tabOk rfl rfl (ql_pure tabOk rfl rfl ?_))))))))))); refine ql_gyes rfl (ql_pure tabOk rfl rfl (ql_gyes rfl (ql_neqF tabOk rfl rfl rfl (by omega) (ql_pure tabOk rfl rfl (ql_pure tabOk rfl rfl (ql_gyes rfl (ql_pure tabOk rfl rfl (ql_gyes rfl ?_)))))))))
  refine ql_callv (val := rtV (1, 1)) tabOk rfl rfl rfl rfl (fun w hs => ?_) ?_; exact span_ca 1 1 w
  refine ql_gyes rfl ?_
  refine ql_callv (val := rtV (2, 3)) tabOk rfl rfl rfl rfl (fun w hs => ?_) ?_; exact span_ca 2 3 w
  refine ql_gyes rfl ?_
  refine ql_callv (val := rtV (3, 4)) tabOk rfl rfl rfl rfl (fun w hs => ?_) ?_; exact span_ca 3 4 w
  refine ql_gyes rfl ?_
  refine ql_callv (val := rtV (2, 4)) tabOk rfl rfl rfl rfl (fun w hs => ?_) ?_; exact span_ca 2 4 w
  refine ql_gyes rfl ?_
  refine ql_mkS 64 (spC [(1, 1), (2, 3), (3, 4), (2, 4)]) rfl (by kernel_rfl) rfl (fun c2 => ?_)
  refine ql_gyes rfl ?_
  refine ql_callv (val := .bool true) tabOk rfl rfl rfl rfl (fun w hs => ?_) ?_; exact eqS_ca w 0 w.heap.size 0 w.heap.size _ _ [(1, 1), (2, 3), (3, 4), (2, 4)] (own_rdS (t := 64) (hs.mem (c := .ow (.slice (some ⟨a1, 0, none⟩) 4 a2) 64 2 4 (spC [(1, 1), (2, 3), (3, 4), (2, 4)])) (by repeat constructor)) rfl) (Blk.rdS' (c := 4) (hs.blk (b := c2) (by repeat constructor)) rfl) (by decide)
  (refine ql_gyes rfl ?_; (iterate 3 refine ql_pure tabOk rfl rfl ?_); refine ql_gyes rfl (ql_pure tabOk rfl rfl (ql_gyes rfl (ql_neqF tabOk rfl rfl rfl (by omega) (ql_pure tabOk rfl rfl (ql_pure tabOk rfl rfl (ql_gyes rfl (ql_pure tabOk rfl rfl (ql_gyes rfl ?_)))))))); (iterate 3 refine ql_pure tabOk rfl rfl ?_); refine ql_gyes rfl (ql_pure tabOk rfl rfl (ql_gyes rfl (ql_neqF tabOk rfl rfl rfl (by omega) (ql_pure tabOk rfl rfl (q_nil (q_cond_false rfl (q_skip (q_seq (q_region ?_))))))))))
  have hT : ∀ w' x1 x2 x3 x4, Blk w' x4 [.slice (some ⟨x1, 0, none⟩) 4 4, .slice (some ⟨x2, 0, none⟩) 4 4, .slice (some ⟨x3, 0, none⟩) 4 4] 48 → Blk w' x3 (ints [9, 9, 2, 1]) 3 → Blk w' x2 (ints [6, 2, 3, 8]) 3 → Blk w' x1 (ints [5, 4, 9, 9]) 3 → RdII w' 0 w'.heap.size (.slice (some ⟨x4, 0, none⟩) 3 3) threeT := fun w' x1 x2 x3 x4 h4 h3 h2 h1 => blk_II (l1 := [5, 4, 9, 9]) (l2 := [6, 2, 3, 8]) (l3 := [9, 9, 2, 1]) rfl rfl rfl h1 h2 h3 h4
  refine ql_call (β := Nat × Nat × Nat × Nat) tabOk [] _ M0 rfl rfl rfl rfl (Sp.refl _) (fun _ h => h.elim) (fun w' hs => three_ca w') ?_
  rintro ⟨x1, x2, x3, x4⟩ _ rfl
  dsimp only [List.cons_append, List.nil_append]
  refine ql_callv (val := .tuple #[.int .i64 1, .int .i64 1, .int .i64 0]) tabOk rfl rfl rfl rfl (fun w hs => ?_) ?_; exact by have := wax_ca w 0 w.heap.size _ threeT 0 2 (hT w x1 x2 x3 x4 (hs.blk (by repeat constructor)) (hs.blk (by repeat constructor)) (hs.blk (by repeat constructor)) (hs.blk (by repeat constructor))); rw [aw_wax2] at this; exact this
  (refine ql_pure tabOk rfl rfl ?_; (iterate 3 refine ql_ext tabOk rfl rfl rfl ?_); (iterate 3 refine ql_pure tabOk rfl rfl ?_); refine q_nil (q_seq (q_region ?_)))
  refine ql_call (β := Nat × Nat × Nat × Nat) tabOk [] _ M0 rfl rfl rfl rfl (Sp.refl _) (fun _ h => h.elim) (fun w' hs => three_ca w') ?_
  rintro ⟨y1, y2, y3, y4⟩ _ rfl
  dsimp only [List.cons_append, List.nil_append]
  refine ql_call (β := Value) tabOk [] _ M0 rfl rfl rfl rfl (Sp.refl _) (fun _ h => h.elim) (fun w' hs => zones_ok w' 0 w'.heap.size _ threeT 1 (hT w' y1 y2 y3 y4 (hs.blk (by repeat constructor)) (hs.blk (by repeat constructor)) (hs.blk (by repeat constructor)) (hs.blk (by repeat constructor))) aw_lim) ?_
  rintro vz _ rfl
  rw [aw_zones]
  dsimp only [List.cons_append, List.nil_append, List.length_cons, List.length_nil]
  refine ql_fact (fun w hs => hs.ownSome (v := vz) (by repeat constructor) (by decide)) ?_
  rintro ⟨z1, z2, rfl⟩
  (refine ql_pure tabOk rfl rfl (ql_ext tabOk rfl rfl rfl (ql_ext tabOk rfl rfl rfl (ql_pure tabOk rfl rfl (ql_pure tabOk rfl rfl (q_nil (q_seq (q_region ?_))))))))
  refine ql_call (β := Nat × Nat × Nat × Nat) tabOk [] _ M0 rfl rfl rfl rfl (Sp.refl _) (fun _ h => h.elim) (fun w' hs => three_ca w') ?_
  rintro ⟨u1, u2, u3, u4⟩ _ rfl
  dsimp only [List.cons_append, List.nil_append]
  refine ql_mkS 3 (ints [0, 3]) rfl (by kernel_rfl) rfl (fun c3 => ?_)
  refine ql_callv (val := .tuple #[.bool true, .int .i64 0]) tabOk rfl rfl rfl rfl (fun w hs => ?_) ?_; exact by have := breaksShow_ca w 0 w.heap.size 0 w.heap.size _ _ threeT 1 [0, 3] (hT w u1 u2 u3 u4 (hs.blk (by repeat constructor)) (hs.blk (by repeat constructor)) (hs.blk (by repeat constructor)) (hs.blk (by repeat constructor))) (Blk.rdI (c := 2) (hs.blk (b := c3) (by repeat constructor))) (by decide); rw [aw_breaks] at this; exact this
  (refine ql_pure tabOk rfl rfl (ql_ext tabOk rfl rfl rfl (ql_ext tabOk rfl rfl rfl (ql_pure tabOk rfl rfl (ql_pure tabOk rfl rfl (q_nil (q_seq (q_region ?_))))))))
  refine ql_call (β := Nat) tabOk [] _ M0 rfl rfl rfl rfl (Sp.refl _) (fun _ h => h.elim) (fun w' hs => six_ca w') ?_
  rintro s1 _ rfl
  dsimp only [List.cons_append, List.nil_append]
  refine ql_call (β := Value) tabOk [] _ M0 rfl rfl rfl rfl (Sp.refl _) (fun _ h => h.elim) (fun w' hs => match_ok w' 0 w'.heap.size _ sixL (show RdI w' 0 w'.heap.size (.slice (some ⟨s1, 0, none⟩) 6 6) sixL from Blk.rdI (c := 6) (l := sixL) (hs.blk (b := s1) (by repeat constructor))) (sing_iff.1 aw_sing)) ?_
  rintro vm _ rfl
  rw [aw_cost]
  dsimp only [List.cons_append, List.nil_append]
  (refine ql_pure tabOk rfl rfl ?_; (iterate 3 refine ql_ext tabOk rfl rfl rfl ?_); (iterate 3 refine ql_pure tabOk rfl rfl ?_); refine q_nil (q_seq (q_region ?_)))
  refine ql_call (β := Nat) tabOk [] _ M0 rfl rfl rfl rfl (Sp.refl _) (fun _ h => h.elim) (fun w' hs => six_ca w') ?_
  rintro s2 _ rfl
  dsimp only [List.cons_append, List.nil_append]
  refine ql_callv (val := rtV (20, 23)) tabOk rfl rfl rfl rfl (fun w hs => ?_) ?_; exact span_ca 20 23 w
  refine ql_callv (val := rtV (38, 41)) tabOk rfl rfl rfl rfl (fun w hs => ?_) ?_; exact span_ca 38 41 w
  refine ql_callv (val := rtV (50, 60)) tabOk rfl rfl rfl rfl (fun w hs => ?_) ?_; exact span_ca 50 60 w
  refine ql_mkS 64 (spC [(20, 23), (38, 41), (50, 60)]) rfl (by kernel_rfl) rfl (fun c4 => ?_)
  refine ql_callv (val := .tuple #[.int .i64 16, .int .i64 0]) tabOk rfl rfl rfl rfl (fun w hs => ?_) ?_; exact by have := gapsShow_ca w 0 w.heap.size 0 w.heap.size _ _ sixL [(20, 23), (38, 41), (50, 60)] (show RdI w 0 w.heap.size (.slice (some ⟨s2, 0, none⟩) 6 6) sixL from Blk.rdI (c := 6) (l := sixL) (hs.blk (b := s2) (by repeat constructor))) (Blk.rdS' (c := 3) (hs.blk (b := c4) (by repeat constructor)) rfl) (by decide); rw [aw_gaps] at this; exact this
  (refine ql_pure tabOk rfl rfl (ql_ext tabOk rfl rfl rfl (ql_ext tabOk rfl rfl rfl (ql_pure tabOk rfl rfl (ql_pure tabOk rfl rfl (q_nil (q_seq (q_region (ql_pure tabOk rfl rfl (ql_eqlT tabOk rfl rfl rfl (by omega) (ql_pure tabOk rfl rfl (ql_gyes rfl ?_))))))))))); refine ql_pure tabOk rfl rfl (ql_gyes rfl (ql_eqlT tabOk rfl rfl rfl (by omega) (ql_pure tabOk rfl rfl (ql_pure tabOk rfl rfl (ql_gyes rfl (ql_pure tabOk rfl rfl (ql_gyes rfl (ql_eqlT tabOk rfl rfl rfl (by omega) (ql_pure tabOk rfl rfl (ql_pure tabOk rfl rfl (ql_gyes rfl ?_))))))))))); refine ql_pure tabOk rfl rfl (ql_gyes rfl (ql_eqlT tabOk rfl rfl rfl (by omega) (ql_pure tabOk rfl rfl (ql_pure tabOk rfl rfl (ql_gyes rfl (ql_pure tabOk rfl rfl (ql_gyes rfl (ql_eqlT tabOk rfl rfl rfl (by omega) (ql_pure tabOk rfl rfl (ql_pure tabOk rfl rfl (ql_gyes rfl ?_))))))))))); refine ql_pure tabOk rfl rfl (ql_gyes rfl (ql_eqlT tabOk rfl rfl rfl (by omega) (ql_pure tabOk rfl rfl (ql_pure tabOk rfl rfl (ql_gyes rfl (ql_pure tabOk rfl rfl (ql_gyes rfl (ql_eqlT tabOk rfl rfl rfl (by omega) (ql_pure tabOk rfl rfl (ql_pure tabOk rfl rfl (ql_gyes rfl ?_))))))))))); refine ql_pure tabOk rfl rfl (ql_gyes rfl ?_))
  refine ql_mk #[.int .i64 0, .int .i64 2, .int .i64 1] rfl (by kernel_rfl) rfl ?_
  refine ql_gyes rfl ?_
  refine ql_mk #[.int .i64 3, .int .i64 3, .int .i64 2] rfl (by kernel_rfl) rfl ?_
  refine ql_gyes rfl ?_
  refine ql_mkS 111 (rnC [⟨0, 2, 1⟩, ⟨3, 3, 2⟩]) rfl (by kernel_rfl) rfl (fun c5 => ?_)
  refine ql_gyes rfl ?_
  refine ql_callv (val := .bool true) tabOk rfl rfl rfl rfl (fun w hs => ?_) ?_; exact eqZ_ca w 0 w.heap.size 0 w.heap.size _ _ [⟨0, 2, 1⟩, ⟨3, 3, 2⟩] (own_rdR (t := 111) (hs.mem (c := .ow (.slice (some ⟨z1, 0, none⟩) 2 z2) 111 3 2 (rnC [⟨0, 2, 1⟩, ⟨3, 3, 2⟩])) (by repeat constructor)) rfl) (Blk.rdR' (c := 2) (hs.blk (b := c5) (by repeat constructor)) rfl) (by decide)
  (refine ql_pure tabOk rfl rfl (ql_pure tabOk rfl rfl (ql_gyes rfl ?_)); (iterate 3 refine ql_pure tabOk rfl rfl ?_); refine ql_gyes rfl (ql_pure tabOk rfl rfl (ql_gyes rfl (ql_eqlT tabOk rfl rfl rfl (by omega) (ql_pure tabOk rfl rfl (ql_pure tabOk rfl rfl (ql_gyes rfl (ql_pure tabOk rfl rfl (ql_gyes rfl (ql_pure tabOk rfl rfl (ql_gyes rfl (ql_eqlT tabOk rfl rfl rfl (by omega) ?_))))))))))); refine ql_pure tabOk rfl rfl (ql_pure tabOk rfl rfl (q_nil (q_ret ?_))))
  refine q_fin tabOk rfl (by repeat constructor) fun w hs => ?_
  exact ⟨rfl, hs.chg0⟩
end Go.Proofs.YtcmpdmobmbbplaaGreat

/- Walks: klisterkit's deck. Only the ranges of what it deals are told. -/
namespace Go.Proofs.YtcmpdmobmbbplaaGreat
set_option maxRecDepth 4000
open Go Go.Eng

section
attribute [local irreducible] IntKind.wrap Int.tmod Int.tdiv

/-- The deck's own variable, after at most K cards. -/
def DkS (w : World) (b : Nat) (bs : Value) (K : Nat) : Prop :=
  ∃ next st, Blk w b [bs, .int .i64 next, .int .u32 st] 137 ∧ 0 ≤ next ∧ next ≤ K ∧ 0 ≤ st ∧ st < 4294967296
/-- Its bytes. -/
def DkB (w : World) (lo hi : Nat) (bs : Value) : Prop := ∃ nb cs, Rd w lo hi bs 1 nb cs ∧ (∀ c ∈ cs, ∃ x, c = .int .u8 x ∧ 0 ≤ x ∧ x < 256)
theorem DkB.keep {w w' : World} {lo hi : Nat} {bs : Value} (h : DkB w lo hi bs) (c : Chg [] w w') : DkB w' lo hi bs := by
  obtain ⟨nb, cs, h1, h2⟩ := h
  exact ⟨nb, cs, h1.keep c, h2⟩

end
/-- A deck, after at most K cards. -/
def dkP (bs : Value) (b K : Nat) : Ck := .gn (fun x => x = b) (fun w => DkS w b bs K) (fun w w' N h hc hN => by
  obtain ⟨next, st, h1, h2⟩ := h
  exact ⟨next, st, (hc.block b h1.lt (hN b rfl)).trans h1, h2⟩)

theorem DkS.mono {w : World} {b K K' : Nat} {bs : Value} (h : DkS w b bs K) (hk : K ≤ K') : DkS w b bs K' := by
  obtain ⟨next, st, h1, h2, h3, h4⟩ := h
  exact ⟨next, st, h1, h2, by omega, h4⟩
section
variable {K b : Nat} {bs : Value} {w0 w : World} {R : List Ck}
end
end Go.Proofs.YtcmpdmobmbbplaaGreat

/- Walks: a lab is made of numbers. -/
namespace Go.Proofs.YtcmpdmobmbbplaaGreat
set_option maxRecDepth 4000
open Go Go.Eng

/-- What a lab that was made has. -/
structure MadeL (most runs : Nat) (l : Lb) (real : List Int) : Prop where
  ok : l.Ok
  s2 : 2 ≤ l.skis
  sm : l.skis ≤ most
  e12 : l.err ≤ 11
  len : l.runs.length ≤ runs
  tr : l.True real
  rl : real.length = l.n
  rb : ∀ x ∈ real, 0 ≤ x ∧ x ≤ 96
theorem slR : SlT Tryz.prog 22 40 3 24 (.agg #[.int .i64 0, .int .i64 0, .int .i64 0]) := ⟨by kernel_rfl, by kernel_rfl, by kernel_rfl, by decide⟩
end Go.Proofs.YtcmpdmobmbbplaaGreat

/- Walks: tables are made of numbers, and copied. -/
namespace Go.Proofs.YtcmpdmobmbbplaaGreat
set_option maxRecDepth 4000
open Go Go.Eng

theorem slII : SlT Tryz.prog 70 48 1 24 (.slice none 0 0) := ⟨by kernel_rfl, by kernel_rfl, by kernel_rfl, by decide⟩
theorem rows_add {w0 w : World} {M : Nat → Prop} {R : List Ck} {t : Nat} {xs : List (Value × List Int)} {u : Value} {r : List Int} (h : Sat w0 M (.ow u t 1 r.length (ints r) :: un (rowsO t xs) :: R) w) : Sat w0 M (un (rowsO t (xs ++ [(u, r)])) :: R) w :=
  (Sat.un_in h).un_perm (L' := rowsO t (xs ++ [(u, r)])) (by unfold rowsO; rw [List.map_append]; exact (List.perm_append_comm (l₁ := [_])))
end Go.Proofs.YtcmpdmobmbbplaaGreat

/- Walks: the regrets of a table; lists of lists copied. -/
namespace Go.Proofs.YtcmpdmobmbbplaaGreat
set_option maxRecDepth 4000
open Go Go.Eng

end Go.Proofs.YtcmpdmobmbbplaaGreat

/- Walks: breaks; slices.Clone; waxes that are good on a snow. -/
namespace Go.Proofs.YtcmpdmobmbbplaaGreat
set_option maxRecDepth 4000
open Go Go.Eng

/-- Chosen waxes as numbers. -/
def chI (ch : List Nat) : List Int := ch.map fun (x : Nat) => (x : Int)
theorem chI_len (ch : List Nat) : (chI ch).length = ch.length := by simp [chI]
def pGd (R : List (List Int)) (most : Int) (s : Nat) : Value → Bool
  | .int _ i => decide ((R.getD i.toNat []).getD s 0 ≤ most)
  | _ => false
end Go.Proofs.YtcmpdmobmbbplaaGreat

/- SkiWaxed. -/
namespace Go.Proofs.YtcmpdmobmbbplaaGreat
set_option maxRecDepth 4000
open Go Go.Eng

theorem row_cell {w0 w : World} {M : Nat → Prop} {H : List Ck} {t g c n m : Nat} {X : List (Value × List Int)} {u : Value} (hs : Sat w0 M H w) (hm : Ck.ow (.slice (some ⟨g, 0, none⟩) m c) t 1 m (X.map (·.1)) ∈ H) {i : Nat} (hi : i < X.length) (hu : X[i].1 = u) (hin : n = 0 + i * 1) : w.cell? ⟨g, n, none⟩ = some u := by
  subst hin
  rw [Nat.mul_one, Nat.zero_add]
  exact own_cellS (hs.mem hm) i (by rw [List.getElem?_map, List.getElem?_eq_getElem hi, Option.map_some, hu])
theorem row_at {w0 w : World} {M : Nat → Prop} {H : List Ck} {t g c n m : Nat} {X : List (Value × List Int)} {x : Int} (hs : Sat w0 M H w) (hm : un (rowsO t X) ∈ H) {i : Nat} (hi : i < X.length) (hu : X[i].1 = .slice (some ⟨g, 0, none⟩) m c) {s : Nat} (hss : s < X[i].2.length) (hx : X[i].2.getD s 0 = x) (hin : n = 0 + s * 1) : w.cell? ⟨g, n, none⟩ = some (.int .i64 x) := by
  subst hin
  have h := (wx_row hs hm i hi).1
  rw [hu] at h
  have := RdI.at h s hss
  rw [this, ← hx, getD_get hss]
def addR (s : Nat) (d : Int) (p : Value × List Int) : Value × List Int := (p.1, p.2.set s (p.2.getD s 0 + d))
/-- The first rows are changed. -/
def addK (s : Nat) (d : Int) (X : List (Value × List Int)) (k : Nat) : List (Value × List Int) := (X.take k).map (addR s d) ++ X.drop k
end Go.Proofs.YtcmpdmobmbbplaaGreat

/- Walks of the reference: all orders of skis. -/
namespace Go.Proofs.YtcmpdmobmbbplaaGreat
set_option maxRecDepth 4000
open Go Go.Eng
def extP (n : Nat) (p : List Nat) : List (List Nat) := ((List.range n).filter fun s => !decide (s ∈ p)).map fun s => p ++ [s]
theorem permN_succ (n i : Nat) : permN n (i + 1) = (permN n i).flatMap (extP n) := rfl
def nxt (PL : List (List Nat)) (n k s : Nat) : List (List Nat) := (PL.take k).flatMap (extP n) ++ ((List.range s).filter fun x => !decide (x ∈ PL.getD k [])).map fun x => PL.getD k [] ++ [x]
section
variable {PL : List (List Nat)} {n k s : Nat}
theorem nxt_zero : nxt PL n 0 0 = [] := by simp [nxt]
theorem nxt_yes (h : s ∉ PL.getD k []) : nxt PL n k (s + 1) = nxt PL n k s ++ [PL.getD k [] ++ [s]] := by
  unfold nxt
  rw [List.range_succ, List.filter_append, List.map_append, ← List.append_assoc]
  congr 1
  have h2 : ¬ s ∈ PL[k]?.getD [] := by rw [← List.getD_eq_getElem?_getD]; exact h
  simp [h2]
theorem nxt_no (h : s ∈ PL.getD k []) : nxt PL n k (s + 1) = nxt PL n k s := by
  unfold nxt
  rw [List.range_succ, List.filter_append, List.map_append]
  have h2 : s ∈ PL[k]?.getD [] := by rw [← List.getD_eq_getElem?_getD]; exact h
  simp [h2]
theorem nxt_row (h : k < PL.length) : nxt PL n k n = nxt PL n (k + 1) 0 := by
  unfold nxt
  rw [List.take_succ_eq_append_getElem h, List.flatMap_append]
  have e : PL.getD k [] = PL[k] := by rw [List.getD_eq_getElem?_getD, List.getElem?_eq_getElem h, Option.getD_some]
  rw [e]
  simp [extP]
theorem nxt_all : nxt PL n PL.length 0 = PL.flatMap (extP n) := by simp [nxt]
theorem flat_le {α β : Type} (f : α → List β) (c : Nat) : ∀ l : List α, (∀ a ∈ l, (f a).length ≤ c) → (l.flatMap f).length ≤ l.length * c
  | [], _ => by simp
  | a :: l, h => by
    have h1 := h a List.mem_cons_self
    have h2 := flat_le f c l fun b hb => h b (List.mem_cons_of_mem _ hb)
    rw [List.flatMap_cons, List.length_append, List.length_cons, Nat.add_mul, Nat.one_mul]
    omega
theorem ext_le (n : Nat) (p : List Nat) : (extP n p).length ≤ n := by
  unfold extP
  rw [List.length_map]
  have := List.length_filter_le (fun s => !decide (s ∈ p)) (List.range n)
  rwa [List.length_range] at this
theorem perm_le (hn : n ≤ 6) : ∀ i, (permN n i).length ≤ 6 ^ i
  | 0 => by simp [permN]
  | i + 1 => by
    have h1 := flat_le (extP n) 6 (permN n i) fun p _ => Nat.le_trans (ext_le n p) hn
    have h2 := perm_le hn i
    rw [permN_succ, Nat.pow_succ]
    exact Nat.le_trans h1 (Nat.mul_le_mul_right 6 h2)
theorem perm_bd (hn : n ≤ 6) {i : Nat} (hi : i ≤ 6) : (permN n i).length ≤ 46656 := Nat.le_trans (perm_le hn i) (by have := Nat.pow_le_pow_right (show 0 < 6 by omega) hi; simpa using this)
theorem nxt_le (hn : n ≤ 6) (hs : s ≤ 6) (hP : PL.length ≤ 46656) : (nxt PL n k s).length ≤ 300000 := by
  unfold nxt
  have h1 := flat_le (extP n) 6 (PL.take k) fun p _ => Nat.le_trans (ext_le n p) hn
  have h2 := List.length_take_le' k PL
  have h3 := List.length_filter_le (fun x => !decide (x ∈ PL.getD k [])) (List.range s)
  rw [List.length_range] at h3
  rw [List.length_append, List.length_map]
  have h4 : (PL.take k).length * 6 ≤ 46656 * 6 := Nat.mul_le_mul_right 6 (Nat.le_trans h2 hP)
  omega
end
theorem rowN {w0 w : World} {M : Nat → Prop} {H : List Ck} {t : Nat} {X : List (Value × List Int)} (hs : Sat w0 M H w) (hm : un (rowsO t X) ∈ H) {i : Nat} (hi : i < X.length) : ∃ a c, X[i].1 = .slice a X[i].2.length c ∧ (0 < X[i].2.length → ∃ g, a = some ⟨g, 0, none⟩) := by
  have h2 : w.ownsRow 0 t 1 X[i].1 X[i].2.length (ints X[i].2) := (hs.mem hm).1 (.ow X[i].1 t 1 X[i].2.length (ints X[i].2)) (List.mem_map.2 ⟨_, List.getElem_mem hi, rfl⟩)
  rcases h2.2 with ⟨h3, h4⟩ | ⟨g, cap, cur, h3, _⟩
  · exact ⟨none, 0, by rw [h3, h4], fun h => by omega⟩
  · exact ⟨_, _, h3, fun _ => ⟨g, rfl⟩⟩
set_option maxHeartbeats 4000000 in
theorem perms_ca (n : Nat) (hn : n ≤ 6) (w : World) :
    Ca Tryz.prog 87 [.int .i64 n] w fun x w' => ∃ y : Value × List (Value × List Int), (x = y.1 ∧ y.2.map (·.2) = (permN n n).map chI) ∧ Sat w M0 [un (rowsO 3 y.2), .ow y.1 48 1 y.2.length (y.2.map (·.1))] w' := by
  refine q_of (Sat.nil w M0) Tryz.func87 rfl (by simp [Tryz.ntmps87]) ?_
  (refine q_seq (q_region (ql_pure tabOk rfl rfl (q_nil (q_seq (q_region ?_))))))
  refine ql_mkS0 3 rfl (by kernel_rfl) rfl (fun b10 => ?_)
  skip
  refine ql_mkS 48 [.slice (some ⟨b10, 0, none⟩) 0 0] rfl (by kernel_rfl) rfl (fun b11 => ?_)
  (refine ql_pure tabOk rfl rfl (q_nil (q_seq (q_seq (q_region (ql_pure tabOk rfl rfl (q_nil (q_block ?_))))))))
  refine q_conv (H' := [un (rowsO 3 [(.slice (some ⟨b10, 0, none⟩) 0 0, [])]), .ow (.slice (some ⟨b11, 0, none⟩) 1 1) 48 1 1 [.slice (some ⟨b10, 0, none⟩) 0 0]]) (fun w' hs => by
    have h1 := Sat.un_nil (Sat.pt_ow (sz := 1) (m := 1) rfl (by omega) (hs.sp (H' := [.pt b11 [.slice (some ⟨b10, 0, none⟩) 0 0] 48, .ow (.slice (some ⟨b10, 0, none⟩) 0 0) 3 1 0 []]) (by repeat constructor)))
    have h2 := rows_add (xs := []) (u := .slice (some ⟨b10, 0, none⟩) 0 0) (r := []) (t := 3) (R := [.ow (.slice (some ⟨b11, 0, none⟩) 1 1) 48 1 1 [.slice (some ⟨b10, 0, none⟩) 0 0]]) (h1.sp (H' := [.ow (.slice (some ⟨b10, 0, none⟩) 0 0) 3 1 0 [], un (rowsO 3 []), .ow (.slice (some ⟨b11, 0, none⟩) 1 1) 48 1 1 [.slice (some ⟨b10, 0, none⟩) 0 0]]) (by repeat constructor))
    exact h2.sp (by repeat constructor)) ?_
  refine q_loop (σ := Nat × Value × List (Value × List Int)) (fun z => z.1 ≤ n ∧ z.2.2.map (·.2) = (permN n z.1).map chI) (fun z => n - z.1) (fun z => [(0, .int .i64 n), (3, z.2.1), (4, .int .i64 z.1)]) (fun z => [un (rowsO 3 z.2.2), .ow z.2.1 48 1 z.2.2.length (z.2.2.map (·.1))]) (0, .slice (some ⟨b11, 0, none⟩) 1 1, [(.slice (some ⟨b10, 0, none⟩) 0 0, [])]) ⟨by simp, rfl⟩ ⟨rfl, rfl, rfl, trivial⟩ (by repeat constructor) ?_
  rintro ⟨i, v3, Y⟩ ⟨hi, hY⟩ K hK
  dsimp only at hi hY hK ⊢
  have hYl : Y.length = (permN n i).length := by have := congrArg List.length hY; simpa using this
  have hPb := perm_bd hn (i := i) (by omega)
  (refine q_seq (q_seq (q_region ?_)); (iterate 3 refine ql_pure tabOk rfl rfl ?_); refine q_nil ?_)
  refine q_if rfl (fun hc => ?_) (fun hc => ?_)
  · have hi2 : i < n := by omega
    clear hc
    obtain ⟨PL, hPL⟩ : ∃ PL, PL = permN n i := ⟨_, rfl⟩
    have hsuc := permN_succ n i
    rw [← hPL] at hY hYl hPb hsuc
    refine q_fact (fun w hs => hs.slice2 (v := v3) (by repeat constructor)) ?_
    rintro ⟨a3, c3, rfl⟩
    (refine q_skip (q_seq (q_block (q_seq (q_region (ql_pure tabOk rfl rfl (q_nil (q_seq (q_seq (q_region (ql_pure tabOk rfl rfl (q_nil ?_))))))))))); refine q_block ?_)
    refine q_conv (H' := [un (rowsO 3 []), .ow (.slice none 0 0) 48 1 0 [], un (rowsO 3 Y), .ow (.slice a3 Y.length c3) 48 1 Y.length (Y.map (·.1))]) (fun w' hs => (Sat.un_nil (Sat.ownil hs 48 1)).sp (by repeat constructor)) ?_
    refine q_loop (σ := Nat × Value × List (Value × List Int)) (fun z => z.1 ≤ Y.length ∧ z.2.2.map (·.2) = (nxt PL n z.1 0).map chI) (fun z => Y.length - z.1) (fun z => [(0, .int .i64 n), (3, .slice a3 Y.length c3), (4, .int .i64 i), (5, z.2.1), (6, .int .i64 z.1)]) (fun z => [un (rowsO 3 z.2.2), .ow z.2.1 48 1 z.2.2.length (z.2.2.map (·.1)), un (rowsO 3 Y), .ow (.slice a3 Y.length c3) 48 1 Y.length (Y.map (·.1))]) (0, .slice none 0 0, []) ⟨by simp, by rw [nxt_zero]; rfl⟩ ⟨rfl, rfl, rfl, rfl, rfl, trivial⟩ (by repeat constructor) ?_
    rintro ⟨k, v5, Z⟩ ⟨hk, hZ⟩ K1 hK1
    dsimp only at hk hZ hK1 ⊢
    (refine q_seq (q_seq (q_region ?_)); (iterate 4 refine ql_pure tabOk rfl rfl ?_); refine q_nil ?_)
    refine q_if rfl (fun hc => ?_) (fun hc => ?_)
    · have hk2 : k < Y.length := by omega
      clear hc
      obtain ⟨p, hp⟩ : ∃ p, p = PL.getD k [] := ⟨_, rfl⟩
      have hYk : Y[k].2 = chI p := by
        have h1 : (Y.map (·.2))[k]? = (PL.map chI)[k]? := by rw [hY]
        rw [List.getElem?_map, List.getElem?_map, List.getElem?_eq_getElem hk2, List.getElem?_eq_getElem (by omega), Option.map_some, Option.map_some] at h1
        rw [hp, List.getD_eq_getElem?_getD, List.getElem?_eq_getElem (by omega), Option.getD_some]
        exact Option.some.inj h1
      have hpl : Y[k].2.length = p.length := by rw [hYk, chI_len]
      have hpb : p.length ≤ 6 := by
        have hm : p ∈ permN n i := by
          rw [← hPL, hp, List.getD_eq_getElem?_getD, List.getElem?_eq_getElem (by omega), Option.getD_some]
          exact List.getElem_mem _
        have := (perm_mem.1 hm).2.2
        omega
      refine q_fact (fun w hs => rowN hs (t := 3) (X := Y) (by repeat constructor) hk2) ?_
      rintro ⟨ka, kc, ek, hka⟩
      rw [hpl] at ek hka
      refine q_fact (fun w hs => hs.ownSome (v := .slice a3 Y.length c3) (by repeat constructor) (by omega)) ?_
      rintro ⟨g3, q3, ev⟩
      cases ev
      (refine q_skip (q_seq (q_block (q_seq (q_region (ql_pure tabOk rfl rfl (q_nil (q_block ?_))))))))
      refine q_loop (σ := Nat × Value × List (Value × List Int)) (fun z => z.1 ≤ n ∧ z.2.2.map (·.2) = (nxt PL n k z.1).map chI) (fun z => n - z.1) (fun z => [(0, .int .i64 n), (3, .slice (some ⟨g3, 0, none⟩) Y.length c3), (4, .int .i64 i), (5, z.2.1), (6, .int .i64 k), (7, .int .i64 z.1)]) (fun z => [un (rowsO 3 z.2.2), .ow z.2.1 48 1 z.2.2.length (z.2.2.map (·.1)), un (rowsO 3 Y), .ow (.slice (some ⟨g3, 0, none⟩) Y.length c3) 48 1 Y.length (Y.map (·.1))]) (0, v5, Z) ⟨by simp, hZ⟩ ⟨rfl, rfl, rfl, rfl, rfl, rfl, trivial⟩ (by repeat constructor) ?_
      rintro ⟨s, v5, Z⟩ ⟨hs', hZ⟩ K2 hK2
      dsimp only at hs' hZ hK2 ⊢
      (refine q_seq (q_seq (q_region ?_)); (iterate 3 refine ql_pure tabOk rfl rfl ?_); refine q_nil ?_)
      refine q_if rfl (fun hc => ?_) (fun hc => ?_)
      · have hs2 : s < n := by omega
        clear hc
        have hZb : Z.length ≤ 300000 := by
          have h1 := congrArg List.length hZ
          have h2 := nxt_le (PL := PL) (k := k) (s := s) hn (by omega) hPb
          simp only [List.length_map] at h1
          omega
        (refine q_skip (q_seq (q_block (q_seq (q_region (ql_pure tabOk rfl rfl (q_nil (q_seq (q_seq (q_region (ql_pure tabOk rfl rfl (q_nil ?_))))))))))); refine q_block ?_)
        refine q_loop (σ := Nat) (fun m => m ≤ p.length) (fun m => p.length - m) (fun m => [(0, .int .i64 n), (3, .slice (some ⟨g3, 0, none⟩) Y.length c3), (4, .int .i64 i), (5, v5), (6, .int .i64 k), (7, .int .i64 s), (8, .bool (decide (s ∈ p.take m) && true)), (9, .int .i64 m)]) (fun m => [un (rowsO 3 Z), .ow v5 48 1 Z.length (Z.map (·.1)), un (rowsO 3 Y), .ow (.slice (some ⟨g3, 0, none⟩) Y.length c3) 48 1 Y.length (Y.map (·.1))]) 0 (by omega) ⟨rfl, rfl, rfl, rfl, rfl, rfl, by rw [show (decide (s ∈ p.take 0) && true) = false from by simp]; rfl, rfl, trivial⟩ (by repeat constructor) ?_
        rintro m hm K3 hK3
        (refine q_seq (q_seq (q_region ?_)); (iterate 3 refine ql_pure tabOk rfl rfl ?_))
        refine ql_index tabOk rfl rfl rfl rfl rfl (by omega) (by omega) ?_
        refine ql_load1 (v := .slice ka p.length kc) tabOk rfl rfl rfl (fun w hs => row_cell hs (t := 48) (X := Y) (by repeat constructor) hk2 ek rfl) ?_
        (refine ql_pure tabOk rfl rfl (ql_pure tabOk rfl rfl (q_nil ?_)))
        refine q_if rfl (fun hc => ?_) (fun hc => ?_)
        · have hm2 : m < p.length := by omega
          clear hc
          obtain ⟨gk, rfl⟩ := hka (by omega)
          have htk : (s ∈ p.take (m + 1)) ↔ (s ∈ p.take m ∨ p[m] = s) := by
            rw [List.take_succ_eq_append_getElem hm2, List.mem_append, List.mem_singleton]
            exact ⟨fun h => h.imp_right Eq.symm, fun h => h.imp_right Eq.symm⟩
          by_cases hu : s ∈ p.take m
          · rw [decide_eq_true hu]
            (refine q_skip (q_seq (q_block (q_region (ql_pure tabOk rfl rfl (ql_pure tabOk rfl rfl ?_))))); (iterate 9 refine ql_gno rfl rfl rfl ?_); refine ql_pure tabOk rfl rfl (ql_pure tabOk rfl rfl (q_nil (q_blk (q_region (ql_pure tabOk rfl rfl (ql_ar tabOk rfl rfl rfl rfl (by omega) (by omega) (ql_pure tabOk rfl rfl (q_nil ?_)))))))))
            exact hK3 (m + 1) _ _ (by omega) (by omega) ⟨rfl, rfl, rfl, rfl, rfl, rfl, by rw [decide_eq_true (htk.2 (.inl hu))]; rfl, rfl, trivial⟩ (by repeat constructor)
          · rw [decide_eq_false hu]
            have hval : (chI p)[m]'(by rw [chI_len]; exact hm2) = ((p[m] : Nat) : Int) := by simp [chI]
            (refine q_skip (q_seq (q_block (q_region (ql_pure tabOk rfl rfl (ql_pure tabOk rfl rfl (ql_gyes rfl (ql_pure tabOk rfl rfl (ql_gyes rfl (ql_pure tabOk rfl rfl (ql_gyes rfl ?_)))))))))))
            refine ql_index tabOk rfl rfl rfl rfl rfl (by omega) (by omega) ?_
            (refine ql_gyes rfl ?_)
            refine ql_load1 (v := .slice (some ⟨gk, 0, none⟩) p.length kc) tabOk rfl rfl rfl (fun w hs => row_cell hs (t := 48) (X := Y) (by repeat constructor) hk2 ek rfl) ?_
            (refine ql_gyes rfl (ql_pure tabOk rfl rfl (ql_gyes rfl ?_)))
            refine ql_index tabOk rfl rfl rfl rfl rfl (by omega) (by omega) ?_
            (refine ql_gyes rfl ?_)
            refine ql_load1 (v := .int .i64 (p[m] : Nat)) tabOk rfl rfl rfl (fun w hs => row_at hs (t := 3) (X := Y) (by repeat constructor) hk2 ek (by rw [hpl]; exact hm2) (by rw [hYk, List.getD_eq_getElem?_getD, List.getElem?_eq_getElem (by rw [chI_len]; exact hm2), Option.getD_some]; exact hval) rfl) ?_
            by_cases he : p[m] = s
            · (refine ql_gyes rfl (ql_pure tabOk rfl rfl (ql_gyes rfl (ql_eqlT tabOk rfl rfl rfl (by omega) (ql_pure tabOk rfl rfl (ql_pure tabOk rfl rfl (q_nil (q_blk (q_region (ql_pure tabOk rfl rfl (ql_ar tabOk rfl rfl rfl rfl (by omega) (by omega) (ql_pure tabOk rfl rfl ?_))))))))))); refine q_nil ?_)
              exact hK3 (m + 1) _ _ (by omega) (by omega) ⟨rfl, rfl, rfl, rfl, rfl, rfl, by rw [decide_eq_true (htk.2 (.inr he))]; rfl, rfl, trivial⟩ (by repeat constructor)
            · (refine ql_gyes rfl (ql_pure tabOk rfl rfl (ql_gyes rfl (ql_eqlF tabOk rfl rfl rfl (by omega) (ql_pure tabOk rfl rfl (ql_pure tabOk rfl rfl (q_nil (q_blk (q_region (ql_pure tabOk rfl rfl (ql_ar tabOk rfl rfl rfl rfl (by omega) (by omega) (ql_pure tabOk rfl rfl ?_))))))))))); refine q_nil ?_)
              exact hK3 (m + 1) _ _ (by omega) (by omega) ⟨rfl, rfl, rfl, rfl, rfl, rfl, by rw [decide_eq_false (fun h => (htk.1 h).elim hu he)]; rfl, rfl, trivial⟩ (by repeat constructor)
        · obtain rfl : m = p.length := by omega
          clear hc hK3 hm
          rw [List.take_length]
          by_cases hu : s ∈ p
          · rw [decide_eq_true hu]
            (refine q_exit _ rfl (q_seq (q_region (ql_pure tabOk rfl rfl (ql_pure tabOk rfl rfl (q_nil (q_cond_false rfl (q_skip (q_blk (q_region (ql_pure tabOk rfl rfl (ql_ar tabOk rfl rfl rfl rfl (by omega) (by omega) ?_))))))))))); refine ql_pure tabOk rfl rfl (q_nil ?_))
            exact hK2 (s + 1, v5, Z) _ _ ⟨by simp only; omega, by dsimp only; rw [nxt_no (by rw [← hp]; exact hu)]; exact hZ⟩ (by simp only; omega) ⟨rfl, rfl, rfl, rfl, rfl, rfl, trivial⟩ (by repeat constructor)
          · rw [decide_eq_false hu]
            (refine q_exit _ rfl (q_seq (q_region (ql_pure tabOk rfl rfl (ql_pure tabOk rfl rfl (q_nil (q_cond_true rfl (q_region (ql_pure tabOk rfl rfl ?_)))))))))
            refine ql_mkS0 3 rfl (by kernel_rfl) rfl (fun be => ?_)
            (refine ql_pure tabOk rfl rfl (ql_pure tabOk rfl rfl ?_))
            refine ql_index tabOk rfl rfl rfl rfl rfl (by omega) (by omega) ?_
            refine ql_load1 (v := .slice ka p.length kc) tabOk rfl rfl rfl (fun w hs => row_cell hs (t := 48) (X := Y) (by repeat constructor) hk2 ek rfl) ?_
            skip
            refine ql_append (q := p.length) (news := ints (chI p)) slI rfl rfl rfl (fun v' => by repeat constructor) (fun w' hs => ⟨_, _, by have := ((wx_row hs (t := 3) (xs := Y) (by repeat constructor) k hk2).1).row; rw [ek, hYk, chI_len] at this; exact this⟩) (by simp [ints, oneV]) (by omega) (by omega) (fun u1 => ?_)
            (refine ql_pure tabOk rfl rfl ?_)
            refine ql_mkS 3 [.int .i64 s] rfl (by kernel_rfl) rfl (fun bn => ?_)
            skip
            refine ql_append (q := 1) (news := [.int .i64 s]) slI rfl rfl rfl (fun v' => by repeat constructor) (fun w' hs => ⟨_, _, Blk.rdN (hs.blk (b := bn) (by repeat constructor)) rfl⟩) (by simp [oneV]) (by omega) (by omega) (fun u2 => ?_)
            refine ql_fact (fun w hs => hs.ownSome (v := u2) (by repeat constructor) (by omega)) ?_
            rintro ⟨g2, c2, rfl⟩
            skip
            refine ql_mkS 48 [.slice (some ⟨g2, 0, none⟩) (0 + p.length + 1) c2] rfl (by kernel_rfl) rfl (fun bm => ?_)
            skip
            refine ql_append (q := 1) (news := [.slice (some ⟨g2, 0, none⟩) (0 + p.length + 1) c2]) slII rfl rfl rfl (fun v' => by repeat constructor) (fun w' hs => ⟨_, _, Blk.rdN (hs.blk (b := bm) (by repeat constructor)) rfl⟩) (by simp [oneV]) (by omega) (by omega) (fun u5 => ?_)
            (refine ql_pure tabOk rfl rfl (q_nil (q_blk (q_region (ql_pure tabOk rfl rfl (ql_ar tabOk rfl rfl rfl rfl (by omega) (by omega) (ql_pure tabOk rfl rfl (q_nil ?_))))))))
            have hrl : (chI (p ++ [s])).length = 0 + p.length + 1 := by rw [chI_len, List.length_append, List.length_singleton]; omega
            have hri : ints (chI (p ++ [s])) = [] ++ ints (chI p) ++ [.int .i64 s] := by simp [ints, chI]
            refine q_conv (H' := [un (rowsO 3 (Z ++ [(.slice (some ⟨g2, 0, none⟩) (0 + p.length + 1) c2, chI (p ++ [s]))])), .ow u5 48 1 (Z.length + 1) (Z.map (·.1) ++ [.slice (some ⟨g2, 0, none⟩) (0 + p.length + 1) c2]), un (rowsO 3 Y), .ow (.slice (some ⟨g3, 0, none⟩) Y.length c3) 48 1 Y.length (Y.map (·.1))]) (fun w' hs => by
              refine rows_add ?_
              rw [hrl, hri]
              exact hs.sp (by repeat constructor)) ?_
            have elen : (Z ++ [(Value.slice (some ⟨g2, 0, none⟩) (0 + p.length + 1) c2, chI (p ++ [s]))]).length = Z.length + 1 := by simp
            exact hK2 (s + 1, u5, Z ++ [(.slice (some ⟨g2, 0, none⟩) (0 + p.length + 1) c2, chI (p ++ [s]))]) _ _ ⟨by simp only; omega, by dsimp only; rw [nxt_yes (by rw [← hp]; exact hu), List.map_append, hZ, List.map_append, ← hp]; rfl⟩ (by simp only; omega) ⟨rfl, rfl, rfl, rfl, rfl, rfl, trivial⟩ (by dsimp only; rw [elen, List.map_append]; exact Sp.refl _)
      · obtain rfl : s = n := by omega
        clear hc hK2
        (refine q_exit _ rfl (q_blk (q_region (ql_pure tabOk rfl rfl (ql_ar tabOk rfl rfl rfl rfl (by omega) (by omega) (ql_pure tabOk rfl rfl (q_nil ?_)))))))
        exact hK1 (k + 1, v5, Z) _ _ ⟨by simp only; omega, by dsimp only; rw [← nxt_row (by omega)]; exact hZ⟩ (by simp only; omega) ⟨rfl, rfl, rfl, rfl, rfl, trivial⟩ (by repeat constructor)
    · obtain rfl : k = Y.length := by omega
      clear hc hK1
      rw [hYl, nxt_all, ← hsuc] at hZ
      (refine q_exit _ rfl (q_region (ql_pure tabOk rfl rfl (ql_pure tabOk rfl rfl (q_nil (q_blk (q_region (ql_pure tabOk rfl rfl (ql_ar tabOk rfl rfl rfl rfl (by omega) (by omega) (ql_pure tabOk rfl rfl (q_nil ?_)))))))))))
      exact hK (i + 1, v5, Z) _ _ ⟨by simp only; omega, hZ⟩ (by simp only; omega) ⟨rfl, rfl, rfl, trivial⟩ (by repeat constructor)
  · obtain rfl : i = n := by omega
    (refine q_exit _ rfl (q_seq (q_region (ql_pure tabOk rfl rfl (ql_pure tabOk rfl rfl (q_nil (q_ret ?_)))))))
    refine q_fin tabOk rfl (by repeat constructor) fun w hs => ?_
    exact ⟨(v3, Y), ⟨rfl, hY⟩, hs.sp (by repeat constructor)⟩
end Go.Proofs.YtcmpdmobmbbplaaGreat

/- Walks: labs are copied, and get a run more. -/
namespace Go.Proofs.YtcmpdmobmbbplaaGreat
set_option maxRecDepth 4000
open Go Go.Eng

theorem rnC_one (l : List Rn) : ∀ c ∈ rnC l, oneV c = true := fun c hc => by obtain ⟨y, _, hy⟩ := List.mem_flatMap.1 hc; simp at hy; rcases hy with rfl | rfl | rfl <;> rfl
theorem cloneR_ca (w : World) (lo hi : Nat) (v : Value) (l : List Rn) (h : RdR w lo hi v l) (hlen : l.length ≤ 1000) : Ca Tryz.prog 61 [v] w fun x w' => ∃ u : Value, x = u ∧ Sat w M0 [.ow u 40 3 l.length (rnC l)] w' := by
  obtain ⟨a, c, rfl, ha⟩ := RdR.outI h
  refine q_of (Sat.nil w M0) Tryz.func61 rfl (by simp [Tryz.ntmps61]) ?_
  refine q_conv (H' := [.ow (.slice none 0 0) 40 3 0 (rnC [])]) (fun w' hs => Sat.ownil hs 40 3) ?_
  (refine q_seq (q_region (ql_pure tabOk rfl rfl (q_nil (q_seq (q_region (ql_pure tabOk rfl rfl ?_)))))))
  refine ql_append (q := l.length) (news := rnC l) slR rfl rfl rfl (fun v' => by repeat constructor) (fun w' hs => ⟨_, _, RdR.row (RdE.keep h hs.chg0)⟩) (rnC_one l) (by omega) (by omega) (fun u' => ?_)
  (refine ql_pure tabOk rfl rfl (q_nil (q_ret ?_)))
  refine q_fin tabOk rfl (by repeat constructor) fun w hs => ?_
  exact ⟨u', rfl, hs.sp (by simp only [rnC, List.flatMap_nil, List.nil_append, Nat.zero_add]; repeat constructor)⟩
def tD3_563eb24 : OT := chainT [0, 1, 2, 3, 4, 5, 6, 7, 8] (.nil)
theorem cloneL_ca (w : World) (lo hi : Nat) (l : Lb) (v : Value) (h : RdR w lo hi v l.runs) (hlen : l.runs.length ≤ 1000) : Ca Tryz.prog 11 [.agg (lbC l v).toArray] w fun x w' => ∃ u : Value, x = .agg (lbC l u).toArray ∧ Sat w M0 [.ow u 40 3 l.runs.length (rnC l.runs)] w' := by
  obtain ⟨a, c, rfl, ha⟩ := RdR.outI h
  refine q_of (Sat.nil w M0) Tryz.func11 rfl (by simp [Tryz.ntmps11]) ?_
  (refine q_seq (q_region ?_))
  refine ql_box rfl rfl (fun b1 => ?_)
  skip
  refine ql_alloc zero24 rfl (fun b2 => ?_)
  (refine q_nil (q_seq ?_))
  refine q_cut (σ := Value) (fun u => [(2, .pointer (some ⟨b2, 0, none⟩))])
      (fun u => [.pt b2 [.int .i64 l.skis, .int .i64 l.err, u] 24, .ow u 40 3 l.runs.length (rnC l.runs)]) ?_ ?_
  rotate_left
  · intro K2 hK2
    refine q_drawT (tD3_563eb24) _ [.pt b2 [.int .i64 0, .int .i64 0, .slice none 0 0] 24] (Sp.cons (by repeat constructor) (Sp.refl _)) (by kernel_rfl) (by kernel_rfl) ?_
    refine qt_seg (by repeat (first | exact PickL.nil | (apply PickL.cons; rfl))) fun K1 hK1 => ?_
    (refine qf_pure tabOk rfl rfl rfl ?_; refine qf_loadBa tabOk rfl rfl rfl ?_; refine qf_pure tabOk rfl rfl rfl ?_; refine qf_loadBa tabOk rfl rfl rfl ?_; refine qf_pure tabOk rfl rfl rfl ?_; refine qf_loadBa tabOk rfl rfl rfl ?_)
    refine qf_call (β := Value) tabOk [] _ M0 rfl rfl rfl rfl (Sp.refl _) (fun _ h => h.elim) (fun w' hs => cloneR_ca w' lo hi _ l.runs (RdE.keep h hs.chg0) (by omega)) ?_
    rintro _ u rfl
    dsimp only [List.cons_append, List.nil_append]
    refine qf_fact (fun w hs => hs.slice2 (v := u) (by repeat constructor)) ?_
    rintro ⟨a1, c1, rfl⟩
    skip
    refine qf_mk #[.int .i64 l.skis, .int .i64 l.err, .slice a1 l.runs.length c1] rfl (by kernel_rfl) rfl ?_
    (refine qf_setA tabOk rfl rfl rfl rfl rfl (by repeat constructor) rfl ?_; refine qf_nil ?_)
    exact hK1 _ _ (qt_nil (hK2 (.slice a1 l.runs.length c1) _ _ ⟨rfl, trivial⟩ (by repeat constructor)))
  intro u
  (refine q_ret ?_)
  refine q_fin tabOk rfl (by repeat constructor) fun w hs => ?_
  exact ⟨u, rfl, hs.sp (by repeat constructor)⟩
end Go.Proofs.YtcmpdmobmbbplaaGreat

/- Lists of labs, and what is told of them. -/
namespace Go.Proofs.YtcmpdmobmbbplaaGreat
set_option maxRecDepth 4000
open Go Go.Eng

abbrev LbM := Lb × Option Addr × Nat
def labCs (M : List LbM) : List Value := M.flatMap fun m => [.int .i64 m.1.skis, .int .i64 m.1.err, .slice m.2.1 m.1.runs.length m.2.2]
def labOs (t : Nat) (M : List LbM) : List Ck := M.map fun m => .ow (.slice m.2.1 m.1.runs.length m.2.2) t 3 m.1.runs.length (rnC m.1.runs)
/-- Places that were told. -/
def plOs (t : Nat) (M : List LbM) (ps : List Value) : List Ck := (M.zip ps).map fun x => .ow x.2 t 2 x.1.1.n (spC (plC x.1.1 x.1.1.ord x.1.1.n))
/-- An array that is filled. -/
def filA (f : Nat → Int) (n j : Nat) : List Int := (List.range n).map fun i => if i < j then f i else 0
theorem plC_get (l : Lb) (o : Nat) {k s : Nat} (hs : s < k) : (plC l o k)[s]? = some (((1 + upN o s l.n : Nat) : Int), l.skis - dnN o s l.n) := by
  unfold plC
  rw [List.getElem?_map, List.getElem?_range hs]
  rfl
def lbM (M : List LbM) (i : Nat) : Lb := (M.getD i (⟨0, 0, []⟩, none, 0)).1
def oM (M : List LbM) (i : Nat) : Int := cnt (lbM M i).ord (lbM M i).n (2 ^ (lbM M i).n - 1)
def rM (M : List LbM) (k i : Nat) : Int := (planO (lbM M i).n k (lbM M i).ord : Nat)
/-- What all labs of a list have. -/
structure AllOk (sk : Nat) (m : LbM) : Prop where
  ok : m.1.Ok
  noC : NoC m.1.ord m.1.n
  skis : m.1.skis = (sk : Int)
theorem AllOk.n {sk : Nat} {m : LbM} (h : AllOk sk m) : m.1.n = sk := by unfold Lb.n; rw [h.skis]; omega
end Go.Proofs.YtcmpdmobmbbplaaGreat

/- Walks: all pairs of skis of which one is faster; whether a pair is among them. -/
namespace Go.Proofs.YtcmpdmobmbbplaaGreat
set_option maxRecDepth 4000
open Go Go.Eng

/-- The pairs with a faster ski of a list of skis. -/
def prA (o n : Nat) (L : List Nat) : List (Int × Int) := L.flatMap fun a => ((List.range n).filter fun b => fa o a b).map fun (b : Nat) => ((a : Int), (b : Int))
/-- All pairs of skis of which one is faster. -/
def fasL (o n : Nat) : List (Int × Int) := prA o n (List.range n)
/-- Those of the skis ahead of the k-th one, and the first ones of its own. -/
def fasI (o n a b : Nat) : List (Int × Int) := prA o n (List.range a) ++ ((List.range b).filter fun b => fa o a b).map fun (b : Nat) => ((a : Int), (b : Int))
/-- Where a pair is, or -1. -/
def idxP (L : List (Int × Int)) (p : Int × Int) : Int := if p ∈ L then (L.idxOf p : Int) else -1
end Go.Proofs.YtcmpdmobmbbplaaGreat

/- Labs that grow, and what is read of them. -/
namespace Go.Proofs.YtcmpdmobmbbplaaGreat
set_option maxRecDepth 4000
open Go Go.Eng

theorem runs_rdK {w0 w : World} {M : Nat → Prop} {H : List Ck} {v : Value} {t n : Nat} {l : List Rn} (hs : Sat w0 M H w) (hm : .ow v t 3 n (rnC l) ∈ H) (hn : n = l.length) : RdR w 0 w.heap.size v l := own_rdR (t := t) (hs.mem hm) hn
/-- The slice of a lab's runs. -/
abbrev slV (m : LbM) : Value := .slice m.2.1 m.1.runs.length m.2.2
end Go.Proofs.YtcmpdmobmbbplaaGreat

/- The engine: loops in which each round leaves marks; the end of a function with many marks. -/
namespace Go.Eng
set_option maxRecDepth 4000
open Go Go.RowKit

section
variable {P : Program} {n : Nat} {F : Fin} {k : List It} {e : Env} {w : World}
end
section
variable {P : Program} {n : Nat} {F : Fin} {w0 : World} {M : Nat → Prop} {k : List It} {e : Env} {H : List Ck}
end
end Go.Eng

/- Walks: the search of a shortest chain of runs. -/
namespace Go.Proofs.YtcmpdmobmbbplaaGreat
set_option maxRecDepth 4000
open Go Go.Eng

/-- Turned round at both ends, so far. -/
def RevI (l : List Int) (k : Nat) (l' : List Int) : Prop := l'.length = l.length ∧ 2 * k ≤ l.length ∧ ∀ m, m < l.length → l'.getD m 0 = if m < k ∨ l.length ≤ m + k then l.getD (l.length - 1 - m) 0 else l.getD m 0
theorem RevI.zero (l : List Int) : RevI l 0 l := ⟨rfl, by omega, fun m hm => by rw [if_neg (by omega)]⟩
theorem RevI.step {l l' : List Int} {k : Nat} (h : RevI l k l') (hk : k < l.length - 1 - k) (h1 : k < l'.length) (h2 : l.length - 1 - k < l'.length) : RevI l (k + 1) ((l'.set k l'[l.length - 1 - k]).set (l.length - 1 - k) l'[k]) := by
  obtain ⟨hl, hk2, hv⟩ := h
  refine ⟨by simp [hl], by omega, fun m hm => ?_⟩
  have e1 : l'[l.length - 1 - k] = l.getD (l.length - 1 - k) 0 := by
    have := hv (l.length - 1 - k) (by omega)
    rw [if_neg (by omega), List.getD_eq_getElem?_getD, List.getElem?_eq_getElem h2] at this
    exact this
  have e2 : l'[k] = l.getD k 0 := by
    have := hv k (by omega)
    rw [if_neg (by omega), List.getD_eq_getElem?_getD, List.getElem?_eq_getElem h1] at this
    exact this
  rw [set_getD _ _ _ _ (by simpa using h2), set_getD _ _ _ _ h1, e1, e2]
  by_cases c1 : m = l.length - 1 - k
  · rw [if_pos c1, if_pos (by omega), c1]
    congr 1
    omega
  · rw [if_neg c1]
    by_cases c2 : m = k
    · rw [if_pos c2, if_pos (by omega), c2]
    · rw [if_neg c2, hv m hm]
      by_cases c3 : m < k ∨ l.length ≤ m + k
      · rw [if_pos c3, if_pos (by omega)]
      · rw [if_neg c3, if_neg (by omega)]
theorem RevI.end {l l' : List Int} {k : Nat} (h : RevI l k l') (hk : l.length ≤ 2 * k + 1) : l' = l.reverse := by
  obtain ⟨hl, hk2, hv⟩ := h
  refine List.ext_getElem (by simp [hl]) (fun m h1 h2 => ?_)
  have := hv m (by omega)
  rw [List.getD_eq_getElem?_getD, List.getElem?_eq_getElem h1] at this
  rw [List.getElem_reverse]
  have e : l.getD (l.length - 1 - m) 0 = l[l.length - 1 - m] := by
    rw [List.getD_eq_getElem?_getD, List.getElem?_eq_getElem (by omega)]; rfl
  rw [← e, ← Option.getD_some (a := l'[m]) (b := 0), this]
  split
  · rfl
  · congr 1
    omega

/-- Numbers that are set to -1, so far. -/
def filP (k : Nat) : List Int := (List.range 8).map fun i => if i < k then -1 else 0
/-- The search ahead of a round. -/
def BIx (l : Lb) (fast slow n : Nat) (by' : List Int) (met lev : List Nat) : Prop := (n < met.length ∧ BI l fast slow n [] by' met lev) ∨ ∃ m, n = m + 1 ∧ n = met.length ∧ BI l fast slow m (shL l) by' met lev
theorem BI.bd {l : Lb} {fast slow n : Nat} {pre : List (Nat × Int × Int)} {by' : List Int} {met lev : List Nat} (h : BI l fast slow n pre by' met lev) : met.length ≤ 9 := by
  have h2 := h.sz
  have h3 := List.length_filter_le (fun s => decide (0 ≤ by'.getD s 0)) (List.range 8)
  rw [List.length_range] at h3
  omega
theorem BIx.bd {l : Lb} {fast slow n : Nat} {by' : List Int} {met lev : List Nat} (h : BIx l fast slow n by' met lev) : n ≤ met.length ∧ met.length ≤ 9 := by
  rcases h with ⟨h1, h2⟩ | ⟨m, h1, h2, h3⟩
  · exact ⟨by omega, h2.bd⟩
  · exact ⟨by omega, h3.bd⟩
theorem BIx.go {l : Lb} {fast slow n : Nat} {by' : List Int} {met lev : List Nat} (h : BIx l fast slow n by' met lev) (hn : n < met.length) : BI l fast slow n [] by' met lev := by
  rcases h with ⟨_, h2⟩ | ⟨m, h1, h2, h3⟩
  · exact h2
  · omega
theorem BIx.after {l : Lb} {fast slow n : Nat} {by' : List Int} {met lev : List Nat} (h : BI l fast slow n (shL l) by' met lev) : BIx l fast slow (n + 1) by' met lev := by
  have := h.nl
  by_cases h1 : n + 1 < met.length
  · exact .inl ⟨h1, h.next h1⟩
  · exact .inr ⟨n, rfl, by omega, h⟩
theorem BIx.none {l : Lb} {fast slow n : Nat} {by' : List Int} {met lev : List Nat} (he : 0 ≤ l.err) (h : BIx l fast slow n by' met lev) (hn : n = met.length) : NoCh l fast slow ∧ by'.getD slow 0 < 0 ∧ by'.length = 8 := by
  rcases h with ⟨h1, _⟩ | ⟨m, h1, h2, h3⟩
  · omega
  · exact ⟨h3.none he (by omega), h3.slow, h3.bl⟩
def tK41_bd78311 : OT := .alt (chainT [11, 0, 1, 2, 3, 4, 5, 6, 7, 8, 9, 10, 12, 13] (.nil)) (chainT [0, 1, 2, 3, 4, 5, 6, 7, 11, 8, 9, 10, 12, 13] (.nil))
end Go.Proofs.YtcmpdmobmbbplaaGreat

/- The engine: make of a list whose elements are one cell each. -/
namespace Go.Eng
set_option maxRecDepth 4000
open Go Go.RowKit
section
variable {P : Program} {T : Tab} {ro : Cx} {n : Nat} {F : Fin} {w0 : World} {M : Nat → Prop} {k : List It} {ops : Array Oper} {rest : List Oper} {e : Env} {H Hq : List Ck}
theorem ql_makeZ {d t et m bytes : Nat} {z : Value} {x y : Operand} {ty : TypeId} {pos : String} {af : Array Edge} (hS : SlT P t et 1 bytes z) (hz1 : z.cells = #[z]) (hx : opv e x = some (.int .i64 m)) (hy : opv e y = some (.int .i64 m)) (hd : Nat.blt d n = true) (hm : m ≤ 1000000) (hb8 : bytes ≤ 8)
    (h : ∀ b, QL P ro n F w0 M k ops rest ((d, .slice (some ⟨b, 0, none⟩) m m) :: e) (.pt b (List.replicate m z) et :: H)) :
    QL P ro n F w0 M k ops (⟨some d, .makeSlice t x y, ty, pos, af, none⟩ :: rest) e H := .mk fun w hs => by
  obtain ⟨ht, hi', hzs, hsz⟩ := hS
  cases hinf : P.info? et with
  | none => simp [hinf] at hi'
  | some i =>
    simp [hinf] at hi'
    obtain ⟨hz, hsize, hby⟩ := hi'
    subst hby
    have hm8 : m * i.bytes ≤ 1000000 * 8 := Nat.mul_le_mul hm hb8
    have hr := run_makeSlice (P := P) w t et i _ ht hinf hz .i64 .i64 m m (by omega) (Int.le_refl _) (by rw [hsize]; simp; omega) (by rw [Int.mul_comm]; omega) (by omega)
    have hcells : (madeCells z.cells ((m : Int).toNat * i.size)) = (List.replicate m z).toArray := by
      apply Array.ext'
      rw [hsize, hz1, toList_madeCells_one]
      simp
    rw [hcells] at hr
    refine yl_val (w' := w.alloc (.cells (List.replicate m z).toArray et)) (by simp) hd (fun ac hf => ?_) ((h w.heap.size).h _ (hs.addPt (alloc_chg _ _) (by simp) (alloc_blk w _ _)))
    simp only [execOp, hf.op hx, hf.op hy]
    simp [hr]
theorem ql_storeBo (hT : T.Ok P) {t : Nat} {x y : Operand} {b off : Nat} {l : List Bool} {z : Bool} {bt : TypeId} {H' : List Ck} {ty : TypeId} {pos : String} {af : Array Edge} (i : Nat)
    (hx : opv e x = some (.pointer (some ⟨b, off, none⟩))) (hy : opv e y = some (.bool z)) (h1 : has T.one t = true) (hr : Rp H (.pt b (bools l) bt) (.pt b (bools (l.set i z)) bt) H') (ho : off = i) (hi : i < l.length)
    (h : QL P ro n F w0 M k ops rest e H') : QL P ro n F w0 M k ops (⟨none, .store t x y, ty, pos, af, none⟩ :: rest) e H :=
  ql_store1 hT hx hy h1 rfl (by subst ho; rw [← List.map_set]; exact hr) (by subst ho; simpa using hi) h
theorem bcell {w : World} {b : Nat} {sl : List Bool} {t : TypeId} (hb : Blk w b (bools sl) t) (f : Nat) (hf : f < sl.length) : w.cell? ⟨b, 0 + (f : Int).toNat * 1, none⟩ = some (.bool (sl.getD f false)) := by
  rw [Blk.cell hb, Int.toNat_natCast, Nat.zero_add, Nat.mul_one, List.getElem?_map, List.getD_eq_getElem?_getD, List.getElem?_eq_getElem hf]
  rfl
end
end Go.Eng

/- The plain law of SkiChains: how far skis are, which are faster, what a chain shows. -/
namespace Go.Proofs.YtcmpdmobmbbplaaGreat
set_option maxRecDepth 4000
open Go Go.Eng
theorem sh_pair {l : Lb} {i f s : Nat} (h : Sh l i f s) : (f, s) ∈ l.pairs := by
  obtain ⟨h1, h2⟩ := h
  rw [List.getD_eq_getElem?_getD, List.getElem?_eq_getElem h1, Option.getD_some] at h2
  exact List.mem_filterMap.2 ⟨_, List.getElem_mem h1, h2⟩
theorem pair_sh {l : Lb} {p : Nat × Nat} (h : p ∈ l.pairs) : ∃ i, Sh l i p.1 p.2 := by
  obtain ⟨r, hr, h1⟩ := List.mem_filterMap.1 h
  obtain ⟨i, hi, rfl⟩ := List.getElem_of_mem hr
  exact ⟨i, hi, by rw [List.getD_eq_getElem?_getD, List.getElem?_eq_getElem hi, Option.getD_some]; exact h1⟩
theorem sh_in {l : Lb} (hl : l.Ok) {i f s : Nat} (h : Sh l i f s) : f < l.n ∧ s < l.n := ⟨(hl.in _ (sh_pair h)).1, (hl.in _ (sh_pair h)).2.1⟩
theorem wk_one {l : Lb} {i a b : Nat} (h : Sh l i a b) : Wk l a 1 b := ⟨a, i, rfl, h⟩
theorem wk_app {l : Lb} {a b k : Nat} (h : Wk l a k b) : ∀ m c, Wk l b m c → Wk l a (k + m) c
  | 0, c, h2 => by
    have e : c = b := h2
    rw [e]; exact h
  | m + 1, c, ⟨s, i, h2, h3⟩ => ⟨s, i, wk_app h m s h2, h3⟩
theorem wk_in {l : Lb} (hl : l.Ok) {a k b : Nat} (h : Wk l a (k + 1) b) : b < l.n := by
  obtain ⟨s, i, _, h3⟩ := h
  exact (sh_in hl h3).2
theorem wk_fa {l : Lb} (hl : l.Ok) {a : Nat} (ha : a < 8) : ∀ k b, Wk l a (k + 1) b → fa l.ord a b = true
  | 0, b, ⟨s, i, h2, h3⟩ => by
    have e : s = a := h2
    rw [e] at h3
    exact order_has hl.in8 (sh_pair h3)
  | k + 1, b, ⟨s, i, h2, h3⟩ => by
    have h8 := hl.n8
    have hi := sh_in hl h3
    exact hl.o.tr a s b ha (by omega) (by omega) (wk_fa hl ha k s h2) (order_has hl.in8 (sh_pair h3))
theorem fa_wk {l : Lb} (hl : l.Ok) {a b : Nat} (ha : a < 8) (hb : b < 8) (h : fa l.ord a b = true) : ∃ k, Wk l a (k + 1) b :=
  order_sub (R := fun a b => ∃ k, Wk l a (k + 1) b) hl.in8 (fun a b c _ _ _ ⟨k, h1⟩ ⟨m, h2⟩ => ⟨k + 1 + m, wk_app h1 (m + 1) c h2⟩) (fun p hp => by
    obtain ⟨i, hi⟩ := pair_sh hp
    exact ⟨0, wk_one hi⟩) a b ha hb h
/-- The fewest runs of a chain. -/
def IsD (l : Lb) (a b k : Nat) : Prop := 1 ≤ k ∧ Wk l a k b ∧ ∀ j, 1 ≤ j → j < k → ¬ Wk l a j b
theorem isD_of {l : Lb} {a b : Nat} : ∀ k, 1 ≤ k → Wk l a k b → ∃ j, j ≤ k ∧ IsD l a b j := by
  intro k
  induction k using Nat.strongRecOn with
  | _ k ih =>
    intro h1 hw
    by_cases hx : ∃ j, 1 ≤ j ∧ j < k ∧ Wk l a j b
    · obtain ⟨j, h2, h3, h4⟩ := hx
      obtain ⟨i, h5, h6⟩ := ih j h3 h2 h4
      exact ⟨i, by omega, h6⟩
    · exact ⟨k, Nat.le_refl _, h1, hw, fun j h2 h3 h4 => hx ⟨j, h2, h3, h4⟩⟩
theorem isD_eq {l : Lb} {a b j k : Nat} (h : IsD l a b j) (g : IsD l a b k) : j = k := by
  rcases Nat.lt_trichotomy j k with h1 | h1 | h1
  · exact absurd h.2.1 (g.2.2 j h.1 h1)
  · exact h1
  · exact absurd g.2.1 (h.2.2 k g.1 h1)
theorem isD_pred {l : Lb} {a b k : Nat} (h : IsD l a b (k + 2)) : ∃ f i, IsD l a f (k + 1) ∧ Sh l i f b := by
  obtain ⟨_, ⟨f, i, h2, h3⟩, h4⟩ := h
  exact ⟨f, i, ⟨by omega, h2, fun j hj hk hw => h4 (j + 1) (by omega) (by omega) ⟨f, i, hw, h3⟩⟩, h3⟩
theorem isD_one {l : Lb} {a b : Nat} (h : IsD l a b 1) : ∃ i, Sh l i a b := by
  obtain ⟨_, ⟨f, i, h2, h3⟩, _⟩ := h
  rw [show f = a from h2] at h3
  exact ⟨i, h3⟩
theorem isD_nodes {l : Lb} (hl : l.Ok) {a : Nat} : ∀ k b, IsD l a b (k + 1) → ∃ L : List Nat, L.length = k + 1 ∧ L.Nodup ∧ ∀ x ∈ L, x < l.n ∧ ∃ j, j ≤ k + 1 ∧ IsD l a x j
  | 0, b, h => ⟨[b], rfl, by simp, fun x hx => by rw [List.mem_singleton.1 hx]; exact ⟨wk_in hl h.2.1, 1, by omega, h⟩⟩
  | k + 1, b, h => by
    obtain ⟨f, i, h1, h2⟩ := isD_pred h
    obtain ⟨L, h3, h4, h5⟩ := isD_nodes hl k f h1
    refine ⟨b :: L, by simp [h3], List.nodup_cons.2 ⟨fun hb => ?_, h4⟩, fun x hx => ?_⟩
    · obtain ⟨_, j, hj, hd⟩ := h5 b hb
      have := isD_eq hd h
      omega
    · rcases List.mem_cons.1 hx with rfl | hx
      · exact ⟨wk_in hl h.2.1, k + 2, by omega, h⟩
      · obtain ⟨g1, j, g2, g3⟩ := h5 x hx
        exact ⟨g1, j, by omega, g3⟩
theorem nodup_len : ∀ {n : Nat} {L : List Nat}, L.Nodup → (∀ x ∈ L, x < n) → L.length ≤ n
  | 0, L, _, hn => by
    cases L with
    | nil => simp
    | cons x L => exact absurd (hn x List.mem_cons_self) (by omega)
  | n + 1, L, h, hn => by
    have h1 := nodup_len (n := n) (h.erase n) (fun x hx => by
      have := (h.mem_erase_iff).1 hx
      have := hn x this.2
      omega)
    rw [List.length_erase] at h1
    split at h1 <;> omega
theorem isD_le {l : Lb} (hl : l.Ok) {a b k : Nat} (h : IsD l a b k) : k ≤ l.n := by
  obtain ⟨m, rfl⟩ : ∃ m, k = m + 1 := ⟨k - 1, by have := h.1; omega⟩
  obtain ⟨L, h1, h2, h3⟩ := isD_nodes hl m b h
  have := nodup_len h2 (fun x hx => (h3 x hx).1)
  omega
/-- Which skis are reached so far. -/
structure FI (l : Lb) (a : Nat) (sl : List Bool) : Prop where
  len : sl.length = l.n
  ok : ∀ s, sl.getD s false = true → ∃ k, Wk l a (k + 1) s
theorem bset_getD (sl : List Bool) (s t : Nat) (hs : s < sl.length) : (sl.set s true).getD t false = if t = s then true else sl.getD t false := by
  rw [List.getD_eq_getElem?_getD, List.getElem?_set]
  by_cases h : s = t
  · subst h; simp [hs]
  · rw [if_neg h, if_neg (fun h' => h h'.symm), List.getD_eq_getElem?_getD]
theorem FI.start {l : Lb} {a : Nat} : FI l a (List.replicate l.n false) := ⟨by simp, fun s h => by
  rw [List.getD_eq_getElem?_getD, List.getElem?_replicate] at h
  split at h <;> cases h⟩
theorem FI.add {l : Lb} (hl : l.Ok) {a i f s : Nat} {sl : List Bool} (h : FI l a sl) (hs : Sh l i f s) (hf : f = a ∨ sl.getD f false = true) : FI l a (sl.set s true) := by
  have hin := sh_in hl hs
  refine ⟨by simp [h.len], fun t ht => ?_⟩
  rw [bset_getD _ _ _ (by rw [h.len]; exact hin.2)] at ht
  split at ht
  · rename_i e
    subst e
    rcases hf with rfl | hf
    · exact ⟨0, wk_one hs⟩
    · obtain ⟨k, hk⟩ := h.ok f hf
      exact ⟨k + 1, f, i, hk, hs⟩
  · exact h.ok t ht
theorem FI.done {l : Lb} (hl : l.Ok) {a : Nat} (ha : a < 8) {sl : List Bool} (h : FI l a sl) (hc : ∀ i f s, Sh l i f s → (f = a ∨ sl.getD f false = true) → sl.getD s false = true) {b : Nat} (hb : b < l.n) : sl.getD b false = fa l.ord a b := by
  have key : ∀ k s, Wk l a (k + 1) s → sl.getD s false = true := by
    intro k
    induction k with
    | zero =>
      rintro s ⟨t, i, h2, h3⟩
      rw [show t = a from h2] at h3
      exact hc i a s h3 (.inl rfl)
    | succ k ih =>
      rintro s ⟨t, i, h2, h3⟩
      exact hc i t s h3 (.inr (ih t h2))
  have h8 := hl.n8
  cases hx : fa l.ord a b with
  | true =>
    obtain ⟨k, hk⟩ := fa_wk hl ha (by omega) hx
    exact key k b hk
  | false =>
    cases hy : sl.getD b false with
    | false => rfl
    | true =>
      obtain ⟨k, hk⟩ := h.ok b hy
      rw [wk_fa hl ha k b hk] at hx
      cases hx
def falses (sl : List Bool) : Nat := (sl.filter fun b => !b).length
theorem falses_set : ∀ (sl : List Bool) (s : Nat), s < sl.length → sl.getD s false = false → falses (sl.set s true) + 1 = falses sl
  | [], s, h, _ => by simp at h
  | b :: sl, 0, _, h => by
    have : b = false := h
    subst this
    simp [falses]
  | b :: sl, s + 1, h, h2 => by
    have ih := falses_set sl s (by simpa using h) h2
    cases b <;> simp [falses] at ih ⊢ <;> omega
/-- Distances so far: rounds before the n-th one, and the runs before the i-th one. -/
structure LI (l : Lb) (a n i : Nat) (far : List Int) : Prop where
  len : far.length = l.n
  ok : ∀ s, far.getD s 0 ≠ 0 → ∃ k, far.getD s 0 = (k : Nat) ∧ k ≤ n ∧ IsD l a s k
  old : ∀ s k, k < n → IsD l a s k → far.getD s 0 = k
  cur : ∀ j f s, j < i → Sh l j f s → (n = 1 ∧ f = a ∨ ∃ m, n = m + 2 ∧ IsD l a f (m + 1)) → far.getD s 0 ≠ 0
theorem LI.start (l : Lb) (a : Nat) : LI l a 1 0 (List.replicate l.n 0) where
  len := by simp
  ok := fun s h => by
    rw [List.getD_eq_getElem?_getD, List.getElem?_replicate] at h
    split at h <;> simp at h
  old := fun s k hk h => by have := h.1; omega
  cur := fun j f s hj => by omega
theorem LI.fin {l : Lb} (hl : l.Ok) {a n : Nat} {far : List Int} (h : LI l a n l.runs.length far) (hn : 1 ≤ n) : LI l a (n + 1) 0 far where
  len := h.len
  ok := fun s hs => by
    obtain ⟨k, h1, h2, h3⟩ := h.ok s hs
    exact ⟨k, h1, by omega, h3⟩
  old := fun s k hk hd => by
    by_cases e : k < n
    · exact h.old s k e hd
    · obtain rfl : k = n := by omega
      have hne : far.getD s 0 ≠ 0 := by
        rcases Nat.lt_or_ge 1 k with h1 | h1
        · obtain ⟨m, rfl⟩ : ∃ m, k = m + 2 := ⟨k - 2, by omega⟩
          obtain ⟨f, i, h3, h4⟩ := isD_pred hd
          exact h.cur i f s h4.1 h4 (.inr ⟨m, rfl, h3⟩)
        · obtain rfl : k = 1 := by omega
          obtain ⟨i, h4⟩ := isD_one hd
          exact h.cur i a s h4.1 h4 (.inl ⟨rfl, rfl⟩)
      obtain ⟨j, h1, h2, h3⟩ := h.ok s hne
      rw [h1, isD_eq h3 hd]
  cur := fun j f s hj => by omega
theorem LI.skip {l : Lb} {a n i : Nat} {far : List Int} (h : LI l a n i far) (hx : ∀ f s, Sh l i f s → (n = 1 ∧ f = a ∨ ∃ m, n = m + 2 ∧ IsD l a f (m + 1)) → far.getD s 0 ≠ 0) : LI l a n (i + 1) far :=
  { h with
    cur := fun j f s hj hsh hf => by
      by_cases e : j = i
      · rw [e] at hsh; exact hx f s hsh hf
      · exact h.cur j f s (by omega) hsh hf }
theorem LI.set {l : Lb} (hl : l.Ok) {a n i f s : Nat} {far : List Int} (h : LI l a n i far) (hn : 1 ≤ n) (hsh : Sh l i f s) (h0 : far.getD s 0 = 0) (hf : n = 1 ∧ f = a ∨ ∃ m, n = m + 2 ∧ IsD l a f (m + 1)) : LI l a n (i + 1) (far.set s n) := by
  have hin := sh_in hl hsh
  have hg : ∀ t, (far.set s (n : Int)).getD t 0 = if t = s then (n : Int) else far.getD t 0 := fun t => set_getD _ _ _ _ (by rw [h.len]; exact hin.2)
  have hw : Wk l a n s := by
    rcases hf with ⟨rfl, rfl⟩ | ⟨m, rfl, hd⟩
    · exact wk_one hsh
    · exact ⟨f, i, hd.2.1, hsh⟩
  have hd : IsD l a s n := ⟨hn, hw, fun j h1 h2 h3 => by
    obtain ⟨k, hk, hk2⟩ := isD_of j h1 h3
    have := h.old s k (by omega) hk2
    have := hk2.1
    omega⟩
  refine ⟨by simp [h.len], fun t ht => ?_, fun t k hk hkd => ?_, fun j f' t hj hs' hf' => ?_⟩
  · rw [hg] at ht ⊢
    by_cases e : t = s
    · rw [if_pos e, e]; exact ⟨n, rfl, Nat.le_refl _, hd⟩
    · rw [if_neg e] at ht ⊢; exact h.ok t ht
  · rw [hg]
    by_cases e : t = s
    · rw [e] at hkd
      have := isD_eq hkd hd
      omega
    · rw [if_neg e]; exact h.old t k hk hkd
  · rw [hg]
    by_cases e : t = s
    · rw [if_pos e]; omega
    · rw [if_neg e]
      by_cases e2 : j = i
      · rw [e2] at hs'
        have := hs'.2.symm.trans hsh.2
        cases this
        exact absurd rfl e
      · exact h.cur j f' t (by omega) hs' hf'
/-- How many runs the shortest chain has, 0 if there is none. -/
def LenP (l : Lb) (a b : Nat) (n : Int) : Prop := (n = 0 ∧ ∀ k, 1 ≤ k → ¬ Wk l a k b) ∨ ∃ k : Nat, n = k ∧ IsD l a b k
theorem LI.end {l : Lb} (hl : l.Ok) {a : Nat} {far : List Int} (h : LI l a (l.n + 1) 0 far) (b : Nat) : LenP l a b (far.getD b 0) := by
  by_cases h0 : far.getD b 0 = 0
  · refine .inl ⟨h0, fun k hk hw => ?_⟩
    obtain ⟨j, _, hd⟩ := isD_of k hk hw
    have := h.old b j (by have := isD_le hl hd; omega) hd
    have := hd.1
    omega
  · obtain ⟨k, h1, _, h3⟩ := h.ok b h0
    exact .inr ⟨k, h1, h3⟩
theorem leadV_cons (l : Lb) (a i : Int) (c : List Int) : leadV l a (i :: c) = match runV l.err (l.runs.getD i.toNat ⟨0, 0, 0⟩) with
    | none => none
    | some p => if (p.1 : Int) = a then leadV l p.2 c else none := by
  (conv => lhs; unfold leadV) <;> rfl
theorem lead_app (l : Lb) : ∀ (c d : List Int) (a : Int), leadV l a (c ++ d) = (leadV l a c).bind fun x => leadV l x d
  | [], d, a => rfl
  | j :: c, d, a => by
    rw [List.cons_append, leadV_cons, leadV_cons]
    split
    · rfl
    · rename_i p hp
      split
      · exact lead_app l c d p.2
      · rfl
/-- What a run shows, in the reference. -/
def shR (e : Int) (r : Rn) : Int × Int := (runI e r).getD (-1, -1)
def rqL (l : Lb) (j : Int) : Int × Int := shR l.err (l.runs.getD j.toNat ⟨0, 0, 0⟩)
theorem lead_one2 {l : Lb} (hl : l.Ok) {j : Int} (h0 : 0 ≤ j) (h1 : j < l.runs.length) (x : Int) : leadV l x [j] = if 0 ≤ (rqL l j).1 ∧ (rqL l j).1 = x then some (rqL l j).2 else none := by
  have hj : j.toNat < l.runs.length := by omega
  have hr := hl.run _ (List.getElem_mem hj)
  have a0 := hr.a0
  have b0 := hr.b0
  unfold leadV rqL shR
  rw [List.getD_eq_getElem?_getD, List.getElem?_eq_getElem hj, Option.getD_some]
  generalize l.runs[j.toNat] = r at *
  unfold runV runI
  by_cases h2 : l.err < r.lead
  · rw [if_pos h2, if_pos h2]
    simp only [Option.getD_some, Int.toNat_of_nonneg a0, Int.toNat_of_nonneg b0]
    by_cases h3 : r.a = x
    · rw [if_pos h3, if_pos ⟨a0, h3⟩]; rfl
    · rw [if_neg h3, if_neg (fun h => h3 h.2)]
  · rw [if_neg h2, if_neg h2]
    by_cases h4 : r.lead < -l.err
    · rw [if_pos h4, if_pos h4]
      simp only [Option.getD_some, Int.toNat_of_nonneg a0, Int.toNat_of_nonneg b0]
      by_cases h3 : r.b = x
      · rw [if_pos h3, if_pos ⟨b0, h3⟩]; rfl
      · rw [if_neg h3, if_neg (fun h => h3 h.2)]
    · rw [if_neg h4, if_neg h4, if_neg (by simp)]
def chainB (l : Lb) (a b : Int) (c : List Int) : Bool := match leadV l a c with | none => false | some x => decide (x = b) && (!c.isEmpty && true)
/-- A chain, as far as it has been looked at. -/
structure CI (l : Lb) (a b : Int) (c : List Int) (i : Nat) : Prop where
  le : i ≤ c.length
  ok : leadV l a (c.take i) = some (if i = 0 then a else (rqL l (c.getD (i - 1) 0)).2)
  fin : 0 < i → i = c.length → (rqL l (c.getD (i - 1) 0)).2 = b
theorem CI.start (l : Lb) (a b : Int) (c : List Int) : CI l a b c 0 := ⟨by omega, rfl, by omega⟩
section
variable {l : Lb} {a b : Int} {c : List Int} {i : Nat}
theorem CI.next (hl : l.Ok) (h : CI l a b c i) (hi : i < c.length) (hc : ∀ j ∈ c, 0 ≤ j ∧ j < l.runs.length) : leadV l a (c.take (i + 1)) = if 0 ≤ (rqL l (c.getD i 0)).1 ∧ (rqL l (c.getD i 0)).1 = (if i = 0 then a else (rqL l (c.getD (i - 1) 0)).2) then some (rqL l (c.getD i 0)).2 else none := by
  have hg : c.getD i 0 = c[i] := by rw [List.getD_eq_getElem?_getD, List.getElem?_eq_getElem hi]; rfl
  have hm := hc _ (List.getElem_mem hi)
  rw [← List.take_append_getElem hi, lead_app, h.ok, Option.bind_some, lead_one2 hl hm.1 hm.2, hg]
theorem CI.step (hl : l.Ok) (h : CI l a b c i) (hi : i < c.length) (hc : ∀ j ∈ c, 0 ≤ j ∧ j < l.runs.length) (h0 : 0 ≤ (rqL l (c.getD i 0)).1) (h1 : (rqL l (c.getD i 0)).1 = (if i = 0 then a else (rqL l (c.getD (i - 1) 0)).2)) (h2 : (rqL l (c.getD i 0)).2 = (if i + 1 < c.length then (rqL l (c.getD (i + 1) 0)).1 else b)) : CI l a b c (i + 1) := by
  refine ⟨by omega, ?_, fun _ h3 => ?_⟩
  · rw [h.next hl hi hc, if_pos ⟨h0, h1⟩, if_neg (by omega), Nat.add_sub_cancel]
  · rw [Nat.add_sub_cancel, h2, if_neg (by omega)]
theorem CI.end (h : CI l a b c c.length) : chainB l a b c = decide (0 < c.length) := by
  have h1 := h.ok
  rw [List.take_length] at h1
  unfold chainB
  rw [h1]
  by_cases e : c.length = 0
  · have : c = [] := List.length_eq_zero_iff.1 e
    subst this
    simp
  · rw [if_neg e, h.fin (by omega) rfl]
    cases c with
    | nil => simp at e
    | cons x c => simp
end
end Go.Proofs.YtcmpdmobmbbplaaGreat

/- Walks of the reference: the error of a lab, what a run shows. -/
namespace Go.Proofs.YtcmpdmobmbbplaaGreat
set_option maxRecDepth 4000
open Go Go.Eng

theorem out_ca (n lo hi : Int) (w : World) : Ca Tryz.prog 71 [.int .i64 n, .int .i64 lo, .int .i64 hi] w fun v w' => v = .bool (!(inB n lo hi)) ∧ Chg [] w w' := by
  refine q_of (Sat.nil w M0) Tryz.func71 rfl (by simp [Tryz.ntmps71]) ?_
  by_cases h1 : n < lo
  · (refine q_seq (q_region (ql_pure tabOk rfl rfl (q_nil (q_seq (q_region (ql_pure tabOk rfl rfl (ql_pure tabOk rfl rfl (ql_lssT tabOk rfl rfl rfl (by omega) (ql_pure tabOk rfl rfl ?_))))))))); (iterate 3 refine ql_gno rfl rfl rfl ?_); refine ql_pure tabOk rfl rfl (ql_pure tabOk rfl rfl (q_nil (q_ret ?_))))
    refine q_fin tabOk rfl (by repeat constructor) fun w hs => ?_
    exact ⟨by simp [inB, retV]; omega, hs.chg0⟩
  · by_cases h2 : n > hi
    · (refine q_seq (q_region (ql_pure tabOk rfl rfl (q_nil (q_seq (q_region (ql_pure tabOk rfl rfl (ql_pure tabOk rfl rfl (ql_lssF tabOk rfl rfl rfl (by omega) (ql_pure tabOk rfl rfl (ql_gyes rfl (ql_pure tabOk rfl rfl ?_))))))))))); refine ql_gyes rfl (ql_pure tabOk rfl rfl (ql_gyes rfl (ql_gtrT tabOk rfl rfl rfl (by omega) (ql_pure tabOk rfl rfl (ql_pure tabOk rfl rfl (q_nil (q_ret ?_))))))))
      refine q_fin tabOk rfl (by repeat constructor) fun w hs => ?_
      exact ⟨by simp [inB, retV]; omega, hs.chg0⟩
    · (refine q_seq (q_region (ql_pure tabOk rfl rfl (q_nil (q_seq (q_region (ql_pure tabOk rfl rfl (ql_pure tabOk rfl rfl (ql_lssF tabOk rfl rfl rfl (by omega) (ql_pure tabOk rfl rfl (ql_gyes rfl (ql_pure tabOk rfl rfl ?_))))))))))); refine ql_gyes rfl (ql_pure tabOk rfl rfl (ql_gyes rfl (ql_gtrF tabOk rfl rfl rfl (by omega) (ql_pure tabOk rfl rfl (ql_pure tabOk rfl rfl (q_nil (q_ret ?_))))))))
      refine q_fin tabOk rfl (by repeat constructor) fun w hs => ?_
      exact ⟨by simp [inB, retV]; omega, hs.chg0⟩
theorem rshows_ca (w : World) (lo hi : Nat) (l : Lb) (v : Value) (h : RdR w lo hi v l.runs) (he : 0 ≤ l.err ∧ l.err ≤ 1000) (i : Nat) (hi' : i < l.runs.length) (hr : -10000 ≤ l.runs[i].lead) :
    Ca Tryz.prog 86 [.agg (lbC l v).toArray, .int .i64 i] w fun x w' => x = .tuple #[.int .i64 (shR l.err l.runs[i]).1, .int .i64 (shR l.err l.runs[i]).2] ∧ Chg [] w w' := by
  obtain ⟨a, ca, rfl, hsa⟩ := RdR.outI h
  obtain ⟨b, off, rfl⟩ := hsa (by omega)
  refine q_of (Sat.nil w M0) Tryz.func86 rfl (by simp [Tryz.ntmps86]) ?_
  (refine q_seq (q_region ?_))
  refine ql_box rfl rfl (fun b2 => ?_)
  (refine ql_pure tabOk rfl rfl (ql_pure tabOk rfl rfl (q_nil (q_seq (q_region (ql_pure tabOk rfl rfl ?_))))); refine ql_loadBa tabOk rfl rfl rfl ?_; refine ql_pure tabOk rfl rfl ?_)
  refine ql_index tabOk rfl rfl rfl rfl rfl (by omega) (by omega) ?_
  refine ql_loadA tabOk rfl rfl rfl rfl (fun w hs => RdR.at (RdE.keep h hs.chg0) i hi') ?_
  skip
  refine ql_alloc zero113 rfl (fun b6 => ?_)
  (refine ql_setA tabOk rfl rfl rfl rfl rfl (by repeat constructor) rfl ?_; refine q_nil (q_seq (q_seq (q_region (ql_pure tabOk rfl rfl ?_)))); refine ql_loadBa tabOk rfl rfl rfl ?_; refine ql_pure tabOk rfl rfl ?_; refine ql_loadBa tabOk rfl rfl rfl ?_; refine ql_pure tabOk rfl rfl (q_nil ?_))
  refine q_if rfl (fun hc => ?_) (fun hc => ?_)
  · (refine q_seq ?_)
    refine q_draw _ [] (Sp.refl _) (by kernel_rfl) (by kernel_rfl) ?_
    (refine qf_pure tabOk rfl rfl rfl ?_; refine qf_loadBa tabOk rfl rfl rfl ?_; refine qf_pure tabOk rfl rfl rfl ?_; refine qf_loadBa tabOk rfl rfl rfl ?_; refine qf_pure tabOk rfl rfl rfl (qf_pure tabOk rfl rfl rfl (qf_nil (q_ret ?_))))
    refine q_fin tabOk rfl (by repeat constructor) fun w hs => ?_
    exact ⟨by simp [retV, shR, runI, hc], hs.chg0⟩
  · have h1 := hc
    clear hc
    (refine q_skip (q_seq (q_seq (q_region (ql_pure tabOk rfl rfl ?_)))); refine ql_loadBa tabOk rfl rfl rfl ?_; refine ql_neg tabOk rfl rfl (by omega) (by omega) (ql_pure tabOk rfl rfl ?_); refine ql_loadBa tabOk rfl rfl rfl ?_; refine ql_pure tabOk rfl rfl (q_nil ?_))
    refine q_if rfl (fun hc => ?_) (fun hc => ?_)
    · have h2 : l.runs[i].lead < -l.err := by omega
      (refine q_seq ?_)
      refine q_draw _ [] (Sp.refl _) (by kernel_rfl) (by kernel_rfl) ?_
      (refine qf_pure tabOk rfl rfl rfl ?_; refine qf_loadBa tabOk rfl rfl rfl ?_; refine qf_pure tabOk rfl rfl rfl ?_; refine qf_loadBa tabOk rfl rfl rfl ?_; refine qf_pure tabOk rfl rfl rfl (qf_pure tabOk rfl rfl rfl (qf_nil (q_ret ?_))))
      refine q_fin tabOk rfl (by repeat constructor) fun w hs => ?_
      exact ⟨by simp [retV, shR, runI, h1, h2], hs.chg0⟩
    · have h2 : ¬ l.runs[i].lead < -l.err := by omega
      (refine q_skip (q_seq (q_region (ql_pure tabOk rfl rfl (ql_pure tabOk rfl rfl (q_nil (q_ret ?_)))))))
      refine q_fin tabOk rfl (by repeat constructor) fun w hs => ?_
      exact ⟨by simp [retV, shR, runI, h1, h2], hs.chg0⟩
theorem all_take {α : Type} (p : α → Bool) (l : List α) {i : Nat} (hi : i < l.length) (h : (l.take i).all p = true) (hx : p l[i] = true) : (l.take (i + 1)).all p = true := by
  rw [← List.take_append_getElem hi, List.all_append, h]
  simp [hx]
theorem all_stop {α : Type} (p : α → Bool) (l : List α) {i : Nat} (hi : i < l.length) (hx : p l[i] = false) : l.all p = false := by
  rw [List.all_eq_false]
  exact ⟨l[i], List.getElem_mem hi, by rw [hx]; simp⟩
theorem rcheck_ca (w : World) (lo hi : Nat) (l : Lb) (v : Value) (h : RdR w lo hi v l.runs) (hlen : l.runs.length ≤ maxLen) : Ca Tryz.prog 30 [.agg (lbC l v).toArray] w fun x w' => x = .int .i64 (checkV l) ∧ Chg [] w w' := by
  obtain ⟨a, ca, rfl, hsa⟩ := RdR.outI h
  simp only [maxLen] at hlen
  refine q_of (Sat.nil w M0) Tryz.func30 rfl (by simp [Tryz.ntmps30]) ?_
  (refine q_seq (q_region ?_))
  refine ql_box rfl rfl (fun b1 => ?_)
  rw [agg_cells]
  (refine ql_pure tabOk rfl rfl (q_nil (q_seq (q_seq (q_region (ql_pure tabOk rfl rfl ?_))))); refine ql_loadBa tabOk rfl rfl rfl ?_)
  refine ql_callv (val := .bool (!(inB l.skis 1 8))) tabOk rfl rfl rfl rfl (fun w hs => ?_) ?_; exact out_ca l.skis 1 8 w
  have ec : ∀ x : Bool, (!x) = false → x = true := fun x => by cases x <;> simp
  cases h1 : inB l.skis 1 8 with
  | false =>
    (refine ql_pure tabOk rfl rfl ?_; (iterate 3 refine ql_gno rfl rfl rfl ?_); refine ql_pure tabOk rfl rfl (q_nil (q_cond_true rfl (q_seq (q_region (ql_pure tabOk rfl rfl (q_nil (q_ret ?_))))))))
    refine q_fin tabOk rfl (by repeat constructor) fun w hs => ?_
    exact ⟨by simp [retV, checkV, h1], hs.chg0⟩
  | true =>
    (refine ql_pure tabOk rfl rfl (ql_gyes rfl (ql_pure tabOk rfl rfl (ql_gyes rfl ?_))); refine ql_loadBa tabOk rfl rfl rfl ?_; refine ql_gyes rfl ?_)
    refine ql_callv (val := .bool (!(inB l.err 0 1000))) tabOk rfl rfl rfl rfl (fun w hs => ?_) ?_; exact out_ca l.err 0 1000 w
    cases h2 : inB l.err 0 1000 with
    | false =>
      (refine ql_pure tabOk rfl rfl (q_nil (q_cond_true rfl (q_seq (q_region (ql_pure tabOk rfl rfl (q_nil (q_ret ?_))))))))
      refine q_fin tabOk rfl (by repeat constructor) fun w hs => ?_
      exact ⟨by simp [retV, checkV, h1, h2], hs.chg0⟩
    | true =>
      have hsk := inB_iff.1 h1
      (refine ql_pure tabOk rfl rfl (q_nil (q_cond_false rfl (q_skip (q_seq (q_seq (q_region (ql_pure tabOk rfl rfl ?_))))))); refine ql_loadBa tabOk rfl rfl rfl ?_; refine ql_pure tabOk rfl rfl (ql_pure tabOk rfl rfl (q_nil ?_)))
      refine q_if rfl (fun hc => ?_) (fun hc => ?_)
      · have h3 : 40 < l.runs.length := by omega
        (refine q_seq (q_region (ql_pure tabOk rfl rfl (q_nil (q_ret ?_)))))
        refine q_fin tabOk rfl (by repeat constructor) fun w hs => ?_
        exact ⟨by simp [retV, checkV, h1, h2, h3], hs.chg0⟩
      · have h3 : ¬ 40 < l.runs.length := by omega
        clear hc
        (refine q_skip (q_seq (q_seq (q_region (ql_pure tabOk rfl rfl (q_nil (q_block ?_)))))))
        refine q_loop (σ := Nat) (fun k => k ≤ l.runs.length ∧ (l.runs.take k).all (knP l.skis) = true) (fun k => l.runs.length - k) (fun k => [(1, .pointer (some ⟨b1, 0, none⟩)), (3, .int .i64 k)]) (fun _ => [.pt b1 (lbC l (.slice a l.runs.length ca)) 30]) 0 ⟨by omega, by simp⟩ ⟨rfl, rfl, trivial⟩ (by repeat constructor) ?_
        rintro k ⟨hk, hall⟩ K hK
        (refine q_seq (q_seq (q_region (ql_pure tabOk rfl rfl (ql_pure tabOk rfl rfl ?_)))); refine ql_loadBa tabOk rfl rfl rfl ?_; refine ql_pure tabOk rfl rfl (ql_pure tabOk rfl rfl (q_nil ?_)))
        refine q_if rfl (fun hc => ?_) (fun hc => ?_)
        · have hk2 : k < l.runs.length := by omega
          clear hc
          obtain ⟨b, off, hab⟩ := hsa (by omega)
          cases hab
          (refine q_skip (q_seq (q_block (q_seq (q_region (ql_pure tabOk rfl rfl ?_))))); refine ql_loadBa tabOk rfl rfl rfl ?_; refine ql_pure tabOk rfl rfl ?_)
          refine ql_index tabOk rfl rfl rfl rfl rfl (by omega) (by omega) ?_
          refine ql_loadA tabOk rfl rfl rfl rfl (fun w hs => RdR.at (RdE.keep h hs.chg0) k hk2) ?_
          skip
          refine ql_alloc zero113 rfl (fun b4 => ?_)
          (refine ql_setA tabOk rfl rfl rfl rfl rfl (by repeat constructor) rfl ?_; refine q_nil (q_seq (q_region (ql_pure tabOk rfl rfl ?_))); refine ql_loadBa tabOk rfl rfl rfl ?_; refine ql_pure tabOk rfl rfl ?_; refine ql_loadBa tabOk rfl rfl rfl ?_; refine ql_ar tabOk rfl rfl rfl rfl (by omega) (by omega) ?_)
          refine ql_callv (val := .bool (!(inB l.runs[k].a 0 (l.skis - 1)))) tabOk rfl rfl rfl rfl (fun w hs => ?_) ?_; exact out_ca l.runs[k].a 0 (l.skis - 1) w
          cases ha : inB l.runs[k].a 0 (l.skis - 1) with
          | false =>
            have hkn : knP l.skis l.runs[k] = false := by unfold knP; simp_all
            (refine ql_pure tabOk rfl rfl ?_; (iterate 6 refine ql_gno rfl rfl rfl ?_); refine ql_pure tabOk rfl rfl (ql_pure tabOk rfl rfl ?_); (iterate 5 refine ql_gno rfl rfl rfl ?_); refine ql_pure tabOk rfl rfl (q_nil (q_cond_true rfl (q_seq (q_region (ql_pure tabOk rfl rfl (q_nil (q_ret ?_))))))))
            refine q_fin tabOk rfl (by repeat constructor) fun w hs => ?_
            have hbad : knownB l = false := all_stop _ _ hk2 hkn
            exact ⟨by simp [retV, checkV, h1, h2, h3, hbad], hs.chg0⟩
          | true =>
            (refine ql_pure tabOk rfl rfl (ql_gyes rfl (ql_pure tabOk rfl rfl (ql_gyes rfl ?_))); refine ql_loadBa tabOk rfl rfl rfl ?_; refine ql_gyes rfl (ql_pure tabOk rfl rfl (ql_gyes rfl ?_)); refine ql_loadBa tabOk rfl rfl rfl ?_; refine ql_gyes rfl (ql_ar tabOk rfl rfl rfl rfl (by omega) (by omega) (ql_gyes rfl ?_)))
            refine ql_callv (val := .bool (!(inB l.runs[k].b 0 (l.skis - 1)))) tabOk rfl rfl rfl rfl (fun w hs => ?_) ?_; exact out_ca l.runs[k].b 0 (l.skis - 1) w
            cases hb : inB l.runs[k].b 0 (l.skis - 1) with
            | false =>
              have hkn : knP l.skis l.runs[k] = false := by unfold knP; simp_all
              (refine ql_pure tabOk rfl rfl (ql_pure tabOk rfl rfl ?_); (iterate 5 refine ql_gno rfl rfl rfl ?_); refine ql_pure tabOk rfl rfl (q_nil (q_cond_true rfl (q_seq (q_region (ql_pure tabOk rfl rfl (q_nil (q_ret ?_))))))))
              refine q_fin tabOk rfl (by repeat constructor) fun w hs => ?_
              have hbad : knownB l = false := all_stop _ _ hk2 hkn
              exact ⟨by simp [retV, checkV, h1, h2, h3, hbad], hs.chg0⟩
            | true =>
              by_cases hab : l.runs[k].a = l.runs[k].b
              · skip
                have hkn : knP l.skis l.runs[k] = false := by unfold knP; simp_all
                (refine ql_pure tabOk rfl rfl (ql_pure tabOk rfl rfl (ql_gyes rfl (ql_pure tabOk rfl rfl (ql_gyes rfl ?_)))); refine ql_loadBa tabOk rfl rfl rfl ?_; refine ql_gyes rfl (ql_pure tabOk rfl rfl (ql_gyes rfl ?_)); refine ql_loadBa tabOk rfl rfl rfl ?_; refine ql_gyes rfl (ql_eqlT tabOk rfl rfl rfl (by omega) (ql_pure tabOk rfl rfl (q_nil (q_cond_true rfl (q_seq (q_region (ql_pure tabOk rfl rfl (q_nil (q_ret ?_))))))))))
                refine q_fin tabOk rfl (by repeat constructor) fun w hs => ?_
                have hbad : knownB l = false := all_stop _ _ hk2 hkn
                exact ⟨by simp [retV, checkV, h1, h2, h3, hbad], hs.chg0⟩
              · have hkn : knP l.skis l.runs[k] = true := by unfold knP; simp [ha, hb, hab]
                (refine ql_pure tabOk rfl rfl (ql_pure tabOk rfl rfl (ql_gyes rfl (ql_pure tabOk rfl rfl (ql_gyes rfl ?_)))); refine ql_loadBa tabOk rfl rfl rfl ?_; refine ql_gyes rfl (ql_pure tabOk rfl rfl (ql_gyes rfl ?_)); refine ql_loadBa tabOk rfl rfl rfl ?_; refine ql_gyes rfl (ql_eqlF tabOk rfl rfl rfl (by omega) (ql_pure tabOk rfl rfl (q_nil (q_cond_false rfl (q_skip (q_blk (q_region (ql_pure tabOk rfl rfl (ql_ar tabOk rfl rfl rfl rfl (by omega) (by omega) (ql_pure tabOk rfl rfl (q_nil ?_))))))))))))
                exact hK (k + 1) _ _ ⟨by omega, all_take _ _ hk2 hall hkn⟩ (by omega) ⟨rfl, rfl, trivial⟩ (by repeat constructor)
        · obtain rfl : k = l.runs.length := by omega
          clear hc hK hk
          rw [List.take_length] at hall
          have hkb : knownB l = true := hall
          (refine q_exit _ rfl (q_seq (q_seq (q_region (ql_pure tabOk rfl rfl (q_nil (q_block ?_)))))))
          refine q_loop (σ := Nat) (fun k => k ≤ l.runs.length ∧ (l.runs.take k).all (fun r => inB r.lead (-10000) 10000) = true) (fun k => l.runs.length - k) (fun k => [(1, .pointer (some ⟨b1, 0, none⟩)), (5, .int .i64 k)]) (fun _ => [.pt b1 (lbC l (.slice a l.runs.length ca)) 30]) 0 ⟨by omega, by simp⟩ ⟨rfl, rfl, trivial⟩ (by repeat constructor) ?_
          rintro k ⟨hk, hall2⟩ K hK
          (refine q_seq (q_seq (q_region (ql_pure tabOk rfl rfl (ql_pure tabOk rfl rfl ?_)))); refine ql_loadBa tabOk rfl rfl rfl ?_; refine ql_pure tabOk rfl rfl (ql_pure tabOk rfl rfl (q_nil ?_)))
          refine q_if rfl (fun hc => ?_) (fun hc => ?_)
          · have hk2 : k < l.runs.length := by omega
            clear hc
            obtain ⟨b, off, hab⟩ := hsa (by omega)
            cases hab
            (refine q_skip (q_seq (q_block (q_seq (q_region (ql_pure tabOk rfl rfl ?_))))); refine ql_loadBa tabOk rfl rfl rfl ?_; refine ql_pure tabOk rfl rfl ?_)
            refine ql_index tabOk rfl rfl rfl rfl rfl (by omega) (by omega) ?_
            (refine ql_pure tabOk rfl rfl ?_)
            refine ql_load1 (v := .int .i64 l.runs[k].lead) tabOk rfl rfl rfl (fun w hs => RdR.at (RdE.keep h hs.chg0) k hk2 2 (by omega)) ?_
            refine ql_callv (val := .bool (!(inB l.runs[k].lead (-10000) 10000))) tabOk rfl rfl rfl rfl (fun w hs => ?_) ?_; exact out_ca l.runs[k].lead (-10000) 10000 w
            cases hx : inB l.runs[k].lead (-10000) 10000 with
            | false =>
              (refine q_nil (q_cond_true rfl (q_seq (q_region (ql_pure tabOk rfl rfl (q_nil (q_ret ?_)))))))
              refine q_fin tabOk rfl (by repeat constructor) fun w hs => ?_
              have hbad : leadB l = false := all_stop (fun r : Rn => inB r.lead (-10000) 10000) _ hk2 hx
              exact ⟨by simp [retV, checkV, h1, h2, h3, hkb, hbad], hs.chg0⟩
            | true =>
              (refine q_nil (q_cond_false rfl (q_skip (q_blk (q_region (ql_pure tabOk rfl rfl (ql_ar tabOk rfl rfl rfl rfl (by omega) (by omega) (ql_pure tabOk rfl rfl (q_nil ?_)))))))))
              exact hK (k + 1) _ _ ⟨by omega, all_take _ _ hk2 hall2 hx⟩ (by omega) ⟨rfl, rfl, trivial⟩ (by repeat constructor)
          · obtain rfl : k = l.runs.length := by omega
            rw [List.take_length] at hall2
            have hlb : leadB l = true := hall2
            (refine q_exit _ rfl (q_seq (q_region (ql_pure tabOk rfl rfl (q_nil (q_ret ?_))))))
            refine q_fin tabOk rfl (by repeat constructor) fun w hs => ?_
            exact ⟨by simp [retV, checkV, h1, h2, h3, hkb, hlb], hs.chg0⟩
end Go.Proofs.YtcmpdmobmbbplaaGreat

/- Walks of the reference: two skis; which skis are faster. -/
namespace Go.Proofs.YtcmpdmobmbbplaaGreat
set_option maxRecDepth 4000
open Go Go.Eng

theorem runI_sh {l : Lb} (hl : l.Ok) {i : Nat} (hi : i < l.runs.length) {p q : Int} (h : runI l.err l.runs[i] = some (p, q)) : ∃ f s : Nat, p = f ∧ q = s ∧ Sh l i f s := by
  have hr := hl.run _ (List.getElem_mem hi)
  have a0 := hr.a0
  have b0 := hr.b0
  have hpq : 0 ≤ p ∧ 0 ≤ q := by
    unfold runI at h
    split at h
    · cases h; exact ⟨a0, b0⟩
    · split at h
      · cases h; exact ⟨b0, a0⟩
      · cases h
  refine ⟨p.toNat, q.toNat, by omega, by omega, hi, ?_⟩
  rw [List.getD_eq_getElem?_getD, List.getElem?_eq_getElem hi, Option.getD_some, runI_nat, h]
  rfl
theorem runI_no {l : Lb} {i : Nat} (hi : i < l.runs.length) (h : runI l.err l.runs[i] = none) {f s : Nat} : ¬ Sh l i f s := by
  rintro ⟨_, h2⟩
  rw [List.getD_eq_getElem?_getD, List.getElem?_eq_getElem hi, Option.getD_some, runI_nat, h] at h2
  cases h2
theorem slBo : SlT Tryz.prog 201 4 1 1 (.bool false) := ⟨by kernel_rfl, by kernel_rfl, rfl, by omega⟩
set_option maxHeartbeats 2000000 in
theorem rfast_ca (w : World) (lo hi : Nat) (l : Lb) (v : Value) (h : RdR w lo hi v l.runs) (hl : l.Ok) (a b : Nat) (ha : a < l.n) (hb : b < l.n) : Ca Tryz.prog 83 [.agg (lbC l v).toArray, .int .i64 a, .int .i64 b] w fun x w' => x = .bool (fa l.ord a b) ∧ Chg [] w w' := by
  have h8 := hl.n8
  have s0 := hl.s0
  have hlen := hl.len
  obtain ⟨n, hn⟩ := Int.eq_ofNat_of_zero_le (show 0 ≤ l.skis by omega)
  have hn' : l.n = n := by unfold Lb.n; omega
  rw [hn'] at h8 ha hb
  obtain ⟨va, vc, rfl, hsa⟩ := RdR.outI h
  refine q_of (Sat.nil w M0) Tryz.func83 rfl (by simp [Tryz.ntmps83]) ?_
  (refine q_seq (q_region ?_))
  refine ql_box rfl rfl (fun b3 => ?_)
  rw [agg_cells]
  (refine ql_pure tabOk rfl rfl (q_nil (q_seq (q_region (ql_pure tabOk rfl rfl ?_)))); refine ql_loadBa tabOk rfl rfl rfl ?_)
  rw [hn]
  refine ql_makeZ slBo rfl rfl rfl rfl (by omega) (by omega) (fun b14 => ?_)
  (refine ql_pure tabOk rfl rfl (q_nil (q_seq (q_seq (q_region (ql_pure tabOk rfl rfl (q_nil (q_block ?_))))))))
  refine q_conv (H' := [.pt b14 (bools (List.replicate n false)) 4, .pt b3 (lbC l (.slice va l.runs.length vc)) 30]) (fun w' hs => by rw [show bools (List.replicate n false) = List.replicate n (.bool false) from List.map_replicate]; exact hs.sp (by repeat constructor)) ?_
  refine q_loop (σ := Bool × List Bool) (fun s => FI l a s.2 ∧ (s.1 = false → ∀ i f t, Sh l i f t → (f = a ∨ s.2.getD f false = true) → s.2.getD t false = true)) (fun s => falses s.2 + (if s.1 then 1 else 0)) (fun s => [(1, .int .i64 a), (2, .int .i64 b), (3, .pointer (some ⟨b3, 0, none⟩)), (7, .slice (some ⟨b14, 0, none⟩) n n), (8, .bool s.1)])
    (fun s => [.pt b14 (bools s.2) 4, .pt b3 (lbC l (.slice va l.runs.length vc)) 30]) (true, List.replicate n false) ⟨by rw [← hn']; exact FI.start, by simp⟩ ⟨rfl, rfl, rfl, rfl, rfl, trivial⟩ (Sp.refl _) ?_
  rintro ⟨gr, sl⟩ ⟨hF, hcl⟩ K hK
  dsimp only at hF hcl hK ⊢
  cases gr with
  | false =>
    have hbl : b < sl.length := by rw [hF.len, hn']; exact hb
    (refine q_seq (q_seq (q_region (ql_pure tabOk rfl rfl (q_nil (q_cond_false rfl (q_exit _ rfl (q_seq (q_region (ql_pure tabOk rfl rfl (ql_pure tabOk rfl rfl ?_)))))))))))
    refine ql_index tabOk rfl rfl rfl rfl rfl (by omega) (by omega) ?_
    refine ql_load1 (v := .bool (sl.getD b false)) tabOk rfl rfl rfl (fun w hs => bcell (hs.blk (b := b14) (by repeat constructor)) b hbl) ?_
    (refine ql_pure tabOk rfl rfl (q_nil (q_ret ?_)))
    refine q_fin tabOk rfl (by repeat constructor) fun w hs => ?_
    exact ⟨by rw [hF.done hl (by omega) (hcl rfl) (by rw [hn']; exact hb)]; rfl, hs.chg0⟩
  | true =>
    clear hcl
    (refine q_seq (q_seq (q_region (ql_pure tabOk rfl rfl (q_nil (q_cond_true rfl (q_skip (q_block (q_seq (q_region (ql_pure tabOk rfl rfl (q_nil ?_))))))))))); refine q_seq (q_region (ql_pure tabOk rfl rfl (q_nil (q_block ?_)))))
    refine q_loop (σ := Nat × Bool × List Bool) (fun s => s.1 ≤ l.runs.length ∧ FI l a s.2.2 ∧ (s.2.1 = false → s.2.2 = sl ∧ ∀ j f t, j < s.1 → Sh l j f t → (f = a ∨ s.2.2.getD f false = true) → s.2.2.getD t false = true) ∧ falses s.2.2 + (if s.2.1 then 1 else 0) ≤ falses sl) (fun s => l.runs.length - s.1) (fun s => [(1, .int .i64 a), (2, .int .i64 b), (3, .pointer (some ⟨b3, 0, none⟩)), (7, .slice (some ⟨b14, 0, none⟩) n n), (8, .bool s.2.1), (9, .int .i64 s.1)])
      (fun s => [.pt b14 (bools s.2.2) 4, .pt b3 (lbC l (.slice va l.runs.length vc)) 30]) (0, false, sl) ⟨by simp, hF, fun _ => ⟨rfl, fun j f t hj => by simp at hj⟩, by simp⟩ ⟨rfl, rfl, rfl, rfl, rfl, rfl, trivial⟩ (Sp.refl _) ?_
    rintro ⟨i, gr, sl'⟩ ⟨hir, hF', hcl, hfl⟩ K2 hK2
    dsimp only at hir hF' hcl hfl hK2 ⊢
    (refine q_seq (q_seq (q_region (ql_pure tabOk rfl rfl (ql_pure tabOk rfl rfl ?_)))); refine ql_loadBa tabOk rfl rfl rfl ?_; refine ql_pure tabOk rfl rfl (ql_pure tabOk rfl rfl (q_nil ?_)))
    refine q_if rfl (fun hc => ?_) (fun hc => ?_)
    · have hi2 : i < l.runs.length := by omega
      clear hc
      have hrl := (hl.run _ (List.getElem_mem hi2)).l0
      (refine q_skip (q_seq (q_block (q_seq (q_region ?_)))); refine ql_loadABa tabOk rfl rfl rfl ?_; refine ql_pure tabOk rfl rfl ?_)
      cases hr : runI l.err l.runs[i] with
      | none =>
        refine ql_callv (val := .tuple #[.int .i64 (-1), .int .i64 (-1)]) tabOk rfl rfl rfl rfl (fun w hs => ?_) ?_; exact by have := rshows_ca w lo hi l _ (RdE.keep h hs.chg0) ⟨hl.e0, hl.e1⟩ i hi2 hrl; rw [show shR l.err l.runs[i] = (-1, -1) from by unfold shR; rw [hr]; rfl] at this; exact this
        (refine ql_pure tabOk rfl rfl (ql_ext tabOk rfl rfl rfl (ql_ext tabOk rfl rfl rfl (ql_pure tabOk rfl rfl (ql_pure tabOk rfl rfl (q_nil (q_seq (q_region (ql_pure tabOk rfl rfl (ql_geqF tabOk rfl rfl rfl (by omega) (ql_pure tabOk rfl rfl ?_)))))))))); (iterate 4 refine ql_gno rfl rfl rfl ?_); (iterate 4 refine ql_gnone rfl rfl ?_); refine ql_gno rfl rfl rfl (ql_pure tabOk rfl rfl (ql_pure tabOk rfl rfl ?_)); (iterate 5 refine ql_gno rfl rfl rfl ?_); refine ql_pure tabOk rfl rfl (q_nil (q_cond_false rfl (q_skip (q_blk (q_region (ql_pure tabOk rfl rfl (ql_ar tabOk rfl rfl rfl rfl (by omega) (by omega) (ql_pure tabOk rfl rfl (q_nil ?_))))))))))
        exact hK2 (i + 1, gr, sl') _ _ ⟨by omega, hF', fun hg => ⟨(hcl hg).1, fun j f t hj hsh => by
          by_cases e : j = i
          · rw [e] at hsh; exact absurd hsh (runI_no hi2 hr)
          · exact (hcl hg).2 j f t (by omega) hsh⟩, hfl⟩ (by dsimp only; omega) ⟨rfl, rfl, rfl, rfl, rfl, rfl, trivial⟩ (Sp.refl _)
      | some pq =>
        obtain ⟨p, q⟩ := pq
        obtain ⟨f, t, rfl, rfl, hsh⟩ := runI_sh hl hi2 hr
        have hin := sh_in hl hsh
        rw [hn'] at hin
        have hfl2 : f < sl'.length := by rw [hF'.len, hn']; exact hin.1
        have htl2 : t < sl'.length := by rw [hF'.len, hn']; exact hin.2
        have hso : ∀ f' t', Sh l i f' t' → f' = f ∧ t' = t := fun f' t' h' => by
          have := h'.2.symm.trans hsh.2
          cases this
          exact ⟨rfl, rfl⟩
        refine ql_callv (val := .tuple #[.int .i64 f, .int .i64 t]) tabOk rfl rfl rfl rfl (fun w hs => ?_) ?_; exact by have := rshows_ca w lo hi l _ (RdE.keep h hs.chg0) ⟨hl.e0, hl.e1⟩ i hi2 hrl; rw [show shR l.err l.runs[i] = ((f : Int), (t : Int)) from by unfold shR; rw [hr]; rfl] at this; exact this
        by_cases hfa : f = a
        · have hfa' : f = a ∨ sl'.getD f false = true := .inl hfa
          (refine ql_pure tabOk rfl rfl (ql_ext tabOk rfl rfl rfl (ql_ext tabOk rfl rfl rfl (ql_pure tabOk rfl rfl (ql_pure tabOk rfl rfl (q_nil (q_seq (q_region (ql_pure tabOk rfl rfl (ql_geqT tabOk rfl rfl rfl (by omega) (ql_pure tabOk rfl rfl (ql_gyes rfl ?_))))))))))); refine ql_pure tabOk rfl rfl (ql_gyes rfl (ql_pure tabOk rfl rfl (ql_gyes rfl (ql_eqlT tabOk rfl rfl rfl (by omega) (ql_gyes rfl (ql_pure tabOk rfl rfl ?_)))))); (iterate 4 refine ql_gno rfl rfl rfl ?_); refine ql_gyes rfl ?_; (iterate 3 refine ql_pure tabOk rfl rfl ?_); refine ql_gyes rfl (ql_pure tabOk rfl rfl (ql_gyes rfl (ql_pure tabOk rfl rfl (ql_gyes rfl ?_)))))
          refine ql_index tabOk rfl rfl rfl rfl rfl (by omega) (by omega) ?_
          (refine ql_gyes rfl ?_)
          refine ql_load1 (v := .bool (sl'.getD t false)) tabOk rfl rfl rfl (fun w hs => bcell (hs.blk (b := b14) (by repeat constructor)) t htl2) ?_
          cases ht : sl'.getD t false with
          | true =>
            have hskip : (f = a ∨ sl'.getD f false = true) → sl'.getD t false = true := fun _ => ht
            (refine ql_gyes rfl (ql_pure tabOk rfl rfl (ql_pure tabOk rfl rfl (q_nil (q_cond_false rfl (q_skip (q_blk (q_region (ql_pure tabOk rfl rfl (ql_ar tabOk rfl rfl rfl rfl (by omega) (by omega) (ql_pure tabOk rfl rfl (q_nil ?_))))))))))))
            exact hK2 (i + 1, gr, sl') _ _ ⟨by omega, hF', fun hg => ⟨(hcl hg).1, fun j f' t' hj hs' hf' => by
              by_cases e : j = i
              · rw [e] at hs'
                obtain ⟨rfl, rfl⟩ := hso f' t' hs'
                exact hskip hf'
              · exact (hcl hg).2 j f' t' (by omega) hs' hf'⟩, hfl⟩ (by dsimp only; omega) ⟨rfl, rfl, rfl, rfl, rfl, rfl, trivial⟩ (Sp.refl _)
          | false =>
            (refine ql_gyes rfl (ql_pure tabOk rfl rfl (ql_pure tabOk rfl rfl (q_nil (q_cond_true rfl (q_seq (q_region (ql_pure tabOk rfl rfl (ql_pure tabOk rfl rfl ?_)))))))))
            refine ql_index tabOk rfl rfl rfl rfl rfl (by omega) (by omega) ?_
            refine ql_storeBo tabOk t rfl rfl rfl (by repeat constructor) (by simp) htl2 ?_
            (refine q_nil (q_region (ql_pure tabOk rfl rfl (q_nil (q_blk (q_region (ql_pure tabOk rfl rfl (ql_ar tabOk rfl rfl rfl rfl (by omega) (by omega) (ql_pure tabOk rfl rfl (q_nil ?_))))))))))
            have hfs := falses_set sl' t htl2 ht
            have hfl3 : falses (sl'.set t true) + 1 ≤ falses sl := by split at hfl <;> omega
            exact hK2 (i + 1, true, sl'.set t true) _ _ ⟨by dsimp only; omega, hF'.add hl hsh hfa', fun hg => (by cases hg), hfl3⟩ (by dsimp only; omega) ⟨rfl, rfl, rfl, rfl, rfl, rfl, trivial⟩ (Sp.refl _)
        · (refine ql_pure tabOk rfl rfl (ql_ext tabOk rfl rfl rfl (ql_ext tabOk rfl rfl rfl (ql_pure tabOk rfl rfl (ql_pure tabOk rfl rfl (q_nil (q_seq (q_region (ql_pure tabOk rfl rfl (ql_geqT tabOk rfl rfl rfl (by omega) (ql_pure tabOk rfl rfl (ql_gyes rfl ?_))))))))))); refine ql_pure tabOk rfl rfl (ql_gyes rfl (ql_pure tabOk rfl rfl (ql_gyes rfl (ql_eqlF tabOk rfl rfl rfl (by omega) (ql_gyes rfl (ql_pure tabOk rfl rfl (ql_gyes rfl (ql_pure tabOk rfl rfl (ql_gyes rfl (ql_pure tabOk rfl rfl (ql_gyes rfl ?_))))))))))))
          refine ql_index tabOk rfl rfl rfl rfl rfl (by omega) (by omega) ?_
          (refine ql_gyes rfl ?_)
          refine ql_load1 (v := .bool (sl'.getD f false)) tabOk rfl rfl rfl (fun w hs => bcell (hs.blk (b := b14) (by repeat constructor)) f hfl2) ?_
          cases hsf : sl'.getD f false with
          | true =>
            have hfa' : f = a ∨ sl'.getD f false = true := .inr hsf
            (refine ql_gyes rfl ?_; (iterate 3 refine ql_pure tabOk rfl rfl ?_); refine ql_gyes rfl (ql_pure tabOk rfl rfl (ql_gyes rfl (ql_pure tabOk rfl rfl (ql_gyes rfl ?_)))))
            refine ql_index tabOk rfl rfl rfl rfl rfl (by omega) (by omega) ?_
            (refine ql_gyes rfl ?_)
            refine ql_load1 (v := .bool (sl'.getD t false)) tabOk rfl rfl rfl (fun w hs => bcell (hs.blk (b := b14) (by repeat constructor)) t htl2) ?_
            cases ht : sl'.getD t false with
            | true =>
              have hskip : (f = a ∨ sl'.getD f false = true) → sl'.getD t false = true := fun _ => ht
              (refine ql_gyes rfl (ql_pure tabOk rfl rfl (ql_pure tabOk rfl rfl (q_nil (q_cond_false rfl (q_skip (q_blk (q_region (ql_pure tabOk rfl rfl (ql_ar tabOk rfl rfl rfl rfl (by omega) (by omega) (ql_pure tabOk rfl rfl (q_nil ?_))))))))))))
              exact hK2 (i + 1, gr, sl') _ _ ⟨by omega, hF', fun hg => ⟨(hcl hg).1, fun j f' t' hj hs' hf' => by
                by_cases e : j = i
                · rw [e] at hs'
                  obtain ⟨rfl, rfl⟩ := hso f' t' hs'
                  exact hskip hf'
                · exact (hcl hg).2 j f' t' (by omega) hs' hf'⟩, hfl⟩ (by dsimp only; omega) ⟨rfl, rfl, rfl, rfl, rfl, rfl, trivial⟩ (Sp.refl _)
            | false =>
              (refine ql_gyes rfl (ql_pure tabOk rfl rfl (ql_pure tabOk rfl rfl (q_nil (q_cond_true rfl (q_seq (q_region (ql_pure tabOk rfl rfl (ql_pure tabOk rfl rfl ?_)))))))))
              refine ql_index tabOk rfl rfl rfl rfl rfl (by omega) (by omega) ?_
              refine ql_storeBo tabOk t rfl rfl rfl (by repeat constructor) (by simp) htl2 ?_
              (refine q_nil (q_region (ql_pure tabOk rfl rfl (q_nil (q_blk (q_region (ql_pure tabOk rfl rfl (ql_ar tabOk rfl rfl rfl rfl (by omega) (by omega) (ql_pure tabOk rfl rfl (q_nil ?_))))))))))
              have hfs := falses_set sl' t htl2 ht
              have hfl3 : falses (sl'.set t true) + 1 ≤ falses sl := by split at hfl <;> omega
              exact hK2 (i + 1, true, sl'.set t true) _ _ ⟨by dsimp only; omega, hF'.add hl hsh hfa', fun hg => (by cases hg), hfl3⟩ (by dsimp only; omega) ⟨rfl, rfl, rfl, rfl, rfl, rfl, trivial⟩ (Sp.refl _)
          | false =>
            have hskip : (f = a ∨ sl'.getD f false = true) → sl'.getD t false = true := fun h' => by
              rcases h' with h' | h'
              · exact absurd h' hfa
              · rw [hsf] at h'; cases h'
            (refine ql_gyes rfl ?_; (iterate 3 refine ql_pure tabOk rfl rfl ?_); (iterate 5 refine ql_gno rfl rfl rfl ?_); refine ql_pure tabOk rfl rfl (q_nil (q_cond_false rfl (q_skip (q_blk (q_region (ql_pure tabOk rfl rfl (ql_ar tabOk rfl rfl rfl rfl (by omega) (by omega) (ql_pure tabOk rfl rfl (q_nil ?_))))))))))
            exact hK2 (i + 1, gr, sl') _ _ ⟨by omega, hF', fun hg => ⟨(hcl hg).1, fun j f' t' hj hs' hf' => by
              by_cases e : j = i
              · rw [e] at hs'
                obtain ⟨rfl, rfl⟩ := hso f' t' hs'
                exact hskip hf'
              · exact (hcl hg).2 j f' t' (by omega) hs' hf'⟩, hfl⟩ (by dsimp only; omega) ⟨rfl, rfl, rfl, rfl, rfl, rfl, trivial⟩ (Sp.refl _)
    · have hie : i = l.runs.length := by omega
      clear hc hK2
      (refine q_exit _ rfl (q_blk ?_))
      exact hK (gr, sl') _ _ ⟨hF', fun hg j f t hsh hf => (hcl hg).2 j f t (by have := hsh.1; omega) hsh hf⟩ (by dsimp only; simp only [if_true]; omega) ⟨rfl, rfl, rfl, rfl, rfl, trivial⟩ (Sp.refl _)
end Go.Proofs.YtcmpdmobmbbplaaGreat

/- Walks of the reference: whether runs contradict each other; the length of the shortest chain. -/
namespace Go.Proofs.YtcmpdmobmbbplaaGreat
set_option maxRecDepth 4000
open Go Go.Eng

theorem ragreed_ca (w : World) (lo hi : Nat) (l : Lb) (v : Value) (h : RdR w lo hi v l.runs) (hlen : l.runs.length ≤ maxLen) : Ca Tryz.prog 31 [.agg (lbC l v).toArray] w fun x w' => x = .int .i64 (agreedV l) ∧ Chg [] w w' := by
  refine q_of (Sat.nil w M0) Tryz.func31 rfl (by simp [Tryz.ntmps31]) ?_
  (refine q_seq (q_region ?_))
  refine ql_box rfl rfl (fun b1 => ?_)
  rw [agg_cells]
  (refine ql_pure tabOk rfl rfl (q_nil (q_seq (q_seq (q_region ?_)))); refine ql_loadABa tabOk rfl rfl rfl ?_)
  refine ql_callv (val := .int .i64 (checkV l)) tabOk rfl rfl rfl rfl (fun w hs => ?_) ?_; exact rcheck_ca w lo hi l v (RdE.keep h hs.chg0) hlen
  by_cases h0 : checkV l = 0
  · have hl := check_iff.1 h0
    have h8 := hl.n8
    have s0 := hl.s0
    obtain ⟨n, hn⟩ := Int.eq_ofNat_of_zero_le (show 0 ≤ l.skis by omega)
    have hn' : l.n = n := by unfold Lb.n; omega
    rw [hn'] at h8
    rw [h0]
    (refine ql_pure tabOk rfl rfl (q_nil (q_seq (q_region (ql_pure tabOk rfl rfl (ql_neqF tabOk rfl rfl rfl (by omega) (q_nil (q_cond_false rfl (q_skip (q_seq (q_seq (q_region ?_))))))))))); refine ql_pure tabOk rfl rfl (q_nil (q_block ?_)))
    refine q_loop (σ := Nat) (fun s => s ≤ n ∧ ∀ t, t < s → fa l.ord t t = false) (fun s => n - s) (fun s => [(1, .pointer (some ⟨b1, 0, none⟩)), (4, .int .i64 s)]) (fun _ => [.pt b1 (lbC l v) 30]) 0 ⟨by omega, fun t ht => by omega⟩ ⟨rfl, rfl, trivial⟩ (by repeat constructor) ?_
    rintro s ⟨hs1, hb1⟩ K hK
    (refine q_seq (q_seq (q_region (ql_pure tabOk rfl rfl (ql_pure tabOk rfl rfl ?_)))); refine ql_loadBa tabOk rfl rfl rfl ?_; refine ql_pure tabOk rfl rfl (q_nil ?_))
    rw [hn]
    refine q_if rfl (fun hc => ?_) (fun hc => ?_)
    · have hs2 : s < n := by omega
      clear hc
      (refine q_skip (q_seq (q_block (q_seq (q_region ?_)))); refine ql_loadABa tabOk rfl rfl rfl ?_; refine ql_pure tabOk rfl rfl (ql_pure tabOk rfl rfl ?_))
      refine ql_callv (val := .bool (fa l.ord s s)) tabOk rfl rfl rfl rfl (fun w hs => ?_) ?_; exact rfast_ca w lo hi l v (RdE.keep h hs.chg0) hl s s (by rw [hn']; exact hs2) (by rw [hn']; exact hs2)
      cases hx : fa l.ord s s with
      | true =>
        (refine q_nil (q_cond_true rfl (q_seq (q_region (ql_pure tabOk rfl rfl (q_nil (q_ret ?_)))))))
        refine q_fin tabOk rfl (by repeat constructor) fun w hs => ?_
        have hcf : conflB l.ord l.n = true := by
          cases hcc : conflB l.ord l.n with
          | true => rfl
          | false => rw [confl_iff.1 hcc s (by rw [hn']; exact hs2)] at hx; cases hx
        exact ⟨by simp [retV, agreedV, h0, hcf], hs.chg0⟩
      | false =>
        (refine q_nil (q_cond_false rfl (q_skip (q_blk (q_region (ql_pure tabOk rfl rfl (ql_ar tabOk rfl rfl rfl rfl (by omega) (by omega) (ql_pure tabOk rfl rfl (q_nil ?_)))))))))
        exact hK (s + 1) _ _ ⟨by omega, fun t ht => by
          by_cases e : t = s
          · rw [e]; exact hx
          · exact hb1 t (by omega)⟩ (by omega) ⟨rfl, rfl, trivial⟩ (Sp.refl _)
    · have hsn : s = n := by omega
      subst hsn
      (refine q_exit _ rfl (q_seq (q_region (ql_pure tabOk rfl rfl (q_nil (q_ret ?_))))))
      refine q_fin tabOk rfl (by repeat constructor) fun w hs => ?_
      have hcf : conflB l.ord l.n = false := confl_iff.2 (by rw [hn']; exact hb1)
      exact ⟨by simp [retV, agreedV, h0, hcf], hs.chg0⟩
  · (refine ql_pure tabOk rfl rfl (q_nil (q_seq (q_region (ql_pure tabOk rfl rfl (ql_neqT tabOk rfl rfl rfl (by omega) (q_nil (q_cond_true rfl (q_seq (q_region (ql_pure tabOk rfl rfl (ql_pure tabOk rfl rfl ?_))))))))))); refine q_nil (q_ret ?_))
    refine q_fin tabOk rfl (by repeat constructor) fun w hs => ?_
    exact ⟨by simp [retV, agreedV, h0], hs.chg0⟩
end Go.Proofs.YtcmpdmobmbbplaaGreat

/- Walks of the reference: what a chain shows. -/
namespace Go.Proofs.YtcmpdmobmbbplaaGreat
set_option maxRecDepth 4000
open Go Go.Eng

end Go.Proofs.YtcmpdmobmbbplaaGreat

/- Walks: the shortest chain, or the error. -/
namespace Go.Proofs.YtcmpdmobmbbplaaGreat
set_option maxRecDepth 4000
open Go Go.Eng

/-- What comes of asking for a chain. -/
def ChR (l : Lb) (a b : Int) (c : List Int) (e : Int) : Prop := (twoV l a b ≠ 0 ∧ c = [] ∧ e = twoV l a b) ∨ (twoV l a b = 0 ∧ NoCh l a.toNat b.toNat ∧ c = [] ∧ e = 6) ∨ (twoV l a b = 0 ∧ Short l a.toNat b.toNat c ∧ e = 0)
end Go.Proofs.YtcmpdmobmbbplaaGreat

/- Walks: a lab of the reference; labs compared. -/
namespace Go.Proofs.YtcmpdmobmbbplaaGreat
set_option maxRecDepth 4000
open Go Go.Eng

theorem slRr : SlT Tryz.prog 28 113 3 24 (.agg #[.int .i64 0, .int .i64 0, .int .i64 0]) := ⟨by kernel_rfl, by kernel_rfl, rfl, by omega⟩
theorem rlab_ca (w : World) (lo hi : Nat) (l : Lb) (v : Value) (h : RdR w lo hi v l.runs) (hlen : l.runs.length ≤ 1000) : Ca Tryz.prog 12 [.agg (lbC l v).toArray] w fun x w' => ∃ u : Value, x = .agg (lbC l u).toArray ∧ Sat w M0 [.ow u 113 3 l.runs.length (rnC l.runs)] w' := by
  obtain ⟨a, c, rfl, ha⟩ := RdR.outI h
  refine q_of (Sat.nil w M0) Tryz.func12 rfl (by simp [Tryz.ntmps12]) ?_
  (refine q_seq (q_region ?_))
  refine ql_box rfl rfl (fun b1 => ?_)
  rw [agg_cells]
  skip
  refine ql_alloc zero30 rfl (fun b2 => ?_)
  (refine q_nil (q_seq (q_region (ql_pure tabOk rfl rfl ?_))); refine ql_loadBa tabOk rfl rfl rfl ?_; refine ql_pure tabOk rfl rfl ?_; refine ql_loadBa tabOk rfl rfl rfl ?_)
  refine ql_mk #[.int .i64 l.skis, .int .i64 l.err, .slice none 0 0] rfl (by kernel_rfl) rfl ?_
  skip
  refine ql_alloc zero30 rfl (fun b3 => ?_)
  (refine ql_setA tabOk rfl rfl rfl rfl rfl (by repeat constructor) rfl ?_; refine q_nil (q_seq (q_seq (q_region (ql_pure tabOk rfl rfl ?_)))); refine ql_loadBa tabOk rfl rfl rfl ?_; refine ql_pure tabOk rfl rfl (ql_pure tabOk rfl rfl (q_nil (q_block ?_))))
  refine q_conv (H' := [.ow (.slice none 0 0) 113 3 0 (rnC (l.runs.take 0)), .pt b3 [.int .i64 l.skis, .int .i64 l.err, .slice none 0 0] 30, .pt b2 [.int .i64 0, .int .i64 0, .slice none 0 0] 30, .pt b1 (lbC l (.slice a l.runs.length c)) 24]) (fun w' hs => Sat.ownil (hs.sp (by repeat constructor)) _ _) ?_
  refine q_loop (σ := Nat × Value) (fun s => s.1 ≤ l.runs.length) (fun s => l.runs.length - s.1) (fun s => [(2, .pointer (some ⟨b2, 0, none⟩)), (3, .pointer (some ⟨b3, 0, none⟩)), (12, .slice a l.runs.length c), (13, .int .i64 l.runs.length), (14, .int .i64 s.1)])
    (fun s => [.ow s.2 113 3 s.1 (rnC (l.runs.take s.1)), .pt b3 [.int .i64 l.skis, .int .i64 l.err, s.2] 30, .pt b2 [.int .i64 0, .int .i64 0, .slice none 0 0] 30]) (0, .slice none 0 0) (by simp) ⟨rfl, rfl, rfl, rfl, rfl, trivial⟩ (by repeat constructor) ?_
  rintro ⟨i, u⟩ hi K hK
  dsimp only at hi hK ⊢
  refine q_fact (fun w hs => hs.slice2 (v := u) (by repeat constructor)) ?_
  rintro ⟨ua, uc, rfl⟩
  (refine q_seq (q_region (ql_pure tabOk rfl rfl (q_nil (q_seq ?_)))))
  refine q_if rfl (fun hc => ?_) (fun hc => ?_)
  · have hi2 : i < l.runs.length := by omega
    clear hc
    obtain ⟨b, off, hab⟩ := ha (by omega)
    cases hab
    (refine q_skip (q_seq (q_block (q_seq (q_region ?_)))))
    refine ql_index tabOk rfl rfl rfl rfl rfl (by omega) (by omega) ?_
    refine ql_loadA tabOk rfl rfl rfl rfl (fun w hs => RdR.at (RdE.keep h hs.chg0) i hi2) ?_
    skip
    refine ql_alloc zero40 rfl (fun b5 => ?_)
    (refine ql_setA tabOk rfl rfl rfl rfl rfl (by repeat constructor) rfl ?_; refine q_nil (q_region (ql_pure tabOk rfl rfl ?_)); refine ql_loadBa tabOk rfl rfl rfl ?_; refine ql_loadABa tabOk rfl rfl rfl ?_)
    refine ql_mkS 113 [.int .i64 l.runs[i].a, .int .i64 l.runs[i].b, .int .i64 l.runs[i].lead] rfl (by kernel_rfl) rfl (fun bn => ?_)
    skip
    refine ql_append (q := 1) (news := [.int .i64 l.runs[i].a, .int .i64 l.runs[i].b, .int .i64 l.runs[i].lead]) slRr rfl rfl rfl (fun v' => by repeat constructor) (fun w' hs => ⟨_, _, Blk.rdN (hs.blk (b := bn) (by repeat constructor)) rfl⟩) (by simp [oneV]) (by omega) (by omega) (fun u' => ?_)
    refine ql_fact (fun w' hs => hs.own_one (v := u') (by repeat constructor)) (fun hone => ?_)
    (refine ql_pure tabOk rfl rfl ?_)
    refine ql_store1 tabOk rfl rfl rfl hone (by repeat constructor) (by simp) ?_
    (refine q_nil (q_blk (q_region (ql_ar tabOk rfl rfl rfl rfl (by omega) (by omega) (ql_pure tabOk rfl rfl (q_nil ?_))))))
    exact hK (i + 1, u') _ _ (by dsimp only; omega) (by dsimp only; omega) ⟨rfl, rfl, rfl, rfl, rfl, trivial⟩ (by dsimp only; rw [show rnC (l.runs.take (i + 1)) = rnC (l.runs.take i) ++ [.int .i64 l.runs[i].a, .int .i64 l.runs[i].b, .int .i64 l.runs[i].lead] from by rw [← List.take_append_getElem hi2, rnC, List.flatMap_append]; rfl]; repeat constructor)
  · obtain rfl : i = l.runs.length := by omega
    rw [List.take_length]
    (refine q_exit _ rfl (q_seq (q_region ?_)); refine ql_loadABa tabOk rfl rfl rfl ?_; refine ql_setA tabOk rfl rfl rfl rfl rfl (by repeat constructor) rfl ?_; refine q_nil (q_ret ?_))
    refine q_fin tabOk rfl (by repeat constructor) fun w hs => ?_
    exact ⟨_, rfl, hs.sp (by repeat constructor)⟩
theorem same_ca (w : World) (lo hi lo2 hi2 : Nat) (l : Lb) (v u : Value) (h : RdR w lo hi v l.runs) (h2 : RdR w lo2 hi2 u l.runs) (hlen : l.runs.length ≤ 1000) : Ca Tryz.prog 20 [.agg (lbC l v).toArray, .agg (lbC l u).toArray] w fun x w' => x = .bool true ∧ Chg [] w w' := by
  refine q_of (Sat.nil w M0) Tryz.func20 rfl (by simp [Tryz.ntmps20]) ?_
  (refine q_seq (q_region ?_))
  refine ql_box rfl rfl (fun b2 => ?_)
  skip
  refine ql_box rfl rfl (fun b3 => ?_)
  rw [agg_cells, agg_cells]
  (refine ql_pure tabOk rfl rfl (q_nil (q_seq (q_region (ql_pure tabOk rfl rfl ?_)))); refine ql_loadBa tabOk rfl rfl rfl ?_; refine ql_pure tabOk rfl rfl ?_; refine ql_loadBa tabOk rfl rfl rfl ?_; refine ql_eqlT tabOk rfl rfl rfl (by omega) (ql_pure tabOk rfl rfl (ql_gyes rfl (ql_pure tabOk rfl rfl (ql_gyes rfl ?_)))); refine ql_loadBa tabOk rfl rfl rfl ?_; refine ql_gyes rfl (ql_pure tabOk rfl rfl (ql_gyes rfl ?_)); refine ql_loadBa tabOk rfl rfl rfl ?_; refine ql_gyes rfl (ql_eqlT tabOk rfl rfl rfl (by omega) (ql_pure tabOk rfl rfl (ql_pure tabOk rfl rfl (ql_gyes rfl (ql_pure tabOk rfl rfl (ql_gyes rfl ?_)))))); refine ql_loadBa tabOk rfl rfl rfl ?_; refine ql_gyes rfl (ql_pure tabOk rfl rfl (ql_gyes rfl ?_)); refine ql_loadBa tabOk rfl rfl rfl ?_; refine ql_gyes rfl ?_)
  refine ql_callv (val := .bool true) tabOk rfl rfl rfl rfl (fun w hs => ?_) ?_; exact eqR_ca w lo hi lo2 hi2 v u l.runs (RdE.keep h hs.chg0) (RdE.keep h2 hs.chg0) (by omega)
  (refine ql_pure tabOk rfl rfl (ql_pure tabOk rfl rfl (q_nil (q_ret ?_))))
  refine q_fin tabOk rfl (by repeat constructor) fun w hs => ?_
  exact ⟨rfl, hs.chg0⟩
end Go.Proofs.YtcmpdmobmbbplaaGreat

/- The walk of SkiChains. -/
namespace Go.Proofs.YtcmpdmobmbbplaaGreat
set_option maxRecDepth 4000
open Go Go.Eng

/-- All pairs that Faster returns. -/
def fasA (l : Lb) : List (Int × Int) := if agreedV l = 0 then fasL l.ord l.n else []
def tE5_d1a7a2f : OT := chainT [8, 9, 10] (.nil)
def tE5_4827765 : OT := chainT [7] (tE5_d1a7a2f)
def tE5_cadd481 : OT := chainT [6] (tE5_d1a7a2f)
def tE5_2bd7652 : OT := .alt (chainT [6] (tE5_4827765)) (chainT [7] (tE5_cadd481))
def tE5_69d16bf : OT := chainT [4, 5] (tE5_d1a7a2f)
def tE5_cad8bc1 : OT := .alt (chainT [4, 5] (tE5_4827765)) (chainT [7] (tE5_69d16bf))
def tE5_db7f0e3 : OT := .alt (chainT [4, 5] (tE5_cadd481)) (chainT [6] (tE5_69d16bf))
def tE5_c7f8ae7 : OT := .alt (chainT [4, 5] (tE5_2bd7652)) (.alt (chainT [6] (tE5_cad8bc1)) (chainT [7] (tE5_db7f0e3)))
def tE5_8ca2305 : OT := chainT [2, 3] (tE5_69d16bf)
def tE5_9e62ff0 : OT := .alt (chainT [2, 3] (tE5_cad8bc1)) (chainT [7] (tE5_8ca2305))
def tE5_62186b2 : OT := .alt (chainT [2, 3] (tE5_db7f0e3)) (chainT [6] (tE5_8ca2305))
def tE5_ed18e2b : OT := .alt (chainT [2, 3] (tE5_c7f8ae7)) (.alt (chainT [6] (tE5_9e62ff0)) (chainT [7] (tE5_62186b2)))
def tE5_f770ffc : OT := chainT [0, 1] (tE5_8ca2305)
def tE5_bb7b8ba : OT := .alt (chainT [0, 1] (tE5_9e62ff0)) (chainT [7] (tE5_f770ffc))
def tE5_02d9108 : OT := .alt (chainT [0, 1] (tE5_62186b2)) (chainT [6] (tE5_f770ffc))
def tE5_cb8a7af : OT := .alt (chainT [0, 1] (tE5_ed18e2b)) (.alt (chainT [6] (tE5_bb7b8ba)) (chainT [7] (tE5_02d9108)))
end Go.Proofs.YtcmpdmobmbbplaaGreat

/- The plain law of SkiPlans: orders that are left, and their first places. -/
namespace Go.Proofs.YtcmpdmobmbbplaaGreat
set_option maxRecDepth 4000
open Go Go.Eng
/-- Lists without those that came before. -/
def dl {α : Type} [DecidableEq α] (X : List α) : List α := X.foldl (fun acc x => if x ∈ acc then acc else acc ++ [x]) []
section
variable {α : Type} [DecidableEq α]
theorem dl_snoc (X : List α) (x : α) : dl (X ++ [x]) = if x ∈ dl X then dl X else dl X ++ [x] := by
  unfold dl
  rw [List.foldl_append]
  rfl
theorem dl_mem {v : α} : ∀ X : List α, v ∈ dl X ↔ v ∈ X := fun X => snocI (p := fun X => v ∈ dl X ↔ v ∈ X) (by simp [dl]) (fun X x ih => by
  rw [dl_snoc, List.mem_append, List.mem_singleton]
  split
  · rename_i h
    rw [ih]
    constructor
    · exact .inl
    · rintro (h2 | rfl)
      · exact h2
      · exact ih.1 h
  · rw [List.mem_append, List.mem_singleton, ih]) X
theorem dl_nodup : ∀ X : List α, (dl X).Nodup := fun X => snocI (p := fun X => (dl X).Nodup) (by simp [dl]) (fun X x ih => by
  rw [dl_snoc]
  split
  · exact ih
  · rename_i h
    exact List.nodup_append.2 ⟨ih, by simp, fun a ha b hb e => by
      obtain rfl : b = x := by simpa using hb
      subst e
      exact h ha⟩) X
theorem dl_one {X : List α} {v : α} (h : ∀ x ∈ X, x = v) : (dl X).length ≤ 1 := sub_len (D := [v]) (dl_nodup X) fun x hx => by
  rw [h x ((dl_mem X).1 hx)]; simp
theorem dl_pos {X : List α} {v : α} (h : v ∈ X) : 1 ≤ (dl X).length := List.length_pos_of_mem ((dl_mem X).2 h)
theorem dl_eq {X : List α} (h : (dl X).length ≤ 1) {v u : α} (hv : v ∈ X) (hu : u ∈ X) : v = u := by
  have h1 := (dl_mem X).2 hv
  have h2 := (dl_mem X).2 hu
  match hX : dl X, h with
  | [], _ => rw [hX] at h1; cases h1
  | [x], _ =>
    rw [hX] at h1 h2
    rw [List.mem_singleton.1 h1, List.mem_singleton.1 h2]
  | _ :: _ :: _, h => simp at h
end
/-- How many beginnings of so many skis there are. -/
def preN (X : List (List Nat)) (k : Nat) : Nat := (dl (X.map (·.take k))).length
theorem dl_split2 (q : List Nat → Bool) (X : List (List Nat)) (k : Nat) : preN X k ≤ preN (X.filter q) k + preN (X.filter fun x => !q x) k := by
  unfold preN
  rw [← List.length_append]
  refine sub_len (dl_nodup _) fun x hx => ?_
  obtain ⟨L, h, rfl⟩ := List.mem_map.1 ((dl_mem _).1 hx)
  rw [List.mem_append, dl_mem, dl_mem]
  cases hq : q L with
  | true => exact .inl (List.mem_map.2 ⟨L, List.mem_filter.2 ⟨h, hq⟩, rfl⟩)
  | false => exact .inr (List.mem_map.2 ⟨L, List.mem_filter.2 ⟨h, by rw [hq]; rfl⟩, rfl⟩)
/-- Orders with one ski before another one. -/
def bfB (a b : Nat) (L : List Nat) : Bool := decide (L.idxOf a < L.idxOf b)
theorem InO.with {o n a b : Nat} (h : InO o n) (hn : n ≤ 8) (ha : a < n) (hb : b < n) : InO (withO o a b) n := with_sub (R := fun a b => a < n ∧ b < n) (by omega) (by omega) (fun _ _ _ _ _ _ h1 h2 => ⟨h1.1, h2.2⟩) h ⟨ha, hb⟩
theorem LinO.mono {o p n : Nat} {L : List Nat} (h : LinO p n L) (hl : LeO o p) : LinO o n L := ⟨h.perm, fun a b ha hb hf => h.idx a b ha hb (hl a b ha hb hf)⟩
theorem fl_half {o n a b : Nat} (hn : n ≤ 8) (hi : InO o n) (ha : a < n) (hb : b < n) : (FL o n n).filter (bfB a b) = FL (withO o a b) n n := by
  rw [← FL_eq, ← FL_eq, List.filter_filter]
  refine List.filter_congr fun L hL => ?_
  have hp := perm_full.1 hL
  rw [Bool.eq_iff_iff, Bool.and_eq_true, pre_lin hn hi hp, pre_lin hn (hi.with hn ha hb) hp]
  unfold bfB
  rw [decide_eq_true_iff]
  constructor
  · rintro ⟨h1, h2⟩
    exact h2.with hn ha hb h1
  · intro h
    exact ⟨(h.idx a b (by omega) (by omega) (with_self (by omega) (by omega))).2.2, h.mono (le_with o a b)⟩
theorem fl_not {o n a b : Nat} (hn : n ≤ 8) (hi : InO o n) (ha : a < n) (hb : b < n) (hne : a ≠ b) : (FL o n n).filter (fun L => !bfB a b L) = (FL o n n).filter (bfB b a) := List.filter_congr fun L hL => by
  have h := (fl_mem hn hi).1 hL
  have := idx_ne h ha hne
  unfold bfB
  by_cases h2 : L.idxOf a < L.idxOf b
  · have h3 : ¬ L.idxOf b < L.idxOf a := by omega
    simp [h2, h3]
  · have h3 : L.idxOf b < L.idxOf a := by omega
    simp [h2, h3]
theorem fl_ne {o n : Nat} (hc : NoC o n) (ho : Ord o) (hn : n ≤ 8) : ∃ L, L ∈ FL o n n := by
  have := fl_first hc ho hn n (Nat.le_refl _)
  cases h : FL o n n with
  | nil => rw [h] at this; cases this
  | cons p X => exact ⟨p, List.mem_cons_self⟩
/-- The first places are known just if all orders that fit begin alike. -/
theorem pre_known {o n k : Nat} (hc : NoC o n) (ho : Ord o) (hn : n ≤ 8) (hi : InO o n) (hk : k ≤ n) : preN (FL o n n) k ≤ 1 ↔ knownO o n k = true := by
  constructor
  · intro h
    refine known_iff.2 fun p hp => ?_
    obtain ⟨L0, hL0⟩ := fl_ne hc ho hn
    have h0 := (fl_mem hn hi).1 hL0
    have hl0 := h0.len
    have hs : L0[p]'(by omega) < n := h0.mem.1 (List.getElem_mem _)
    have key : ∀ L, LinO o n L → L.idxOf (L0[p]'(by omega)) = p := fun L hL => by
      have h1 : L.take k = L0.take k := dl_eq h (List.mem_map.2 ⟨L, (fl_mem hn hi).2 hL, rfl⟩) (List.mem_map.2 ⟨L0, hL0, rfl⟩)
      have hl := hL.len
      have h2 : L[p]'(by omega) = L0[p]'(by omega) := by
        have h3 : (L.take k)[p]? = (L0.take k)[p]? := by rw [h1]
        rw [List.getElem?_take_of_lt hp, List.getElem?_take_of_lt hp, List.getElem?_eq_getElem (by omega), List.getElem?_eq_getElem (by omega)] at h3
        exact Option.some.inj h3
      rw [← h2]
      exact hL.nodup.idxOf_getElem p (by omega)
    obtain ⟨L1, g1, g2⟩ := place_lo hc ho hn hi hs
    obtain ⟨L2, g3, g4⟩ := place_hi hc ho hn hi hs
    have e1 := key L1 g1
    have e2 := key L2 g3
    exact ⟨_, hs, by omega, by omega⟩
  · intro h
    obtain ⟨L0, hL0⟩ := fl_ne hc ho hn
    refine dl_one (v := L0.take k) fun x hx => ?_
    obtain ⟨L, hL, rfl⟩ := List.mem_map.1 hx
    exact lin_same ((fl_mem hn hi).1 hL) ((fl_mem hn hi).1 hL0) hn h hk
/-- As many runs tell at most so many beginnings apart. -/
theorem pre_plan {n k : Nat} (hn : n ≤ 8) (h1 : 1 ≤ n) (hk : k ≤ n) : ∀ u o, undN o n ≤ u → Ord o → NoC o n → InO o n → preN (FL o n n) k ≤ 2 ^ planO n k o
  | u, o, hu, ho, hc, hi => by
    rcases Classical.em (knownO o n k = true) with hkn | hkn
    · have := (pre_known hc ho hn hi hk).2 hkn
      have : 1 ≤ 2 ^ planO n k o := Nat.one_le_two_pow
      omega
    · obtain ⟨p, hp, hup, hw⟩ := plan_at hn h1 hk ho hc hkn
      have hU := Und.of ho hn hp hup
      have l1 := und_lt hU
      have l2 := und_lt hU.swap
      match u with
      | 0 => omega
      | u + 1 =>
        have q1 := hU.hx
        have q2 := hU.hy
        have h4 := pre_plan hn h1 hk u (withO o p.1 p.2) (by omega) (ho.with (by omega) (by omega)) (hc.with hU) (hi.with hn q1 q2)
        have h5 := pre_plan hn h1 hk u (withO o p.2 p.1) (by omega) (ho.with (by omega) (by omega)) (hc.with hU.swap) (hi.with hn q2 q1)
        have h6 := dl_split2 (bfB p.1 p.2) (FL o n n) k
        rw [fl_not hn hi q1 q2 hU.ne, fl_half hn hi q1 q2, fl_half hn hi q2 q1] at h6
        unfold worthO at hw
        rw [← hw]
        have h7 : 2 ^ planO n k (withO o p.1 p.2) ≤ 2 ^ max (planO n k (withO o p.1 p.2)) (planO n k (withO o p.2 p.1)) := Nat.pow_le_pow_right (by omega) (Nat.le_max_left _ _)
        have h8 : 2 ^ planO n k (withO o p.2 p.1) ≤ 2 ^ max (planO n k (withO o p.1 p.2)) (planO n k (withO o p.2 p.1)) := Nat.pow_le_pow_right (by omega) (Nat.le_max_right _ _)
        rw [Nat.add_comm, Nat.pow_succ]
        omega
/-- Whether so many further runs are enough if a run of two skis is the next one. -/
def enoB (n k r o a b : Nat) : Bool := (!fa o a b && (!fa o b a && decide (worthO n k o a b ≤ r))) && true
/-- So many further runs are enough just if they are with some next one. -/
theorem eno_iff {n k r o : Nat} (hn : n ≤ 8) (h1 : 1 ≤ n) (hk : k ≤ n) (ho : Ord o) (hc : NoC o n) (hkn : ¬ knownO o n k = true) : planO n k o ≤ r ↔ ∃ a b, a < b ∧ b < n ∧ enoB n k r o a b = true := by
  constructor
  · intro h
    obtain ⟨p, hp, hup, hw⟩ := plan_at hn h1 hk ho hc hkn
    obtain ⟨p1, p2⟩ := p
    obtain ⟨h2, h3⟩ := pairs_iff.1 hp
    obtain ⟨h4, h5⟩ := und_iff.1 hup
    refine ⟨p2, p1, h3, h2, ?_⟩
    unfold enoB
    rw [worth_comm]
    simp only at h4 h5 hw ⊢
    rw [h4, h5, hw]
    simpa using h
  · rintro ⟨a, b, h2, h3, h4⟩
    unfold enoB at h4
    simp only [Bool.and_true, Bool.and_eq_true, Bool.not_eq_true', decide_eq_true_eq] at h4
    have hU : Und o n a b := ⟨ho, hn, by omega, h3, by omega, h4.1, h4.2.1⟩
    exact Nat.le_trans (plan_worth hU) h4.2.2
end Go.Proofs.YtcmpdmobmbbplaaGreat

/- The plain law of SkiNamed: skis and runs in another order. -/
namespace Go.Proofs.YtcmpdmobmbbplaaGreat
set_option maxRecDepth 4000
open Go Go.Eng
/-- Numbers in another order. -/
structure Bij (n : Nat) (t u : Nat → Nat) : Prop where
  t1 : ∀ i, i < n → t i < n
  u1 : ∀ i, i < n → u i < n
  tu : ∀ i, i < n → t (u i) = i
  ut : ∀ i, i < n → u (t i) = i
theorem Bij.symm {n : Nat} {t u : Nat → Nat} (h : Bij n t u) : Bij n u t := ⟨h.u1, h.t1, h.ut, h.tu⟩
theorem Bij.inj {n : Nat} {t u : Nat → Nat} (h : Bij n t u) {i j : Nat} (hi : i < n) (hj : j < n) (e : t i = t j) : i = j := by
  rw [← h.ut i hi, ← h.ut j hj, e]
/-- Orders of skis that are numbered otherwise. -/
structure RenO (n : Nat) (t u : Nat → Nat) (o p : Nat) : Prop where
  n8 : n ≤ 8
  bij : Bij n t u
  oo : Ord o
  op : Ord p
  io : InO o n
  ip : InO p n
  eq : ∀ a b, a < n → b < n → fa p (t a) (t b) = fa o a b
theorem RenO.symm {n : Nat} {t u : Nat → Nat} {o p : Nat} (h : RenO n t u o p) : RenO n u t p o := ⟨h.n8, h.bij.symm, h.op, h.oo, h.ip, h.io, fun a b ha hb => by
  rw [← h.eq _ _ (h.bij.u1 a ha) (h.bij.u1 b hb), h.bij.tu a ha, h.bij.tu b hb]⟩
theorem RenO.noC {n : Nat} {t u : Nat → Nat} {o p : Nat} (h : RenO n t u o p) (hc : NoC o n) : NoC p n := fun s hs => by
  have := h.eq _ _ (h.bij.u1 s hs) (h.bij.u1 s hs)
  rw [h.bij.tu s hs] at this
  rw [this]
  exact hc _ (h.bij.u1 s hs)
theorem RenO.with {n : Nat} {t u : Nat → Nat} {o p x y : Nat} (h : RenO n t u o p) (hx : x < n) (hy : y < n) : RenO n t u (withO o x y) (withO p (t x) (t y)) := by
  have h8 := h.n8
  have tx := h.bij.t1 x hx
  have ty := h.bij.t1 y hy
  refine ⟨h8, h.bij, h.oo.with (by omega) (by omega), h.op.with (by omega) (by omega), h.io.with h8 hx hy, h.ip.with h8 tx ty, fun a b ha hb => ?_⟩
  have ta := h.bij.t1 a ha
  have tb := h.bij.t1 b hb
  rw [Bool.eq_iff_iff, with_iff (by omega) (by omega), with_iff (by omega) (by omega), h.eq a b ha hb, h.eq a x ha hx, h.eq y b hy hb]
  have e1 : t a = t x ↔ a = x := ⟨h.bij.inj ha hx, fun e => by rw [e]⟩
  have e2 : t b = t y ↔ b = y := ⟨h.bij.inj hb hy, fun e => by rw [e]⟩
  rw [e1, e2]
theorem count_ren {n : Nat} {t u : Nat → Nat} (h : Bij n t u) {q r : Nat → Bool} (hq : ∀ i, i < n → q i = true → r (t i) = true) : ((List.range n).filter q).length ≤ ((List.range n).filter r).length := by
  rw [← List.length_map (f := t)]
  refine sub_len ?_ fun x hx => ?_
  · refine List.pairwise_map.2 (List.Pairwise.imp_of_mem ?_ (List.nodup_range.sublist List.filter_sublist))
    intro a b ha hb hne e
    exact hne (h.inj (List.mem_range.1 (List.mem_filter.1 ha).1) (List.mem_range.1 (List.mem_filter.1 hb).1) e)
  · obtain ⟨i, hi, rfl⟩ := List.mem_map.1 hx
    obtain ⟨h1, h2⟩ := List.mem_filter.1 hi
    have h3 := List.mem_range.1 h1
    exact List.mem_filter.2 ⟨List.mem_range.2 (h.t1 i h3), hq i h3 h2⟩
theorem RenO.up {n : Nat} {t u : Nat → Nat} {o p s : Nat} (h : RenO n t u o p) (hs : s < n) : upN p (t s) n = upN o s n := by
  refine Nat.le_antisymm ?_ ?_
  · refine count_ren h.bij.symm fun i hi hf => ?_
    have := h.eq (u i) s (h.bij.u1 i hi) hs
    rw [h.bij.tu i hi] at this
    rw [← this]; exact hf
  · refine count_ren h.bij fun i hi hf => ?_
    rw [h.eq i s hi hs]; exact hf
theorem RenO.dn {n : Nat} {t u : Nat → Nat} {o p s : Nat} (h : RenO n t u o p) (hs : s < n) : dnN p (t s) n = dnN o s n := by
  refine Nat.le_antisymm ?_ ?_
  · refine count_ren h.bij.symm fun i hi hf => ?_
    have := h.eq s (u i) hs (h.bij.u1 i hi)
    rw [h.bij.tu i hi] at this
    rw [← this]; exact hf
  · refine count_ren h.bij fun i hi hf => ?_
    rw [h.eq s i hs hi]; exact hf
theorem RenO.known {n k : Nat} {t u : Nat → Nat} {o p : Nat} (h : RenO n t u o p) (hk : knownO o n k = true) : knownO p n k = true := by
  rw [known_iff] at hk ⊢
  intro place hp
  obtain ⟨s, hs, h1, h2⟩ := hk place hp
  exact ⟨t s, h.bij.t1 s hs, by rw [h.up hs]; exact h1, by rw [h.dn hs]; exact h2⟩
theorem ren_plan_le {n k : Nat} {t u : Nat → Nat} (hn : n ≤ 8) (h1 : 1 ≤ n) (hk : k ≤ n) : ∀ v o p, undN o n ≤ v → NoC o n → RenO n t u o p → planO n k p ≤ planO n k o
  | v, o, p, hv, hc, h => by
    rcases Classical.em (knownO o n k = true) with hkn | hkn
    · rw [plan_eq hn h.op, if_pos (h.known hkn)]
      omega
    · obtain ⟨q, hq, hup, hw⟩ := plan_at hn h1 hk h.oo hc hkn
      have hU := Und.of h.oo hn hq hup
      have l1 := und_lt hU
      have l2 := und_lt hU.swap
      match v with
      | 0 => omega
      | v + 1 =>
        have q1 := hU.hx
        have q2 := hU.hy
        have g1 := ren_plan_le (k := k) hn h1 hk v _ _ (by omega) (hc.with hU) (h.with q1 q2)
        have g2 := ren_plan_le (k := k) hn h1 hk v _ _ (by omega) (hc.with hU.swap) (h.with q2 q1)
        have hU2 : Und p n (t q.1) (t q.2) := ⟨h.op, hn, h.bij.t1 _ q1, h.bij.t1 _ q2, fun e => hU.ne (h.bij.inj q1 q2 e), by rw [h.eq _ _ q1 q2]; exact hU.xy, by rw [h.eq _ _ q2 q1]; exact hU.yx⟩
        have g3 := plan_worth (k := k) hU2
        unfold worthO at g3 hw
        omega
theorem RenO.plan {n k : Nat} {t u : Nat → Nat} {o p : Nat} (h : RenO n t u o p) (h1 : 1 ≤ n) (hk : k ≤ n) (hc : NoC o n) : planO n k p = planO n k o :=
  Nat.le_antisymm (ren_plan_le h.n8 h1 hk _ _ _ (Nat.le_refl _) hc h) (ren_plan_le h.n8 h1 hk _ _ _ (Nat.le_refl _) (h.noC hc) h.symm)
theorem perm_nodup (n : Nat) : ∀ i, (permN n i).Nodup
  | 0 => by simp [permN]
  | i + 1 => by
    rw [permN]
    refine List.pairwise_flatMap.2 ⟨fun p _ => ?_, ?_⟩
    · refine List.pairwise_map.2 (List.Pairwise.imp ?_ (List.nodup_range.sublist List.filter_sublist))
      intro a b hne e
      exact hne (by simpa using e)
    · refine List.Pairwise.imp ?_ (perm_nodup n i)
      intro p q hne x hx y hy e
      obtain ⟨a, _, rfl⟩ := List.mem_map.1 hx
      obtain ⟨b, _, rfl⟩ := List.mem_map.1 hy
      exact hne (List.append_inj_left' e rfl)
theorem fl_nodup (o n i : Nat) : (FL o n i).Nodup := by
  rw [← FL_eq]
  exact (perm_nodup n i).sublist List.filter_sublist
theorem map_idx {n : Nat} {t u : Nat → Nat} (h : Bij n t u) : ∀ {L : List Nat}, (∀ x ∈ L, x < n) → ∀ {s : Nat}, s < n → (L.map t).idxOf (t s) = L.idxOf s
  | [], _, _, _ => rfl
  | x :: L, hL, s, hs => by
    have hx := hL x List.mem_cons_self
    have ih := map_idx h (L := L) (fun y hy => hL y (List.mem_cons_of_mem _ hy)) hs
    rw [List.map_cons]
    by_cases e : x = s
    · subst e; rw [List.idxOf_cons_self, List.idxOf_cons_self]
    · have e2 : t x ≠ t s := fun h2 => e (h.inj hx hs h2)
      rw [idx_cons_ne e2, idx_cons_ne e, ih]
theorem map_perm {n : Nat} {t u : Nat → Nat} (h : Bij n t u) {L : List Nat} (hp : L.Perm (List.range n)) : (L.map t).Perm (List.range n) := by
  have h1 : ∀ x ∈ L, x < n := fun x hx => List.mem_range.1 (hp.mem_iff.1 hx)
  refine full_perm ?_ (fun x hx => ?_) (by rw [List.length_map, hp.length_eq, List.length_range])
  · refine List.pairwise_map.2 (List.Pairwise.imp_of_mem ?_ (hp.nodup_iff.2 List.nodup_range))
    intro a b ha hb hne e
    exact hne (h.inj (h1 a ha) (h1 b hb) e)
  · obtain ⟨y, hy, rfl⟩ := List.mem_map.1 hx
    exact h.t1 y (h1 y hy)
theorem ren_lin {n : Nat} {t u : Nat → Nat} {o p : Nat} (h : RenO n t u o p) {L : List Nat} (hL : LinO o n L) : LinO p n (L.map t) := by
  have h1 : ∀ x ∈ L, x < n := fun x hx => hL.mem.1 hx
  refine ⟨map_perm h.bij hL.perm, fun a b ha hb hf => ?_⟩
  obtain ⟨h2, h3⟩ := h.ip a b ha hb hf
  refine ⟨h2, h3, ?_⟩
  have h8 := h.n8
  have ha2 := h.bij.u1 a h2
  have hb2 := h.bij.u1 b h3
  have h4 := h.eq _ _ ha2 hb2
  rw [h.bij.tu a h2, h.bij.tu b h3, hf] at h4
  have h5 := (hL.idx _ _ (by omega) (by omega) h4.symm).2.2
  have e1 := map_idx h.bij h1 ha2
  have e2 := map_idx h.bij h1 hb2
  rw [h.bij.tu a h2] at e1
  rw [h.bij.tu b h3] at e2
  omega
theorem ren_cnt_le {n : Nat} {t u : Nat → Nat} {o p : Nat} (h : RenO n t u o p) : (FL o n n).length ≤ (FL p n n).length := by
  rw [← List.length_map (f := fun L => L.map t)]
  refine sub_len ?_ fun x hx => ?_
  · refine List.pairwise_map.2 (List.Pairwise.imp_of_mem ?_ (fl_nodup o n n))
    intro a b ha hb hne e
    have h1 := (fl_mem h.n8 h.io).1 ha
    have h2 := (fl_mem h.n8 h.io).1 hb
    have k : ∀ L : List Nat, (∀ x ∈ L, x < n) → (L.map t).map u = L := fun L hL => by
      rw [List.map_map]
      exact (List.map_congr_left (fun x hx => h.bij.ut x (hL x hx))).trans (List.map_id _)
    refine hne ?_
    rw [← k a (fun x hx => h1.mem.1 hx), ← k b (fun x hx => h2.mem.1 hx), e]
  · obtain ⟨L, hL, rfl⟩ := List.mem_map.1 hx
    exact (fl_mem h.n8 h.ip).2 (ren_lin h ((fl_mem h.n8 h.io).1 hL))
theorem RenO.cnt {n : Nat} {t u : Nat → Nat} {o p : Nat} (h : RenO n t u o p) : cnt p n (2 ^ n - 1) = cnt o n (2 ^ n - 1) := by
  rw [← fl_len, ← fl_len]
  exact Nat.le_antisymm (ren_cnt_le h.symm) (ren_cnt_le h)
/-- A run that is told with other numbers, perhaps from the other side. -/
def RenR (t : Nat → Nat) (r r' : Rn) : Prop := (r'.a = (t r.a.toNat : Nat) ∧ r'.b = (t r.b.toNat : Nat) ∧ r'.lead = r.lead) ∨ (r'.a = (t r.b.toNat : Nat) ∧ r'.b = (t r.a.toNat : Nat) ∧ r'.lead = -r.lead)
theorem renR_run {t : Nat → Nat} {r r' : Rn} (h : RenR t r r') {e : Int} (he : 0 ≤ e) : runV e r' = (runV e r).map fun p => (t p.1, t p.2) := by
  rcases h with ⟨h1, h2, h3⟩ | ⟨h1, h2, h3⟩
  · unfold runV
    rw [h1, h2, h3, Int.toNat_natCast, Int.toNat_natCast]
    split
    · rfl
    · split <;> rfl
  · unfold runV
    rw [h1, h2, h3, Int.toNat_natCast, Int.toNat_natCast]
    by_cases c1 : e < r.lead
    · rw [if_neg (by omega), if_pos (by omega), if_pos c1]; rfl
    · by_cases c2 : r.lead < -e
      · rw [if_pos (by omega), if_neg c1, if_pos c2]; rfl
      · rw [if_neg (by omega), if_neg (by omega), if_neg c1, if_neg c2]; rfl
def rnG (l : Lb) (i : Nat) : Rn := l.runs.getD i ⟨0, 0, 0⟩
structure RenL (l m : Lb) (t : Nat → Nat) (σ : List Nat) : Prop where
  sk : m.skis = l.skis
  err : m.err = l.err
  len : m.runs.length = l.runs.length
  perm : σ.Perm (List.range l.runs.length)
  run : ∀ j, j < l.runs.length → RenR t (rnG l (σ.getD j 0)) (rnG m j)
section
variable {l m : Lb} {t u : Nat → Nat} {σ : List Nat}
theorem RenL.n (h : RenL l m t σ) : m.n = l.n := by unfold Lb.n; rw [h.sk]
theorem RenL.sl (h : RenL l m t σ) : σ.length = l.runs.length := by rw [h.perm.length_eq, List.length_range]
theorem RenL.lt (h : RenL l m t σ) {j : Nat} (hj : j < l.runs.length) : σ.getD j 0 < l.runs.length := by
  have := h.sl
  rw [List.getD_eq_getElem?_getD, List.getElem?_eq_getElem (by omega), Option.getD_some]
  exact List.mem_range.1 (h.perm.mem_iff.1 (List.getElem_mem _))
theorem RenL.at (h : RenL l m t σ) {i : Nat} (hi : i < l.runs.length) : ∃ j, j < l.runs.length ∧ σ.getD j 0 = i := by
  obtain ⟨j, hj, e⟩ := List.mem_iff_getElem.1 (h.perm.mem_iff.2 (List.mem_range.2 hi))
  have := h.sl
  exact ⟨j, by omega, by rw [List.getD_eq_getElem?_getD, List.getElem?_eq_getElem hj, Option.getD_some, e]⟩
theorem RenL.inj (h : RenL l m t σ) {i j : Nat} (hi : i < l.runs.length) (hj : j < l.runs.length) (e : σ.getD i 0 = σ.getD j 0) : i = j := by
  have := h.sl
  rw [List.getD_eq_getElem?_getD, List.getElem?_eq_getElem (by omega), Option.getD_some, List.getD_eq_getElem?_getD, List.getElem?_eq_getElem (by omega), Option.getD_some] at e
  exact (List.getElem_inj (h.perm.nodup_iff.2 List.nodup_range)).1 e
theorem RenL.sh (h : RenL l m t σ) (hl : l.Ok) {j f s : Nat} (hs : Sh l (σ.getD j 0) f s) (hj : j < l.runs.length) : Sh m j (t f) (t s) := ⟨by rw [h.len]; exact hj, by
  have h1 := renR_run (h.run j hj) hl.e0
  have h2 := hs.2
  unfold rnG at h1
  rw [h.err, h1, h2]; rfl⟩
theorem RenL.hs (h : RenL l m t σ) (hl : l.Ok) {j f s : Nat} (hs : Sh m j f s) : ∃ f' s', Sh l (σ.getD j 0) f' s' ∧ f = t f' ∧ s = t s' := by
  have hj : j < l.runs.length := by rw [← h.len]; exact hs.1
  have h1 := renR_run (h.run j hj) hl.e0
  have h2 := hs.2
  unfold rnG at h1
  rw [h.err, h1] at h2
  obtain ⟨p, h3, h4⟩ := Option.map_eq_some_iff.1 h2
  exact ⟨p.1, p.2, ⟨h.lt hj, h3⟩, (congrArg Prod.fst h4).symm, (congrArg Prod.snd h4).symm⟩
theorem RenL.ok (h : RenL l m t σ) (hl : l.Ok) (hb : Bij l.n t u) : m.Ok := ⟨by rw [h.sk]; exact hl.s0, by rw [h.sk]; exact hl.s1, by rw [h.err]; exact hl.e0, by rw [h.err]; exact hl.e1, by rw [h.len]; exact hl.len, fun r hr => by
  obtain ⟨j, hj, rfl⟩ := List.mem_iff_getElem.1 hr
  have hj2 : j < l.runs.length := by rw [← h.len]; exact hj
  have h1 := h.run j hj2
  have hlt := h.lt hj2
  have e1 : rnG m j = m.runs[j] := by unfold rnG; rw [List.getD_eq_getElem?_getD, List.getElem?_eq_getElem hj, Option.getD_some]
  have e2 : rnG l (σ.getD j 0) = l.runs[σ.getD j 0] := by unfold rnG; rw [List.getD_eq_getElem?_getD, List.getElem?_eq_getElem hlt, Option.getD_some]
  have ho := hl.run _ (List.getElem_mem hlt)
  rw [e1, e2] at h1
  have hn : (l.n : Int) = l.skis := by have := hl.s0; unfold Lb.n; omega
  have a0 := ho.a0
  have a1 := ho.a1
  have b0 := ho.b0
  have b1 := ho.b1
  have hne := ho.ne
  have l0 := ho.l0
  have l1 := ho.l1
  have ta := hb.t1 (l.runs[σ.getD j 0].a.toNat) (by omega)
  have tb := hb.t1 (l.runs[σ.getD j 0].b.toNat) (by omega)
  have tne : t l.runs[σ.getD j 0].a.toNat ≠ t l.runs[σ.getD j 0].b.toNat := fun e => by
    have := hb.inj (by omega) (by omega) e
    omega
  have hsk := h.sk
  rcases h1 with ⟨g1, g2, g3⟩ | ⟨g1, g2, g3⟩
  · exact ⟨by omega, by omega, by omega, by omega, by omega, by omega, by omega⟩
  · exact ⟨by omega, by omega, by omega, by omega, by omega, by omega, by omega⟩⟩
theorem RenL.o (h : RenL l m t σ) (hl : l.Ok) (hb : Bij l.n t u) : RenO l.n t u l.ord m.ord := by
  have hm := h.ok hl hb
  have h8 := hl.n8
  have him : InO m.ord l.n := by rw [← h.n]; exact hm.inO
  refine ⟨h8, hb, hl.o, hm.o, hl.inO, him, fun a b ha hb' => Bool.eq_iff_iff.2 ⟨fun hf => ?_, fun hf => ?_⟩⟩
  · have ta := hb.t1 a ha
    have tb := hb.t1 b hb'
    obtain ⟨x, y, hx, hy, e1, e2, h3⟩ := order_sub (l := m.pairs) (R := fun p q => ∃ x y, x < l.n ∧ y < l.n ∧ p = t x ∧ q = t y ∧ fa l.ord x y = true) hm.in8 (fun p q r _ _ _ h1 h2 => by
      obtain ⟨x, y, hx, hy, rfl, rfl, h3⟩ := h1
      obtain ⟨x', y', hx', hy', e1, rfl, h4⟩ := h2
      obtain rfl := hb.inj hy hx' e1
      exact ⟨x, y', hx, hy', rfl, rfl, hl.o.tr x y y' (by omega) (by omega) (by omega) h3 h4⟩) (fun p hp => by
      obtain ⟨j, hj⟩ := pair_sh hp
      obtain ⟨f, s, h3, h4, h5⟩ := h.hs hl hj
      have h6 := sh_pair h3
      obtain ⟨h7, h9, _⟩ := hl.in _ h6
      exact ⟨f, s, h7, h9, h4, h5, order_has hl.in8 h6⟩) (t a) (t b) (by omega) (by omega) hf
    rw [hb.inj ha hx e1, hb.inj hb' hy e2]
    exact h3
  · refine order_sub (l := l.pairs) (R := fun p q => p < l.n ∧ q < l.n ∧ fa m.ord (t p) (t q) = true) hl.in8 (fun p q r _ _ _ h1 h2 => ⟨h1.1, h2.2.1, ?_⟩) (fun p hp => ?_) a b (by omega) (by omega) hf |>.2.2
    · have tp := hb.t1 p h1.1
      have tq := hb.t1 q h1.2.1
      have tr := hb.t1 r h2.2.1
      exact hm.o.tr _ _ _ (by omega) (by omega) (by omega) h1.2.2 h2.2.2
    · obtain ⟨h7, h9, _⟩ := hl.in _ hp
      obtain ⟨i, hi⟩ := pair_sh hp
      obtain ⟨j, hj, e⟩ := h.at hi.1
      rw [← e] at hi
      exact ⟨h7, h9, order_has hm.in8 (sh_pair (h.sh hl hi hj))⟩
end
end Go.Proofs.YtcmpdmobmbbplaaGreat

/- Walks of the reference: runs against an order. -/
namespace Go.Proofs.YtcmpdmobmbbplaaGreat
set_option maxRecDepth 4000
open Go Go.Eng
/-- Whether a run is against an order. -/
def agW (l : Lb) (L : List Nat) (i : Nat) : Bool := match runI l.err (l.runs.getD i ⟨0, 0, 0⟩) with
  | some p => decide (L.idxOf p.2.toNat < L.idxOf p.1.toNat)
  | none => false
def agK (l : Lb) (L : List Nat) (k : Nat) : Nat := ((List.range k).filter (agW l L)).length
def agN (l : Lb) (L : List Nat) : Nat := agK l L l.runs.length
theorem agK_succ (l : Lb) (L : List Nat) (k : Nat) : agK l L (k + 1) = agK l L k + (if agW l L k = true then 1 else 0) := by
  unfold agK
  rw [List.range_succ, List.filter_append, List.length_append]
  congr 1
  cases h : agW l L k <;> simp [h]
theorem agK_le (l : Lb) (L : List Nat) (k : Nat) : agK l L k ≤ k := by
  have := List.length_filter_le (agW l L) (List.range k)
  rwa [List.length_range] at this
def plI (n : Nat) (L : List Nat) (i : Nat) : List Int := (List.range n).map fun x => if L.idxOf x < i then (L.idxOf x : Int) else 0
theorem plI_len (n : Nat) (L : List Nat) (i : Nat) : (plI n L i).length = n := by simp [plI]
theorem plI_zero (n : Nat) (L : List Nat) : List.replicate n (0 : Int) = plI n L 0 := by
  refine List.ext_getElem (by simp [plI]) fun x h1 h2 => ?_
  simp [plI]
theorem plI_next {n : Nat} {L : List Nat} (hn : L.Nodup) {i : Nat} (hi : i < L.length) : (plI n L i).set L[i] (i : Int) = plI n L (i + 1) := by
  refine List.ext_getElem (by simp [plI]) fun x h1 h2 => ?_
  rw [List.getElem_set]
  simp only [plI, List.getElem_map, List.getElem_range]
  have hix := hn.idxOf_getElem i hi
  by_cases e : L[i] = x
  · rw [if_pos e, ← e, hix, if_pos (by omega)]
  · rw [if_neg e]
    have h3 : L.idxOf x ≠ i := fun h => e (by
      have h4 : L.idxOf x < L.length := by omega
      have h5 := List.getElem_idxOf h4
      simp only [h] at h5
      exact h5)
    by_cases h4 : L.idxOf x < i
    · rw [if_pos h4, if_pos (by omega)]
    · rw [if_neg h4, if_neg (by omega)]
theorem plI_at {n : Nat} {L : List Nat} (hp : L.Perm (List.range n)) {x : Nat} (hx : x < n) (h : x < (plI n L L.length).length) : (plI n L L.length)[x] = (L.idxOf x : Int) := by
  simp only [plI, List.getElem_map, List.getElem_range]
  rw [if_pos (List.idxOf_lt_length_iff.2 (hp.mem_iff.2 (List.mem_range.2 hx)))]
set_option maxHeartbeats 2000000 in
theorem ragainst_ca (w : World) (lo hi lo2 hi2 : Nat) (l : Lb) (v u : Value) (L : List Nat) (h : RdR w lo hi v l.runs) (hl : l.Ok) (hp : L.Perm (List.range l.n)) (hu : RdI w lo2 hi2 u (chI L)) :
    Ca Tryz.prog 88 [.agg (lbC l v).toArray, u] w fun x w' => x = .int .i64 (agN l L : Nat) ∧ Chg [] w w' := by
  obtain ⟨n, en, hn', h8, h1⟩ := hl.nat
  have hLl : L.length = n := by rw [hp.length_eq, List.length_range, hn']
  have hnd : L.Nodup := hp.nodup_iff.2 List.nodup_range
  have hlen := hl.len
  obtain ⟨ua, uc, rfl, hua⟩ := RdI.outI hu
  rw [chI_len] at hua hu ⊢
  obtain ⟨va, vc, rfl, _⟩ := RdR.outI h
  rw [hn'] at hp
  refine q_of (Sat.nil w M0) Tryz.func88 rfl (by simp [Tryz.ntmps88]) ?_
  (refine q_seq (q_region ?_))
  refine ql_box rfl rfl (fun b2 => ?_)
  rw [agg_cells]
  (refine ql_pure tabOk rfl rfl (q_nil (q_seq (q_region (ql_pure tabOk rfl rfl ?_)))); refine ql_loadBa tabOk rfl rfl rfl ?_)
  rw [en]
  refine ql_makeI slI rfl rfl rfl (by omega) (fun b5 => ?_)
  rw [plI_zero n L]
  (refine ql_pure tabOk rfl rfl (q_nil (q_seq (q_seq (q_region (ql_pure tabOk rfl rfl (q_nil (q_block ?_))))))))
  refine q_loop (σ := Nat) (fun i => i ≤ n) (fun i => n - i) (fun i => [(1, .slice ua L.length uc), (2, .pointer (some ⟨b2, 0, none⟩)), (5, .slice (some ⟨b5, 0, none⟩) n n), (6, .int .i64 i)]) (fun i => [.pt b5 (ints (plI n L i)) 3, .pt b2 (lbC l (.slice va l.runs.length vc)) 30]) 0 (by omega) ⟨rfl, rfl, rfl, rfl, trivial⟩ (by repeat constructor) ?_
  rintro i hi' K hK
  (refine q_seq (q_seq (q_region ?_)); (iterate 4 refine ql_pure tabOk rfl rfl ?_); refine q_nil ?_)
  refine q_if rfl (fun hc => ?_) (fun hc => ?_)
  · have hi2 : i < L.length := by omega
    clear hc
    obtain ⟨gu, ou, rfl⟩ := hua (by omega)
    have hi3 : i < (chI L).length := by rw [chI_len]; exact hi2
    have hLi : L[i] < n := List.mem_range.1 (hp.mem_iff.1 (List.getElem_mem hi2))
    have hnx := plI_next (n := n) hnd hi2
    obtain ⟨x, hx⟩ : ∃ x, x = L[i] := ⟨_, rfl⟩
    rw [← hx] at hLi hnx
    have hxl : x < (plI n L i).length := by rw [plI_len]; exact hLi
    (refine q_skip (q_seq (q_block (q_region ?_))); (iterate 3 refine ql_pure tabOk rfl rfl ?_))
    refine ql_index tabOk rfl rfl rfl rfl rfl (by omega) (by omega) ?_
    refine ql_load1 (v := .int .i64 x) tabOk rfl rfl rfl (fun w hs => by
      have := RdI.at (RdE.keep hu hs.chg0) i hi3
      rw [show (chI L)[i] = ((L[i] : Nat) : Int) from by simp [chI], ← hx] at this
      exact this) ?_
    (refine ql_pure tabOk rfl rfl ?_)
    refine ql_index tabOk rfl rfl rfl rfl rfl (by omega) (by omega) ?_
    refine ql_storeI tabOk (x) rfl rfl rfl (by repeat constructor) (by first | rfl | omega | simp) hxl ?_
    rw [hnx]
    (refine q_nil (q_blk (q_region (ql_pure tabOk rfl rfl (ql_ar tabOk rfl rfl rfl rfl (by omega) (by omega) (ql_pure tabOk rfl rfl (q_nil ?_)))))))
    exact hK (i + 1) _ _ (by omega) (by omega) ⟨rfl, rfl, rfl, rfl, trivial⟩ (by repeat constructor)
  · obtain rfl : i = n := by omega
    clear hc hK hi'
    (refine q_exit _ rfl (q_seq (q_region (ql_pure tabOk rfl rfl (q_nil (q_seq (q_seq (q_region (ql_pure tabOk rfl rfl (q_nil (q_block ?_)))))))))))
    refine q_loop (σ := Nat) (fun k => k ≤ l.runs.length) (fun k => l.runs.length - k) (fun k => [(2, .pointer (some ⟨b2, 0, none⟩)), (5, .slice (some ⟨b5, 0, none⟩) i i), (7, .int .i64 (agK l L k : Nat)), (8, .int .i64 k)]) (fun _ => [.pt b5 (ints (plI i L i)) 3, .pt b2 (lbC l (.slice va l.runs.length vc)) 30]) 0 (by omega) ⟨rfl, rfl, rfl, rfl, trivial⟩ (by repeat constructor) ?_
    rintro k hk K hK
    (refine q_seq (q_seq (q_region (ql_pure tabOk rfl rfl (ql_pure tabOk rfl rfl ?_)))); refine ql_loadBa tabOk rfl rfl rfl ?_; refine ql_pure tabOk rfl rfl (ql_pure tabOk rfl rfl (q_nil ?_)))
    refine q_if rfl (fun hc => ?_) (fun hc => ?_)
    · have hk2 : k < l.runs.length := by omega
      clear hc
      have hro := hl.run l.runs[k] (List.getElem_mem hk2)
      have hst := agK_succ l L k
      have hkl := agK_le l L k
      have hrg : l.runs.getD k ⟨0, 0, 0⟩ = l.runs[k] := by rw [List.getD_eq_getElem?_getD, List.getElem?_eq_getElem hk2, Option.getD_some]
      (refine q_skip (q_seq (q_block (q_seq (q_region ?_)))); refine ql_loadABa tabOk rfl rfl rfl ?_; refine ql_pure tabOk rfl rfl ?_)
      obtain ⟨sh, hsh0⟩ : ∃ sh, sh = shR l.err l.runs[k] := ⟨_, rfl⟩
      refine ql_callv (val := .tuple #[.int .i64 sh.1, .int .i64 sh.2]) tabOk rfl rfl rfl rfl (fun w hs => ?_) ?_; exact by rw [hsh0]; exact rshows_ca w lo hi l (.slice va l.runs.length vc) (RdE.keep h hs.chg0) ⟨hl.e0, hl.e1⟩ k hk2 hro.l0
      unfold agW at hst
      rw [hrg] at hst
      cases hri : runI l.err l.runs[k] with
      | none =>
        have e : sh = (-1, -1) := by rw [hsh0]; unfold shR; rw [hri]; rfl
        rw [hri] at hst
        subst e
        clear hsh0
        (refine ql_pure tabOk rfl rfl (ql_ext tabOk rfl rfl rfl (ql_ext tabOk rfl rfl rfl (ql_pure tabOk rfl rfl (ql_pure tabOk rfl rfl (q_nil (q_seq ?_)))))))
        refine q_draw _ [] (Sp.refl _) (by kernel_rfl) (by kernel_rfl) ?_
        (refine qf_pure tabOk rfl rfl rfl (qf_geqF tabOk rfl rfl rfl (by omega) (qf_pure tabOk rfl rfl rfl ?_)); (iterate 9 refine qf_gno rfl rfl rfl ?_); refine qf_pure tabOk rfl rfl rfl (qf_nil (q_cond_false rfl (q_skip (q_blk (q_region (ql_pure tabOk rfl rfl (ql_ar tabOk rfl rfl rfl rfl (by omega) (by omega) (ql_pure tabOk rfl rfl (q_nil ?_))))))))))
        exact hK (k + 1) _ _ (by omega) (by omega) ⟨rfl, rfl, (by first | (rw [hst]; rfl) | (simp only [hst]; rfl)), rfl, trivial⟩ (by repeat constructor)
      | some p =>
        obtain ⟨p1, p2⟩ := p
        obtain ⟨f, s, hf, hs', hsh⟩ := runI_sh hl hk2 (p := p1) (q := p2) hri
        subst hf hs'
        have hpr := hl.in _ (sh_pair hsh)
        have e : sh = ((f : Int), (s : Int)) := by rw [hsh0]; unfold shR; rw [hri]; rfl
        clear hsh0
        subst e
        rw [hri] at hst
        simp only [Int.toNat_natCast] at hst
        have hf2 : f < i := by have := hpr.1; omega
        have hs2 : s < i := by have := hpr.2.1; omega
        have hfl : f < (plI i L i).length := by rw [plI_len]; exact hf2
        have hsl : s < (plI i L i).length := by rw [plI_len]; exact hs2
        have hpf : (plI i L i)[f] = (L.idxOf f : Int) := by have := plI_at hp hf2 (by rw [plI_len]; exact hf2); simp only [hLl] at this; exact this
        have hps : (plI i L i)[s] = (L.idxOf s : Int) := by have := plI_at hp hs2 (by rw [plI_len]; exact hs2); simp only [hLl] at this; exact this
        (refine ql_pure tabOk rfl rfl (ql_ext tabOk rfl rfl rfl (ql_ext tabOk rfl rfl rfl (ql_pure tabOk rfl rfl (ql_pure tabOk rfl rfl (q_nil (q_seq ?_)))))))
        refine q_draw _ [] (Sp.refl _) (by kernel_rfl) (by kernel_rfl) ?_
        (refine qf_pure tabOk rfl rfl rfl (qf_geqT tabOk rfl rfl rfl (by omega) (qf_pure tabOk rfl rfl rfl (qf_gyes rfl (qf_pure tabOk rfl rfl rfl (qf_gyes rfl (qf_pure tabOk rfl rfl rfl (qf_gyes rfl ?_))))))))
        refine qf_index tabOk rfl rfl rfl rfl rfl (by omega) (by omega) ?_
        (refine qf_gyes rfl ?_)
        refine qf_loadI tabOk (f) rfl rfl rfl (by repeat constructor) (by first | rfl | omega | simp) hfl ?_
        rw [hpf]
        (refine qf_gyes rfl (qf_pure tabOk rfl rfl rfl (qf_gyes rfl (qf_pure tabOk rfl rfl rfl (qf_gyes rfl ?_)))))
        refine qf_index tabOk rfl rfl rfl rfl rfl (by omega) (by omega) ?_
        (refine qf_gyes rfl ?_)
        refine qf_loadI tabOk (s) rfl rfl rfl (by repeat constructor) (by first | rfl | omega | simp) hsl ?_
        rw [hps]
        by_cases hlt : L.idxOf s < L.idxOf f
        · simp only [hlt, decide_true, if_true] at hst
          (refine qf_gyes rfl (qf_gtrT tabOk rfl rfl rfl (by omega) (qf_pure tabOk rfl rfl rfl (qf_nil (q_cond_true rfl (q_region (ql_pure tabOk rfl rfl (ql_ar tabOk rfl rfl rfl rfl (by omega) (by omega) (ql_pure tabOk rfl rfl (q_nil (q_blk (q_region ?_))))))))))); refine ql_pure tabOk rfl rfl (ql_ar tabOk rfl rfl rfl rfl (by omega) (by omega) (ql_pure tabOk rfl rfl (q_nil ?_))))
          exact hK (k + 1) _ _ (by omega) (by omega) ⟨rfl, rfl, (by first | (rw [hst]; rfl) | (simp only [hst]; rfl)), rfl, trivial⟩ (by repeat constructor)
        · simp only [hlt, decide_false, Bool.false_eq_true, if_false, Nat.add_zero] at hst
          (refine qf_gyes rfl (qf_gtrF tabOk rfl rfl rfl (by omega) (qf_pure tabOk rfl rfl rfl (qf_nil (q_cond_false rfl (q_skip (q_blk (q_region (ql_pure tabOk rfl rfl (ql_ar tabOk rfl rfl rfl rfl (by omega) (by omega) (ql_pure tabOk rfl rfl (q_nil ?_))))))))))))
          exact hK (k + 1) _ _ (by omega) (by omega) ⟨rfl, rfl, (by first | (rw [hst]; rfl) | (simp only [hst]; rfl)), rfl, trivial⟩ (by repeat constructor)
    · obtain rfl : k = l.runs.length := by omega
      (refine q_exit _ rfl (q_seq (q_region (ql_pure tabOk rfl rfl (ql_pure tabOk rfl rfl (q_nil (q_ret ?_)))))))
      refine q_fin tabOk rfl (by repeat constructor) fun w hs => ?_
      exact ⟨rfl, hs.chg0⟩
end Go.Proofs.YtcmpdmobmbbplaaGreat

/- Walks of the reference: orders that fit; how many runs have to be dropped; runs without some of them. -/
namespace Go.Proofs.YtcmpdmobmbbplaaGreat
set_option maxRecDepth 4000
open Go Go.Eng
theorem agW_iff {l : Lb} (hl : l.Ok) {L : List Nat} {i : Nat} (hi : i < l.runs.length) : agW l L i = true ↔ ∃ f s, Sh l i f s ∧ L.idxOf s < L.idxOf f := by
  have hrg : l.runs.getD i ⟨0, 0, 0⟩ = l.runs[i] := by rw [List.getD_eq_getElem?_getD, List.getElem?_eq_getElem hi, Option.getD_some]
  unfold agW
  rw [hrg]
  cases hri : runI l.err l.runs[i] with
  | none => simp only [Bool.false_eq_true, false_iff]; rintro ⟨f, s, h, _⟩; exact runI_no hi hri h
  | some p =>
    obtain ⟨p1, p2⟩ := p
    obtain ⟨f, s, hf, hs', hsh⟩ := runI_sh hl hi (p := p1) (q := p2) hri
    subst hf hs'
    simp only [Int.toNat_natCast, decide_eq_true_iff]
    constructor
    · intro h; exact ⟨f, s, hsh, h⟩
    · rintro ⟨f', s', h, g⟩
      obtain ⟨rfl, rfl⟩ := sh_fun hsh h
      exact g
def agD (l : Lb) (L : List Nat) : List Nat := (List.range l.runs.length).filter (agW l L)
theorem agD_mem {l : Lb} (hl : l.Ok) {L : List Nat} {i : Nat} : i ∈ agD l L ↔ ∃ f s, Sh l i f s ∧ L.idxOf s < L.idxOf f := by
  unfold agD
  rw [List.mem_filter, List.mem_range]
  constructor
  · rintro ⟨h1, h2⟩; exact (agW_iff hl h1).1 h2
  · rintro ⟨f, s, h, g⟩; exact ⟨h.1, (agW_iff hl h.1).2 ⟨f, s, h, g⟩⟩
theorem ag_zero {l : Lb} (hl : l.Ok) {L : List Nat} (hp : L.Perm (List.range l.n)) : agN l L = 0 ↔ preB l.ord l.n [] L = true := by
  have h8 := hl.n8
  rw [pre_lin h8 hl.inO hp]
  constructor
  · intro h
    have h0 : agD l L = [] := List.length_eq_zero_iff.1 h
    refine ⟨hp, order_sub (R := fun a b => a < l.n ∧ b < l.n ∧ L.idxOf a < L.idxOf b) hl.in8 (fun a b c _ _ _ h1 h2 => ⟨h1.1, h2.2.1, by omega⟩) fun p hpp => ?_⟩
    obtain ⟨h1, h2, h3⟩ := hl.in _ hpp
    refine ⟨h1, h2, ?_⟩
    obtain ⟨i, hi⟩ := pair_sh hpp
    rcases Nat.lt_trichotomy (L.idxOf p.1) (L.idxOf p.2) with g | g | g
    · exact g
    · exfalso
      have m1 := List.idxOf_lt_length_iff.2 (hp.mem_iff.2 (List.mem_range.2 h1))
      have m2 := List.idxOf_lt_length_iff.2 (hp.mem_iff.2 (List.mem_range.2 h2))
      have e1 := List.getElem_idxOf m1
      have e2 := List.getElem_idxOf m2
      simp only [g] at e1
      exact h3 (e1.symm.trans e2)
    · exfalso
      have := (agD_mem hl).2 ⟨_, _, hi, g⟩
      rw [h0] at this
      cases this
  · intro h
    refine List.length_eq_zero_iff.2 (List.eq_nil_iff_forall_not_mem.2 fun i hi => ?_)
    obtain ⟨f, s, h1, h2⟩ := (agD_mem hl).1 hi
    have h3 := hl.in8 _ (sh_pair h1)
    have := (h.idx f s h3.1 h3.2 (order_has hl.in8 (sh_pair h1))).2.2
    omega
def dropF (l : Lb) (X : List (List Nat)) : Nat := X.foldl (fun b p => min b (agN l p)) l.runs.length
theorem selrd {w : World} {v : Value} {Y xs : List (Value × List Int)} {n t t2 : Nat} (hu : (un (rowsO t Y)).p w) (hsub : ∀ p ∈ xs, p ∈ Y) (h1 : w.ownsRow 0 t2 1 v n (xs.map (·.1))) : RdII w 0 w.heap.size v (xs.map (·.2)) := by
  have hn : n = (xs.map (·.1)).length := by have := h1.1; omega
  have hp : ∀ p ∈ xs, w.ownsRow 0 t 1 p.1 p.2.length (ints p.2) := fun p hp => hu.1 (.ow p.1 t 1 p.2.length (ints p.2)) (List.mem_map.2 ⟨p, hsub p hp, rfl⟩)
  refine ⟨xs.map (·.1), RdE.one (by rw [← hn]; exact own_rd h1) (fun e he => by obtain ⟨p, hm, rfl⟩ := List.mem_map.1 he; exact own_one' (hp p hm)), by simp, fun i hi hi' => ?_⟩
  have hi2 : i < xs.length := by simpa using hi
  simp only [List.getElem_map]
  exact own_rdI (hp _ (List.getElem_mem hi2)) rfl
theorem perm_len6 {n : Nat} (hn : n ≤ 6) : (permN n n).length ≤ 46656 := perm_bd hn hn
set_option maxHeartbeats 2000000 in
theorem fitting_ca (w : World) (lo hi : Nat) (l : Lb) (v : Value) (h : RdR w lo hi v l.runs) (hl : l.Ok) (h6 : l.n ≤ 6) :
    Ca Tryz.prog 37 [.agg (lbC l v).toArray] w fun x w' => ∃ y : Value × List (Value × List Int) × List (Value × List Int), (x = y.1 ∧ (∀ p ∈ y.2.2, p ∈ y.2.1) ∧ y.2.2.map (·.2) = (FL l.ord l.n l.n).map chI) ∧ Sat w M0 [un (rowsO 3 y.2.1), .ow y.1 48 1 y.2.2.length (y.2.2.map (·.1))] w' := by
  obtain ⟨n, en, hn', h8, h1⟩ := hl.nat
  have hFL := FL_eq l.ord n n
  have hPb := perm_len6 (n := n) (by omega)
  have hag := fun L (hp : L ∈ permN n n) => ag_zero hl (L := L) (by rw [hn']; exact perm_full.1 hp)
  have hagp := fun L (hp : L ∈ permN n n) => perm_full.1 hp
  rw [hn'] at hag ⊢
  obtain ⟨va, vc, rfl, _⟩ := RdR.outI h
  refine q_of (Sat.nil w M0) Tryz.func37 rfl (by simp [Tryz.ntmps37]) ?_
  (refine q_seq (q_region ?_))
  refine ql_box rfl rfl (fun b1 => ?_)
  rw [agg_cells]
  (refine ql_pure tabOk rfl rfl (q_nil (q_seq (q_region (ql_pure tabOk rfl rfl ?_)))); refine ql_loadBa tabOk rfl rfl rfl ?_)
  rw [en]
  refine ql_call (β := Value × List (Value × List Int)) tabOk [] _ M0 rfl rfl rfl rfl (Sp.refl _) (fun _ h => h.elim) (fun w' hs => perms_ca n (by omega) w') ?_
  rintro ⟨_, Y⟩ v3 ⟨rfl, hY⟩
  dsimp only [List.cons_append, List.nil_append] at hY ⊢
  have hYl : Y.length = (permN n n).length := by have := congrArg List.length hY; simpa using this
  obtain ⟨PL, hPL⟩ : ∃ PL, PL = permN n n := ⟨_, rfl⟩
  rw [← hPL] at hFL hPb hag hagp hY hYl
  refine ql_fact (fun w hs => hs.slice2 (v := v3) (by repeat constructor)) ?_
  rintro ⟨a3, c3, rfl⟩
  (refine ql_pure tabOk rfl rfl (q_nil (q_seq (q_region (ql_pure tabOk rfl rfl (q_nil (q_seq (q_seq (q_region (ql_pure tabOk rfl rfl (q_nil (q_block ?_))))))))))))
  refine q_conv (H' := [.ow (.slice none 0 0) 48 1 0 [], un (rowsO 3 Y), .ow (.slice a3 Y.length c3) 48 1 Y.length (Y.map (·.1)), .pt b1 (lbC l (.slice va l.runs.length vc)) 30]) (fun w' hs => (Sat.ownil hs 48 1).sp (by repeat constructor)) ?_
  refine q_loop (σ := Nat × Value × List (Value × List Int)) (fun z => z.1 ≤ Y.length ∧ z.2.2.length ≤ z.1 ∧ (∀ p ∈ z.2.2, p ∈ Y) ∧ z.2.2.map (·.2) = ((PL.take z.1).filter (preB l.ord n [])).map chI) (fun z => Y.length - z.1) (fun z => [(1, .pointer (some ⟨b1, 0, none⟩)), (3, .slice a3 Y.length c3), (4, z.2.1), (5, .int .i64 z.1)]) (fun z => [.ow z.2.1 48 1 z.2.2.length (z.2.2.map (·.1)), un (rowsO 3 Y), .ow (.slice a3 Y.length c3) 48 1 Y.length (Y.map (·.1)), .pt b1 (lbC l (.slice va l.runs.length vc)) 30]) (0, .slice none 0 0, []) ⟨by simp, by simp, by simp, by simp⟩ ⟨rfl, rfl, rfl, rfl, trivial⟩ (by repeat constructor) ?_
  rintro ⟨i, v4, sel⟩ ⟨hi', hsl, hsub, hsel⟩ K hK
  dsimp only at hi' hsl hsub hsel hK ⊢
  (refine q_seq (q_seq (q_region ?_)); (iterate 4 refine ql_pure tabOk rfl rfl ?_); refine q_nil ?_)
  refine q_if rfl (fun hc => ?_) (fun hc => ?_)
  · have hi2 : i < Y.length := by omega
    clear hc
    have hip : i < PL.length := by omega
    obtain ⟨p, hp⟩ : ∃ p, p = PL[i] := ⟨_, rfl⟩
    have hpm : p ∈ PL := by rw [hp]; exact List.getElem_mem hip
    have hYk : Y[i].2 = chI p := by
      have h1 : (Y.map (·.2))[i]? = (PL.map chI)[i]? := by rw [hY]
      rw [List.getElem?_map, List.getElem?_map, List.getElem?_eq_getElem hi2, List.getElem?_eq_getElem hip, Option.map_some, Option.map_some] at h1
      rw [hp]
      exact Option.some.inj h1
    have hpl : Y[i].2.length = p.length := by rw [hYk, chI_len]
    have htk : (PL.take (i + 1)).filter (preB l.ord n []) = (PL.take i).filter (preB l.ord n []) ++ (if preB l.ord n [] p = true then [p] else []) := by
      rw [List.take_succ_eq_append_getElem hip, List.filter_append, ← hp]
      cases hc : preB l.ord n [] p <;> simp [hc]
    have hag2 := hag p hpm
    refine q_fact (fun w hs => rowN hs (t := 3) (X := Y) (by repeat constructor) hi2) ?_
    rintro ⟨ka, kc, ek, hka⟩
    rw [hpl] at ek hka
    refine q_fact (fun w hs => hs.ownSome (v := .slice a3 Y.length c3) (by repeat constructor) (by omega)) ?_
    rintro ⟨g3, q3, ev⟩
    cases ev
    (refine q_skip (q_seq (q_block (q_seq ?_))))
    refine q_draw _ [] (Sp.refl _) (by kernel_rfl) (by kernel_rfl) ?_
    (refine qf_loadABa tabOk rfl rfl rfl ?_; refine qf_pure tabOk rfl rfl rfl (qf_pure tabOk rfl rfl rfl ?_))
    refine qf_index tabOk rfl rfl rfl rfl rfl (by omega) (by omega) ?_
    refine qf_load1 (v := .slice ka p.length kc) tabOk rfl rfl rfl (fun w hs => row_cell hs (t := 48) (X := Y) (by repeat constructor) hi2 ek rfl) ?_
    skip
    refine qf_callv (val := .int .i64 (agN l p : Nat)) tabOk rfl rfl rfl rfl (fun w hs => ?_) ?_; exact ragainst_ca w lo hi 0 w.heap.size l (.slice va l.runs.length vc) (.slice ka p.length kc) p (RdE.keep h hs.chg0) hl (by rw [hn']; exact hagp p hpm) (by have := (wx_row hs (t := 3) (xs := Y) (by repeat constructor) i hi2).1; rw [ek, hYk] at this; exact this)
    by_cases h0 : agN l p = 0
    · rw [if_pos (hag2.1 h0)] at htk
      (refine qf_eqlT tabOk rfl rfl rfl (by omega) (qf_nil (q_cond_true rfl (q_region ?_))); (iterate 3 refine ql_pure tabOk rfl rfl ?_))
      refine ql_index tabOk rfl rfl rfl rfl rfl (by omega) (by omega) ?_
      refine ql_load1 (v := .slice ka p.length kc) tabOk rfl rfl rfl (fun w hs => row_cell hs (t := 48) (X := Y) (by repeat constructor) hi2 ek rfl) ?_
      skip
      refine ql_mkS 48 [.slice ka p.length kc] rfl (by kernel_rfl) rfl (fun bm => ?_)
      skip
      refine ql_append (q := 1) (news := [.slice ka p.length kc]) slII rfl rfl rfl (fun v' => by repeat constructor) (fun w' hs => ⟨_, _, Blk.rdN (hs.blk (b := bm) (by repeat constructor)) rfl⟩) (by simp [oneV]) (by omega) (by omega) (fun u4 => ?_)
      (refine ql_pure tabOk rfl rfl (q_nil (q_blk (q_region (ql_pure tabOk rfl rfl (ql_ar tabOk rfl rfl rfl rfl (by omega) (by omega) (ql_pure tabOk rfl rfl (q_nil ?_))))))))
      have elen : (sel ++ [Y[i]]).length = sel.length + 1 := by simp
      exact hK (i + 1, u4, sel ++ [Y[i]]) _ _ ⟨by simp only; omega, by simp only [elen]; omega, fun q hq => by
        rcases List.mem_append.1 hq with hq | hq
        · exact hsub q hq
        · rw [List.mem_singleton.1 hq]; exact List.getElem_mem hi2, by dsimp only; rw [htk, List.map_append, List.map_append, hsel, List.map_singleton, hYk, List.map_singleton]⟩ (by simp only; omega) ⟨rfl, rfl, rfl, rfl, trivial⟩ (by dsimp only; rw [elen, List.map_append, List.map_singleton, ek]; repeat constructor)
    · rw [if_neg (fun h => h0 (hag2.2 h)), List.append_nil] at htk
      (refine qf_eqlF tabOk rfl rfl rfl (by omega) (qf_nil (q_cond_false rfl (q_skip (q_blk (q_region (ql_pure tabOk rfl rfl (ql_ar tabOk rfl rfl rfl rfl (by omega) (by omega) (ql_pure tabOk rfl rfl (q_nil ?_))))))))))
      exact hK (i + 1, v4, sel) _ _ ⟨by simp only; omega, by simp only; omega, hsub, by dsimp only; rw [htk]; exact hsel⟩ (by simp only; omega) ⟨rfl, rfl, rfl, rfl, trivial⟩ (by repeat constructor)
  · have hiY : i = PL.length := by omega
    rw [hiY, List.take_length, hFL] at hsel
    (refine q_exit _ rfl (q_seq (q_region (ql_pure tabOk rfl rfl (ql_pure tabOk rfl rfl (q_nil (q_ret ?_)))))))
    refine q_fin tabOk rfl (by repeat constructor) fun w hs => ?_
    exact ⟨(v4, Y, sel), ⟨rfl, hsub, hsel⟩, hs.sp (by repeat constructor)⟩
end Go.Proofs.YtcmpdmobmbbplaaGreat

/- The laying of slices.Sort at this seat's program, as the kit's lay-plain.mjs writes it. -/
namespace Go.Proofs.YtcmpdmobmbbplaaGreat
set_option maxRecDepth 4000
open Go Go.Shelf
def lays189_ren : Go.Shelf.Ren := ⟨fun | 189 => 78 | 125 => 138 | 257 => 137 | 128 => 175 | 129 => 176 | 294 => 166 | 295 => 167 | 296 => 168 | 297 => 169 | 298 => 170 | 299 => 171 | 216 => 172 | 300 => 173 | 301 => 174 | 328 => 186 | 329 => 187 | 330 => 188 | 331 => 189 | 332 => 190 | 215 => 191 | 343 => 196 | n => n, fun | 28 => 48 | 3 => 3 | 46 => 199 | 0 => 0 | 51 => 135 | 53 => 222 | 4 => 4 | 183 => 215 | 182 => 214 | 131 => 190 | 5 => 5 | 9 => 9 | 218 => 226 | 222 => 90 | 228 => 234 | 229 => 141 | n => n, fun | n => n⟩
end Go.Proofs.YtcmpdmobmbbplaaGreat

/- Walks: runs that contradict each other. -/
namespace Go.Proofs.YtcmpdmobmbbplaaGreat
set_option maxRecDepth 4000
open Go Go.Eng
/-- What comes of asking for a round. -/
def RoR (l : Lb) (c : List Int) (e : Int) : Prop := (checkV l ≠ 0 ∧ c = [] ∧ e = checkV l) ∨ (l.Ok ∧ NoC l.ord l.n ∧ c = [] ∧ e = 6) ∨ (l.Ok ∧ e = 0 ∧ ∃ s : Nat, s < l.n ∧ fa l.ord s s = true ∧ Short l s s c)
end Go.Proofs.YtcmpdmobmbbplaaGreat

/- The engine, part B35: a bit of a number is cleared. -/
namespace Go.Eng
set_option maxRecDepth 4000
open Go Go.RowKit

section
variable {P : Program} {ro : Cx} {n : Nat} {F : Fin} {w0 : World} {M : Nat → Prop} {k : List It} {ops : Array Oper} {rest : List Oper} {e : Env} {H Hq : List Ck}
/-- A number without a bit. -/
def delB (a s : Nat) : Nat := if a.testBit s = true then a ^^^ 2 ^ s else a
end
end Go.Eng

/- Walks: the runs against an order; the fewest runs against some order of each set. -/
namespace Go.Proofs.YtcmpdmobmbbplaaGreat
set_option maxRecDepth 4000
open Go Go.Eng
def agI (l : Lb) (s S : Nat) (pre : List (Nat × Int × Int)) : List Nat := (pre.filter (agB s S)).map (·.1)
end Go.Proofs.YtcmpdmobmbbplaaGreat

/- slices.Sort of numbers, of any length, by the kit's contract. -/
namespace Go.Proofs.YtcmpdmobmbbplaaGreat
set_option maxRecDepth 4000
open Go Go.Eng
end Go.Proofs.YtcmpdmobmbbplaaGreat

/- The engine, part B36: shifts and make of a list of numbers in a region that draws. -/
namespace Go.Eng
set_option maxRecDepth 4000
open Go Go.RowKit

section
variable {P : Program} {ro : Cx} {n : Nat} {F : Fin} {w0 : World} {M : Nat → Prop} {k : List It} {ops : Array Oper} {rest : List Oper} {e : Env} {H Hq : List Ck}
end
end Go.Eng

/- Walks: the fewest runs that are to be dropped. -/
namespace Go.Proofs.YtcmpdmobmbbplaaGreat
set_option maxRecDepth 4000
open Go Go.Eng
def fwL (l : Lb) (n S : Nat) : List Int := (List.range (2 ^ n)).map fun T => if T < S then ((dp l n T).1 : Int) else 0
def lsL (l : Lb) (n S : Nat) : List Int := (List.range (2 ^ n)).map fun T => if T < S then ((dp l n T).2 : Int) else 0
section
variable {l : Lb} {n S : Nat}
end
end Go.Proofs.YtcmpdmobmbbplaaGreat

/- Walks: the fewest runs that are to be dropped. -/
namespace Go.Proofs.YtcmpdmobmbbplaaGreat
set_option maxRecDepth 4000
open Go Go.Eng
def tK47_d76cc7a : OT := .alt (chainT [0, 1, 2, 3, 4, 5, 6, 7, 8, 9, 10, 11, 12, 13, 14, 15] (.nil)) (chainT [7, 8, 9, 10, 11, 12, 13, 0, 1, 2, 3, 4, 5, 6, 14, 15] (.nil))
end Go.Proofs.YtcmpdmobmbbplaaGreat

/- The plain law of SkiRanked: chains, and what is to be dropped, if runs do not contradict each other. -/
namespace Go.Proofs.YtcmpdmobmbbplaaGreat
set_option maxRecDepth 4000
open Go Go.Eng
end Go.Proofs.YtcmpdmobmbbplaaGreat

/- Walks: whether places are known; the first order that fits; where a number is. -/
namespace Go.Proofs.YtcmpdmobmbbplaaGreat
set_option maxRecDepth 4000
open Go Go.Eng

theorem known_ok (w : World) (lo hi : Nat) (l : Lb) (v : Value) (k : Nat) (h : RdR w lo hi v l.runs) (hl : l.Ok) (hc : NoC l.ord l.n) (k1 : 1 ≤ k) (k2 : k ≤ l.n) : Ca Tryz.prog 13 [.agg (lbC l v).toArray, .int .i64 k] w fun x w' => x = .tuple #[.bool (knownO l.ord l.n k), .int .i64 0] ∧ Chg [] w w' := by
  obtain ⟨n, en, hn', h8, h1⟩ := hl.nat
  rw [hn'] at k2 ⊢
  have hlen : l.runs.length ≤ maxLen := by have := hl.len; simp only [maxLen]; omega
  have hpl : placedV l k = 0 := placed_iff.2 ⟨hl, by omega, by omega⟩
  refine q_of (Sat.nil w M0) Tryz.func13 rfl (by simp [Tryz.ntmps13]) ?_
  (refine q_seq (q_region ?_))
  refine ql_box rfl rfl (fun b2 => ?_)
  rw [agg_cells]
  (refine ql_pure tabOk rfl rfl (ql_pure tabOk rfl rfl (q_nil (q_seq (q_seq (q_region ?_))))); refine ql_loadABa tabOk rfl rfl rfl ?_; refine ql_pure tabOk rfl rfl ?_)
  refine ql_callv (val := .int .i64 0) tabOk rfl rfl rfl rfl (fun w hs => ?_) ?_; exact by have := placed_ca w lo hi l v k (RdE.keep h hs.chg0) hlen; rw [hpl] at this; exact this
  (refine ql_pure tabOk rfl rfl (q_nil (q_seq (q_region (ql_pure tabOk rfl rfl (ql_neqF tabOk rfl rfl rfl (by omega) (q_nil (q_cond_false rfl (q_skip (q_seq (q_region ?_)))))))))); refine ql_loadABa tabOk rfl rfl rfl ?_)
  refine ql_call (β := Nat) tabOk [] _ M0 rfl rfl rfl rfl (Sp.refl _) (fun _ h => h.elim) (fun w' hs => agreed_ok w' lo hi l v (RdE.keep h hs.chg0) hl hc) ?_
  rintro b _ rfl
  dsimp only [List.cons_append, List.nil_append]
  (refine ql_pure tabOk rfl rfl (ql_ext tabOk rfl rfl rfl (ql_ext tabOk rfl rfl rfl (ql_pure tabOk rfl rfl (ql_pure tabOk rfl rfl (q_nil (q_seq (q_seq (q_region (ql_pure tabOk rfl rfl (ql_neqF tabOk rfl rfl rfl (by omega) (q_nil ?_))))))))))); refine q_cond_false rfl (q_skip (q_seq ?_)))
  refine q_draw _ [] (Sp.refl _) (by kernel_rfl) (by kernel_rfl) ?_
  ((iterate 3 refine qf_pure tabOk rfl rfl rfl ?_); refine qf_loadABa tabOk rfl rfl rfl ?_; (iterate 4 refine qf_pure tabOk rfl rfl rfl ?_); refine qf_loadBa tabOk rfl rfl rfl ?_; refine qf_pure tabOk rfl rfl rfl ?_)
  rw [dk_take, en]
  refine qf_callv (val := .bool (knownO l.ord n k)) tabOk rfl rfl rfl rfl (fun w hs => ?_) ?_; exact known_ca w l.ord n k h8 k2
  (refine qf_pure tabOk rfl rfl rfl (qf_pure tabOk rfl rfl rfl (qf_nil (q_ret ?_))))
  refine q_fin tabOk rfl (by repeat constructor) fun w hs => ?_
  exact ⟨rfl, hs.chg0⟩
/-- Where a number is in a list, or -1. -/
def idxN (L : List Nat) (x : Nat) : Int := if x ∈ L then (L.idxOf x : Int) else -1
end Go.Proofs.YtcmpdmobmbbplaaGreat

/- Walks: whether a number is in a list; runs without some of them. -/
namespace Go.Proofs.YtcmpdmobmbbplaaGreat
set_option maxRecDepth 4000
open Go Go.Eng
def woR (l : Lb) (D : List Nat) (k : Nat) : List Rn := ((List.range k).filter fun i => !decide (i ∈ D)).map fun i => l.runs.getD i ⟨0, 0, 0⟩
end Go.Proofs.YtcmpdmobmbbplaaGreat

/- Walks of the reference: how many runs have to be dropped; runs without some of them. -/
namespace Go.Proofs.YtcmpdmobmbbplaaGreat
set_option maxRecDepth 4000
open Go Go.Eng
def kpB (i : Nat) (L : List Nat) : Bool := !decide (i ∈ L) && true
end Go.Proofs.YtcmpdmobmbbplaaGreat

/- The engine, part B37: make of a list whose elements are structs, with its zero cells. -/
namespace Go.Eng
set_option maxRecDepth 4000
open Go Go.RowKit
section
variable {P : Program} {T : Tab} {ro : Cx} {n : Nat} {F : Fin} {w0 : World} {M : Nat → Prop} {k : List It} {ops : Array Oper} {rest : List Oper} {e : Env} {H Hq : List Ck}
end
end Go.Eng

/- Walks of the reference: places, by all orders that fit. -/
namespace Go.Proofs.YtcmpdmobmbbplaaGreat
set_option maxRecDepth 4000
open Go Go.Eng
/-- The places that have been seen so far. -/
def Dn (X : List (List Nat)) (i p s q : Nat) : Prop := ∃ j, j < X.length ∧ (j < i ∨ (j = i ∧ q < p)) ∧ (X.getD j [])[q]? = some s
structure PlS (n : Nat) (O : List (Int × Int)) (D : Nat → Nat → Prop) : Prop where
  len : O.length = n
  at_ : ∀ s, s < n → ((∀ q, ¬ D s q) ∧ O.getD s (0, 0) = (0, 0)) ∨ ((∃ q : Nat, D s q ∧ (O.getD s (0, 0)).1 = q + 1) ∧ (∀ q : Nat, D s q → (O.getD s (0, 0)).1 ≤ q + 1) ∧ (∃ q : Nat, D s q ∧ (O.getD s (0, 0)).2 = q + 1) ∧ ∀ q : Nat, D s q → (q : Int) + 1 ≤ (O.getD s (0, 0)).2)
theorem PlS.congr {n : Nat} {O : List (Int × Int)} {D E : Nat → Nat → Prop} (h : PlS n O D) (he : ∀ s q, D s q ↔ E s q) : PlS n O E := by
  have : D = E := funext fun s => funext fun q => propext (he s q)
  rw [← this]; exact h
def loU (z : Int × Int) (p : Nat) : Int := if z.1 = 0 ∨ (p : Int) + 1 < z.1 then (p : Int) + 1 else z.1
def upZ (z : Int × Int) (p : Nat) : Int × Int := (loU z p, max z.2 ((p : Int) + 1))
theorem PlS.set {n : Nat} {O : List (Int × Int)} {D : Nat → Nat → Prop} (h : PlS n O D) {x p : Nat} (hx : x < n) : PlS n (O.set x (upZ (O.getD x (0, 0)) p)) (fun s q => D s q ∨ (s = x ∧ q = p)) where
  len := by rw [List.length_set]; exact h.len
  at_ s hs := by
    have hl := h.len
    have hg : (O.set x (upZ (O.getD x (0, 0)) p)).getD s (0, 0) = if s = x then upZ (O.getD x (0, 0)) p else O.getD s (0, 0) := by
      rw [List.getD_eq_getElem?_getD, List.getElem?_set]
      by_cases e : x = s
      · subst e; rw [if_pos rfl, if_pos (by omega), if_pos rfl]; rfl
      · rw [if_neg e, if_neg (fun h => e h.symm), List.getD_eq_getElem?_getD]
    rw [hg]
    by_cases e : s = x
    · subst e
      rw [if_pos rfl]
      right
      rcases h.at_ s hs with ⟨h1, h2⟩ | ⟨⟨q1, h1, h2⟩, h3, ⟨q2, h4, h5⟩, h6⟩
      · rw [h2]
        refine ⟨⟨p, .inr ⟨rfl, rfl⟩, by simp [upZ, loU]⟩, fun q hq => ?_, ⟨p, .inr ⟨rfl, rfl⟩, by simp only [upZ]; omega⟩, fun q hq => ?_⟩
        · rcases hq with hq | ⟨_, rfl⟩
          · exact absurd hq (h1 q)
          · simp [upZ, loU]
        · rcases hq with hq | ⟨_, rfl⟩
          · exact absurd hq (h1 q)
          · simp only [upZ]; omega
      · generalize O.getD s (0, 0) = z at h2 h3 h5 h6 ⊢
        refine ⟨?_, fun q hq => ?_, ?_, fun q hq => ?_⟩
        · by_cases hc : z.1 = 0 ∨ (p : Int) + 1 < z.1
          · exact ⟨p, .inr ⟨rfl, rfl⟩, by simp only [upZ, loU]; rw [if_pos hc]⟩
          · exact ⟨q1, .inl h1, by simp only [upZ, loU]; rw [if_neg hc]; exact h2⟩
        · have h7 : (upZ z p).1 ≤ z.1 ∧ (upZ z p).1 ≤ p + 1 := by
            simp only [upZ, loU]
            split <;> omega
          rcases hq with hq | ⟨_, rfl⟩
          · have := h3 q hq; omega
          · exact h7.2
        · by_cases hc : z.2 ≤ (p : Int) + 1
          · exact ⟨p, .inr ⟨rfl, rfl⟩, by simp only [upZ]; omega⟩
          · exact ⟨q2, .inl h4, by simp only [upZ]; omega⟩
        · rcases hq with hq | ⟨_, rfl⟩
          · have := h6 q hq; simp only [upZ]; omega
          · simp only [upZ]; omega
    · rw [if_neg e]
      rcases h.at_ s hs with ⟨h1, h2⟩ | ⟨⟨q1, h1, h2⟩, h3, ⟨q2, h4, h5⟩, h6⟩
      · exact .inl ⟨fun q hq => hq.elim (h1 q) fun h => e h.1, h2⟩
      · exact .inr ⟨⟨q1, .inl h1, h2⟩, fun q hq => hq.elim (h3 q) fun h => absurd h.1 e, ⟨q2, .inl h4, h5⟩, fun q hq => hq.elim (h6 q) fun h => absurd h.1 e⟩
theorem PlS.zero (n : Nat) : PlS n (List.replicate n (0, 0)) (fun _ _ => False) := ⟨by simp, fun s hs => .inl ⟨fun q h => h, by rw [List.getD_eq_getElem?_getD, List.getElem?_replicate, if_pos hs]; rfl⟩⟩
/-- All places that have been seen: the spans. -/
theorem PlS.all {l : Lb} (hl : l.Ok) (hc : NoC l.ord l.n) {O : List (Int × Int)} (h : PlS l.n O (Dn (FL l.ord l.n l.n) (FL l.ord l.n l.n).length 0)) : O = plC l l.ord l.n := by
  have h8 := hl.n8
  have hsk : l.skis = (l.n : Int) := by have := hl.s0; unfold Lb.n; omega
  have hdn : ∀ s q, Dn (FL l.ord l.n l.n) (FL l.ord l.n l.n).length 0 s q ↔ ∃ L, LinO l.ord l.n L ∧ L[q]? = some s := fun s q => by
    constructor
    · rintro ⟨j, h1, _, h3⟩
      rw [List.getD_eq_getElem?_getD, List.getElem?_eq_getElem h1, Option.getD_some] at h3
      exact ⟨_, (fl_mem h8 hl.inO).1 (List.getElem_mem h1), h3⟩
    · rintro ⟨L, h1, h2⟩
      obtain ⟨j, hj, rfl⟩ := List.mem_iff_getElem.1 ((fl_mem h8 hl.inO).2 h1)
      exact ⟨j, hj, .inl hj, by rw [List.getD_eq_getElem?_getD, List.getElem?_eq_getElem hj, Option.getD_some]; exact h2⟩
  refine List.ext_getElem (by rw [h.len, plC_len]) fun s h1 h2 => ?_
  have hs : s < l.n := by rw [plC_len] at h2; exact h2
  have hidx : ∀ L q, LinO l.ord l.n L → L[q]? = some s → L.idxOf s = q := fun L q hL hq => by
    obtain ⟨h3, h4⟩ := List.getElem?_eq_some_iff.1 hq
    rw [← h4]
    exact hL.nodup.idxOf_getElem q h3
  have hat : ∀ L, LinO l.ord l.n L → L[L.idxOf s]? = some s := fun L hL => by
    have h3 := List.idxOf_lt_length_iff.2 (hL.mem.2 hs)
    rw [List.getElem?_eq_getElem h3, List.getElem_idxOf]
  obtain ⟨L1, g1, g2⟩ := place_lo hc hl.o h8 hl.inO hs
  obtain ⟨L2, g3, g4⟩ := place_hi hc hl.o h8 hl.inO hs
  have d1 := (hdn s _).2 ⟨L1, g1, hat L1 g1⟩
  have d2 := (hdn s _).2 ⟨L2, g3, hat L2 g3⟩
  have hO : O[s] = O.getD s (0, 0) := by rw [List.getD_eq_getElem?_getD, List.getElem?_eq_getElem h1, Option.getD_some]
  have hP := plC_get l l.ord (k := l.n) hs
  obtain ⟨_, hP⟩ := List.getElem?_eq_some_iff.1 hP
  rw [hO, hP]
  rcases h.at_ s hs with ⟨h5, _⟩ | ⟨⟨q1, h5, h6⟩, h7, ⟨q2, h9, h10⟩, h11⟩
  · exact absurd d1 (h5 _)
  · obtain ⟨L3, k1, k2⟩ := (hdn s q1).1 h5
    obtain ⟨L4, k3, k4⟩ := (hdn s q2).1 h9
    have e1 := hidx L3 q1 k1 k2
    have e2 := hidx L4 q2 k3 k4
    have b1 := lin_bd k1 h8 hs
    have b2 := lin_bd k3 h8 hs
    have a1 := h7 _ d1
    have a2 := h11 _ d2
    refine Prod.ext ?_ ?_
    · simp only; omega
    · simp only; omega
end Go.Proofs.YtcmpdmobmbbplaaGreat

/- The walk of the reference's Places. -/
namespace Go.Proofs.YtcmpdmobmbbplaaGreat
set_option maxRecDepth 4000
open Go Go.Eng
end Go.Proofs.YtcmpdmobmbbplaaGreat

/- Parts of lists. -/
namespace Go.Proofs.YtcmpdmobmbbplaaGreat
set_option maxRecDepth 4000
open Go Go.Eng
/-- Where a part begins. -/
def frA (a : Option Addr) (c k sz : Nat) : Option Addr := if c = k then a else a.map (·.add (k * sz))
section
variable {P : Program} {ro : Cx} {n : Nat} {F : Fin} {w0 : World} {M : Nat → Prop} {ks : List It} {ops : Array Oper} {rest : List Oper} {e : Env} {H Hq : List Ck}
end
end Go.Proofs.YtcmpdmobmbbplaaGreat

/- Walk: numbers are shuffled. -/
namespace Go.Proofs.YtcmpdmobmbbplaaGreat
set_option maxRecDepth 4000
open Go Go.Eng
theorem chI_at {l : List Nat} {i : Nat} (h : i < l.length) (h2 : i < (chI l).length) : (chI l)[i] = ((l[i] : Nat) : Int) := by simp [chI]
end Go.Proofs.YtcmpdmobmbbplaaGreat

/- Walks: what a run is worth; the next run. -/
namespace Go.Proofs.YtcmpdmobmbbplaaGreat
set_option maxRecDepth 4000
open Go Go.Eng

/-- What a run of two skis is worth. -/
def worthV (n k o a b : Nat) : Nat := if (fa o a b || fa o b a) = true then 1 + planO n k o else worthO n k o a b
theorem worthV_und {n k o a b : Nat} (h1 : fa o a b = false) (h2 : fa o b a = false) : worthV n k o a b = worthO n k o a b := by unfold worthV; rw [h1, h2]; rfl
theorem worthV_dec {n k o a b : Nat} (h : (fa o a b || fa o b a) = true) : worthV n k o a b = 1 + planO n k o := if_pos h
set_option maxHeartbeats 1000000 in
theorem worthD_ca (n k bm b2 b3 b6 b7 b8 o a b : Nat) (hn : n ≤ 8) (hk : k ≤ n) (ho : Ord o) (ha : a < n) (hb : b < n) (hd : (fa o a b || fa o b a) = true) (w : World) (f : Value → Option Value) (hE : PlE w n k bm b2 b3 b6 b7 b8) (hm : MapAt w bm oK eqV f) (hg : GoodP n k f) :
    Ca Tryz.prog 130 [oV o, .int .i64 a, .int .i64 b, .pointer (some ⟨b7, 0, none⟩)] w fun v w' => ∃ f, (v = .int .i64 ((1 + planO n k o : Nat) : Int) ∧ GoodP n k f) ∧ Sat w (· = bm) [mpO bm f] w' := by
  obtain ⟨t7, hb7⟩ := hE.h7
  have hb7 := fun w' (c : ChgP (· = bm) w w') => Blk.mapC hb7 hm c
  have h64 : n * n ≤ 64 := Nat.mul_le_mul hn hn
  have hpl := plan_le (k := k) hn ho
  refine q_of (H := [mpO bm f]) (map_sat hm) Tryz.func130 rfl (by simp [Tryz.ntmps130]) ?_
  (refine q_seq (q_region ?_))
  refine ql_box rfl rfl (fun b4 => ?_)
  rw [agg_cells]
  (refine ql_pure tabOk rfl rfl (q_nil (q_seq (q_seq (q_region (ql_pure tabOk rfl rfl (ql_pure tabOk rfl rfl ?_)))))))
  refine ql_indexA (len := 8) o_arr rfl rfl rfl (by omega) (by omega) ?_
  skip
  refine ql_indexA (len := 8) r_arr rfl rfl rfl (by omega) (by omega) ?_
  skip
  refine ql_load1 (v := .bool (fa o a b)) tabOk rfl rfl rfl (fun w hs => o_cell hs (b := b4) (off := 0 + (a : Int).toNat * 8 + (b : Int).toNat * 1) (by repeat constructor) a b (by omega) (by omega) (by omega)) ?_
  cases hab : fa o a b with
  | true =>
    (refine ql_pure tabOk rfl rfl ?_; (iterate 5 refine ql_gno rfl rfl rfl ?_); refine ql_pure tabOk rfl rfl (q_nil (q_cond_true rfl (q_seq (q_region ?_)))); refine ql_loadG tabOk rfl rfl rfl (by assumption) (by rfl) ?_; refine ql_loadABa tabOk rfl rfl rfl ?_)
    rw [oC_take]
    refine ql_callF (β := Value → Option Value) (ψ := fun g v => v = .int .i64 (planO n k o) ∧ GoodP n k g) (L' := fun g => [mpO bm g]) [mpO bm f] [.pt b4 (oC o) 120] (· = bm) rfl rfl rfl (by repeat constructor) (fun x hx => ⟨_, .head _, hx⟩) (fun w' hs => CaF.of tabOk (by kernel_rfl) (plan_ca n k bm b2 b3 b6 b7 b8 hn hk _ o rfl ho w' f (hE.mapC hm hs.chg) (hs.mem (c := mpO bm f) (by repeat constructor)) hg)) ?_
    rintro g' v ⟨rfl, hg'⟩
    (refine ql_ar tabOk rfl rfl rfl rfl (by omega) (by omega) (ql_pure tabOk rfl rfl (q_nil (q_ret ?_))))
    refine q_fin tabOk rfl (by repeat constructor) fun w hs => ?_
    exact ⟨g', ⟨by show Value.int .i64 (1 + (planO n k o : Int)) = _; rw [Int.natCast_add]; rfl, hg'⟩, hs.sp (by repeat constructor)⟩
  | false =>
    have hba : fa o b a = true := by rw [hab] at hd; exact hd
    (refine ql_pure tabOk rfl rfl (ql_gyes rfl (ql_pure tabOk rfl rfl (ql_gyes rfl (ql_pure tabOk rfl rfl (ql_gyes rfl ?_))))))
    refine ql_indexA (len := 8) o_arr rfl rfl rfl (by omega) (by omega) ?_
    (refine ql_gyes rfl ?_)
    refine ql_indexA (len := 8) r_arr rfl rfl rfl (by omega) (by omega) ?_
    (refine ql_gyes rfl ?_)
    refine ql_load1 (v := .bool true) tabOk rfl rfl rfl (fun w hs => by have := o_cell hs (b := b4) (off := 0 + (b : Int).toNat * 8 + (a : Int).toNat * 1) (by repeat constructor) b a (by omega) (by omega) (by omega); rw [hba] at this; exact this) ?_
    (refine ql_pure tabOk rfl rfl (q_nil (q_cond_true rfl (q_seq (q_region ?_)))); refine ql_loadG tabOk rfl rfl rfl (by assumption) (by rfl) ?_; refine ql_loadABa tabOk rfl rfl rfl ?_)
    rw [oC_take]
    refine ql_callF (β := Value → Option Value) (ψ := fun g v => v = .int .i64 (planO n k o) ∧ GoodP n k g) (L' := fun g => [mpO bm g]) [mpO bm f] [.pt b4 (oC o) 120] (· = bm) rfl rfl rfl (by repeat constructor) (fun x hx => ⟨_, .head _, hx⟩) (fun w' hs => CaF.of tabOk (by kernel_rfl) (plan_ca n k bm b2 b3 b6 b7 b8 hn hk _ o rfl ho w' f (hE.mapC hm hs.chg) (hs.mem (c := mpO bm f) (by repeat constructor)) hg)) ?_
    rintro g' v ⟨rfl, hg'⟩
    (refine ql_ar tabOk rfl rfl rfl rfl (by omega) (by omega) (ql_pure tabOk rfl rfl (q_nil (q_ret ?_))))
    refine q_fin tabOk rfl (by repeat constructor) fun w hs => ?_
    exact ⟨g', ⟨by show Value.int .i64 (1 + (planO n k o : Int)) = _; rw [Int.natCast_add]; rfl, hg'⟩, hs.sp (by repeat constructor)⟩
theorem worthA_ca (n k bm b2 b3 b6 b7 b8 o a b : Nat) (hn : n ≤ 8) (hk : k ≤ n) (ho : Ord o) (ha : a < n) (hb : b < n) (hne : a ≠ b) (w : World) (f : Value → Option Value) (hE : PlE w n k bm b2 b3 b6 b7 b8) (hm : MapAt w bm oK eqV f) (hg : GoodP n k f) :
    Ca Tryz.prog 130 [oV o, .int .i64 a, .int .i64 b, .pointer (some ⟨b7, 0, none⟩)] w fun v w' => ∃ f, (v = .int .i64 (worthV n k o a b : Nat) ∧ GoodP n k f) ∧ Sat w (· = bm) [mpO bm f] w' := by
  cases hd : fa o a b || fa o b a with
  | true =>
    rw [worthV_dec hd]
    exact worthD_ca n k bm b2 b3 b6 b7 b8 o a b hn hk ho ha hb hd w f hE hm hg
  | false =>
    obtain ⟨h1, h2⟩ := Bool.or_eq_false_iff.1 hd
    rw [worthV_und h1 h2]
    refine worth_ca n k bm b2 b3 b6 b7 b8 o a b hn ⟨ho, hn, ha, hb, hne, h1, h2⟩ (fun o' ho' => ?_) w f hE hm hg
    rcases ho' with rfl | rfl
    · exact plan_ca n k bm b2 b3 b6 b7 b8 hn hk _ _ rfl (ho.with (by omega) (by omega))
    · exact plan_ca n k bm b2 b3 b6 b7 b8 hn hk _ _ rfl (ho.with (by omega) (by omega))
theorem worthP_ok (w : World) (lo hi : Nat) (l : Lb) (v : Value) (k a b : Nat) (h : RdR w lo hi v l.runs) (hp : PlanOk l k) (ha : a < l.n) (hb : b < l.n) (hne : a ≠ b) : Ca Tryz.prog 19 [.agg (lbC l v).toArray, .int .i64 k, .int .i64 a, .int .i64 b] w fun x w' => x = .tuple #[.int .i64 (worthV l.n k l.ord a b), .int .i64 0] ∧ Chg [] w w' := by
  obtain ⟨n, en, hn', h8, h1⟩ := hp.ok.nat
  have hk := hp.k2
  rw [hn'] at ha hb ⊢
  refine q_of (Sat.nil w M0) Tryz.func19 rfl (by simp [Tryz.ntmps19]) ?_
  (refine q_seq (q_region ?_))
  refine ql_box rfl rfl (fun b4 => ?_)
  rw [agg_cells]
  (refine ql_pure tabOk rfl rfl (ql_pure tabOk rfl rfl (q_nil (q_seq (q_region ?_)))); refine ql_loadABa tabOk rfl rfl rfl ?_; refine ql_pure tabOk rfl rfl ?_)
  refine ql_call (β := Nat) tabOk [] _ M0 rfl rfl rfl rfl (Sp.refl _) (fun _ h => h.elim) (fun w' hs => planned_ok w' lo hi l v k (RdE.keep h hs.chg0) hp) ?_
  rintro bd _ rfl
  dsimp only [List.cons_append, List.nil_append]
  (refine ql_pure tabOk rfl rfl (ql_ext tabOk rfl rfl rfl (ql_ext tabOk rfl rfl rfl (ql_pure tabOk rfl rfl (ql_pure tabOk rfl rfl (q_nil (q_seq (q_block (q_seq (q_region (ql_pure tabOk rfl rfl (ql_neqF tabOk rfl rfl rfl (by omega) ?_))))))))))); refine ql_pure tabOk rfl rfl (q_nil (q_cond_false rfl (q_seq (q_region (ql_pure tabOk rfl rfl (ql_pure tabOk rfl rfl ?_)))))); refine ql_loadBa tabOk rfl rfl rfl ?_; refine ql_ar tabOk rfl rfl rfl rfl (by omega) (by omega) ?_)
  rw [en]
  refine ql_callv (val := .bool true) tabOk rfl rfl rfl rfl (fun w hs => ?_) ?_; exact by have := within_ca a 0 ((n : Int) - 1) w; rw [show inB (a : Int) 0 ((n : Int) - 1) = true from inB_iff.2 (by omega)] at this; exact this
  (refine ql_pure tabOk rfl rfl (ql_pure tabOk rfl rfl (ql_gyes rfl (ql_pure tabOk rfl rfl (ql_gyes rfl (ql_pure tabOk rfl rfl (ql_gyes rfl ?_)))))); refine ql_loadBa tabOk rfl rfl rfl ?_; refine ql_gyes rfl (ql_ar tabOk rfl rfl rfl rfl (by omega) (by omega) (ql_gyes rfl ?_)))
  rw [en]
  refine ql_callv (val := .bool true) tabOk rfl rfl rfl rfl (fun w hs => ?_) ?_; exact by have := within_ca b 0 ((n : Int) - 1) w; rw [show inB (b : Int) 0 ((n : Int) - 1) = true from inB_iff.2 (by omega)] at this; exact this
  (refine ql_gyes rfl ?_; (iterate 3 refine ql_pure tabOk rfl rfl ?_); refine ql_gyes rfl (ql_pure tabOk rfl rfl (ql_gyes rfl (ql_pure tabOk rfl rfl (ql_gyes rfl (ql_eqlF tabOk rfl rfl rfl (by omega) (ql_pure tabOk rfl rfl (ql_pure tabOk rfl rfl (q_nil (q_cond_false rfl (q_skip (q_blk ?_))))))))))); refine q_seq (q_region ?_); (iterate 4 refine ql_pure tabOk rfl rfl ?_); refine ql_loadBa tabOk rfl rfl rfl ?_; refine ql_pure tabOk rfl rfl ?_)
  rw [en]
  refine ql_call (β := Nat × Nat × Nat × Nat × Nat × Nat) tabOk [] _ M0 rfl rfl rfl rfl (Sp.refl _) (fun _ h => h.elim) (fun w' hs => planner_ca w' n k) ?_
  rintro ⟨bm, b2, b3, b6, b7, b8⟩ _ rfl
  dsimp only [List.cons_append, List.nil_append]
  (refine ql_pure tabOk rfl rfl (ql_ext tabOk rfl rfl rfl (ql_ext tabOk rfl rfl rfl (ql_pure tabOk rfl rfl (ql_pure tabOk rfl rfl (q_nil (q_seq (q_region ?_))))))); (iterate 4 refine ql_pure tabOk rfl rfl ?_); refine ql_loadABa tabOk rfl rfl rfl ?_; refine ql_pure tabOk rfl rfl (ql_pure tabOk rfl rfl ?_))
  rw [dk_take]
  refine ql_callF (β := Value → Option Value) (ψ := fun g v => v = .int .i64 (worthV n k l.ord a b : Nat) ∧ GoodP n k g) (L' := fun g => [mpO bm g]) [mpO bm (fun _ => none)] [.pt b2 [.int .i64 n] 3, .pt b3 [.int .i64 k] 3, .pt b6 [.map (some bm)] 184, .pt b7 [plnF b2 b3 b6 b8] 127, .pt b8 [worthF b7] 128] (· = bm) rfl rfl rfl (by repeat constructor) (fun x hx => ⟨_, .head _, hx⟩) (fun w' hs => CaF.of tabOk (by kernel_rfl) (worthA_ca n k bm b2 b3 b6 b7 b8 l.ord a b h8 (by omega) hp.ok.o ha hb hne w' _ ⟨⟨_, hs.blk (b := b2) (by repeat constructor)⟩, ⟨_, hs.blk (b := b3) (by repeat constructor)⟩, ⟨_, hs.blk (b := b6) (by repeat constructor)⟩, ⟨_, hs.blk (b := b7) (by repeat constructor)⟩, ⟨_, hs.blk (b := b8) (by repeat constructor)⟩⟩ (hs.mem (c := mpO bm (fun _ => none)) (by repeat constructor)) (good_nil n k))) ?_
  rintro g' v ⟨rfl, hg'⟩
  (refine ql_pure tabOk rfl rfl (ql_pure tabOk rfl rfl (q_nil (q_ret ?_))))
  refine q_fin tabOk rfl (by repeat constructor) fun w hs => ?_
  exact ⟨rfl, hs.chg0⟩
/-- The pairs as they are asked. -/
def nxPairs (b a : Nat) : List (Nat × Nat) := ((List.range b).flatMap fun y => (List.range y).map fun x => (x, y)) ++ (List.range a).map fun x => (x, b)
theorem nx_succ (b a : Nat) : nxPairs b (a + 1) = nxPairs b a ++ [(a, b)] := by unfold nxPairs; rw [List.range_succ, List.map_append, ← List.append_assoc]; rfl
theorem nx_next (b : Nat) : nxPairs b b = nxPairs (b + 1) 0 := by unfold nxPairs; rw [List.range_succ, List.flatMap_append]; simp
theorem nx_mem {b a x y : Nat} (hab : a ≤ b) (h : (x, y) ∈ nxPairs b a) : x < y := by
  unfold nxPairs at h
  rcases List.mem_append.1 h with h | h
  · obtain ⟨z, _, h2⟩ := List.mem_flatMap.1 h
    obtain ⟨u, h3, h4⟩ := List.mem_map.1 h2
    have := List.mem_range.1 h3
    cases h4
    omega
  · obtain ⟨u, h3, h4⟩ := List.mem_map.1 h
    have := List.mem_range.1 h3
    cases h4
    omega
/-- The first pair that is worth the fewest. -/
def nxV (n k o : Nat) (L : List (Nat × Nat)) : Option (Nat × Nat) := L.find? fun p => decide (worthV n k o p.1 p.2 = planO n k o)
def nxC (p : Option (Nat × Nat)) : List Value := match p with | some p => [.int .i64 p.1, .int .i64 p.2, .int .i64 0] | none => [.int .i64 0, .int .i64 0, .int .i64 0]
theorem nxV_snoc (n k o : Nat) (L : List (Nat × Nat)) (p : Nat × Nat) : nxV n k o (L ++ [p]) = match nxV n k o L with | some q => some q | none => if worthV n k o p.1 p.2 = planO n k o then some p else none := by
  unfold nxV
  rw [List.find?_append]
  cases L.find? fun p => decide (worthV n k o p.1 p.2 = planO n k o) with
  | some q => rfl
  | none =>
    rw [Option.none_or, List.find?_singleton]
    by_cases h : worthV n k o p.1 p.2 = planO n k o
    · rw [if_pos h, if_pos (by simpa using h)]
    · rw [if_neg h, if_neg (by simpa using h)]
set_option maxHeartbeats 2000000 in
theorem next_ok (w : World) (lo hi : Nat) (l : Lb) (v : Value) (k : Nat) (h : RdR w lo hi v l.runs) (hp : PlanOk l k) : Ca Tryz.prog 17 [.agg (lbC l v).toArray, .int .i64 k] w fun x w' => x = .tuple #[.agg (nxC (if planO l.n k l.ord = 0 then none else nxV l.n k l.ord (nxPairs l.n 0))).toArray, .int .i64 (if planO l.n k l.ord = 0 then 6 else 0)] ∧ Chg [] w w' := by
  obtain ⟨n, en, hn', h8, h1⟩ := hp.ok.nat
  have hk := hp.k2
  have h64 : n * n ≤ 64 := Nat.mul_le_mul h8 h8
  rw [hn']
  have hpl := plan_le (k := k) h8 hp.ok.o
  refine q_of (Sat.nil w M0) Tryz.func17 rfl (by simp [Tryz.ntmps17]) ?_
  (refine q_seq (q_region ?_))
  refine ql_box rfl rfl (fun bx => ?_)
  rw [agg_cells]
  skip
  refine ql_alloc zero40 rfl (fun b4 => ?_)
  (refine ql_pure tabOk rfl rfl (q_nil (q_seq (q_region ?_))); refine ql_loadABa tabOk rfl rfl rfl ?_; refine ql_pure tabOk rfl rfl ?_)
  refine ql_call (β := Nat) tabOk [] _ M0 rfl rfl rfl rfl (Sp.refl _) (fun _ h => h.elim) (fun w' hs => planned_ok w' lo hi l v k (RdE.keep h hs.chg0) hp) ?_
  rintro bd _ rfl
  dsimp only [List.cons_append, List.nil_append]
  (refine ql_pure tabOk rfl rfl (ql_ext tabOk rfl rfl rfl (ql_ext tabOk rfl rfl rfl (ql_pure tabOk rfl rfl (ql_pure tabOk rfl rfl (q_nil (q_seq (q_seq (q_region (ql_pure tabOk rfl rfl (ql_neqF tabOk rfl rfl rfl (by omega) (q_nil ?_))))))))))); refine q_cond_false rfl (q_skip (q_seq (q_region ?_))); (iterate 4 refine ql_pure tabOk rfl rfl ?_); refine ql_loadBa tabOk rfl rfl rfl ?_; refine ql_pure tabOk rfl rfl ?_)
  rw [en]
  refine ql_call (β := Nat × Nat × Nat × Nat × Nat × Nat) tabOk [] _ M0 rfl rfl rfl rfl (Sp.refl _) (fun _ h => h.elim) (fun w' hs => planner_ca w' n k) ?_
  rintro ⟨bm, b2, b3, b6, b7, b8⟩ _ rfl
  dsimp only [List.cons_append, List.nil_append]
  (refine ql_pure tabOk rfl rfl (ql_ext tabOk rfl rfl rfl (ql_ext tabOk rfl rfl rfl (ql_pure tabOk rfl rfl (ql_pure tabOk rfl rfl (q_nil (q_seq (q_region ?_))))))); (iterate 4 refine ql_pure tabOk rfl rfl ?_); refine ql_loadABa tabOk rfl rfl rfl ?_)
  rw [dk_take]
  refine ql_callF (β := Value → Option Value) (ψ := fun g v => v = .int .i64 (planO n k l.ord) ∧ GoodP n k g) (L' := fun g => [mpO bm g]) [mpO bm (fun _ => none)] [.pt b2 [.int .i64 n] 3, .pt b3 [.int .i64 k] 3, .pt b6 [.map (some bm)] 184, .pt b7 [plnF b2 b3 b6 b8] 127, .pt b8 [worthF b7] 128, .pt bd (dkC l v l.ord) 122, .pt b4 [.int .i64 0, .int .i64 0, .int .i64 0] 40] (· = bm) rfl rfl rfl (by repeat constructor) (fun x hx => ⟨_, .head _, hx⟩) (fun w' hs => CaF.of tabOk (by kernel_rfl) (plan_ca n k bm b2 b3 b6 b7 b8 h8 (by omega) _ l.ord rfl hp.ok.o w' _ ⟨⟨_, hs.blk (b := b2) (by repeat constructor)⟩, ⟨_, hs.blk (b := b3) (by repeat constructor)⟩, ⟨_, hs.blk (b := b6) (by repeat constructor)⟩, ⟨_, hs.blk (b := b7) (by repeat constructor)⟩, ⟨_, hs.blk (b := b8) (by repeat constructor)⟩⟩ (hs.mem (c := mpO bm (fun _ => none)) (by repeat constructor)) (good_nil n k))) ?_
  rintro g' v' ⟨rfl, hg'⟩
  dsimp only [List.cons_append, List.nil_append]
  by_cases h0 : planO n k l.ord = 0
  · rw [if_pos h0, if_pos h0]
    (refine ql_pure tabOk rfl rfl (q_nil (q_seq (q_seq (q_region (ql_pure tabOk rfl rfl (ql_eqlT tabOk rfl rfl rfl (by omega) (q_nil (q_cond_true rfl (q_seq (q_region ?_)))))))))))
    refine ql_mk #[.int .i64 0, .int .i64 0, .int .i64 0] rfl (by kernel_rfl) rfl ?_
    (refine ql_setA tabOk rfl rfl rfl rfl rfl (by repeat constructor) rfl ?_; refine ql_pure tabOk rfl rfl (q_nil (q_ret ?_)))
    refine q_fin tabOk rfl (by repeat constructor) fun w hs => ?_
    exact ⟨rfl, hs.chg0⟩
  · rw [if_neg h0, if_neg h0]
    (refine ql_pure tabOk rfl rfl (q_nil (q_seq (q_seq (q_region (ql_pure tabOk rfl rfl (ql_eqlF tabOk rfl rfl rfl (by omega) (q_nil (q_cond_false rfl (q_skip (q_seq (q_region ?_))))))))))))
    refine ql_alloc zero40 rfl (fun b11 => ?_)
    (refine q_nil (q_seq (q_seq (q_region ?_))); (iterate 4 refine ql_pure tabOk rfl rfl ?_); refine ql_loadBa tabOk rfl rfl rfl ?_; refine ql_pure tabOk rfl rfl (q_nil (q_block ?_)))
    rw [en]
    refine q_loop (σ := Nat × (Value → Option Value)) (fun s => s.1 ≤ n ∧ GoodP n k s.2) (fun s => n - s.1) (fun s => [(4, .pointer (some ⟨b4, 0, none⟩)), (6, .pointer (some ⟨bd, 0, none⟩)), (9, worthF b7), (10, .int .i64 (planO n k l.ord)), (11, .pointer (some ⟨b11, 0, none⟩)), (47, .int .i64 n), (48, .int .i64 s.1)]) (fun s => [mpO bm s.2, .pt b11 (nxC (nxV n k l.ord (nxPairs s.1 0))) 40, .pt b2 [.int .i64 n] 3, .pt b3 [.int .i64 k] 3, .pt b6 [.map (some bm)] 184, .pt b7 [plnF b2 b3 b6 b8] 127, .pt b8 [worthF b7] 128, .pt bd (dkC l v l.ord) 122, .pt b4 [.int .i64 0, .int .i64 0, .int .i64 0] 40]) (0, g') ⟨by simp, hg'⟩ ⟨rfl, rfl, rfl, rfl, rfl, rfl, rfl, trivial⟩ (by repeat constructor) ?_
    clear hg'
    rintro ⟨y, g⟩ ⟨hy, hg⟩ K hK
    dsimp only at hy hg ⊢
    (refine q_seq (q_region (ql_pure tabOk rfl rfl (q_nil (q_seq ?_)))))
    refine q_if rfl (fun hc => ?_) (fun hc => ?_)
    · have hy2 : y < n := by omega
      clear hc
      (refine q_skip (q_seq (q_block (q_seq (q_region (ql_pure tabOk rfl rfl (ql_pure tabOk rfl rfl (q_nil (q_seq (q_region (ql_pure tabOk rfl rfl (ql_pure tabOk rfl rfl ?_))))))))))); refine q_nil (q_block ?_))
      refine q_loop (σ := Nat × (Value → Option Value)) (fun s => s.1 ≤ y ∧ GoodP n k s.2) (fun s => y - s.1) (fun s => [(4, .pointer (some ⟨b4, 0, none⟩)), (6, .pointer (some ⟨bd, 0, none⟩)), (9, worthF b7), (10, .int .i64 (planO n k l.ord)), (11, .pointer (some ⟨b11, 0, none⟩)), (12, .int .i64 y), (47, .int .i64 n), (48, .int .i64 y), (51, .int .i64 y), (52, .int .i64 s.1)]) (fun s => [mpO bm s.2, .pt b11 (nxC (nxV n k l.ord (nxPairs y s.1))) 40, .pt b2 [.int .i64 n] 3, .pt b3 [.int .i64 k] 3, .pt b6 [.map (some bm)] 184, .pt b7 [plnF b2 b3 b6 b8] 127, .pt b8 [worthF b7] 128, .pt bd (dkC l v l.ord) 122, .pt b4 [.int .i64 0, .int .i64 0, .int .i64 0] 40]) (0, g) ⟨by simp, hg⟩ ⟨rfl, rfl, rfl, rfl, rfl, rfl, rfl, rfl, rfl, rfl, trivial⟩ (by repeat constructor) ?_
      clear hg
      rintro ⟨x, g⟩ ⟨hx, hg⟩ K2 hK2
      dsimp only at hx hg ⊢
      (refine q_seq (q_region (ql_pure tabOk rfl rfl (q_nil (q_seq ?_)))))
      refine q_if rfl (fun hc => ?_) (fun hc => ?_)
      · have hx2 : x < y := by omega
        clear hc
        have hsn := nxV_snoc n k l.ord (nxPairs y x) (x, y)
        rw [← nx_succ] at hsn
        cases hnx : nxV n k l.ord (nxPairs y x) with
        | some q =>
          obtain ⟨q1, q2⟩ := q
          rw [hnx] at hsn
          dsimp only at hsn
          have hq2 : 1 ≤ q2 := by have := nx_mem hx (List.mem_of_find?_eq_some hnx); omega
          show Q _ _ _ _ _ _ _ _ (_ :: .pt b11 [.int .i64 q1, .int .i64 q2, .int .i64 0] 40 :: _)
          (refine q_skip (q_seq (q_block (q_seq (q_region (ql_pure tabOk rfl rfl (ql_pure tabOk rfl rfl (q_nil (q_seq (q_region ?_))))))))); refine ql_loadABa tabOk rfl rfl rfl ?_)
          refine ql_mk #[.int .i64 0, .int .i64 0, .int .i64 0] rfl (by kernel_rfl) rfl ?_
          skip
          refine ql_eqF [some .i64, some .i64, some .i64] run_flat rfl rfl rfl rfl rfl ?_
          rw [show eqL (List.take 3 (List.drop 0 [Value.int .i64 q1, .int .i64 q2, .int .i64 0])) [Value.int .i64 0, .int .i64 0, .int .i64 0] = false from by
            show eqL [Value.int .i64 q1, .int .i64 q2, .int .i64 0] [Value.int .i64 0, .int .i64 0, .int .i64 0] = false
            simp only [eqL]
            rw [decide_eq_false (show ¬ ((q2 : Int) = 0) by omega)]
            simp]
          (refine ql_pure tabOk rfl rfl ?_; (iterate 10 refine ql_gno rfl rfl rfl ?_); refine ql_pure tabOk rfl rfl (q_nil (q_cond_false rfl (q_skip (q_blk (q_region (ql_ar tabOk rfl rfl rfl rfl (by omega) (by omega) (ql_pure tabOk rfl rfl (q_nil ?_)))))))))
          exact hK2 (x + 1, g) _ _ ⟨by simp only; omega, hg⟩ (by simp only; omega) ⟨rfl, rfl, rfl, rfl, rfl, rfl, rfl, rfl, rfl, rfl, trivial⟩ (by dsimp only; rw [hsn]; repeat constructor)
        | none =>
          rw [hnx] at hsn
          dsimp only at hsn
          show Q _ _ _ _ _ _ _ _ (_ :: .pt b11 [.int .i64 0, .int .i64 0, .int .i64 0] 40 :: _)
          (refine q_skip (q_seq (q_block (q_seq (q_region (ql_pure tabOk rfl rfl (ql_pure tabOk rfl rfl (q_nil (q_seq (q_region ?_))))))))); refine ql_loadABa tabOk rfl rfl rfl ?_)
          refine ql_mk #[.int .i64 0, .int .i64 0, .int .i64 0] rfl (by kernel_rfl) rfl ?_
          skip
          refine ql_eqF [some .i64, some .i64, some .i64] run_flat rfl rfl rfl rfl rfl ?_
          rw [show eqL (List.take 3 (List.drop 0 [Value.int .i64 0, .int .i64 0, .int .i64 0])) [Value.int .i64 0, .int .i64 0, .int .i64 0] = true from rfl]
          (refine ql_pure tabOk rfl rfl (ql_gyes rfl (ql_pure tabOk rfl rfl (ql_gyes rfl (ql_pure tabOk rfl rfl (ql_gyes rfl (ql_pure tabOk rfl rfl (ql_gyes rfl (ql_pure tabOk rfl rfl (ql_gyes rfl ?_))))))))); refine ql_loadABa tabOk rfl rfl rfl ?_; refine ql_gyes rfl (ql_pure tabOk rfl rfl (ql_gyes rfl (ql_pure tabOk rfl rfl (ql_gyes rfl ?_)))))
          rw [dk_take]
          refine ql_callF (β := Value → Option Value) (ψ := fun g v => v = .int .i64 (worthV n k l.ord x y : Nat) ∧ GoodP n k g) (L' := fun g => [mpO bm g]) [mpO bm g] [.pt b11 [.int .i64 0, .int .i64 0, .int .i64 0] 40, .pt b2 [.int .i64 n] 3, .pt b3 [.int .i64 k] 3, .pt b6 [.map (some bm)] 184, .pt b7 [plnF b2 b3 b6 b8] 127, .pt b8 [worthF b7] 128, .pt bd (dkC l v l.ord) 122, .pt b4 [.int .i64 0, .int .i64 0, .int .i64 0] 40] (· = bm) rfl rfl rfl (by repeat constructor) (fun x hx => ⟨_, .head _, hx⟩) (fun w' hs => CaF.of tabOk (by kernel_rfl) (worthA_ca n k bm b2 b3 b6 b7 b8 l.ord x y h8 (by omega) hp.ok.o (by omega) (by omega) (by omega) w' _ ⟨⟨_, hs.blk (b := b2) (by repeat constructor)⟩, ⟨_, hs.blk (b := b3) (by repeat constructor)⟩, ⟨_, hs.blk (b := b6) (by repeat constructor)⟩, ⟨_, hs.blk (b := b7) (by repeat constructor)⟩, ⟨_, hs.blk (b := b8) (by repeat constructor)⟩⟩ (hs.mem (c := mpO bm g) (by repeat constructor)) hg)) ?_
          rintro g2 v2 ⟨rfl, hg2⟩
          dsimp only [List.cons_append, List.nil_append]
          by_cases hwv : worthV n k l.ord x y = planO n k l.ord
          · rw [if_pos hwv] at hsn
            (refine ql_gyes rfl (ql_pure tabOk rfl rfl (ql_gyes rfl (ql_eqlT tabOk rfl rfl rfl (by omega) (ql_pure tabOk rfl rfl (q_nil (q_cond_true rfl (q_region (ql_pure tabOk rfl rfl (ql_pure tabOk rfl rfl ?_))))))))))
            refine ql_mk #[.int .i64 x, .int .i64 y, .int .i64 0] rfl (by kernel_rfl) rfl ?_
            (refine ql_setA tabOk rfl rfl rfl rfl rfl (by repeat constructor) rfl ?_; refine q_nil (q_blk (q_region (ql_ar tabOk rfl rfl rfl rfl (by omega) (by omega) (ql_pure tabOk rfl rfl (q_nil ?_))))))
            exact hK2 (x + 1, g2) _ _ ⟨by simp only; omega, hg2⟩ (by simp only; omega) ⟨rfl, rfl, rfl, rfl, rfl, rfl, rfl, rfl, rfl, rfl, trivial⟩ (by dsimp only; rw [hsn]; repeat constructor)
          · rw [if_neg hwv] at hsn
            (refine ql_gyes rfl (ql_pure tabOk rfl rfl (ql_gyes rfl (ql_eqlF tabOk rfl rfl rfl (by omega) (ql_pure tabOk rfl rfl (q_nil (q_cond_false rfl (q_skip (q_blk (q_region (ql_ar tabOk rfl rfl rfl rfl (by omega) (by omega) (ql_pure tabOk rfl rfl ?_))))))))))); refine q_nil ?_)
            exact hK2 (x + 1, g2) _ _ ⟨by simp only; omega, hg2⟩ (by simp only; omega) ⟨rfl, rfl, rfl, rfl, rfl, rfl, rfl, rfl, rfl, rfl, trivial⟩ (by dsimp only; rw [hsn]; repeat constructor)
      · obtain rfl : x = y := by omega
        (refine q_exit _ rfl (q_blk (q_region (ql_ar tabOk rfl rfl rfl rfl (by omega) (by omega) (ql_pure tabOk rfl rfl (q_nil ?_))))))
        exact hK (x + 1, g) _ _ ⟨by simp only; omega, hg⟩ (by simp only; omega) ⟨rfl, rfl, rfl, rfl, rfl, rfl, rfl, trivial⟩ (by dsimp only; rw [← nx_next]; repeat constructor)
    · obtain rfl : y = n := by omega
      obtain ⟨nc, hnc⟩ : ∃ nc, nc = nxC (nxV y k l.ord (nxPairs y 0)) := ⟨_, rfl⟩
      have hn3 : ∃ c1 c2 c3 : Int, nc = [.int .i64 c1, .int .i64 c2, .int .i64 c3] := by
        rw [hnc]
        cases nxV y k l.ord (nxPairs y 0) with
        | some q => exact ⟨_, _, _, rfl⟩
        | none => exact ⟨_, _, _, rfl⟩
      rw [← hnc]
      obtain ⟨c1, c2, c3, rfl⟩ := hn3
      (refine q_exit _ rfl (q_seq (q_region ?_)); refine ql_loadABa tabOk rfl rfl rfl ?_; refine ql_setA tabOk rfl rfl rfl rfl rfl (by repeat constructor) rfl ?_; refine ql_pure tabOk rfl rfl (q_nil (q_ret ?_)))
      refine q_fin tabOk rfl (by repeat constructor) fun w hs => ?_
      exact ⟨rfl, hs.chg0⟩
end Go.Proofs.YtcmpdmobmbbplaaGreat

/- Walks: the skis, the fastest one first. -/
namespace Go.Proofs.YtcmpdmobmbbplaaGreat
set_option maxRecDepth 4000
open Go Go.Eng

end Go.Proofs.YtcmpdmobmbbplaaGreat

/- The plain law of SkiPlanned: following the plan; parts of lists. -/
namespace Go.Proofs.YtcmpdmobmbbplaaGreat
set_option maxRecDepth 4000
open Go Go.Eng
theorem nx_iff {n x y : Nat} : (x, y) ∈ nxPairs n 0 ↔ x < y ∧ y < n := by
  unfold nxPairs
  simp only [List.range_zero, List.map_nil, List.append_nil, List.mem_flatMap, List.mem_map, List.mem_range, Prod.mk.injEq]
  constructor
  · rintro ⟨z, h1, u, h2, rfl, rfl⟩
    exact ⟨h2, h1⟩
  · rintro ⟨h1, h2⟩
    exact ⟨y, h2, x, h1, rfl, rfl⟩
/-- The next run: two skis of which it is not known which one is faster; one run fewer is enough after it. -/
theorem next_says {n k o : Nat} (hn : n ≤ 8) (h1 : 1 ≤ n) (hk : k ≤ n) (ho : Ord o) (hc : NoC o n) (h0 : planO n k o ≠ 0) : ∃ a b, nxV n k o (nxPairs n 0) = some (a, b) ∧ a < b ∧ b < n ∧ Und o n a b ∧ max (planO n k (withO o a b)) (planO n k (withO o b a)) + 1 = planO n k o := by
  obtain ⟨p, hp, hu, hw⟩ := plan_at hn h1 hk ho hc (fun hkn => h0 ((plan_zero hn h1 hk ho hc).2 hkn))
  obtain ⟨p1, p2⟩ := p
  obtain ⟨h2, h3⟩ := pairs_iff.1 hp
  obtain ⟨h4, h5⟩ := und_iff.1 hu
  dsimp only at h4 h5 hw
  cases hf : nxV n k o (nxPairs n 0) with
  | none =>
    exfalso
    have := List.find?_eq_none.1 hf (p2, p1) (nx_iff.2 ⟨h3, h2⟩)
    refine this (decide_eq_true ?_)
    rw [worthV_und h5 h4, worth_comm, hw]
  | some q =>
    obtain ⟨a, b⟩ := q
    have h6 : worthV n k o a b = planO n k o := by
      unfold nxV at hf
      have h7 := List.find?_some hf
      dsimp only at h7
      exact of_decide_eq_true h7
    obtain ⟨h7, h8⟩ := nx_iff.1 (List.mem_of_find?_eq_some (show (nxPairs n 0).find? (fun p => decide (worthV n k o p.1 p.2 = planO n k o)) = some (a, b) from hf))
    cases hd : fa o a b || fa o b a with
    | true =>
      rw [worthV_dec hd] at h6
      omega
    | false =>
      obtain ⟨h9, h10⟩ := Bool.or_eq_false_iff.1 hd
      rw [worthV_und h9 h10] at h6
      unfold worthO at h6
      exact ⟨a, b, rfl, h7, h8, ⟨ho, hn, by omega, h8, by omega, h9, h10⟩, by omega⟩
/-- What the skis that are run one after the other show. -/
structure Goes (l : Lb) (N k : Nat) (L : List Nat) (r : Nat) (m : Lb) : Prop where
  ok : m.Ok
  sk : m.skis = l.skis
  err : m.err = l.err
  len : m.runs.length ≤ l.runs.length + r
  lin : LinO m.ord l.n L
  few : planO l.n k m.ord + r ≤ N
theorem Goes.n {l m : Lb} {N k r : Nat} {L : List Nat} (h : Goes l N k L r m) : m.n = l.n := by unfold Lb.n; rw [h.sk]
theorem Goes.noC {l m : Lb} {N k r : Nat} {L : List Nat} (h : Goes l N k L r m) (hl : l.Ok) : NoC m.ord m.n := by rw [h.n]; exact h.lin.noC hl.n8
theorem Goes.next {l m : Lb} {N k r : Nat} {L : List Nat} (h : Goes l N k L r m) (hl : l.Ok) (hr : l.runs.length + r < 40) {x y : Nat} (hx : x < l.n) (hy : y < l.n) (hne : x ≠ y) (hi : L.idxOf x < L.idxOf y) (hp : planO l.n k (withO m.ord x y) + 1 ≤ planO l.n k m.ord) : Goes l N k L (r + 1) (m.add ⟨x, y, m.err + 1⟩) := by
  have h2 := h.len
  have h3 := h.few
  have ho := furt_ord h.ok x y
  refine ⟨furt_ok h.ok (by rw [h.n]; exact hx) (by rw [h.n]; exact hy) hne (by omega), h.sk, h.err, ?_, ?_, ?_⟩
  · show (m.runs ++ [_]).length ≤ _
    rw [List.length_append, List.length_singleton]
    omega
  · rw [ho]
    exact h.lin.with hl.n8 hx hy hi
  · rw [ho]
    omega
/-- Where a part begins. -/
def toA (a : Option Addr) (c : Nat) : Option Addr := if c = 0 then a else a.map (·.add 0)
section
variable {P : Program} {ro : Cx} {n : Nat} {F : Fin} {w0 : World} {M : Nat → Prop} {ks : List It} {ops : Array Oper} {rest : List Oper} {e : Env} {H Hq : List Ck}
end
end Go.Proofs.YtcmpdmobmbbplaaGreat

/- Walks: the bag. -/
namespace Go.Proofs.YtcmpdmobmbbplaaGreat
set_option maxRecDepth 4000
open Go Go.Eng

abbrev bagV (b2 b6 b8 : Nat) : Value := .func (.func 149) #[] #[.pointer (some ⟨b2, 0, none⟩), .pointer (some ⟨b6, 0, none⟩), .pointer (some ⟨b8, 0, none⟩)]
/-- The variables of the search for a bag. -/
structure BagE (w : World) (b2 b6 b8 : Nat) (l R : List (List Int)) (most : Int) : Prop where
  h2 : ∃ t a c lo hi, Blk w b2 [.slice a l.length c] t ∧ RdII w lo hi (.slice a l.length c) l
  h6 : ∃ t a c lo hi, Blk w b6 [.slice a R.length c] t ∧ RdW w lo hi (.slice a R.length c) most R
  h8 : ∃ t, Blk w b8 [bagV b2 b6 b8] t
theorem BagE.keep {w w' : World} {b2 b6 b8 : Nat} {l R : List (List Int)} {most : Int} (h : BagE w b2 b6 b8 l R most) (c : Chg [] w w') : BagE w' b2 b6 b8 l R most := by
  obtain ⟨t, a, c2, lo, hi, h1, h2⟩ := h.h2
  obtain ⟨t', a', c2', lo', hi', h1', h2'⟩ := h.h6
  obtain ⟨t8, h8⟩ := h.h8
  exact ⟨⟨t, a, c2, lo, hi, h1.keep c, RdII.keep h2 c⟩, ⟨t', a', c2', lo', hi', h1'.keep c, h2'.keep c⟩, ⟨t8, h8.keep c⟩⟩
def tK31_cfbf5ab : OT := .alt (chainT [1, 2, 3, 4, 5, 0, 6, 7, 8, 9] (.nil)) (chainT [3, 4, 1, 2, 5, 0, 6, 7, 8, 9] (.nil))
end Go.Proofs.YtcmpdmobmbbplaaGreat

/- The plain law of SkiBagged: breaks that are tried. -/
namespace Go.Proofs.YtcmpdmobmbbplaaGreat
set_option maxRecDepth 4000

theorem Inc.up {m : Nat} {ch : List Nat} (h : Inc m ch) : Inc (m + 1) ch := ⟨h.1, fun x hx => by have := h.2 x hx; omega⟩
theorem Inc.push {m : Nat} {ch : List Nat} (h : Inc m ch) : Inc (m + 1) (ch ++ [m]) := by
  refine ⟨List.pairwise_append.2 ⟨h.1, List.pairwise_singleton _ _, fun x hx y hy => ?_⟩, fun x hx => ?_⟩
  · rw [List.mem_singleton.1 hy]
    exact h.2 x hx
  · rcases List.mem_append.1 hx with h1 | h1
    · have := h.2 x h1; omega
    · rw [List.mem_singleton.1 h1]; omega
end Go.Proofs.YtcmpdmobmbbplaaGreat

/- Walks: a coin; whether waxes have a good one for each snow. -/
namespace Go.Proofs.YtcmpdmobmbbplaaGreat
set_option maxRecDepth 4000
open Go Go.Eng

/-- The variables of the law's own search. -/
structure CovE (w : World) (b11 b12 b13 : Nat) (R : List (List Int)) (most : Int) (n : Nat) : Prop where
  h1 : ∃ t, Blk w b11 [.int .i64 n] t
  h2 : ∃ t, Blk w b12 [.int .i64 most] t
  h3 : ∃ t a c lo hi, Blk w b13 [.slice a R.length c] t ∧ RdII w lo hi (.slice a R.length c) R
theorem CovE.keep {w w' : World} {b11 b12 b13 n : Nat} {R : List (List Int)} {most : Int} (h : CovE w b11 b12 b13 R most n) (c : Chg [] w w') : CovE w' b11 b12 b13 R most n := by
  obtain ⟨t1, h1⟩ := h.h1
  obtain ⟨t2, h2⟩ := h.h2
  obtain ⟨t3, a, c2, lo, hi, h3, h4⟩ := h.h3
  exact ⟨⟨t1, h1.keep c⟩, ⟨t2, h2.keep c⟩, ⟨t3, a, c2, lo, hi, h3.keep c, RdII.keep h4 c⟩⟩
end Go.Proofs.YtcmpdmobmbbplaaGreat

/- SkiContradicted. -/
namespace Go.Proofs.YtcmpdmobmbbplaaGreat
set_option maxRecDepth 4000
open Go Go.Eng
def ordN (l : Lb) : Nat := if agreedV l = 0 then cnt l.ord l.n (2 ^ l.n - 1) else 0
/-- The lead of a run is turned. -/
def flipR (r : List Rn) (i : Nat) : List Rn := r.set i ⟨(r.getD i ⟨0, 0, 0⟩).a, (r.getD i ⟨0, 0, 0⟩).b, -(r.getD i ⟨0, 0, 0⟩).lead⟩
def smB (l : Lb) (c : List Int) (k : Nat) : Bool := (List.range k).any fun s => decide ((chainV l s s c).2 = 0) && (chainV l s s c).1
end Go.Proofs.YtcmpdmobmbbplaaGreat

/- Walks: shuffles of a new deck; places and plans of any lab; what skis and runs in another order say. -/
namespace Go.Proofs.YtcmpdmobmbbplaaGreat
set_option maxRecDepth 4000
open Go Go.Eng
def plA (l : Lb) : List (Int × Int) := if agreedV l = 0 then plC l l.ord l.n else []
theorem fewestA_ca (w : World) (lo hi : Nat) (l : Lb) (v : Value) (k : Int) (h : RdR w lo hi v l.runs) (hlen : l.runs.length ≤ maxLen) : Ca Tryz.prog 15 [.agg (lbC l v).toArray, .int .i64 k] w fun x w' => x = .tuple #[.int .i64 (fewestV l k).1, .int .i64 (fewestV l k).2] ∧ Chg [] w w' := by
  by_cases h0 : plannedV l k = 0
  · have hp := planned_iff.1 h0
    obtain ⟨n, rfl⟩ := Int.eq_ofNat_of_zero_le (show 0 ≤ k by have := hp.k1; omega)
    have := fewest_ok w lo hi l v n h hp
    unfold fewestV
    rw [if_neg (by rw [h0]; simp), Int.toNat_natCast]
    exact this
  · have := fewest_no w lo hi l v k h hlen h0
    unfold fewestV
    rw [if_pos h0]
    exact this
section
variable {l m : Lb} {t u : Nat → Nat} {σ : List Nat}
end
end Go.Proofs.YtcmpdmobmbbplaaGreat

/- The walk of SkiOrders. -/
namespace Go.Proofs.YtcmpdmobmbbplaaGreat
set_option maxRecDepth 4000
open Go Go.Eng
def greatB (l : Lb) (most : Int) : Bool := (decide (most < l.skis) && decide (l.skis ≤ 8)) || decide (45 < l.runs.length)
theorem great_ca (w : World) (lo hi : Nat) (l : Lb) (v : Value) (most : Int) (h : RdR w lo hi v l.runs) (hlen : l.runs.length ≤ maxLen) : Ca Tryz.prog 9 [.agg (lbC l v).toArray, .int .i64 most] w fun x w' => x = .bool (greatB l most && true) ∧ Chg [] w w' := by
  obtain ⟨va, vc, rfl, hsv⟩ := RdR.outI h
  refine q_of (Sat.nil w M0) Tryz.func9 rfl (by simp [Tryz.ntmps9]) ?_
  (refine q_seq (q_region ?_))
  refine ql_box rfl rfl (fun b2 => ?_)
  rw [agg_cells]
  unfold greatB
  by_cases h1 : most < l.skis
  · by_cases h2 : l.skis ≤ 8
    · (refine ql_pure tabOk rfl rfl (q_nil (q_seq (q_region (ql_pure tabOk rfl rfl ?_)))); refine ql_loadBa tabOk rfl rfl rfl ?_; refine ql_pure tabOk rfl rfl (ql_gtrT tabOk rfl rfl rfl (by omega) (ql_pure tabOk rfl rfl (ql_gyes rfl (ql_pure tabOk rfl rfl (ql_gyes rfl ?_))))); refine ql_loadBa tabOk rfl rfl rfl ?_; refine ql_gyes rfl (ql_leqT tabOk rfl rfl rfl (by omega) (ql_pure tabOk rfl rfl (ql_pure tabOk rfl rfl ?_))); (iterate 4 refine ql_gno rfl rfl rfl ?_); refine ql_pure tabOk rfl rfl (ql_pure tabOk rfl rfl (q_nil (q_ret ?_))))
      refine q_fin tabOk rfl (by repeat constructor) fun w hs => ?_
      exact ⟨by rw [decide_eq_true h1, decide_eq_true h2]; rfl, hs.chg0⟩
    · by_cases h3 : 45 < l.runs.length
      · (refine ql_pure tabOk rfl rfl (q_nil (q_seq (q_region (ql_pure tabOk rfl rfl ?_)))); refine ql_loadBa tabOk rfl rfl rfl ?_; refine ql_pure tabOk rfl rfl (ql_gtrT tabOk rfl rfl rfl (by omega) (ql_pure tabOk rfl rfl (ql_gyes rfl (ql_pure tabOk rfl rfl (ql_gyes rfl ?_))))); refine ql_loadBa tabOk rfl rfl rfl ?_; refine ql_gyes rfl (ql_leqF tabOk rfl rfl rfl (by omega) (ql_pure tabOk rfl rfl (ql_pure tabOk rfl rfl (ql_gyes rfl (ql_pure tabOk rfl rfl (ql_gyes rfl ?_)))))); refine ql_loadBa tabOk rfl rfl rfl ?_; refine ql_gyes rfl (ql_pure tabOk rfl rfl (ql_gyes rfl (ql_gtrT tabOk rfl rfl rfl (by omega) (ql_pure tabOk rfl rfl (ql_pure tabOk rfl rfl (q_nil (q_ret ?_))))))))
        refine q_fin tabOk rfl (by repeat constructor) fun w hs => ?_
        exact ⟨by rw [decide_eq_true h1, decide_eq_false h2, decide_eq_true h3]; rfl, hs.chg0⟩
      · (refine ql_pure tabOk rfl rfl (q_nil (q_seq (q_region (ql_pure tabOk rfl rfl ?_)))); refine ql_loadBa tabOk rfl rfl rfl ?_; refine ql_pure tabOk rfl rfl (ql_gtrT tabOk rfl rfl rfl (by omega) (ql_pure tabOk rfl rfl (ql_gyes rfl (ql_pure tabOk rfl rfl (ql_gyes rfl ?_))))); refine ql_loadBa tabOk rfl rfl rfl ?_; refine ql_gyes rfl (ql_leqF tabOk rfl rfl rfl (by omega) (ql_pure tabOk rfl rfl (ql_pure tabOk rfl rfl (ql_gyes rfl (ql_pure tabOk rfl rfl (ql_gyes rfl ?_)))))); refine ql_loadBa tabOk rfl rfl rfl ?_; refine ql_gyes rfl (ql_pure tabOk rfl rfl (ql_gyes rfl (ql_gtrF tabOk rfl rfl rfl (by omega) (ql_pure tabOk rfl rfl (ql_pure tabOk rfl rfl (q_nil (q_ret ?_))))))))
        refine q_fin tabOk rfl (by repeat constructor) fun w hs => ?_
        exact ⟨by rw [decide_eq_true h1, decide_eq_false h2, decide_eq_false h3]; rfl, hs.chg0⟩
  · by_cases h3 : 45 < l.runs.length
    · (refine ql_pure tabOk rfl rfl (q_nil (q_seq (q_region (ql_pure tabOk rfl rfl ?_)))); refine ql_loadBa tabOk rfl rfl rfl ?_; refine ql_pure tabOk rfl rfl (ql_gtrF tabOk rfl rfl rfl (by omega) (ql_pure tabOk rfl rfl ?_)); (iterate 3 refine ql_gno rfl rfl rfl ?_); refine ql_pure tabOk rfl rfl (ql_pure tabOk rfl rfl (ql_gyes rfl (ql_pure tabOk rfl rfl (ql_gyes rfl ?_)))); refine ql_loadBa tabOk rfl rfl rfl ?_; refine ql_gyes rfl (ql_pure tabOk rfl rfl (ql_gyes rfl (ql_gtrT tabOk rfl rfl rfl (by omega) (ql_pure tabOk rfl rfl (ql_pure tabOk rfl rfl (q_nil (q_ret ?_))))))))
      refine q_fin tabOk rfl (by repeat constructor) fun w hs => ?_
      exact ⟨by rw [decide_eq_false h1, decide_eq_true h3]; rfl, hs.chg0⟩
    · (refine ql_pure tabOk rfl rfl (q_nil (q_seq (q_region (ql_pure tabOk rfl rfl ?_)))); refine ql_loadBa tabOk rfl rfl rfl ?_; refine ql_pure tabOk rfl rfl (ql_gtrF tabOk rfl rfl rfl (by omega) (ql_pure tabOk rfl rfl ?_)); (iterate 3 refine ql_gno rfl rfl rfl ?_); refine ql_pure tabOk rfl rfl (ql_pure tabOk rfl rfl (ql_gyes rfl (ql_pure tabOk rfl rfl (ql_gyes rfl ?_)))); refine ql_loadBa tabOk rfl rfl rfl ?_; refine ql_gyes rfl (ql_pure tabOk rfl rfl (ql_gyes rfl (ql_gtrF tabOk rfl rfl rfl (by omega) (ql_pure tabOk rfl rfl (ql_pure tabOk rfl rfl (q_nil (q_ret ?_))))))))
      refine q_fin tabOk rfl (by repeat constructor) fun w hs => ?_
      exact ⟨by rw [decide_eq_false h1, decide_eq_false h3]; rfl, hs.chg0⟩
def firA (l : Lb) : List Nat := if agreedV l = 0 then (firF l.ord l.n l.n).1 else []
def tE20_2fe5332 : OT := chainT [6, 7] (.nil)
def tE20_33bdd6c : OT := chainT [5] (tE20_2fe5332)
def tE20_c754af7 : OT := chainT [4] (tE20_2fe5332)
def tE20_33adb0d : OT := .alt (chainT [4] (tE20_33bdd6c)) (chainT [5] (tE20_c754af7))
def tE20_8587a70 : OT := chainT [2, 3] (tE20_2fe5332)
def tE20_51e9c74 : OT := .alt (chainT [2, 3] (tE20_33bdd6c)) (chainT [5] (tE20_8587a70))
def tE20_4aade5c : OT := .alt (chainT [2, 3] (tE20_c754af7)) (chainT [4] (tE20_8587a70))
def tE20_cdf2087 : OT := .alt (chainT [2, 3] (tE20_33adb0d)) (.alt (chainT [4] (tE20_51e9c74)) (chainT [5] (tE20_4aade5c)))
def tE20_8f7d4d4 : OT := chainT [0, 1] (tE20_8587a70)
def tE20_d769b30 : OT := .alt (chainT [0, 1] (tE20_51e9c74)) (chainT [5] (tE20_8f7d4d4))
def tE20_a451c87 : OT := .alt (chainT [0, 1] (tE20_4aade5c)) (chainT [4] (tE20_8f7d4d4))
def tE20_ccfc7b1 : OT := .alt (chainT [0, 1] (tE20_cdf2087)) (.alt (chainT [4] (tE20_d769b30)) (chainT [5] (tE20_a451c87)))
end Go.Proofs.YtcmpdmobmbbplaaGreat

/- Walks of the reference: how many beginnings orders have. -/
namespace Go.Proofs.YtcmpdmobmbbplaaGreat
set_option maxRecDepth 4000
open Go Go.Eng
/-- Whether an order begins as none of the first m does. -/
def frB (X : List (List Nat)) (k i m : Nat) : Bool := !((X.take m).any fun L => decide (L.take k = (X.getD i []).take k))
theorem frB_succ (X : List (List Nat)) (k i m : Nat) (hm : m < X.length) : frB X k i (m + 1) = (frB X k i m && !decide (X[m].take k = (X.getD i []).take k)) := by
  unfold frB
  rw [List.take_succ_eq_append_getElem hm, List.any_append, Bool.not_or]
  simp
theorem frB_mono (X : List (List Nat)) (k i m j : Nat) (h : frB X k i m = false) (hj : m ≤ j) : frB X k i j = false := by
  unfold frB at *
  simp only [Bool.not_eq_false', List.any_eq_true] at *
  obtain ⟨L, h1, h2⟩ := h
  exact ⟨L, List.take_subset_take_left X hj h1, h2⟩
theorem preN_succ (X : List (List Nat)) (k i : Nat) (hi : i < X.length) : preN (X.take (i + 1)) k = preN (X.take i) k + (if frB X k i i = true then 1 else 0) := by
  unfold preN
  rw [List.take_succ_eq_append_getElem hi, List.map_append, List.map_cons, List.map_nil, dl_snoc]
  have hx : X.getD i [] = X[i] := by rw [List.getD_eq_getElem?_getD, List.getElem?_eq_getElem hi, Option.getD_some]
  have h : frB X k i i = true ↔ X[i].take k ∉ dl ((X.take i).map (·.take k)) := by
    unfold frB
    rw [dl_mem, hx]
    simp only [Bool.not_eq_true', List.any_eq_false, decide_eq_true_eq, List.mem_map, not_exists, not_and]
  split
  · rename_i h1
    rw [if_neg (fun h2 => h.1 h2 h1)]
    rfl
  · rename_i h1
    rw [if_pos (h.2 h1), List.length_append]
    rfl
theorem take_eq_succ {A B : List Nat} {p : Nat} (ha : p < A.length) (hb : p < B.length) : decide (A.take (p + 1) = B.take (p + 1)) = (decide (A.take p = B.take p) && decide (A[p] = B[p])) := by
  rw [List.take_succ_eq_append_getElem ha, List.take_succ_eq_append_getElem hb, Bool.eq_iff_iff, Bool.and_eq_true, decide_eq_true_iff, decide_eq_true_iff, decide_eq_true_iff]
  constructor
  · intro h
    have := List.append_inj h (by simp; omega)
    exact ⟨this.1, by simpa using this.2⟩
  · rintro ⟨h1, h2⟩
    rw [h1, h2]
theorem dec_comm (A B : List Nat) (p : Nat) : decide (A.take p = B.take p) = decide (B.take p = A.take p) := by
  by_cases h : A.take p = B.take p <;> simp [h, eq_comm]
set_option maxHeartbeats 4000000 in
theorem rprefixes_ca (w : World) (lo hi : Nat) (v : Value) (X : List (List Nat)) (k : Nat) (h : RdII w lo hi v (X.map chI)) (hX : X.length ≤ 1000000) (hk : ∀ L ∈ X, k ≤ L.length) (hkm : k ≤ 1000) :
    Ca Tryz.prog 66 [v, .int .i64 k] w fun x w' => x = .int .i64 (preN X k : Nat) ∧ Chg [] w w' := by
  obtain ⟨va, vc, rfl, hsv⟩ := RdII.outI h
  have hXm : (X.map chI).length = X.length := by simp
  rw [hXm] at hsv h ⊢
  refine q_of (Sat.nil w M0) Tryz.func66 rfl (by simp [Tryz.ntmps66]) ?_
  (refine q_seq (q_region (ql_pure tabOk rfl rfl (q_nil (q_seq (q_region (ql_pure tabOk rfl rfl (q_nil (q_seq (q_seq (q_region (ql_pure tabOk rfl rfl ?_))))))))))); refine q_nil (q_block ?_))
  refine q_loop (σ := Nat) (fun i => i ≤ X.length) (fun i => X.length - i) (fun i => [(0, .slice va X.length vc), (1, .int .i64 k), (5, .int .i64 (preN (X.take i) k : Nat)), (6, .int .i64 i)]) (fun _ => []) 0 (by omega) ⟨rfl, rfl, rfl, rfl, trivial⟩ (by repeat constructor) ?_
  rintro i hi' K hK
  (refine q_seq (q_seq (q_region ?_)); (iterate 4 refine ql_pure tabOk rfl rfl ?_); refine q_nil ?_)
  refine q_if rfl (fun hc => ?_) (fun hc => ?_)
  · have hi2 : i < X.length := by omega
    clear hc
    have hps := preN_succ X k i hi2
    have hpb : preN (X.take i) k ≤ i := by
      unfold preN
      refine Nat.le_trans (sub_len (D := (X.take i).map (·.take k)) (dl_nodup _) fun x hx => (dl_mem _).1 hx) ?_
      simp
      omega
    have hx : X.getD i [] = X[i] := by rw [List.getD_eq_getElem?_getD, List.getElem?_eq_getElem hi2, Option.getD_some]
    obtain ⟨g, o, rfl⟩ := hsv (by omega)
    (refine q_skip (q_seq (q_block (q_seq (q_region (ql_pure tabOk rfl rfl (q_nil (q_seq (q_seq (q_region (ql_pure tabOk rfl rfl (q_nil ?_))))))))))); refine q_block ?_)
    refine q_loop (σ := Nat) (fun m => m ≤ i) (fun m => i - m) (fun m => [(0, .slice (some ⟨g, o, none⟩) X.length vc), (1, .int .i64 k), (5, .int .i64 (preN (X.take i) k : Nat)), (6, .int .i64 i), (7, .bool (frB X k i m)), (8, .int .i64 m)]) (fun _ => []) 0 (by omega) ⟨rfl, rfl, rfl, rfl, rfl, rfl, trivial⟩ (by repeat constructor) ?_
    rintro m hm K2 hK2
    by_cases hmi : m < i
    · cases hf : frB X k i m with
      | false =>
        have hff := frB_mono X k i m i hf hm
        rw [hff] at hps
        (refine q_seq (q_seq (q_region (ql_pure tabOk rfl rfl (ql_pure tabOk rfl rfl (ql_lssT tabOk rfl rfl rfl (by omega) (ql_pure tabOk rfl rfl (ql_gyes rfl (ql_pure tabOk rfl rfl (ql_pure tabOk rfl rfl (q_nil (q_cond_false rfl ?_))))))))))); refine q_exit _ rfl (q_seq (q_region (ql_pure tabOk rfl rfl (q_nil (q_cond_false rfl (q_skip (q_blk (q_region (ql_pure tabOk rfl rfl (ql_ar tabOk rfl rfl rfl rfl (by omega) (by omega) (ql_pure tabOk rfl rfl ?_))))))))))); refine q_nil ?_)
        exact hK (i + 1) _ _ (by omega) (by omega) ⟨rfl, rfl, by rw [hps]; rfl, rfl, trivial⟩ (by repeat constructor)
      | true =>
        have hm2 : m < X.length := by omega
        have hfs := frB_succ X k i m hm2
        rw [hf, Bool.true_and, hx, dec_comm] at hfs
        have hki := hk X[i] (List.getElem_mem hi2)
        have hkm2 := hk X[m] (List.getElem_mem hm2)
        (refine q_seq (q_seq (q_region (ql_pure tabOk rfl rfl (ql_pure tabOk rfl rfl (ql_lssT tabOk rfl rfl rfl (by omega) (ql_pure tabOk rfl rfl (ql_gyes rfl (ql_pure tabOk rfl rfl (ql_pure tabOk rfl rfl (q_nil (q_cond_true rfl ?_))))))))))); refine q_skip (q_seq (q_block (q_seq (q_region (ql_pure tabOk rfl rfl (q_nil (q_seq (q_seq (q_region (ql_pure tabOk rfl rfl (q_nil ?_))))))))))); refine q_block ?_)
        refine q_loop (σ := Nat) (fun p => p ≤ k) (fun p => k - p) (fun p => [(0, .slice (some ⟨g, o, none⟩) X.length vc), (1, .int .i64 k), (5, .int .i64 (preN (X.take i) k : Nat)), (6, .int .i64 i), (8, .int .i64 m), (9, .bool (decide (X[i].take p = X[m].take p))), (10, .int .i64 p)]) (fun _ => []) 0 (by omega) ⟨rfl, rfl, rfl, rfl, rfl, rfl, rfl, trivial⟩ (by repeat constructor) ?_
        rintro p hp K3 hK3
        (refine q_seq (q_seq (q_region ?_)); (iterate 3 refine ql_pure tabOk rfl rfl ?_); refine q_nil ?_)
        refine q_if rfl (fun hc => ?_) (fun hc => ?_)
        · have hp2 : p < k := by omega
          clear hc
          have hpi : p < X[i].length := by omega
          have hpm : p < X[m].length := by omega
          have hts := take_eq_succ hpi hpm
          cases hb : decide (X[i].take p = X[m].take p) with
          | false =>
            rw [hb, Bool.false_and] at hts
            (refine q_skip (q_seq (q_block ?_)))
            refine q_draw _ [] (Sp.refl _) (by kernel_rfl) (by kernel_rfl) ?_
            (refine qf_pure tabOk rfl rfl rfl (qf_pure tabOk rfl rfl rfl ?_); (iterate 15 refine qf_gno rfl rfl rfl ?_); refine qf_pure tabOk rfl rfl rfl (qf_pure tabOk rfl rfl rfl (qf_nil (q_blk (q_region (ql_pure tabOk rfl rfl (ql_ar tabOk rfl rfl rfl rfl (by omega) (by omega) (ql_pure tabOk rfl rfl (q_nil ?_)))))))))
            exact hK3 (p + 1) _ _ (by omega) (by omega) ⟨rfl, rfl, rfl, rfl, rfl, by rw [hts]; rfl, rfl, trivial⟩ (by repeat constructor)
          | true =>
            rw [hb, Bool.true_and] at hts
            have hi3 : i < (X.map chI).length := by omega
            have hm3 : m < (X.map chI).length := by omega
            obtain ⟨g1, o1, c1, hr1, hc1⟩ := RdII.rowS h i hi3 (m := X[i].length) (by simp [chI_len]) (by omega)
            obtain ⟨g2, o2, c2, hr2, hc2⟩ := RdII.rowS h m hm3 (m := X[m].length) (by simp [chI_len]) (by omega)
            have e1 : (X.map chI)[i] = chI X[i] := by simp
            have e2 : (X.map chI)[m] = chI X[m] := by simp
            rw [e1] at hr1
            rw [e2] at hr2
            obtain ⟨xi, hxi⟩ : ∃ x, X[i][p] = x := ⟨_, rfl⟩
            obtain ⟨xm, hxm⟩ : ∃ x, X[m][p] = x := ⟨_, rfl⟩
            rw [hxi, hxm] at hts
            have hpi2 : p < (chI X[i]).length := by rw [chI_len]; exact hpi
            have hpm2 : p < (chI X[m]).length := by rw [chI_len]; exact hpm
            (refine q_skip (q_seq (q_block ?_)))
            refine q_draw _ [] (Sp.refl _) (by kernel_rfl) (by kernel_rfl) ?_
            (refine qf_pure tabOk rfl rfl rfl (qf_pure tabOk rfl rfl rfl (qf_gyes rfl (qf_pure tabOk rfl rfl rfl (qf_gyes rfl (qf_pure tabOk rfl rfl rfl (qf_gyes rfl ?_)))))))
            refine qf_index tabOk rfl rfl rfl rfl rfl (by omega) (by omega) ?_
            (refine qf_gyes rfl ?_)
            refine qf_load1 (v := .slice (some ⟨g1, o1, none⟩) X[i].length c1) tabOk rfl rfl rfl (fun w hs => hc1 w hs.chg0) ?_
            (refine qf_gyes rfl (qf_pure tabOk rfl rfl rfl (qf_gyes rfl ?_)))
            refine qf_index tabOk rfl rfl rfl rfl rfl (by omega) (by omega) ?_
            (refine qf_gyes rfl ?_)
            refine qf_load1 (v := .int .i64 xi) tabOk rfl rfl rfl (fun w hs => by
              have := RdI.at (RdE.keep hr1 hs.chg0) p hpi2
              rw [chI_at hpi hpi2, hxi] at this
              exact this) ?_
            (refine qf_gyes rfl (qf_pure tabOk rfl rfl rfl (qf_gyes rfl (qf_pure tabOk rfl rfl rfl (qf_gyes rfl ?_)))))
            refine qf_index tabOk rfl rfl rfl rfl rfl (by omega) (by omega) ?_
            (refine qf_gyes rfl ?_)
            refine qf_load1 (v := .slice (some ⟨g2, o2, none⟩) X[m].length c2) tabOk rfl rfl rfl (fun w hs => hc2 w hs.chg0) ?_
            (refine qf_gyes rfl (qf_pure tabOk rfl rfl rfl (qf_gyes rfl ?_)))
            refine qf_index tabOk rfl rfl rfl rfl rfl (by omega) (by omega) ?_
            (refine qf_gyes rfl ?_)
            refine qf_load1 (v := .int .i64 xm) tabOk rfl rfl rfl (fun w hs => by
              have := RdI.at (RdE.keep hr2 hs.chg0) p hpm2
              rw [chI_at hpm hpm2, hxm] at this
              exact this) ?_
            by_cases hxe : xi = xm
            · rw [decide_eq_true hxe] at hts
              (refine qf_gyes rfl (qf_eqlT tabOk rfl rfl rfl (by omega) (qf_pure tabOk rfl rfl rfl (qf_pure tabOk rfl rfl rfl (qf_nil (q_blk (q_region (ql_pure tabOk rfl rfl (ql_ar tabOk rfl rfl rfl rfl (by omega) (by omega) (ql_pure tabOk rfl rfl (q_nil ?_)))))))))))
              exact hK3 (p + 1) _ _ (by omega) (by omega) ⟨rfl, rfl, rfl, rfl, rfl, by rw [hts]; rfl, rfl, trivial⟩ (by repeat constructor)
            · rw [decide_eq_false hxe] at hts
              (refine qf_gyes rfl (qf_eqlF tabOk rfl rfl rfl (by omega) (qf_pure tabOk rfl rfl rfl (qf_pure tabOk rfl rfl rfl (qf_nil (q_blk (q_region (ql_pure tabOk rfl rfl (ql_ar tabOk rfl rfl rfl rfl (by omega) (by omega) (ql_pure tabOk rfl rfl (q_nil ?_)))))))))))
              exact hK3 (p + 1) _ _ (by omega) (by omega) ⟨rfl, rfl, rfl, rfl, rfl, by rw [hts]; rfl, rfl, trivial⟩ (by repeat constructor)
        · obtain rfl : p = k := by omega
          clear hc hK3 hp
          cases hb : decide (X[i].take p = X[m].take p) with
          | true =>
            rw [hb] at hfs
            (refine q_exit _ rfl (q_region ?_); (iterate 3 refine ql_pure tabOk rfl rfl ?_); refine q_nil (q_blk (q_region (ql_pure tabOk rfl rfl (ql_ar tabOk rfl rfl rfl rfl (by omega) (by omega) (ql_pure tabOk rfl rfl (q_nil ?_)))))))
            exact hK2 (m + 1) _ _ (by omega) (by omega) ⟨rfl, rfl, rfl, rfl, by rw [hfs]; rfl, rfl, trivial⟩ (by repeat constructor)
          | false =>
            rw [hb] at hfs
            (refine q_exit _ rfl (q_region ?_); (iterate 3 refine ql_pure tabOk rfl rfl ?_); refine q_nil (q_blk (q_region (ql_pure tabOk rfl rfl (ql_ar tabOk rfl rfl rfl rfl (by omega) (by omega) (ql_pure tabOk rfl rfl (q_nil ?_)))))))
            exact hK2 (m + 1) _ _ (by omega) (by omega) ⟨rfl, rfl, rfl, rfl, by rw [hfs]; rfl, rfl, trivial⟩ (by repeat constructor)
    · obtain rfl : m = i := by omega
      (refine q_seq (q_seq (q_region (ql_pure tabOk rfl rfl (ql_pure tabOk rfl rfl (ql_lssF tabOk rfl rfl rfl (by omega) (ql_pure tabOk rfl rfl (ql_gno rfl rfl rfl (ql_pure tabOk rfl rfl (q_nil (q_cond_false rfl (q_exit _ rfl ?_))))))))))); refine q_seq (q_region (ql_pure tabOk rfl rfl (q_nil ?_))))
      cases hb : frB X k m m with
      | true =>
        rw [hb] at hps
        (refine q_cond_true rfl (q_region (ql_pure tabOk rfl rfl (ql_ar tabOk rfl rfl rfl rfl (by omega) (by omega) (ql_pure tabOk rfl rfl (q_nil (q_blk (q_region (ql_pure tabOk rfl rfl (ql_ar tabOk rfl rfl rfl rfl (by omega) (by omega) (ql_pure tabOk rfl rfl (q_nil ?_))))))))))))
        exact hK (m + 1) _ _ (by omega) (by omega) ⟨rfl, rfl, by rw [hps]; rfl, rfl, trivial⟩ (by repeat constructor)
      | false =>
        rw [hb] at hps
        (refine q_cond_false rfl (q_skip (q_blk (q_region (ql_pure tabOk rfl rfl (ql_ar tabOk rfl rfl rfl rfl (by omega) (by omega) (ql_pure tabOk rfl rfl (q_nil ?_))))))))
        exact hK (m + 1) _ _ (by omega) (by omega) ⟨rfl, rfl, by rw [hps]; rfl, rfl, trivial⟩ (by repeat constructor)
  · obtain rfl : i = X.length := by omega
    rw [List.take_length]
    (refine q_exit _ rfl (q_seq (q_region (ql_pure tabOk rfl rfl (ql_pure tabOk rfl rfl (q_nil (q_ret ?_)))))))
    refine q_fin tabOk rfl (by repeat constructor) fun w hs => ?_
    exact ⟨rfl, hs.chg0⟩
end Go.Proofs.YtcmpdmobmbbplaaGreat

/- Walks of the reference: the orders in which one ski is before another one. -/
namespace Go.Proofs.YtcmpdmobmbbplaaGreat
set_option maxRecDepth 4000
open Go Go.Eng
/-- Rows that are read where they lie. -/
def RowsR (w : World) (lo hi : Nat) (Z : List (Value × List Int)) : Prop := ∀ p ∈ Z, RdI w lo hi p.1 p.2
theorem RowsR.keep {w w' : World} {lo hi : Nat} {Z : List (Value × List Int)} (h : RowsR w lo hi Z) (c : Chg [] w w') : RowsR w' lo hi Z := fun p hp => RdE.keep (h p hp) c
theorem own_rd2 {w0 w : World} {M : Nat → Prop} {H : List Ck} {t n lo hi : Nat} {v : Value} {Z : List (Value × List Int)} (hs : Sat w0 M H w) (hm : Ck.ow v t 1 n (Z.map (·.1)) ∈ H) (hZ : RowsR w lo hi Z) (hh : hi ≤ w.heap.size) : RdII w 0 w.heap.size v (Z.map (·.2)) := by
  have h1 := hs.mem hm
  have hn : n = (Z.map (·.1)).length := by have := h1.1; omega
  refine ⟨Z.map (·.1), RdE.one (by rw [← hn]; exact own_rd h1) (fun e he => by
    obtain ⟨p, hp, rfl⟩ := List.mem_map.1 he
    obtain ⟨a, c, e, _⟩ := RdI.outI (hZ p hp)
    rw [e]; rfl), by simp, fun i hi hi' => ?_⟩
  have hi2 : i < Z.length := by simpa using hi
  simp only [List.getElem_map]
  exact RdE.wide (hZ _ (List.getElem_mem hi2)) (Nat.zero_le _) hh
theorem idx_first : ∀ {L : List Nat} {p : Nat} (h : p < L.length), L.idxOf L[p] ≤ p
  | x :: L, 0, _ => by simp
  | x :: L, p + 1, h => by
    have ih := idx_first (L := L) (p := p) (by simpa using h)
    rw [List.getElem_cons_succ, List.idxOf_cons]
    cases hx : (x == L[p]'(by simpa using h)) <;> simp <;> omega
theorem bf_yes {a b p : Nat} {L : List Nat} (hp : p < L.length) (ha : p ≤ L.idxOf a) (hb : p ≤ L.idxOf b) (hn : L[p] ≠ b) (hx : L[p] = a) : bfB a b L = true := by
  unfold bfB
  have h1 : L.idxOf a ≤ p := by
    rw [← hx]
    exact idx_first hp
  have h2 : L.idxOf b ≠ p := fun e => hn (by
    have h3 : L.idxOf b < L.length := by omega
    have := List.getElem_idxOf h3
    simp only [e] at this
    exact this)
  rw [decide_eq_true_iff]
  omega
theorem bf_no {a b p : Nat} {L : List Nat} (hp : p < L.length) (ha : p ≤ L.idxOf a) (hx : L[p] = b) : bfB a b L = false := by
  unfold bfB
  have h1 : L.idxOf b ≤ p := by
    rw [← hx]
    exact idx_first hp
  rw [decide_eq_false_iff_not]
  omega
theorem idx_next {a p : Nat} {L : List Nat} (hp : p < L.length) (ha : p ≤ L.idxOf a) (hx : L[p] ≠ a) : p + 1 ≤ L.idxOf a := by
  have h2 : L.idxOf a ≠ p := fun e => hx (by
    have h3 : L.idxOf a < L.length := by omega
    have := List.getElem_idxOf h3
    simp only [e] at this
    exact this)
  omega
theorem bf_end {a b : Nat} {L : List Nat} (ha : L.length ≤ L.idxOf a) : bfB a b L = false := by
  unfold bfB
  have := List.idxOf_le_length (l := L) (a := b)
  rw [decide_eq_false_iff_not]
  omega
theorem RdII.sel {w : World} {lo hi : Nat} {v : Value} {ll : List (List Int)} (h : RdII w lo hi v ll) : ∃ sel : List (Value × List Int), RdE w lo hi v 1 (sel.map (·.1)) ∧ RowsR w lo hi sel ∧ sel.map (·.2) = ll := by
  obtain ⟨vs, h1, h2, h3⟩ := h
  refine ⟨vs.zip ll, by rw [show (vs.zip ll).map (·.1) = vs from List.map_fst_zip (by omega)]; exact h1, fun p hp => ?_, List.map_snd_zip (by omega)⟩
  obtain ⟨i, hi', rfl⟩ := List.mem_iff_getElem.1 hp
  have hl : (vs.zip ll).length = vs.length := by rw [List.length_zip, h2, Nat.min_self]
  rw [List.getElem_zip]
  exact h3 i (by omega) (by omega)
theorem sel_rd {w : World} {lo hi : Nat} {v : Value} {sel : List (Value × List Int)} (h : RdE w lo hi v 1 (sel.map (·.1))) (hr : RowsR w lo hi sel) : RdII w lo hi v (sel.map (·.2)) := ⟨sel.map (·.1), h, by simp, fun i hi hi' => by
  have hi2 : i < sel.length := by simpa using hi
  simp only [List.getElem_map]
  exact hr _ (List.getElem_mem hi2)⟩
theorem sel_at {w : World} {lo hi g o n c : Nat} {X : List (List Nat)} {sel : List (Value × List Int)} {u : Value} (h : RdE w lo hi (.slice (some ⟨g, o, none⟩) n c) 1 (sel.map (·.1))) (hr : RowsR w lo hi sel) (hX : sel.map (·.2) = X.map chI) {i : Nat} (hi' : i < X.length) (hc : w.cell? ⟨g, o + i * 1, none⟩ = some u) : (u, chI X[i]) ∈ sel := by
  have hsl : sel.length = X.length := by have := congrArg List.length hX; simpa using this
  have hi2 : i < sel.length := by omega
  have hr1 := hr _ (List.getElem_mem hi2)
  obtain ⟨a, cc, e, _⟩ := RdI.outI hr1
  have h2 := RdE.cell1 h i (by simpa using hi2) (by simp only [List.getElem_map]; rw [e]; rfl)
  rw [hc] at h2
  have h3 : u = sel[i].1 := by simpa using Option.some.inj h2
  have h4 : sel[i].2 = chI X[i] := by
    have h5 : (sel.map (·.2))[i]? = (X.map chI)[i]? := by rw [hX]
    rw [List.getElem?_map, List.getElem?_map, List.getElem?_eq_getElem hi2, List.getElem?_eq_getElem hi', Option.map_some, Option.map_some] at h5
    exact Option.some.inj h5
  rw [h3, ← h4]
  exact List.getElem_mem hi2
set_option maxHeartbeats 4000000 in
theorem rhalf_ca (w : World) (lo hi : Nat) (v : Value) (X : List (List Nat)) (sel : List (Value × List Int)) (a b : Nat) (hE : RdE w lo hi v 1 (sel.map (·.1))) (hR : RowsR w lo hi sel) (hSX : sel.map (·.2) = X.map chI) (hX : X.length ≤ 1000000) (hL : ∀ L ∈ X, L.length ≤ 1000) (hp : ∀ L ∈ X, 0 < L.length) :
    Ca Tryz.prog 72 [v, .int .i64 a, .int .i64 b] w fun x w' => ∃ y : Value × List (Value × List Int), (x = y.1 ∧ (∀ p ∈ y.2, p ∈ sel) ∧ y.2.map (·.2) = (X.filter (bfB a b)).map chI) ∧ Sat w M0 [.ow y.1 48 1 y.2.length (y.2.map (·.1))] w' := by
  have h := sel_rd hE hR
  rw [hSX] at h
  obtain ⟨va, vc, rfl, hsv⟩ := RdII.outI h
  have hXm : (X.map chI).length = X.length := by simp
  rw [hXm] at hsv h hE ⊢
  refine q_of (Sat.nil w M0) Tryz.func72 rfl (by simp [Tryz.ntmps72]) ?_
  (refine q_seq (q_region (ql_pure tabOk rfl rfl (q_nil (q_seq (q_region (ql_pure tabOk rfl rfl (q_nil (q_seq (q_seq (q_region (ql_pure tabOk rfl rfl ?_))))))))))); refine q_nil (q_block ?_))
  refine q_conv (H' := [.ow (.slice none 0 0) 48 1 0 []]) (fun w' hs => (Sat.ownil hs 48 1).sp (by repeat constructor)) ?_
  refine q_loop (σ := Nat × Value × List (Value × List Int)) (fun z => z.1 ≤ X.length ∧ z.2.2.length ≤ z.1 ∧ (∀ p ∈ z.2.2, p ∈ sel) ∧ z.2.2.map (·.2) = ((X.take z.1).filter (bfB a b)).map chI) (fun z => X.length - z.1) (fun z => [(0, .slice va X.length vc), (1, .int .i64 a), (2, .int .i64 b), (7, z.2.1), (8, .int .i64 z.1)]) (fun z => [.ow z.2.1 48 1 z.2.2.length (z.2.2.map (·.1))]) (0, .slice none 0 0, []) ⟨Nat.zero_le _, Nat.zero_le _, fun p hp => absurd hp (by simp), rfl⟩ ⟨rfl, rfl, rfl, rfl, rfl, trivial⟩ (by repeat constructor) ?_
  rintro ⟨i, u, Z⟩ ⟨hi', hzl, hzr, hzm⟩ K hK
  dsimp only at hi' hzl hzr hzm hK ⊢
  (refine q_seq (q_seq (q_region ?_)); (iterate 4 refine ql_pure tabOk rfl rfl ?_); refine q_nil ?_)
  refine q_if rfl (fun hc => ?_) (fun hc => ?_)
  · have hi2 : i < X.length := by omega
    clear hc
    have hLi := hL X[i] (List.getElem_mem hi2)
    have hpi := hp X[i] (List.getElem_mem hi2)
    have htk : (X.take (i + 1)).filter (bfB a b) = (X.take i).filter (bfB a b) ++ (if bfB a b X[i] = true then [X[i]] else []) := by
      rw [List.take_succ_eq_append_getElem hi2, List.filter_append]
      cases hc : bfB a b X[i] <;> simp [hc]
    obtain ⟨g, o, rfl⟩ := hsv (by omega)
    have hi3 : i < (X.map chI).length := by omega
    obtain ⟨g1, o1, c1, hr1, hc1⟩ := RdII.rowS h i hi3 (m := X[i].length) (by simp [chI_len]) (by omega)
    have e1 : (X.map chI)[i] = chI X[i] := by simp
    rw [e1] at hr1
    have hcl := chI_len X[i]
    have hse := sel_at hE hR hSX hi2 (hc1 w (Chg.refl _ _))
    have hno : bfB a b X[i] = false → ((X.take (i + 1)).filter (bfB a b)).map chI = Z.map (·.2) := fun h => by rw [htk, h, hzm]; simp
    have hyes : bfB a b X[i] = true → ((X.take (i + 1)).filter (bfB a b)).map chI = (Z ++ [((.slice (some ⟨g1, o1, none⟩) X[i].length c1 : Value), chI X[i])]).map (·.2) := fun h => by rw [htk, if_pos h, List.map_append, List.map_append, hzm]; rfl
    clear htk hzm
    (refine q_skip (q_seq (q_block (q_seq (q_region (ql_pure tabOk rfl rfl (q_nil (q_block ?_))))))))
    refine q_loop (σ := Nat) (fun p => p ≤ X[i].length ∧ p ≤ X[i].idxOf a ∧ p ≤ X[i].idxOf b) (fun p => X[i].length - p) (fun p => [(0, .slice (some ⟨g, o, none⟩) X.length vc), (1, .int .i64 a), (2, .int .i64 b), (7, u), (8, .int .i64 i), (9, .int .i64 p)]) (fun _ => [.ow u 48 1 Z.length (Z.map (·.1))]) 0 ⟨by omega, by omega, by omega⟩ ⟨rfl, rfl, rfl, rfl, rfl, rfl, trivial⟩ (by repeat constructor) ?_
    rintro p ⟨hpl, hpa, hpb⟩ K2 hK2
    (refine q_seq (q_seq (q_region ?_)); (iterate 3 refine ql_pure tabOk rfl rfl ?_))
    refine ql_index tabOk rfl rfl rfl rfl rfl (by omega) (by omega) ?_
    refine ql_load1 (v := .slice (some ⟨g1, o1, none⟩) X[i].length c1) tabOk rfl rfl rfl (fun w hs => hc1 w hs.chg0) ?_
    (refine ql_pure tabOk rfl rfl (ql_pure tabOk rfl rfl (q_nil ?_)))
    refine q_if rfl (fun hc => ?_) (fun hc => ?_)
    · have hp2 : p < X[i].length := by omega
      clear hc
      obtain ⟨x, hx⟩ : ∃ x, X[i][p] = x := ⟨_, rfl⟩
      have hp3 : p < (chI X[i]).length := by rw [chI_len]; exact hp2
      (refine q_skip (q_seq (q_block (q_seq (q_seq (q_region (ql_pure tabOk rfl rfl (ql_pure tabOk rfl rfl ?_))))))))
      refine ql_index tabOk rfl rfl rfl rfl rfl (by omega) (by omega) ?_
      refine ql_load1 (v := .slice (some ⟨g1, o1, none⟩) X[i].length c1) tabOk rfl rfl rfl (fun w hs => hc1 w hs.chg0) ?_
      (refine ql_pure tabOk rfl rfl ?_)
      refine ql_index tabOk rfl rfl rfl rfl rfl (by omega) (by omega) ?_
      refine ql_load1 (v := .int .i64 x) tabOk rfl rfl rfl (fun w hs => by
        have := RdI.at (RdE.keep hr1 hs.chg0) p hp3
        rw [chI_at hp2 hp3, hx] at this
        exact this) ?_
      by_cases hxb : x = b
      · have hf := bf_no hp2 hpa (hx.trans hxb)
        subst hxb
        (refine ql_pure tabOk rfl rfl (ql_eqlT tabOk rfl rfl rfl (by omega) (q_nil (q_cond_true rfl (q_exit _ rfl (q_blk (q_region (ql_pure tabOk rfl rfl (ql_ar tabOk rfl rfl rfl rfl (by omega) (by omega) (ql_pure tabOk rfl rfl (q_nil ?_)))))))))))
        exact hK (i + 1, u, Z) _ _ ⟨by simp only; omega, by simp only; omega, hzr, (hno hf).symm⟩ (by simp only; omega) ⟨rfl, rfl, rfl, rfl, rfl, trivial⟩ (by repeat constructor)
      ·
        (refine ql_pure tabOk rfl rfl (ql_eqlF tabOk rfl rfl rfl (by omega) (q_nil (q_cond_false rfl (q_skip (q_seq (q_region (ql_pure tabOk rfl rfl (ql_pure tabOk rfl rfl ?_)))))))))
        refine ql_index tabOk rfl rfl rfl rfl rfl (by omega) (by omega) ?_
        refine ql_load1 (v := .slice (some ⟨g1, o1, none⟩) X[i].length c1) tabOk rfl rfl rfl (fun w hs => hc1 w hs.chg0) ?_
        (refine ql_pure tabOk rfl rfl ?_)
        refine ql_index tabOk rfl rfl rfl rfl rfl (by omega) (by omega) ?_
        refine ql_load1 (v := .int .i64 x) tabOk rfl rfl rfl (fun w hs => by
          have := RdI.at (RdE.keep hr1 hs.chg0) p hp3
          rw [chI_at hp2 hp3, hx] at this
          exact this) ?_
        by_cases hxa : x = a
        · have hf := bf_yes hp2 hpa hpb (by rw [hx]; exact hxb) (hx.trans hxa)
          subst hxa
          (refine ql_pure tabOk rfl rfl (ql_eqlT tabOk rfl rfl rfl (by omega) (q_nil (q_cond_true rfl (q_seq (q_region ?_))))); (iterate 3 refine ql_pure tabOk rfl rfl ?_))
          refine ql_index tabOk rfl rfl rfl rfl rfl (by omega) (by omega) ?_
          refine ql_load1 (v := .slice (some ⟨g1, o1, none⟩) X[i].length c1) tabOk rfl rfl rfl (fun w hs => hc1 w hs.chg0) ?_
          skip
          refine ql_mkS 48 [.slice (some ⟨g1, o1, none⟩) X[i].length c1] rfl (by kernel_rfl) rfl (fun bm => ?_)
          skip
          refine ql_append (q := 1) (news := [.slice (some ⟨g1, o1, none⟩) X[i].length c1]) slII rfl rfl rfl (fun v' => by repeat constructor) (fun w' hs => ⟨_, _, Blk.rdN (hs.blk (b := bm) (by repeat constructor)) rfl⟩) (by simp [oneV]) (by omega) (by omega) (fun u4 => ?_)
          (refine ql_pure tabOk rfl rfl (q_nil (q_exit _ rfl (q_blk (q_region (ql_pure tabOk rfl rfl (ql_ar tabOk rfl rfl rfl rfl (by omega) (by omega) (ql_pure tabOk rfl rfl (q_nil ?_)))))))))
          have elen : (Z ++ [((.slice (some ⟨g1, o1, none⟩) X[i].length c1 : Value), chI X[i])]).length = Z.length + 1 := by simp
          exact hK (i + 1, u4, Z ++ [((.slice (some ⟨g1, o1, none⟩) X[i].length c1 : Value), chI X[i])]) _ _ ⟨by simp only; omega, by simp only [elen]; omega, fun q hq => by
            rcases List.mem_append.1 hq with hq | hq
            · exact hzr q hq
            · rw [List.mem_singleton.1 hq]; exact hse, (hyes hf).symm⟩ (by simp only; omega) ⟨rfl, rfl, rfl, rfl, rfl, trivial⟩ (by dsimp only; rw [elen, List.map_append, List.map_singleton]; repeat constructor)
        · (refine ql_pure tabOk rfl rfl (ql_eqlF tabOk rfl rfl rfl (by omega) (q_nil (q_cond_false rfl (q_skip (q_blk (q_region (ql_pure tabOk rfl rfl (ql_ar tabOk rfl rfl rfl rfl (by omega) (by omega) (ql_pure tabOk rfl rfl (q_nil ?_)))))))))))
          exact hK2 (p + 1) _ _ ⟨by omega, idx_next hp2 hpa (by rw [hx]; exact hxa), idx_next hp2 hpb (by rw [hx]; exact hxb)⟩ (by omega) ⟨rfl, rfl, rfl, rfl, rfl, rfl, trivial⟩ (by repeat constructor)
    · have hf : bfB a b X[i] = false := bf_end (by omega)
      clear hc hK2
      (refine q_exit _ rfl (q_blk (q_region (ql_pure tabOk rfl rfl (ql_ar tabOk rfl rfl rfl rfl (by omega) (by omega) (ql_pure tabOk rfl rfl (q_nil ?_)))))))
      exact hK (i + 1, u, Z) _ _ ⟨by simp only; omega, by simp only; omega, hzr, (hno hf).symm⟩ (by simp only; omega) ⟨rfl, rfl, rfl, rfl, rfl, trivial⟩ (by repeat constructor)
  · obtain rfl : i = X.length := by omega
    clear hc hK
    rw [List.take_length] at hzm
    (refine q_exit _ rfl (q_seq (q_region (ql_pure tabOk rfl rfl (ql_pure tabOk rfl rfl (q_nil (q_ret ?_)))))))
    refine q_fin tabOk rfl (by repeat constructor) fun w hs => ?_
    exact ⟨(u, Z), ⟨rfl, hzr, hzm⟩, hs.sp (by repeat constructor)⟩
theorem rhalfW_ca (w0 w : World) (c0 : Chg [] w0 w) (lo hi : Nat) (v : Value) (X : List (List Nat)) (a b : Nat) (h : RdII w0 lo hi v (X.map chI)) (hX : X.length ≤ 1000000) (hL : ∀ L ∈ X, L.length ≤ 1000) (hp : ∀ L ∈ X, 0 < L.length) :
    Ca Tryz.prog 72 [v, .int .i64 a, .int .i64 b] w fun x w' => ∃ y : Value × List (Value × List Int), (x = y.1 ∧ RowsR w0 lo hi y.2 ∧ y.2.map (·.2) = (X.filter (bfB a b)).map chI) ∧ Sat w M0 [.ow y.1 48 1 y.2.length (y.2.map (·.1))] w' := by
  obtain ⟨sel, h1, h2, h3⟩ := h.sel
  exact (rhalf_ca w lo hi v X sel a b (h1.keep c0) (h2.keep c0) h3 hX hL hp).mono fun x w' ⟨y, ⟨e1, e2, e3⟩, e4⟩ => ⟨y, ⟨e1, fun p hp => h2 p (e2 p hp), e3⟩, e4⟩
end Go.Proofs.YtcmpdmobmbbplaaGreat
