/- My texts E23, E24, E25, E26, joined: a claim takes at most 60 files. -/
import Derived.Test.YtcmpdmobmbbplaaGreatJ4

/- Walks of the reference: whether so many further runs are enough. -/
namespace Go.Proofs.YtcmpdmobmbbplaaGreat
set_option maxRecDepth 4000
open Go Go.Eng
theorem half_pos {o n a b : Nat} (hn : n ≤ 8) (ho : Ord o) (hc : NoC o n) (hi : InO o n) (ha : a < n) (hb : b < n) (hne : a ≠ b) : 0 < (FL (withO o a b) n n).length ↔ fa o b a = false := by
  constructor
  · intro h
    cases hf : fa o b a with
    | false => rfl
    | true =>
      obtain ⟨L, hL⟩ := List.exists_mem_of_length_pos h
      rw [← fl_half hn hi ha hb, List.mem_filter] at hL
      have h1 := ((fl_mem hn hi).1 hL.1).idx b a (by omega) (by omega) hf
      have h2 := hL.2
      unfold bfB at h2
      have h3 := of_decide_eq_true h2
      omega
  · intro hf
    cases hg : fa o a b with
    | true =>
      obtain ⟨L, hL⟩ := fl_ne hc ho hn
      have h1 := ((fl_mem hn hi).1 hL).idx a b (by omega) (by omega) hg
      rw [← fl_half hn hi ha hb]
      refine List.length_pos_of_mem (a := L) (List.mem_filter.2 ⟨hL, ?_⟩)
      unfold bfB
      rw [decide_eq_true_iff]
      exact h1.2.2
    | false =>
      have hU : Und o n a b := ⟨ho, hn, ha, hb, hne, hg, hf⟩
      obtain ⟨L, hL⟩ := fl_ne (hc.with hU) (ho.with (by omega) (by omega)) hn
      exact List.length_pos_of_mem hL
theorem fl_bd {o n : Nat} (hn : n ≤ 6) : (FL o n n).length ≤ 46656 := by
  rw [← FL_eq]
  exact Nat.le_trans (List.length_filter_le _ _) (perm_len6 hn)
theorem eno_no1 {n k r o a b : Nat} (h : fa o a b = true) : enoB n k r o a b = false := by
  unfold enoB; rw [h]; rfl
theorem eno_no2 {n k r o a b : Nat} (h : fa o b a = true) : enoB n k r o a b = false := by
  unfold enoB; rw [h]; cases fa o a b <;> rfl
theorem eno_und {n k r o a b : Nat} (h1 : fa o a b = false) (h2 : fa o b a = false) : enoB n k (r + 1) o a b = (decide (planO n k (withO o a b) ≤ r) && decide (planO n k (withO o b a) ≤ r)) := by
  unfold enoB worthO
  rw [h1, h2, Bool.eq_iff_iff]
  simp only [Bool.and_true, Bool.not_false, Bool.true_and, decide_eq_true_eq, Bool.and_eq_true]
  omega
set_option maxHeartbeats 4000000 in
theorem renough_ca (n k : Nat) (hn : n ≤ 6) (h1 : 1 ≤ n) (hk : k ≤ n) (r : Nat) : ∀ (o : Nat) (w : World) (lo hi : Nat) (v : Value), r ≤ 40 → Ord o → NoC o n → InO o n → RdII w lo hi v ((FL o n n).map chI) → hi ≤ w.heap.size →
    Ca Tryz.prog 135 [v, .int .i64 k, .int .i64 r] w fun x w' => x = .bool (decide (planO n k o ≤ r)) ∧ Chg [] w w' := by
  induction r using Nat.strongRecOn with
  | ind r ih =>
  intro o w lo hi v hr ho hc hi' h hh
  have hc0' := hc
  have hX := fl_bd (o := o) (n := n) hn
  obtain ⟨L0, hL0⟩ := fl_ne hc ho (show n ≤ 8 by omega)
  have hpos : 0 < (FL o n n).length := List.length_pos_of_mem hL0
  have hlen : ∀ L ∈ FL o n n, L.length = n := fun L hL => ((fl_mem (show n ≤ 8 by omega) hi').1 hL).len
  obtain ⟨va, vc, rfl, hsv⟩ := RdII.outI h
  have hXm : ((FL o n n).map chI).length = (FL o n n).length := by simp
  rw [hXm] at hsv h ⊢
  obtain ⟨g, q, rfl⟩ := hsv hpos
  obtain ⟨g0, q0, c0, hr0, hc0⟩ := RdII.rowS h 0 (by omega) (m := n) (by simp [chI_len]; exact hlen _ (List.getElem_mem _)) (by omega)
  clear hsv
  refine q_of (Sat.nil w M0) Tryz.func135 rfl (by simp [Tryz.ntmps135]) ?_
  (refine q_seq (q_region (ql_pure tabOk rfl rfl (q_nil (q_seq (q_region (ql_pure tabOk rfl rfl (ql_pure tabOk rfl rfl ?_))))))))
  refine ql_callv (val := .int .i64 (preN (FL o n n) k : Nat)) tabOk rfl rfl rfl rfl (fun w hs => ?_) ?_; exact rprefixes_ca w lo hi (.slice (some ⟨g, q, none⟩) (FL o n n).length vc) (FL o n n) k (RdII.keep h hs.chg0) (by omega) (fun L hL => by rw [hlen L hL]; exact hk) (by omega)
  have hkn := pre_known hc ho (show n ≤ 8 by omega) hi' hk
  have hpp := pre_plan (show n ≤ 8 by omega) h1 hk _ o (Nat.le_refl _) ho hc hi'
  have hz := plan_zero (show n ≤ 8 by omega) h1 hk ho hc
  by_cases hN : preN (FL o n n) k ≤ 1
  · have hp0 := hz.2 (hkn.1 hN)
    (refine ql_pure tabOk rfl rfl (q_nil (q_seq (q_seq (q_region (ql_pure tabOk rfl rfl (ql_leqT tabOk rfl rfl rfl (by omega) (q_nil (q_cond_true rfl (q_seq (q_region (ql_pure tabOk rfl rfl ?_))))))))))); refine q_nil (q_ret ?_))
    refine q_fin tabOk rfl (by repeat constructor) fun w hs => ?_
    exact ⟨by rw [hp0, decide_eq_true (Nat.zero_le _)]; rfl, hs.chg0⟩
  · have hkn2 : ¬ knownO o n k = true := fun h => hN (hkn.2 h)
    (refine ql_pure tabOk rfl rfl (q_nil (q_seq (q_seq (q_region (ql_pure tabOk rfl rfl (ql_leqF tabOk rfl rfl rfl (by omega) (q_nil (q_cond_false rfl (q_skip (q_seq (q_region ?_))))))))))); refine ql_pure tabOk rfl rfl (q_nil (q_seq (q_seq (q_region (ql_pure tabOk rfl rfl (q_nil (q_block ?_))))))))
    have hb0 : 2 ^ r ≤ 1099511627776 := Nat.le_trans (Nat.pow_le_pow_right (by omega) hr) (by decide)
    refine q_loop (σ := Nat) (fun i => i ≤ r) (fun i => r - i) (fun i => [(0, .slice (some ⟨g, q, none⟩) (FL o n n).length vc), (1, .int .i64 k), (2, .int .i64 r), (7, .int .i64 (preN (FL o n n) k : Nat)), (8, .int .i64 (2 ^ i : Nat)), (9, .int .i64 i)]) (fun _ => []) 0 (by omega) ⟨rfl, rfl, rfl, rfl, rfl, rfl, trivial⟩ (by repeat constructor) ?_
    rintro i hir K hK
    (refine q_seq (q_seq (q_region ?_)); (iterate 3 refine ql_pure tabOk rfl rfl ?_); refine q_nil ?_)
    refine q_if rfl (fun hc => ?_) (fun hc => ?_)
    · have hir2 : i < r := by omega
      clear hc
      have hs2 : 2 ^ (i + 1) ≤ 2 ^ r := Nat.pow_le_pow_right (by omega) (by omega)
      have hs3 : 2 ^ (i + 1) = 2 * 2 ^ i := by rw [Nat.pow_succ, Nat.mul_comm]
      obtain ⟨y, hy⟩ : ∃ y, y = 2 ^ i := ⟨_, rfl⟩
      rw [← hy] at hs3 ⊢
      (refine q_skip (q_seq (q_block (q_region (ql_pure tabOk rfl rfl (ql_ar tabOk rfl rfl rfl rfl (by omega) (by omega) (ql_pure tabOk rfl rfl (q_nil (q_blk (q_region (ql_pure tabOk rfl rfl (ql_ar tabOk rfl rfl rfl rfl (by omega) (by omega) ?_))))))))))); refine ql_pure tabOk rfl rfl (q_nil ?_))
      exact hK (i + 1) _ _ (by omega) (by omega) ⟨rfl, rfl, rfl, rfl, lookI rfl (by rw [hs3]; omega), rfl, trivial⟩ (by repeat constructor)
    · obtain rfl : r = i := by omega
      clear hc hK hir
      obtain ⟨y, hy⟩ : ∃ y, y = 2 ^ r := ⟨_, rfl⟩
      obtain ⟨N, hNN⟩ : ∃ N, N = preN (FL o n n) k := ⟨_, rfl⟩
      rw [← hy] at hb0 ⊢
      rw [← hNN] at hpp hN hkn ⊢
      by_cases hN2 : y < N
      · have hpr : ¬ planO n k o ≤ r := fun h => by
          have := Nat.pow_le_pow_right (n := 2) (by omega) h
          omega
        (refine q_exit _ rfl (q_seq (q_seq (q_region (ql_pure tabOk rfl rfl (ql_pure tabOk rfl rfl (ql_gtrT tabOk rfl rfl rfl (by omega) (q_nil (q_cond_true rfl (q_seq (q_region (ql_pure tabOk rfl rfl ?_))))))))))); refine q_nil (q_ret ?_))
        refine q_fin tabOk rfl (by repeat constructor) fun w hs => ?_
        exact ⟨by rw [decide_eq_false hpr]; rfl, hs.chg0⟩
      · have hr1 : 1 ≤ r := by
          rcases Nat.eq_zero_or_pos r with e | e
          · rw [e] at hy
            have : y = 1 := by rw [hy]
            omega
          · exact e
        obtain ⟨r', hr'⟩ : ∃ r', r = r' + 1 := ⟨r - 1, by omega⟩
        have hen := eno_iff (n := n) (k := k) (r := r) (o := o) (show n ≤ 8 by omega) h1 hk ho hc hkn2
        have ih' := ih r' (by omega)
        clear hpp hkn hz hb0 hy ih hN hkn2
        (refine q_exit _ rfl (q_seq (q_seq (q_region (ql_pure tabOk rfl rfl (ql_pure tabOk rfl rfl (ql_gtrF tabOk rfl rfl rfl (by omega) (q_nil (q_cond_false rfl (q_skip (q_seq (q_seq ?_))))))))))); refine q_region (ql_pure tabOk rfl rfl (q_nil (q_block ?_))))
        refine q_loop (σ := Nat) (fun a => a ≤ n ∧ ∀ a' b', a' < a → a' < b' → b' < n → enoB n k r o a' b' = false) (fun a => n - a) (fun a => [(0, .slice (some ⟨g, q, none⟩) (FL o n n).length vc), (1, .int .i64 k), (2, .int .i64 r), (10, .int .i64 a)]) (fun _ => []) 0 ⟨by omega, fun _ _ h => absurd h (by omega)⟩ ⟨rfl, rfl, rfl, rfl, trivial⟩ (by repeat constructor) ?_
        rintro a ⟨han, hinv⟩ K hK
        (refine q_seq (q_seq (q_region (ql_pure tabOk rfl rfl (ql_pure tabOk rfl rfl ?_)))))
        refine ql_index tabOk rfl rfl rfl rfl rfl (by omega) (by omega) ?_
        refine ql_load1 (v := .slice (some ⟨g0, q0, none⟩) n c0) tabOk rfl rfl rfl (fun w hs => hc0 w hs.chg0) ?_
        (refine ql_pure tabOk rfl rfl (ql_pure tabOk rfl rfl (q_nil ?_)))
        refine q_if rfl (fun hc => ?_) (fun hc => ?_)
        · have ha : a < n := by omega
          clear hc
          (refine q_skip (q_seq (q_block (q_seq (q_region (ql_pure tabOk rfl rfl (ql_ar tabOk rfl rfl rfl rfl (by omega) (by omega) (ql_pure tabOk rfl rfl (q_nil (q_block ?_))))))))))
          refine q_loop (σ := Nat) (fun b => a < b ∧ b ≤ n ∧ ∀ b', a < b' → b' < b → enoB n k r o a b' = false) (fun b => n - b) (fun b => [(0, .slice (some ⟨g, q, none⟩) (FL o n n).length vc), (1, .int .i64 k), (2, .int .i64 r), (10, .int .i64 a), (11, .int .i64 b)]) (fun _ => []) (a + 1) ⟨by omega, by omega, fun _ _ h => absurd h (by omega)⟩ ⟨rfl, rfl, rfl, rfl, lookI rfl (by omega), trivial⟩ (by repeat constructor) ?_
          rintro b ⟨hab, hbn, hinv2⟩ K2 hK2
          (refine q_seq (q_seq (q_region (ql_pure tabOk rfl rfl (ql_pure tabOk rfl rfl ?_)))))
          refine ql_index tabOk rfl rfl rfl rfl rfl (by omega) (by omega) ?_
          refine ql_load1 (v := .slice (some ⟨g0, q0, none⟩) n c0) tabOk rfl rfl rfl (fun w hs => hc0 w hs.chg0) ?_
          (refine ql_pure tabOk rfl rfl (ql_pure tabOk rfl rfl (q_nil ?_)))
          refine q_if rfl (fun hc => ?_) (fun hc => ?_)
          · have hb : b < n := by omega
            clear hc
            have hnext : enoB n k r o a b = false → ∀ b', a < b' → b' < b + 1 → enoB n k r o a b' = false := fun h b' x1 x2 => by
              rcases Nat.lt_or_ge b' b with e | e
              · exact hinv2 b' x1 e
              · obtain rfl : b' = b := by omega
                exact h
            have hne : a ≠ b := by omega
            have hp1 := half_pos (show n ≤ 8 by omega) ho hc0' hi' ha hb hne
            have hp2 := half_pos (show n ≤ 8 by omega) ho hc0' hi' hb ha (Ne.symm hne)
            (refine q_skip (q_seq (q_block (q_seq (q_region ?_)))); (iterate 3 refine ql_pure tabOk rfl rfl ?_))
            refine ql_call (β := Value × List (Value × List Int)) tabOk [] _ M0 rfl rfl rfl rfl (Sp.refl _) (fun _ h => h.elim) (fun w' hs => rhalfW_ca w w' hs.chg0 lo hi (.slice (some ⟨g, q, none⟩) (FL o n n).length vc) (FL o n n) a b h (by omega) (fun L hL => by rw [hlen L hL]; omega) (fun L hL => by rw [hlen L hL]; omega)) ?_
            rintro ⟨_, Z1⟩ v50 ⟨rfl, hz1, hm1⟩
            dsimp only [List.cons_append, List.nil_append] at hz1 hm1 ⊢
            rw [fl_half (by omega) hi' ha hb] at hm1
            have hl1 : Z1.length = (FL (withO o a b) n n).length := by have := congrArg List.length hm1; simp only [List.length_map] at this; exact this
            refine ql_fact (fun w hs => hs.slice2 (v := v50) (by repeat constructor)) ?_
            rintro ⟨a50, q50, rfl⟩
            ((iterate 3 refine ql_pure tabOk rfl rfl ?_))
            refine ql_call (β := Value × List (Value × List Int)) tabOk [] _ M0 rfl rfl rfl rfl (Sp.refl _) (fun _ h => h.elim) (fun w' hs => rhalfW_ca w w' hs.chg0 lo hi (.slice (some ⟨g, q, none⟩) (FL o n n).length vc) (FL o n n) b a h (by omega) (fun L hL => by rw [hlen L hL]; omega) (fun L hL => by rw [hlen L hL]; omega)) ?_
            rintro ⟨_, Z2⟩ v54 ⟨rfl, hz2, hm2⟩
            dsimp only [List.cons_append, List.nil_append] at hz2 hm2 ⊢
            rw [fl_half (by omega) hi' hb ha] at hm2
            have hl2 : Z2.length = (FL (withO o b a) n n).length := by have := congrArg List.length hm2; simp only [List.length_map] at this; exact this
            refine ql_fact (fun w hs => hs.slice2 (v := v54) (by repeat constructor)) ?_
            rintro ⟨a54, q54, rfl⟩
            rw [← hl1] at hp1
            rw [← hl2] at hp2
            clear hl1 hl2
            cases hf : fa o b a with
            | true =>
              have hz0 : Z1.length = 0 := by
                rcases Nat.eq_zero_or_pos Z1.length with e | e
                · exact e
                · rw [hp1.1 e] at hf; exact absurd hf (by simp)
              have := hnext (eno_no2 hf)
              (refine ql_pure tabOk rfl rfl (ql_pure tabOk rfl rfl (q_nil (q_seq (q_region (ql_pure tabOk rfl rfl (ql_pure tabOk rfl rfl (ql_gtrF tabOk rfl rfl rfl (by omega) (ql_pure tabOk rfl rfl ?_)))))))); (iterate 3 refine ql_gno rfl rfl rfl ?_); refine ql_pure tabOk rfl rfl (ql_pure tabOk rfl rfl ?_); (iterate 5 refine ql_gno rfl rfl rfl ?_); refine ql_pure tabOk rfl rfl (ql_pure tabOk rfl rfl ?_); (iterate 5 refine ql_gno rfl rfl rfl ?_); refine ql_pure tabOk rfl rfl (q_nil (q_cond_false rfl (q_skip (q_blk (q_region (ql_pure tabOk rfl rfl (ql_ar tabOk rfl rfl rfl rfl (by omega) (by omega) (ql_pure tabOk rfl rfl (q_nil ?_))))))))))
              exact hK2 (b + 1) _ _ ⟨by omega, by omega, this⟩ (by omega) ⟨rfl, rfl, rfl, rfl, rfl, trivial⟩ (by repeat constructor)
            | false =>
              have hz1p := hp1.2 hf
              cases hg : fa o a b with
              | true =>
                have hz0 : Z2.length = 0 := by
                  rcases Nat.eq_zero_or_pos Z2.length with e | e
                  · exact e
                  · rw [hp2.1 e] at hg; exact absurd hg (by simp)
                have := hnext (eno_no1 hg)
                (refine ql_pure tabOk rfl rfl (ql_pure tabOk rfl rfl (q_nil (q_seq (q_region (ql_pure tabOk rfl rfl (ql_pure tabOk rfl rfl (ql_gtrT tabOk rfl rfl rfl (by omega) (ql_pure tabOk rfl rfl (ql_gyes rfl (ql_pure tabOk rfl rfl (ql_gyes rfl ?_))))))))))); refine ql_pure tabOk rfl rfl (ql_gyes rfl (ql_gtrF tabOk rfl rfl rfl (by omega) (ql_pure tabOk rfl rfl (ql_pure tabOk rfl rfl ?_)))); (iterate 5 refine ql_gno rfl rfl rfl ?_); refine ql_pure tabOk rfl rfl (ql_pure tabOk rfl rfl ?_); (iterate 5 refine ql_gno rfl rfl rfl ?_); refine ql_pure tabOk rfl rfl (q_nil (q_cond_false rfl (q_skip (q_blk (q_region (ql_pure tabOk rfl rfl (ql_ar tabOk rfl rfl rfl rfl (by omega) (by omega) (ql_pure tabOk rfl rfl (q_nil ?_))))))))))
                exact hK2 (b + 1) _ _ ⟨by omega, by omega, this⟩ (by omega) ⟨rfl, rfl, rfl, rfl, rfl, trivial⟩ (by repeat constructor)
              | false =>
                have hz2p := hp2.2 hg
                have hU : Und o n a b := ⟨ho, by omega, ha, hb, hne, hg, hf⟩
                have heu := eno_und (n := n) (k := k) (r := r') hg hf
                rw [← hr'] at heu
                (refine ql_pure tabOk rfl rfl (ql_pure tabOk rfl rfl (q_nil (q_seq (q_region (ql_pure tabOk rfl rfl (ql_pure tabOk rfl rfl (ql_gtrT tabOk rfl rfl rfl (by omega) (ql_pure tabOk rfl rfl (ql_gyes rfl (ql_pure tabOk rfl rfl (ql_gyes rfl ?_))))))))))); refine ql_pure tabOk rfl rfl (ql_gyes rfl (ql_gtrT tabOk rfl rfl rfl (by omega) (ql_pure tabOk rfl rfl (ql_pure tabOk rfl rfl (ql_gyes rfl (ql_pure tabOk rfl rfl (ql_gyes rfl (ql_pure tabOk rfl rfl (ql_gyes rfl (ql_pure tabOk rfl rfl (ql_gyes rfl ?_))))))))))); refine ql_ar tabOk rfl rfl rfl rfl (by omega) (by omega) (ql_gyes rfl ?_))
                rw [show (r : Int) - 1 = (r' : Int) from by omega]
                refine ql_callv (val := .bool (decide (planO n k (withO o a b) ≤ r'))) tabOk rfl rfl rfl rfl (fun w hs => ?_) ?_; exact ih' (withO o a b) w 0 w.heap.size (.slice a50 Z1.length q50) (by omega) (ho.with (by omega) (by omega)) (hc0'.with hU) (hi'.with (by omega) ha hb) (by have := own_rd2 hs (v := .slice a50 Z1.length q50) (t := 48) (n := Z1.length) (by repeat constructor) (hz1.keep hs.chg0) (Nat.le_trans hh hs.chg0.size); rw [hm1] at this; exact this) (Nat.le_refl _)
                cases hd1 : decide (planO n k (withO o a b) ≤ r') with
                | false =>
                  rw [hd1, Bool.false_and] at heu
                  have := hnext heu
                  (refine ql_pure tabOk rfl rfl (ql_pure tabOk rfl rfl ?_); (iterate 5 refine ql_gno rfl rfl rfl ?_); refine ql_pure tabOk rfl rfl (q_nil (q_cond_false rfl (q_skip (q_blk (q_region (ql_pure tabOk rfl rfl (ql_ar tabOk rfl rfl rfl rfl (by omega) (by omega) (ql_pure tabOk rfl rfl (q_nil ?_))))))))))
                  exact hK2 (b + 1) _ _ ⟨by omega, by omega, this⟩ (by omega) ⟨rfl, rfl, rfl, rfl, rfl, trivial⟩ (by repeat constructor)
                | true =>
                  rw [hd1, Bool.true_and] at heu
                  (refine ql_pure tabOk rfl rfl (ql_pure tabOk rfl rfl (ql_gyes rfl (ql_pure tabOk rfl rfl (ql_gyes rfl (ql_pure tabOk rfl rfl (ql_gyes rfl (ql_pure tabOk rfl rfl (ql_gyes rfl (ql_ar tabOk rfl rfl rfl rfl (by omega) (by omega) (ql_gyes rfl ?_)))))))))))
                  rw [show (r : Int) - 1 = (r' : Int) from by omega]
                  refine ql_callv (val := .bool (decide (planO n k (withO o b a) ≤ r'))) tabOk rfl rfl rfl rfl (fun w hs => ?_) ?_; exact ih' (withO o b a) w 0 w.heap.size (.slice a54 Z2.length q54) (by omega) (ho.with (by omega) (by omega)) (hc0'.with hU.swap) (hi'.with (by omega) hb ha) (by have := own_rd2 hs (v := .slice a54 Z2.length q54) (t := 48) (n := Z2.length) (by repeat constructor) (hz2.keep hs.chg0) (Nat.le_trans hh hs.chg0.size); rw [hm2] at this; exact this) (Nat.le_refl _)
                  cases hd2 : decide (planO n k (withO o b a) ≤ r') with
                  | false =>
                    rw [hd2] at heu
                    have := hnext heu
                    (refine ql_pure tabOk rfl rfl (q_nil (q_cond_false rfl (q_skip (q_blk (q_region (ql_pure tabOk rfl rfl (ql_ar tabOk rfl rfl rfl rfl (by omega) (by omega) (ql_pure tabOk rfl rfl (q_nil ?_))))))))))
                    exact hK2 (b + 1) _ _ ⟨by omega, by omega, this⟩ (by omega) ⟨rfl, rfl, rfl, rfl, rfl, trivial⟩ (by repeat constructor)
                  | true =>
                    rw [hd2] at heu
                    have hpr := hen.2 ⟨a, b, hab, hb, heu⟩
                    (refine ql_pure tabOk rfl rfl (q_nil (q_cond_true rfl (q_seq (q_region (ql_pure tabOk rfl rfl (q_nil (q_ret ?_))))))))
                    refine q_fin tabOk rfl (by repeat constructor) fun w hs => ?_
                    exact ⟨by rw [decide_eq_true hpr]; rfl, hs.chg0⟩
          · have hnext : ∀ a' b', a' < a + 1 → a' < b' → b' < n → enoB n k r o a' b' = false := fun a' b' x1 x2 x3 => by
              rcases Nat.lt_or_ge a' a with e | e
              · exact hinv a' b' e x2 x3
              · obtain rfl : a' = a := by omega
                exact hinv2 b' x2 (by omega)
            clear hc hK2
            (refine q_exit _ rfl (q_blk (q_region (ql_pure tabOk rfl rfl (ql_ar tabOk rfl rfl rfl rfl (by omega) (by omega) (ql_pure tabOk rfl rfl (q_nil ?_)))))))
            exact hK (a + 1) _ _ ⟨by omega, hnext⟩ (by omega) ⟨rfl, rfl, rfl, rfl, trivial⟩ (by repeat constructor)
        · have hpr : ¬ planO n k o ≤ r := fun h => by
            obtain ⟨a', b', x1, x2, x3⟩ := hen.1 h
            rw [hinv a' b' (by omega) x1 x2] at x3
            exact absurd x3 (by simp)
          (refine q_exit _ rfl (q_seq (q_region (ql_pure tabOk rfl rfl (q_nil (q_ret ?_))))))
          refine q_fin tabOk rfl (by repeat constructor) fun w hs => ?_
          exact ⟨by rw [decide_eq_false hpr]; rfl, hs.chg0⟩
end Go.Proofs.YtcmpdmobmbbplaaGreat

/- Walks of the reference: the fewest further runs, and errors of plans. -/
namespace Go.Proofs.YtcmpdmobmbbplaaGreat
set_option maxRecDepth 4000
open Go Go.Eng
theorem selrd2 {w0 w : World} {M : Nat → Prop} {H : List Ck} {v : Value} {Y xs : List (Value × List Int)} {n t t2 : Nat} (hs : Sat w0 M H w) (h1 : un (rowsO t Y) ∈ H) (hsub : ∀ p ∈ xs, p ∈ Y) (h2 : Ck.ow v t2 1 n (xs.map (·.1)) ∈ H) : RdII w 0 w.heap.size v (xs.map (·.2)) := selrd (hs.mem h1) hsub (hs.mem h2)
theorem rfewest_ca (n k : Nat) (hn : n ≤ 6) (h1 : 1 ≤ n) (hk : k ≤ n) (o : Nat) (w : World) (lo hi : Nat) (v : Value) (ho : Ord o) (hc : NoC o n) (hi' : InO o n) (h : RdII w lo hi v ((FL o n n).map chI)) (hh : hi ≤ w.heap.size) :
    Ca Tryz.prog 70 [v, .int .i64 k] w fun x w' => x = .int .i64 (planO n k o : Nat) ∧ Chg [] w w' := by
  have hpl := plan_le (n := n) (k := k) (show n ≤ 8 by omega) ho
  have hnn : n * n ≤ 36 := Nat.mul_le_mul hn hn
  refine q_of (Sat.nil w M0) Tryz.func70 rfl (by simp [Tryz.ntmps70]) ?_
  (refine q_seq (q_region (ql_pure tabOk rfl rfl (q_nil (q_seq (q_region (ql_pure tabOk rfl rfl (q_nil (q_seq (q_block ?_))))))))))
  refine q_loop (σ := Nat) (fun i => i ≤ planO n k o) (fun i => planO n k o - i) (fun i => [(0, v), (1, .int .i64 k), (5, .int .i64 i)]) (fun _ => []) 0 (by omega) ⟨rfl, rfl, rfl, trivial⟩ (by repeat constructor) ?_
  rintro i hip K hK
  (refine q_seq (q_seq (q_region ?_)); (iterate 3 refine ql_pure tabOk rfl rfl ?_))
  refine ql_callv (val := .bool (decide (planO n k o ≤ i))) tabOk rfl rfl rfl rfl (fun w hs => ?_) ?_; exact renough_ca n k hn h1 hk i o w lo hi v (by omega) ho hc hi' (RdII.keep h hs.chg0) (Nat.le_trans hh hs.chg0.size)
  by_cases he : planO n k o ≤ i
  · obtain rfl : i = planO n k o := by omega
    rw [decide_eq_true (Nat.le_refl _)]
    (refine ql_pure tabOk rfl rfl (q_nil (q_cond_false rfl (q_exit _ rfl (q_seq (q_region (ql_pure tabOk rfl rfl (ql_pure tabOk rfl rfl (q_nil (q_ret ?_))))))))))
    refine q_fin tabOk rfl (by repeat constructor) fun w hs => ?_
    exact ⟨rfl, hs.chg0⟩
  · rw [decide_eq_false he]
    (refine ql_pure tabOk rfl rfl (q_nil (q_cond_true rfl (q_skip (q_block (q_region (ql_pure tabOk rfl rfl (ql_ar tabOk rfl rfl rfl rfl (by omega) (by omega) (ql_pure tabOk rfl rfl (q_nil (q_blk ?_)))))))))))
    exact hK (i + 1) _ _ (by omega) (by omega) ⟨rfl, rfl, rfl, trivial⟩ (by repeat constructor)
theorem rplaced_ca (w : World) (lo hi : Nat) (l : Lb) (v : Value) (k : Int) (h : RdR w lo hi v l.runs) (hlen : l.runs.length ≤ maxLen) : Ca Tryz.prog 65 [.agg (lbC l v).toArray, .int .i64 k] w fun x w' => x = .int .i64 (placedV l k) ∧ Chg [] w w' := by
  refine q_of (Sat.nil w M0) Tryz.func65 rfl (by simp [Tryz.ntmps65]) ?_
  (refine q_seq (q_region ?_))
  refine ql_box rfl rfl (fun b2 => ?_)
  rw [agg_cells]
  (refine ql_pure tabOk rfl rfl (q_nil (q_seq (q_seq (q_region ?_)))); refine ql_loadABa tabOk rfl rfl rfl ?_)
  refine ql_callv (val := .int .i64 (checkV l)) tabOk rfl rfl rfl rfl (fun w hs => ?_) ?_; exact rcheck_ca w lo hi l v (RdE.keep h hs.chg0) hlen
  unfold placedV
  by_cases hc : checkV l = 0
  · rw [if_neg (by rw [hc]; simp), hc]
    (refine ql_pure tabOk rfl rfl (q_nil (q_seq (q_region (ql_pure tabOk rfl rfl (ql_neqF tabOk rfl rfl rfl (by omega) (q_nil (q_cond_false rfl (q_skip (q_seq (q_seq (q_region ?_))))))))))); refine ql_pure tabOk rfl rfl (ql_pure tabOk rfl rfl ?_); refine ql_loadBa tabOk rfl rfl rfl ?_)
    refine ql_callv (val := .bool (!(inB k 1 l.skis))) tabOk rfl rfl rfl rfl (fun w hs => ?_) ?_; exact out_ca k 1 l.skis w
    cases hb : inB k 1 l.skis with
    | true =>
      (refine q_nil (q_cond_false rfl (q_skip (q_seq (q_region (ql_pure tabOk rfl rfl (q_nil (q_ret ?_))))))))
      refine q_fin tabOk rfl (by repeat constructor) fun w hs => ?_
      exact ⟨rfl, hs.chg0⟩
    | false =>
      (refine q_nil (q_cond_true rfl (q_seq (q_region (ql_pure tabOk rfl rfl (q_nil (q_ret ?_)))))))
      refine q_fin tabOk rfl (by repeat constructor) fun w hs => ?_
      exact ⟨rfl, hs.chg0⟩
  · rw [if_pos hc]
    (refine ql_pure tabOk rfl rfl (q_nil (q_seq (q_region (ql_pure tabOk rfl rfl (ql_neqT tabOk rfl rfl rfl (by omega) (q_nil (q_cond_true rfl (q_seq (q_region (ql_pure tabOk rfl rfl (ql_pure tabOk rfl rfl ?_))))))))))); refine q_nil (q_ret ?_))
    refine q_fin tabOk rfl (by repeat constructor) fun w hs => ?_
    exact ⟨rfl, hs.chg0⟩
theorem rplanned_ca (w : World) (lo hi : Nat) (l : Lb) (v : Value) (k : Int) (h : RdR w lo hi v l.runs) (hlen : l.runs.length ≤ maxLen) : Ca Tryz.prog 69 [.agg (lbC l v).toArray, .int .i64 k] w fun x w' => x = .int .i64 (plannedV l k) ∧ Chg [] w w' := by
  refine q_of (Sat.nil w M0) Tryz.func69 rfl (by simp [Tryz.ntmps69]) ?_
  (refine q_seq (q_region ?_))
  refine ql_box rfl rfl (fun b2 => ?_)
  rw [agg_cells]
  (refine ql_pure tabOk rfl rfl (q_nil (q_seq (q_seq (q_region ?_)))); refine ql_loadABa tabOk rfl rfl rfl ?_; refine ql_pure tabOk rfl rfl ?_)
  refine ql_callv (val := .int .i64 (placedV l k)) tabOk rfl rfl rfl rfl (fun w hs => ?_) ?_; exact rplaced_ca w lo hi l v k (RdE.keep h hs.chg0) hlen
  unfold plannedV
  by_cases hc : placedV l k = 0
  · rw [if_neg (by rw [hc]; simp), hc]
    by_cases h5 : 5 < l.skis
    · rw [if_pos h5]
      (refine ql_pure tabOk rfl rfl (q_nil (q_seq (q_region (ql_pure tabOk rfl rfl (ql_neqF tabOk rfl rfl rfl (by omega) (q_nil (q_cond_false rfl (q_skip (q_seq (q_seq (q_region ?_))))))))))); refine ql_pure tabOk rfl rfl ?_; refine ql_loadBa tabOk rfl rfl rfl ?_; refine ql_gtrT tabOk rfl rfl rfl (by omega) (q_nil (q_cond_true rfl (q_seq (q_region (ql_pure tabOk rfl rfl (q_nil (q_ret ?_))))))))
      refine q_fin tabOk rfl (by repeat constructor) fun w hs => ?_
      exact ⟨rfl, hs.chg0⟩
    · rw [if_neg h5]
      (refine ql_pure tabOk rfl rfl (q_nil (q_seq (q_region (ql_pure tabOk rfl rfl (ql_neqF tabOk rfl rfl rfl (by omega) (q_nil (q_cond_false rfl (q_skip (q_seq (q_seq (q_region ?_))))))))))); refine ql_pure tabOk rfl rfl ?_; refine ql_loadBa tabOk rfl rfl rfl ?_; refine ql_gtrF tabOk rfl rfl rfl (by omega) (q_nil (q_cond_false rfl (q_skip (q_seq (q_region ?_))))); refine ql_loadABa tabOk rfl rfl rfl ?_)
      refine ql_callv (val := .int .i64 (agreedV l)) tabOk rfl rfl rfl rfl (fun w hs => ?_) ?_; exact ragreed_ca w lo hi l v (RdE.keep h hs.chg0) hlen
      (refine ql_pure tabOk rfl rfl (q_nil (q_ret ?_)))
      refine q_fin tabOk rfl (by repeat constructor) fun w hs => ?_
      exact ⟨rfl, hs.chg0⟩
  · rw [if_pos hc]
    (refine ql_pure tabOk rfl rfl (q_nil (q_seq (q_region (ql_pure tabOk rfl rfl (ql_neqT tabOk rfl rfl rfl (by omega) (q_nil (q_cond_true rfl (q_seq (q_region (ql_pure tabOk rfl rfl (ql_pure tabOk rfl rfl ?_))))))))))); refine q_nil (q_ret ?_))
    refine q_fin tabOk rfl (by repeat constructor) fun w hs => ?_
    exact ⟨rfl, hs.chg0⟩
def knV (l : Lb) (k : Int) : Bool × Int := if placedV l k ≠ 0 then (false, placedV l k) else if agreedV l ≠ 0 then (false, agreedV l) else (knownO l.ord l.n k.toNat, 0)
theorem placed_ok {l : Lb} {k : Int} (h : placedV l k = 0) (h0 : agreedV l = 0) : l.Ok ∧ NoC l.ord l.n ∧ ∃ m : Nat, k = (m : Int) ∧ 1 ≤ m ∧ m ≤ l.n := by
  obtain ⟨h1, h2, h3⟩ := placed_iff.1 h
  obtain ⟨n, en, hn', h8, h9⟩ := h1.nat
  exact ⟨h1, (agreed_iff.1 h0).2, k.toNat, by omega, by omega, by omega⟩
/-- The program. -/
theorem knownP_ca (w : World) (lo hi : Nat) (l : Lb) (v : Value) (k : Int) (h : RdR w lo hi v l.runs) (hlen : l.runs.length ≤ maxLen) : Ca Tryz.prog 13 [.agg (lbC l v).toArray, .int .i64 k] w fun x w' => x = .tuple #[.bool (knV l k).1, .int .i64 (knV l k).2] ∧ Chg [] w w' := by
  unfold knV
  by_cases hp : placedV l k = 0
  · rw [if_neg (by rw [hp]; simp)]
    by_cases h0 : agreedV l = 0
    · rw [if_neg (by rw [h0]; simp)]
      obtain ⟨hl, hc, m, rfl, k1, k2⟩ := placed_ok hp h0
      exact known_ok w lo hi l v m h hl hc k1 k2
    · rw [if_pos h0]
      refine q_of (Sat.nil w M0) Tryz.func13 rfl (by simp [Tryz.ntmps13]) ?_
      (refine q_seq (q_region ?_))
      refine ql_box rfl rfl (fun b2 => ?_)
      rw [agg_cells]
      (refine ql_pure tabOk rfl rfl (ql_pure tabOk rfl rfl (q_nil (q_seq (q_seq (q_region ?_))))); refine ql_loadABa tabOk rfl rfl rfl ?_; refine ql_pure tabOk rfl rfl ?_)
      refine ql_callv (val := .int .i64 (placedV l k)) tabOk rfl rfl rfl rfl (fun w hs => ?_) ?_; exact placed_ca w lo hi l v k (RdE.keep h hs.chg0) hlen
      rw [hp]
      (refine ql_pure tabOk rfl rfl (q_nil (q_seq (q_region (ql_pure tabOk rfl rfl (ql_neqF tabOk rfl rfl rfl (by omega) (q_nil (q_cond_false rfl (q_skip (q_seq (q_region ?_)))))))))); refine ql_loadABa tabOk rfl rfl rfl ?_)
      refine ql_call (β := Option Addr) tabOk [] _ M0 rfl rfl rfl rfl (Sp.refl _) (fun _ h => h.elim) (fun w' hs => agreed_no w' lo hi l v (RdE.keep h hs.chg0) hlen h0) ?_
      rintro p _ rfl
      dsimp only [List.cons_append, List.nil_append]
      (refine ql_pure tabOk rfl rfl (ql_ext tabOk rfl rfl rfl (ql_ext tabOk rfl rfl rfl (ql_pure tabOk rfl rfl (ql_pure tabOk rfl rfl (q_nil (q_seq (q_seq (q_region (ql_pure tabOk rfl rfl (ql_neqT tabOk rfl rfl rfl (by omega) (q_nil ?_))))))))))); refine q_cond_true rfl (q_seq (q_region ?_)); (iterate 3 refine ql_pure tabOk rfl rfl ?_); refine q_nil (q_ret ?_))
      refine q_fin tabOk rfl (by repeat constructor) fun w hs => ?_
      exact ⟨rfl, hs.chg0⟩
  · rw [if_pos hp]
    refine q_of (Sat.nil w M0) Tryz.func13 rfl (by simp [Tryz.ntmps13]) ?_
    (refine q_seq (q_region ?_))
    refine ql_box rfl rfl (fun b2 => ?_)
    rw [agg_cells]
    (refine ql_pure tabOk rfl rfl (ql_pure tabOk rfl rfl (q_nil (q_seq (q_seq (q_region ?_))))); refine ql_loadABa tabOk rfl rfl rfl ?_; refine ql_pure tabOk rfl rfl ?_)
    refine ql_callv (val := .int .i64 (placedV l k)) tabOk rfl rfl rfl rfl (fun w hs => ?_) ?_; exact placed_ca w lo hi l v k (RdE.keep h hs.chg0) hlen
    (refine ql_pure tabOk rfl rfl (q_nil (q_seq (q_region (ql_pure tabOk rfl rfl (ql_neqT tabOk rfl rfl rfl (by omega) (q_nil (q_cond_true rfl (q_seq (q_region ?_))))))))); (iterate 3 refine ql_pure tabOk rfl rfl ?_); refine q_nil (q_ret ?_))
    refine q_fin tabOk rfl (by repeat constructor) fun w hs => ?_
    exact ⟨rfl, hs.chg0⟩
set_option maxHeartbeats 1000000 in
/-- The reference. -/
theorem rknown_ca (w : World) (lo hi : Nat) (l : Lb) (v : Value) (k : Int) (h : RdR w lo hi v l.runs) (hlen : l.runs.length ≤ maxLen) (h6 : l.skis ≤ 6 ∨ 8 < l.skis) : Ca Tryz.prog 14 [.agg (lbC l v).toArray, .int .i64 k] w fun x w' => x = .tuple #[.bool (knV l k).1, .int .i64 (knV l k).2] ∧ Chg [] w w' := by
  unfold knV
  refine q_of (Sat.nil w M0) Tryz.func14 rfl (by simp [Tryz.ntmps14]) ?_
  (refine q_seq (q_region ?_))
  refine ql_box rfl rfl (fun b2 => ?_)
  rw [agg_cells]
  (refine ql_pure tabOk rfl rfl (ql_pure tabOk rfl rfl (q_nil (q_seq (q_seq (q_region ?_))))); refine ql_loadABa tabOk rfl rfl rfl ?_; refine ql_pure tabOk rfl rfl ?_)
  refine ql_callv (val := .int .i64 (placedV l k)) tabOk rfl rfl rfl rfl (fun w hs => ?_) ?_; exact rplaced_ca w lo hi l v k (RdE.keep h hs.chg0) hlen
  by_cases hp : placedV l k = 0
  · rw [if_neg (by rw [hp]; simp), hp]
    (refine ql_pure tabOk rfl rfl (q_nil (q_seq (q_region (ql_pure tabOk rfl rfl (ql_neqF tabOk rfl rfl rfl (by omega) (q_nil (q_cond_false rfl (q_skip (q_seq (q_seq (q_region ?_))))))))))); refine ql_loadABa tabOk rfl rfl rfl ?_)
    refine ql_callv (val := .int .i64 (agreedV l)) tabOk rfl rfl rfl rfl (fun w hs => ?_) ?_; exact ragreed_ca w lo hi l v (RdE.keep h hs.chg0) hlen
    by_cases h0 : agreedV l = 0
    · rw [if_neg (by rw [h0]; simp), h0]
      obtain ⟨hl, hc, m, rfl, k1, k2⟩ := placed_ok hp h0
      obtain ⟨n, en, hn', h8, h9⟩ := hl.nat
      have h6' : l.n ≤ 6 := by omega
      have hi' := hl.inO
      rw [Int.toNat_natCast]
      (refine ql_pure tabOk rfl rfl (q_nil (q_seq (q_region (ql_pure tabOk rfl rfl (ql_neqF tabOk rfl rfl rfl (by omega) (q_nil (q_cond_false rfl (q_skip (q_seq (q_region ?_)))))))))); refine ql_loadABa tabOk rfl rfl rfl ?_)
      refine ql_call (β := Value × List (Value × List Int) × List (Value × List Int)) tabOk [] _ M0 rfl rfl rfl rfl (Sp.refl _) (fun _ h => h.elim) (fun w' hs => fitting_ca w' lo hi l v (RdE.keep h hs.chg0) hl h6') ?_
      rintro ⟨_, Y, sel⟩ v20 ⟨rfl, hsub, hmap⟩
      dsimp only [List.cons_append, List.nil_append] at hsub hmap ⊢
      (refine ql_pure tabOk rfl rfl ?_)
      refine ql_callv (val := .int .i64 (preN (FL l.ord l.n l.n) m : Nat)) tabOk rfl rfl rfl rfl (fun w hs => ?_) ?_; exact rprefixes_ca w 0 w.heap.size v20 (FL l.ord l.n l.n) m (by have := selrd2 hs (v := v20) (t := 3) (t2 := 48) (n := sel.length) (by repeat constructor) hsub (by repeat constructor); rw [hmap] at this; exact this) (by have := fl_bd (o := l.ord) h6'; omega) (fun L hL => by rw [((fl_mem (by omega) hi').1 hL).len]; exact k2) (by omega)
      have hkn := pre_known (k := m) hc hl.o hl.n8 hi' k2
      have hN1 : 1 ≤ preN (FL l.ord l.n l.n) m := by
        obtain ⟨L0, hL0⟩ := fl_ne hc hl.o hl.n8
        exact dl_pos (List.mem_map.2 ⟨L0, hL0, rfl⟩)
      generalize preN (FL l.ord l.n l.n) m = N at hkn hN1 ⊢
      cases hk : knownO l.ord l.n m with
      | true =>
        obtain rfl : N = 1 := by have := hkn.2 hk; omega
        (refine ql_eqlT tabOk rfl rfl rfl (by omega) (ql_pure tabOk rfl rfl (ql_pure tabOk rfl rfl (q_nil (q_ret ?_)))))
        refine q_fin tabOk rfl (by repeat constructor) fun w hs => ?_
        exact ⟨rfl, hs.chg0⟩
      | false =>
        have hN2 : ¬ N = 1 := fun h => by rw [hkn.1 (by omega)] at hk; exact absurd hk (by simp)
        (refine ql_eqlF tabOk rfl rfl rfl (by omega) (ql_pure tabOk rfl rfl (ql_pure tabOk rfl rfl (q_nil (q_ret ?_)))))
        refine q_fin tabOk rfl (by repeat constructor) fun w hs => ?_
        exact ⟨rfl, hs.chg0⟩
    · rw [if_pos h0]
      (refine ql_pure tabOk rfl rfl (q_nil (q_seq (q_region (ql_pure tabOk rfl rfl (ql_neqT tabOk rfl rfl rfl (by omega) (q_nil (q_cond_true rfl (q_seq (q_region ?_))))))))); (iterate 3 refine ql_pure tabOk rfl rfl ?_); refine q_nil (q_ret ?_))
      refine q_fin tabOk rfl (by repeat constructor) fun w hs => ?_
      exact ⟨rfl, hs.chg0⟩
  · rw [if_pos hp]
    (refine ql_pure tabOk rfl rfl (q_nil (q_seq (q_region (ql_pure tabOk rfl rfl (ql_neqT tabOk rfl rfl rfl (by omega) (q_nil (q_cond_true rfl (q_seq (q_region ?_))))))))); (iterate 3 refine ql_pure tabOk rfl rfl ?_); refine q_nil (q_ret ?_))
    refine q_fin tabOk rfl (by repeat constructor) fun w hs => ?_
    exact ⟨rfl, hs.chg0⟩
set_option maxHeartbeats 1000000 in
theorem rfewestA_ca (w : World) (lo hi : Nat) (l : Lb) (v : Value) (k : Int) (h : RdR w lo hi v l.runs) (hlen : l.runs.length ≤ maxLen) : Ca Tryz.prog 16 [.agg (lbC l v).toArray, .int .i64 k] w fun x w' => x = .tuple #[.int .i64 (fewestV l k).1, .int .i64 (fewestV l k).2] ∧ Chg [] w w' := by
  unfold fewestV
  refine q_of (Sat.nil w M0) Tryz.func16 rfl (by simp [Tryz.ntmps16]) ?_
  (refine q_seq (q_region ?_))
  refine ql_box rfl rfl (fun b2 => ?_)
  rw [agg_cells]
  (refine ql_pure tabOk rfl rfl (ql_pure tabOk rfl rfl (q_nil (q_seq (q_seq (q_region ?_))))); refine ql_loadABa tabOk rfl rfl rfl ?_; refine ql_pure tabOk rfl rfl ?_)
  refine ql_callv (val := .int .i64 (plannedV l k)) tabOk rfl rfl rfl rfl (fun w hs => ?_) ?_; exact rplanned_ca w lo hi l v k (RdE.keep h hs.chg0) hlen
  by_cases hp : plannedV l k = 0
  · rw [if_neg (by rw [hp]; simp), hp]
    obtain ⟨hl, hc, k1, k2, k5⟩ := planned_iff.1 hp
    obtain ⟨n, en, hn', h8, h9⟩ := hl.nat
    obtain ⟨m, rfl⟩ : ∃ m : Nat, k = (m : Int) := ⟨k.toNat, by omega⟩
    have h6' : l.n ≤ 6 := by omega
    rw [Int.toNat_natCast]
    (refine ql_pure tabOk rfl rfl (q_nil (q_seq (q_region (ql_pure tabOk rfl rfl (ql_neqF tabOk rfl rfl rfl (by omega) (q_nil (q_cond_false rfl (q_skip (q_seq (q_region ?_)))))))))); refine ql_loadABa tabOk rfl rfl rfl ?_)
    refine ql_call (β := Value × List (Value × List Int) × List (Value × List Int)) tabOk [] _ M0 rfl rfl rfl rfl (Sp.refl _) (fun _ h => h.elim) (fun w' hs => fitting_ca w' lo hi l v (RdE.keep h hs.chg0) hl h6') ?_
    rintro ⟨_, Y, sel⟩ v14 ⟨rfl, hsub, hmap⟩
    dsimp only [List.cons_append, List.nil_append] at hsub hmap ⊢
    (refine ql_pure tabOk rfl rfl ?_)
    refine ql_callv (val := .int .i64 (planO l.n m l.ord : Nat)) tabOk rfl rfl rfl rfl (fun w hs => ?_) ?_; exact rfewest_ca l.n m h6' (by omega) (by omega) l.ord w 0 w.heap.size v14 hl.o hc hl.inO (by have := selrd2 hs (v := v14) (t := 3) (t2 := 48) (n := sel.length) (by repeat constructor) hsub (by repeat constructor); rw [hmap] at this; exact this) (Nat.le_refl _)
    (refine ql_pure tabOk rfl rfl (ql_pure tabOk rfl rfl (q_nil (q_ret ?_))))
    refine q_fin tabOk rfl (by repeat constructor) fun w hs => ?_
    exact ⟨rfl, hs.chg0⟩
  · rw [if_pos hp]
    (refine ql_pure tabOk rfl rfl (q_nil (q_seq (q_region (ql_pure tabOk rfl rfl (ql_neqT tabOk rfl rfl rfl (by omega) (q_nil (q_cond_true rfl (q_seq (q_region ?_))))))))); (iterate 3 refine ql_pure tabOk rfl rfl ?_); refine q_nil (q_ret ?_))
    refine q_fin tabOk rfl (by repeat constructor) fun w hs => ?_
    exact ⟨rfl, hs.chg0⟩
end Go.Proofs.YtcmpdmobmbbplaaGreat

/- What a run is worth: program and reference. -/
namespace Go.Proofs.YtcmpdmobmbbplaaGreat
set_option maxRecDepth 4000
open Go Go.Eng
def wpB (l : Lb) (a b : Int) : Bool := !(inB a 0 (l.skis - 1)) || (!(inB b 0 (l.skis - 1)) || decide (a = b))
def wpV (l : Lb) (k a b : Int) : Int × Int := if plannedV l k ≠ 0 then (0, plannedV l k) else if wpB l a b = true then (0, 1) else ((worthV l.n k.toNat l.ord a.toNat b.toNat : Nat), 0)
theorem half_all {o n a b : Nat} (hn : n ≤ 8) (hi : InO o n) (ha : a < n) (hb : b < n) (hf : fa o a b = true) : (FL o n n).filter (bfB a b) = FL o n n := List.filter_eq_self.2 fun L hL => by
  have h1 := ((fl_mem hn hi).1 hL).idx a b (by omega) (by omega) hf
  unfold bfB
  rw [decide_eq_true_iff]
  exact h1.2.2
theorem half_none {o n a b : Nat} (hn : n ≤ 8) (hi : InO o n) (ha : a < n) (hb : b < n) (hf : fa o a b = true) : (FL o n n).filter (bfB b a) = [] := List.filter_eq_nil_iff.2 fun L hL => by
  have h1 := ((fl_mem hn hi).1 hL).idx a b (by omega) (by omega) hf
  unfold bfB
  rw [decide_eq_true_iff]
  omega
theorem wp_args {l : Lb} {a b : Int} (h : wpB l a b = false) (hl : l.Ok) : ∃ x y : Nat, a = (x : Int) ∧ b = (y : Int) ∧ x < l.n ∧ y < l.n ∧ x ≠ y := by
  obtain ⟨n, en, hn', h8, h9⟩ := hl.nat
  unfold wpB at h
  simp only [Bool.or_eq_false_iff, Bool.not_eq_false', decide_eq_false_iff_not, inB_iff] at h
  exact ⟨a.toNat, b.toNat, by omega, by omega, by omega, by omega, by omega⟩
theorem selE {w0 w : World} {M : Nat → Prop} {H : List Ck} {v : Value} {sel : List (Value × List Int)} {n t : Nat} (hs : Sat w0 M H w) (h2 : Ck.ow v t 1 n (sel.map (·.1)) ∈ H) (h1 : RowsR w 0 w.heap.size sel) : RdE w 0 w.heap.size v 1 (sel.map (·.1)) := by
  have h3 := hs.mem h2
  have hn : n = (sel.map (·.1)).length := by have := h3.1; omega
  exact RdE.one (by rw [← hn]; exact own_rd h3) (fun e he => by
    obtain ⟨p, hp, rfl⟩ := List.mem_map.1 he
    obtain ⟨a, c, e, _⟩ := RdI.outI (h1 p hp)
    rw [e]; rfl)
theorem selR {w0 w : World} {M : Nat → Prop} {H : List Ck} {Y sel : List (Value × List Int)} {t : Nat} (hs : Sat w0 M H w) (hm : un (rowsO t Y) ∈ H) (hsub : ∀ p ∈ sel, p ∈ Y) : RowsR w 0 w.heap.size sel := fun p hp => own_rdI ((hs.mem hm).1 (.ow p.1 t 1 p.2.length (ints p.2)) (List.mem_map.2 ⟨_, hsub p hp, rfl⟩)) rfl
theorem worthA2_ca (w : World) (lo hi : Nat) (l : Lb) (v : Value) (k a b : Int) (h : RdR w lo hi v l.runs) (hlen : l.runs.length ≤ maxLen) : Ca Tryz.prog 19 [.agg (lbC l v).toArray, .int .i64 k, .int .i64 a, .int .i64 b] w fun x w' => x = .tuple #[.int .i64 (wpV l k a b).1, .int .i64 (wpV l k a b).2] ∧ Chg [] w w' := by
  unfold wpV
  by_cases hp : plannedV l k = 0
  · rw [if_neg (by rw [hp]; simp)]
    have hP := planned_iff.1 hp
    obtain ⟨n, en, hn', h8, h9⟩ := hP.ok.nat
    have k1 := hP.k1
    obtain ⟨m, rfl⟩ : ∃ m : Nat, k = (m : Int) := ⟨k.toNat, by omega⟩
    cases hw : wpB l a b with
    | false =>
      obtain ⟨x, y, rfl, rfl, hx, hy, hne⟩ := wp_args hw hP.ok
      rw [if_neg (by simp)]
      exact worthP_ok w lo hi l v m x y h hP hx hy hne
    | true =>
      rw [if_pos rfl]
      refine q_of (Sat.nil w M0) Tryz.func19 rfl (by simp [Tryz.ntmps19]) ?_
      (refine q_seq (q_region ?_))
      refine ql_box rfl rfl (fun b4 => ?_)
      rw [agg_cells]
      (refine ql_pure tabOk rfl rfl (ql_pure tabOk rfl rfl (q_nil (q_seq (q_region ?_)))); refine ql_loadABa tabOk rfl rfl rfl ?_; refine ql_pure tabOk rfl rfl ?_)
      refine ql_call (β := Nat) tabOk [] _ M0 rfl rfl rfl rfl (Sp.refl _) (fun _ h => h.elim) (fun w' hs => planned_ok w' lo hi l v m (RdE.keep h hs.chg0) hP) ?_
      rintro bp _ rfl
      dsimp only [List.cons_append, List.nil_append]
      (refine ql_pure tabOk rfl rfl (ql_ext tabOk rfl rfl rfl (ql_ext tabOk rfl rfl rfl (ql_pure tabOk rfl rfl (ql_pure tabOk rfl rfl (q_nil (q_seq (q_block (q_seq (q_region (ql_pure tabOk rfl rfl (ql_neqF tabOk rfl rfl rfl (by omega) ?_))))))))))); refine ql_pure tabOk rfl rfl (q_nil (q_cond_false rfl (q_seq (q_region (ql_pure tabOk rfl rfl (ql_pure tabOk rfl rfl ?_)))))); refine ql_loadBa tabOk rfl rfl rfl ?_; refine ql_ar tabOk rfl rfl rfl rfl (by omega) (by omega) ?_)
      refine ql_callv (val := .bool (inB a 0 (l.skis - 1))) tabOk rfl rfl rfl rfl (fun w hs => ?_) ?_; exact within_ca a 0 (l.skis - 1) w
      unfold wpB at hw
      cases h1 : inB a 0 (l.skis - 1) with
      | false =>
        (refine ql_pure tabOk rfl rfl (ql_pure tabOk rfl rfl ?_); (iterate 6 refine ql_gno rfl rfl rfl ?_); refine ql_pure tabOk rfl rfl (ql_pure tabOk rfl rfl ?_); (iterate 3 refine ql_gno rfl rfl rfl ?_); refine ql_pure tabOk rfl rfl (ql_pure tabOk rfl rfl (q_nil (q_cond_true rfl (q_seq (q_region (ql_pure tabOk rfl rfl (ql_pure tabOk rfl rfl (q_nil (q_ret ?_))))))))))
        refine q_fin tabOk rfl (by repeat constructor) fun w hs => ?_
        exact ⟨rfl, hs.chg0⟩
      | true =>
        rw [h1, Bool.not_true, Bool.false_or] at hw
        (refine ql_pure tabOk rfl rfl (ql_pure tabOk rfl rfl (ql_gyes rfl (ql_pure tabOk rfl rfl (ql_gyes rfl (ql_pure tabOk rfl rfl (ql_gyes rfl ?_)))))); refine ql_loadBa tabOk rfl rfl rfl ?_; refine ql_gyes rfl (ql_ar tabOk rfl rfl rfl rfl (by omega) (by omega) (ql_gyes rfl ?_)))
        refine ql_callv (val := .bool (inB b 0 (l.skis - 1))) tabOk rfl rfl rfl rfl (fun w hs => ?_) ?_; exact within_ca b 0 (l.skis - 1) w
        cases h2 : inB b 0 (l.skis - 1) with
        | false =>
          (refine ql_gyes rfl ?_; (iterate 3 refine ql_pure tabOk rfl rfl ?_); (iterate 3 refine ql_gno rfl rfl rfl ?_); refine ql_pure tabOk rfl rfl (ql_pure tabOk rfl rfl (q_nil (q_cond_true rfl (q_seq (q_region (ql_pure tabOk rfl rfl (ql_pure tabOk rfl rfl (q_nil (q_ret ?_))))))))))
          refine q_fin tabOk rfl (by repeat constructor) fun w hs => ?_
          exact ⟨rfl, hs.chg0⟩
        | true =>
          rw [h2, Bool.not_true, Bool.false_or] at hw
          have hab := of_decide_eq_true hw
          subst hab
          (refine ql_gyes rfl ?_; (iterate 3 refine ql_pure tabOk rfl rfl ?_); refine ql_gyes rfl (ql_pure tabOk rfl rfl (ql_gyes rfl (ql_pure tabOk rfl rfl (ql_gyes rfl (ql_eqlT tabOk rfl rfl rfl (by omega) (ql_pure tabOk rfl rfl (ql_pure tabOk rfl rfl (q_nil (q_cond_true rfl (q_seq (q_region ?_))))))))))); refine ql_pure tabOk rfl rfl (ql_pure tabOk rfl rfl (q_nil (q_ret ?_))))
          refine q_fin tabOk rfl (by repeat constructor) fun w hs => ?_
          exact ⟨rfl, hs.chg0⟩
  · rw [if_pos hp]
    refine q_of (Sat.nil w M0) Tryz.func19 rfl (by simp [Tryz.ntmps19]) ?_
    (refine q_seq (q_region ?_))
    refine ql_box rfl rfl (fun b4 => ?_)
    rw [agg_cells]
    (refine ql_pure tabOk rfl rfl (ql_pure tabOk rfl rfl (q_nil (q_seq (q_region ?_)))); refine ql_loadABa tabOk rfl rfl rfl ?_; refine ql_pure tabOk rfl rfl ?_)
    refine ql_call (β := Option Addr) tabOk [] _ M0 rfl rfl rfl rfl (Sp.refl _) (fun _ h => h.elim) (fun w' hs => planned_no w' lo hi l v k (RdE.keep h hs.chg0) hlen hp) ?_
    rintro p _ rfl
    dsimp only [List.cons_append, List.nil_append]
    (refine ql_pure tabOk rfl rfl (ql_ext tabOk rfl rfl rfl (ql_ext tabOk rfl rfl rfl (ql_pure tabOk rfl rfl (ql_pure tabOk rfl rfl (q_nil (q_seq (q_block (q_seq (q_region (ql_pure tabOk rfl rfl (ql_neqT tabOk rfl rfl rfl (by omega) ?_))))))))))); refine ql_pure tabOk rfl rfl (q_nil (q_cond_true rfl (q_seq (q_region ?_)))); (iterate 3 refine ql_pure tabOk rfl rfl ?_); refine q_nil (q_ret ?_))
    refine q_fin tabOk rfl (by repeat constructor) fun w hs => ?_
    exact ⟨rfl, hs.chg0⟩
set_option maxHeartbeats 2000000 in
theorem rworthA_ca (w : World) (lo hi : Nat) (l : Lb) (v : Value) (k a b : Int) (h : RdR w lo hi v l.runs) (hlen : l.runs.length ≤ maxLen) : Ca Tryz.prog 18 [.agg (lbC l v).toArray, .int .i64 k, .int .i64 a, .int .i64 b] w fun x w' => x = .tuple #[.int .i64 (wpV l k a b).1, .int .i64 (wpV l k a b).2] ∧ Chg [] w w' := by
  unfold wpV
  refine q_of (Sat.nil w M0) Tryz.func18 rfl (by simp [Tryz.ntmps18]) ?_
  (refine q_seq (q_region ?_))
  refine ql_box rfl rfl (fun b4 => ?_)
  rw [agg_cells]
  (refine ql_pure tabOk rfl rfl (ql_pure tabOk rfl rfl (q_nil (q_seq (q_seq (q_region ?_))))); refine ql_loadABa tabOk rfl rfl rfl ?_; refine ql_pure tabOk rfl rfl ?_)
  refine ql_callv (val := .int .i64 (plannedV l k)) tabOk rfl rfl rfl rfl (fun w hs => ?_) ?_; exact rplanned_ca w lo hi l v k (RdE.keep h hs.chg0) hlen
  by_cases hp : plannedV l k = 0
  · rw [if_neg (by rw [hp]; simp), hp]
    obtain ⟨hl, hc, k1, k2, k5⟩ := planned_iff.1 hp
    obtain ⟨n, en, hn', h8, h9⟩ := hl.nat
    obtain ⟨m, rfl⟩ : ∃ m : Nat, k = (m : Int) := ⟨k.toNat, by omega⟩
    have h6' : l.n ≤ 6 := by omega
    rw [Int.toNat_natCast]
    (refine ql_pure tabOk rfl rfl (q_nil (q_seq (q_region (ql_pure tabOk rfl rfl (ql_neqF tabOk rfl rfl rfl (by omega) (q_nil (q_cond_false rfl (q_skip (q_seq (q_seq (q_region ?_))))))))))); refine ql_pure tabOk rfl rfl (ql_pure tabOk rfl rfl ?_); refine ql_loadBa tabOk rfl rfl rfl ?_; refine ql_ar tabOk rfl rfl rfl rfl (by omega) (by omega) ?_)
    refine ql_callv (val := .bool (!(inB a 0 (l.skis - 1)))) tabOk rfl rfl rfl rfl (fun w hs => ?_) ?_; exact out_ca a 0 (l.skis - 1) w
    cases hw : wpB l a b with
    | true =>
      rw [if_pos rfl]
      unfold wpB at hw
      cases h1 : inB a 0 (l.skis - 1) with
      | false =>
        (refine ql_pure tabOk rfl rfl ?_; (iterate 5 refine ql_gno rfl rfl rfl ?_); refine ql_pure tabOk rfl rfl (ql_pure tabOk rfl rfl ?_); (iterate 3 refine ql_gno rfl rfl rfl ?_); refine ql_pure tabOk rfl rfl (q_nil (q_cond_true rfl (q_seq (q_region (ql_pure tabOk rfl rfl (ql_pure tabOk rfl rfl (q_nil (q_ret ?_)))))))))
        refine q_fin tabOk rfl (by repeat constructor) fun w hs => ?_
        exact ⟨rfl, hs.chg0⟩
      | true =>
        rw [h1, Bool.not_true, Bool.false_or] at hw
        (refine ql_pure tabOk rfl rfl (ql_gyes rfl (ql_pure tabOk rfl rfl (ql_gyes rfl (ql_pure tabOk rfl rfl (ql_gyes rfl ?_))))); refine ql_loadBa tabOk rfl rfl rfl ?_; refine ql_gyes rfl (ql_ar tabOk rfl rfl rfl rfl (by omega) (by omega) (ql_gyes rfl ?_)))
        refine ql_callv (val := .bool (!(inB b 0 (l.skis - 1)))) tabOk rfl rfl rfl rfl (fun w hs => ?_) ?_; exact out_ca b 0 (l.skis - 1) w
        cases h2 : inB b 0 (l.skis - 1) with
        | false =>
          (refine ql_pure tabOk rfl rfl (ql_pure tabOk rfl rfl ?_); (iterate 3 refine ql_gno rfl rfl rfl ?_); refine ql_pure tabOk rfl rfl (q_nil (q_cond_true rfl (q_seq (q_region (ql_pure tabOk rfl rfl (ql_pure tabOk rfl rfl (q_nil (q_ret ?_)))))))))
          refine q_fin tabOk rfl (by repeat constructor) fun w hs => ?_
          exact ⟨rfl, hs.chg0⟩
        | true =>
          rw [h2, Bool.not_true, Bool.false_or] at hw
          have hab := of_decide_eq_true hw
          subst hab
          (refine ql_pure tabOk rfl rfl (ql_pure tabOk rfl rfl (ql_gyes rfl (ql_pure tabOk rfl rfl (ql_gyes rfl (ql_pure tabOk rfl rfl (ql_gyes rfl (ql_eqlT tabOk rfl rfl rfl (by omega) (ql_pure tabOk rfl rfl (q_nil (q_cond_true rfl (q_seq ?_))))))))))); refine q_region (ql_pure tabOk rfl rfl (ql_pure tabOk rfl rfl (q_nil (q_ret ?_)))))
          refine q_fin tabOk rfl (by repeat constructor) fun w hs => ?_
          exact ⟨rfl, hs.chg0⟩
    | false =>
      rw [if_neg (by simp)]
      have hw2 := hw
      unfold wpB at hw
      simp only [Bool.or_eq_false_iff, Bool.not_eq_false', decide_eq_false_iff_not] at hw
      obtain ⟨h1, h2, h3⟩ := hw
      rw [h1]
      (refine ql_pure tabOk rfl rfl (ql_gyes rfl (ql_pure tabOk rfl rfl (ql_gyes rfl (ql_pure tabOk rfl rfl (ql_gyes rfl ?_))))); refine ql_loadBa tabOk rfl rfl rfl ?_; refine ql_gyes rfl (ql_ar tabOk rfl rfl rfl rfl (by omega) (by omega) (ql_gyes rfl ?_)))
      refine ql_callv (val := .bool (!(inB b 0 (l.skis - 1)))) tabOk rfl rfl rfl rfl (fun w hs => ?_) ?_; exact out_ca b 0 (l.skis - 1) w
      rw [h2]
      (refine ql_pure tabOk rfl rfl (ql_pure tabOk rfl rfl (ql_gyes rfl (ql_pure tabOk rfl rfl (ql_gyes rfl (ql_pure tabOk rfl rfl (ql_gyes rfl (ql_eqlF tabOk rfl rfl rfl (by omega) (ql_pure tabOk rfl rfl (q_nil (q_cond_false rfl (q_skip ?_))))))))))); refine q_seq (q_region ?_); refine ql_loadABa tabOk rfl rfl rfl ?_)
      obtain ⟨x, y, rfl, rfl, hx, hy, hne⟩ := wp_args hw2 hl
      rw [Int.toNat_natCast, Int.toNat_natCast]
      have hlen2 : ∀ L ∈ FL l.ord l.n l.n, L.length = l.n := fun L hL => ((fl_mem hl.n8 hl.inO).1 hL).len
      have hbd := fl_bd (o := l.ord) h6'
      have hnn : l.n * l.n ≤ 36 := Nat.mul_le_mul h6' h6'
      have hpl := fun o (ho : Ord o) => Nat.le_trans (plan_le (k := m) hl.n8 ho) hnn
      have hpl0 := hpl l.ord hl.o
      refine ql_call (β := Value × List (Value × List Int) × List (Value × List Int)) tabOk [] _ M0 rfl rfl rfl rfl (Sp.refl _) (fun _ h => h.elim) (fun w' hs => fitting_ca w' lo hi l v (RdE.keep h hs.chg0) hl h6') ?_
      rintro ⟨_, Y, sel⟩ v38 ⟨rfl, hsub, hmap⟩
      dsimp only [List.cons_append, List.nil_append] at hsub hmap ⊢
      (refine ql_pure tabOk rfl rfl (q_nil (q_seq (q_region (ql_pure tabOk rfl rfl (q_nil (q_seq (q_region ?_))))))); (iterate 3 refine ql_pure tabOk rfl rfl ?_))
      refine ql_call (β := Value × List (Value × List Int)) tabOk [] _ M0 rfl rfl rfl rfl (Sp.refl _) (fun _ h => h.elim) (fun w' hs => rhalf_ca w' 0 w'.heap.size v38 (FL l.ord l.n l.n) sel x y (selE hs (t := 48) (n := sel.length) (by repeat constructor) (selR hs (t := 3) (Y := Y) (by repeat constructor) hsub)) (selR hs (t := 3) (Y := Y) (by repeat constructor) hsub) hmap (by omega) (fun L hL => by rw [hlen2 L hL]; omega) (fun L hL => by rw [hlen2 L hL]; omega)) ?_
      rintro ⟨_, Z1⟩ v43 ⟨rfl, hs1, hm1⟩
      dsimp only [List.cons_append, List.nil_append] at hs1 hm1 ⊢
      refine ql_fact (fun w hs => hs.slice2 (v := v43) (by repeat constructor)) ?_
      rintro ⟨a43, q43, rfl⟩
      ((iterate 3 refine ql_pure tabOk rfl rfl ?_))
      refine ql_call (β := Value × List (Value × List Int)) tabOk [] _ M0 rfl rfl rfl rfl (Sp.refl _) (fun _ h => h.elim) (fun w' hs => rhalf_ca w' 0 w'.heap.size v38 (FL l.ord l.n l.n) sel y x (selE hs (t := 48) (n := sel.length) (by repeat constructor) (selR hs (t := 3) (Y := Y) (by repeat constructor) hsub)) (selR hs (t := 3) (Y := Y) (by repeat constructor) hsub) hmap (by omega) (fun L hL => by rw [hlen2 L hL]; omega) (fun L hL => by rw [hlen2 L hL]; omega)) ?_
      rintro ⟨_, Z2⟩ v47 ⟨rfl, hs2, hm2⟩
      dsimp only [List.cons_append, List.nil_append] at hs2 hm2 ⊢
      refine ql_fact (fun w hs => hs.slice2 (v := v47) (by repeat constructor)) ?_
      rintro ⟨a47, q47, rfl⟩
      cases hf : fa l.ord x y with
      | true =>
        have hwv := worthV_dec (n := l.n) (k := m) (o := l.ord) (a := x) (b := y) (by rw [hf]; rfl)
        rw [half_all hl.n8 hl.inO hx hy hf] at hm1
        rw [half_none hl.n8 hl.inO hx hy hf] at hm2
        have hz1 : 0 < Z1.length := by obtain ⟨L0, hL0⟩ := fl_ne hc hl.o hl.n8; have := congrArg List.length hm1; simp only [List.length_map] at this; rw [this]; exact List.length_pos_of_mem hL0
        have hz2 : Z2.length = 0 := by have := congrArg List.length hm2; simpa using this
        rw [hwv]
        (refine ql_pure tabOk rfl rfl (ql_pure tabOk rfl rfl (q_nil (q_seq (q_seq (q_region (ql_pure tabOk rfl rfl (ql_pure tabOk rfl rfl (ql_gtrT tabOk rfl rfl rfl (by omega) (q_nil (q_cond_true rfl (q_region ?_))))))))))); refine ql_pure tabOk rfl rfl (ql_pure tabOk rfl rfl ?_))
        refine ql_callv (val := .int .i64 (planO l.n m l.ord : Nat)) tabOk rfl rfl rfl rfl (fun w hs => ?_) ?_; exact rfewest_ca l.n m h6' (by omega) (by omega) l.ord w 0 w.heap.size (.slice a43 Z1.length q43) hl.o hc hl.inO (by have := selrd2 hs (v := .slice a43 Z1.length q43) (t := 3) (t2 := 48) (n := Z1.length) (Y := Y) (by repeat constructor) (fun p hp => hsub p (hs1 p hp)) (by repeat constructor); rw [hm1] at this; exact this) (Nat.le_refl _)
        generalize planO l.n m l.ord = po at hpl0 ⊢
        (refine ql_pure tabOk rfl rfl (q_nil (q_seq (q_seq (q_region (ql_pure tabOk rfl rfl (ql_pure tabOk rfl rfl (ql_gtrF tabOk rfl rfl rfl (by omega) (q_nil (q_cond_false rfl (q_skip (q_seq ?_))))))))))); refine q_region (ql_pure tabOk rfl rfl (ql_ar tabOk rfl rfl rfl rfl (by omega) (by omega) (ql_pure tabOk rfl rfl (ql_pure tabOk rfl rfl (q_nil (q_ret ?_)))))))
        refine q_fin tabOk rfl (by repeat constructor) fun w hs => ?_
        exact ⟨by rw [show ((1 + po : Nat) : Int) = 1 + (po : Int) from by omega]; rfl, hs.chg0⟩
      | false =>
        cases hg : fa l.ord y x with
        | true =>
          have hwv := worthV_dec (n := l.n) (k := m) (o := l.ord) (a := x) (b := y) (by rw [hg]; cases fa l.ord x y <;> rfl)
          rw [half_all hl.n8 hl.inO hy hx hg] at hm2
          rw [half_none hl.n8 hl.inO hy hx hg] at hm1
          have hz1 : Z1.length = 0 := by have := congrArg List.length hm1; simpa using this
          have hz2 : 0 < Z2.length := by obtain ⟨L0, hL0⟩ := fl_ne hc hl.o hl.n8; have := congrArg List.length hm2; simp only [List.length_map] at this; rw [this]; exact List.length_pos_of_mem hL0
          rw [hwv]
          (refine ql_pure tabOk rfl rfl (ql_pure tabOk rfl rfl (q_nil (q_seq (q_seq (q_region (ql_pure tabOk rfl rfl (ql_pure tabOk rfl rfl (ql_gtrF tabOk rfl rfl rfl (by omega) (q_nil (q_cond_false rfl (q_skip ?_))))))))))); refine q_seq (q_seq (q_region (ql_pure tabOk rfl rfl (ql_pure tabOk rfl rfl (ql_gtrT tabOk rfl rfl rfl (by omega) (q_nil (q_cond_true rfl (q_region ?_)))))))); (iterate 3 refine ql_pure tabOk rfl rfl ?_))
          refine ql_callv (val := .int .i64 (planO l.n m l.ord : Nat)) tabOk rfl rfl rfl rfl (fun w hs => ?_) ?_; exact rfewest_ca l.n m h6' (by omega) (by omega) l.ord w 0 w.heap.size (.slice a47 Z2.length q47) hl.o hc hl.inO (by have := selrd2 hs (v := .slice a47 Z2.length q47) (t := 3) (t2 := 48) (n := Z2.length) (Y := Y) (by repeat constructor) (fun p hp => hsub p (hs2 p hp)) (by repeat constructor); rw [hm2] at this; exact this) (Nat.le_refl _)
          generalize planO l.n m l.ord = po at hpl0 ⊢
          (refine ql_pure tabOk rfl rfl (ql_pure tabOk rfl rfl (q_nil (q_seq (q_region (ql_pure tabOk rfl rfl (ql_ar tabOk rfl rfl rfl rfl (by omega) (by omega) (ql_pure tabOk rfl rfl (ql_pure tabOk rfl rfl (q_nil (q_ret ?_)))))))))))
          refine q_fin tabOk rfl (by repeat constructor) fun w hs => ?_
          exact ⟨by rw [show ((1 + po : Nat) : Int) = 1 + max 0 (po : Int) from by omega]; rfl, hs.chg0⟩
        | false =>
          have hU : Und l.ord l.n x y := ⟨hl.o, hl.n8, hx, hy, hne, hf, hg⟩
          have hwv := worthV_und (n := l.n) (k := m) hf hg
          have hp1 := half_pos hl.n8 hl.o hc hl.inO hx hy hne
          have hp2 := half_pos hl.n8 hl.o hc hl.inO hy hx (Ne.symm hne)
          rw [fl_half hl.n8 hl.inO hx hy] at hm1
          rw [fl_half hl.n8 hl.inO hy hx] at hm2
          have hz1 : 0 < Z1.length := by have := congrArg List.length hm1; simp only [List.length_map] at this; rw [this]; exact hp1.2 hg
          have hz2 : 0 < Z2.length := by have := congrArg List.length hm2; simp only [List.length_map] at this; rw [this]; exact hp2.2 hf
          rw [hwv]
          (refine ql_pure tabOk rfl rfl (ql_pure tabOk rfl rfl (q_nil (q_seq (q_seq (q_region (ql_pure tabOk rfl rfl (ql_pure tabOk rfl rfl (ql_gtrT tabOk rfl rfl rfl (by omega) (q_nil (q_cond_true rfl (q_region ?_))))))))))); refine ql_pure tabOk rfl rfl (ql_pure tabOk rfl rfl ?_))
          refine ql_callv (val := .int .i64 (planO l.n m (withO l.ord x y) : Nat)) tabOk rfl rfl rfl rfl (fun w hs => ?_) ?_; exact rfewest_ca l.n m h6' (by omega) (by omega) (withO l.ord x y) w 0 w.heap.size (.slice a43 Z1.length q43) (hl.o.with (by omega) (by omega)) (hc.with hU) (hl.inO.with hl.n8 hx hy) (by have := selrd2 hs (v := .slice a43 Z1.length q43) (t := 3) (t2 := 48) (n := Z1.length) (Y := Y) (by repeat constructor) (fun p hp => hsub p (hs1 p hp)) (by repeat constructor); rw [hm1] at this; exact this) (Nat.le_refl _)
          (refine ql_pure tabOk rfl rfl (q_nil (q_seq (q_seq (q_region (ql_pure tabOk rfl rfl (ql_pure tabOk rfl rfl (ql_gtrT tabOk rfl rfl rfl (by omega) (q_nil (q_cond_true rfl (q_region ?_)))))))))); (iterate 3 refine ql_pure tabOk rfl rfl ?_))
          refine ql_callv (val := .int .i64 (planO l.n m (withO l.ord y x) : Nat)) tabOk rfl rfl rfl rfl (fun w hs => ?_) ?_; exact rfewest_ca l.n m h6' (by omega) (by omega) (withO l.ord y x) w 0 w.heap.size (.slice a47 Z2.length q47) (hl.o.with (by omega) (by omega)) (hc.with hU.swap) (hl.inO.with hl.n8 hy hx) (by have := selrd2 hs (v := .slice a47 Z2.length q47) (t := 3) (t2 := 48) (n := Z2.length) (Y := Y) (by repeat constructor) (fun p hp => hsub p (hs2 p hp)) (by repeat constructor); rw [hm2] at this; exact this) (Nat.le_refl _)
          have hpl1 := hpl _ (hl.o.with (by omega) (by omega) : Ord (withO l.ord x y))
          have hpl2 := hpl _ (hl.o.with (by omega) (by omega) : Ord (withO l.ord y x))
          unfold worthO
          generalize planO l.n m (withO l.ord x y) = p1 at hpl1 ⊢
          generalize planO l.n m (withO l.ord y x) = p2 at hpl2 ⊢
          (refine ql_pure tabOk rfl rfl (ql_pure tabOk rfl rfl (q_nil (q_seq (q_region (ql_pure tabOk rfl rfl (ql_ar tabOk rfl rfl rfl rfl (by omega) (by omega) (ql_pure tabOk rfl rfl (ql_pure tabOk rfl rfl (q_nil (q_ret ?_)))))))))))
          refine q_fin tabOk rfl (by repeat constructor) fun w hs => ?_
          exact ⟨by rw [show ((1 + max p1 p2 : Nat) : Int) = 1 + max (p1 : Int) p2 from by omega]; rfl, hs.chg0⟩
  · rw [if_pos hp]
    (refine ql_pure tabOk rfl rfl (q_nil (q_seq (q_region (ql_pure tabOk rfl rfl (ql_neqT tabOk rfl rfl rfl (by omega) (q_nil (q_cond_true rfl (q_seq (q_region ?_))))))))); (iterate 3 refine ql_pure tabOk rfl rfl ?_); refine q_nil (q_ret ?_))
    refine q_fin tabOk rfl (by repeat constructor) fun w hs => ?_
    exact ⟨rfl, hs.chg0⟩
end Go.Proofs.YtcmpdmobmbbplaaGreat

/- The walk of SkiPlans. -/
namespace Go.Proofs.YtcmpdmobmbbplaaGreat
set_option maxRecDepth 4000
open Go Go.Eng
theorem next_no (w : World) (lo hi : Nat) (l : Lb) (v : Value) (k : Int) (h : RdR w lo hi v l.runs) (hlen : l.runs.length ≤ maxLen) (hc0 : plannedV l k ≠ 0) : Ca Tryz.prog 17 [.agg (lbC l v).toArray, .int .i64 k] w fun x w' => x = .tuple #[.agg (nxC none).toArray, .int .i64 (plannedV l k)] ∧ Chg [] w w' := by
  refine q_of (Sat.nil w M0) Tryz.func17 rfl (by simp [Tryz.ntmps17]) ?_
  (refine q_seq (q_region ?_))
  refine ql_box rfl rfl (fun bx => ?_)
  rw [agg_cells]
  skip
  refine ql_alloc zero40 rfl (fun b4 => ?_)
  (refine ql_pure tabOk rfl rfl (q_nil (q_seq (q_region ?_))); refine ql_loadABa tabOk rfl rfl rfl ?_; refine ql_pure tabOk rfl rfl ?_)
  refine ql_call (β := Option Addr) tabOk [] _ M0 rfl rfl rfl rfl (Sp.refl _) (fun _ h => h.elim) (fun w' hs => planned_no w' lo hi l v k (RdE.keep h hs.chg0) hlen hc0) ?_
  rintro p _ rfl
  dsimp only [List.cons_append, List.nil_append]
  (refine ql_pure tabOk rfl rfl (ql_ext tabOk rfl rfl rfl (ql_ext tabOk rfl rfl rfl (ql_pure tabOk rfl rfl (ql_pure tabOk rfl rfl (q_nil (q_seq (q_seq (q_region (ql_pure tabOk rfl rfl (ql_neqT tabOk rfl rfl rfl (by omega) (q_nil ?_))))))))))); refine q_cond_true rfl (q_seq (q_region ?_)))
  refine ql_mk #[.int .i64 0, .int .i64 0, .int .i64 0] rfl (by kernel_rfl) rfl ?_
  (refine ql_pure tabOk rfl rfl ?_; refine ql_setA tabOk rfl rfl rfl rfl rfl (by repeat constructor) rfl ?_; refine ql_pure tabOk rfl rfl (q_nil (q_ret ?_)))
  refine q_fin tabOk rfl (by repeat constructor) fun w hs => ?_
  exact ⟨rfl, hs.chg0⟩
def tE26_2fe5332 : OT := chainT [6, 7] (.nil)
def tE26_33bdd6c : OT := chainT [5] (tE26_2fe5332)
def tE26_c754af7 : OT := chainT [4] (tE26_2fe5332)
def tE26_33adb0d : OT := .alt (chainT [4] (tE26_33bdd6c)) (chainT [5] (tE26_c754af7))
def tE26_8587a70 : OT := chainT [2, 3] (tE26_2fe5332)
def tE26_51e9c74 : OT := .alt (chainT [2, 3] (tE26_33bdd6c)) (chainT [5] (tE26_8587a70))
def tE26_4aade5c : OT := .alt (chainT [2, 3] (tE26_c754af7)) (chainT [4] (tE26_8587a70))
def tE26_cdf2087 : OT := .alt (chainT [2, 3] (tE26_33adb0d)) (.alt (chainT [4] (tE26_51e9c74)) (chainT [5] (tE26_4aade5c)))
def tE26_8f7d4d4 : OT := chainT [0, 1] (tE26_8587a70)
def tE26_d769b30 : OT := .alt (chainT [0, 1] (tE26_51e9c74)) (chainT [5] (tE26_8f7d4d4))
def tE26_a451c87 : OT := .alt (chainT [0, 1] (tE26_4aade5c)) (chainT [4] (tE26_8f7d4d4))
def tE26_ccfc7b1 : OT := .alt (chainT [0, 1] (tE26_cdf2087)) (.alt (chainT [4] (tE26_d769b30)) (chainT [5] (tE26_a451c87)))
set_option maxRecDepth 20000 in
set_option maxHeartbeats 16000000 in
theorem skiPlans_ca (w : World) (lo hi : Nat) (l : Lb) (v : Value) (kk sa sb : Int) (h : RdR w lo hi v l.runs) (hlen0 : l.runs.length ≤ maxLen) :
    Ca Tryz.prog 3 [.agg (lbC l v).toArray, .int .i64 kk, .int .i64 sa, .int .i64 sb] w fun r w' => r = .bool true ∧ Chg [] w w' := by
  obtain ⟨va, vc, rfl, hsv⟩ := RdR.outI h
  refine q_of (Sat.nil w M0) Tryz.func3 rfl (by simp [Tryz.ntmps3]) ?_
  (refine q_seq (q_region ?_))
  refine ql_box rfl rfl (fun b1 => ?_)
  rw [agg_cells]
  (refine ql_pure tabOk rfl rfl (q_nil (q_seq (q_seq (q_region ?_)))); refine ql_loadABa tabOk rfl rfl rfl ?_)
  refine ql_callv (val := .bool (greatB l 6 && true)) tabOk rfl rfl rfl rfl (fun w hs => ?_) ?_; exact great_ca w lo hi l (.slice va l.runs.length vc) 6 (RdE.keep h hs.chg0) hlen0
  cases hg : greatB l 6 with
  | true =>
    (refine ql_pure tabOk rfl rfl ?_; (iterate 3 refine ql_gno rfl rfl rfl ?_); refine ql_pure tabOk rfl rfl (q_nil (q_cond_true rfl (q_seq (q_region ?_)))))
    refine ql_callv (val := .bool true) tabOk rfl rfl rfl rfl (fun w hs => ?_) ?_; exact awake_ca w
    (refine ql_pure tabOk rfl rfl (q_nil (q_ret ?_)))
    refine q_fin tabOk rfl (by repeat constructor) fun w hs => ?_
    exact ⟨rfl, hs.chg0⟩
  | false =>
    by_cases h5 : l.skis = 5
    ·
      (refine ql_pure tabOk rfl rfl (ql_gyes rfl (ql_pure tabOk rfl rfl (ql_gyes rfl ?_))); refine ql_loadBa tabOk rfl rfl rfl ?_; refine ql_gyes rfl (ql_eqlT tabOk rfl rfl rfl (by omega) (ql_pure tabOk rfl rfl (q_nil (q_cond_true rfl (q_seq (q_region ?_)))))))
      refine ql_callv (val := .bool true) tabOk rfl rfl rfl rfl (fun w hs => ?_) ?_; exact awake_ca w
      (refine ql_pure tabOk rfl rfl (q_nil (q_ret ?_)))
      refine q_fin tabOk rfl (by repeat constructor) fun w hs => ?_
      exact ⟨rfl, hs.chg0⟩
    have hg2 : (l.skis ≤ 6 ∨ 8 < l.skis) ∧ l.runs.length ≤ 45 := by
      unfold greatB at hg
      simp only [Bool.or_eq_false_iff, Bool.and_eq_false_imp, decide_eq_true_eq, decide_eq_false_iff_not] at hg
      omega
    obtain ⟨g1, g2⟩ := hg2
    clear hg
    (refine ql_pure tabOk rfl rfl (ql_gyes rfl (ql_pure tabOk rfl rfl (ql_gyes rfl ?_))); refine ql_loadBa tabOk rfl rfl rfl ?_; refine ql_gyes rfl (ql_eqlF tabOk rfl rfl rfl (by omega) (ql_pure tabOk rfl rfl (q_nil (q_cond_false rfl (q_skip (q_seq ?_)))))))
    skip
    refine q_cut (σ := Option Addr × Nat × Option Addr × Nat × Nat × Nat) (fun ⟨ua, uc, ra, rc, b3, b4⟩ => [(1, .int .i64 kk), (2, .int .i64 sa), (3, .int .i64 sb), (4, .pointer (some ⟨b1, 0, none⟩)), (9, .pointer (some ⟨b3, 0, none⟩)), (10, .pointer (some ⟨b4, 0, none⟩))])
      (fun ⟨ua, uc, ra, rc, b3, b4⟩ => [.pt b3 (lbC l (.slice ua l.runs.length uc)) 24, .pt b4 (lbC l (.slice ra l.runs.length rc)) 30, .ow (.slice ua l.runs.length uc) 40 3 l.runs.length (rnC l.runs), .ow (.slice ra l.runs.length rc) 113 3 l.runs.length (rnC l.runs), .pt b1 (lbC l (.slice va l.runs.length vc)) 24]) ?_ ?_
    rotate_left
    · intro K2 hK2
      refine q_drawT (tE26_ccfc7b1) _ [] (Sp.refl _) (by kernel_rfl) (by kernel_rfl) ?_
      refine qt_let (σ := Option Addr × Nat × Option Addr × Nat × Nat × Nat × Unit) (.nil) (fun ⟨ua, uc, ra, rc, b3, b4, ()⟩ => [(1, .int .i64 kk), (2, .int .i64 sa), (3, .int .i64 sb), (4, .pointer (some ⟨b1, 0, none⟩)), (9, .pointer (some ⟨b3, 0, none⟩)), (10, .pointer (some ⟨b4, 0, none⟩))]) (fun ⟨ua, uc, ra, rc, b3, b4, ()⟩ => [.pt b3 (lbC l (.slice ua l.runs.length uc)) 24, .pt b4 (lbC l (.slice ra l.runs.length rc)) 30, .ow (.slice ua l.runs.length uc) 40 3 l.runs.length (rnC l.runs), .ow (.slice ra l.runs.length rc) 113 3 l.runs.length (rnC l.runs)]) ?_ (fun hS1_3_4_5_7 => ?_)
      · rintro ⟨ua, uc, ra, rc, b3, b4, _⟩
        exact qt_nil (hK2 ⟨ua, uc, ra, rc, b3, b4⟩ _ _ ⟨rfl, rfl, rfl, rfl, rfl, rfl, trivial⟩ (by repeat constructor))
      refine qt_let (σ := Option Addr × Nat × Option Addr × Nat × Nat × Nat × Unit) (tE26_2fe5332) (fun ⟨ua, uc, ra, rc, b3, b4, ()⟩ => [(1, .int .i64 kk), (2, .int .i64 sa), (3, .int .i64 sb), (4, .pointer (some ⟨b1, 0, none⟩)), (9, .pointer (some ⟨b3, 0, none⟩)), (10, .pointer (some ⟨b4, 0, none⟩)), (30, .agg (lbC l (.slice ua l.runs.length uc)).toArray), (32, .agg (lbC l (.slice ra l.runs.length rc)).toArray)]) (fun ⟨ua, uc, ra, rc, b3, b4, ()⟩ => [.pt b3 [.int .i64 0, .int .i64 0, .slice none 0 0] 24, .pt b4 [.int .i64 0, .int .i64 0, .slice none 0 0] 30, .ow (.slice ua l.runs.length uc) 40 3 l.runs.length (rnC l.runs), .ow (.slice ra l.runs.length rc) 113 3 l.runs.length (rnC l.runs)]) ?_ (fun hS1_3_4_5 => ?_)
      · rintro ⟨ua, uc, ra, rc, b3, b4, _⟩
        refine qt_seg (by repeat (first | exact PickL.nil | (apply PickL.cons; rfl))) fun K1 hK1 => ?_
        ((iterate 2 refine qf_setA tabOk rfl rfl rfl rfl rfl (by repeat constructor) rfl ?_); refine qf_nil ?_)
        skip
        exact hK1 _ _ (hS1_3_4_5_7 ⟨ua, uc, ra, rc, b3, b4, ()⟩ _ _ ⟨rfl, rfl, rfl, rfl, rfl, rfl, trivial⟩ (by repeat constructor))
      refine qt_let (σ := Option Addr × Nat × Option Addr × Nat × Nat × Unit) (tE26_33bdd6c) (fun ⟨ua, uc, ra, rc, b3, ()⟩ => [(1, .int .i64 kk), (2, .int .i64 sa), (3, .int .i64 sb), (4, .pointer (some ⟨b1, 0, none⟩)), (9, .pointer (some ⟨b3, 0, none⟩)), (30, .agg (lbC l (.slice ua l.runs.length uc)).toArray), (32, .agg (lbC l (.slice ra l.runs.length rc)).toArray)]) (fun ⟨ua, uc, ra, rc, b3, ()⟩ => [.pt b3 [.int .i64 0, .int .i64 0, .slice none 0 0] 24, .ow (.slice ua l.runs.length uc) 40 3 l.runs.length (rnC l.runs), .ow (.slice ra l.runs.length rc) 113 3 l.runs.length (rnC l.runs)]) ?_ (fun hS1_3_4 => ?_)
      · rintro ⟨ua, uc, ra, rc, b3, _⟩
        refine qt_seg (by repeat (first | exact PickL.nil | (apply PickL.cons; rfl))) fun K1 hK1 => ?_
        skip
        refine qf_alloc zero30 rfl (fun b4 => ?_)
        (refine qf_nil ?_)
        exact hK1 _ _ (hS1_3_4_5 ⟨ua, uc, ra, rc, b3, b4, ()⟩ _ _ ⟨rfl, rfl, rfl, rfl, rfl, rfl, rfl, rfl, trivial⟩ (by repeat constructor))
      refine qt_let (σ := Option Addr × Nat × Option Addr × Nat × Nat × Unit) (tE26_c754af7) (fun ⟨ua, uc, ra, rc, b4, ()⟩ => [(1, .int .i64 kk), (2, .int .i64 sa), (3, .int .i64 sb), (4, .pointer (some ⟨b1, 0, none⟩)), (10, .pointer (some ⟨b4, 0, none⟩)), (30, .agg (lbC l (.slice ua l.runs.length uc)).toArray), (32, .agg (lbC l (.slice ra l.runs.length rc)).toArray)]) (fun ⟨ua, uc, ra, rc, b4, ()⟩ => [.pt b4 [.int .i64 0, .int .i64 0, .slice none 0 0] 30, .ow (.slice ua l.runs.length uc) 40 3 l.runs.length (rnC l.runs), .ow (.slice ra l.runs.length rc) 113 3 l.runs.length (rnC l.runs)]) ?_ (fun hS1_3_5 => ?_)
      · rintro ⟨ua, uc, ra, rc, b4, _⟩
        refine qt_seg (by repeat (first | exact PickL.nil | (apply PickL.cons; rfl))) fun K1 hK1 => ?_
        skip
        refine qf_alloc zero24 rfl (fun b3 => ?_)
        (refine qf_nil ?_)
        exact hK1 _ _ (hS1_3_4_5 ⟨ua, uc, ra, rc, b3, b4, ()⟩ _ _ ⟨rfl, rfl, rfl, rfl, rfl, rfl, rfl, rfl, trivial⟩ (by repeat constructor))
      refine qt_let (σ := Option Addr × Nat × Nat × Nat × Unit) (tE26_8587a70) (fun ⟨ua, uc, b3, b4, ()⟩ => [(1, .int .i64 kk), (2, .int .i64 sa), (3, .int .i64 sb), (4, .pointer (some ⟨b1, 0, none⟩)), (9, .pointer (some ⟨b3, 0, none⟩)), (10, .pointer (some ⟨b4, 0, none⟩)), (30, .agg (lbC l (.slice ua l.runs.length uc)).toArray)]) (fun ⟨ua, uc, b3, b4, ()⟩ => [.pt b3 [.int .i64 0, .int .i64 0, .slice none 0 0] 24, .pt b4 [.int .i64 0, .int .i64 0, .slice none 0 0] 30, .ow (.slice ua l.runs.length uc) 40 3 l.runs.length (rnC l.runs)]) ?_ (fun hS1_4_5 => ?_)
      · rintro ⟨ua, uc, b3, b4, _⟩
        refine qt_seg (by repeat (first | exact PickL.nil | (apply PickL.cons; rfl))) fun K1 hK1 => ?_
        (refine qf_loadABa tabOk rfl rfl rfl ?_)
        refine qf_call (β := Value) tabOk [] _ M0 rfl rfl rfl rfl (Sp.refl _) (fun _ h => h.elim) (fun w' hs => rlab_ca w' lo hi l _ (RdE.keep h hs.chg0) (by omega)) ?_
        rintro z3 _ rfl
        dsimp only [List.cons_append, List.nil_append]
        refine qf_fact (fun w hs => hs.slice2 (v := z3) (by repeat constructor)) ?_
        rintro ⟨ra, rc, rfl⟩
        (refine qf_nil ?_)
        exact hK1 _ _ (hS1_3_4_5 ⟨ua, uc, ra, rc, b3, b4, ()⟩ _ _ ⟨rfl, rfl, rfl, rfl, rfl, rfl, rfl, rfl, trivial⟩ (by repeat constructor))
      refine qt_let (σ := Option Addr × Nat × Option Addr × Nat × Unit) (tE26_33adb0d) (fun ⟨ua, uc, ra, rc, ()⟩ => [(1, .int .i64 kk), (2, .int .i64 sa), (3, .int .i64 sb), (4, .pointer (some ⟨b1, 0, none⟩)), (30, .agg (lbC l (.slice ua l.runs.length uc)).toArray), (32, .agg (lbC l (.slice ra l.runs.length rc)).toArray)]) (fun ⟨ua, uc, ra, rc, ()⟩ => [.ow (.slice ua l.runs.length uc) 40 3 l.runs.length (rnC l.runs), .ow (.slice ra l.runs.length rc) 113 3 l.runs.length (rnC l.runs)]) ?_ (fun hS1_3 => ?_)
      · rintro ⟨ua, uc, ra, rc, _⟩
        refine qt_alt ?_ ?_
        · skip
          refine qt_seg (by repeat (first | exact PickL.nil | (apply PickL.cons; rfl))) fun K1 hK1 => ?_
          skip
          refine qf_alloc zero24 rfl (fun b3 => ?_)
          (refine qf_nil ?_)
          exact hK1 _ _ (hS1_3_4 ⟨ua, uc, ra, rc, b3, ()⟩ _ _ ⟨rfl, rfl, rfl, rfl, rfl, rfl, rfl, trivial⟩ (by repeat constructor))
        · skip
          refine qt_seg (by repeat (first | exact PickL.nil | (apply PickL.cons; rfl))) fun K1 hK1 => ?_
          skip
          refine qf_alloc zero30 rfl (fun b4 => ?_)
          (refine qf_nil ?_)
          exact hK1 _ _ (hS1_3_5 ⟨ua, uc, ra, rc, b4, ()⟩ _ _ ⟨rfl, rfl, rfl, rfl, rfl, rfl, rfl, trivial⟩ (by repeat constructor))
      refine qt_let (σ := Option Addr × Nat × Nat × Unit) (tE26_51e9c74) (fun ⟨ua, uc, b3, ()⟩ => [(1, .int .i64 kk), (2, .int .i64 sa), (3, .int .i64 sb), (4, .pointer (some ⟨b1, 0, none⟩)), (9, .pointer (some ⟨b3, 0, none⟩)), (30, .agg (lbC l (.slice ua l.runs.length uc)).toArray)]) (fun ⟨ua, uc, b3, ()⟩ => [.pt b3 [.int .i64 0, .int .i64 0, .slice none 0 0] 24, .ow (.slice ua l.runs.length uc) 40 3 l.runs.length (rnC l.runs)]) ?_ (fun hS1_4 => ?_)
      · rintro ⟨ua, uc, b3, _⟩
        refine qt_alt ?_ ?_
        · skip
          refine qt_seg (by repeat (first | exact PickL.nil | (apply PickL.cons; rfl))) fun K1 hK1 => ?_
          (refine qf_loadABa tabOk rfl rfl rfl ?_)
          refine qf_call (β := Value) tabOk [] _ M0 rfl rfl rfl rfl (Sp.refl _) (fun _ h => h.elim) (fun w' hs => rlab_ca w' lo hi l _ (RdE.keep h hs.chg0) (by omega)) ?_
          rintro z3 _ rfl
          dsimp only [List.cons_append, List.nil_append]
          refine qf_fact (fun w hs => hs.slice2 (v := z3) (by repeat constructor)) ?_
          rintro ⟨ra, rc, rfl⟩
          (refine qf_nil ?_)
          exact hK1 _ _ (hS1_3_4 ⟨ua, uc, ra, rc, b3, ()⟩ _ _ ⟨rfl, rfl, rfl, rfl, rfl, rfl, rfl, trivial⟩ (by repeat constructor))
        · skip
          refine qt_seg (by repeat (first | exact PickL.nil | (apply PickL.cons; rfl))) fun K1 hK1 => ?_
          skip
          refine qf_alloc zero30 rfl (fun b4 => ?_)
          (refine qf_nil ?_)
          exact hK1 _ _ (hS1_4_5 ⟨ua, uc, b3, b4, ()⟩ _ _ ⟨rfl, rfl, rfl, rfl, rfl, rfl, rfl, trivial⟩ (by repeat constructor))
      refine qt_let (σ := Option Addr × Nat × Nat × Unit) (tE26_4aade5c) (fun ⟨ua, uc, b4, ()⟩ => [(1, .int .i64 kk), (2, .int .i64 sa), (3, .int .i64 sb), (4, .pointer (some ⟨b1, 0, none⟩)), (10, .pointer (some ⟨b4, 0, none⟩)), (30, .agg (lbC l (.slice ua l.runs.length uc)).toArray)]) (fun ⟨ua, uc, b4, ()⟩ => [.pt b4 [.int .i64 0, .int .i64 0, .slice none 0 0] 30, .ow (.slice ua l.runs.length uc) 40 3 l.runs.length (rnC l.runs)]) ?_ (fun hS1_5 => ?_)
      · rintro ⟨ua, uc, b4, _⟩
        refine qt_alt ?_ ?_
        · skip
          refine qt_seg (by repeat (first | exact PickL.nil | (apply PickL.cons; rfl))) fun K1 hK1 => ?_
          (refine qf_loadABa tabOk rfl rfl rfl ?_)
          refine qf_call (β := Value) tabOk [] _ M0 rfl rfl rfl rfl (Sp.refl _) (fun _ h => h.elim) (fun w' hs => rlab_ca w' lo hi l _ (RdE.keep h hs.chg0) (by omega)) ?_
          rintro z3 _ rfl
          dsimp only [List.cons_append, List.nil_append]
          refine qf_fact (fun w hs => hs.slice2 (v := z3) (by repeat constructor)) ?_
          rintro ⟨ra, rc, rfl⟩
          (refine qf_nil ?_)
          exact hK1 _ _ (hS1_3_5 ⟨ua, uc, ra, rc, b4, ()⟩ _ _ ⟨rfl, rfl, rfl, rfl, rfl, rfl, rfl, trivial⟩ (by repeat constructor))
        · skip
          refine qt_seg (by repeat (first | exact PickL.nil | (apply PickL.cons; rfl))) fun K1 hK1 => ?_
          skip
          refine qf_alloc zero24 rfl (fun b3 => ?_)
          (refine qf_nil ?_)
          exact hK1 _ _ (hS1_4_5 ⟨ua, uc, b3, b4, ()⟩ _ _ ⟨rfl, rfl, rfl, rfl, rfl, rfl, rfl, trivial⟩ (by repeat constructor))
      refine qt_let (σ := Nat × Nat × Unit) (tE26_8f7d4d4) (fun ⟨b3, b4, ()⟩ => [(1, .int .i64 kk), (2, .int .i64 sa), (3, .int .i64 sb), (4, .pointer (some ⟨b1, 0, none⟩)), (9, .pointer (some ⟨b3, 0, none⟩)), (10, .pointer (some ⟨b4, 0, none⟩))]) (fun ⟨b3, b4, ()⟩ => [.pt b3 [.int .i64 0, .int .i64 0, .slice none 0 0] 24, .pt b4 [.int .i64 0, .int .i64 0, .slice none 0 0] 30]) ?_ (fun hS4_5 => ?_)
      · rintro ⟨b3, b4, _⟩
        refine qt_seg (by repeat (first | exact PickL.nil | (apply PickL.cons; rfl))) fun K1 hK1 => ?_
        (refine qf_loadABa tabOk rfl rfl rfl ?_)
        refine qf_call (β := Value) tabOk [] _ M0 rfl rfl rfl rfl (Sp.refl _) (fun _ h => h.elim) (fun w' hs => cloneL_ca w' lo hi l _ (RdE.keep h hs.chg0) (by omega)) ?_
        rintro z1 _ rfl
        dsimp only [List.cons_append, List.nil_append]
        refine qf_fact (fun w hs => hs.slice2 (v := z1) (by repeat constructor)) ?_
        rintro ⟨ua, uc, rfl⟩
        (refine qf_nil ?_)
        exact hK1 _ _ (hS1_4_5 ⟨ua, uc, b3, b4, ()⟩ _ _ ⟨rfl, rfl, rfl, rfl, rfl, rfl, rfl, trivial⟩ (by repeat constructor))
      refine qt_let (σ := Option Addr × Nat × Unit) (tE26_cdf2087) (fun ⟨ua, uc, ()⟩ => [(1, .int .i64 kk), (2, .int .i64 sa), (3, .int .i64 sb), (4, .pointer (some ⟨b1, 0, none⟩)), (30, .agg (lbC l (.slice ua l.runs.length uc)).toArray)]) (fun ⟨ua, uc, ()⟩ => [.ow (.slice ua l.runs.length uc) 40 3 l.runs.length (rnC l.runs)]) ?_ (fun hS1 => ?_)
      · rintro ⟨ua, uc, _⟩
        refine qt_alt ?_ (qt_alt ?_ ?_)
        · skip
          refine qt_seg (by repeat (first | exact PickL.nil | (apply PickL.cons; rfl))) fun K1 hK1 => ?_
          (refine qf_loadABa tabOk rfl rfl rfl ?_)
          refine qf_call (β := Value) tabOk [] _ M0 rfl rfl rfl rfl (Sp.refl _) (fun _ h => h.elim) (fun w' hs => rlab_ca w' lo hi l _ (RdE.keep h hs.chg0) (by omega)) ?_
          rintro z3 _ rfl
          dsimp only [List.cons_append, List.nil_append]
          refine qf_fact (fun w hs => hs.slice2 (v := z3) (by repeat constructor)) ?_
          rintro ⟨ra, rc, rfl⟩
          (refine qf_nil ?_)
          exact hK1 _ _ (hS1_3 ⟨ua, uc, ra, rc, ()⟩ _ _ ⟨rfl, rfl, rfl, rfl, rfl, rfl, trivial⟩ (by repeat constructor))
        · skip
          refine qt_seg (by repeat (first | exact PickL.nil | (apply PickL.cons; rfl))) fun K1 hK1 => ?_
          skip
          refine qf_alloc zero24 rfl (fun b3 => ?_)
          (refine qf_nil ?_)
          exact hK1 _ _ (hS1_4 ⟨ua, uc, b3, ()⟩ _ _ ⟨rfl, rfl, rfl, rfl, rfl, rfl, trivial⟩ (by repeat constructor))
        · skip
          refine qt_seg (by repeat (first | exact PickL.nil | (apply PickL.cons; rfl))) fun K1 hK1 => ?_
          skip
          refine qf_alloc zero30 rfl (fun b4 => ?_)
          (refine qf_nil ?_)
          exact hK1 _ _ (hS1_5 ⟨ua, uc, b4, ()⟩ _ _ ⟨rfl, rfl, rfl, rfl, rfl, rfl, trivial⟩ (by repeat constructor))
      refine qt_let (σ := Nat × Unit) (tE26_d769b30) (fun ⟨b3, ()⟩ => [(1, .int .i64 kk), (2, .int .i64 sa), (3, .int .i64 sb), (4, .pointer (some ⟨b1, 0, none⟩)), (9, .pointer (some ⟨b3, 0, none⟩))]) (fun ⟨b3, ()⟩ => [.pt b3 [.int .i64 0, .int .i64 0, .slice none 0 0] 24]) ?_ (fun hS4 => ?_)
      · rintro ⟨b3, _⟩
        refine qt_alt ?_ ?_
        · skip
          refine qt_seg (by repeat (first | exact PickL.nil | (apply PickL.cons; rfl))) fun K1 hK1 => ?_
          (refine qf_loadABa tabOk rfl rfl rfl ?_)
          refine qf_call (β := Value) tabOk [] _ M0 rfl rfl rfl rfl (Sp.refl _) (fun _ h => h.elim) (fun w' hs => cloneL_ca w' lo hi l _ (RdE.keep h hs.chg0) (by omega)) ?_
          rintro z1 _ rfl
          dsimp only [List.cons_append, List.nil_append]
          refine qf_fact (fun w hs => hs.slice2 (v := z1) (by repeat constructor)) ?_
          rintro ⟨ua, uc, rfl⟩
          (refine qf_nil ?_)
          exact hK1 _ _ (hS1_4 ⟨ua, uc, b3, ()⟩ _ _ ⟨rfl, rfl, rfl, rfl, rfl, rfl, trivial⟩ (by repeat constructor))
        · skip
          refine qt_seg (by repeat (first | exact PickL.nil | (apply PickL.cons; rfl))) fun K1 hK1 => ?_
          skip
          refine qf_alloc zero30 rfl (fun b4 => ?_)
          (refine qf_nil ?_)
          exact hK1 _ _ (hS4_5 ⟨b3, b4, ()⟩ _ _ ⟨rfl, rfl, rfl, rfl, rfl, rfl, trivial⟩ (by repeat constructor))
      refine qt_let (σ := Nat × Unit) (tE26_a451c87) (fun ⟨b4, ()⟩ => [(1, .int .i64 kk), (2, .int .i64 sa), (3, .int .i64 sb), (4, .pointer (some ⟨b1, 0, none⟩)), (10, .pointer (some ⟨b4, 0, none⟩))]) (fun ⟨b4, ()⟩ => [.pt b4 [.int .i64 0, .int .i64 0, .slice none 0 0] 30]) ?_ (fun hS5 => ?_)
      · rintro ⟨b4, _⟩
        refine qt_alt ?_ ?_
        · skip
          refine qt_seg (by repeat (first | exact PickL.nil | (apply PickL.cons; rfl))) fun K1 hK1 => ?_
          (refine qf_loadABa tabOk rfl rfl rfl ?_)
          refine qf_call (β := Value) tabOk [] _ M0 rfl rfl rfl rfl (Sp.refl _) (fun _ h => h.elim) (fun w' hs => cloneL_ca w' lo hi l _ (RdE.keep h hs.chg0) (by omega)) ?_
          rintro z1 _ rfl
          dsimp only [List.cons_append, List.nil_append]
          refine qf_fact (fun w hs => hs.slice2 (v := z1) (by repeat constructor)) ?_
          rintro ⟨ua, uc, rfl⟩
          (refine qf_nil ?_)
          exact hK1 _ _ (hS1_5 ⟨ua, uc, b4, ()⟩ _ _ ⟨rfl, rfl, rfl, rfl, rfl, rfl, trivial⟩ (by repeat constructor))
        · skip
          refine qt_seg (by repeat (first | exact PickL.nil | (apply PickL.cons; rfl))) fun K1 hK1 => ?_
          skip
          refine qf_alloc zero24 rfl (fun b3 => ?_)
          (refine qf_nil ?_)
          exact hK1 _ _ (hS4_5 ⟨b3, b4, ()⟩ _ _ ⟨rfl, rfl, rfl, rfl, rfl, rfl, trivial⟩ (by repeat constructor))
      refine qt_alt ?_ (qt_alt ?_ ?_)
      · skip
        refine qt_seg (by repeat (first | exact PickL.nil | (apply PickL.cons; rfl))) fun K1 hK1 => ?_
        (refine qf_loadABa tabOk rfl rfl rfl ?_)
        refine qf_call (β := Value) tabOk [] _ M0 rfl rfl rfl rfl (Sp.refl _) (fun _ h => h.elim) (fun w' hs => cloneL_ca w' lo hi l _ (RdE.keep h hs.chg0) (by omega)) ?_
        rintro z1 _ rfl
        dsimp only [List.cons_append, List.nil_append]
        refine qf_fact (fun w hs => hs.slice2 (v := z1) (by repeat constructor)) ?_
        rintro ⟨ua, uc, rfl⟩
        (refine qf_nil ?_)
        exact hK1 _ _ (hS1 ⟨ua, uc, ()⟩ _ _ ⟨rfl, rfl, rfl, rfl, rfl, trivial⟩ (by repeat constructor))
      · skip
        refine qt_seg (by repeat (first | exact PickL.nil | (apply PickL.cons; rfl))) fun K1 hK1 => ?_
        skip
        refine qf_alloc zero24 rfl (fun b3 => ?_)
        (refine qf_nil ?_)
        exact hK1 _ _ (hS4 ⟨b3, ()⟩ _ _ ⟨rfl, rfl, rfl, rfl, rfl, trivial⟩ (by repeat constructor))
      · skip
        refine qt_seg (by repeat (first | exact PickL.nil | (apply PickL.cons; rfl))) fun K1 hK1 => ?_
        skip
        refine qf_alloc zero30 rfl (fun b4 => ?_)
        (refine qf_nil ?_)
        exact hK1 _ _ (hS5 ⟨b4, ()⟩ _ _ ⟨rfl, rfl, rfl, rfl, rfl, trivial⟩ (by repeat constructor))
    rintro ⟨ua, uc, ra, rc, b3, b4⟩
    dsimp only
    have hlen : l.runs.length ≤ maxLen := hlen0
    (refine q_seq (q_region ?_); refine ql_loadABa tabOk rfl rfl rfl ?_; refine ql_pure tabOk rfl rfl ?_)
    refine ql_callv (val := .tuple #[.bool (knV l kk).1, .int .i64 (knV l kk).2]) tabOk rfl rfl rfl rfl (fun w hs => ?_) ?_; exact knownP_ca w 0 w.heap.size l (.slice ua l.runs.length uc) kk (runs_rdK hs (v := .slice ua l.runs.length uc) (t := 40) (l := l.runs) (by repeat constructor) rfl) hlen
    (refine ql_pure tabOk rfl rfl (ql_ext tabOk rfl rfl rfl (ql_ext tabOk rfl rfl rfl (ql_pure tabOk rfl rfl (ql_pure tabOk rfl rfl (q_nil (q_seq (q_region ?_))))))); refine ql_loadABa tabOk rfl rfl rfl ?_; refine ql_pure tabOk rfl rfl ?_)
    refine ql_callv (val := .tuple #[.bool (knV l kk).1, .int .i64 (knV l kk).2]) tabOk rfl rfl rfl rfl (fun w hs => ?_) ?_; exact rknown_ca w 0 w.heap.size l (.slice ra l.runs.length rc) kk (runs_rdK hs (v := .slice ra l.runs.length rc) (t := 113) (l := l.runs) (by repeat constructor) rfl) hlen g1
    generalize (knV l kk).1 = x1
    generalize (knV l kk).2 = x2
    (refine ql_pure tabOk rfl rfl (ql_ext tabOk rfl rfl rfl (ql_ext tabOk rfl rfl rfl (ql_pure tabOk rfl rfl (ql_pure tabOk rfl rfl (q_nil (q_seq (q_seq (q_region (ql_pure tabOk rfl rfl (ql_pure tabOk rfl rfl ?_)))))))))))
    refine ql_neb (by kernel_rfl) rfl rfl rfl ?_
    rw [show (x1 == x1) = true from by cases x1 <;> rfl]
    (refine ql_pure tabOk rfl rfl (ql_gyes rfl (ql_pure tabOk rfl rfl (ql_gyes rfl (ql_pure tabOk rfl rfl (ql_gyes rfl (ql_neqF tabOk rfl rfl rfl (by omega) (ql_pure tabOk rfl rfl (q_nil (q_cond_false rfl (q_skip (q_seq ?_))))))))))); refine q_region ?_; refine ql_loadABa tabOk rfl rfl rfl ?_; refine ql_pure tabOk rfl rfl ?_)
    refine ql_callv (val := .tuple #[.int .i64 (fewestV l kk).1, .int .i64 (fewestV l kk).2]) tabOk rfl rfl rfl rfl (fun w hs => ?_) ?_; exact fewestA_ca w 0 w.heap.size l (.slice ua l.runs.length uc) kk (runs_rdK hs (v := .slice ua l.runs.length uc) (t := 40) (l := l.runs) (by repeat constructor) rfl) hlen
    (refine ql_pure tabOk rfl rfl (ql_ext tabOk rfl rfl rfl (ql_ext tabOk rfl rfl rfl (ql_pure tabOk rfl rfl (ql_pure tabOk rfl rfl (q_nil (q_seq (q_region ?_))))))); refine ql_loadABa tabOk rfl rfl rfl ?_; refine ql_pure tabOk rfl rfl ?_)
    refine ql_callv (val := .tuple #[.int .i64 (fewestV l kk).1, .int .i64 (fewestV l kk).2]) tabOk rfl rfl rfl rfl (fun w hs => ?_) ?_; exact rfewestA_ca w 0 w.heap.size l (.slice ra l.runs.length rc) kk (runs_rdK hs (v := .slice ra l.runs.length rc) (t := 113) (l := l.runs) (by repeat constructor) rfl) hlen
    by_cases hp : plannedV l kk = 0
    · have hP := planned_iff.1 hp
      obtain ⟨n, en, hn', h8, h9⟩ := hP.ok.nat
      have hk1 := hP.k1
      have hk2 := hP.k2
      obtain ⟨m, hkm⟩ : ∃ m : Nat, kk = (m : Int) := ⟨kk.toNat, by omega⟩
      have hfv : fewestV l kk = (((planO l.n m l.ord : Nat) : Int), 0) := by unfold fewestV; rw [if_neg (by rw [hp]; simp), hkm, Int.toNat_natCast]
      rw [hfv]
      dsimp only
      have hbl := plan_le (n := l.n) (k := m) hP.ok.n8 hP.ok.o
      have h64 : l.n * l.n ≤ 64 := Nat.mul_le_mul hP.ok.n8 hP.ok.n8
      by_cases h0 : planO l.n m l.ord = 0
      · (refine ql_pure tabOk rfl rfl (ql_ext tabOk rfl rfl rfl (ql_ext tabOk rfl rfl rfl (ql_pure tabOk rfl rfl (ql_pure tabOk rfl rfl (q_nil (q_seq (q_seq (q_region (ql_pure tabOk rfl rfl (ql_pure tabOk rfl rfl (ql_neqF tabOk rfl rfl rfl (by omega) ?_))))))))))); refine ql_pure tabOk rfl rfl (ql_gyes rfl (ql_pure tabOk rfl rfl (ql_gyes rfl (ql_pure tabOk rfl rfl (ql_gyes rfl (ql_neqF tabOk rfl rfl rfl (by omega) (ql_pure tabOk rfl rfl (q_nil (q_cond_false rfl (q_skip (q_seq ?_))))))))))); refine q_region ?_; refine ql_loadABa tabOk rfl rfl rfl ?_; refine ql_pure tabOk rfl rfl ?_)
        refine ql_callv (val := .tuple #[.agg (nxC none).toArray, .int .i64 6]) tabOk rfl rfl rfl rfl (fun w hs => ?_) ?_; exact by have := next_ok w 0 w.heap.size l (.slice ua l.runs.length uc) m (runs_rdK hs (v := .slice ua l.runs.length uc) (t := 40) (l := l.runs) (by repeat constructor) rfl) (by rw [← hkm]; exact hP); rw [← hkm] at this; rw [if_pos h0, if_pos h0] at this; exact this
        rw [h0]
        (refine ql_pure tabOk rfl rfl (ql_ext tabOk rfl rfl rfl (ql_ext tabOk rfl rfl rfl ?_)))
        refine ql_alloc zero40 rfl (fun bn => ?_)
        (refine ql_setA tabOk rfl rfl rfl rfl rfl (by repeat constructor) rfl ?_; refine ql_pure tabOk rfl rfl (q_nil (q_seq (q_block (q_seq (q_region (ql_pure tabOk rfl rfl (ql_neqF tabOk rfl rfl rfl (by omega) (ql_pure tabOk rfl rfl (q_nil (q_cond_false rfl (q_seq ?_))))))))))); refine q_region (ql_pure tabOk rfl rfl (ql_eqlT tabOk rfl rfl rfl (by omega) (ql_pure tabOk rfl rfl (q_nil (q_cond_true rfl (q_seq (q_region (ql_pure tabOk rfl rfl (ql_neqF tabOk rfl rfl rfl (by omega) (ql_pure tabOk rfl rfl (ql_gyes rfl ?_))))))))))); refine ql_loadABa tabOk rfl rfl rfl ?_; refine ql_gyes rfl ?_)
        refine ql_mk #[.int .i64 0, .int .i64 0, .int .i64 0] rfl (by kernel_rfl) rfl ?_
        (refine ql_gyes rfl ?_)
        refine ql_neF (xs := [Value.int .i64 0, .int .i64 0, .int .i64 0]) (ys := [Value.int .i64 0, .int .i64 0, .int .i64 0]) [some .i64, some .i64, some .i64] run_flat rfl rfl rfl rfl rfl ?_
        rw [show eqL [Value.int .i64 0, .int .i64 0, .int .i64 0] [Value.int .i64 0, .int .i64 0, .int .i64 0] = true from by rw [eqL_refl]]
        (refine ql_pure tabOk rfl rfl (q_nil (q_cond_false rfl (q_skip (q_blk (q_seq (q_region ?_)))))); refine ql_loadABa tabOk rfl rfl rfl ?_; (iterate 3 refine ql_pure tabOk rfl rfl ?_))
        refine ql_callv (val := .tuple #[.int .i64 (wpV l kk sa sb).1, .int .i64 (wpV l kk sa sb).2]) tabOk rfl rfl rfl rfl (fun w hs => ?_) ?_; exact worthA2_ca w 0 w.heap.size l (.slice ua l.runs.length uc) kk sa sb (runs_rdK hs (v := .slice ua l.runs.length uc) (t := 40) (l := l.runs) (by repeat constructor) rfl) hlen
        (refine ql_pure tabOk rfl rfl (ql_ext tabOk rfl rfl rfl (ql_ext tabOk rfl rfl rfl (ql_pure tabOk rfl rfl (ql_pure tabOk rfl rfl (q_nil (q_seq (q_region ?_))))))); refine ql_loadABa tabOk rfl rfl rfl ?_; (iterate 3 refine ql_pure tabOk rfl rfl ?_))
        refine ql_callv (val := .tuple #[.int .i64 (wpV l kk sa sb).1, .int .i64 (wpV l kk sa sb).2]) tabOk rfl rfl rfl rfl (fun w hs => ?_) ?_; exact rworthA_ca w 0 w.heap.size l (.slice ra l.runs.length rc) kk sa sb (runs_rdK hs (v := .slice ra l.runs.length rc) (t := 113) (l := l.runs) (by repeat constructor) rfl) hlen
        generalize (wpV l kk sa sb).1 = y1
        generalize (wpV l kk sa sb).2 = y2
        (refine ql_pure tabOk rfl rfl (ql_ext tabOk rfl rfl rfl (ql_ext tabOk rfl rfl rfl (ql_pure tabOk rfl rfl (ql_pure tabOk rfl rfl (q_nil (q_seq (q_region (ql_pure tabOk rfl rfl (ql_pure tabOk rfl rfl (ql_eqlT tabOk rfl rfl rfl (by omega) (ql_pure tabOk rfl rfl ?_))))))))))); refine ql_gyes rfl (ql_pure tabOk rfl rfl (ql_gyes rfl (ql_pure tabOk rfl rfl (ql_gyes rfl (ql_eqlT tabOk rfl rfl rfl (by omega) (ql_pure tabOk rfl rfl (ql_pure tabOk rfl rfl (ql_gyes rfl ?_)))))))); refine ql_loadABa tabOk rfl rfl rfl ?_; refine ql_gyes rfl ?_; refine ql_loadABa tabOk rfl rfl rfl ?_; refine ql_gyes rfl ?_)
        refine ql_callv (val := .bool true) tabOk rfl rfl rfl rfl (fun w hs => ?_) ?_; exact same_ca w 0 w.heap.size lo hi l (.slice ua l.runs.length uc) (.slice va l.runs.length vc) (runs_rdK hs (v := .slice ua l.runs.length uc) (t := 40) (l := l.runs) (by repeat constructor) rfl) (RdE.keep h hs.chg0) (by omega)
        (refine ql_pure tabOk rfl rfl (ql_pure tabOk rfl rfl (ql_gyes rfl ?_)))
        refine ql_callv (val := .bool true) tabOk rfl rfl rfl rfl (fun w hs => ?_) ?_; exact awake_ca w
        (refine ql_pure tabOk rfl rfl (ql_pure tabOk rfl rfl (q_nil (q_ret ?_))))
        refine q_fin tabOk rfl (by repeat constructor) fun w hs => ?_
        exact ⟨rfl, hs.chg0⟩
      · obtain ⟨x, y, hxy, hx1, hx2, hU, hmx⟩ := next_says (k := m) hP.ok.n8 (by omega) (by omega) hP.ok.o hP.noC h0
        (refine ql_pure tabOk rfl rfl (ql_ext tabOk rfl rfl rfl (ql_ext tabOk rfl rfl rfl (ql_pure tabOk rfl rfl (ql_pure tabOk rfl rfl (q_nil (q_seq (q_seq (q_region (ql_pure tabOk rfl rfl (ql_pure tabOk rfl rfl (ql_neqF tabOk rfl rfl rfl (by omega) ?_))))))))))); refine ql_pure tabOk rfl rfl (ql_gyes rfl (ql_pure tabOk rfl rfl (ql_gyes rfl (ql_pure tabOk rfl rfl (ql_gyes rfl (ql_neqF tabOk rfl rfl rfl (by omega) (ql_pure tabOk rfl rfl (q_nil (q_cond_false rfl (q_skip (q_seq ?_))))))))))); refine q_region ?_; refine ql_loadABa tabOk rfl rfl rfl ?_; refine ql_pure tabOk rfl rfl ?_)
        refine ql_callv (val := .tuple #[.agg (nxC (some (x, y))).toArray, .int .i64 0]) tabOk rfl rfl rfl rfl (fun w hs => ?_) ?_; exact by have := next_ok w 0 w.heap.size l (.slice ua l.runs.length uc) m (runs_rdK hs (v := .slice ua l.runs.length uc) (t := 40) (l := l.runs) (by repeat constructor) rfl) (by rw [← hkm]; exact hP); rw [← hkm] at this; rw [if_neg h0, if_neg h0, hxy] at this; exact this
        have hwp : wpV l kk x y = (((planO l.n m l.ord : Nat) : Int), 0) := by
          have hb : wpB l x y = false := by
            unfold wpB
            rw [inB_iff.2 (show (0 : Int) ≤ (x : Int) ∧ (x : Int) ≤ l.skis - 1 by omega), inB_iff.2 (show (0 : Int) ≤ (y : Int) ∧ (y : Int) ≤ l.skis - 1 by omega), decide_eq_false (by omega)]
            rfl
          have hu := und_iff (o := l.ord) (p := (x, y))
          unfold wpV
          rw [if_neg (by rw [hp]; simp), hb, if_neg (by simp), hkm, Int.toNat_natCast, Int.toNat_natCast, Int.toNat_natCast, worthV_und hU.xy hU.yx]
          unfold worthO
          rw [Nat.add_comm, hmx]
        (refine ql_pure tabOk rfl rfl (ql_ext tabOk rfl rfl rfl (ql_ext tabOk rfl rfl rfl ?_)))
        refine ql_alloc zero40 rfl (fun bn => ?_)
        (refine ql_setA tabOk rfl rfl rfl rfl rfl (by repeat constructor) rfl ?_; refine ql_pure tabOk rfl rfl (q_nil (q_seq (q_block (q_seq (q_region (ql_pure tabOk rfl rfl (ql_neqF tabOk rfl rfl rfl (by omega) (ql_pure tabOk rfl rfl (q_nil (q_cond_false rfl (q_seq ?_))))))))))); refine q_region (ql_pure tabOk rfl rfl (ql_eqlF tabOk rfl rfl rfl (by omega) (ql_pure tabOk rfl rfl (q_nil (q_cond_false rfl (q_seq (q_region ?_))))))); refine ql_loadABa tabOk rfl rfl rfl ?_; refine ql_pure tabOk rfl rfl (ql_pure tabOk rfl rfl ?_); refine ql_loadBa tabOk rfl rfl rfl ?_; refine ql_pure tabOk rfl rfl ?_; refine ql_loadBa tabOk rfl rfl rfl ?_)
        refine ql_callv (val := .tuple #[.int .i64 (planO l.n m l.ord : Nat), .int .i64 0]) tabOk rfl rfl rfl rfl (fun w hs => ?_) ?_; exact by have := rworthA_ca w 0 w.heap.size l (.slice ra l.runs.length rc) kk x y (runs_rdK hs (v := .slice ra l.runs.length rc) (t := 113) (l := l.runs) (by repeat constructor) rfl) hlen; rw [hwp] at this; exact this
        generalize planO l.n m l.ord = po at h0 hbl ⊢
        (refine ql_pure tabOk rfl rfl (ql_ext tabOk rfl rfl rfl (ql_ext tabOk rfl rfl rfl (ql_pure tabOk rfl rfl (ql_pure tabOk rfl rfl (q_nil (q_seq (q_region (ql_pure tabOk rfl rfl (ql_neqF tabOk rfl rfl rfl (by omega) (ql_pure tabOk rfl rfl (ql_gyes rfl ?_))))))))))); refine ql_pure tabOk rfl rfl (ql_gyes rfl (ql_neqF tabOk rfl rfl rfl (by omega) (ql_pure tabOk rfl rfl (ql_pure tabOk rfl rfl (ql_gyes rfl (ql_pure tabOk rfl rfl (ql_gyes rfl (ql_pure tabOk rfl rfl (ql_gyes rfl (ql_neqF tabOk rfl rfl rfl (by omega) (ql_pure tabOk rfl rfl ?_))))))))))); refine ql_pure tabOk rfl rfl (ql_gyes rfl (ql_pure tabOk rfl rfl (ql_gyes rfl ?_))); refine ql_loadBa tabOk rfl rfl rfl ?_; refine ql_gyes rfl (ql_pure tabOk rfl rfl (ql_gyes rfl ?_)); refine ql_loadBa tabOk rfl rfl rfl ?_; refine ql_gyes rfl (ql_geqF tabOk rfl rfl rfl (by omega) (ql_pure tabOk rfl rfl (ql_pure tabOk rfl rfl (ql_gyes rfl (ql_pure tabOk rfl rfl (ql_gyes rfl ?_)))))); refine ql_loadBa tabOk rfl rfl rfl ?_; refine ql_gyes rfl (ql_neqF tabOk rfl rfl rfl (by omega) (ql_pure tabOk rfl rfl (q_nil (q_cond_false rfl (q_skip (q_blk (q_seq (q_region ?_)))))))); refine ql_loadABa tabOk rfl rfl rfl ?_; (iterate 3 refine ql_pure tabOk rfl rfl ?_))
        skip
        refine ql_callv (val := .tuple #[.int .i64 (wpV l kk sa sb).1, .int .i64 (wpV l kk sa sb).2]) tabOk rfl rfl rfl rfl (fun w hs => ?_) ?_; exact worthA2_ca w 0 w.heap.size l (.slice ua l.runs.length uc) kk sa sb (runs_rdK hs (v := .slice ua l.runs.length uc) (t := 40) (l := l.runs) (by repeat constructor) rfl) hlen
        (refine ql_pure tabOk rfl rfl (ql_ext tabOk rfl rfl rfl (ql_ext tabOk rfl rfl rfl (ql_pure tabOk rfl rfl (ql_pure tabOk rfl rfl (q_nil (q_seq (q_region ?_))))))); refine ql_loadABa tabOk rfl rfl rfl ?_; (iterate 3 refine ql_pure tabOk rfl rfl ?_))
        refine ql_callv (val := .tuple #[.int .i64 (wpV l kk sa sb).1, .int .i64 (wpV l kk sa sb).2]) tabOk rfl rfl rfl rfl (fun w hs => ?_) ?_; exact rworthA_ca w 0 w.heap.size l (.slice ra l.runs.length rc) kk sa sb (runs_rdK hs (v := .slice ra l.runs.length rc) (t := 113) (l := l.runs) (by repeat constructor) rfl) hlen
        generalize (wpV l kk sa sb).1 = y1
        generalize (wpV l kk sa sb).2 = y2
        (refine ql_pure tabOk rfl rfl (ql_ext tabOk rfl rfl rfl (ql_ext tabOk rfl rfl rfl (ql_pure tabOk rfl rfl (ql_pure tabOk rfl rfl (q_nil (q_seq (q_region (ql_pure tabOk rfl rfl (ql_pure tabOk rfl rfl (ql_eqlT tabOk rfl rfl rfl (by omega) (ql_pure tabOk rfl rfl ?_))))))))))); refine ql_gyes rfl (ql_pure tabOk rfl rfl (ql_gyes rfl (ql_pure tabOk rfl rfl (ql_gyes rfl (ql_eqlT tabOk rfl rfl rfl (by omega) (ql_pure tabOk rfl rfl (ql_pure tabOk rfl rfl (ql_gyes rfl ?_)))))))); refine ql_loadABa tabOk rfl rfl rfl ?_; refine ql_gyes rfl ?_; refine ql_loadABa tabOk rfl rfl rfl ?_; refine ql_gyes rfl ?_)
        refine ql_callv (val := .bool true) tabOk rfl rfl rfl rfl (fun w hs => ?_) ?_; exact same_ca w 0 w.heap.size lo hi l (.slice ua l.runs.length uc) (.slice va l.runs.length vc) (runs_rdK hs (v := .slice ua l.runs.length uc) (t := 40) (l := l.runs) (by repeat constructor) rfl) (RdE.keep h hs.chg0) (by omega)
        (refine ql_pure tabOk rfl rfl (ql_pure tabOk rfl rfl (ql_gyes rfl ?_)))
        refine ql_callv (val := .bool true) tabOk rfl rfl rfl rfl (fun w hs => ?_) ?_; exact awake_ca w
        (refine ql_pure tabOk rfl rfl (ql_pure tabOk rfl rfl (q_nil (q_ret ?_))))
        refine q_fin tabOk rfl (by repeat constructor) fun w hs => ?_
        exact ⟨rfl, hs.chg0⟩
    · rw [show fewestV l kk = (0, plannedV l kk) from if_pos hp]
      dsimp only
      (refine ql_pure tabOk rfl rfl (ql_ext tabOk rfl rfl rfl (ql_ext tabOk rfl rfl rfl (ql_pure tabOk rfl rfl (ql_pure tabOk rfl rfl (q_nil (q_seq (q_seq (q_region (ql_pure tabOk rfl rfl (ql_pure tabOk rfl rfl (ql_neqF tabOk rfl rfl rfl (by omega) ?_))))))))))); refine ql_pure tabOk rfl rfl (ql_gyes rfl (ql_pure tabOk rfl rfl (ql_gyes rfl (ql_pure tabOk rfl rfl (ql_gyes rfl (ql_neqF tabOk rfl rfl rfl (by omega) (ql_pure tabOk rfl rfl (q_nil (q_cond_false rfl (q_skip (q_seq ?_))))))))))); refine q_region ?_; refine ql_loadABa tabOk rfl rfl rfl ?_; refine ql_pure tabOk rfl rfl ?_)
      refine ql_callv (val := .tuple #[.agg (nxC none).toArray, .int .i64 (plannedV l kk)]) tabOk rfl rfl rfl rfl (fun w hs => ?_) ?_; exact next_no w 0 w.heap.size l (.slice ua l.runs.length uc) kk (runs_rdK hs (v := .slice ua l.runs.length uc) (t := 40) (l := l.runs) (by repeat constructor) rfl) hlen hp
      generalize plannedV l kk = pv at hp ⊢
      (refine ql_pure tabOk rfl rfl (ql_ext tabOk rfl rfl rfl (ql_ext tabOk rfl rfl rfl ?_)))
      refine ql_alloc zero40 rfl (fun bn => ?_)
      (refine ql_setA tabOk rfl rfl rfl rfl rfl (by repeat constructor) rfl ?_; refine ql_pure tabOk rfl rfl (q_nil (q_seq (q_block (q_seq (q_region (ql_pure tabOk rfl rfl (ql_neqT tabOk rfl rfl rfl (by omega) (ql_pure tabOk rfl rfl (q_nil (q_cond_true rfl (q_seq ?_))))))))))); refine q_region (ql_pure tabOk rfl rfl (ql_pure tabOk rfl rfl (ql_neqF tabOk rfl rfl rfl (by omega) (ql_pure tabOk rfl rfl (ql_gyes rfl ?_))))); refine ql_loadABa tabOk rfl rfl rfl ?_; refine ql_gyes rfl ?_)
      refine ql_mk #[.int .i64 0, .int .i64 0, .int .i64 0] rfl (by kernel_rfl) rfl ?_
      (refine ql_gyes rfl ?_)
      refine ql_neF (xs := [Value.int .i64 0, .int .i64 0, .int .i64 0]) (ys := [Value.int .i64 0, .int .i64 0, .int .i64 0]) [some .i64, some .i64, some .i64] run_flat rfl rfl rfl rfl rfl ?_
      rw [show eqL [Value.int .i64 0, .int .i64 0, .int .i64 0] [Value.int .i64 0, .int .i64 0, .int .i64 0] = true from by rw [eqL_refl]]
      (refine ql_pure tabOk rfl rfl (q_nil (q_cond_false rfl (q_skip (q_blk (q_seq (q_region ?_)))))); refine ql_loadABa tabOk rfl rfl rfl ?_; (iterate 3 refine ql_pure tabOk rfl rfl ?_))
      refine ql_callv (val := .tuple #[.int .i64 (wpV l kk sa sb).1, .int .i64 (wpV l kk sa sb).2]) tabOk rfl rfl rfl rfl (fun w hs => ?_) ?_; exact worthA2_ca w 0 w.heap.size l (.slice ua l.runs.length uc) kk sa sb (runs_rdK hs (v := .slice ua l.runs.length uc) (t := 40) (l := l.runs) (by repeat constructor) rfl) hlen
      (refine ql_pure tabOk rfl rfl (ql_ext tabOk rfl rfl rfl (ql_ext tabOk rfl rfl rfl (ql_pure tabOk rfl rfl (ql_pure tabOk rfl rfl (q_nil (q_seq (q_region ?_))))))); refine ql_loadABa tabOk rfl rfl rfl ?_; (iterate 3 refine ql_pure tabOk rfl rfl ?_))
      refine ql_callv (val := .tuple #[.int .i64 (wpV l kk sa sb).1, .int .i64 (wpV l kk sa sb).2]) tabOk rfl rfl rfl rfl (fun w hs => ?_) ?_; exact rworthA_ca w 0 w.heap.size l (.slice ra l.runs.length rc) kk sa sb (runs_rdK hs (v := .slice ra l.runs.length rc) (t := 113) (l := l.runs) (by repeat constructor) rfl) hlen
      generalize (wpV l kk sa sb).1 = y1
      generalize (wpV l kk sa sb).2 = y2
      (refine ql_pure tabOk rfl rfl (ql_ext tabOk rfl rfl rfl (ql_ext tabOk rfl rfl rfl (ql_pure tabOk rfl rfl (ql_pure tabOk rfl rfl (q_nil (q_seq (q_region (ql_pure tabOk rfl rfl (ql_pure tabOk rfl rfl (ql_eqlT tabOk rfl rfl rfl (by omega) (ql_pure tabOk rfl rfl ?_))))))))))); refine ql_gyes rfl (ql_pure tabOk rfl rfl (ql_gyes rfl (ql_pure tabOk rfl rfl (ql_gyes rfl (ql_eqlT tabOk rfl rfl rfl (by omega) (ql_pure tabOk rfl rfl (ql_pure tabOk rfl rfl (ql_gyes rfl ?_)))))))); refine ql_loadABa tabOk rfl rfl rfl ?_; refine ql_gyes rfl ?_; refine ql_loadABa tabOk rfl rfl rfl ?_; refine ql_gyes rfl ?_)
      refine ql_callv (val := .bool true) tabOk rfl rfl rfl rfl (fun w hs => ?_) ?_; exact same_ca w 0 w.heap.size lo hi l (.slice ua l.runs.length uc) (.slice va l.runs.length vc) (runs_rdK hs (v := .slice ua l.runs.length uc) (t := 40) (l := l.runs) (by repeat constructor) rfl) (RdE.keep h hs.chg0) (by omega)
      (refine ql_pure tabOk rfl rfl (ql_pure tabOk rfl rfl (ql_gyes rfl ?_)))
      refine ql_callv (val := .bool true) tabOk rfl rfl rfl rfl (fun w hs => ?_) ?_; exact awake_ca w
      (refine ql_pure tabOk rfl rfl (ql_pure tabOk rfl rfl (q_nil (q_ret ?_))))
      refine q_fin tabOk rfl (by repeat constructor) fun w hs => ?_
      exact ⟨rfl, hs.chg0⟩
end Go.Proofs.YtcmpdmobmbbplaaGreat
