/- My texts K26, D1, D2, D3, D4, K29, D5, K27, K28, W13, K30, B33, K41, B34, W19, E0, K31, E6, E7, E1, E2, E3, E8, E9, W20, E10, E11, W21, E12, L2, W16, E13, joined: a claim takes at most 60 files. -/
import Derived.Test.YtcmpdmobmbbplaaJ3

/- Walks: the examples of the chapter. -/
namespace Go.Proofs.Ytcmpdmobmbbplaa
open Go Go.Eng

theorem Blk.rdS' {w : World} {b c n : Nat} {l : List (Int × Int)} {t : TypeId} (h : Blk w b (spC l) t) (hn : n = l.length) : RdS w 0 w.heap.size (.slice (some ⟨b, 0, none⟩) n c) l := by
  subst hn
  exact RdS.of (Blk.rdN (sz := 2) h (spC_length l))
theorem Blk.rdR' {w : World} {b c n : Nat} {l : List Rn} {t : TypeId} (h : Blk w b (rnC l) t) (hn : n = l.length) : RdR w 0 w.heap.size (.slice (some ⟨b, 0, none⟩) n c) l := by
  subst hn
  exact RdR.of (Blk.rdN (sz := 3) h (rnC_length l))
theorem four_ca (w : World) : Ca Try.prog 76 [] w fun x w' => ∃ b : Nat, x = .agg (lbC fourL (.slice (some ⟨b, 0, none⟩) 4 4)).toArray ∧ Sat w M0 [.pt b (rnC fourL.runs) 33] w' := by
  refine q_of (Sat.nil w M0) Try.func76 rfl (by simp [Try.ntmps76]) ?_
  (refine q_seq (q_region ?_))
  refine ql_alloc zero25 rfl (fun b0 => ?_)
  (refine q_nil (q_seq (q_region ?_)))
  refine ql_mk #[.int .i64 0, .int .i64 1, .int .i64 8] rfl (by kernel_rfl) rfl ?_
  refine ql_mk #[.int .i64 1, .int .i64 2, .int .i64 3] rfl (by kernel_rfl) rfl ?_
  refine ql_mk #[.int .i64 2, .int .i64 1, .int .i64 (-9)] rfl (by kernel_rfl) rfl ?_
  refine ql_mk #[.int .i64 3, .int .i64 0, .int .i64 (-6)] rfl (by kernel_rfl) rfl ?_
  refine ql_mkS 33 (rnC fourL.runs) rfl (by kernel_rfl) rfl (fun b5 => ?_)
  refine ql_mk #[.int .i64 4, .int .i64 5, .slice (some ⟨b5, 0, none⟩) 4 4] rfl (by kernel_rfl) rfl ?_
  (refine ql_setA tabOk rfl rfl rfl rfl rfl (by repeat constructor) rfl ?_; refine q_nil (q_ret ?_))
  refine q_fin tabOk rfl (by repeat constructor) fun w hs => ?_
  exact ⟨b5, rfl, hs.sp (by repeat constructor)⟩
theorem three_ca (w : World) : Ca Try.prog 77 [] w fun x w' => ∃ y : Nat × Nat × Nat × Nat, x = .slice (some ⟨y.2.2.2, 0, none⟩) 3 3 ∧ Sat w M0 [.pt y.2.2.2 [.slice (some ⟨y.1, 0, none⟩) 4 4, .slice (some ⟨y.2.1, 0, none⟩) 4 4, .slice (some ⟨y.2.2.1, 0, none⟩) 4 4] 26, .pt y.2.2.1 (ints [9, 9, 2, 1]) 3, .pt y.2.1 (ints [6, 2, 3, 8]) 3, .pt y.1 (ints [5, 4, 9, 9]) 3] w' := by
  refine q_of (Sat.nil w M0) Try.func77 rfl (by simp [Try.ntmps77]) ?_
  (refine q_seq (q_region (ql_pure tabOk rfl rfl (q_nil (q_seq (q_region ?_))))))
  refine ql_mkS 3 (ints [5, 4, 9, 9]) rfl (by kernel_rfl) rfl (fun c1 => ?_)
  refine ql_mkS 3 (ints [6, 2, 3, 8]) rfl (by kernel_rfl) rfl (fun c2 => ?_)
  refine ql_mkS 3 (ints [9, 9, 2, 1]) rfl (by kernel_rfl) rfl (fun c3 => ?_)
  refine ql_mkS 26 [.slice (some ⟨c1, 0, none⟩) 4 4, .slice (some ⟨c2, 0, none⟩) 4 4, .slice (some ⟨c3, 0, none⟩) 4 4] rfl (by kernel_rfl) rfl (fun c4 => ?_)
  (refine ql_pure tabOk rfl rfl (q_nil (q_ret ?_)))
  refine q_fin tabOk rfl (by repeat constructor) fun w hs => ?_
  exact ⟨(c1, c2, c3, c4), rfl, hs.sp (by repeat constructor)⟩
theorem six_ca (w : World) : Ca Try.prog 79 [] w fun x w' => ∃ b : Nat, x = .slice (some ⟨b, 0, none⟩) 6 6 ∧ Sat w M0 [.pt b (ints sixL) 3] w' := by
  refine q_of (Sat.nil w M0) Try.func79 rfl (by simp [Try.ntmps79]) ?_
  (refine q_seq (q_region (ql_pure tabOk rfl rfl (q_nil (q_seq (q_region ?_))))))
  refine ql_mkS 3 (ints sixL) rfl (by kernel_rfl) rfl (fun c1 => ?_)
  (refine ql_pure tabOk rfl rfl (q_nil (q_ret ?_)))
  refine q_fin tabOk rfl (by repeat constructor) fun w hs => ?_
  exact ⟨c1, rfl, hs.sp (by repeat constructor)⟩
theorem span_ca (lo hi : Int) (w : World) : Ca Try.prog 28 [.int .i64 lo, .int .i64 hi] w fun x w' => x = rtV (lo, hi) ∧ Chg [] w w' := by
  refine q_of (Sat.nil w M0) Try.func28 rfl (by simp [Try.ntmps28]) ?_
  (refine q_seq (q_region ?_))
  refine ql_alloc zero45 rfl (fun b4 => ?_)
  (refine q_nil (q_seq (q_region (ql_pure tabOk rfl rfl (ql_pure tabOk rfl rfl ?_)))))
  refine ql_mk #[.int .i64 lo, .int .i64 hi] rfl (by kernel_rfl) rfl ?_
  (refine ql_setA tabOk rfl rfl rfl rfl rfl (by repeat constructor) rfl ?_; refine q_nil (q_ret ?_))
  refine q_fin tabOk rfl (by repeat constructor) fun w hs => ?_
  exact ⟨rfl, hs.chg0⟩
theorem blk_II {w : World} {c1 c2 c3 c4 : Nat} {t1 t2 t3 t4 : TypeId} {l1 l2 l3 : List Int} {n1 n2 n3 : Nat} (e1 : n1 = l1.length) (e2 : n2 = l2.length) (e3 : n3 = l3.length) (h1 : Blk w c1 (ints l1) t1) (h2 : Blk w c2 (ints l2) t2) (h3 : Blk w c3 (ints l3) t3)
    (h4 : Blk w c4 [.slice (some ⟨c1, 0, none⟩) n1 n1, .slice (some ⟨c2, 0, none⟩) n2 n2, .slice (some ⟨c3, 0, none⟩) n3 n3] t4) : RdII w 0 w.heap.size (.slice (some ⟨c4, 0, none⟩) 3 3) [l1, l2, l3] := by
  subst e1 e2 e3
  refine ⟨[.slice (some ⟨c1, 0, none⟩) l1.length l1.length, .slice (some ⟨c2, 0, none⟩) l2.length l2.length, .slice (some ⟨c3, 0, none⟩) l3.length l3.length], RdE.one (by have := Blk.rdN (c := 3) (sz := 1) (q := 3) h4 rfl; exact this) (by simp [oneV]), rfl, fun i hi hi' => ?_⟩
  obtain rfl | rfl | rfl : i = 0 ∨ i = 1 ∨ i = 2 := by simp at hi; omega
  · exact Blk.rdI h1
  · exact Blk.rdI h2
  · exact Blk.rdI h3
theorem aw_ok : fourL.Ok ∧ NoC fourL.ord fourL.n := agreed_iff.1 aw_check
theorem aw_plan : PlanOk fourL 4 := planned_iff.1 (by decide +kernel)
theorem aw_few2 : planO fourL.n 4 fourL.ord = 2 := by decide +kernel
theorem aw_n : fourL.n = 4 := by decide
theorem aw_ord2 : cnt fourL.ord fourL.n (2 ^ fourL.n - 1) = 3 := aw_orders
theorem aw_pl2 : plC fourL fourL.ord fourL.n = [(1, 1), (2, 3), (3, 4), (2, 4)] := aw_places
theorem aw_wax2 : bestV threeT 0 2 = (1, 1, 0) := by decide +kernel
theorem aw_lim : limitV threeT 1 = 0 := by decide +kernel
set_option maxHeartbeats 4000000 in
set_option maxRecDepth 4000 in
theorem awake_ca (w : World) : Ca Try.prog 18 [] w fun v w' => v = .bool true ∧ Chg [] w w' := by
  refine q_of (Sat.nil w M0) Try.func18 rfl (by simp [Try.ntmps18]) ?_
  have hF : ∀ w' b, Blk w' b (rnC fourL.runs) 33 → RdR w' 0 w'.heap.size (.slice (some ⟨b, 0, none⟩) 4 4) fourL.runs := fun w' b hb => Blk.rdR' hb rfl
  (refine q_seq (q_region (ql_pure tabOk rfl rfl (q_nil (q_seq (q_region ?_))))))
  refine ql_call (β := Nat) tabOk [] _ M0 rfl rfl rfl rfl (Sp.refl _) (fun _ h => h.elim) (fun w' hs => four_ca w') ?_
  rintro b1 _ rfl
  dsimp only [List.cons_append, List.nil_append]
  refine ql_call (β := Value) tabOk [] _ M0 rfl rfl rfl rfl (Sp.refl _) (fun _ h => h.elim) (fun w' hs => places_ok w' 0 w'.heap.size fourL _ (hF w' b1 (hs.blk (by repeat constructor))) aw_ok.1 aw_ok.2) ?_
  rintro va _ rfl
  rw [aw_pl2, aw_n]
  dsimp only [List.cons_append, List.nil_append]
  refine ql_fact (fun w hs => hs.ownSome (v := va) (by repeat constructor) (by decide)) ?_
  rintro ⟨a1, a2, rfl⟩
  (refine ql_pure tabOk rfl rfl (ql_ext tabOk rfl rfl rfl (ql_ext tabOk rfl rfl rfl (ql_pure tabOk rfl rfl (ql_pure tabOk rfl rfl (q_nil (q_seq (q_region ?_))))))))
  refine ql_call (β := Nat) tabOk [] _ M0 rfl rfl rfl rfl (Sp.refl _) (fun _ h => h.elim) (fun w' hs => four_ca w') ?_
  rintro b2 _ rfl
  dsimp only [List.cons_append, List.nil_append]
  refine ql_callv (val := .tuple #[.int .i64 3, .int .i64 0]) tabOk rfl rfl rfl rfl (fun w hs => ?_) ?_; exact by have := orders_ok w 0 w.heap.size fourL _ (hF w b2 (hs.blk (by repeat constructor))) aw_ok.1 aw_ok.2; rw [aw_ord2] at this; exact this
  (refine ql_pure tabOk rfl rfl (ql_ext tabOk rfl rfl rfl (ql_ext tabOk rfl rfl rfl (ql_pure tabOk rfl rfl (ql_pure tabOk rfl rfl (q_nil (q_seq (q_region ?_))))))))
  refine ql_call (β := Nat) tabOk [] _ M0 rfl rfl rfl rfl (Sp.refl _) (fun _ h => h.elim) (fun w' hs => four_ca w') ?_
  rintro b3 _ rfl
  dsimp only [List.cons_append, List.nil_append]
  refine ql_mkS 3 (ints [0, 2]) rfl (by kernel_rfl) rfl (fun c1 => ?_)
  refine ql_callv (val := .tuple #[.bool true, .int .i64 0]) tabOk rfl rfl rfl rfl (fun w hs => ?_) ?_; exact by have := chainShows_ca w 0 w.heap.size 0 w.heap.size fourL _ 0 2 _ [0, 2] (hF w b3 (hs.blk (by repeat constructor))) (by decide) (Blk.rdI (c := 2) (hs.blk (b := c1) (by repeat constructor))) (by decide); rw [aw_chain] at this; exact this
  (refine ql_pure tabOk rfl rfl (ql_ext tabOk rfl rfl rfl (ql_ext tabOk rfl rfl rfl (ql_pure tabOk rfl rfl (ql_pure tabOk rfl rfl (q_nil (q_seq (q_region ?_))))))))
  refine ql_call (β := Nat) tabOk [] _ M0 rfl rfl rfl rfl (Sp.refl _) (fun _ h => h.elim) (fun w' hs => four_ca w') ?_
  rintro b4 _ rfl
  dsimp only [List.cons_append, List.nil_append]
  refine ql_callv (val := .tuple #[.int .i64 2, .int .i64 0]) tabOk rfl rfl rfl rfl (fun w hs => ?_) ?_; exact by have := fewest_ok w 0 w.heap.size fourL _ 4 (hF w b4 (hs.blk (by repeat constructor))) aw_plan; rw [aw_few2] at this; exact this
  (refine ql_pure tabOk rfl rfl (ql_ext tabOk rfl rfl rfl (ql_ext tabOk rfl rfl rfl (ql_pure tabOk rfl rfl (ql_pure tabOk rfl rfl (q_nil (q_seq (q_seq (q_region (ql_pure tabOk rfl rfl (ql_neqF tabOk rfl rfl rfl (by omega) (ql_pure tabOk rfl rfl ?_))))))))))); refine ql_gyes rfl (ql_pure tabOk rfl rfl (ql_gyes rfl (ql_neqF tabOk rfl rfl rfl (by omega) (ql_pure tabOk rfl rfl (ql_pure tabOk rfl rfl (ql_gyes rfl (ql_pure tabOk rfl rfl (ql_gyes rfl (ql_neqF tabOk rfl rfl rfl (by omega) (ql_pure tabOk rfl rfl (ql_pure tabOk rfl rfl ?_))))))))))); refine ql_gyes rfl (ql_pure tabOk rfl rfl (ql_gyes rfl (ql_neqF tabOk rfl rfl rfl (by omega) (ql_pure tabOk rfl rfl (ql_pure tabOk rfl rfl (ql_gyes rfl (ql_pure tabOk rfl rfl (ql_gyes rfl ?_)))))))))
  refine ql_callv (val := rtV (1, 1)) tabOk rfl rfl rfl rfl (fun w hs => ?_) ?_; exact span_ca 1 1 w
  refine ql_gyes rfl ?_
  refine ql_callv (val := rtV (2, 3)) tabOk rfl rfl rfl rfl (fun w hs => ?_) ?_; exact span_ca 2 3 w
  refine ql_gyes rfl ?_
  refine ql_callv (val := rtV (3, 4)) tabOk rfl rfl rfl rfl (fun w hs => ?_) ?_; exact span_ca 3 4 w
  refine ql_gyes rfl ?_
  refine ql_callv (val := rtV (2, 4)) tabOk rfl rfl rfl rfl (fun w hs => ?_) ?_; exact span_ca 2 4 w
  refine ql_gyes rfl ?_
  refine ql_mkS 45 (spC [(1, 1), (2, 3), (3, 4), (2, 4)]) rfl (by kernel_rfl) rfl (fun c2 => ?_)
  refine ql_gyes rfl ?_
  refine ql_callv (val := .bool true) tabOk rfl rfl rfl rfl (fun w hs => ?_) ?_; exact eqS_ca w 0 w.heap.size 0 w.heap.size _ _ [(1, 1), (2, 3), (3, 4), (2, 4)] (own_rdS (t := 45) (hs.mem (c := .ow (.slice (some ⟨a1, 0, none⟩) 4 a2) 45 2 4 (spC [(1, 1), (2, 3), (3, 4), (2, 4)])) (by repeat constructor)) rfl) (Blk.rdS' (c := 4) (hs.blk (b := c2) (by repeat constructor)) rfl) (by decide)
  (refine ql_gyes rfl ?_; (iterate 3 refine ql_pure tabOk rfl rfl ?_); refine ql_gyes rfl (ql_pure tabOk rfl rfl (ql_gyes rfl (ql_neqF tabOk rfl rfl rfl (by omega) (ql_pure tabOk rfl rfl (ql_pure tabOk rfl rfl (ql_gyes rfl (ql_pure tabOk rfl rfl (ql_gyes rfl ?_)))))))); (iterate 3 refine ql_pure tabOk rfl rfl ?_); refine ql_gyes rfl (ql_pure tabOk rfl rfl (ql_gyes rfl (ql_neqF tabOk rfl rfl rfl (by omega) (ql_pure tabOk rfl rfl (q_nil (q_cond_false rfl (q_skip (q_seq (q_region ?_))))))))))
  have hT : ∀ w' x1 x2 x3 x4, Blk w' x4 [.slice (some ⟨x1, 0, none⟩) 4 4, .slice (some ⟨x2, 0, none⟩) 4 4, .slice (some ⟨x3, 0, none⟩) 4 4] 26 → Blk w' x3 (ints [9, 9, 2, 1]) 3 → Blk w' x2 (ints [6, 2, 3, 8]) 3 → Blk w' x1 (ints [5, 4, 9, 9]) 3 → RdII w' 0 w'.heap.size (.slice (some ⟨x4, 0, none⟩) 3 3) threeT := fun w' x1 x2 x3 x4 h4 h3 h2 h1 => blk_II (l1 := [5, 4, 9, 9]) (l2 := [6, 2, 3, 8]) (l3 := [9, 9, 2, 1]) rfl rfl rfl h1 h2 h3 h4
  refine ql_call (β := Nat × Nat × Nat × Nat) tabOk [] _ M0 rfl rfl rfl rfl (Sp.refl _) (fun _ h => h.elim) (fun w' hs => three_ca w') ?_
  rintro ⟨x1, x2, x3, x4⟩ _ rfl
  dsimp only [List.cons_append, List.nil_append]
  refine ql_callv (val := .tuple #[.int .i64 1, .int .i64 1, .int .i64 0]) tabOk rfl rfl rfl rfl (fun w hs => ?_) ?_; exact by have := wax_ca w 0 w.heap.size _ threeT 0 2 (hT w x1 x2 x3 x4 (hs.blk (by repeat constructor)) (hs.blk (by repeat constructor)) (hs.blk (by repeat constructor)) (hs.blk (by repeat constructor))); rw [aw_wax2] at this; exact this
  (refine ql_pure tabOk rfl rfl ?_; (iterate 3 refine ql_ext tabOk rfl rfl rfl ?_); (iterate 3 refine ql_pure tabOk rfl rfl ?_); refine q_nil (q_seq (q_region ?_)))
  refine ql_call (β := Nat × Nat × Nat × Nat) tabOk [] _ M0 rfl rfl rfl rfl (Sp.refl _) (fun _ h => h.elim) (fun w' hs => three_ca w') ?_
  rintro ⟨y1, y2, y3, y4⟩ _ rfl
  dsimp only [List.cons_append, List.nil_append]
  refine ql_call (β := Value) tabOk [] _ M0 rfl rfl rfl rfl (Sp.refl _) (fun _ h => h.elim) (fun w' hs => zones_ok w' 0 w'.heap.size _ threeT 1 (hT w' y1 y2 y3 y4 (hs.blk (by repeat constructor)) (hs.blk (by repeat constructor)) (hs.blk (by repeat constructor)) (hs.blk (by repeat constructor))) aw_lim) ?_
  rintro vz _ rfl
  rw [aw_zones]
  dsimp only [List.cons_append, List.nil_append, List.length_cons, List.length_nil]
  refine ql_fact (fun w hs => hs.ownSome (v := vz) (by repeat constructor) (by decide)) ?_
  rintro ⟨z1, z2, rfl⟩
  (refine ql_pure tabOk rfl rfl (ql_ext tabOk rfl rfl rfl (ql_ext tabOk rfl rfl rfl (ql_pure tabOk rfl rfl (ql_pure tabOk rfl rfl (q_nil (q_seq (q_region ?_))))))))
  refine ql_call (β := Nat × Nat × Nat × Nat) tabOk [] _ M0 rfl rfl rfl rfl (Sp.refl _) (fun _ h => h.elim) (fun w' hs => three_ca w') ?_
  rintro ⟨u1, u2, u3, u4⟩ _ rfl
  dsimp only [List.cons_append, List.nil_append]
  refine ql_mkS 3 (ints [0, 3]) rfl (by kernel_rfl) rfl (fun c3 => ?_)
  refine ql_callv (val := .tuple #[.bool true, .int .i64 0]) tabOk rfl rfl rfl rfl (fun w hs => ?_) ?_; exact by have := breaksShow_ca w 0 w.heap.size 0 w.heap.size _ _ threeT 1 [0, 3] (hT w u1 u2 u3 u4 (hs.blk (by repeat constructor)) (hs.blk (by repeat constructor)) (hs.blk (by repeat constructor)) (hs.blk (by repeat constructor))) (Blk.rdI (c := 2) (hs.blk (b := c3) (by repeat constructor))) (by decide); rw [aw_breaks] at this; exact this
  (refine ql_pure tabOk rfl rfl (ql_ext tabOk rfl rfl rfl (ql_ext tabOk rfl rfl rfl (ql_pure tabOk rfl rfl (ql_pure tabOk rfl rfl (q_nil (q_seq (q_region ?_))))))))
  refine ql_call (β := Nat) tabOk [] _ M0 rfl rfl rfl rfl (Sp.refl _) (fun _ h => h.elim) (fun w' hs => six_ca w') ?_
  rintro s1 _ rfl
  dsimp only [List.cons_append, List.nil_append]
  refine ql_call (β := Value) tabOk [] _ M0 rfl rfl rfl rfl (Sp.refl _) (fun _ h => h.elim) (fun w' hs => match_ok w' 0 w'.heap.size _ sixL (show RdI w' 0 w'.heap.size (.slice (some ⟨s1, 0, none⟩) 6 6) sixL from Blk.rdI (c := 6) (l := sixL) (hs.blk (b := s1) (by repeat constructor))) (sing_iff.1 aw_sing)) ?_
  rintro vm _ rfl
  rw [aw_cost]
  dsimp only [List.cons_append, List.nil_append]
  (refine ql_pure tabOk rfl rfl ?_; (iterate 3 refine ql_ext tabOk rfl rfl rfl ?_); (iterate 3 refine ql_pure tabOk rfl rfl ?_); refine q_nil (q_seq (q_region ?_)))
  refine ql_call (β := Nat) tabOk [] _ M0 rfl rfl rfl rfl (Sp.refl _) (fun _ h => h.elim) (fun w' hs => six_ca w') ?_
  rintro s2 _ rfl
  dsimp only [List.cons_append, List.nil_append]
  refine ql_callv (val := rtV (20, 23)) tabOk rfl rfl rfl rfl (fun w hs => ?_) ?_; exact span_ca 20 23 w
  refine ql_callv (val := rtV (38, 41)) tabOk rfl rfl rfl rfl (fun w hs => ?_) ?_; exact span_ca 38 41 w
  refine ql_callv (val := rtV (50, 60)) tabOk rfl rfl rfl rfl (fun w hs => ?_) ?_; exact span_ca 50 60 w
  refine ql_mkS 45 (spC [(20, 23), (38, 41), (50, 60)]) rfl (by kernel_rfl) rfl (fun c4 => ?_)
  refine ql_callv (val := .tuple #[.int .i64 16, .int .i64 0]) tabOk rfl rfl rfl rfl (fun w hs => ?_) ?_; exact by have := gapsShow_ca w 0 w.heap.size 0 w.heap.size _ _ sixL [(20, 23), (38, 41), (50, 60)] (show RdI w 0 w.heap.size (.slice (some ⟨s2, 0, none⟩) 6 6) sixL from Blk.rdI (c := 6) (l := sixL) (hs.blk (b := s2) (by repeat constructor))) (Blk.rdS' (c := 3) (hs.blk (b := c4) (by repeat constructor)) rfl) (by decide); rw [aw_gaps] at this; exact this
  (refine ql_pure tabOk rfl rfl (ql_ext tabOk rfl rfl rfl (ql_ext tabOk rfl rfl rfl (ql_pure tabOk rfl rfl (ql_pure tabOk rfl rfl (q_nil (q_seq (q_region (ql_pure tabOk rfl rfl (ql_eqlT tabOk rfl rfl rfl (by omega) (ql_pure tabOk rfl rfl (ql_gyes rfl ?_))))))))))); refine ql_pure tabOk rfl rfl (ql_gyes rfl (ql_eqlT tabOk rfl rfl rfl (by omega) (ql_pure tabOk rfl rfl (ql_pure tabOk rfl rfl (ql_gyes rfl (ql_pure tabOk rfl rfl (ql_gyes rfl (ql_eqlT tabOk rfl rfl rfl (by omega) (ql_pure tabOk rfl rfl (ql_pure tabOk rfl rfl (ql_gyes rfl ?_))))))))))); refine ql_pure tabOk rfl rfl (ql_gyes rfl (ql_eqlT tabOk rfl rfl rfl (by omega) (ql_pure tabOk rfl rfl (ql_pure tabOk rfl rfl (ql_gyes rfl (ql_pure tabOk rfl rfl (ql_gyes rfl (ql_eqlT tabOk rfl rfl rfl (by omega) (ql_pure tabOk rfl rfl (ql_pure tabOk rfl rfl (ql_gyes rfl ?_))))))))))); refine ql_pure tabOk rfl rfl (ql_gyes rfl (ql_eqlT tabOk rfl rfl rfl (by omega) (ql_pure tabOk rfl rfl (ql_pure tabOk rfl rfl (ql_gyes rfl (ql_pure tabOk rfl rfl (ql_gyes rfl (ql_eqlT tabOk rfl rfl rfl (by omega) (ql_pure tabOk rfl rfl (ql_pure tabOk rfl rfl (ql_gyes rfl ?_))))))))))); refine ql_pure tabOk rfl rfl (ql_gyes rfl ?_))
  refine ql_mk #[.int .i64 0, .int .i64 2, .int .i64 1] rfl (by kernel_rfl) rfl ?_
  refine ql_gyes rfl ?_
  refine ql_mk #[.int .i64 3, .int .i64 3, .int .i64 2] rfl (by kernel_rfl) rfl ?_
  refine ql_gyes rfl ?_
  refine ql_mkS 96 (rnC [⟨0, 2, 1⟩, ⟨3, 3, 2⟩]) rfl (by kernel_rfl) rfl (fun c5 => ?_)
  refine ql_gyes rfl ?_
  refine ql_callv (val := .bool true) tabOk rfl rfl rfl rfl (fun w hs => ?_) ?_; exact eqZ_ca w 0 w.heap.size 0 w.heap.size _ _ [⟨0, 2, 1⟩, ⟨3, 3, 2⟩] (own_rdR (t := 96) (hs.mem (c := .ow (.slice (some ⟨z1, 0, none⟩) 2 z2) 96 3 2 (rnC [⟨0, 2, 1⟩, ⟨3, 3, 2⟩])) (by repeat constructor)) rfl) (Blk.rdR' (c := 2) (hs.blk (b := c5) (by repeat constructor)) rfl) (by decide)
  (refine ql_pure tabOk rfl rfl (ql_pure tabOk rfl rfl (ql_gyes rfl ?_)); (iterate 3 refine ql_pure tabOk rfl rfl ?_); refine ql_gyes rfl (ql_pure tabOk rfl rfl (ql_gyes rfl (ql_eqlT tabOk rfl rfl rfl (by omega) (ql_pure tabOk rfl rfl (ql_pure tabOk rfl rfl (ql_gyes rfl (ql_pure tabOk rfl rfl (ql_gyes rfl (ql_pure tabOk rfl rfl (ql_gyes rfl (ql_eqlT tabOk rfl rfl rfl (by omega) ?_))))))))))); refine ql_pure tabOk rfl rfl (ql_pure tabOk rfl rfl (q_nil (q_ret ?_))))
  refine q_fin tabOk rfl (by repeat constructor) fun w hs => ?_
  exact ⟨rfl, hs.chg0⟩
end Go.Proofs.Ytcmpdmobmbbplaa

/- Walks: klisterkit's deck. Only the ranges of what it deals are told. -/
namespace Go.Proofs.Ytcmpdmobmbbplaa
open Go Go.Eng

section
attribute [local irreducible] IntKind.wrap Int.tmod Int.tdiv

/-- The deck's own variable, after at most K cards. -/
def DkS (w : World) (b : Nat) (bs : Value) (K : Nat) : Prop :=
  ∃ next st, Blk w b [bs, .int .i64 next, .int .u32 st] 127 ∧ 0 ≤ next ∧ next ≤ K ∧ 0 ≤ st ∧ st < 4294967296
/-- Its bytes. -/
def DkB (w : World) (lo hi : Nat) (bs : Value) : Prop := ∃ nb cs, Rd w lo hi bs 1 nb cs ∧ (∀ c ∈ cs, ∃ x, c = .int .u8 x ∧ 0 ≤ x ∧ x < 256)
theorem DkB.keep {w w' : World} {lo hi : Nat} {bs : Value} (h : DkB w lo hi bs) (c : Chg [] w w') : DkB w' lo hi bs := by
  obtain ⟨nb, cs, h1, h2⟩ := h
  exact ⟨nb, cs, h1.keep c, h2⟩

end
/-- A deck, after at most K cards. -/
def dkP (bs : Value) (b K : Nat) : Ck := .gn (fun x => x = b) (fun w => DkS w b bs K) (fun w w' N h hc hN => by
  obtain ⟨next, st, h1, h2⟩ := h
  exact ⟨next, st, (hc.block b h1.lt (hN b rfl)).trans h1, h2⟩)

theorem DkS.mono {w : World} {b K K' : Nat} {bs : Value} (h : DkS w b bs K) (hk : K ≤ K') : DkS w b bs K' := by
  obtain ⟨next, st, h1, h2, h3, h4⟩ := h
  exact ⟨next, st, h1, h2, by omega, h4⟩
section
variable {K b : Nat} {bs : Value} {w0 w : World} {R : List Ck}
end
end Go.Proofs.Ytcmpdmobmbbplaa

/- Walks: a lab is made of numbers. -/
namespace Go.Proofs.Ytcmpdmobmbbplaa
open Go Go.Eng

/-- What a lab that was made has. -/
structure MadeL (most runs : Nat) (l : Lb) (real : List Int) : Prop where
  ok : l.Ok
  s2 : 2 ≤ l.skis
  sm : l.skis ≤ most
  e12 : l.err ≤ 11
  len : l.runs.length ≤ runs
  tr : l.True real
  rl : real.length = l.n
  rb : ∀ x ∈ real, 0 ≤ x ∧ x ≤ 96
end Go.Proofs.Ytcmpdmobmbbplaa

/- Walks: labs are copied, and get a run more. -/
namespace Go.Proofs.Ytcmpdmobmbbplaa
open Go Go.Eng

def tD3_563eb24 : OT := chainT [0, 1, 2, 3, 4, 5, 6, 7, 8] (.nil)
end Go.Proofs.Ytcmpdmobmbbplaa

/- Lists of labs, and what is told of them. -/
namespace Go.Proofs.Ytcmpdmobmbbplaa
open Go Go.Eng

abbrev LbM := Lb × Option Addr × Nat
def labCs (M : List LbM) : List Value := M.flatMap fun m => [.int .i64 m.1.skis, .int .i64 m.1.err, .slice m.2.1 m.1.runs.length m.2.2]
def labOs (t : Nat) (M : List LbM) : List Ck := M.map fun m => .ow (.slice m.2.1 m.1.runs.length m.2.2) t 3 m.1.runs.length (rnC m.1.runs)
/-- Places that were told. -/
def plOs (t : Nat) (M : List LbM) (ps : List Value) : List Ck := (M.zip ps).map fun x => .ow x.2 t 2 x.1.1.n (spC (plC x.1.1 x.1.1.ord x.1.1.n))
/-- An array that is filled. -/
def filA (f : Nat → Int) (n j : Nat) : List Int := (List.range n).map fun i => if i < j then f i else 0
def lbM (M : List LbM) (i : Nat) : Lb := (M.getD i (⟨0, 0, []⟩, none, 0)).1
def oM (M : List LbM) (i : Nat) : Int := cnt (lbM M i).ord (lbM M i).n (2 ^ (lbM M i).n - 1)
def rM (M : List LbM) (k i : Nat) : Int := (planO (lbM M i).n k (lbM M i).ord : Nat)
/-- What all labs of a list have. -/
structure AllOk (sk : Nat) (m : LbM) : Prop where
  ok : m.1.Ok
  noC : NoC m.1.ord m.1.n
  skis : m.1.skis = (sk : Int)
theorem AllOk.n {sk : Nat} {m : LbM} (h : AllOk sk m) : m.1.n = sk := by unfold Lb.n; rw [h.skis]; omega
end Go.Proofs.Ytcmpdmobmbbplaa

/- Walks: all pairs of skis of which one is faster; whether a pair is among them. -/
namespace Go.Proofs.Ytcmpdmobmbbplaa
open Go Go.Eng

/-- The pairs with a faster ski of a list of skis. -/
def prA (o n : Nat) (L : List Nat) : List (Int × Int) := L.flatMap fun a => ((List.range n).filter fun b => fa o a b).map fun (b : Nat) => ((a : Int), (b : Int))
/-- All pairs of skis of which one is faster. -/
def fasL (o n : Nat) : List (Int × Int) := prA o n (List.range n)
/-- Those of the skis ahead of the k-th one, and the first ones of its own. -/
def fasI (o n a b : Nat) : List (Int × Int) := prA o n (List.range a) ++ ((List.range b).filter fun b => fa o a b).map fun (b : Nat) => ((a : Int), (b : Int))
/-- Where a pair is, or -1. -/
def idxP (L : List (Int × Int)) (p : Int × Int) : Int := if p ∈ L then (L.idxOf p : Int) else -1
end Go.Proofs.Ytcmpdmobmbbplaa

/- Labs that grow, and what is read of them. -/
namespace Go.Proofs.Ytcmpdmobmbbplaa
open Go Go.Eng

/-- The slice of a lab's runs. -/
abbrev slV (m : LbM) : Value := .slice m.2.1 m.1.runs.length m.2.2
end Go.Proofs.Ytcmpdmobmbbplaa

/- Walks: tables are made of numbers, and copied. -/
namespace Go.Proofs.Ytcmpdmobmbbplaa
open Go Go.Eng

theorem slII : SlT Try.prog 49 26 1 24 (.slice none 0 0) := ⟨by kernel_rfl, by kernel_rfl, by kernel_rfl, by decide⟩
theorem rows_add {w0 w : World} {M : Nat → Prop} {R : List Ck} {t : Nat} {xs : List (Value × List Int)} {u : Value} {r : List Int} (h : Sat w0 M (.ow u t 1 r.length (ints r) :: un (rowsO t xs) :: R) w) : Sat w0 M (un (rowsO t (xs ++ [(u, r)])) :: R) w :=
  (Sat.un_in h).un_perm (L' := rowsO t (xs ++ [(u, r)])) (by unfold rowsO; rw [List.map_append]; exact (List.perm_append_comm (l₁ := [_])))
end Go.Proofs.Ytcmpdmobmbbplaa

/- Walks: the regrets of a table; lists of lists copied. -/
namespace Go.Proofs.Ytcmpdmobmbbplaa
open Go Go.Eng

set_option maxHeartbeats 2000000 in
theorem regrets_ca (w : World) (lo hi : Nat) (v : Value) (l : List (List Int)) (n : Nat) (h : RdII w lo hi v l) (hl : TabOk l n) : Ca Try.prog 20 [v] w fun x w' => ∃ y : Value × List (Value × List Int), (x = .tuple #[y.1, .int .i64 0] ∧ y.2.map (·.2) = regV l n) ∧ Sat w M0 [un (rowsO 3 y.2), .ow y.1 26 1 l.length (y.2.map (·.1))] w' := by
  have hl1 := hl.l1
  have hl2 := hl.l2
  refine q_of (Sat.nil w M0) Try.func20 rfl (by simp [Try.ntmps20]) ?_
  (refine q_seq (q_region (ql_pure tabOk rfl rfl (ql_pure tabOk rfl rfl (q_nil (q_seq (q_seq (q_region (ql_pure tabOk rfl rfl ?_)))))))))
  refine ql_callv (val := .int .i64 0) tabOk rfl rfl rfl rfl (fun w hs => ?_) ?_; exact by have := table_ca w lo hi _ l (RdII.keep h hs.chg0); rw [hl.v.1] at this; exact this
  (refine ql_pure tabOk rfl rfl (q_nil (q_seq (q_region (ql_pure tabOk rfl rfl (ql_neqF tabOk rfl rfl rfl (by omega) (q_nil (q_cond_false rfl (q_skip (q_seq (q_region (ql_pure tabOk rfl rfl ?_))))))))))); refine q_nil (q_seq (q_seq (q_region (ql_pure tabOk rfl rfl ?_)))))
  refine ql_call (β := Value × List (Value × List Int)) tabOk [] _ M0 rfl rfl rfl rfl (Sp.refl _) (fun _ h => h.elim) (fun w' hs => waxes_ca w' lo hi _ l n 0 (RdII.keep h hs.chg0) hl) ?_
  rintro ⟨_, xs⟩ u ⟨rfl, hxs⟩
  dsimp only [List.cons_append, List.nil_append]
  refine ql_fact (fun w hs => hs.ownSome (v := u) (by repeat constructor) (by omega)) ?_
  rintro ⟨g, cw, rfl⟩
  have hxl : xs.length = l.length := by have := congrArg List.length hxs; rw [regV_len, List.length_map] at this; exact this
  (refine ql_pure tabOk rfl rfl (ql_pure tabOk rfl rfl (q_nil (q_block ?_))))
  refine q_conv (H' := [.ow (.slice none 0 0) 26 1 0 ((xs.take 0).map (·.1)), un (rowsO 3 xs), .ow (.slice (some ⟨g, 0, none⟩) l.length cw) 157 2 l.length (wxC 0 xs)]) (fun w' hs => (Sat.ownil hs 26 1).sp (by repeat constructor)) ?_
  refine q_loop (σ := Nat × Value) (fun y => y.1 ≤ l.length) (fun y => l.length - y.1) (fun y => [(5, y.2), (14, .slice (some ⟨g, 0, none⟩) l.length cw), (15, .int .i64 l.length), (16, .int .i64 y.1)])
    (fun y => [.ow y.2 26 1 y.1 ((xs.take y.1).map (·.1)), un (rowsO 3 xs), .ow (.slice (some ⟨g, 0, none⟩) l.length cw) 157 2 l.length (wxC 0 xs)]) (0, .slice none 0 0) (by simp only; omega) ⟨rfl, rfl, rfl, rfl, trivial⟩ (by repeat constructor) ?_
  rintro ⟨k, u⟩ hk K hK
  dsimp only at hk ⊢
  (refine q_seq (q_region (ql_pure tabOk rfl rfl (q_nil (q_seq ?_)))))
  refine q_if rfl (fun hc => ?_) (fun hc => ?_)
  · have hk2 : k < l.length := by omega
    have hk3 : k < xs.length := by omega
    clear hc
    refine q_fact (fun w hs => RdI.outI (wx_row hs (by repeat constructor) k hk3).1) ?_
    rintro ⟨a1, c1, e1, _⟩
    (refine q_skip (q_seq (q_block (q_seq (q_region ?_)))))
    refine ql_index tabOk rfl rfl rfl rfl rfl (by omega) (by omega) ?_
    refine ql_loadA tabOk rfl rfl rfl rfl (fun w hs => by
      rw [Int.toNat_natCast]
      have := wx_at hs (by repeat constructor) k hk3
      rw [e1] at this
      exact this) ?_
    skip
    refine ql_alloc zero157 rfl (fun b7 => ?_)
    (refine ql_setA tabOk rfl rfl rfl rfl rfl (by repeat constructor) rfl ?_; refine q_nil (q_region (ql_pure tabOk rfl rfl (ql_pure tabOk rfl rfl ?_))); refine ql_loadBa tabOk rfl rfl rfl ?_)
    refine ql_mkS 26 [.slice a1 xs[k].2.length c1] rfl (by kernel_rfl) rfl (fun bn => ?_)
    skip
    refine ql_append (q := 1) (news := [.slice a1 xs[k].2.length c1]) slII rfl rfl rfl (fun v' => by repeat constructor) (fun w' hs => ⟨_, _, Blk.rdN (hs.blk (b := bn) (by repeat constructor)) rfl⟩) (by simp [oneV]) (by omega) (by omega) (fun u' => ?_)
    (refine ql_pure tabOk rfl rfl (q_nil (q_blk (q_region (ql_ar tabOk rfl rfl rfl rfl (by omega) (by omega) (ql_pure tabOk rfl rfl (q_nil ?_)))))))
    have e : (xs.take (k + 1)).map (·.1) = (xs.take k).map (·.1) ++ [.slice a1 xs[k].2.length c1] := by
      rw [List.take_succ_eq_append_getElem hk3, List.map_append, List.map_singleton, e1]
    exact hK (k + 1, u') _ _ (by simp only; omega) (by simp only; omega) ⟨rfl, rfl, rfl, rfl, trivial⟩ (by dsimp only; rw [e]; repeat constructor)
  · obtain rfl : k = l.length := by omega
    clear hc hK hk
    (refine q_exit _ rfl (q_seq (q_region ?_)); (iterate 3 refine ql_pure tabOk rfl rfl ?_); refine q_nil (q_ret ?_))
    refine q_fin tabOk rfl (by repeat constructor) fun w hs => ?_
    refine ⟨(u, xs), ⟨rfl, hxs⟩, ?_⟩
    have h1 := hs.sp (H' := [un (rowsO 3 xs), .ow u 26 1 l.length ((xs.take l.length).map (·.1))]) (by repeat constructor)
    rw [← hxl, List.take_length, hxl] at h1
    exact h1
theorem cloneI_ca (w : World) (lo hi : Nat) (v : Value) (l : List Int) (h : RdI w lo hi v l) (hlen : l.length ≤ 1000000) : Ca Try.prog 29 [v] w fun r w' => ∃ u : Value, r = u ∧ Sat w M0 [.ow u 3 1 l.length (ints l)] w' := by
  obtain ⟨a, ca, rfl, _⟩ := RdI.outI h
  have hrow : ∀ w', Chg [] w w' → Rd w' lo hi (.slice a l.length ca) 1 l.length (ints l) := fun w' hc => by
    have := (RdE.keep h hc).rd
    rw [cellsOf_ints] at this
    simpa using this
  refine q_of (Sat.nil w M0) Try.func29 rfl (by simp [Try.ntmps29]) ?_
  (refine q_seq (q_region (ql_pure tabOk rfl rfl (q_nil (q_seq (q_region (ql_pure tabOk rfl rfl ?_)))))))
  refine ql_conv (H' := [.ow (.slice none 0 0) 3 1 0 []]) (fun w' hs => Sat.ownil hs 3 1) ?_
  refine ql_append (q := l.length) slI rfl rfl rfl (fun v' => by repeat constructor) (fun w' hs => ⟨lo, hi, hrow w' hs.chg0⟩) (by simp [oneV]) (by omega) (by omega) (fun u => ?_)
  (refine ql_pure tabOk rfl rfl (q_nil (q_ret ?_)))
  refine q_fin tabOk rfl (by repeat constructor) fun w hs => ?_
  exact ⟨u, rfl, by simpa using hs⟩
set_option maxHeartbeats 1000000 in
theorem cloneAll_ca (w : World) (lo hi : Nat) (v : Value) (ll : List (List Int)) (h : RdII w lo hi v ll) (hlen : ll.length ≤ 1000) (hl : ∀ l ∈ ll, l.length ≤ 1000000) :
    Ca Try.prog 22 [v] w fun r w' => ∃ x : Value × List (Value × List Int), (r = x.1 ∧ x.2.map (·.2) = ll) ∧ Sat w M0 [un (rowsO 3 x.2), .ow x.1 26 1 ll.length (x.2.map (·.1))] w' := by
  obtain ⟨a, cap, rfl, hs0⟩ := h.outI
  refine q_of (Sat.nil w M0) Try.func22 rfl (by simp [Try.ntmps22]) ?_
  (refine q_seq (q_region (ql_pure tabOk rfl rfl (q_nil (q_seq (q_region (ql_pure tabOk rfl rfl (q_nil (q_seq (q_seq (q_region ?_)))))))))); (iterate 3 refine ql_pure tabOk rfl rfl ?_); refine q_nil (q_block ?_))
  refine q_conv (H' := [un (rowsO 3 []), .ow (.slice none 0 0) 26 1 0 (([] : List (Value × List Int)).map (·.1))]) (fun w' hs => Sat.un_nil (Sat.ownil hs _ _)) ?_
  refine q_loop (σ := Value × List (Value × List Int)) (fun s => s.2.length ≤ ll.length ∧ s.2.map (·.2) = ll.take s.2.length) (fun s => ll.length - s.2.length) (fun s => [(3, s.1), (6, .slice a ll.length cap), (7, .int .i64 ll.length), (8, .int .i64 s.2.length)])
    (fun s => [un (rowsO 3 s.2), .ow s.1 26 1 s.2.length (s.2.map (·.1))]) (.slice none 0 0, []) ⟨by simp, by simp⟩ ⟨rfl, rfl, rfl, rfl, trivial⟩ (Sp.refl _) ?_
  rintro ⟨va, xs⟩ ⟨hk, hxs⟩ K hK
  simp only at hk hxs
  dsimp only
  (refine q_seq (q_region (ql_pure tabOk rfl rfl (q_nil (q_seq ?_)))))
  refine q_if rfl (fun hc => ?_) (fun hc => ?_)
  · have hk2 : xs.length < ll.length := by omega
    clear hc
    obtain ⟨b, off, rfl⟩ := hs0 (by omega)
    obtain ⟨ar, cr, hr1, hr2⟩ := h.row xs.length hk2
    (refine q_skip (q_seq (q_block (q_seq (q_region ?_)))))
    refine ql_index tabOk rfl rfl rfl rfl rfl (by omega) (by omega) ?_
    refine ql_load1 tabOk rfl rfl rfl (fun w hs => hr2 w hs.chg0) ?_
    (refine ql_pure tabOk rfl rfl (q_nil (q_region (ql_pure tabOk rfl rfl (ql_pure tabOk rfl rfl ?_)))))
    refine ql_call (β := Value) (ψ := fun x v => v = x) (L' := fun x => [.ow x 3 1 ll[xs.length].length (ints ll[xs.length])]) tabOk [] _ M0 rfl rfl rfl rfl (Sp.refl _) (fun _ h => h.elim) (fun w' hs => cloneI_ca w' lo hi _ ll[xs.length] (RdE.keep hr1 hs.chg0) (hl _ (List.getElem_mem hk2))) ?_
    rintro _ y rfl
    skip
    refine ql_fact (fun w hs => hs.slice2 (v := y) (by repeat constructor)) ?_
    rintro ⟨ay, cy, rfl⟩
    refine ql_mkS 26 [.slice ay ll[xs.length].length cy] rfl (by kernel_rfl) rfl (fun bn => ?_)
    skip
    refine ql_append (q := 1) slII rfl rfl rfl (fun v' => by repeat constructor) (fun w' hs => ⟨_, _, Blk.rdN (hs.blk (b := bn) (by repeat constructor)) rfl⟩) (by simp [oneV]) (by omega) (by omega) (fun va' => ?_)
    (refine ql_pure tabOk rfl rfl (q_nil (q_blk (q_region (ql_ar tabOk rfl rfl rfl rfl (by omega) (by omega) (ql_pure tabOk rfl rfl (q_nil ?_)))))))
    refine q_conv (H' := [un (rowsO 3 (xs ++ [(Value.slice ay ll[xs.length].length cy, ll[xs.length])])), .ow va' 26 1 (xs ++ [(Value.slice ay ll[xs.length].length cy, ll[xs.length])]).length ((xs ++ [(Value.slice ay ll[xs.length].length cy, ll[xs.length])]).map (·.1))]) (fun w' hs => by
      refine rows_add ?_
      rw [List.length_append, List.map_append]
      exact hs.sp (by repeat constructor)) ?_
    have e1 : ll.take (xs.length + 1) = ll.take xs.length ++ [ll[xs.length]] := List.take_succ_eq_append_getElem hk2
    have hlen1 : (xs ++ [(Value.slice ay ll[xs.length].length cy, ll[xs.length])]).length = xs.length + 1 := by simp
    refine hK (va', xs ++ [(Value.slice ay ll[xs.length].length cy, ll[xs.length])]) _ _ ⟨by simp only [hlen1]; omega, by simp only [hlen1, e1, List.map_append, hxs]; rfl⟩ (by simp only [hlen1]; omega) ⟨rfl, rfl, rfl, lookI rfl (by simp only [hlen1]; omega), trivial⟩ (Sp.refl _)
  · have hkl : xs.length = ll.length := by omega
    (refine q_exit _ rfl (q_seq (q_region (ql_pure tabOk rfl rfl (ql_pure tabOk rfl rfl (q_nil (q_ret ?_)))))))
    refine q_fin tabOk rfl (by repeat constructor) fun w hs => ?_
    refine ⟨(va, xs), ⟨rfl, by simp only; rw [hxs, hkl, List.take_length]⟩, ?_⟩
    rw [← hkl]
    exact hs
end Go.Proofs.Ytcmpdmobmbbplaa

/- The plain law of SkiBagged. -/
namespace Go.Proofs.Ytcmpdmobmbbplaa

theorem takeWhile_ge {α : Type} {p : α → Bool} : ∀ (l : List α) (k : Nat), k ≤ l.length → (∀ i (h : i < l.length), i < k → p l[i] = true) → k ≤ (l.takeWhile p).length
  | _, 0, _, _ => by omega
  | [], k + 1, h, _ => by simp at h
  | a :: l, k + 1, h, hp => by
    rw [List.takeWhile_cons, if_pos (show p a = true from hp 0 (by simp) (by omega))]
    have := takeWhile_ge l k (by simpa using h) (fun i hi hk => hp (i + 1) (by simpa using hi) (by omega))
    simp only [List.length_cons]
    omega
theorem goodN_ge {row : List Int} {most : Int} {a s : Nat} (has : a ≤ s) (hs : s < row.length) (h : ∀ t, a ≤ t → t ≤ s → row.getD t 0 ≤ most) : s + 1 - a ≤ goodN row most a := by
  unfold goodN
  refine takeWhile_ge _ _ (by rw [List.length_drop]; omega) (fun i hi hk => ?_)
  rw [List.length_drop] at hi
  rw [List.getElem_drop, decide_eq_true_iff, ← getD_row]
  exact h _ (by omega) (by omega)
/-- Where the best zone from a snow on ends, and one. -/
def reachF (rs : List (List Int)) (most : Int) (a : Nat) : Nat := ((zoneF rs most a rs.length).1 + 1).toNat
structure ReachZ (rs : List (List Int)) (most : Int) (n a e : Nat) : Prop where
  lt : a < e
  le : e ≤ n
  wax : ∃ w : Nat, w < rs.length ∧ (zoneF rs most a rs.length).2 = (w : Int) ∧ ∀ s, a ≤ s → s < e → (rs.getD w []).getD s 0 ≤ most
  max : ∀ w s, w < rs.length → a ≤ s → s < n → (∀ t, a ≤ t → t ≤ s → (rs.getD w []).getD t 0 ≤ most) → s < e
  eq : (zoneF rs most a rs.length).1 = (e : Int) - 1
theorem reach_is {l : List (List Int)} {n : Nat} {most : Int} (hl : TabOk l n) (hm : 0 ≤ most) {a : Nat} (ha : a < n) : ReachZ (regV l n) most n a (reachF (regV l n) most a) := by
  have hn : ∀ row ∈ regV l n, row.length = n := fun row hr => by
    obtain ⟨r, _, rfl⟩ := List.mem_map.1 hr
    exact regRow_len _ _ _
  have h1 := zone_has hl hm ha
  rw [← regV_len l n] at h1
  have h2 := zone_lt (most := most) hn ha (regV l n).length
  have e1 : ((reachF (regV l n) most a : Nat) : Int) = (zoneF (regV l n) most a (regV l n).length).1 + 1 := by unfold reachF; omega
  have hg : ∀ w, w < (regV l n).length → ((regV l n).getD w []).length = n := fun w hw => by
    rw [List.getD_eq_getElem?_getD, List.getElem?_eq_getElem hw, Option.getD_some]
    exact hn _ (List.getElem_mem hw)
  refine ⟨by omega, by omega, ?_, fun w s hw has hs hgood => ?_, by omega⟩
  · rcases zone_wax (rs := regV l n) (most := most) (a := a) (regV l n).length with h | ⟨w, hw, h3, h4⟩
    · omega
    · exact ⟨w, hw, h3, fun s has hs => goodN_good has (by omega)⟩
  · have h3 := goodN_ge has (by rw [hg w hw]; exact hs) hgood
    have h4 := zone_ge (rs := regV l n) (most := most) (a := a) (regV l n).length w hw
    omega
theorem zonesF_go {rs : List (List Int)} {most : Int} {n f a : Nat} (h : ReachZ rs most n a (reachF rs most a)) : ∃ w : Nat, w < rs.length ∧ (∀ s, a ≤ s → s < reachF rs most a → (rs.getD w []).getD s 0 ≤ most) ∧ zonesF rs most n (f + 1) a = ((a : Int), (reachF rs most a : Int) - 1, (w : Int)) :: zonesF rs most n f (reachF rs most a) := by
  obtain ⟨w, hw, e, hg⟩ := h.wax
  have h1 := h.lt
  have h2 := h.le
  refine ⟨w, hw, hg, ?_⟩
  rw [zonesF_step (by omega), h.eq, e]
  congr 2
  omega
theorem zonesF_len {rs : List (List Int)} {most : Int} {n : Nat} : ∀ f a, (zonesF rs most n f a).length ≤ f
  | 0, _ => by simp [zonesF]
  | f + 1, a => by
    unfold zonesF
    split
    · rw [List.length_cons]
      exact Nat.succ_le_succ (zonesF_len f _)
    · simp
/-- Where the next zone begins. -/
def nxtZ (Z : List (Int × Int × Int)) (a : Int) : Nat → Int
  | 0 => a
  | i + 1 => (Z.getD i (0, 0, 0)).2.1 + 1
theorem nxt_cons (z : Int × Int × Int) (Z : List (Int × Int × Int)) (a : Int) (i : Nat) : nxtZ (z :: Z) a (i + 1) = nxtZ Z (z.2.1 + 1) i := by
  cases i <;> simp [nxtZ]
structure ZoneIs (rs : List (List Int)) (most : Int) (n : Nat) (a : Int) (z : Int × Int × Int) : Prop where
  frm : z.1 = a
  a0 : 0 ≤ a
  le : a ≤ z.2.1
  lt : z.2.1 < n
  w0 : 0 ≤ z.2.2
  w1 : z.2.2 < rs.length
  good : ∀ s : Nat, a ≤ s → (s : Int) ≤ z.2.1 → (rs.getD z.2.2.toNat []).getD s 0 ≤ most
theorem zones_are {l : List (List Int)} {n : Nat} {most : Int} (hl : TabOk l n) (hm : 0 ≤ most) : ∀ f a, a ≤ n → n < a + f →
    (∀ i (h : i < (zonesF (regV l n) most n f a).length), ZoneIs (regV l n) most n (nxtZ (zonesF (regV l n) most n f a) a i) (zonesF (regV l n) most n f a)[i]) ∧ nxtZ (zonesF (regV l n) most n f a) a (zonesF (regV l n) most n f a).length = n
  | 0, a, h1, h2 => by omega
  | f + 1, a, h1, h2 => by
    by_cases ha : a < n
    · have hr := reach_is hl hm ha
      have h3 := hr.lt
      have h4 := hr.le
      obtain ⟨w, hw, hg, e⟩ := zonesF_go (f := f) hr
      obtain ⟨ih1, ih2⟩ := zones_are hl hm f _ h4 (by omega)
      rw [e]
      have e2 : ((reachF (regV l n) most a : Nat) : Int) - 1 + 1 = (reachF (regV l n) most a : Nat) := by omega
      refine ⟨fun i hi => ?_, ?_⟩
      · cases i with
        | zero => exact ⟨rfl, by show (0 : Int) ≤ a; omega, by show (a : Int) ≤ _ - 1; omega, by show (_ : Int) - 1 < n; omega, by show (0 : Int) ≤ w; omega, by show (w : Int) < _; omega, fun s h5 h6 => by
            simp only [List.getElem_cons_zero, Int.toNat_natCast] at h6 ⊢
            have h5' : (a : Int) ≤ s := h5
            exact hg s (by omega) (by omega)⟩
        | succ i =>
          rw [nxt_cons]
          simp only [List.getElem_cons_succ, e2]
          exact ih1 i (by simpa using hi)
      · rw [List.length_cons, nxt_cons]
        simp only [e2]
        exact ih2
    · obtain rfl : a = n := by omega
      rw [zonesF_end (Nat.le_refl _)]
      exact ⟨fun i h => by simp at h, rfl⟩
theorem zones_cover {l : List (List Int)} {n : Nat} {most : Int} (hl : TabOk l n) (hm : 0 ≤ most) : ∀ f a, a ≤ n → n < a + f → ∀ s, a ≤ s → s < n → ∃ z ∈ zonesF (regV l n) most n f a, 0 ≤ z.2.2 ∧ z.2.2 < l.length ∧ ((regV l n).getD z.2.2.toNat []).getD s 0 ≤ most
  | 0, a, h1, h2, _, _, _ => by omega
  | f + 1, a, h1, h2, s, h5, h6 => by
    have hr := reach_is hl hm (show a < n by omega)
    have h3 := hr.lt
    have h4 := hr.le
    obtain ⟨w, hw, hg, e⟩ := zonesF_go (f := f) hr
    rw [e]
    by_cases hs : s < reachF (regV l n) most a
    · exact ⟨_, List.mem_cons_self, by show (0 : Int) ≤ w; omega, by show (w : Int) < _; rw [regV_len] at hw; omega, by simp only [Int.toNat_natCast]; exact hg s h5 hs⟩
    · obtain ⟨z, hz, h7⟩ := zones_cover hl hm f _ h4 (by omega) s (by omega) h6
      exact ⟨z, List.mem_cons_of_mem _ hz, h7⟩
theorem allG_of {row : List Int} {most : Int} {a b : Nat} (h : ∀ t, a ≤ t → t ≤ b → row.getD t 0 ≤ most) : allG row most a b = true := by
  unfold allG spanL
  refine List.all_eq_true.2 fun x hx => ?_
  obtain ⟨i, hi, rfl⟩ := List.mem_iff_getElem.1 hx
  rw [List.length_take, List.length_drop] at hi
  rw [List.getElem_take, List.getElem_drop, decide_eq_true_iff, ← getD_row]
  exact h _ (by omega) (by omega)
theorem allG_get {row : List Int} {most : Int} {a b : Nat} (hb : b < row.length) (h : allG row most a b = true) : ∀ t, a ≤ t → t ≤ b → row.getD t 0 ≤ most := fun t h1 h2 => by
  unfold allG spanL at h
  have h3 := List.all_eq_true.1 h (((row.drop a).take (b + 1 - a))[t - a]'(by rw [List.length_take, List.length_drop]; omega)) (List.getElem_mem _)
  rw [decide_eq_true_iff, List.getElem_take, List.getElem_drop] at h3
  rw [getD_row (by omega)]
  have e : a + (t - a) = t := by omega
  simpa only [e] using h3
/-- Where the zones begin. -/
theorem starts_are {l : List (List Int)} {n : Nat} {most : Int} (hl : TabOk l n) (hm : 0 ≤ most) : ∀ f a, a ≤ n → n < a + f → brkF (regV l n) most ((zonesF (regV l n) most n f a).map (·.1)) = true
  | 0, a, h1, h2 => by omega
  | f + 1, a, h1, h2 => by
    by_cases ha : a < n
    · have hr := reach_is hl hm ha
      have h3 := hr.lt
      have h4 := hr.le
      obtain ⟨w, hw, hg, e⟩ := zonesF_go (f := f) hr
      have ih := starts_are hl hm f _ h4 (by omega)
      rw [e]
      by_cases hb : reachF (regV l n) most a < n
      · have hr2 := reach_is hl hm hb
        match f, ih with
        | 0, _ => omega
        | f + 1, ih =>
          obtain ⟨w2, hw2, hg2, e2⟩ := zonesF_go (f := f) hr2
          rw [e2] at ih ⊢
          simp only [List.map_cons] at ih ⊢
          unfold brkF
          rw [if_neg (by omega), if_neg, ih]
          intro hany
          obtain ⟨row, hrow, hall⟩ := List.any_eq_true.1 hany
          obtain ⟨v, hv, rfl⟩ := List.mem_iff_getElem.1 hrow
          rw [Int.toNat_natCast, Int.toNat_natCast] at hall
          have h5 := allG_get (by rw [reg_row]; exact hb) hall
          have h6 := hr.max v (reachF (regV l n) most a) hv (by omega) hb (fun t h7 h8 => by
            have eg : (regV l n).getD v [] = (regV l n)[v] := by rw [List.getD_eq_getElem?_getD, List.getElem?_eq_getElem hv]; rfl
            rw [eg]
            exact h5 t h7 h8)
          omega
      · rw [zonesF_end (show n ≤ reachF (regV l n) most a by omega)]
        rfl
    · rw [zonesF_end (show n ≤ a by omega)]
      rfl
/-- The first number for which something is found. -/
def tryF {α : Type} (g : Nat → Option α) : Nat → Nat → Option α
  | 0, _ => none
  | f + 1, w => match g w with
    | some x => some x
    | none => tryF g f (w + 1)
theorem try_some {α : Type} {g : Nat → Option α} {x : α} : ∀ f w, tryF g f w = some x → ∃ i, w ≤ i ∧ i < w + f ∧ g i = some x ∧ ∀ j, w ≤ j → j < i → g j = none
  | f + 1, w, h => by
    unfold tryF at h
    split at h
    · rename_i y hy
      exact ⟨w, by omega, by omega, hy.trans h, fun j _ _ => by omega⟩
    · rename_i hy
      obtain ⟨i, h1, h2, h3, h4⟩ := try_some f (w + 1) h
      refine ⟨i, by omega, by omega, h3, fun j h5 h6 => ?_⟩
      by_cases e : j = w
      · rw [e]; exact hy
      · exact h4 j (by omega) h6
theorem try_ne {α : Type} {g : Nat → Option α} : ∀ f w i, w ≤ i → i < w + f → g i ≠ none → tryF g f w ≠ none
  | 0, w, i, h1, h2, _ => by omega
  | f + 1, w, i, h1, h2, h3 => by
    unfold tryF
    split
    · simp
    · rename_i hy
      refine try_ne f (w + 1) i ?_ (by omega) h3
      by_cases e : i = w
      · rw [e] at h3; exact absurd hy h3
      · omega
def fstB (ch : List Nat) : Nat := match ch.getLast? with | none => 0 | some x => x + 1
/-- The first list of so many waxes more that is good enough. -/
def chooseF (cov : List Nat → Bool) (m : Nat) : Nat → List Nat → Option (List Nat)
  | 0, ch => if cov ch then some ch else none
  | k + 1, ch => tryF (fun w => chooseF cov m k (ch ++ [w])) (m - fstB ch) (fstB ch)
def bagF (cov : List Nat → Bool) (m : Nat) : Option (List Nat) := tryF (fun n => chooseF cov m (n + 1) []) m 0
theorem fst_snoc (ch : List Nat) (w : Nat) : fstB (ch ++ [w]) = w + 1 := by simp [fstB]
def Inc (m : Nat) (ch : List Nat) : Prop := ch.Pairwise (· < ·) ∧ ∀ x ∈ ch, x < m
theorem Inc.snoc {m : Nat} {ch : List Nat} {w : Nat} (h : Inc m ch) (hw : fstB ch ≤ w) (hm : w < m) : Inc m (ch ++ [w]) := by
  refine ⟨List.pairwise_append.2 ⟨h.1, List.pairwise_singleton _ _, fun x hx y hy => ?_⟩, fun x hx => ?_⟩
  · rw [List.mem_singleton.1 hy]
    rcases List.eq_nil_or_concat ch with rfl | ⟨c, z, rfl⟩
    · cases hx
    · rw [List.concat_eq_append] at hx hw h
      rw [fst_snoc] at hw
      rcases List.mem_append.1 hx with h1 | h1
      · have := (List.pairwise_append.1 h.1).2.2 x h1 z (by simp)
        omega
      · rw [List.mem_singleton.1 h1]; omega
  · rcases List.mem_append.1 hx with h1 | h1
    · exact h.2 x h1
    · rw [List.mem_singleton.1 h1]; exact hm
theorem choose_sound {cov : List Nat → Bool} {m : Nat} : ∀ k ch out, Inc m ch → chooseF cov m k ch = some out → cov out = true ∧ out.length = ch.length + k ∧ Inc m out
  | 0, ch, out, hi, h => by
    unfold chooseF at h
    split at h
    · rename_i hc
      cases h
      exact ⟨hc, rfl, hi⟩
    · cases h
  | k + 1, ch, out, hi, h => by
    unfold chooseF at h
    obtain ⟨w, h1, h2, h3, _⟩ := try_some _ _ h
    obtain ⟨h4, h5, h6⟩ := choose_sound k _ out (hi.snoc h1 (by omega)) h3
    rw [List.length_append, List.length_singleton] at h5
    exact ⟨h4, by omega, h6⟩
theorem choose_all {cov : List Nat → Bool} {m : Nat} : ∀ k ch rest, rest.length = k → Inc m (ch ++ rest) → cov (ch ++ rest) = true → chooseF cov m k ch ≠ none
  | 0, ch, rest, hk, hi, hc => by
    rw [List.length_eq_zero_iff.1 hk, List.append_nil] at hc
    unfold chooseF
    rw [if_pos hc]
    simp
  | k + 1, ch, [], hk, hi, hc => by simp at hk
  | k + 1, ch, w :: rest, hk, hi, hc => by
    unfold chooseF
    have hw : fstB ch ≤ w := by
      rcases List.eq_nil_or_concat ch with rfl | ⟨c, z, rfl⟩
      · exact Nat.zero_le _
      · rw [List.concat_eq_append] at hi ⊢
        rw [fst_snoc]
        have := (List.pairwise_append.1 hi.1).2.2 z (by simp) w (by simp)
        omega
    have hm := hi.2 w (by simp)
    refine try_ne _ _ w hw (by omega) (choose_all k (ch ++ [w]) rest (by simpa using hk) (by simpa using hi) (by simpa using hc))
theorem bag_sound {cov : List Nat → Bool} {m : Nat} {out : List Nat} (h : bagF cov m = some out) : cov out = true ∧ 1 ≤ out.length ∧ Inc m out ∧ ∀ o, Inc m o → cov o = true → o ≠ [] → out.length ≤ o.length := by
  obtain ⟨n, h1, h2, h3, h4⟩ := try_some _ _ h
  obtain ⟨h5, h6, h7⟩ := choose_sound _ _ _ ⟨List.Pairwise.nil, fun x hx => by cases hx⟩ h3
  rw [List.length_nil] at h6
  refine ⟨h5, by omega, h7, fun o ho hc hne => ?_⟩
  rcases Nat.lt_or_ge o.length out.length with h8 | h8
  · have h9 : 0 < o.length := List.length_pos_iff.2 hne
    exact absurd (h4 (o.length - 1) (by omega) (by omega)) (choose_all _ [] o (by omega) (by simpa using ho) (by simpa using hc))
  · exact h8
theorem inc_len {m : Nat} : ∀ {o : List Nat}, Inc m o → o.length ≤ m := by
  induction m with
  | zero =>
    intro o h
    cases o with
    | nil => simp
    | cons x o => have := h.2 x (by simp); omega
  | succ m ih =>
    intro o h
    rcases List.eq_nil_or_concat o with rfl | ⟨c, z, rfl⟩
    · simp
    · rw [List.concat_eq_append] at h ⊢
      have hz := h.2 z (by simp)
      have := ih (o := c) ⟨(List.pairwise_append.1 h.1).1, fun x hx => by
        have := (List.pairwise_append.1 h.1).2.2 x hx z (by simp)
        omega⟩
      simp
      omega
theorem bag_some {cov : List Nat → Bool} {m : Nat} {o : List Nat} (ho : Inc m o) (hc : cov o = true) (hne : o ≠ []) : ∃ out, bagF cov m = some out := by
  have h9 : 0 < o.length := List.length_pos_iff.2 hne
  have h := try_ne (g := fun n => chooseF cov m (n + 1) []) m 0 (o.length - 1) (by omega) (by have := inc_len ho; omega) (choose_all _ [] o (by omega) (by simpa using ho) (by simpa using hc))
  cases e : bagF cov m with
  | some out => exact ⟨out, rfl⟩
  | none => exact absurd e h
/-- Some waxes have a good one for each snow. -/
def covB (rs : List (List Int)) (most : Int) (n : Nat) (ch : List Nat) : Bool := (List.range n).all fun s => ch.any fun w => decide ((rs.getD w []).getD s 0 ≤ most)
theorem cov_iff {rs : List (List Int)} {most : Int} {n : Nat} {ch : List Nat} : covB rs most n ch = true ↔ ∀ s, s < n → ∃ w ∈ ch, (rs.getD w []).getD s 0 ≤ most := by
  unfold covB
  rw [List.all_eq_true]
  constructor
  · intro h s hs
    obtain ⟨w, hw, h1⟩ := List.any_eq_true.1 (h s (List.mem_range.2 hs))
    exact ⟨w, hw, by simpa using h1⟩
  · intro h s hs
    obtain ⟨w, hw, h1⟩ := h s (List.mem_range.1 hs)
    exact List.any_eq_true.2 ⟨w, hw, by simpa using h1⟩
theorem filter_or {α : Type} (p q : α → Bool) : ∀ l : List α, (l.filter fun x => p x || q x).length ≤ (l.filter p).length + (l.filter q).length
  | [] => by simp
  | x :: l => by
    have ih := filter_or p q l
    simp only [List.filter_cons]
    cases p x <;> cases q x <;> simp <;> omega
theorem filter_one (c m : Nat) : ((List.range m).filter fun w => decide (w = c)).length ≤ 1 := by
  induction m with
  | zero => simp
  | succ m ih =>
    rw [List.range_succ, List.filter_append, List.length_append]
    by_cases e : m = c
    · subst e
      have : ((List.range m).filter fun w => decide (w = m)) = [] := List.filter_eq_nil_iff.2 fun w hw => by have := List.mem_range.1 hw; simp; omega
      rw [this]
      simp
    · have : ([m].filter fun w => decide (w = c)) = [] := by simp [e]
      rw [this, List.length_nil]
      omega
theorem filter_in (m : Nat) : ∀ L : List Nat, ((List.range m).filter fun w => L.contains w).length ≤ L.length
  | [] => by simp
  | c :: L => by
    have h1 := filter_or (fun w => decide (w = c)) (fun w => L.contains w) (List.range m)
    have h2 := filter_one c m
    have h3 := filter_in m L
    have e : (fun w => (c :: L).contains w) = fun w => decide (w = c) || L.contains w := by
      funext w
      simp only [List.contains_cons]
      congr 1
    rw [e, List.length_cons]
    omega
theorem filter_inc (m : Nat) (p : Nat → Bool) : Inc m ((List.range m).filter p) := ⟨List.Pairwise.filter _ List.pairwise_lt_range, fun _ hx => List.mem_range.1 (List.mem_filter.1 hx).1⟩
/-- The bag: it has a good wax for each snow, no smaller one has, and no more waxes than there are zones. -/
theorem bag_says {l : List (List Int)} {n : Nat} {most : Int} (hl : TabOk l n) (hm : 0 ≤ most) : ∃ out, bagF (covB (regV l n) most n) l.length = some out ∧ covB (regV l n) most n out = true ∧ 1 ≤ out.length ∧ Inc l.length out ∧ out.length ≤ (zonesF (regV l n) most n (n + 1) 0).length ∧ ∀ o, Inc l.length o → covB (regV l n) most n o = true → out.length ≤ o.length := by
  have hn := hl.n1
  have hz := zones_cover hl hm (n + 1) 0 (by omega) (by omega)
  obtain ⟨Z, hZ⟩ : ∃ Z, zonesF (regV l n) most n (n + 1) 0 = Z := ⟨_, rfl⟩
  rw [hZ] at hz ⊢
  have hcov : covB (regV l n) most n ((List.range l.length).filter fun w => (Z.map fun z => z.2.2.toNat).contains w) = true := cov_iff.2 fun s hs => by
    obtain ⟨z, h1, h2, h3, h4⟩ := hz s (by omega) hs
    refine ⟨z.2.2.toNat, List.mem_filter.2 ⟨List.mem_range.2 (by omega), ?_⟩, h4⟩
    rw [List.contains_iff_mem]
    exact List.mem_map.2 ⟨z, h1, rfl⟩
  have hne : ∀ o, covB (regV l n) most n o = true → o ≠ [] := fun o h e => by
    obtain ⟨w, hw, _⟩ := cov_iff.1 h 0 (by omega)
    rw [e] at hw
    cases hw
  obtain ⟨out, ho⟩ := bag_some (filter_inc _ _) hcov (hne _ hcov)
  obtain ⟨h1, h2, h3, h4⟩ := bag_sound ho
  refine ⟨out, ho, h1, h2, h3, ?_, fun o h5 h6 => h4 o h5 h6 (hne o h6)⟩
  have h5 := h4 _ (filter_inc _ _) hcov (hne _ hcov)
  have h6 := filter_in l.length (Z.map fun z => z.2.2.toNat)
  rw [List.length_map] at h6
  omega
end Go.Proofs.Ytcmpdmobmbbplaa

/- Walks: breaks; slices.Clone; waxes that are good on a snow. -/
namespace Go.Proofs.Ytcmpdmobmbbplaa
open Go Go.Eng

theorem sclone_ca (w : World) (lo hi : Nat) (v : Value) (l : List Int) (hl : RdI w lo hi v l) (hlen : l.length < 1000000) : Ca Try.prog 105 [v] w fun v w' => ∃ x : Value, v = x ∧ Sat w M0 [.ow x 3 1 l.length (ints l)] w' := by
  obtain ⟨a, c, rfl, hs⟩ := RdI.outI hl
  refine q_of (Sat.nil w M0) Try.func105 rfl (by simp [Try.ntmps105]) ?_
  (refine q_seq (q_region (ql_pure tabOk rfl rfl (q_nil (q_seq (q_seq (q_region (ql_pure tabOk rfl rfl ?_))))))))
  refine ql_eqnil tabOk rfl rfl rfl rfl ?_
  cases a with
  | none =>
    have h0 : l = [] := by
      cases l with
      | nil => rfl
      | cons x l =>
        obtain ⟨b, off, hb⟩ := hs (by simp)
        cases hb
    subst h0
    (refine q_nil (q_cond_true rfl (q_seq (q_region (ql_pure tabOk rfl rfl (q_nil (q_ret ?_)))))))
    refine q_fin tabOk rfl (by repeat constructor) fun w hs => ?_
    exact ⟨_, rfl, by simpa [ints, retV] using Sat.ownil hs 3 1⟩
  | some ad =>
    (refine q_nil (q_cond_false rfl (q_skip (q_seq (q_region ?_)))))
    refine ql_mkS0 3 (by kernel_rfl) (by kernel_rfl) rfl (fun x => ?_)
    (refine ql_pure tabOk rfl rfl ?_)
    refine ql_append (q := l.length) slI rfl rfl rfl (fun v' => by repeat constructor) (fun w' hs => ⟨lo, hi, RdI.row (RdE.keep hl hs.chg0)⟩) (by simp [oneV]) (by omega) (by omega) (fun v' => ?_)
    (refine ql_pure tabOk rfl rfl (q_nil (q_ret ?_)))
    refine q_fin tabOk rfl (by repeat constructor) fun w hs => ?_
    exact ⟨v', rfl, by simpa using hs⟩

theorem znC_get : ∀ (Z : List (Int × Int × Int)) (i q : Nat) (hi : i < Z.length), q < 3 → (znC Z)[i * 3 + q]? = [Value.int .i64 Z[i].1, .int .i64 Z[i].2.1, .int .i64 Z[i].2.2][q]?
  | z :: Z, 0, q, _, hq => by
    obtain rfl | rfl | rfl : q = 0 ∨ q = 1 ∨ q = 2 := by omega
    all_goals rfl
  | z :: Z, i + 1, q, hi, hq => by
    have := znC_get Z i q (by simpa using hi) hq
    simp only [List.getElem_cons_succ, znC, List.flatMap_cons] at this ⊢
    rw [show (i + 1) * 3 + q = i * 3 + q + 1 + 1 + 1 from by omega]
    exact this
theorem zn_at {w0 w : World} {Mp : Nat → Prop} {H : List Ck} {t m g c : Nat} {Z : List (Int × Int × Int)} (hs : Sat w0 Mp H w) (hm : .ow (.slice (some ⟨g, 0, none⟩) m c) t 3 m (znC Z) ∈ H) {i : Nat} (hi : i < Z.length) : ∀ q, q < 3 → w.cell? ⟨g, 0 + i * 3 + q, none⟩ = [Value.int .i64 Z[i].1, .int .i64 Z[i].2.1, .int .i64 Z[i].2.2][q]? := fun q hq => by
  have h1 := znC_get Z i q hi hq
  obtain ⟨x, hx⟩ : ∃ x, (znC Z)[i * 3 + q]? = some x := by
    obtain rfl | rfl | rfl : q = 0 ∨ q = 1 ∨ q = 2 := by omega
    all_goals exact ⟨_, h1⟩
  rw [← h1, hx, Nat.zero_add]
  exact own_cellS (hs.mem hm) (i * 3 + q) hx
theorem breaks_ok (w : World) (lo hi : Nat) (v : Value) (l : List (List Int)) (most : Int) (h : RdII w lo hi v l) (he : limitV l most = 0) : Ca Try.prog 52 [v, .int .i64 most] w fun x w' => ∃ u : Value, x = .tuple #[u, .int .i64 0] ∧ Sat w M0 [.ow u 3 1 (zonesV l most).1.length (ints ((zonesV l most).1.map (·.1)))] w' := by
  refine q_of (Sat.nil w M0) Try.func52 rfl (by simp [Try.ntmps52]) ?_
  (refine q_seq (q_region (ql_pure tabOk rfl rfl (ql_pure tabOk rfl rfl (q_nil (q_seq (q_region (ql_pure tabOk rfl rfl (ql_pure tabOk rfl rfl ?_)))))))))
  refine ql_call (β := Value) tabOk [] _ M0 rfl rfl rfl rfl (Sp.refl _) (fun _ h => h.elim) (fun w' hs => zones_ok w' lo hi _ l most (RdII.keep h hs.chg0) he) ?_
  rintro v6 _ rfl
  dsimp only [List.cons_append, List.nil_append]
  have hZl : (zonesV l most).1.length ≤ 1000000 := by
    unfold zonesV
    rw [if_neg (by simpa using he)]
    have hl := (limit_iff.1 he).1
    have h1 := hl.n2
    have h2 := zonesF_len (rs := regV l (nV l)) (most := most) (n := nV l) (nV l + 1) 0
    simp only
    omega
  generalize (zonesV l most).1 = Z at hZl ⊢
  refine ql_fact (fun w hs => hs.slice2 (v := v6) (by repeat constructor)) ?_
  rintro ⟨a6, c6, rfl⟩
  (refine ql_pure tabOk rfl rfl (ql_ext tabOk rfl rfl rfl (ql_ext tabOk rfl rfl rfl (ql_pure tabOk rfl rfl (ql_pure tabOk rfl rfl (q_nil (q_seq (q_seq (q_region (ql_pure tabOk rfl rfl (ql_neqF tabOk rfl rfl rfl (by omega) (q_nil ?_))))))))))); refine q_cond_false rfl (q_skip (q_seq (q_region (ql_pure tabOk rfl rfl (q_nil (q_seq (q_seq (q_region ?_)))))))); (iterate 3 refine ql_pure tabOk rfl rfl ?_); refine q_nil (q_block ?_))
  refine q_conv (H' := [.ow (.slice none 0 0) 3 1 0 (ints ((Z.take 0).map (·.1))), .ow (.slice a6 Z.length c6) 96 3 Z.length (znC Z)]) (fun w' hs => (Sat.ownil hs 3 1).sp (by repeat constructor)) ?_
  refine q_loop (σ := Nat × Value) (fun y => y.1 ≤ Z.length) (fun y => Z.length - y.1) (fun y => [(8, y.2), (20, .slice a6 Z.length c6), (21, .int .i64 Z.length), (22, .int .i64 y.1)])
    (fun y => [.ow y.2 3 1 y.1 (ints ((Z.take y.1).map (·.1))), .ow (.slice a6 Z.length c6) 96 3 Z.length (znC Z)]) (0, .slice none 0 0) (by simp only; omega) ⟨rfl, rfl, rfl, rfl, trivial⟩ (by repeat constructor) ?_
  rintro ⟨k, u⟩ hk K hK
  dsimp only at hk ⊢
  (refine q_seq (q_region (ql_pure tabOk rfl rfl (q_nil (q_seq ?_)))))
  refine q_if rfl (fun hc => ?_) (fun hc => ?_)
  · have hk2 : k < Z.length := by omega
    clear hc
    refine q_fact (fun w hs => hs.ownSome (v := .slice a6 Z.length c6) (by repeat constructor) (by omega)) ?_
    rintro ⟨g6, c6', e6⟩
    cases e6
    (refine q_skip (q_seq (q_block (q_seq (q_region ?_)))))
    refine ql_index tabOk rfl rfl rfl rfl rfl (by omega) (by omega) ?_
    refine ql_loadA (cs := [.int .i64 Z[k].1, .int .i64 Z[k].2.1, .int .i64 Z[k].2.2]) tabOk rfl rfl rfl rfl (fun w hs q hq => zn_at hs (by repeat constructor) hk2 q hq) ?_
    skip
    refine ql_alloc zero96 rfl (fun b10 => ?_)
    (refine ql_setA tabOk rfl rfl rfl rfl rfl (by repeat constructor) rfl ?_; refine q_nil (q_region (ql_pure tabOk rfl rfl (ql_pure tabOk rfl rfl ?_))); refine ql_loadBa tabOk rfl rfl rfl ?_)
    refine ql_mkS 3 [.int .i64 Z[k].1] rfl (by kernel_rfl) rfl (fun bn => ?_)
    skip
    refine ql_append (q := 1) (news := [.int .i64 Z[k].1]) slI rfl rfl rfl (fun v' => by repeat constructor) (fun w' hs => ⟨_, _, Blk.rdN (hs.blk (b := bn) (by repeat constructor)) rfl⟩) (by simp [oneV]) (by omega) (by omega) (fun u' => ?_)
    (refine ql_pure tabOk rfl rfl (q_nil (q_blk (q_region (ql_ar tabOk rfl rfl rfl rfl (by omega) (by omega) (ql_pure tabOk rfl rfl (q_nil ?_)))))))
    have e : ints ((Z.take (k + 1)).map (·.1)) = ints ((Z.take k).map (·.1)) ++ [.int .i64 Z[k].1] := by
      rw [List.take_succ_eq_append_getElem hk2, List.map_append]
      simp [ints]
    exact hK (k + 1, u') _ _ (by simp only; omega) (by simp only; omega) ⟨rfl, rfl, rfl, rfl, trivial⟩ (by dsimp only; rw [e]; repeat constructor)
  · obtain rfl : k = Z.length := by omega
    (refine q_exit _ rfl (q_seq (q_region ?_)); (iterate 3 refine ql_pure tabOk rfl rfl ?_); refine q_nil (q_ret ?_))
    refine q_fin tabOk rfl (by repeat constructor) fun w hs => ?_
    refine ⟨u, rfl, ?_⟩
    have h1 := hs.sp (H' := [.ow u 3 1 Z.length (ints ((Z.take Z.length).map (·.1)))]) (by repeat constructor)
    rw [List.take_length] at h1
    exact h1
/-- Chosen waxes as numbers. -/
def chI (ch : List Nat) : List Int := ch.map fun (x : Nat) => (x : Int)
theorem chI_len (ch : List Nat) : (chI ch).length = ch.length := by simp [chI]
def pGd (R : List (List Int)) (most : Int) (s : Nat) : Value → Bool
  | .int _ i => decide ((R.getD i.toNat []).getD s 0 ≤ most)
  | _ => false
theorem pGd_any (R : List (List Int)) (most : Int) (s : Nat) (ch : List Nat) : (ints (chI ch)).any (pGd R most s) = ch.any fun x => decide ((R.getD x []).getD s 0 ≤ most) := by
  induction ch with
  | nil => rfl
  | cons x ch ih =>
    show (pGd R most s (.int .i64 x) || (ints (chI ch)).any (pGd R most s)) = _
    rw [ih]
    rfl
theorem bag2_p (w : World) (lo hi b6 b8 t6 t8 s n : Nat) (a : Option Addr) (c : Nat) (most : Int) (R : List (List Int)) (ch : List Nat) (h6 : Blk w b6 [.slice a R.length c] t6) (h8 : Blk w b8 [.int .i64 s] t8) (hR : RdW w lo hi (.slice a R.length c) most R) (hch : ∀ x ∈ ch, x < R.length) (hn : ∀ row ∈ R, row.length = n) (hs : s < n) (hRl : R.length ≤ 1000000) :
    PredAt Try.prog tab w (.func (.func 103) #[] #[.pointer (some ⟨b6, 0, none⟩), .pointer (some ⟨b8, 0, none⟩)]) (ints (chI ch)) (pGd R most s) := by
  refine ⟨_, _, _, rfl, rfl, fun w' hw' x hx => ?_⟩
  have h6' := h6.keep hw'
  have h8' := h8.keep hw'
  have hR' := hR.keep hw'
  obtain ⟨i, hii, rfl⟩ := List.mem_map.1 hx
  obtain ⟨y, hy, rfl⟩ := List.mem_map.1 hii
  have hy2 := hch y hy
  obtain ⟨_, _, e0, ha⟩ := RdW.outI hR
  cases e0
  obtain ⟨ab, ao, rfl⟩ := ha (by omega)
  obtain ⟨ra, rc, hr1, hr2, hr3⟩ := RdW.row hR' y hy2
  have hrn := hn _ (List.getElem_mem hy2)
  refine q_of (Sat.nil w' M0) Try.func103 rfl (by simp [Try.ntmps103]) ?_
  (refine q_seq (q_region (ql_pure tabOk rfl rfl (q_nil (q_seq ?_)))))
  refine q_draw _ [] (Sp.refl _) (by kernel_rfl) (by kernel_rfl) ?_
  (refine qf_loadP tabOk rfl rfl rfl (by assumption) (by rfl) ?_; refine qf_pure tabOk rfl rfl rfl ?_)
  refine qf_index tabOk rfl rfl rfl rfl rfl (by omega) (by omega) ?_
  refine qf_loadA tabOk rfl rfl rfl rfl (fun w hs q hq => hr3 _ hs.chg0 q hq) ?_
  (refine qf_loadP tabOk rfl rfl rfl (by assumption) (by rfl) ?_)
  refine qf_callv (val := .bool (decide (R[y][s]'(by omega) ≤ most))) tabOk rfl rfl rfl rfl (fun w hs => ?_) ?_; exact good_ca w lo hi _ most R[y] s (RdE.keep hr1 hs.chg0) (by omega)
  (refine qf_pure tabOk rfl rfl rfl (qf_nil (q_ret ?_)))
  refine q_fin tabOk rfl (by repeat constructor) fun w hs => ?_
  refine ⟨?_, hs.chg0⟩
  show Value.bool _ = Value.bool (decide ((R.getD y []).getD s 0 ≤ most))
  congr 1
  rw [List.getD_eq_getElem?_getD (l := R), List.getElem?_eq_getElem hy2, Option.getD_some, getD_get (by omega)]
end Go.Proofs.Ytcmpdmobmbbplaa

/- The engine: loops in which each round leaves marks; the end of a function with many marks. -/
namespace Go.Eng
open Go Go.RowKit

section
variable {P : Program} {n : Nat} {F : Fin} {k : List It} {e : Env} {w : World}
end
section
variable {P : Program} {n : Nat} {F : Fin} {w0 : World} {M : Nat → Prop} {k : List It} {e : Env} {H : List Ck}
end
end Go.Eng

/- Walks: the search of a shortest chain of runs. -/
namespace Go.Proofs.Ytcmpdmobmbbplaa
open Go Go.Eng

/-- Turned round at both ends, so far. -/
def RevI (l : List Int) (k : Nat) (l' : List Int) : Prop := l'.length = l.length ∧ 2 * k ≤ l.length ∧ ∀ m, m < l.length → l'.getD m 0 = if m < k ∨ l.length ≤ m + k then l.getD (l.length - 1 - m) 0 else l.getD m 0
theorem RevI.zero (l : List Int) : RevI l 0 l := ⟨rfl, by omega, fun m hm => by rw [if_neg (by omega)]⟩
theorem RevI.step {l l' : List Int} {k : Nat} (h : RevI l k l') (hk : k < l.length - 1 - k) (h1 : k < l'.length) (h2 : l.length - 1 - k < l'.length) : RevI l (k + 1) ((l'.set k l'[l.length - 1 - k]).set (l.length - 1 - k) l'[k]) := by
  obtain ⟨hl, hk2, hv⟩ := h
  refine ⟨by simp [hl], by omega, fun m hm => ?_⟩
  have e1 : l'[l.length - 1 - k] = l.getD (l.length - 1 - k) 0 := by
    have := hv (l.length - 1 - k) (by omega)
    rw [if_neg (by omega), List.getD_eq_getElem?_getD, List.getElem?_eq_getElem h2] at this
    exact this
  have e2 : l'[k] = l.getD k 0 := by
    have := hv k (by omega)
    rw [if_neg (by omega), List.getD_eq_getElem?_getD, List.getElem?_eq_getElem h1] at this
    exact this
  rw [set_getD _ _ _ _ (by simpa using h2), set_getD _ _ _ _ h1, e1, e2]
  by_cases c1 : m = l.length - 1 - k
  · rw [if_pos c1, if_pos (by omega), c1]
    congr 1
    omega
  · rw [if_neg c1]
    by_cases c2 : m = k
    · rw [if_pos c2, if_pos (by omega), c2]
    · rw [if_neg c2, hv m hm]
      by_cases c3 : m < k ∨ l.length ≤ m + k
      · rw [if_pos c3, if_pos (by omega)]
      · rw [if_neg c3, if_neg (by omega)]
theorem RevI.end {l l' : List Int} {k : Nat} (h : RevI l k l') (hk : l.length ≤ 2 * k + 1) : l' = l.reverse := by
  obtain ⟨hl, hk2, hv⟩ := h
  refine List.ext_getElem (by simp [hl]) (fun m h1 h2 => ?_)
  have := hv m (by omega)
  rw [List.getD_eq_getElem?_getD, List.getElem?_eq_getElem h1] at this
  rw [List.getElem_reverse]
  have e : l.getD (l.length - 1 - m) 0 = l[l.length - 1 - m] := by
    rw [List.getD_eq_getElem?_getD, List.getElem?_eq_getElem (by omega)]; rfl
  rw [← e, ← Option.getD_some (a := l'[m]) (b := 0), this]
  split
  · rfl
  · congr 1
    omega

/-- Numbers that are set to -1, so far. -/
def filP (k : Nat) : List Int := (List.range 8).map fun i => if i < k then -1 else 0
theorem chI_add (l : List Nat) (x : Nat) : ints (chI (l ++ [x])) = ints (chI l) ++ [.int .i64 x] := by simp [chI]
/-- The search ahead of a round. -/
def BIx (l : Lb) (fast slow n : Nat) (by' : List Int) (met lev : List Nat) : Prop := (n < met.length ∧ BI l fast slow n [] by' met lev) ∨ ∃ m, n = m + 1 ∧ n = met.length ∧ BI l fast slow m (shL l) by' met lev
theorem BI.bd {l : Lb} {fast slow n : Nat} {pre : List (Nat × Int × Int)} {by' : List Int} {met lev : List Nat} (h : BI l fast slow n pre by' met lev) : met.length ≤ 9 := by
  have h2 := h.sz
  have h3 := List.length_filter_le (fun s => decide (0 ≤ by'.getD s 0)) (List.range 8)
  rw [List.length_range] at h3
  omega
theorem BIx.bd {l : Lb} {fast slow n : Nat} {by' : List Int} {met lev : List Nat} (h : BIx l fast slow n by' met lev) : n ≤ met.length ∧ met.length ≤ 9 := by
  rcases h with ⟨h1, h2⟩ | ⟨m, h1, h2, h3⟩
  · exact ⟨by omega, h2.bd⟩
  · exact ⟨by omega, h3.bd⟩
theorem BIx.go {l : Lb} {fast slow n : Nat} {by' : List Int} {met lev : List Nat} (h : BIx l fast slow n by' met lev) (hn : n < met.length) : BI l fast slow n [] by' met lev := by
  rcases h with ⟨_, h2⟩ | ⟨m, h1, h2, h3⟩
  · exact h2
  · omega
theorem BIx.after {l : Lb} {fast slow n : Nat} {by' : List Int} {met lev : List Nat} (h : BI l fast slow n (shL l) by' met lev) : BIx l fast slow (n + 1) by' met lev := by
  have := h.nl
  by_cases h1 : n + 1 < met.length
  · exact .inl ⟨h1, h.next h1⟩
  · exact .inr ⟨n, rfl, by omega, h⟩
theorem BIx.none {l : Lb} {fast slow n : Nat} {by' : List Int} {met lev : List Nat} (he : 0 ≤ l.err) (h : BIx l fast slow n by' met lev) (hn : n = met.length) : NoCh l fast slow ∧ by'.getD slow 0 < 0 ∧ by'.length = 8 := by
  rcases h with ⟨h1, _⟩ | ⟨m, h1, h2, h3⟩
  · omega
  · exact ⟨h3.none he (by omega), h3.slow, h3.bl⟩
def tK41_bd78311 : OT := .alt (chainT [11, 0, 1, 2, 3, 4, 5, 6, 7, 8, 9, 10, 12, 13] (.nil)) (chainT [0, 1, 2, 3, 4, 5, 6, 7, 11, 8, 9, 10, 12, 13] (.nil))
end Go.Proofs.Ytcmpdmobmbbplaa

/- The engine: make of a list whose elements are one cell each. -/
namespace Go.Eng
open Go Go.RowKit
section
variable {P : Program} {T : Tab} {ro : Cx} {n : Nat} {F : Fin} {w0 : World} {M : Nat → Prop} {k : List It} {ops : Array Oper} {rest : List Oper} {e : Env} {H Hq : List Ck}
end
end Go.Eng

/- The plain law of SkiChains: how far skis are, which are faster, what a chain shows. -/
namespace Go.Proofs.Ytcmpdmobmbbplaa
open Go Go.Eng
theorem sh_pair {l : Lb} {i f s : Nat} (h : Sh l i f s) : (f, s) ∈ l.pairs := by
  obtain ⟨h1, h2⟩ := h
  rw [List.getD_eq_getElem?_getD, List.getElem?_eq_getElem h1, Option.getD_some] at h2
  exact List.mem_filterMap.2 ⟨_, List.getElem_mem h1, h2⟩
theorem pair_sh {l : Lb} {p : Nat × Nat} (h : p ∈ l.pairs) : ∃ i, Sh l i p.1 p.2 := by
  obtain ⟨r, hr, h1⟩ := List.mem_filterMap.1 h
  obtain ⟨i, hi, rfl⟩ := List.getElem_of_mem hr
  exact ⟨i, hi, by rw [List.getD_eq_getElem?_getD, List.getElem?_eq_getElem hi, Option.getD_some]; exact h1⟩
theorem sh_in {l : Lb} (hl : l.Ok) {i f s : Nat} (h : Sh l i f s) : f < l.n ∧ s < l.n := ⟨(hl.in _ (sh_pair h)).1, (hl.in _ (sh_pair h)).2.1⟩
theorem wk_one {l : Lb} {i a b : Nat} (h : Sh l i a b) : Wk l a 1 b := ⟨a, i, rfl, h⟩
theorem wk_app {l : Lb} {a b k : Nat} (h : Wk l a k b) : ∀ m c, Wk l b m c → Wk l a (k + m) c
  | 0, c, h2 => by
    have e : c = b := h2
    rw [e]; exact h
  | m + 1, c, ⟨s, i, h2, h3⟩ => ⟨s, i, wk_app h m s h2, h3⟩
theorem wk_in {l : Lb} (hl : l.Ok) {a k b : Nat} (h : Wk l a (k + 1) b) : b < l.n := by
  obtain ⟨s, i, _, h3⟩ := h
  exact (sh_in hl h3).2
theorem wk_fa {l : Lb} (hl : l.Ok) {a : Nat} (ha : a < 8) : ∀ k b, Wk l a (k + 1) b → fa l.ord a b = true
  | 0, b, ⟨s, i, h2, h3⟩ => by
    have e : s = a := h2
    rw [e] at h3
    exact order_has hl.in8 (sh_pair h3)
  | k + 1, b, ⟨s, i, h2, h3⟩ => by
    have h8 := hl.n8
    have hi := sh_in hl h3
    exact hl.o.tr a s b ha (by omega) (by omega) (wk_fa hl ha k s h2) (order_has hl.in8 (sh_pair h3))
theorem fa_wk {l : Lb} (hl : l.Ok) {a b : Nat} (ha : a < 8) (hb : b < 8) (h : fa l.ord a b = true) : ∃ k, Wk l a (k + 1) b :=
  order_sub (R := fun a b => ∃ k, Wk l a (k + 1) b) hl.in8 (fun a b c _ _ _ ⟨k, h1⟩ ⟨m, h2⟩ => ⟨k + 1 + m, wk_app h1 (m + 1) c h2⟩) (fun p hp => by
    obtain ⟨i, hi⟩ := pair_sh hp
    exact ⟨0, wk_one hi⟩) a b ha hb h
/-- The fewest runs of a chain. -/
def IsD (l : Lb) (a b k : Nat) : Prop := 1 ≤ k ∧ Wk l a k b ∧ ∀ j, 1 ≤ j → j < k → ¬ Wk l a j b
theorem isD_of {l : Lb} {a b : Nat} : ∀ k, 1 ≤ k → Wk l a k b → ∃ j, j ≤ k ∧ IsD l a b j := by
  intro k
  induction k using Nat.strongRecOn with
  | _ k ih =>
    intro h1 hw
    by_cases hx : ∃ j, 1 ≤ j ∧ j < k ∧ Wk l a j b
    · obtain ⟨j, h2, h3, h4⟩ := hx
      obtain ⟨i, h5, h6⟩ := ih j h3 h2 h4
      exact ⟨i, by omega, h6⟩
    · exact ⟨k, Nat.le_refl _, h1, hw, fun j h2 h3 h4 => hx ⟨j, h2, h3, h4⟩⟩
theorem isD_eq {l : Lb} {a b j k : Nat} (h : IsD l a b j) (g : IsD l a b k) : j = k := by
  rcases Nat.lt_trichotomy j k with h1 | h1 | h1
  · exact absurd h.2.1 (g.2.2 j h.1 h1)
  · exact h1
  · exact absurd g.2.1 (h.2.2 k g.1 h1)
theorem isD_pred {l : Lb} {a b k : Nat} (h : IsD l a b (k + 2)) : ∃ f i, IsD l a f (k + 1) ∧ Sh l i f b := by
  obtain ⟨_, ⟨f, i, h2, h3⟩, h4⟩ := h
  exact ⟨f, i, ⟨by omega, h2, fun j hj hk hw => h4 (j + 1) (by omega) (by omega) ⟨f, i, hw, h3⟩⟩, h3⟩
theorem isD_one {l : Lb} {a b : Nat} (h : IsD l a b 1) : ∃ i, Sh l i a b := by
  obtain ⟨_, ⟨f, i, h2, h3⟩, _⟩ := h
  rw [show f = a from h2] at h3
  exact ⟨i, h3⟩
theorem isD_nodes {l : Lb} (hl : l.Ok) {a : Nat} : ∀ k b, IsD l a b (k + 1) → ∃ L : List Nat, L.length = k + 1 ∧ L.Nodup ∧ ∀ x ∈ L, x < l.n ∧ ∃ j, j ≤ k + 1 ∧ IsD l a x j
  | 0, b, h => ⟨[b], rfl, by simp, fun x hx => by rw [List.mem_singleton.1 hx]; exact ⟨wk_in hl h.2.1, 1, by omega, h⟩⟩
  | k + 1, b, h => by
    obtain ⟨f, i, h1, h2⟩ := isD_pred h
    obtain ⟨L, h3, h4, h5⟩ := isD_nodes hl k f h1
    refine ⟨b :: L, by simp [h3], List.nodup_cons.2 ⟨fun hb => ?_, h4⟩, fun x hx => ?_⟩
    · obtain ⟨_, j, hj, hd⟩ := h5 b hb
      have := isD_eq hd h
      omega
    · rcases List.mem_cons.1 hx with rfl | hx
      · exact ⟨wk_in hl h.2.1, k + 2, by omega, h⟩
      · obtain ⟨g1, j, g2, g3⟩ := h5 x hx
        exact ⟨g1, j, by omega, g3⟩
theorem nodup_len : ∀ {n : Nat} {L : List Nat}, L.Nodup → (∀ x ∈ L, x < n) → L.length ≤ n
  | 0, L, _, hn => by
    cases L with
    | nil => simp
    | cons x L => exact absurd (hn x List.mem_cons_self) (by omega)
  | n + 1, L, h, hn => by
    have h1 := nodup_len (n := n) (h.erase n) (fun x hx => by
      have := (h.mem_erase_iff).1 hx
      have := hn x this.2
      omega)
    rw [List.length_erase] at h1
    split at h1 <;> omega
theorem isD_le {l : Lb} (hl : l.Ok) {a b k : Nat} (h : IsD l a b k) : k ≤ l.n := by
  obtain ⟨m, rfl⟩ : ∃ m, k = m + 1 := ⟨k - 1, by have := h.1; omega⟩
  obtain ⟨L, h1, h2, h3⟩ := isD_nodes hl m b h
  have := nodup_len h2 (fun x hx => (h3 x hx).1)
  omega
/-- Which skis are reached so far. -/
structure FI (l : Lb) (a : Nat) (sl : List Bool) : Prop where
  len : sl.length = l.n
  ok : ∀ s, sl.getD s false = true → ∃ k, Wk l a (k + 1) s
theorem bset_getD (sl : List Bool) (s t : Nat) (hs : s < sl.length) : (sl.set s true).getD t false = if t = s then true else sl.getD t false := by
  rw [List.getD_eq_getElem?_getD, List.getElem?_set]
  by_cases h : s = t
  · subst h; simp [hs]
  · rw [if_neg h, if_neg (fun h' => h h'.symm), List.getD_eq_getElem?_getD]
theorem FI.start {l : Lb} {a : Nat} : FI l a (List.replicate l.n false) := ⟨by simp, fun s h => by
  rw [List.getD_eq_getElem?_getD, List.getElem?_replicate] at h
  split at h <;> cases h⟩
theorem FI.add {l : Lb} (hl : l.Ok) {a i f s : Nat} {sl : List Bool} (h : FI l a sl) (hs : Sh l i f s) (hf : f = a ∨ sl.getD f false = true) : FI l a (sl.set s true) := by
  have hin := sh_in hl hs
  refine ⟨by simp [h.len], fun t ht => ?_⟩
  rw [bset_getD _ _ _ (by rw [h.len]; exact hin.2)] at ht
  split at ht
  · rename_i e
    subst e
    rcases hf with rfl | hf
    · exact ⟨0, wk_one hs⟩
    · obtain ⟨k, hk⟩ := h.ok f hf
      exact ⟨k + 1, f, i, hk, hs⟩
  · exact h.ok t ht
theorem FI.done {l : Lb} (hl : l.Ok) {a : Nat} (ha : a < 8) {sl : List Bool} (h : FI l a sl) (hc : ∀ i f s, Sh l i f s → (f = a ∨ sl.getD f false = true) → sl.getD s false = true) {b : Nat} (hb : b < l.n) : sl.getD b false = fa l.ord a b := by
  have key : ∀ k s, Wk l a (k + 1) s → sl.getD s false = true := by
    intro k
    induction k with
    | zero =>
      rintro s ⟨t, i, h2, h3⟩
      rw [show t = a from h2] at h3
      exact hc i a s h3 (.inl rfl)
    | succ k ih =>
      rintro s ⟨t, i, h2, h3⟩
      exact hc i t s h3 (.inr (ih t h2))
  have h8 := hl.n8
  cases hx : fa l.ord a b with
  | true =>
    obtain ⟨k, hk⟩ := fa_wk hl ha (by omega) hx
    exact key k b hk
  | false =>
    cases hy : sl.getD b false with
    | false => rfl
    | true =>
      obtain ⟨k, hk⟩ := h.ok b hy
      rw [wk_fa hl ha k b hk] at hx
      cases hx
def falses (sl : List Bool) : Nat := (sl.filter fun b => !b).length
/-- Distances so far: rounds before the n-th one, and the runs before the i-th one. -/
structure LI (l : Lb) (a n i : Nat) (far : List Int) : Prop where
  len : far.length = l.n
  ok : ∀ s, far.getD s 0 ≠ 0 → ∃ k, far.getD s 0 = (k : Nat) ∧ k ≤ n ∧ IsD l a s k
  old : ∀ s k, k < n → IsD l a s k → far.getD s 0 = k
  cur : ∀ j f s, j < i → Sh l j f s → (n = 1 ∧ f = a ∨ ∃ m, n = m + 2 ∧ IsD l a f (m + 1)) → far.getD s 0 ≠ 0
theorem LI.start (l : Lb) (a : Nat) : LI l a 1 0 (List.replicate l.n 0) where
  len := by simp
  ok := fun s h => by
    rw [List.getD_eq_getElem?_getD, List.getElem?_replicate] at h
    split at h <;> simp at h
  old := fun s k hk h => by have := h.1; omega
  cur := fun j f s hj => by omega
theorem LI.fin {l : Lb} (hl : l.Ok) {a n : Nat} {far : List Int} (h : LI l a n l.runs.length far) (hn : 1 ≤ n) : LI l a (n + 1) 0 far where
  len := h.len
  ok := fun s hs => by
    obtain ⟨k, h1, h2, h3⟩ := h.ok s hs
    exact ⟨k, h1, by omega, h3⟩
  old := fun s k hk hd => by
    by_cases e : k < n
    · exact h.old s k e hd
    · obtain rfl : k = n := by omega
      have hne : far.getD s 0 ≠ 0 := by
        rcases Nat.lt_or_ge 1 k with h1 | h1
        · obtain ⟨m, rfl⟩ : ∃ m, k = m + 2 := ⟨k - 2, by omega⟩
          obtain ⟨f, i, h3, h4⟩ := isD_pred hd
          exact h.cur i f s h4.1 h4 (.inr ⟨m, rfl, h3⟩)
        · obtain rfl : k = 1 := by omega
          obtain ⟨i, h4⟩ := isD_one hd
          exact h.cur i a s h4.1 h4 (.inl ⟨rfl, rfl⟩)
      obtain ⟨j, h1, h2, h3⟩ := h.ok s hne
      rw [h1, isD_eq h3 hd]
  cur := fun j f s hj => by omega
theorem LI.skip {l : Lb} {a n i : Nat} {far : List Int} (h : LI l a n i far) (hx : ∀ f s, Sh l i f s → (n = 1 ∧ f = a ∨ ∃ m, n = m + 2 ∧ IsD l a f (m + 1)) → far.getD s 0 ≠ 0) : LI l a n (i + 1) far :=
  { h with
    cur := fun j f s hj hsh hf => by
      by_cases e : j = i
      · rw [e] at hsh; exact hx f s hsh hf
      · exact h.cur j f s (by omega) hsh hf }
theorem LI.set {l : Lb} (hl : l.Ok) {a n i f s : Nat} {far : List Int} (h : LI l a n i far) (hn : 1 ≤ n) (hsh : Sh l i f s) (h0 : far.getD s 0 = 0) (hf : n = 1 ∧ f = a ∨ ∃ m, n = m + 2 ∧ IsD l a f (m + 1)) : LI l a n (i + 1) (far.set s n) := by
  have hin := sh_in hl hsh
  have hg : ∀ t, (far.set s (n : Int)).getD t 0 = if t = s then (n : Int) else far.getD t 0 := fun t => set_getD _ _ _ _ (by rw [h.len]; exact hin.2)
  have hw : Wk l a n s := by
    rcases hf with ⟨rfl, rfl⟩ | ⟨m, rfl, hd⟩
    · exact wk_one hsh
    · exact ⟨f, i, hd.2.1, hsh⟩
  have hd : IsD l a s n := ⟨hn, hw, fun j h1 h2 h3 => by
    obtain ⟨k, hk, hk2⟩ := isD_of j h1 h3
    have := h.old s k (by omega) hk2
    have := hk2.1
    omega⟩
  refine ⟨by simp [h.len], fun t ht => ?_, fun t k hk hkd => ?_, fun j f' t hj hs' hf' => ?_⟩
  · rw [hg] at ht ⊢
    by_cases e : t = s
    · rw [if_pos e, e]; exact ⟨n, rfl, Nat.le_refl _, hd⟩
    · rw [if_neg e] at ht ⊢; exact h.ok t ht
  · rw [hg]
    by_cases e : t = s
    · rw [e] at hkd
      have := isD_eq hkd hd
      omega
    · rw [if_neg e]; exact h.old t k hk hkd
  · rw [hg]
    by_cases e : t = s
    · rw [if_pos e]; omega
    · rw [if_neg e]
      by_cases e2 : j = i
      · rw [e2] at hs'
        have := hs'.2.symm.trans hsh.2
        cases this
        exact absurd rfl e
      · exact h.cur j f' t (by omega) hs' hf'
/-- How many runs the shortest chain has, 0 if there is none. -/
def LenP (l : Lb) (a b : Nat) (n : Int) : Prop := (n = 0 ∧ ∀ k, 1 ≤ k → ¬ Wk l a k b) ∨ ∃ k : Nat, n = k ∧ IsD l a b k
theorem LI.end {l : Lb} (hl : l.Ok) {a : Nat} {far : List Int} (h : LI l a (l.n + 1) 0 far) (b : Nat) : LenP l a b (far.getD b 0) := by
  by_cases h0 : far.getD b 0 = 0
  · refine .inl ⟨h0, fun k hk hw => ?_⟩
    obtain ⟨j, _, hd⟩ := isD_of k hk hw
    have := h.old b j (by have := isD_le hl hd; omega) hd
    have := hd.1
    omega
  · obtain ⟨k, h1, _, h3⟩ := h.ok b h0
    exact .inr ⟨k, h1, h3⟩
theorem leadV_cons (l : Lb) (a i : Int) (c : List Int) : leadV l a (i :: c) = match runV l.err (l.runs.getD i.toNat ⟨0, 0, 0⟩) with
    | none => none
    | some p => if (p.1 : Int) = a then leadV l p.2 c else none := by
  (conv => lhs; unfold leadV) <;> rfl
theorem lead_app (l : Lb) : ∀ (c d : List Int) (a : Int), leadV l a (c ++ d) = (leadV l a c).bind fun x => leadV l x d
  | [], d, a => rfl
  | j :: c, d, a => by
    rw [List.cons_append, leadV_cons, leadV_cons]
    split
    · rfl
    · rename_i p hp
      split
      · exact lead_app l c d p.2
      · rfl
/-- What a run shows, in the reference. -/
def shR (e : Int) (r : Rn) : Int × Int := (runI e r).getD (-1, -1)
def rqL (l : Lb) (j : Int) : Int × Int := shR l.err (l.runs.getD j.toNat ⟨0, 0, 0⟩)
theorem lead_one2 {l : Lb} (hl : l.Ok) {j : Int} (h0 : 0 ≤ j) (h1 : j < l.runs.length) (x : Int) : leadV l x [j] = if 0 ≤ (rqL l j).1 ∧ (rqL l j).1 = x then some (rqL l j).2 else none := by
  have hj : j.toNat < l.runs.length := by omega
  have hr := hl.run _ (List.getElem_mem hj)
  have a0 := hr.a0
  have b0 := hr.b0
  unfold leadV rqL shR
  rw [List.getD_eq_getElem?_getD, List.getElem?_eq_getElem hj, Option.getD_some]
  generalize l.runs[j.toNat] = r at *
  unfold runV runI
  by_cases h2 : l.err < r.lead
  · rw [if_pos h2, if_pos h2]
    simp only [Option.getD_some, Int.toNat_of_nonneg a0, Int.toNat_of_nonneg b0]
    by_cases h3 : r.a = x
    · rw [if_pos h3, if_pos ⟨a0, h3⟩]; rfl
    · rw [if_neg h3, if_neg (fun h => h3 h.2)]
  · rw [if_neg h2, if_neg h2]
    by_cases h4 : r.lead < -l.err
    · rw [if_pos h4, if_pos h4]
      simp only [Option.getD_some, Int.toNat_of_nonneg a0, Int.toNat_of_nonneg b0]
      by_cases h3 : r.b = x
      · rw [if_pos h3, if_pos ⟨b0, h3⟩]; rfl
      · rw [if_neg h3, if_neg (fun h => h3 h.2)]
    · rw [if_neg h4, if_neg h4, if_neg (by simp)]
def chainB (l : Lb) (a b : Int) (c : List Int) : Bool := match leadV l a c with | none => false | some x => decide (x = b) && (!c.isEmpty && true)
/-- A chain, as far as it has been looked at. -/
structure CI (l : Lb) (a b : Int) (c : List Int) (i : Nat) : Prop where
  le : i ≤ c.length
  ok : leadV l a (c.take i) = some (if i = 0 then a else (rqL l (c.getD (i - 1) 0)).2)
  fin : 0 < i → i = c.length → (rqL l (c.getD (i - 1) 0)).2 = b
theorem CI.start (l : Lb) (a b : Int) (c : List Int) : CI l a b c 0 := ⟨by omega, rfl, by omega⟩
section
variable {l : Lb} {a b : Int} {c : List Int} {i : Nat}
theorem CI.next (hl : l.Ok) (h : CI l a b c i) (hi : i < c.length) (hc : ∀ j ∈ c, 0 ≤ j ∧ j < l.runs.length) : leadV l a (c.take (i + 1)) = if 0 ≤ (rqL l (c.getD i 0)).1 ∧ (rqL l (c.getD i 0)).1 = (if i = 0 then a else (rqL l (c.getD (i - 1) 0)).2) then some (rqL l (c.getD i 0)).2 else none := by
  have hg : c.getD i 0 = c[i] := by rw [List.getD_eq_getElem?_getD, List.getElem?_eq_getElem hi]; rfl
  have hm := hc _ (List.getElem_mem hi)
  rw [← List.take_append_getElem hi, lead_app, h.ok, Option.bind_some, lead_one2 hl hm.1 hm.2, hg]
theorem CI.step (hl : l.Ok) (h : CI l a b c i) (hi : i < c.length) (hc : ∀ j ∈ c, 0 ≤ j ∧ j < l.runs.length) (h0 : 0 ≤ (rqL l (c.getD i 0)).1) (h1 : (rqL l (c.getD i 0)).1 = (if i = 0 then a else (rqL l (c.getD (i - 1) 0)).2)) (h2 : (rqL l (c.getD i 0)).2 = (if i + 1 < c.length then (rqL l (c.getD (i + 1) 0)).1 else b)) : CI l a b c (i + 1) := by
  refine ⟨by omega, ?_, fun _ h3 => ?_⟩
  · rw [h.next hl hi hc, if_pos ⟨h0, h1⟩, if_neg (by omega), Nat.add_sub_cancel]
  · rw [Nat.add_sub_cancel, h2, if_neg (by omega)]
theorem CI.end (h : CI l a b c c.length) : chainB l a b c = decide (0 < c.length) := by
  have h1 := h.ok
  rw [List.take_length] at h1
  unfold chainB
  rw [h1]
  by_cases e : c.length = 0
  · have : c = [] := List.length_eq_zero_iff.1 e
    subst this
    simp
  · rw [if_neg e, h.fin (by omega) rfl]
    cases c with
    | nil => simp at e
    | cons x c => simp
end
end Go.Proofs.Ytcmpdmobmbbplaa

/- Walks of the reference: the error of a lab, what a run shows. -/
namespace Go.Proofs.Ytcmpdmobmbbplaa
open Go Go.Eng

theorem out_ca (n lo hi : Int) (w : World) : Ca Try.prog 90 [.int .i64 n, .int .i64 lo, .int .i64 hi] w fun v w' => v = .bool (!(inB n lo hi)) ∧ Chg [] w w' := by
  refine q_of (Sat.nil w M0) Try.func90 rfl (by simp [Try.ntmps90]) ?_
  by_cases h1 : n < lo
  · (refine q_seq (q_region (ql_pure tabOk rfl rfl (q_nil (q_seq (q_region (ql_pure tabOk rfl rfl (ql_pure tabOk rfl rfl (ql_lssT tabOk rfl rfl rfl (by omega) (ql_pure tabOk rfl rfl ?_))))))))); (iterate 3 refine ql_gno rfl rfl rfl ?_); refine ql_pure tabOk rfl rfl (ql_pure tabOk rfl rfl (q_nil (q_ret ?_))))
    refine q_fin tabOk rfl (by repeat constructor) fun w hs => ?_
    exact ⟨by simp [inB, retV]; omega, hs.chg0⟩
  · by_cases h2 : n > hi
    · (refine q_seq (q_region (ql_pure tabOk rfl rfl (q_nil (q_seq (q_region (ql_pure tabOk rfl rfl (ql_pure tabOk rfl rfl (ql_lssF tabOk rfl rfl rfl (by omega) (ql_pure tabOk rfl rfl (ql_gyes rfl (ql_pure tabOk rfl rfl ?_))))))))))); refine ql_gyes rfl (ql_pure tabOk rfl rfl (ql_gyes rfl (ql_gtrT tabOk rfl rfl rfl (by omega) (ql_pure tabOk rfl rfl (ql_pure tabOk rfl rfl (q_nil (q_ret ?_))))))))
      refine q_fin tabOk rfl (by repeat constructor) fun w hs => ?_
      exact ⟨by simp [inB, retV]; omega, hs.chg0⟩
    · (refine q_seq (q_region (ql_pure tabOk rfl rfl (q_nil (q_seq (q_region (ql_pure tabOk rfl rfl (ql_pure tabOk rfl rfl (ql_lssF tabOk rfl rfl rfl (by omega) (ql_pure tabOk rfl rfl (ql_gyes rfl (ql_pure tabOk rfl rfl ?_))))))))))); refine ql_gyes rfl (ql_pure tabOk rfl rfl (ql_gyes rfl (ql_gtrF tabOk rfl rfl rfl (by omega) (ql_pure tabOk rfl rfl (ql_pure tabOk rfl rfl (q_nil (q_ret ?_))))))))
      refine q_fin tabOk rfl (by repeat constructor) fun w hs => ?_
      exact ⟨by simp [inB, retV]; omega, hs.chg0⟩
theorem all_take {α : Type} (p : α → Bool) (l : List α) {i : Nat} (hi : i < l.length) (h : (l.take i).all p = true) (hx : p l[i] = true) : (l.take (i + 1)).all p = true := by
  rw [← List.take_append_getElem hi, List.all_append, h]
  simp [hx]
theorem all_stop {α : Type} (p : α → Bool) (l : List α) {i : Nat} (hi : i < l.length) (hx : p l[i] = false) : l.all p = false := by
  rw [List.all_eq_false]
  exact ⟨l[i], List.getElem_mem hi, by rw [hx]; simp⟩
end Go.Proofs.Ytcmpdmobmbbplaa

/- Walks: the bag. -/
namespace Go.Proofs.Ytcmpdmobmbbplaa
open Go Go.Eng

abbrev bagV (b2 b6 b8 : Nat) : Value := .func (.func 102) #[] #[.pointer (some ⟨b2, 0, none⟩), .pointer (some ⟨b6, 0, none⟩), .pointer (some ⟨b8, 0, none⟩)]
/-- The variables of the search for a bag. -/
structure BagE (w : World) (b2 b6 b8 : Nat) (l R : List (List Int)) (most : Int) : Prop where
  h2 : ∃ t a c lo hi, Blk w b2 [.slice a l.length c] t ∧ RdII w lo hi (.slice a l.length c) l
  h6 : ∃ t a c lo hi, Blk w b6 [.slice a R.length c] t ∧ RdW w lo hi (.slice a R.length c) most R
  h8 : ∃ t, Blk w b8 [bagV b2 b6 b8] t
theorem BagE.keep {w w' : World} {b2 b6 b8 : Nat} {l R : List (List Int)} {most : Int} (h : BagE w b2 b6 b8 l R most) (c : Chg [] w w') : BagE w' b2 b6 b8 l R most := by
  obtain ⟨t, a, c2, lo, hi, h1, h2⟩ := h.h2
  obtain ⟨t', a', c2', lo', hi', h1', h2'⟩ := h.h6
  obtain ⟨t8, h8⟩ := h.h8
  exact ⟨⟨t, a, c2, lo, hi, h1.keep c, RdII.keep h2 c⟩, ⟨t', a', c2', lo', hi', h1'.keep c, h2'.keep c⟩, ⟨t8, h8.keep c⟩⟩
theorem chI_snoc (ch : List Nat) (x : Nat) : ints (chI ch ++ [(x : Int)]) = ints (chI ch) ++ [.int .i64 (x : Int)] := by simp [ints]
theorem chI_app (ch : List Nat) (x : Nat) : chI (ch ++ [x]) = chI ch ++ [(x : Int)] := by simp [chI]
def tK31_cfbf5ab : OT := .alt (chainT [1, 2, 3, 4, 5, 0, 6, 7, 8, 9] (.nil)) (chainT [3, 4, 1, 2, 5, 0, 6, 7, 8, 9] (.nil))
set_option maxHeartbeats 2000000 in
theorem bagc_ca (b2 b6 b8 : Nat) (l : List (List Int)) (n : Nat) (most : Int) (hl : TabOk l n) : ∀ (k : Nat) (ch : List Nat), Inc l.length ch → 1 ≤ ch.length + k → k ≤ 12 → ∀ (w : World) (lo hi : Nat) (v : Value), BagE w b2 b6 b8 l (regV l n) most → RdI w lo hi v (chI ch) →
    Ca Try.prog 102 [v, .int .i64 k, .pointer (some ⟨b2, 0, none⟩), .pointer (some ⟨b6, 0, none⟩), .pointer (some ⟨b8, 0, none⟩)] w fun r w' => ∃ u : Value, (r = u ∧ (chooseF (covB (regV l n) most n) l.length k ch = none → u = .slice none 0 0)) ∧ Sat w M0 [.ow u 3 1 ((chooseF (covB (regV l n) most n) l.length k ch).getD []).length (ints (chI ((chooseF (covB (regV l n) most n) l.length k ch).getD [])))] w' := by
  intro k
  have hl1 := hl.l1
  have hl2 := hl.l2
  have hn1 := hl.n1
  have hn2 := hl.n2
  have hRl := regV_len l n
  have hRn : ∀ row ∈ regV l n, row.length = n := fun row hr => by obtain ⟨i, hi, rfl⟩ := List.mem_iff_getElem.1 hr; exact reg_row _
  have hrow : ∀ i (hi : i < l.length), l[i].length = n := fun i hi => hl.len _ (List.getElem_mem _)
  induction k with
  | zero =>
    intro ch hI h1 hk w lo hi v hE hv
    obtain ⟨t2, a2, c2, lo2, hi2, hb2, hr2⟩ := hE.h2
    obtain ⟨t6, a6, c6, lo6, hi6, hb6, hr6⟩ := hE.h6
    obtain ⟨_, _, e0, ha2⟩ := RdII.outI hr2
    cases e0
    obtain ⟨ab, ao, rfl⟩ := ha2 (by omega)
    obtain ⟨a0, o0, c0, hr0, hc0⟩ := RdII.rowS hr2 0 (by omega) (hrow 0 (by omega)) (by omega)
    have hcl := inc_len hI
    refine q_of (Sat.nil w M0) Try.func102 rfl (by simp [Try.ntmps102]) ?_
    (refine q_seq (q_region (ql_pure tabOk rfl rfl (q_nil (q_seq (q_seq (q_region (ql_pure tabOk rfl rfl (ql_eqlT tabOk rfl rfl rfl (by omega) (q_nil (q_cond_true rfl (q_seq ?_))))))))))); refine q_seq (q_region ?_); refine ql_loadP tabOk rfl rfl rfl (by assumption) (by rfl) ?_)
    refine ql_index tabOk rfl rfl rfl rfl rfl (by omega) (by omega) ?_
    refine ql_load1 tabOk rfl rfl rfl (fun w hs => hc0 _ hs.chg0) ?_
    (refine ql_pure tabOk rfl rfl (ql_pure tabOk rfl rfl (q_nil (q_block ?_))))
    refine q_loop (σ := Nat) (fun s => s ≤ n ∧ ∀ t, t < s → ∃ x ∈ ch, ((regV l n).getD x []).getD t 0 ≤ most) (fun s => n - s) (fun s => [(0, v), (3, .pointer (some ⟨b6, 0, none⟩)), (17, .int .i64 n), (18, .int .i64 s)]) (fun _ => []) 0 ⟨by omega, fun t ht => by omega⟩ ⟨rfl, rfl, rfl, rfl, trivial⟩ (by repeat constructor) ?_
    rintro s ⟨hs1, hcv⟩ K hK
    (refine q_seq (q_region (ql_pure tabOk rfl rfl (q_nil (q_seq ?_)))))
    refine q_if rfl (fun hc => ?_) (fun hc => ?_)
    · have hs2 : s < n := by omega
      clear hc
      (refine q_skip (q_seq (q_block (q_seq (q_region (ql_pure tabOk rfl rfl ?_))))))
      refine ql_alloc zero3 rfl (fun b9 => ?_)
      (refine ql_set tabOk rfl rfl rfl rfl (by repeat constructor) ?_; refine q_nil (q_seq (q_region (ql_pure tabOk rfl rfl (ql_pure tabOk rfl rfl ?_)))))
      refine ql_callv (val := .bool (ch.any fun x => decide (((regV l n).getD x []).getD s 0 ≤ most))) tabOk rfl rfl rfl rfl (fun w hs => ?_) ?_; exact by have := conF_int w lo hi v _ (ints (chI ch)) _ (RdE.keep hv hs.chg0) (by intro i hi; simp [ints, oneV]) (by simp [ints, chI]; omega) (bag2_p w lo6 hi6 b6 b9 t6 _ s n a6 c6 most (regV l n) ch (hb6.keep hs.chg0) (hs.blk (b := b9) (by repeat constructor)) (hr6.keep hs.chg0) (fun x hx => by rw [hRl]; exact hI.2 x hx) hRn hs2 (by omega)); rw [pGd_any] at this; exact this
      cases hany : ch.any fun x => decide (((regV l n).getD x []).getD s 0 ≤ most) with
      | true =>
        obtain ⟨x, hx, hx2⟩ := List.any_eq_true.1 hany
        (refine ql_pure tabOk rfl rfl (q_nil (q_cond_false rfl (q_skip (q_blk (q_region (ql_ar tabOk rfl rfl rfl rfl (by omega) (by omega) (ql_pure tabOk rfl rfl (q_nil ?_)))))))))
        exact hK (s + 1) _ _ ⟨by omega, fun t ht => by
          by_cases e : t = s
          · subst e; exact ⟨x, hx, of_decide_eq_true hx2⟩
          · exact hcv t (by omega)⟩ (by omega) ⟨rfl, rfl, rfl, rfl, trivial⟩ (by repeat constructor)
      | false =>
        have hcf : covB (regV l n) most n ch = false := Bool.eq_false_iff.2 fun h => by
          obtain ⟨x, hx, hx2⟩ := cov_iff.1 h s hs2
          have := List.any_eq_false.1 hany x hx
          exact this (decide_eq_true hx2)
        have hch : chooseF (covB (regV l n) most n) l.length 0 ch = none := by rw [chooseF, if_neg (by rw [hcf]; simp)]
        rw [hch]
        (refine ql_pure tabOk rfl rfl (q_nil (q_cond_true rfl (q_seq (q_region (ql_pure tabOk rfl rfl (q_nil (q_ret ?_))))))))
        refine q_fin tabOk rfl (by repeat constructor) fun w hs => ?_
        exact ⟨_, ⟨rfl, fun _ => rfl⟩, by have := Sat.ownil (hs.sp (H' := []) (by repeat constructor)) 3 1; simpa [ints, chI, retV] using this⟩
    · obtain rfl : s = n := by omega
      have hct : covB (regV l s) most s ch = true := cov_iff.2 hcv
      have hch : chooseF (covB (regV l s) most s) l.length 0 ch = some ch := by rw [chooseF, if_pos hct]
      rw [hch]
      (refine q_exit _ rfl (q_seq (q_region (ql_pure tabOk rfl rfl ?_))))
      refine ql_call (β := Value) tabOk [] _ M0 rfl rfl rfl rfl (Sp.refl _) (fun _ h => h.elim) (fun w' hs => sclone_ca w' lo hi v (chI ch) (RdE.keep hv hs.chg0) (by rw [chI_len]; omega)) ?_
      rintro u _ rfl
      dsimp only [List.cons_append, List.nil_append]
      rw [chI_len]
      (refine ql_pure tabOk rfl rfl (q_nil (q_ret ?_)))
      refine q_fin tabOk rfl (by repeat constructor) fun w hs => ?_
      exact ⟨_, ⟨rfl, fun h => by cases h⟩, hs.sp (by repeat constructor)⟩
  | succ k ih =>
    intro ch hI h1 hk w lo hi v hE hv
    obtain ⟨t2, a2, c2, lo2, hi2, hb2, hr2⟩ := hE.h2
    obtain ⟨t6, a6, c6, lo6, hi6, hb6, hr6⟩ := hE.h6
    obtain ⟨t8, hb8⟩ := hE.h8
    have hcl := inc_len hI
    obtain ⟨va, vc, rfl, hva⟩ := RdI.outI hv
    rw [chI_len] at hva hv ⊢
    have hfst : fstB ch ≤ l.length := by
      rcases List.eq_nil_or_concat ch with rfl | ⟨c, z, rfl⟩
      · exact Nat.zero_le _
      · rw [List.concat_eq_append] at hI ⊢
        rw [fst_snoc]
        have := hI.2 z (by simp)
        omega
    refine q_of (Sat.nil w M0) Try.func102 rfl (by simp [Try.ntmps102]) ?_
    (refine q_seq (q_region (ql_pure tabOk rfl rfl (q_nil (q_seq (q_seq (q_region (ql_pure tabOk rfl rfl (ql_eqlF tabOk rfl rfl rfl (by omega) (q_nil (q_cond_false rfl (q_skip ?_))))))))))); refine q_seq (q_region (ql_pure tabOk rfl rfl (q_nil (q_seq (q_seq (q_region ?_)))))); (iterate 3 refine ql_pure tabOk rfl rfl ?_); refine q_nil ?_)
    refine q_cut (σ := Unit) (fun _ => [(0, .slice va ch.length vc), (1, .int .i64 (k + 1 : Nat)), (3, .pointer (some ⟨b6, 0, none⟩)), (4, .pointer (some ⟨b8, 0, none⟩)), (9, .int .i64 (fstB ch))]) (fun _ => []) ?_ ?_
    rotate_left
    · intro K2 hK2
      refine q_if rfl (fun hc => ?_) (fun hc => ?_)
      · have hc0 : 0 < ch.length := by omega
        clear hc
        obtain ⟨ab, ao, rfl⟩ := hva hc0
        have hgt : chI ch = (chI ch) := rfl
        have hlast : (chI ch)[ch.length - 1]'(by rw [chI_len]; omega) = ((ch[ch.length - 1] : Nat) : Int) := by simp [chI]
        have hfl : fstB ch = ch[ch.length - 1] + 1 := by
          rcases List.eq_nil_or_concat ch with rfl | ⟨c, z, rfl⟩
          · simp at hc0
          · simp [fstB]
        have hzb := hI.2 _ (List.getElem_mem (show ch.length - 1 < ch.length by omega))
        (refine q_region ?_; (iterate 3 refine ql_pure tabOk rfl rfl ?_); refine ql_ar tabOk rfl rfl rfl rfl (by omega) (by omega) ?_)
        refine ql_index tabOk rfl rfl rfl rfl rfl (by omega) (by omega) ?_
        refine ql_load1 (v := .int .i64 (ch[ch.length - 1] : Nat)) tabOk rfl rfl rfl (fun w hs => by
          have := RdI.at (RdE.keep hv hs.chg0) (ch.length - 1) (by rw [chI_len]; omega)
          rw [hlast] at this
          rw [show ((ch.length : Int) - 1).toNat = ch.length - 1 from by omega]
          exact this) ?_
        (refine ql_ar tabOk rfl rfl rfl rfl (by omega) (by omega) (ql_pure tabOk rfl rfl (q_nil ?_)))
        exact hK2 () _ _ ⟨rfl, rfl, rfl, rfl, lookI rfl (by omega), trivial⟩ (by repeat constructor)
      · have hce : ch = [] := List.length_eq_zero_iff.1 (by omega)
        clear hc
        have hfl : fstB ch = 0 := by rw [hce]; rfl
        (refine q_skip ?_)
        exact hK2 () _ _ ⟨rfl, rfl, rfl, rfl, lookI rfl (by omega), trivial⟩ (by repeat constructor)
    intro _
    (refine q_seq (q_seq (q_region (ql_pure tabOk rfl rfl (ql_pure tabOk rfl rfl (q_nil (q_block ?_)))))))
    have hstep : ∀ x, x < l.length → tryF (fun y => chooseF (covB (regV l n) most n) l.length k (ch ++ [y])) (l.length - x) x = match chooseF (covB (regV l n) most n) l.length k (ch ++ [x]) with
        | some o => some o
        | none => tryF (fun y => chooseF (covB (regV l n) most n) l.length k (ch ++ [y])) (l.length - (x + 1)) (x + 1) := fun x hx => by
      rw [show l.length - x = (l.length - (x + 1)) + 1 from by omega, tryF]
      cases chooseF (covB (regV l n) most n) l.length k (ch ++ [x]) <;> rfl
    refine q_loop (σ := Nat) (fun x => fstB ch ≤ x ∧ x ≤ l.length ∧ chooseF (covB (regV l n) most n) l.length (k + 1) ch = tryF (fun y => chooseF (covB (regV l n) most n) l.length k (ch ++ [y])) (l.length - x) x) (fun x => l.length - x) (fun x => [(0, .slice va ch.length vc), (1, .int .i64 (k + 1 : Nat)), (3, .pointer (some ⟨b6, 0, none⟩)), (4, .pointer (some ⟨b8, 0, none⟩)), (10, .int .i64 x)]) (fun _ => []) (fstB ch) ⟨Nat.le_refl _, hfst, rfl⟩ ⟨rfl, rfl, rfl, rfl, rfl, trivial⟩ (by repeat constructor) ?_
    rintro x ⟨hx1, hx2, hx3⟩ K hK
    (refine q_seq (q_seq (q_region (ql_pure tabOk rfl rfl ?_))); refine ql_loadP tabOk rfl rfl rfl (by assumption) (by rfl) ?_; refine ql_pure tabOk rfl rfl (ql_pure tabOk rfl rfl (q_nil ?_)))
    refine q_if rfl (fun hc => ?_) (fun hc => ?_)
    · have hx4 : x < l.length := by omega
      clear hc
      rw [hstep x hx4] at hx3
      (refine q_skip (q_seq ?_))
      refine q_block (q_seq ?_)
      have hI2 : Inc l.length (ch ++ [x]) := hI.snoc hx1 hx4
      refine q_cut (σ := {u : Value // chooseF (covB (regV l n) most n) l.length k (ch ++ [x]) = none → u = .slice none 0 0}) (fun u => [(0, .slice va ch.length vc), (1, .int .i64 (k + 1 : Nat)), (3, .pointer (some ⟨b6, 0, none⟩)), (4, .pointer (some ⟨b8, 0, none⟩)), (10, .int .i64 x), (11, u.1)]) (fun u => [.ow u.1 3 1 ((chooseF (covB (regV l n) most n) l.length k (ch ++ [x])).getD []).length (ints (chI ((chooseF (covB (regV l n) most n) l.length k (ch ++ [x])).getD [])))]) ?_ ?_
      rotate_left
      · intro K2 hK2
        have ek : ((k + 1 : Nat) : Int) - 1 = (k : Int) := by omega
        refine q_drawT (tK31_cfbf5ab) _ [] (Sp.refl _) (by kernel_rfl) (by kernel_rfl) ?_
        refine qt_alt ?_ ?_
        · skip
          refine qt_seg (by repeat (first | exact PickL.nil | (apply PickL.cons; rfl))) fun K1 hK1 => ?_
          (refine qf_pure tabOk rfl rfl rfl ?_)
          refine qf_call (β := Value) tabOk [] _ M0 rfl rfl rfl rfl (Sp.refl _) (fun _ h => h.elim) (fun w' hs => sclone_ca w' lo hi _ (chI ch) (RdE.keep hv hs.chg0) (by rw [chI_len]; omega)) ?_
          rintro u2 _ rfl
          dsimp only [List.cons_append, List.nil_append]
          rw [chI_len]
          (refine qf_pure tabOk rfl rfl rfl ?_)
          refine qf_mkS 3 [.int .i64 x] rfl (by kernel_rfl) rfl (fun bn => ?_)
          skip
          refine qf_append (q := 1) (news := [.int .i64 x]) slI rfl rfl rfl (fun v' => by repeat constructor) (fun w' hs => ⟨_, _, Blk.rdN (hs.blk (b := bn) (by repeat constructor)) rfl⟩) (by simp [oneV]) (by omega) (by omega) (fun u5 => ?_)
          (refine qf_loadP tabOk rfl rfl rfl (by assumption) (by rfl) ?_; refine qf_pure tabOk rfl rfl rfl (qf_ar tabOk rfl rfl rfl rfl (by omega) (by omega) ?_))
          rw [ek]
          refine qf_callF (β := Value) (ψ := fun u v => v = u ∧ (chooseF (covB (regV l n) most n) l.length k (ch ++ [x]) = none → u = .slice none 0 0)) (L' := fun u => [.ow u 3 1 ((chooseF (covB (regV l n) most n) l.length k (ch ++ [x])).getD []).length (ints (chI ((chooseF (covB (regV l n) most n) l.length k (ch ++ [x])).getD [])))]) [] [.ow u5 3 1 (ch.length + 1) (ints (chI ch) ++ [.int .i64 x])] M0 rfl rfl rfl (by repeat constructor) (fun _ h => h.elim) (fun w' hs => CaF.of tabOk (by kernel_rfl) (ih (ch ++ [x]) hI2 (by rw [List.length_append, List.length_singleton]; omega) (by omega) w' 0 w'.heap.size u5 (hE.keep hs.chg0) (own_rdI (t := 3) (by rw [chI_app, chI_snoc]; exact hs.mem (c := .ow u5 3 1 (ch.length + 1) (ints (chI ch) ++ [.int .i64 x])) (by repeat constructor)) (by rw [chI_len]; simp)))) ?_
          rintro u8 _ ⟨rfl, hu8⟩
          (refine qf_pure tabOk rfl rfl rfl (qf_nil ?_))
          exact hK1 _ _ (qt_nil (hK2 ⟨_, hu8⟩ _ _ ⟨rfl, rfl, rfl, rfl, rfl, rfl, trivial⟩ (by repeat constructor)))
        · skip
          refine qt_seg (by repeat (first | exact PickL.nil | (apply PickL.cons; rfl))) fun K1 hK1 => ?_
          (refine qf_pure tabOk rfl rfl rfl ?_)
          refine qf_mkS 3 [.int .i64 x] rfl (by kernel_rfl) rfl (fun bn => ?_)
          (refine qf_pure tabOk rfl rfl rfl ?_)
          refine qf_call (β := Value) tabOk [] _ M0 rfl rfl rfl rfl (Sp.refl _) (fun _ h => h.elim) (fun w' hs => sclone_ca w' lo hi _ (chI ch) (RdE.keep hv hs.chg0) (by rw [chI_len]; omega)) ?_
          rintro u2 _ rfl
          dsimp only [List.cons_append, List.nil_append]
          rw [chI_len]
          skip
          refine qf_append (q := 1) (news := [.int .i64 x]) slI rfl rfl rfl (fun v' => by repeat constructor) (fun w' hs => ⟨_, _, Blk.rdN (hs.blk (b := bn) (by repeat constructor)) rfl⟩) (by simp [oneV]) (by omega) (by omega) (fun u5 => ?_)
          (refine qf_loadP tabOk rfl rfl rfl (by assumption) (by rfl) ?_; refine qf_pure tabOk rfl rfl rfl (qf_ar tabOk rfl rfl rfl rfl (by omega) (by omega) ?_))
          rw [ek]
          refine qf_callF (β := Value) (ψ := fun u v => v = u ∧ (chooseF (covB (regV l n) most n) l.length k (ch ++ [x]) = none → u = .slice none 0 0)) (L' := fun u => [.ow u 3 1 ((chooseF (covB (regV l n) most n) l.length k (ch ++ [x])).getD []).length (ints (chI ((chooseF (covB (regV l n) most n) l.length k (ch ++ [x])).getD [])))]) [] [.ow u5 3 1 (ch.length + 1) (ints (chI ch) ++ [.int .i64 x])] M0 rfl rfl rfl (by repeat constructor) (fun _ h => h.elim) (fun w' hs => CaF.of tabOk (by kernel_rfl) (ih (ch ++ [x]) hI2 (by rw [List.length_append, List.length_singleton]; omega) (by omega) w' 0 w'.heap.size u5 (hE.keep hs.chg0) (own_rdI (t := 3) (by rw [chI_app, chI_snoc]; exact hs.mem (c := .ow u5 3 1 (ch.length + 1) (ints (chI ch) ++ [.int .i64 x])) (by repeat constructor)) (by rw [chI_len]; simp)))) ?_
          rintro u8 _ ⟨rfl, hu8⟩
          (refine qf_pure tabOk rfl rfl rfl (qf_nil ?_))
          exact hK1 _ _ (qt_nil (hK2 ⟨_, hu8⟩ _ _ ⟨rfl, rfl, rfl, rfl, rfl, rfl, trivial⟩ (by repeat constructor)))
      rintro ⟨u, hu⟩
      dsimp only
      cases hcf : chooseF (covB (regV l n) most n) l.length k (ch ++ [x]) with
      | none =>
        rw [hcf] at hx3
        obtain rfl := hu hcf
        (refine q_seq (q_region (ql_pure tabOk rfl rfl ?_)))
        refine ql_neqnil tabOk rfl rfl rfl rfl ?_
        (refine q_nil (q_cond_false rfl (q_skip (q_blk (q_region (ql_pure tabOk rfl rfl (ql_ar tabOk rfl rfl rfl rfl (by omega) (by omega) (ql_pure tabOk rfl rfl (q_nil ?_)))))))))
        exact hK (x + 1) _ _ ⟨by omega, by omega, hx3⟩ (by omega) ⟨rfl, rfl, rfl, rfl, rfl, trivial⟩ (by repeat constructor)
      | some o =>
        rw [hcf] at hx3
        have hol := (choose_sound k _ o hI2 hcf).2.1
        rw [List.length_append, List.length_singleton] at hol
        refine q_fact (fun w hs => hs.ownSome (v := u) (by repeat constructor) (by simp only [Option.getD_some]; omega)) ?_
        rintro ⟨g, gc, rfl⟩
        (refine q_seq (q_region (ql_pure tabOk rfl rfl ?_)))
        refine ql_neqnil tabOk rfl rfl rfl rfl ?_
        rw [hx3]
        (refine q_nil (q_cond_true rfl (q_seq (q_region (ql_pure tabOk rfl rfl (ql_pure tabOk rfl rfl (q_nil (q_ret ?_))))))))
        refine q_fin tabOk rfl (by repeat constructor) fun w hs => ?_
        exact ⟨_, ⟨rfl, fun h => by cases h⟩, hs.sp (by repeat constructor)⟩
    · obtain rfl : x = l.length := by omega
      rw [Nat.sub_self] at hx3
      have hx5 : chooseF (covB (regV l n) most n) l.length (k + 1) ch = none := hx3
      rw [hx5]
      (refine q_exit _ rfl (q_seq (q_region (ql_pure tabOk rfl rfl (q_nil (q_ret ?_))))))
      refine q_fin tabOk rfl (by repeat constructor) fun w hs => ?_
      exact ⟨_, ⟨rfl, fun _ => rfl⟩, by have := Sat.ownil (hs.sp (H' := []) (by repeat constructor)) 3 1; simpa [ints, chI, retV] using this⟩
theorem bag_no (w : World) (lo hi : Nat) (v : Value) (l : List (List Int)) (most : Int) (h : RdII w lo hi v l) (hne : limitV l most ≠ 0) : Ca Try.prog 46 [v, .int .i64 most] w fun x w' => x = .tuple #[.slice none 0 0, .int .i64 (limitV l most)] ∧ Chg [] w w' := by
  obtain ⟨va, c, rfl, ha⟩ := RdII.outI h
  refine q_of (Sat.nil w M0) Try.func46 rfl (by simp [Try.ntmps46]) ?_
  (refine q_seq (q_region ?_))
  refine ql_box rfl rfl (fun b2 => ?_)
  (refine ql_pure tabOk rfl rfl (ql_pure tabOk rfl rfl (q_nil (q_seq (q_region ?_)))); refine ql_loadBa tabOk rfl rfl rfl ?_; refine ql_pure tabOk rfl rfl ?_)
  refine ql_callv (val := .tuple #[.slice none 0 0, .int .i64 (limitV l most)]) tabOk rfl rfl rfl rfl (fun w hs => ?_) ?_; exact limited_no w lo hi _ l most (RdII.keep h hs.chg0) hne
  (refine ql_pure tabOk rfl rfl (ql_ext tabOk rfl rfl rfl (ql_ext tabOk rfl rfl rfl ?_)))
  refine ql_alloc zero154 rfl (fun b6 => ?_)
  (refine ql_set tabOk rfl rfl rfl rfl (by repeat constructor) ?_; refine ql_pure tabOk rfl rfl (q_nil (q_seq (q_seq (q_region (ql_pure tabOk rfl rfl (ql_neqT tabOk rfl rfl rfl (by omega) (q_nil (q_cond_true rfl (q_seq (q_region ?_)))))))))); (iterate 3 refine ql_pure tabOk rfl rfl ?_); refine q_nil (q_ret ?_))
  refine q_fin tabOk rfl (by repeat constructor) fun w hs => ?_
  exact ⟨rfl, hs.chg0⟩
set_option maxHeartbeats 1000000 in
theorem bag_ok (w : World) (lo hi : Nat) (v : Value) (l : List (List Int)) (most : Int) (n : Nat) (h : RdII w lo hi v l) (hl : TabOk l n) (hm : 0 ≤ most) (hm2 : most ≤ 10000) (out : List Nat) (ho : bagF (covB (regV l n) most n) l.length = some out) : Ca Try.prog 46 [v, .int .i64 most] w fun x w' => ∃ u : Value, x = .tuple #[u, .int .i64 0] ∧ Sat w M0 [.ow u 3 1 out.length (ints (chI out))] w' := by
  have hnV : nV l = n := hl.v.2
  have he : limitV l most = 0 := limit_iff.2 ⟨by rw [hnV]; exact hl, hm, hm2⟩
  have hl1 := hl.l1
  have hl2 := hl.l2
  obtain ⟨va, c, rfl, ha⟩ := RdII.outI h
  refine q_of (Sat.nil w M0) Try.func46 rfl (by simp [Try.ntmps46]) ?_
  (refine q_seq (q_region ?_))
  refine ql_box rfl rfl (fun b2 => ?_)
  (refine ql_pure tabOk rfl rfl (ql_pure tabOk rfl rfl (q_nil (q_seq (q_region ?_)))); refine ql_loadBa tabOk rfl rfl rfl ?_; refine ql_pure tabOk rfl rfl ?_)
  refine ql_call (β := Value × List (Value × List Int)) tabOk [] _ M0 rfl rfl rfl rfl (Sp.refl _) (fun _ h => h.elim) (fun w' hs => limited_ok w' lo hi _ l most (RdII.keep h hs.chg0) he) ?_
  rintro ⟨v6, xs⟩ _ ⟨rfl, hxs⟩
  dsimp only [List.cons_append, List.nil_append] at hxs ⊢
  rw [hnV] at hxs
  refine ql_fact (fun w hs => hs.slice2 (v := v6) (by repeat constructor)) ?_
  rintro ⟨a6, c6, rfl⟩
  (refine ql_pure tabOk rfl rfl (ql_ext tabOk rfl rfl rfl (ql_ext tabOk rfl rfl rfl ?_)))
  refine ql_alloc zero154 rfl (fun b6 => ?_)
  (refine ql_set tabOk rfl rfl rfl rfl (by repeat constructor) ?_; refine ql_pure tabOk rfl rfl (q_nil (q_seq (q_seq (q_region (ql_pure tabOk rfl rfl (ql_neqF tabOk rfl rfl rfl (by omega) (q_nil (q_cond_false rfl (q_skip (q_seq (q_region ?_))))))))))))
  refine ql_alloc zero174 rfl (fun b8 => ?_)
  (refine q_nil (q_seq (q_region (ql_pure tabOk rfl rfl ?_))); refine ql_set tabOk rfl rfl rfl rfl (by repeat constructor) ?_; refine q_nil (q_seq (q_seq (q_region ?_))); refine ql_loadBa tabOk rfl rfl rfl ?_; refine ql_pure tabOk rfl rfl (ql_pure tabOk rfl rfl (q_nil (q_block ?_))))
  refine q_loop (σ := Nat) (fun i => i ≤ l.length ∧ bagF (covB (regV l n) most n) l.length = tryF (fun j => chooseF (covB (regV l n) most n) l.length (j + 1) []) (l.length - i) i) (fun i => l.length - i) (fun i => [(8, .pointer (some ⟨b8, 0, none⟩)), (22, .int .i64 l.length), (23, .int .i64 i)])
    (fun _ => [.pt b2 [.slice va l.length c] 49, .pt b6 [.slice a6 l.length c6] 154, .pt b8 [bagV b2 b6 b8] 174, un (rowsO 3 xs), .ow (.slice a6 l.length c6) 157 2 l.length (wxC most xs)]) 0 ⟨by omega, rfl⟩ ⟨rfl, rfl, rfl, trivial⟩ (by repeat constructor) ?_
  rintro i ⟨hi1, hi2⟩ K hK
  (refine q_seq (q_region (ql_pure tabOk rfl rfl (q_nil (q_seq ?_)))))
  refine q_if rfl (fun hc => ?_) (fun hc => ?_)
  · have hi3 : i < l.length := by omega
    clear hc
    have hstep : tryF (fun j => chooseF (covB (regV l n) most n) l.length (j + 1) []) (l.length - i) i = match chooseF (covB (regV l n) most n) l.length (i + 1) [] with
        | some o => some o
        | none => tryF (fun j => chooseF (covB (regV l n) most n) l.length (j + 1) []) (l.length - (i + 1)) (i + 1) := by
      rw [show l.length - i = (l.length - (i + 1)) + 1 from by omega, tryF]
      cases chooseF (covB (regV l n) most n) l.length (i + 1) [] <;> rfl
    rw [hstep] at hi2
    (refine q_skip (q_seq (q_block (q_seq (q_region (ql_pure tabOk rfl rfl (ql_pure tabOk rfl rfl (q_nil (q_seq (q_region ?_))))))))); refine ql_loadBa tabOk rfl rfl rfl ?_; refine ql_pure tabOk rfl rfl (ql_ar tabOk rfl rfl rfl rfl (by omega) (by omega) ?_))
    rw [show (i : Int) + 1 = ((i + 1 : Nat) : Int) from by omega]
    refine ql_callF (β := Value) (ψ := fun u v => v = u ∧ (chooseF (covB (regV l n) most n) l.length (i + 1) [] = none → u = .slice none 0 0)) (L' := fun u => [.ow u 3 1 ((chooseF (covB (regV l n) most n) l.length (i + 1) []).getD []).length (ints (chI ((chooseF (covB (regV l n) most n) l.length (i + 1) []).getD [])))]) [] _ M0 rfl rfl rfl (Sp.refl _) (fun _ h => h.elim) (fun w' hs => CaF.of tabOk (by kernel_rfl) (bagc_ca b2 b6 b8 l n most hl (i + 1) [] ⟨List.Pairwise.nil, fun x hx => by cases hx⟩ (by omega) (by omega) w' 0 w'.heap.size (.slice none 0 0) ⟨⟨_, va, c, lo, hi, hs.blk (by repeat constructor), RdII.keep h hs.chg0⟩, ⟨_, a6, c6, 0, w'.heap.size, by rw [regV_len]; exact hs.blk (b := b6) (by repeat constructor), by rw [regV_len, ← hxs]; exact wax_rd (t := 3) (t2 := 157) (n := l.length) (hs.mem (c := un (rowsO 3 xs)) (by repeat constructor)) (hs.mem (c := .ow (.slice a6 l.length c6) 157 2 l.length (wxC most xs)) (by repeat constructor))⟩, ⟨_, hs.blk (b := b8) (by repeat constructor)⟩⟩ (own_rdI (t := 3) (own_nil w' 0 3 1) rfl))) ?_
    rintro _ u ⟨rfl, hu⟩
    dsimp only [List.cons_append, List.nil_append]
    cases hcf : chooseF (covB (regV l n) most n) l.length (i + 1) [] with
    | none =>
      rw [hcf] at hi2
      obtain rfl := hu hcf
      (refine ql_pure tabOk rfl rfl (q_nil (q_seq (q_region (ql_pure tabOk rfl rfl ?_)))))
      refine ql_neqnil tabOk rfl rfl rfl rfl ?_
      (refine q_nil (q_cond_false rfl (q_skip (q_blk (q_region (ql_ar tabOk rfl rfl rfl rfl (by omega) (by omega) (ql_pure tabOk rfl rfl (q_nil ?_))))))))
      exact hK (i + 1) _ _ ⟨by omega, hi2⟩ (by omega) ⟨rfl, rfl, rfl, trivial⟩ (by repeat constructor)
    | some o =>
      rw [hcf] at hi2
      have eo : o = out := by rw [hi2] at ho; exact Option.some.inj ho
      subst eo
      have hol := (choose_sound (i + 1) [] o ⟨List.Pairwise.nil, fun x hx => by cases hx⟩ hcf).2.1
      refine ql_fact (fun w hs => hs.ownSome (v := u) (by repeat constructor) (by simp only [Option.getD_some]; omega)) ?_
      rintro ⟨g, gc, rfl⟩
      (refine ql_pure tabOk rfl rfl (q_nil (q_seq (q_region (ql_pure tabOk rfl rfl ?_)))))
      refine ql_neqnil tabOk rfl rfl rfl rfl ?_
      (refine q_nil (q_cond_true rfl (q_seq (q_region ?_))); (iterate 3 refine ql_pure tabOk rfl rfl ?_); refine q_nil (q_ret ?_))
      refine q_fin tabOk rfl (by repeat constructor) fun w hs => ?_
      exact ⟨_, rfl, hs.sp (by repeat constructor)⟩
  · obtain rfl : i = l.length := by omega
    rw [Nat.sub_self] at hi2
    rw [hi2] at ho
    cases ho
end Go.Proofs.Ytcmpdmobmbbplaa

/- Walks of the reference: the error of a table; regrets. -/
namespace Go.Proofs.Ytcmpdmobmbbplaa
open Go Go.Eng

def rowB (n : Nat) (row : List Int) : Bool := inB row.length 1 20 && (decide (row.length = n) && true)
def numB (row : List Int) : Bool := row.all fun n => inB n 0 10000
theorem tab_bad1 {l : List (List Int)} (h : inB l.length 1 12 = false) : tableV l = 2 := if_pos (by rw [h]; rfl)
theorem tab_bad2 {l : List (List Int)} (h : l.all (rowB (l.headD []).length) = false) : tableV l = 2 := if_pos (by rw [show (l.all fun row => inB row.length 1 20 && (decide (row.length = (l.headD []).length) && true)) = l.all (rowB (l.headD []).length) from rfl, h, Bool.and_false])
theorem tab_bad3 {l : List (List Int)} (h1 : inB l.length 1 12 = true) (h2 : l.all (rowB (l.headD []).length) = true) (h : l.all numB = false) : tableV l = 3 := by
  unfold tableV
  rw [show (l.all fun row => inB row.length 1 20 && (decide (row.length = (l.headD []).length) && true)) = l.all (rowB (l.headD []).length) from rfl, h1, h2, if_neg (by simp)]
  exact if_pos h
theorem tab_good {l : List (List Int)} (h1 : inB l.length 1 12 = true) (h2 : l.all (rowB (l.headD []).length) = true) (h : l.all numB = true) : tableV l = 0 := by
  unfold tableV
  rw [show (l.all fun row => inB row.length 1 20 && (decide (row.length = (l.headD []).length) && true)) = l.all (rowB (l.headD []).length) from rfl, h1, h2, if_neg (by simp)]
  exact if_neg (by rw [show (l.all fun row => row.all fun n => inB n 0 10000) = l.all numB from rfl, h]; simp)
set_option maxHeartbeats 2000000 in
theorem rtable_ca (w : World) (lo hi : Nat) (v : Value) (l : List (List Int)) (h : RdII w lo hi v l) (hlen : l.length ≤ maxLen) (hrl : ∀ r ∈ l, r.length ≤ maxLen) : Ca Try.prog 98 [v] w fun x w' => x = .int .i64 (tableV l) ∧ Chg [] w w' := by
  obtain ⟨va, vc, rfl, hva⟩ := RdII.outI h
  simp only [maxLen] at hlen hrl
  refine q_of (Sat.nil w M0) Try.func98 rfl (by simp [Try.ntmps98]) ?_
  by_cases g1 : l.length < 1
  · (refine q_seq (q_region (ql_pure tabOk rfl rfl (q_nil (q_seq (q_seq (q_region (ql_pure tabOk rfl rfl (ql_pure tabOk rfl rfl (ql_lssT tabOk rfl rfl rfl (by omega) (ql_pure tabOk rfl rfl ?_)))))))))); (iterate 3 refine ql_gno rfl rfl rfl ?_); refine ql_pure tabOk rfl rfl (q_nil (q_cond_true rfl (q_seq (q_region (ql_pure tabOk rfl rfl (q_nil (q_ret ?_))))))))
    refine q_fin tabOk rfl (by repeat constructor) fun w hs => ?_
    exact ⟨by rw [tab_bad1 (by simp [inB]; omega)]; rfl, hs.chg0⟩
  by_cases g2 : l.length > 12
  · (refine q_seq (q_region (ql_pure tabOk rfl rfl (q_nil (q_seq (q_seq (q_region (ql_pure tabOk rfl rfl (ql_pure tabOk rfl rfl (ql_lssF tabOk rfl rfl rfl (by omega) (ql_pure tabOk rfl rfl (ql_gyes rfl ?_))))))))))); refine ql_pure tabOk rfl rfl (ql_gyes rfl (ql_pure tabOk rfl rfl (ql_gyes rfl (ql_gtrT tabOk rfl rfl rfl (by omega) (ql_pure tabOk rfl rfl (q_nil (q_cond_true rfl (q_seq (q_region (ql_pure tabOk rfl rfl (q_nil ?_))))))))))); refine q_ret ?_)
    refine q_fin tabOk rfl (by repeat constructor) fun w hs => ?_
    exact ⟨by rw [tab_bad1 (by simp [inB]; omega)]; rfl, hs.chg0⟩
  have hin : inB l.length 1 12 = true := inB_iff.2 ⟨by omega, by omega⟩
  obtain ⟨vb, vo, rfl⟩ := hva (by omega)
  have h0l : 0 < l.length := by omega
  obtain ⟨a0, c0, hr0, hc0⟩ := RdII.row h 0 h0l
  have hn0 : (l.headD []).length = l[0].length := by
    cases l with
    | nil => simp at h0l
    | cons x l => rfl
  have hr0l := hrl _ (List.getElem_mem h0l)
  (refine q_seq (q_region (ql_pure tabOk rfl rfl (q_nil (q_seq (q_seq (q_region (ql_pure tabOk rfl rfl (ql_pure tabOk rfl rfl (ql_lssF tabOk rfl rfl rfl (by omega) (ql_pure tabOk rfl rfl (ql_gyes rfl ?_))))))))))); refine ql_pure tabOk rfl rfl (ql_gyes rfl (ql_pure tabOk rfl rfl (ql_gyes rfl (ql_gtrF tabOk rfl rfl rfl (by omega) (ql_pure tabOk rfl rfl (q_nil (q_cond_false rfl (q_skip (q_seq (q_seq (q_region ?_))))))))))); refine ql_pure tabOk rfl rfl (q_nil (q_block ?_)))
  refine q_loop (σ := Nat) (fun k => k ≤ l.length ∧ (l.take k).all (rowB (l.headD []).length) = true) (fun k => l.length - k) (fun k => [(0, .slice (some ⟨vb, vo, none⟩) l.length vc), (3, .int .i64 k)]) (fun _ => []) 0 ⟨by omega, by simp⟩ ⟨rfl, rfl, trivial⟩ (Sp.refl _) ?_
  rintro k ⟨hk, hall⟩ K hK
  (refine q_seq (q_seq (q_region ?_)); (iterate 4 refine ql_pure tabOk rfl rfl ?_); refine q_nil ?_)
  refine q_if rfl (fun hc => ?_) (fun hc => ?_)
  · have hk2 : k < l.length := by omega
    clear hc
    obtain ⟨a1, c1, hr1, hc1⟩ := RdII.row h k hk2
    have hr1l := hrl _ (List.getElem_mem hk2)
    (refine q_skip (q_seq (q_block (q_seq ?_))))
    refine q_draw _ [] (Sp.refl _) (by kernel_rfl) (by kernel_rfl) ?_
    (refine qf_pure tabOk rfl rfl rfl (qf_pure tabOk rfl rfl rfl ?_))
    refine qf_index tabOk rfl rfl rfl rfl rfl (by omega) (by omega) ?_
    refine qf_load1 tabOk rfl rfl rfl (fun w hs => hc1 _ hs.chg0) ?_
    by_cases p1 : l[k].length < 1
    · have hx : rowB (l.headD []).length l[k] = false := by rw [hn0]; simp [rowB, inB]; omega
      have hbad : l.all (rowB (l.headD []).length) = false := all_stop _ _ hk2 hx
      (refine qf_pure tabOk rfl rfl rfl (qf_lssT tabOk rfl rfl rfl (by omega) (qf_pure tabOk rfl rfl rfl ?_)); (iterate 6 refine qf_gno rfl rfl rfl ?_); refine qf_pure tabOk rfl rfl rfl (qf_pure tabOk rfl rfl rfl ?_); (iterate 10 refine qf_gno rfl rfl rfl ?_); refine qf_pure tabOk rfl rfl rfl (qf_nil (q_cond_true rfl (q_seq (q_region (ql_pure tabOk rfl rfl (q_nil (q_ret ?_))))))))
      refine q_fin tabOk rfl (by repeat constructor) fun w hs => ?_
      exact ⟨by rw [tab_bad2 hbad]; rfl, hs.chg0⟩
    · (refine qf_pure tabOk rfl rfl rfl (qf_lssF tabOk rfl rfl rfl (by omega) (qf_pure tabOk rfl rfl rfl (qf_gyes rfl (qf_pure tabOk rfl rfl rfl (qf_gyes rfl (qf_pure tabOk rfl rfl rfl (qf_gyes rfl ?_))))))))
      refine qf_index tabOk rfl rfl rfl rfl rfl (by omega) (by omega) ?_
      (refine qf_gyes rfl ?_)
      refine qf_load1 tabOk rfl rfl rfl (fun w hs => hc1 _ hs.chg0) ?_
      by_cases p2 : l[k].length > 20
      · have hx : rowB (l.headD []).length l[k] = false := by rw [hn0]; simp [rowB, inB]; omega
        have hbad : l.all (rowB (l.headD []).length) = false := all_stop _ _ hk2 hx
        (refine qf_gyes rfl (qf_pure tabOk rfl rfl rfl (qf_gyes rfl (qf_gtrT tabOk rfl rfl rfl (by omega) (qf_pure tabOk rfl rfl rfl (qf_pure tabOk rfl rfl rfl ?_))))); (iterate 10 refine qf_gno rfl rfl rfl ?_); refine qf_pure tabOk rfl rfl rfl (qf_nil (q_cond_true rfl (q_seq (q_region (ql_pure tabOk rfl rfl (q_nil (q_ret ?_))))))))
        refine q_fin tabOk rfl (by repeat constructor) fun w hs => ?_
        exact ⟨by rw [tab_bad2 hbad]; rfl, hs.chg0⟩
      · (refine qf_gyes rfl (qf_pure tabOk rfl rfl rfl (qf_gyes rfl (qf_gtrF tabOk rfl rfl rfl (by omega) (qf_pure tabOk rfl rfl rfl (qf_pure tabOk rfl rfl rfl (qf_gyes rfl (qf_pure tabOk rfl rfl rfl (qf_gyes rfl (qf_pure tabOk rfl rfl rfl (qf_gyes rfl ?_)))))))))))
        refine qf_index tabOk rfl rfl rfl rfl rfl (by omega) (by omega) ?_
        (refine qf_gyes rfl ?_)
        refine qf_load1 tabOk rfl rfl rfl (fun w hs => hc1 _ hs.chg0) ?_
        (refine qf_gyes rfl (qf_pure tabOk rfl rfl rfl (qf_gyes rfl (qf_pure tabOk rfl rfl rfl (qf_gyes rfl ?_)))))
        refine qf_index tabOk rfl rfl rfl rfl rfl (by omega) (by omega) ?_
        (refine qf_gyes rfl ?_)
        refine qf_load1 tabOk rfl rfl rfl (fun w hs => hc0 _ hs.chg0) ?_
        by_cases p3 : l[k].length = l[0].length
        · have hx : rowB (l.headD []).length l[k] = true := by rw [hn0]; simp [rowB, inB]; omega
          (refine qf_gyes rfl (qf_pure tabOk rfl rfl rfl (qf_gyes rfl (qf_neqF tabOk rfl rfl rfl (by omega) (qf_pure tabOk rfl rfl rfl (qf_nil (q_cond_false rfl (q_skip (q_blk (q_region (ql_pure tabOk rfl rfl (ql_ar tabOk rfl rfl rfl rfl (by omega) (by omega) ?_))))))))))); refine ql_pure tabOk rfl rfl (q_nil ?_))
          exact hK (k + 1) _ _ ⟨by omega, all_take _ _ hk2 hall hx⟩ (by omega) ⟨rfl, rfl, trivial⟩ (Sp.refl _)
        · have hx : rowB (l.headD []).length l[k] = false := by rw [hn0]; simp [rowB, inB]; omega
          have hbad : l.all (rowB (l.headD []).length) = false := all_stop _ _ hk2 hx
          (refine qf_gyes rfl (qf_pure tabOk rfl rfl rfl (qf_gyes rfl (qf_neqT tabOk rfl rfl rfl (by omega) (qf_pure tabOk rfl rfl rfl (qf_nil (q_cond_true rfl (q_seq (q_region (ql_pure tabOk rfl rfl (q_nil (q_ret ?_))))))))))))
          refine q_fin tabOk rfl (by repeat constructor) fun w hs => ?_
          exact ⟨by rw [tab_bad2 hbad]; rfl, hs.chg0⟩
  · obtain rfl : k = l.length := by omega
    rw [List.take_length] at hall
    clear hc hK hk
    (refine q_exit _ rfl (q_seq (q_seq (q_region (ql_pure tabOk rfl rfl (q_nil (q_block ?_)))))))
    refine q_loop (σ := Nat) (fun k => k ≤ l.length ∧ (l.take k).all numB = true) (fun k => l.length - k) (fun k => [(0, .slice (some ⟨vb, vo, none⟩) l.length vc), (4, .int .i64 k)]) (fun _ => []) 0 ⟨by omega, by simp⟩ ⟨rfl, rfl, trivial⟩ (Sp.refl _) ?_
    rintro k ⟨hk, hal2⟩ K hK
    (refine q_seq (q_seq (q_region ?_)); (iterate 4 refine ql_pure tabOk rfl rfl ?_); refine q_nil ?_)
    refine q_if rfl (fun hc => ?_) (fun hc => ?_)
    · have hk2 : k < l.length := by omega
      clear hc
      obtain ⟨a1, c1, hr1, hc1⟩ := RdII.row h k hk2
      obtain ⟨_, _, he1, hs1⟩ := RdI.outI hr1
      have hr1l := hrl _ (List.getElem_mem hk2)
      (refine q_skip (q_seq (q_block (q_seq (q_region (ql_pure tabOk rfl rfl (q_nil (q_block ?_))))))))
      refine q_loop (σ := Nat) (fun s => s ≤ l[k].length ∧ (l[k].take s).all (fun n => inB n 0 10000) = true) (fun s => l[k].length - s) (fun s => [(0, .slice (some ⟨vb, vo, none⟩) l.length vc), (4, .int .i64 k), (5, .int .i64 s)]) (fun _ => []) 0 ⟨by omega, by simp⟩ ⟨rfl, rfl, rfl, trivial⟩ (Sp.refl _) ?_
      rintro s ⟨hs2, hal3⟩ K2 hK2
      (refine q_seq (q_seq (q_region ?_)); (iterate 3 refine ql_pure tabOk rfl rfl ?_))
      refine ql_index tabOk rfl rfl rfl rfl rfl (by omega) (by omega) ?_
      refine ql_load1 tabOk rfl rfl rfl (fun w hs => hc1 _ hs.chg0) ?_
      (refine ql_pure tabOk rfl rfl (ql_pure tabOk rfl rfl (q_nil ?_)))
      refine q_if rfl (fun hc => ?_) (fun hc => ?_)
      · have hs3 : s < l[k].length := by omega
        clear hc
        obtain ⟨rb, ro, hab⟩ := hs1 (by omega)
        cases he1
        subst hab
        (refine q_skip (q_seq (q_block (q_seq (q_region (ql_pure tabOk rfl rfl (ql_pure tabOk rfl rfl ?_)))))))
        refine ql_index tabOk rfl rfl rfl rfl rfl (by omega) (by omega) ?_
        refine ql_load1 tabOk rfl rfl rfl (fun w hs => hc1 _ hs.chg0) ?_
        (refine ql_pure tabOk rfl rfl ?_)
        refine ql_index tabOk rfl rfl rfl rfl rfl (by omega) (by omega) ?_
        refine ql_load1 (v := .int .i64 l[k][s]) tabOk rfl rfl rfl (fun w hs => RdI.at (RdE.keep hr1 hs.chg0) s hs3) ?_
        refine ql_callv (val := .bool (!(inB l[k][s] 0 10000))) tabOk rfl rfl rfl rfl (fun w hs => ?_) ?_; exact out_ca l[k][s] 0 10000 w
        cases hx : inB l[k][s] 0 10000 with
        | false =>
          have hb1 : numB l[k] = false := all_stop _ _ hs3 hx
          have hbad : l.all numB = false := all_stop _ _ hk2 hb1
          (refine q_nil (q_cond_true rfl (q_seq (q_region (ql_pure tabOk rfl rfl (q_nil (q_ret ?_)))))))
          refine q_fin tabOk rfl (by repeat constructor) fun w hs => ?_
          exact ⟨by rw [tab_bad3 hin hall hbad]; rfl, hs.chg0⟩
        | true =>
          (refine q_nil (q_cond_false rfl (q_skip (q_blk (q_region (ql_pure tabOk rfl rfl (ql_ar tabOk rfl rfl rfl rfl (by omega) (by omega) (ql_pure tabOk rfl rfl (q_nil ?_)))))))))
          exact hK2 (s + 1) _ _ ⟨by omega, all_take _ _ hs3 hal3 hx⟩ (by omega) ⟨rfl, rfl, rfl, trivial⟩ (Sp.refl _)
      · obtain rfl : s = l[k].length := by omega
        rw [List.take_length] at hal3
        (refine q_exit _ rfl (q_blk (q_region (ql_pure tabOk rfl rfl (ql_ar tabOk rfl rfl rfl rfl (by omega) (by omega) (ql_pure tabOk rfl rfl (q_nil ?_)))))))
        exact hK (k + 1) _ _ ⟨by omega, all_take _ _ hk2 hal2 hal3⟩ (by omega) ⟨rfl, rfl, trivial⟩ (Sp.refl _)
    · obtain rfl : k = l.length := by omega
      rw [List.take_length] at hal2
      (refine q_exit _ rfl (q_seq (q_region (ql_pure tabOk rfl rfl (q_nil (q_ret ?_))))))
      refine q_fin tabOk rfl (by repeat constructor) fun w hs => ?_
      exact ⟨by rw [tab_good hin hall hal2]; rfl, hs.chg0⟩
end Go.Proofs.Ytcmpdmobmbbplaa

/- Walks of the reference: regrets; whether a wax is good; the best wax. -/
namespace Go.Proofs.Ytcmpdmobmbbplaa
open Go Go.Eng

theorem rlimit_ca (w : World) (lo hi : Nat) (v : Value) (l : List (List Int)) (most : Int) (h : RdII w lo hi v l) (hlen : l.length ≤ maxLen) (hrl : ∀ r ∈ l, r.length ≤ maxLen) : Ca Try.prog 53 [v, .int .i64 most] w fun x w' => x = .int .i64 (limitV l most) ∧ Chg [] w w' := by
  refine q_of (Sat.nil w M0) Try.func53 rfl (by simp [Try.ntmps53]) ?_
  (refine q_seq (q_region (ql_pure tabOk rfl rfl (q_nil (q_seq (q_seq (q_region (ql_pure tabOk rfl rfl ?_))))))))
  refine ql_callv (val := .int .i64 (tableV l)) tabOk rfl rfl rfl rfl (fun w hs => ?_) ?_; exact rtable_ca w lo hi v l (RdII.keep h hs.chg0) hlen hrl
  by_cases h0 : tableV l = 0
  · rw [h0]
    (refine ql_pure tabOk rfl rfl (q_nil (q_seq (q_region (ql_pure tabOk rfl rfl (ql_neqF tabOk rfl rfl rfl (by omega) (q_nil (q_cond_false rfl (q_skip (q_seq (q_seq (q_region ?_))))))))))); refine ql_pure tabOk rfl rfl ?_)
    refine ql_callv (val := .bool (!(inB most 0 10000))) tabOk rfl rfl rfl rfl (fun w hs => ?_) ?_; exact out_ca most 0 10000 w
    cases hx : inB most 0 10000 with
    | false =>
      (refine q_nil (q_cond_true rfl (q_seq (q_region (ql_pure tabOk rfl rfl (q_nil (q_ret ?_)))))))
      refine q_fin tabOk rfl (by repeat constructor) fun w hs => ?_
      exact ⟨by simp [retV, limitV, h0, hx], hs.chg0⟩
    | true =>
      (refine q_nil (q_cond_false rfl (q_skip (q_seq (q_region (ql_pure tabOk rfl rfl (q_nil (q_ret ?_))))))))
      refine q_fin tabOk rfl (by repeat constructor) fun w hs => ?_
      exact ⟨by simp [retV, limitV, h0, hx], hs.chg0⟩
  · (refine ql_pure tabOk rfl rfl (q_nil (q_seq (q_region (ql_pure tabOk rfl rfl (ql_neqT tabOk rfl rfl rfl (by omega) (q_nil (q_cond_true rfl (q_seq (q_region (ql_pure tabOk rfl rfl (ql_pure tabOk rfl rfl ?_))))))))))); refine q_nil (q_ret ?_))
    refine q_fin tabOk rfl (by repeat constructor) fun w hs => ?_
    exact ⟨by simp [retV, limitV, h0], hs.chg0⟩
/-- The regret so far. -/
structure RgI (l : List (List Int)) (x : Int) (s k : Nat) (out : Int) : Prop where
  z : 0 ≤ out
  ge : ∀ w, w < k → x - gt l w s ≤ out
  at_ : out = 0 ∨ ∃ w, w < k ∧ out = x - gt l w s
theorem RgI.step {l : List (List Int)} {x : Int} {s k : Nat} {out : Int} (h : RgI l x s k out) : RgI l x s (k + 1) (max out (x - gt l k s)) := by
  refine ⟨by have := h.z; omega, fun w hw => ?_, ?_⟩
  · by_cases e : w = k
    · subst e; omega
    · have := h.ge w (by omega); omega
  · by_cases e : out ≤ x - gt l k s
    · exact .inr ⟨k, by omega, by omega⟩
    · rcases h.at_ with h1 | ⟨w, h1, h2⟩
      · exact .inl (by omega)
      · exact .inr ⟨w, by omega, by omega⟩
theorem RgI.end {l : List (List Int)} {n i s : Nat} {out : Int} (hl : TabOk l n) (hi : i < l.length) (hs : s < n) (h : RgI l (gt l i s) s l.length out) : out = gt (regV l n) i s := by
  have hl1 := hl.l1
  rw [reg_gt hi hs]
  obtain ⟨row, hr, he⟩ := low_mem (l := l) (fun e => by rw [e] at hl1; simp at hl1) s
  obtain ⟨k, hk, rfl⟩ := List.getElem_of_mem hr
  have hg : ∀ k (hk : k < l.length), gt l k s = l[k].getD s 0 := fun k hk => by
    unfold gt
    rw [List.getD_eq_getElem?_getD (l := l), List.getElem?_eq_getElem hk, Option.getD_some]
  have h1 := h.ge k hk
  rw [hg k hk, ← he] at h1
  have h3 := low_le (List.getElem_mem hi) s
  rw [← hg i hi] at h3
  rcases h.at_ with h2 | ⟨w, hw, h2⟩
  · omega
  · have h4 := low_le (List.getElem_mem hw) s
    rw [← hg w hw] at h4
    omega
theorem regret_ca (w : World) (lo hi : Nat) (v : Value) (l : List (List Int)) (n i s : Nat) (h : RdII w lo hi v l) (hl : TabOk l n) (hi' : i < l.length) (hs' : s < n) : Ca Try.prog 99 [v, .int .i64 i, .int .i64 s] w fun x w' => x = .int .i64 (gt (regV l n) i s) ∧ Chg [] w w' := by
  obtain ⟨va, vc, rfl, hva⟩ := RdII.outI h
  obtain ⟨vb, vo, rfl⟩ := hva (by omega)
  have hl2 := hl.l2
  have hn2 := hl.n2
  have hrow := fun k (hk : k < l.length) => hl.len _ (List.getElem_mem hk)
  have hnum := fun k (hk : k < l.length) => hl.num _ (List.getElem_mem hk)
  have hsr : ∀ k (hk : k < l.length), s < l[k].length := fun k hk => by rw [hrow k hk]; exact hs'
  obtain ⟨bi, oi, ci, hri, hci⟩ := RdII.rowS h i hi' (hrow i hi') (by omega)
  have hgi := hnum i hi' _ (List.getElem_mem (hsr i hi'))
  rw [← gt_get hi' (hsr i hi')] at hgi
  refine q_of (Sat.nil w M0) Try.func99 rfl (by simp [Try.ntmps99]) ?_
  (refine q_seq (q_region (ql_pure tabOk rfl rfl (q_nil (q_seq (q_region (ql_pure tabOk rfl rfl (q_nil (q_seq (q_seq (q_region (ql_pure tabOk rfl rfl ?_))))))))))); refine q_nil (q_block ?_))
  refine q_loop (σ := Nat × Int) (fun y => y.1 ≤ l.length ∧ y.2 ≤ 10000 ∧ RgI l (gt l i s) s y.1 y.2) (fun y => l.length - y.1) (fun y => [(0, .slice (some ⟨vb, vo, none⟩) l.length vc), (1, .int .i64 i), (2, .int .i64 s), (7, .int .i64 y.2), (8, .int .i64 y.1)]) (fun _ => []) (0, 0) ⟨by simp, by simp, by simp, fun _ hw => by simp at hw, .inl rfl⟩ ⟨rfl, rfl, rfl, rfl, rfl, trivial⟩ (Sp.refl _) ?_
  rintro ⟨k, out⟩ ⟨hk, ho, hI⟩ K hK
  dsimp only at hk ho hI hK ⊢
  (refine q_seq (q_seq (q_region ?_)); (iterate 4 refine ql_pure tabOk rfl rfl ?_); refine q_nil ?_)
  refine q_if rfl (fun hc => ?_) (fun hc => ?_)
  · have hk2 : k < l.length := by omega
    clear hc
    obtain ⟨bk, ok, ck, hrk, hck⟩ := RdII.rowS h k hk2 (hrow k hk2) (by omega)
    have hgk := hnum k hk2 _ (List.getElem_mem (hsr k hk2))
    rw [← gt_get hk2 (hsr k hk2)] at hgk
    have hz := hI.z
    (refine q_skip (q_seq (q_block ?_)))
    refine q_draw _ [] (Sp.refl _) (by kernel_rfl) (by kernel_rfl) ?_
    ((iterate 3 refine qf_pure tabOk rfl rfl rfl ?_))
    refine qf_index tabOk rfl rfl rfl rfl rfl (by omega) (by omega) ?_
    refine qf_load1 tabOk rfl rfl rfl (fun w hs => hci _ hs.chg0) ?_
    (refine qf_pure tabOk rfl rfl rfl ?_)
    refine qf_index tabOk rfl rfl rfl rfl rfl (by omega) (by omega) ?_
    refine qf_load1 (v := .int .i64 (gt l i s)) tabOk rfl rfl rfl (fun w hs => by rw [gt_get hi' (hsr i hi')]; exact RdI.at (RdE.keep hri hs.chg0) s (hsr i hi')) ?_
    (refine qf_pure tabOk rfl rfl rfl (qf_pure tabOk rfl rfl rfl ?_))
    refine qf_index tabOk rfl rfl rfl rfl rfl (by omega) (by omega) ?_
    refine qf_load1 tabOk rfl rfl rfl (fun w hs => hck _ hs.chg0) ?_
    (refine qf_pure tabOk rfl rfl rfl ?_)
    refine qf_index tabOk rfl rfl rfl rfl rfl (by omega) (by omega) ?_
    refine qf_load1 (v := .int .i64 (gt l k s)) tabOk rfl rfl rfl (fun w hs => by rw [gt_get hk2 (hsr k hk2)]; exact RdI.at (RdE.keep hrk hs.chg0) s (hsr k hk2)) ?_
    (refine qf_ar tabOk rfl rfl rfl rfl (by omega) (by omega) (qf_pure tabOk rfl rfl rfl (qf_pure tabOk rfl rfl rfl (qf_nil (q_blk (q_region (ql_pure tabOk rfl rfl (ql_ar tabOk rfl rfl rfl rfl (by omega) (by omega) (ql_pure tabOk rfl rfl (q_nil ?_))))))))))
    exact hK (k + 1, max out (gt l i s - gt l k s)) _ _ ⟨by dsimp only; omega, by dsimp only; omega, hI.step⟩ (by dsimp only; omega) ⟨rfl, rfl, rfl, rfl, rfl, trivial⟩ (Sp.refl _)
  · obtain rfl : k = l.length := by omega
    (refine q_exit _ rfl (q_seq (q_region (ql_pure tabOk rfl rfl (ql_pure tabOk rfl rfl (q_nil (q_ret ?_)))))))
    refine q_fin tabOk rfl (by repeat constructor) fun w hs => ?_
    exact ⟨by rw [hI.end hl hi' hs']; rfl, hs.chg0⟩
theorem reg_getD {l : List (List Int)} {n i : Nat} (hi : i < l.length) : ∃ row, (regV l n).getD i [] = row ∧ row ∈ regV l n ∧ row.length = n := by
  have h1 : i < (regV l n).length := by rw [regV_len]; exact hi
  refine ⟨(regV l n)[i], ?_, List.getElem_mem h1, reg_row h1⟩
  rw [List.getD_eq_getElem?_getD, List.getElem?_eq_getElem h1]
  rfl
theorem top_iff {row : List Int} {a b : Nat} {m : Int} (hab : a ≤ b) (hb : b < row.length) : allG row m a b = true ↔ topR row a b ≤ m := by
  unfold allG
  constructor
  · intro h
    have h1 := top_mem (row := row) (a := a) (b := b) (by
      intro e
      have := congrArg List.length e
      unfold spanL at this
      rw [List.length_take, List.length_drop, List.length_nil] at this
      omega)
    have := List.all_eq_true.1 h _ h1
    simpa using this
  · intro h
    refine List.all_eq_true.2 fun x hx => ?_
    have := top_ge x hx
    simp only [decide_eq_true_eq]
    omega
theorem rgood_ca (w : World) (lo hi : Nat) (v : Value) (l : List (List Int)) (n i a b : Nat) (most : Int) (h : RdII w lo hi v l) (hl : TabOk l n) (hi' : i < l.length) (hab : a ≤ b) (hb : b < n) : Ca Try.prog 100 [v, .int .i64 i, .int .i64 a, .int .i64 b, .int .i64 most] w fun x w' => x = .bool (allG ((regV l n).getD i []) most a b) ∧ Chg [] w w' := by
  have hn2 := hl.n2
  obtain ⟨row, hrow, hrm, hrl⟩ := reg_getD (n := n) hi'
  have hg : ∀ s, gt (regV l n) i s = row.getD s 0 := fun s => by unfold gt; rw [hrow]
  rw [hrow]
  refine q_of (Sat.nil w M0) Try.func100 rfl (by simp [Try.ntmps100]) ?_
  (refine q_seq (q_region (ql_pure tabOk rfl rfl (q_nil (q_seq (q_seq (q_region (ql_pure tabOk rfl rfl (ql_pure tabOk rfl rfl (q_nil (q_block ?_)))))))))))
  refine q_loop (σ := Nat) (fun s => a ≤ s ∧ s ≤ b + 1 ∧ ∀ t, a ≤ t → t < s → row.getD t 0 ≤ most) (fun s => b + 1 - s) (fun s => [(0, v), (1, .int .i64 i), (3, .int .i64 b), (4, .int .i64 most), (11, .int .i64 s)]) (fun _ => []) a ⟨by omega, by omega, fun t h1 h2 => by omega⟩ ⟨rfl, rfl, rfl, rfl, rfl, trivial⟩ (Sp.refl _) ?_
  rintro s ⟨hs1, hs2, hI⟩ K hK
  (refine q_seq (q_seq (q_region ?_)); (iterate 3 refine ql_pure tabOk rfl rfl ?_); refine q_nil ?_)
  refine q_if rfl (fun hc => ?_) (fun hc => ?_)
  · have hs3 : s ≤ b := by omega
    clear hc
    (refine q_skip (q_seq (q_block (q_seq (q_region ?_)))); (iterate 3 refine ql_pure tabOk rfl rfl ?_))
    refine ql_callv (val := .int .i64 (gt (regV l n) i s)) tabOk rfl rfl rfl rfl (fun w hs => ?_) ?_; exact regret_ca w lo hi v l n i s (RdII.keep h hs.chg0) hl hi' (by omega)
    rw [hg]
    (refine ql_pure tabOk rfl rfl (ql_pure tabOk rfl rfl (q_nil ?_)))
    refine q_if rfl (fun hc => ?_) (fun hc => ?_)
    · (refine q_seq (q_region (ql_pure tabOk rfl rfl (q_nil (q_ret ?_)))))
      refine q_fin tabOk rfl (by repeat constructor) fun w hs => ?_
      refine ⟨?_, hs.chg0⟩
      have : allG row most a b = false := by
        cases hx : allG row most a b with
        | false => rfl
        | true =>
          have := allG_get (by omega) hx s hs1 hs3
          omega
      rw [this]
      rfl
    · (refine q_skip (q_blk (q_region (ql_pure tabOk rfl rfl (ql_ar tabOk rfl rfl rfl rfl (by omega) (by omega) (ql_pure tabOk rfl rfl (q_nil ?_)))))))
      exact hK (s + 1) _ _ ⟨by omega, by omega, fun t h1 h2 => by
        by_cases e : t = s
        · rw [e]; omega
        · exact hI t h1 (by omega)⟩ (by omega) ⟨rfl, rfl, rfl, rfl, rfl, trivial⟩ (Sp.refl _)
  · (refine q_exit _ rfl (q_seq (q_region (ql_pure tabOk rfl rfl (q_nil (q_ret ?_))))))
    refine q_fin tabOk rfl (by repeat constructor) fun w hs => ?_
    exact ⟨by rw [allG_of (fun t h1 h2 => hI t h1 (by omega))]; rfl, hs.chg0⟩
set_option maxHeartbeats 2000000 in
theorem rwax_ca (w : World) (lo hi : Nat) (v : Value) (l : List (List Int)) (a b : Int) (h : RdII w lo hi v l) (hlen : l.length ≤ maxLen) (hrl : ∀ r ∈ l, r.length ≤ maxLen) : Ca Try.prog 45 [v, .int .i64 a, .int .i64 b] w fun x w' => x = .tuple #[.int .i64 (bestV l a b).1, .int .i64 (bestV l a b).2.1, .int .i64 (bestV l a b).2.2] ∧ Chg [] w w' := by
  obtain ⟨va, vc, rfl, hva⟩ := RdII.outI h
  refine q_of (Sat.nil w M0) Try.func45 rfl (by simp [Try.ntmps45]) ?_
  (refine q_seq (q_region ?_); (iterate 3 refine ql_pure tabOk rfl rfl ?_); refine q_nil (q_seq (q_seq (q_region (ql_pure tabOk rfl rfl ?_)))))
  refine ql_callv (val := .int .i64 (tableV l)) tabOk rfl rfl rfl rfl (fun w hs => ?_) ?_; exact rtable_ca w lo hi _ l (RdII.keep h hs.chg0) hlen hrl
  by_cases ht : tableV l = 0
  · have hl : TabOk l (nV l) := table_iff.1 ht
    have hl1 := hl.l1
    have hl2 := hl.l2
    have hn1 := hl.n1
    have hn2 := hl.n2
    obtain ⟨vb, vo, rfl⟩ := hva (by omega)
    obtain ⟨b0, o0, c0, hr0, hc0⟩ := RdII.rowS h 0 (by omega) (nV_eq (by omega)).symm hn1
    rw [ht]
    by_cases g1 : a < 0
    · skip
      have hb1 : (inB a 0 b && (decide (b < (nV l : Int)) && true)) = false := by
        cases hx : (inB a 0 b && (decide (b < (nV l : Int)) && true)) with
        | false => rfl
        | true =>
          simp only [Bool.and_eq_true, inB_iff, decide_eq_true_eq] at hx
          omega
      (refine ql_pure tabOk rfl rfl (q_nil (q_seq (q_region (ql_pure tabOk rfl rfl (ql_neqF tabOk rfl rfl rfl (by omega) (q_nil (q_cond_false rfl (q_skip (q_seq (q_seq (q_region ?_))))))))))); refine ql_pure tabOk rfl rfl (ql_lssT tabOk rfl rfl rfl (by omega) (ql_pure tabOk rfl rfl ?_)); (iterate 6 refine ql_gno rfl rfl rfl ?_); refine ql_pure tabOk rfl rfl (ql_pure tabOk rfl rfl ?_); (iterate 3 refine ql_gno rfl rfl rfl ?_); refine ql_pure tabOk rfl rfl (q_nil (q_cond_true rfl (q_seq (q_region ?_)))); (iterate 3 refine ql_pure tabOk rfl rfl ?_); refine q_nil (q_ret ?_))
      refine q_fin tabOk rfl (by repeat constructor) fun w hs => ?_
      exact ⟨by rw [best_un ht hb1]; rfl, hs.chg0⟩
    · (refine ql_pure tabOk rfl rfl (q_nil (q_seq (q_region (ql_pure tabOk rfl rfl (ql_neqF tabOk rfl rfl rfl (by omega) (q_nil (q_cond_false rfl (q_skip (q_seq (q_seq (q_region ?_))))))))))); refine ql_pure tabOk rfl rfl (ql_lssF tabOk rfl rfl rfl (by omega) (ql_pure tabOk rfl rfl (ql_gyes rfl (ql_pure tabOk rfl rfl (ql_gyes rfl (ql_pure tabOk rfl rfl (ql_gyes rfl ?_))))))))
      refine ql_index tabOk rfl rfl rfl rfl rfl (by omega) (by omega) ?_
      (refine ql_gyes rfl ?_)
      refine ql_load1 tabOk rfl rfl rfl (fun w hs => hc0 _ hs.chg0) ?_
      by_cases g2 : b ≥ nV l
      · skip
        have hb1 : (inB a 0 b && (decide (b < (nV l : Int)) && true)) = false := by
          cases hx : (inB a 0 b && (decide (b < (nV l : Int)) && true)) with
          | false => rfl
          | true =>
            simp only [Bool.and_eq_true, inB_iff, decide_eq_true_eq] at hx
            omega
        (refine ql_gyes rfl (ql_pure tabOk rfl rfl (ql_gyes rfl (ql_geqT tabOk rfl rfl rfl (by omega) (ql_pure tabOk rfl rfl (ql_pure tabOk rfl rfl ?_))))); (iterate 3 refine ql_gno rfl rfl rfl ?_); refine ql_pure tabOk rfl rfl (q_nil (q_cond_true rfl (q_seq (q_region ?_)))); (iterate 3 refine ql_pure tabOk rfl rfl ?_); refine q_nil (q_ret ?_))
        refine q_fin tabOk rfl (by repeat constructor) fun w hs => ?_
        exact ⟨by rw [best_un ht hb1]; rfl, hs.chg0⟩
      · by_cases g3 : a > b
        · skip
          have hb1 : (inB a 0 b && (decide (b < (nV l : Int)) && true)) = false := by
            cases hx : (inB a 0 b && (decide (b < (nV l : Int)) && true)) with
            | false => rfl
            | true =>
              simp only [Bool.and_eq_true, inB_iff, decide_eq_true_eq] at hx
              omega
          (refine ql_gyes rfl (ql_pure tabOk rfl rfl (ql_gyes rfl (ql_geqF tabOk rfl rfl rfl (by omega) (ql_pure tabOk rfl rfl (ql_pure tabOk rfl rfl (ql_gyes rfl (ql_pure tabOk rfl rfl (ql_gyes rfl (ql_pure tabOk rfl rfl (ql_gyes rfl (ql_gtrT tabOk rfl rfl rfl (by omega) ?_))))))))))); refine ql_pure tabOk rfl rfl (q_nil (q_cond_true rfl (q_seq (q_region ?_)))); (iterate 3 refine ql_pure tabOk rfl rfl ?_); refine q_nil (q_ret ?_))
          refine q_fin tabOk rfl (by repeat constructor) fun w hs => ?_
          exact ⟨by rw [best_un ht hb1]; rfl, hs.chg0⟩
        · have hby := best_yes (a := a) (b := b) ht (by rw [Bool.and_eq_true, inB_iff, Bool.and_true, decide_eq_true_eq]; omega)
          obtain ⟨A, hA⟩ := Int.eq_ofNat_of_zero_le (show 0 ≤ a by omega)
          obtain ⟨B, hB⟩ := Int.eq_ofNat_of_zero_le (show 0 ≤ b by omega)
          subst hA hB
          rw [Int.toNat_natCast, Int.toNat_natCast] at hby
          have hBW : BestW (regV l (nV l)) A B l.length (waxF (regV l (nV l)) A B l.length) := wax_best _ fun i _ => top_num (reg_num hl) i A B
          rw [hby]
          generalize waxF (regV l (nV l)) A B l.length = p at hBW
          obtain ⟨p1, p2⟩ := p
          obtain ⟨w0, hle, hlt, hat⟩ := hBW
          obtain ⟨hp1, hp2⟩ := hat (by omega)
          dsimp only at w0 hle hlt hp1 hp2 ⊢
          obtain ⟨P, rfl⟩ := Int.eq_ofNat_of_zero_le w0
          rw [Int.toNat_natCast] at hp2
          have hpm := top_num (reg_num hl) P A B
          rw [hp2] at hpm
          have hp0 : 0 ≤ p2 := by
            obtain ⟨row, hrow, hrm, hrl⟩ := reg_getD (l := l) (n := nV l) (i := P) (by omega)
            rw [hrow] at hp2
            have h1 := top_mem (row := row) (a := A) (b := B) (by
              intro e
              have := congrArg List.length e
              unfold spanL at this
              rw [List.length_take, List.length_drop, List.length_nil] at this
              omega)
            rw [hp2] at h1
            have h2 := span_sub _ h1
            unfold spanL at h2
            exact (reg_num hl row hrm p2 (List.mem_of_mem_drop (List.mem_of_mem_take h2))).1
          have hgd : ∀ i (k : Int), i < l.length → allG ((regV l (nV l)).getD i []) k A B = decide (topR ((regV l (nV l)).getD i []) A B ≤ k) := fun i k hi => by
            obtain ⟨row, hrow, hrm, hrl⟩ := reg_getD (l := l) (n := nV l) hi
            rw [hrow]
            rw [Bool.eq_iff_iff, top_iff (by omega) (by omega), decide_eq_true_iff]
          (refine ql_gyes rfl (ql_pure tabOk rfl rfl (ql_gyes rfl (ql_geqF tabOk rfl rfl rfl (by omega) (ql_pure tabOk rfl rfl (ql_pure tabOk rfl rfl (ql_gyes rfl (ql_pure tabOk rfl rfl (ql_gyes rfl (ql_pure tabOk rfl rfl (ql_gyes rfl (ql_gtrF tabOk rfl rfl rfl (by omega) ?_))))))))))); refine ql_pure tabOk rfl rfl (q_nil (q_cond_false rfl (q_skip (q_seq (q_seq (q_region (ql_pure tabOk rfl rfl (q_nil (q_block ?_))))))))))
          refine q_loop (σ := Nat) (fun k => (k : Int) ≤ p2) (fun k => 10001 - k) (fun k => [(0, .slice (some ⟨vb, vo, none⟩) l.length vc), (1, .int .i64 A), (2, .int .i64 B), (10, .int .i64 k)]) (fun _ => []) 0 (by omega) ⟨rfl, rfl, rfl, rfl, trivial⟩ (by repeat constructor) ?_
          rintro k hk K hK
          (refine q_seq (q_seq (q_region (ql_pure tabOk rfl rfl (ql_leqT tabOk rfl rfl rfl (by omega) (q_nil (q_cond_true rfl (q_skip (q_seq (q_block (q_seq (q_region ?_))))))))))); refine ql_pure tabOk rfl rfl (q_nil (q_block ?_)))
          refine q_loop (σ := Nat) (fun i => ((k : Int) < p2 ∧ i ≤ l.length) ∨ ((k : Int) = p2 ∧ i ≤ P)) (fun i => l.length - i) (fun i => [(0, .slice (some ⟨vb, vo, none⟩) l.length vc), (1, .int .i64 A), (2, .int .i64 B), (10, .int .i64 k), (11, .int .i64 i)]) (fun _ => []) 0 (by omega) ⟨rfl, rfl, rfl, rfl, rfl, trivial⟩ (by repeat constructor) ?_
          rintro i hii K2 hK2
          (refine q_seq (q_seq (q_region ?_)); (iterate 4 refine ql_pure tabOk rfl rfl ?_); refine q_nil ?_)
          refine q_if rfl (fun hc => ?_) (fun hc => ?_)
          · have hi2 : i < l.length := by omega
            clear hc
            (refine q_skip (q_seq (q_block (q_seq (q_region ?_)))); (iterate 5 refine ql_pure tabOk rfl rfl ?_))
            refine ql_callv (val := .bool (decide (topR ((regV l (nV l)).getD i []) A B ≤ k))) tabOk rfl rfl rfl rfl (fun w hs => ?_) ?_; exact by have := rgood_ca w lo hi _ l (nV l) i A B k (RdII.keep h hs.chg0) hl hi2 (by omega) (by omega); rw [hgd i k hi2] at this; exact this
            have h1 := hle i hi2
            have h2 := hlt i hi2
            generalize hT : topR ((regV l (nV l)).getD i []) A B = tv at h1 h2
            (refine q_nil ?_)
            refine q_if rfl (fun hc => ?_) (fun hc => ?_)
            · have e1 : i = P := by omega
              have e2 : (k : Int) = p2 := by omega
              (refine q_seq (q_region ?_); (iterate 5 refine ql_pure tabOk rfl rfl ?_); refine q_nil (q_ret ?_))
              refine q_fin tabOk rfl (by repeat constructor) fun w hs => ?_
              exact ⟨by rw [e1, ← e2]; rfl, hs.chg0⟩
            · (refine q_skip (q_blk (q_region (ql_pure tabOk rfl rfl (ql_ar tabOk rfl rfl rfl rfl (by omega) (by omega) (ql_pure tabOk rfl rfl (q_nil ?_)))))))
              exact hK2 (i + 1) _ _ (by
                by_cases e : i = P
                · rw [e, hp2] at hT
                  omega
                · omega) (by omega) ⟨rfl, rfl, rfl, rfl, rfl, trivial⟩ (Sp.refl _)
          · (refine q_exit _ rfl (q_blk (q_region (ql_pure tabOk rfl rfl (ql_ar tabOk rfl rfl rfl rfl (by omega) (by omega) (ql_pure tabOk rfl rfl (q_nil ?_)))))))
            exact hK (k + 1) _ _ (by omega) (by omega) ⟨rfl, rfl, rfl, rfl, trivial⟩ (Sp.refl _)
  · (refine ql_pure tabOk rfl rfl (q_nil (q_seq (q_region (ql_pure tabOk rfl rfl (ql_neqT tabOk rfl rfl rfl (by omega) (q_nil (q_cond_true rfl (q_seq (q_region ?_))))))))); (iterate 4 refine ql_pure tabOk rfl rfl ?_); refine q_nil (q_ret ?_))
    refine q_fin tabOk rfl (by repeat constructor) fun w hs => ?_
    exact ⟨by rw [best_no ht]; rfl, hs.chg0⟩
end Go.Proofs.Ytcmpdmobmbbplaa

/- Walks of the reference: two skis; which skis are faster. -/
namespace Go.Proofs.Ytcmpdmobmbbplaa
open Go Go.Eng

end Go.Proofs.Ytcmpdmobmbbplaa

/- Walks of the reference: whether runs contradict each other; the length of the shortest chain. -/
namespace Go.Proofs.Ytcmpdmobmbbplaa
open Go Go.Eng

end Go.Proofs.Ytcmpdmobmbbplaa

/- Walks of the reference: what a chain shows. -/
namespace Go.Proofs.Ytcmpdmobmbbplaa
open Go Go.Eng

theorem getD_at {l : List Int} {i : Nat} (h : i < l.length) : l[i] = l.getD i 0 := by rw [List.getD_eq_getElem?_getD, List.getElem?_eq_getElem h]; rfl
end Go.Proofs.Ytcmpdmobmbbplaa

/- Walks: the regrets of a table, of the program and of the reference; what breaks show, in the reference. -/
namespace Go.Proofs.Ytcmpdmobmbbplaa
open Go Go.Eng

/-- The regrets of a table, none if it is wrong. -/
def regA (l : List (List Int)) : List (List Int) := if tableV l = 0 then regV l (nV l) else []
theorem regretsA_ca (w : World) (lo hi : Nat) (v : Value) (l : List (List Int)) (h : RdII w lo hi v l) : Ca Try.prog 20 [v] w fun x w' => ∃ y : Value × List (Value × List Int), (x = .tuple #[y.1, .int .i64 (tableV l)] ∧ y.2.map (·.2) = regA l) ∧ Sat w M0 [un (rowsO 3 y.2), .ow y.1 26 1 y.2.length (y.2.map (·.1))] w' := by
  by_cases ht : tableV l = 0
  · have hl : TabOk l (nV l) := table_iff.1 ht
    refine (regrets_ca w lo hi v l (nV l) h hl).mono fun x w' ⟨y, ⟨h1, h2⟩, h3⟩ => ⟨y, ⟨by rw [h1, ht], by rw [h2]; exact (if_pos ht).symm⟩, ?_⟩
    have : y.2.length = l.length := by have := congrArg List.length h2; rw [regV_len, List.length_map] at this; exact this
    rw [this]
    exact h3
  · refine q_of (Sat.nil w M0) Try.func20 rfl (by simp [Try.ntmps20]) ?_
    (refine q_seq (q_region (ql_pure tabOk rfl rfl (ql_pure tabOk rfl rfl (q_nil (q_seq (q_seq (q_region (ql_pure tabOk rfl rfl ?_)))))))))
    refine ql_callv (val := .int .i64 (tableV l)) tabOk rfl rfl rfl rfl (fun w hs => ?_) ?_; exact table_ca w lo hi _ l (RdII.keep h hs.chg0)
    (refine ql_pure tabOk rfl rfl (q_nil (q_seq (q_region (ql_pure tabOk rfl rfl (ql_neqT tabOk rfl rfl rfl (by omega) (q_nil (q_cond_true rfl (q_seq (q_region ?_))))))))); (iterate 3 refine ql_pure tabOk rfl rfl ?_); refine q_nil (q_ret ?_))
    refine q_fin tabOk rfl (by repeat constructor) fun w hs => ?_
    exact ⟨(.slice none 0 0, []), ⟨rfl, by rw [regA, if_neg ht]; rfl⟩, Sat.un_nil (Sat.ownil hs _ _)⟩
set_option maxHeartbeats 2000000 in
theorem rregA_ca (w : World) (lo hi : Nat) (v : Value) (l : List (List Int)) (h : RdII w lo hi v l) (hlen : l.length ≤ maxLen) (hrl : ∀ r ∈ l, r.length ≤ maxLen) : Ca Try.prog 44 [v] w fun x w' => ∃ y : Value × List (Value × List Int), (x = .tuple #[y.1, .int .i64 (tableV l)] ∧ y.2.map (·.2) = regA l) ∧ Sat w M0 [un (rowsO 3 y.2), .ow y.1 26 1 y.2.length (y.2.map (·.1))] w' := by
  obtain ⟨va, vc, rfl, hva⟩ := RdII.outI h
  refine q_of (Sat.nil w M0) Try.func44 rfl (by simp [Try.ntmps44]) ?_
  (refine q_seq (q_region (ql_pure tabOk rfl rfl (ql_pure tabOk rfl rfl (q_nil (q_seq (q_seq (q_region (ql_pure tabOk rfl rfl ?_)))))))))
  refine ql_callv (val := .int .i64 (tableV l)) tabOk rfl rfl rfl rfl (fun w hs => ?_) ?_; exact rtable_ca w lo hi _ l (RdII.keep h hs.chg0) hlen hrl
  by_cases ht : tableV l = 0
  · have hl : TabOk l (nV l) := table_iff.1 ht
    generalize hnn : nV l = n at hl
    have hl1 := hl.l1
    have hl2 := hl.l2
    have hn1 := hl.n1
    have hn2 := hl.n2
    have hrow := fun k (hk : k < l.length) => hl.len _ (List.getElem_mem hk)
    obtain ⟨vb, vo, rfl⟩ := hva (by omega)
    have ea : regA l = regV l n := by rw [regA, if_pos ht, hnn]
    have hRl : (regV l n).length = l.length := regV_len l n
    rw [ht, ea]
    (refine ql_pure tabOk rfl rfl (q_nil (q_seq (q_region (ql_pure tabOk rfl rfl (ql_neqF tabOk rfl rfl rfl (by omega) (q_nil (q_cond_false rfl (q_skip (q_seq (q_region (ql_pure tabOk rfl rfl ?_))))))))))); refine q_nil (q_seq (q_seq (q_region (ql_pure tabOk rfl rfl (q_nil (q_block ?_)))))))
    refine q_conv (H' := [un (rowsO 3 []), .ow (.slice none 0 0) 26 1 0 (([] : List (Value × List Int)).map (·.1))]) (fun w' hs => Sat.un_nil (Sat.ownil hs 26 1)) ?_
    refine q_loop (σ := Value × List (Value × List Int)) (fun y => y.2.length ≤ l.length ∧ y.2.map (·.2) = (regV l n).take y.2.length) (fun y => l.length - y.2.length) (fun y => [(0, .slice (some ⟨vb, vo, none⟩) l.length vc), (5, y.1), (6, .int .i64 y.2.length)])
      (fun y => [un (rowsO 3 y.2), .ow y.1 26 1 y.2.length (y.2.map (·.1))]) (.slice none 0 0, []) ⟨by simp, by simp⟩ ⟨rfl, rfl, rfl, trivial⟩ (Sp.refl _) ?_
    rintro ⟨va, xs⟩ ⟨hk, hxs⟩ K1 hK1
    obtain ⟨k, hkk⟩ : ∃ k, k = xs.length := ⟨_, rfl⟩
    dsimp only at hk hxs hK1 ⊢
    rw [← hkk] at hk hxs ⊢
    (refine q_seq (q_seq (q_region ?_)); (iterate 4 refine ql_pure tabOk rfl rfl ?_); refine q_nil ?_)
    refine q_if rfl (fun hc => ?_) (fun hc => ?_)
    · have hk2 : k < l.length := by omega
      clear hc
      obtain ⟨bk, ok, ck, hrk, hck⟩ := RdII.rowS h k hk2 (hrow k hk2) (by omega)
      obtain ⟨row, hrw, hrm, hrn⟩ := reg_getD (n := n) hk2
      have hge : (regV l n)[k]'(by omega) = row := by rw [← hrw, List.getD_eq_getElem?_getD, List.getElem?_eq_getElem (by omega)]; rfl
      have hg : ∀ s (hs : s < n), gt (regV l n) k s = row[s]'(by omega) := fun s hs => by
        unfold gt
        rw [hrw, List.getD_eq_getElem?_getD, List.getElem?_eq_getElem (by omega)]
        rfl
      (refine q_skip (q_seq (q_block (q_seq (q_region (ql_pure tabOk rfl rfl (q_nil (q_seq (q_seq (q_region (ql_pure tabOk rfl rfl (q_nil ?_))))))))))); refine q_block ?_)
      refine q_conv (H' := [.ow (.slice none 0 0) 3 1 0 (ints (row.take 0)), un (rowsO 3 xs), .ow va 26 1 k (xs.map (·.1))]) (fun w' hs => by rw [List.take_zero]; exact Sat.ownil hs 3 1) ?_
      refine q_loop (σ := Nat × Value) (fun s => s.1 ≤ n) (fun s => n - s.1) (fun s => [(0, .slice (some ⟨vb, vo, none⟩) l.length vc), (5, va), (6, .int .i64 k), (7, s.2), (8, .int .i64 s.1)])
        (fun s => [.ow s.2 3 1 s.1 (ints (row.take s.1)), un (rowsO 3 xs), .ow va 26 1 k (xs.map (·.1))]) (0, .slice none 0 0) (by simp) ⟨rfl, rfl, rfl, rfl, rfl, trivial⟩ (Sp.refl _) ?_
      rintro ⟨s, u⟩ hsn K2 hK2
      dsimp only at hsn hK2 ⊢
      (refine q_seq (q_seq (q_region ?_)); (iterate 3 refine ql_pure tabOk rfl rfl ?_))
      refine ql_index tabOk rfl rfl rfl rfl rfl (by omega) (by omega) ?_
      refine ql_load1 tabOk rfl rfl rfl (fun w hs => hck _ hs.chg0) ?_
      (refine ql_pure tabOk rfl rfl (ql_pure tabOk rfl rfl (q_nil ?_)))
      refine q_if rfl (fun hc => ?_) (fun hc => ?_)
      · have hs2 : s < n := by omega
        clear hc
        (refine q_skip (q_seq (q_block (q_region ?_))); (iterate 4 refine ql_pure tabOk rfl rfl ?_))
        refine ql_callv (val := .int .i64 (gt (regV l n) k s)) tabOk rfl rfl rfl rfl (fun w hs => ?_) ?_; exact regret_ca w lo hi _ l n k s (RdII.keep h hs.chg0) hl hk2 hs2
        rw [hg s hs2]
        skip
        refine ql_mkS 3 [.int .i64 (row[s]'(by omega))] rfl (by kernel_rfl) rfl (fun bn => ?_)
        skip
        refine ql_append (q := 1) (news := [.int .i64 (row[s]'(by omega))]) slI rfl rfl rfl (fun v' => by repeat constructor) (fun w' hs => ⟨_, _, Blk.rdN (hs.blk (b := bn) (by repeat constructor)) rfl⟩) (by simp [oneV]) (by omega) (by omega) (fun u' => ?_)
        (refine ql_pure tabOk rfl rfl (q_nil (q_blk (q_region (ql_pure tabOk rfl rfl (ql_ar tabOk rfl rfl rfl rfl (by omega) (by omega) (ql_pure tabOk rfl rfl (q_nil ?_))))))))
        exact hK2 (s + 1, u') _ _ (by dsimp only; omega) (by dsimp only; omega) ⟨rfl, rfl, rfl, rfl, rfl, trivial⟩ (by dsimp only; rw [show ints (row.take (s + 1)) = ints (row.take s) ++ [.int .i64 (row[s]'(by omega))] from by rw [List.take_succ_eq_append_getElem (by omega), ints, List.map_append]; rfl]; repeat constructor)
      · obtain rfl : s = n := by omega
        clear hc hK2
        rw [show row.take s = row from List.take_of_length_le (by omega)]
        refine q_fact (fun w hs => hs.ownSome (v := u) (by repeat constructor) (by omega)) ?_
        rintro ⟨g, gc, rfl⟩
        (refine q_exit _ rfl (q_region (ql_pure tabOk rfl rfl (ql_pure tabOk rfl rfl ?_))))
        refine ql_mkS 26 [.slice (some ⟨g, 0, none⟩) s gc] rfl (by kernel_rfl) rfl (fun bn => ?_)
        skip
        refine ql_append (q := 1) (news := [.slice (some ⟨g, 0, none⟩) s gc]) slII rfl rfl rfl (fun v' => by repeat constructor) (fun w' hs => ⟨_, _, Blk.rdN (hs.blk (b := bn) (by repeat constructor)) rfl⟩) (by simp [oneV]) (by omega) (by omega) (fun u' => ?_)
        (refine ql_pure tabOk rfl rfl (q_nil (q_blk (q_region (ql_pure tabOk rfl rfl (ql_ar tabOk rfl rfl rfl rfl (by omega) (by omega) (ql_pure tabOk rfl rfl (q_nil ?_))))))))
        have elen : (xs ++ [(Value.slice (some ⟨g, 0, none⟩) s gc, row)]).length = k + 1 := by simp [hkk]
        refine q_conv (H' := [un (rowsO 3 (xs ++ [(Value.slice (some ⟨g, 0, none⟩) s gc, row)])), .ow u' 26 1 (k + 1) (xs.map (·.1) ++ [.slice (some ⟨g, 0, none⟩) s gc])]) (fun w' hs => by
          refine rows_add ?_
          rw [hrn]
          exact hs.sp (by repeat constructor)) ?_
        exact hK1 (u', xs ++ [(Value.slice (some ⟨g, 0, none⟩) s gc, row)]) _ _ ⟨by dsimp only; rw [elen]; omega, by dsimp only; rw [elen, List.map_append, hxs, List.take_succ_eq_append_getElem (by omega), hge]; rfl⟩ (by dsimp only; rw [elen]; omega) ⟨rfl, rfl, lookI rfl (by dsimp only; rw [elen]; omega), trivial⟩ (by dsimp only; rw [elen, List.map_append]; exact Sp.refl _)
    · have hkl : k = l.length := by omega
      rw [show (regV l n).take k = regV l n from List.take_of_length_le (by omega)] at hxs
      (refine q_exit _ rfl (q_seq (q_region ?_)); (iterate 3 refine ql_pure tabOk rfl rfl ?_); refine q_nil (q_ret ?_))
      refine q_fin tabOk rfl (by repeat constructor) fun w hs => ?_
      exact ⟨(va, xs), ⟨rfl, hxs⟩, by rw [← hkk]; exact hs.sp (by repeat constructor)⟩
  · (refine ql_pure tabOk rfl rfl (q_nil (q_seq (q_region (ql_pure tabOk rfl rfl (ql_neqT tabOk rfl rfl rfl (by omega) (q_nil (q_cond_true rfl (q_seq (q_region ?_))))))))); (iterate 3 refine ql_pure tabOk rfl rfl ?_); refine q_nil (q_ret ?_))
    refine q_fin tabOk rfl (by repeat constructor) fun w hs => ?_
    exact ⟨(.slice none 0 0, []), ⟨rfl, by rw [regA, if_neg ht]; rfl⟩, Sat.un_nil (Sat.ownil hs _ _)⟩
end Go.Proofs.Ytcmpdmobmbbplaa

/- Walks of the reference: what breaks show. -/
namespace Go.Proofs.Ytcmpdmobmbbplaa
open Go Go.Eng

theorem brk_drop (rs : List (List Int)) (most : Int) (br : List Int) {i : Nat} (h : i + 1 < br.length) : brkF rs most (br.drop i) = if br.getD (i + 1) 0 ≤ br.getD i 0 then false else if rs.any (fun row => allG row most (br.getD i 0).toNat (br.getD (i + 1) 0).toNat) then false else brkF rs most (br.drop (i + 1)) := by
  rw [List.drop_eq_getElem_cons (show i < br.length by omega), List.drop_eq_getElem_cons h, getD_at (l := br) (i := i) (by omega), getD_at h]
  (conv => lhs; unfold brkF) <;> rfl
theorem brk_last (rs : List (List Int)) (most : Int) (br : List Int) {i : Nat} (h : br.length ≤ i + 1) : brkF rs most (br.drop i) = true := by
  by_cases e : i < br.length
  · rw [List.drop_eq_getElem_cons e, List.drop_of_length_le h]
    unfold brkF
    rfl
  · rw [List.drop_of_length_le (by omega)]
    unfold brkF
    rfl
theorem any_take {α : Type} (p : α → Bool) (l : List α) {i : Nat} (hi : i < l.length) (h : (l.take i).any p = false) (hx : p l[i] = false) : (l.take (i + 1)).any p = false := by
  rw [List.take_succ_eq_append_getElem hi, List.any_append, h]
  simp [hx]
theorem any_stop {α : Type} (p : α → Bool) (l : List α) {i : Nat} (hi : i < l.length) (hx : p l[i] = true) : l.any p = true := List.any_eq_true.2 ⟨_, List.getElem_mem hi, hx⟩
set_option maxHeartbeats 4000000 in
theorem rbreaks_ca (w : World) (lo hi lo2 hi2 : Nat) (v u : Value) (l : List (List Int)) (most : Int) (br : List Int) (h : RdII w lo hi v l) (hlen : l.length ≤ maxLen) (hrl : ∀ r ∈ l, r.length ≤ maxLen) (hu : RdI w lo2 hi2 u br) (hbl : br.length ≤ 1000000) : Ca Try.prog 51 [v, .int .i64 most, u] w fun x w' => x = .tuple #[.bool (breaksV l most br).1, .int .i64 (breaksV l most br).2] ∧ Chg [] w w' := by
  obtain ⟨va, vc, rfl, hva⟩ := RdII.outI h
  obtain ⟨ua, uc, rfl, hsu⟩ := RdI.outI hu
  refine q_of (Sat.nil w M0) Try.func51 rfl (by simp [Try.ntmps51]) ?_
  (refine q_seq (q_region (ql_pure tabOk rfl rfl (ql_pure tabOk rfl rfl (q_nil (q_seq (q_seq (q_region (ql_pure tabOk rfl rfl (ql_pure tabOk rfl rfl ?_))))))))))
  refine ql_callv (val := .int .i64 (limitV l most)) tabOk rfl rfl rfl rfl (fun w hs => ?_) ?_; exact rlimit_ca w lo hi _ l most (RdII.keep h hs.chg0) hlen hrl
  by_cases h0 : limitV l most = 0
  · obtain ⟨hl, hm0, hm1⟩ := limit_iff.1 h0
    have hun := brk_un (br := br) h0
    have hye := brk_yes (br := br) h0
    generalize hnn : nV l = n at hl hun hye
    have hl1 := hl.l1
    have hl2 := hl.l2
    have hn1 := hl.n1
    have hn2 := hl.n2
    have hrow := fun k (hk : k < l.length) => hl.len _ (List.getElem_mem hk)
    obtain ⟨vb, vo, rfl⟩ := hva (by omega)
    obtain ⟨b0, o0, c0, hr0, hc0⟩ := RdII.rowS h 0 (by omega) (hrow 0 (by omega)) (by omega)
    rw [h0]
    (refine ql_pure tabOk rfl rfl (q_nil (q_seq (q_region (ql_pure tabOk rfl rfl (ql_neqF tabOk rfl rfl rfl (by omega) (q_nil (q_cond_false rfl (q_skip (q_seq (q_seq (q_region ?_))))))))))); refine ql_pure tabOk rfl rfl (q_nil (q_block ?_)))
    refine q_loop (σ := Nat) (fun i => i ≤ br.length ∧ (br.take i).all (fun s => inB s 0 ((n : Int) - 1)) = true) (fun i => br.length - i) (fun i => [(0, .slice (some ⟨vb, vo, none⟩) l.length vc), (1, .int .i64 most), (2, .slice ua br.length uc), (9, .int .i64 i)]) (fun _ => []) 0 ⟨by omega, by simp⟩ ⟨rfl, rfl, rfl, rfl, trivial⟩ (by repeat constructor) ?_
    rintro i ⟨hi1, hall⟩ K hK
    (refine q_seq (q_seq (q_region ?_)); (iterate 4 refine ql_pure tabOk rfl rfl ?_); refine q_nil ?_)
    refine q_if rfl (fun hc => ?_) (fun hc => ?_)
    · have hi2' : i < br.length := by omega
      clear hc
      obtain ⟨ub, uo, hab⟩ := hsu (by omega)
      cases hab
      (refine q_skip (q_seq (q_block (q_seq ?_))))
      refine q_draw _ [] (Sp.refl _) (by kernel_rfl) (by kernel_rfl) ?_
      (refine qf_pure tabOk rfl rfl rfl (qf_pure tabOk rfl rfl rfl ?_))
      (refine qf_index tabOk rfl rfl rfl rfl rfl (by omega) (by omega) ?_; refine qf_load1 tabOk rfl rfl rfl (fun w hs => RdI.at (RdE.keep hu hs.chg0) i hi2') ?_)
      (refine qf_pure tabOk rfl rfl rfl ?_)
      refine qf_index tabOk rfl rfl rfl rfl rfl (by omega) (by omega) ?_
      refine qf_load1 tabOk rfl rfl rfl (fun w hs => hc0 _ hs.chg0) ?_
      (refine qf_pure tabOk rfl rfl rfl (qf_ar tabOk rfl rfl rfl rfl (by omega) (by omega) ?_))
      refine qf_callv (val := .bool (!(inB br[i] 0 ((n : Int) - 1)))) tabOk rfl rfl rfl rfl (fun w hs => ?_) ?_; exact out_ca br[i] 0 ((n : Int) - 1) w
      cases hx : inB br[i] 0 ((n : Int) - 1) with
      | false =>
        (refine qf_nil (q_cond_true rfl (q_seq (q_region (ql_pure tabOk rfl rfl (ql_pure tabOk rfl rfl (q_nil (q_ret ?_))))))))
        refine q_fin tabOk rfl (by repeat constructor) fun w hs => ?_
        exact ⟨by rw [hun (all_stop _ _ hi2' hx)]; rfl, hs.chg0⟩
      | true =>
        (refine qf_nil (q_cond_false rfl (q_skip (q_blk (q_region (ql_pure tabOk rfl rfl (ql_ar tabOk rfl rfl rfl rfl (by omega) (by omega) (ql_pure tabOk rfl rfl (q_nil ?_)))))))))
        exact hK (i + 1) _ _ ⟨by omega, all_take _ _ hi2' hall hx⟩ (by omega) ⟨rfl, rfl, rfl, rfl, trivial⟩ (Sp.refl _)
    · obtain rfl : i = br.length := by omega
      rw [List.take_length] at hall
      clear hc hK hi1
      have hbr : ∀ j (hj : j < br.length), 0 ≤ br.getD j 0 ∧ br.getD j 0 < n := fun j hj => by
        have := inB_iff.1 (List.all_eq_true.1 hall _ (List.getElem_mem hj))
        rw [← getD_at hj]
        omega
      rw [hye hall]
      (refine q_exit _ rfl (q_seq (q_seq (q_region (ql_pure tabOk rfl rfl (q_nil (q_block ?_)))))))
      refine q_loop (σ := Nat) (fun i => (i + 1 ≤ br.length ∨ i = 0) ∧ brkF (regV l n) most (br.drop i) = brkF (regV l n) most br) (fun i => br.length - i) (fun i => [(0, .slice (some ⟨vb, vo, none⟩) l.length vc), (1, .int .i64 most), (2, .slice ua br.length uc), (10, .int .i64 (i + 1 : Nat))]) (fun _ => []) 0 ⟨by omega, rfl⟩ ⟨rfl, rfl, rfl, rfl, trivial⟩ (Sp.refl _) ?_
      rintro i ⟨hi1, hdr⟩ K hK
      (refine q_seq (q_seq (q_region ?_)); (iterate 4 refine ql_pure tabOk rfl rfl ?_); refine q_nil ?_)
      refine q_if rfl (fun hc => ?_) (fun hc => ?_)
      · have hi2' : i + 1 < br.length := by omega
        have hi3 : i < br.length := by omega
        clear hc
        obtain ⟨ub, uo, hab⟩ := hsu (by omega)
        cases hab
        have hb1 := hbr i hi3
        have hb2 := hbr (i + 1) hi2'
        rw [brk_drop _ _ _ hi2'] at hdr
        (refine q_skip (q_seq (q_block (q_seq (q_seq ?_)))))
        refine q_draw _ [] (Sp.refl _) (by kernel_rfl) (by kernel_rfl) ?_
        (refine qf_pure tabOk rfl rfl rfl (qf_pure tabOk rfl rfl rfl ?_))
        (refine qf_index tabOk rfl rfl rfl rfl rfl (by omega) (by omega) ?_; refine qf_load1 tabOk rfl rfl rfl (fun w hs => RdI.at (RdE.keep hu hs.chg0) (i + 1) hi2') ?_)
        rw [getD_at hi2']
        (refine qf_pure tabOk rfl rfl rfl (qf_pure tabOk rfl rfl rfl (qf_ar tabOk rfl rfl rfl rfl (by omega) (by omega) ?_)))
        rw [show ((i + 1 : Nat) : Int) - 1 = (i : Int) from by omega]
        (refine qf_index tabOk rfl rfl rfl rfl rfl (by omega) (by omega) ?_; refine qf_load1 tabOk rfl rfl rfl (fun w hs => RdI.at (RdE.keep hu hs.chg0) i hi3) ?_)
        rw [getD_at hi3]
        by_cases hle : br.getD (i + 1) 0 ≤ br.getD i 0
        · rw [if_pos hle] at hdr
          (refine qf_leqT tabOk rfl rfl rfl (by omega) (qf_nil (q_cond_true rfl (q_seq (q_region (ql_pure tabOk rfl rfl (ql_pure tabOk rfl rfl (q_nil (q_ret ?_)))))))))
          refine q_fin tabOk rfl (by repeat constructor) fun w hs => ?_
          exact ⟨by rw [← hdr]; rfl, hs.chg0⟩
        · rw [if_neg hle] at hdr
          obtain ⟨p, hp⟩ := Int.eq_ofNat_of_zero_le hb1.1
          obtain ⟨q, hq⟩ := Int.eq_ofNat_of_zero_le hb2.1
          rw [hp, hq, Int.toNat_natCast, Int.toNat_natCast] at hdr
          rw [hp, hq] at hle
          rw [hp] at hb1
          rw [hq] at hb2
          (refine qf_leqF tabOk rfl rfl rfl (by omega) (qf_nil (q_cond_false rfl (q_skip (q_seq (q_region (ql_pure tabOk rfl rfl (q_nil (q_block ?_)))))))))
          refine q_loop (σ := Nat) (fun k => k ≤ l.length ∧ ((regV l n).take k).any (fun row => allG row most p q) = false) (fun k => l.length - k) (fun k => [(0, .slice (some ⟨vb, vo, none⟩) l.length vc), (1, .int .i64 most), (2, .slice (some ⟨ub, uo, none⟩) br.length uc), (10, .int .i64 (i + 1 : Nat)), (11, .int .i64 k)]) (fun _ => []) 0 ⟨by omega, by simp⟩ ⟨rfl, rfl, rfl, rfl, rfl, trivial⟩ (by repeat constructor) ?_
          rintro k ⟨hk, hany⟩ K2 hK2
          (refine q_seq (q_seq (q_region ?_)); (iterate 4 refine ql_pure tabOk rfl rfl ?_); refine q_nil ?_)
          refine q_if rfl (fun hc => ?_) (fun hc => ?_)
          · have hk2 : k < l.length := by omega
            clear hc
            have hk3 : k < (regV l n).length := by rw [regV_len]; exact hk2
            have hge : (regV l n).getD k [] = (regV l n)[k] := by rw [List.getD_eq_getElem?_getD, List.getElem?_eq_getElem hk3]; rfl
            (refine q_skip (q_seq (q_block (q_seq ?_))))
            refine q_draw _ [] (Sp.refl _) (by kernel_rfl) (by kernel_rfl) ?_
            ((iterate 4 refine qf_pure tabOk rfl rfl rfl ?_); refine qf_ar tabOk rfl rfl rfl rfl (by omega) (by omega) ?_)
            rw [show ((i + 1 : Nat) : Int) - 1 = (i : Int) from by omega]
            (refine qf_index tabOk rfl rfl rfl rfl rfl (by omega) (by omega) ?_; refine qf_load1 tabOk rfl rfl rfl (fun w hs => RdI.at (RdE.keep hu hs.chg0) i hi3) ?_)
            rw [getD_at hi3, hp]
            (refine qf_pure tabOk rfl rfl rfl (qf_pure tabOk rfl rfl rfl ?_))
            (refine qf_index tabOk rfl rfl rfl rfl rfl (by omega) (by omega) ?_; refine qf_load1 tabOk rfl rfl rfl (fun w hs => RdI.at (RdE.keep hu hs.chg0) (i + 1) hi2') ?_)
            rw [getD_at hi2', hq]
            (refine qf_pure tabOk rfl rfl rfl ?_)
            refine qf_callv (val := .bool (allG ((regV l n)[k]) most p q)) tabOk rfl rfl rfl rfl (fun w hs => ?_) ?_; exact by have := rgood_ca w lo hi _ l n k p q most (RdII.keep h hs.chg0) hl hk2 (by omega) (by omega); rw [hge] at this; exact this
            cases hx : allG ((regV l n)[k]) most p q with
            | true =>
              rw [any_stop (fun row => allG row most p q) _ hk3 hx] at hdr
              (refine qf_nil (q_cond_true rfl (q_seq (q_region (ql_pure tabOk rfl rfl (ql_pure tabOk rfl rfl (q_nil (q_ret ?_))))))))
              refine q_fin tabOk rfl (by repeat constructor) fun w hs => ?_
              exact ⟨by rw [← hdr]; rfl, hs.chg0⟩
            | false =>
              (refine qf_nil (q_cond_false rfl (q_skip (q_blk (q_region (ql_pure tabOk rfl rfl (ql_ar tabOk rfl rfl rfl rfl (by omega) (by omega) (ql_pure tabOk rfl rfl (q_nil ?_)))))))))
              exact hK2 (k + 1) _ _ ⟨by omega, any_take (fun row => allG row most p q) _ hk3 hany hx⟩ (by omega) ⟨rfl, rfl, rfl, rfl, rfl, trivial⟩ (Sp.refl _)
          · have hkl : k = l.length := by omega
            rw [List.take_of_length_le (by rw [regV_len]; omega)] at hany
            rw [hany] at hdr
            (refine q_exit _ rfl (q_blk (q_region (ql_pure tabOk rfl rfl (ql_ar tabOk rfl rfl rfl rfl (by omega) (by omega) (ql_pure tabOk rfl rfl (q_nil ?_)))))))
            exact hK (i + 1) _ _ ⟨by omega, hdr⟩ (by omega) ⟨rfl, rfl, rfl, rfl, trivial⟩ (Sp.refl _)
      · rw [brk_last _ _ _ (by omega)] at hdr
        rw [← hdr]
        (refine q_exit _ rfl (q_seq (q_region ?_)); (iterate 5 refine ql_pure tabOk rfl rfl ?_); refine q_nil (q_ret ?_))
        refine q_fin tabOk rfl (by repeat constructor) fun w hs => ?_
        refine ⟨?_, hs.chg0⟩
        cases br with
        | nil => rfl
        | cons x br => simp [retV]
  · (refine ql_pure tabOk rfl rfl (q_nil (q_seq (q_region (ql_pure tabOk rfl rfl (ql_neqT tabOk rfl rfl rfl (by omega) (q_nil (q_cond_true rfl (q_seq (q_region ?_))))))))); (iterate 3 refine ql_pure tabOk rfl rfl ?_); refine q_nil (q_ret ?_))
    refine q_fin tabOk rfl (by repeat constructor) fun w hs => ?_
    exact ⟨by rw [brk_no h0]; rfl, hs.chg0⟩
end Go.Proofs.Ytcmpdmobmbbplaa

/- The plain law of bags: sets of waxes as numbers, and which one comes first. -/
namespace Go.Proofs.Ytcmpdmobmbbplaa
open Go Go.Eng
/-- One list is before another one of the same length. -/
def lexB : List Nat → List Nat → Bool
  | x :: a, y :: b => if x = y then lexB a b else decide (x < y)
  | _, _ => false
def elB (a b : List Nat) : Bool := if a.length = b.length then lexB a b else decide (a.length < b.length)
theorem lexB_cons (x y : Nat) (a b : List Nat) : lexB (x :: a) (y :: b) = if x = y then lexB a b else decide (x < y) := by
  (conv => lhs; unfold lexB) <;> rfl
theorem lexB_refl : ∀ a : List Nat, lexB a a = false
  | [] => by unfold lexB; rfl
  | x :: a => by rw [lexB_cons, if_pos rfl]; exact lexB_refl a
theorem lexB_app (a b : List Nat) : ∀ c : List Nat, lexB (c ++ a) (c ++ b) = lexB a b
  | [] => rfl
  | x :: c => by rw [List.cons_append, List.cons_append, lexB_cons, if_pos rfl]; exact lexB_app a b c
theorem lexB_eq : ∀ (a b : List Nat), a.length = b.length → lexB a b = false → lexB b a = false → a = b
  | [], [], _, _, _ => rfl
  | x :: a, y :: b, hl, h1, h2 => by
    rw [lexB_cons] at h1 h2
    by_cases e : x = y
    · subst e
      rw [if_pos rfl] at h1 h2
      rw [lexB_eq a b (by simpa using hl) h1 h2]
    · rw [if_neg e] at h1
      rw [if_neg (Ne.symm e)] at h2
      simp only [decide_eq_false_iff_not] at h1 h2
      omega
theorem lexB_trans : ∀ (a b c : List Nat), a.length = b.length → b.length = c.length → lexB a b = true → lexB b c = true → lexB a c = true
  | [], b, c, _, _, h1, _ => by unfold lexB at h1; cases h1
  | x :: a, [], c, hl, _, _, _ => by simp at hl
  | x :: a, y :: b, [], _, hl, _, _ => by simp at hl
  | x :: a, y :: b, z :: c, h1, h2, h3, h4 => by
    rw [lexB_cons] at h3 h4 ⊢
    by_cases e1 : x = y
    · rw [if_pos e1] at h3
      by_cases e2 : y = z
      · rw [if_pos e2] at h4
        rw [if_pos (e1.trans e2)]
        exact lexB_trans a b c (by simpa using h1) (by simpa using h2) h3 h4
      · rw [if_neg e2] at h4
        rw [if_neg (by omega), e1]
        exact h4
    · rw [if_neg e1] at h3
      by_cases e2 : y = z
      · rw [if_neg (by omega), ← e2]
        exact h3
      · rw [if_neg e2] at h4
        simp only [decide_eq_true_eq] at h3 h4
        rw [if_neg (by omega)]
        simp only [decide_eq_true_eq]
        omega
theorem elB_refl (a : List Nat) : elB a a = false := by unfold elB; rw [if_pos rfl]; exact lexB_refl a
theorem elB_trans {a b c : List Nat} (h1 : elB a b = true) (h2 : elB b c = true) : elB a c = true := by
  unfold elB at *
  by_cases e1 : a.length = b.length
  · rw [if_pos e1] at h1
    by_cases e2 : b.length = c.length
    · rw [if_pos e2] at h2
      rw [if_pos (e1.trans e2)]
      exact lexB_trans a b c e1 e2 h1 h2
    · rw [if_neg e2] at h2
      rw [if_neg (by omega), e1]
      exact h2
  · rw [if_neg e1] at h1
    simp only [decide_eq_true_eq] at h1
    by_cases e2 : b.length = c.length
    · rw [if_neg (by omega)]
      simp only [decide_eq_true_eq]
      omega
    · rw [if_neg e2] at h2
      simp only [decide_eq_true_eq] at h2
      rw [if_neg (by omega)]
      simp only [decide_eq_true_eq]
      omega
theorem elB_eq {a b : List Nat} (h1 : elB a b = false) (h2 : elB b a = false) : a = b := by
  unfold elB at *
  by_cases e : a.length = b.length
  · rw [if_pos e] at h1
    rw [if_pos e.symm] at h2
    exact lexB_eq a b e h1 h2
  · rw [if_neg e] at h1
    rw [if_neg (Ne.symm e)] at h2
    simp only [decide_eq_false_iff_not] at h1 h2
    omega
theorem choose_pre {cov : List Nat → Bool} {m : Nat} : ∀ k ch out, chooseF cov m k ch = some out → ∃ o, out = ch ++ o
  | 0, ch, out, h => by
    unfold chooseF at h
    split at h
    · cases h; exact ⟨[], by simp⟩
    · cases h
  | k + 1, ch, out, h => by
    unfold chooseF at h
    obtain ⟨w, h1, h2, h3, _⟩ := try_some _ _ h
    obtain ⟨o, rfl⟩ := choose_pre k _ out h3
    exact ⟨w :: o, by simp⟩
theorem choose_lex {cov : List Nat → Bool} {m : Nat} : ∀ k ch out rest, chooseF cov m k ch = some out → rest.length = k → Inc m (ch ++ rest) → cov (ch ++ rest) = true → lexB (ch ++ rest) out = false
  | 0, ch, out, rest, h, hk, hi, hc => by
    have e : rest = [] := List.length_eq_zero_iff.1 hk
    subst e
    rw [List.append_nil] at hc ⊢
    unfold chooseF at h
    rw [if_pos hc] at h
    cases h
    exact lexB_refl _
  | k + 1, ch, out, [], h, hk, hi, hc => by simp at hk
  | k + 1, ch, out, w :: rest, h, hk, hi, hc => by
    unfold chooseF at h
    obtain ⟨i, h1, h2, h3, h4⟩ := try_some _ _ h
    have hw : fstB ch ≤ w := by
      rcases List.eq_nil_or_concat ch with rfl | ⟨c, z, rfl⟩
      · exact Nat.zero_le _
      · rw [List.concat_eq_append] at hi ⊢
        rw [fst_snoc]
        have := (List.pairwise_append.1 hi.1).2.2 z (by simp) w (by simp)
        omega
    have hne := choose_all (cov := cov) (m := m) k (ch ++ [w]) rest (by simpa using hk) (by simpa using hi) (by simpa using hc)
    rcases Nat.lt_trichotomy w i with e | e | e
    · exact absurd (h4 w hw e) hne
    · subst e
      have := choose_lex k (ch ++ [w]) out rest h3 (by simpa using hk) (by simpa using hi) (by simpa using hc)
      simpa using this
    · obtain ⟨o, rfl⟩ := choose_pre k _ out h3
      rw [List.append_assoc, lexB_app, List.singleton_append, lexB_cons, if_neg (by omega)]
      simp only [decide_eq_false_iff_not]
      omega
theorem bag_first {cov : List Nat → Bool} {m : Nat} {out : List Nat} (h : bagF cov m = some out) : ∀ o, Inc m o → cov o = true → o ≠ [] → elB o out = false := fun o ho hc hne => by
  have h1 := (bag_sound h).2.2.2 o ho hc hne
  unfold elB
  by_cases e : o.length = out.length
  · rw [if_pos e]
    obtain ⟨n, _, _, h3, _⟩ := try_some _ _ h
    have h6 := (choose_sound _ _ _ ⟨List.Pairwise.nil, fun x hx => by cases hx⟩ h3).2.1
    rw [List.length_nil] at h6
    exact choose_lex _ [] out o h3 (by omega) (by simpa using ho) (by simpa using hc)
  · rw [if_neg e]
    simp only [decide_eq_false_iff_not]
    omega
/-- The waxes of a set. -/
def bitsN (set m : Nat) : List Nat := (List.range m).filter fun i => set.testBit i
theorem bits_succ (set k : Nat) : bitsN set (k + 1) = bitsN set k ++ if set / 2 ^ k % 2 = 1 then [k] else [] := by
  unfold bitsN
  rw [List.range_succ, List.filter_append]
  congr 1
  rw [List.filter_cons, List.filter_nil, Nat.testBit_eq_decide_div_mod_eq]
  by_cases h : set / 2 ^ k % 2 = 1
  · rw [if_pos h, if_pos (decide_eq_true h)]
  · rw [if_neg h, if_neg (by simpa using h)]
theorem bits_inc (set m : Nat) : Inc m (bitsN set m) := filter_inc m _
theorem inc_ext : ∀ {a b : List Nat}, a.Pairwise (· < ·) → b.Pairwise (· < ·) → (∀ x, x ∈ a ↔ x ∈ b) → a = b
  | [], [], _, _, _ => rfl
  | [], y :: b, _, _, h => by have := (h y).2 (by simp); cases this
  | x :: a, [], _, _, h => by have := (h x).1 (by simp); cases this
  | x :: a, y :: b, ha, hb, h => by
    have ha' := List.pairwise_cons.1 ha
    have hb' := List.pairwise_cons.1 hb
    have e : x = y := by
      have h1 := (h x).1 List.mem_cons_self
      have h2 := (h y).2 List.mem_cons_self
      rcases List.mem_cons.1 h1 with h1 | h1
      · exact h1
      · rcases List.mem_cons.1 h2 with h2 | h2
        · exact h2.symm
        · have := ha'.1 y h2
          have := hb'.1 x h1
          omega
    subst e
    congr 1
    refine inc_ext ha'.2 hb'.2 fun z => ⟨fun hz => ?_, fun hz => ?_⟩
    · have h1 := ha'.1 z hz
      rcases List.mem_cons.1 ((h z).1 (List.mem_cons_of_mem _ hz)) with h2 | h2
      · omega
      · exact h2
    · have h1 := hb'.1 z hz
      rcases List.mem_cons.1 ((h z).2 (List.mem_cons_of_mem _ hz)) with h2 | h2
      · omega
      · exact h2
theorem bits_of {m : Nat} {o : List Nat} (h : Inc m o) : ∃ t, t < 2 ^ m ∧ bitsN t m = o := by
  refine ⟨mkB (fun i => o.contains i) m, mkB_lt _ _, inc_ext (bits_inc _ _).1 h.1 fun x => ?_⟩
  unfold bitsN
  rw [List.mem_filter, List.mem_range, mkB_bit]
  constructor
  · rintro ⟨h1, h2⟩
    rw [Bool.and_eq_true] at h2
    simpa using h2.2
  · intro hx
    have := h.2 x hx
    exact ⟨this, by simp [this, hx]⟩
theorem bits_ne {set m : Nat} (h1 : 1 ≤ set) (h2 : set < 2 ^ m) : bitsN set m ≠ [] := by
  intro e
  obtain ⟨i, hi⟩ := Nat.exists_testBit_of_ne_zero (show set ≠ 0 by omega)
  have him : i < m := by
    rcases Nat.lt_or_ge i m with h | h
    · exact h
    · rw [Nat.testBit_lt_two_pow (Nat.lt_of_lt_of_le h2 (Nat.pow_le_pow_right (by omega) h))] at hi
      cases hi
  have : i ∈ bitsN set m := List.mem_filter.2 ⟨List.mem_range.2 him, hi⟩
  rw [e] at this
  cases this
theorem bits_nil (m : Nat) : bitsN 0 m = [] := List.filter_eq_nil_iff.2 fun x _ => by simp
/-- The best bag so far. -/
structure BgI (cov : List Nat → Bool) (m set : Nat) (best : Option (List Nat)) : Prop where
  no : best = none → ∀ t, 1 ≤ t → t < set → cov (bitsN t m) = false
  ye : ∀ o, best = some o → (∃ t, 1 ≤ t ∧ t < set ∧ o = bitsN t m) ∧ cov o = true ∧ ∀ t, 1 ≤ t → t < set → cov (bitsN t m) = true → elB (bitsN t m) o = false
theorem BgI.start (cov : List Nat → Bool) (m : Nat) : BgI cov m 1 none := ⟨fun _ t h1 h2 => by omega, fun o h => by cases h⟩
theorem BgI.take {cov : List Nat → Bool} {m set : Nat} {best : Option (List Nat)} (h : BgI cov m set best) (h1 : 1 ≤ set) (hc : cov (bitsN set m) = true) (hb : ∀ o, best = some o → elB (bitsN set m) o = true) : BgI cov m (set + 1) (some (bitsN set m)) := by
  refine ⟨fun e => (by cases e), fun o ho => ?_⟩
  cases ho
  refine ⟨⟨set, h1, by omega, rfl⟩, hc, fun t h2 h3 h4 => ?_⟩
  by_cases e : t = set
  · rw [e]; exact elB_refl _
  · cases best with
    | none => rw [h.no rfl t h2 (by omega)] at h4; cases h4
    | some o =>
      have h5 := (h.ye o rfl).2.2 t h2 (by omega) h4
      cases hx : elB (bitsN t m) (bitsN set m) with
      | false => rfl
      | true => rw [elB_trans hx (hb o rfl)] at h5; cases h5
theorem BgI.skip {cov : List Nat → Bool} {m set : Nat} {best : Option (List Nat)} (h : BgI cov m set best) (hc : cov (bitsN set m) = false ∨ ∃ o, best = some o ∧ elB (bitsN set m) o = false) : BgI cov m (set + 1) best := by
  refine ⟨fun e t h1 h2 => ?_, fun o ho => ?_⟩
  · by_cases e2 : t = set
    · rcases hc with hc | ⟨o, ho, _⟩
      · rw [e2]; exact hc
      · rw [ho] at e; cases e
    · exact h.no e t h1 (by omega)
  · obtain ⟨⟨t, h1, h2, h3⟩, h4, h5⟩ := h.ye o ho
    refine ⟨⟨t, h1, by omega, h3⟩, h4, fun t h6 h7 h8 => ?_⟩
    by_cases e2 : t = set
    · rcases hc with hc | ⟨o', ho', h9⟩
      · rw [e2, hc] at h8; cases h8
      · rw [ho] at ho'
        cases ho'
        rw [e2]; exact h9
    · exact h5 t h6 (by omega) h8
theorem BgI.end {cov : List Nat → Bool} {m : Nat} {best : Option (List Nat)} {out : List Nat} (h : BgI cov m (2 ^ m) best) (hb : bagF cov m = some out) : best = some out := by
  obtain ⟨h1, h2, h3, _⟩ := bag_sound hb
  obtain ⟨t, ht, he⟩ := bits_of h3
  have h0 : 1 ≤ t := by
    rcases Nat.eq_zero_or_pos t with e | e
    · rw [e, bits_nil] at he
      rw [← he] at h2
      simp at h2
    · exact e
  cases best with
  | none =>
    have := h.no rfl t h0 ht
    rw [he, h1] at this
    cases this
  | some o =>
    obtain ⟨⟨t', h4, h5, h6⟩, h7, h8⟩ := h.ye o rfl
    have h9 := h8 t h0 ht (by rw [he]; exact h1)
    rw [he] at h9
    have h10 := bag_first hb o (by rw [h6]; exact bits_inc _ _) h7 (by rw [h6]; exact bits_ne h4 h5)
    rw [elB_eq h9 h10]
end Go.Proofs.Ytcmpdmobmbbplaa

/- Walks of the reference: which list comes first; the bag. -/
namespace Go.Proofs.Ytcmpdmobmbbplaa
open Go Go.Eng

theorem chI_get {l : List Nat} {i : Nat} (h : i < (chI l).length) : (chI l)[i] = ((l[i]'(by rw [chI_len] at h; exact h) : Nat) : Int) := by simp [chI]
theorem lex_drop {a b : List Nat} {i : Nat} (ha : i < a.length) (hb : i < b.length) : lexB (a.drop i) (b.drop i) = if a[i] = b[i] then lexB (a.drop (i + 1)) (b.drop (i + 1)) else decide (a[i] < b[i]) := by
  rw [List.drop_eq_getElem_cons ha, List.drop_eq_getElem_cons hb, lexB_cons]
theorem earlier_ca (w : World) (lo hi lo2 hi2 : Nat) (v u : Value) (a b : List Nat) (h : RdI w lo hi v (chI a)) (h2 : RdI w lo2 hi2 u (chI b)) (hla : a.length ≤ 1000) (hlb : b.length ≤ 1000) : Ca Try.prog 106 [v, u] w fun x w' => x = .bool (elB a b) ∧ Chg [] w w' := by
  obtain ⟨va, vc, rfl, hva⟩ := RdI.outI h
  obtain ⟨ua, uc, rfl, hua⟩ := RdI.outI h2
  rw [chI_len] at hva hua
  refine q_of (Sat.nil w M0) Try.func106 rfl (by simp [Try.ntmps106]) ?_
  rw [chI_len, chI_len]
  by_cases e : a.length = b.length
  · have he : elB a b = lexB a b := if_pos e
    rw [he]
    (refine q_seq (q_region (ql_pure tabOk rfl rfl (q_nil (q_seq (q_seq (q_region ?_)))))); (iterate 4 refine ql_pure tabOk rfl rfl ?_); refine ql_neqF tabOk rfl rfl rfl (by omega) (q_nil (q_cond_false rfl (q_skip (q_seq (q_seq (q_region (ql_pure tabOk rfl rfl (q_nil (q_block ?_))))))))))
    refine q_loop (σ := Nat) (fun i => i ≤ a.length ∧ lexB (a.drop i) (b.drop i) = lexB a b) (fun i => a.length - i) (fun i => [(0, .slice va a.length vc), (1, .slice ua b.length uc), (5, .int .i64 i)]) (fun _ => []) 0 ⟨by omega, rfl⟩ ⟨rfl, rfl, rfl, trivial⟩ (Sp.refl _) ?_
    rintro i ⟨hi1, hd⟩ K hK
    (refine q_seq (q_seq (q_region ?_)); (iterate 4 refine ql_pure tabOk rfl rfl ?_); refine q_nil ?_)
    refine q_if rfl (fun hc => ?_) (fun hc => ?_)
    · have hi2 : i < a.length := by omega
      have hi3 : i < b.length := by omega
      have hj2 : i < (chI a).length := by rw [chI_len]; exact hi2
      have hj3 : i < (chI b).length := by rw [chI_len]; exact hi3
      clear hc
      obtain ⟨vb, vo, hv1⟩ := hva (by omega)
      obtain ⟨ub, uo, hu1⟩ := hua (by omega)
      cases hv1
      cases hu1
      rw [lex_drop hi2 hi3] at hd
      have hga := chI_get hj2
      have hgb := chI_get hj3
      (refine q_skip (q_seq (q_block (q_seq ?_))))
      refine q_draw _ [] (Sp.refl _) (by kernel_rfl) (by kernel_rfl) ?_
      (refine qf_pure tabOk rfl rfl rfl (qf_pure tabOk rfl rfl rfl ?_))
      (refine qf_index tabOk rfl rfl rfl rfl rfl (by omega) (by omega) ?_; refine qf_load1 tabOk rfl rfl rfl (fun w hs => RdI.at (RdE.keep h hs.chg0) i hj2) ?_)
      (refine qf_pure tabOk rfl rfl rfl (qf_pure tabOk rfl rfl rfl ?_))
      (refine qf_index tabOk rfl rfl rfl rfl rfl (by omega) (by omega) ?_; refine qf_load1 tabOk rfl rfl rfl (fun w hs => RdI.at (RdE.keep h2 hs.chg0) i hj3) ?_)
      rw [hga, hgb]
      by_cases e2 : a[i] = b[i]
      · rw [if_pos e2] at hd
        (refine qf_neqF tabOk rfl rfl rfl (by omega) (qf_nil (q_cond_false rfl (q_skip (q_blk (q_region (ql_pure tabOk rfl rfl (ql_ar tabOk rfl rfl rfl rfl (by omega) (by omega) (ql_pure tabOk rfl rfl (q_nil ?_))))))))))
        exact hK (i + 1) _ _ ⟨by omega, hd⟩ (by omega) ⟨rfl, rfl, rfl, trivial⟩ (Sp.refl _)
      · rw [if_neg e2] at hd
        (refine qf_neqT tabOk rfl rfl rfl (by omega) (qf_nil (q_cond_true rfl (q_seq ?_))))
        refine q_draw _ [] (Sp.refl _) (by kernel_rfl) (by kernel_rfl) ?_
        (refine qf_pure tabOk rfl rfl rfl (qf_pure tabOk rfl rfl rfl ?_))
        (refine qf_index tabOk rfl rfl rfl rfl rfl (by omega) (by omega) ?_; refine qf_load1 tabOk rfl rfl rfl (fun w hs => RdI.at (RdE.keep h hs.chg0) i hj2) ?_)
        (refine qf_pure tabOk rfl rfl rfl (qf_pure tabOk rfl rfl rfl ?_))
        (refine qf_index tabOk rfl rfl rfl rfl rfl (by omega) (by omega) ?_; refine qf_load1 tabOk rfl rfl rfl (fun w hs => RdI.at (RdE.keep h2 hs.chg0) i hj3) ?_)
        rw [hga, hgb]
        (refine qf_pure tabOk rfl rfl rfl (qf_pure tabOk rfl rfl rfl (qf_nil (q_ret ?_))))
        refine q_fin tabOk rfl (by repeat constructor) fun w hs => ?_
        refine ⟨?_, hs.chg0⟩
        rw [← hd]
        simp [retV]
    · rw [List.drop_of_length_le (by omega), List.drop_of_length_le (by omega)] at hd
      rw [← hd]
      (refine q_exit _ rfl (q_seq (q_region (ql_pure tabOk rfl rfl (q_nil (q_ret ?_))))))
      refine q_fin tabOk rfl (by repeat constructor) fun w hs => ?_
      exact ⟨by unfold lexB; rfl, hs.chg0⟩
  · have he : elB a b = decide (a.length < b.length) := if_neg e
    rw [he]
    (refine q_seq (q_region (ql_pure tabOk rfl rfl (q_nil (q_seq (q_seq (q_region ?_)))))); (iterate 4 refine ql_pure tabOk rfl rfl ?_); refine ql_neqT tabOk rfl rfl rfl (by omega) (q_nil (q_cond_true rfl (q_seq (q_region ?_)))); (iterate 6 refine ql_pure tabOk rfl rfl ?_); refine q_nil (q_ret ?_))
    refine q_fin tabOk rfl (by repeat constructor) fun w hs => ?_
    refine ⟨?_, hs.chg0⟩
    simp [retV]
/-- The bag of a table, none if it is wrong. -/
def bgA (l : List (List Int)) (most : Int) : List Nat := if limitV l most = 0 then (bagF (covB (regV l (nV l)) most (nV l)) l.length).getD [] else []
theorem bagA_ca (w : World) (lo hi : Nat) (v : Value) (l : List (List Int)) (most : Int) (h : RdII w lo hi v l) : Ca Try.prog 46 [v, .int .i64 most] w fun x w' => ∃ u : Value, x = .tuple #[u, .int .i64 (limitV l most)] ∧ Sat w M0 [.ow u 3 1 (bgA l most).length (ints (chI (bgA l most)))] w' := by
  by_cases h0 : limitV l most = 0
  · obtain ⟨hl, hm0, hm1⟩ := limit_iff.1 h0
    obtain ⟨out, ho, _⟩ := bag_says hl hm0
    have e : bgA l most = out := by unfold bgA; rw [if_pos h0, ho]; rfl
    rw [e, h0]
    exact bag_ok w lo hi v l most (nV l) h hl hm0 hm1 out ho
  · have e : bgA l most = [] := if_neg h0
    rw [e]
    exact (bag_no w lo hi v l most h h0).mono fun x w' ⟨h1, h2⟩ => ⟨_, h1, Sat.ownil ((Sat.nil w M0).keep h2) _ _⟩
end Go.Proofs.Ytcmpdmobmbbplaa

/- The walk of the reference's Bag. -/
namespace Go.Proofs.Ytcmpdmobmbbplaa
open Go Go.Eng

def pgB (rs : List (List Int)) (most : Int) (s w : Nat) : Bool := decide (gt rs w s ≤ most)
def cvK (rs : List (List Int)) (most : Int) (k : Nat) (L : List Nat) : Bool := (List.range k).all fun s => L.any (pgB rs most s)
theorem cvK_all (rs : List (List Int)) (most : Int) (n : Nat) (L : List Nat) : cvK rs most n L = covB rs most n L := rfl
theorem cvK_next (rs : List (List Int)) (most : Int) (k : Nat) (L : List Nat) : cvK rs most (k + 1) L = (cvK rs most k L && L.any (pgB rs most k)) := by
  unfold cvK
  rw [List.range_succ, List.all_append]
  simp
theorem any_next {α : Type} (p : α → Bool) (l : List α) {i : Nat} (hi : i < l.length) : (l.take (i + 1)).any p = ((l.take i).any p || p l[i]) := by
  rw [List.take_succ_eq_append_getElem hi, List.any_append]
  simp
set_option maxHeartbeats 8000000 in
theorem rbag_ca (w : World) (lo hi : Nat) (v : Value) (l : List (List Int)) (most : Int) (h : RdII w lo hi v l) (hlen : l.length ≤ maxLen) (hrl : ∀ r ∈ l, r.length ≤ maxLen) : Ca Try.prog 47 [v, .int .i64 most] w fun x w' => ∃ u : Value, x = .tuple #[u, .int .i64 (limitV l most)] ∧ Sat w M0 [.ow u 3 1 (bgA l most).length (ints (chI (bgA l most)))] w' := by
  obtain ⟨va, vc, rfl, hva⟩ := RdII.outI h
  refine q_of (Sat.nil w M0) Try.func47 rfl (by simp [Try.ntmps47]) ?_
  (refine q_seq (q_region (ql_pure tabOk rfl rfl (ql_pure tabOk rfl rfl (q_nil (q_seq (q_seq (q_region (ql_pure tabOk rfl rfl (ql_pure tabOk rfl rfl ?_))))))))))
  refine ql_callv (val := .int .i64 (limitV l most)) tabOk rfl rfl rfl rfl (fun w hs => ?_) ?_; exact rlimit_ca w lo hi _ l most (RdII.keep h hs.chg0) hlen hrl
  by_cases h0 : limitV l most = 0
  · obtain ⟨hl, hm0, hm1⟩ := limit_iff.1 h0
    obtain ⟨out, ho, _⟩ := bag_says hl hm0
    have eo : bgA l most = out := by unfold bgA; rw [if_pos h0, ho]; rfl
    rw [eo, h0]
    clear eo
    generalize hnn : nV l = n at hl ho
    have hl1 := hl.l1
    have hl2 := hl.l2
    have hn1 := hl.n1
    have hn2 := hl.n2
    have hrow := fun k (hk : k < l.length) => hl.len _ (List.getElem_mem hk)
    obtain ⟨vb, vo, rfl⟩ := hva (by omega)
    obtain ⟨b0, o0, c0, hr0, hc0⟩ := RdII.rowS h 0 (by omega) (hrow 0 (by omega)) (by omega)
    (refine ql_pure tabOk rfl rfl (q_nil (q_seq (q_region (ql_pure tabOk rfl rfl (ql_neqF tabOk rfl rfl rfl (by omega) (q_nil (q_cond_false rfl (q_skip (q_seq (q_region (ql_pure tabOk rfl rfl ?_))))))))))); refine q_nil (q_seq (q_seq (q_region (ql_pure tabOk rfl rfl (q_nil (q_block ?_)))))))
    refine q_loop (σ := Nat) (fun k => k ≤ l.length) (fun k => l.length - k) (fun k => [(0, .slice (some ⟨vb, vo, none⟩) l.length vc), (1, .int .i64 most), (7, .int .i64 (2 ^ k : Nat)), (8, .int .i64 k)]) (fun _ => []) 0 (by omega) ⟨rfl, rfl, rfl, rfl, trivial⟩ (by repeat constructor) ?_
    rintro k hk K hK
    have hp := Nat.pow_le_pow_right (show 0 < 2 by omega) (show k ≤ 12 by omega)
    have hps : 2 ^ (k + 1) = 2 ^ k * 2 := Nat.pow_succ 2 k
    (refine q_seq (q_seq (q_region ?_)); (iterate 4 refine ql_pure tabOk rfl rfl ?_); refine q_nil ?_)
    refine q_if rfl (fun hc => ?_) (fun hc => ?_)
    · have hk2 : k < l.length := by omega
      clear hc
      generalize 2 ^ k = N at hp hps
      (refine q_skip (q_seq (q_block (q_region (ql_pure tabOk rfl rfl (ql_ar tabOk rfl rfl rfl rfl (by omega) (by omega) (ql_pure tabOk rfl rfl (q_nil (q_blk (q_region (ql_pure tabOk rfl rfl (ql_ar tabOk rfl rfl rfl rfl (by omega) (by omega) ?_))))))))))); refine ql_pure tabOk rfl rfl (q_nil ?_))
      exact hK (k + 1) _ _ (by omega) (by omega) ⟨rfl, rfl, lookI rfl (by rw [hps]; omega), rfl, trivial⟩ (Sp.refl _)
    · have hkm : k = l.length := by omega
      subst hkm
      clear hc hK hps
      obtain ⟨N, hN⟩ : ∃ N, N = 2 ^ l.length := ⟨_, rfl⟩
      rw [← hN] at hp ⊢
      (refine q_exit _ rfl (q_seq (q_region (ql_pure tabOk rfl rfl (q_nil (q_seq (q_seq (q_region (ql_pure tabOk rfl rfl (q_nil (q_block ?_)))))))))))
      refine q_conv (H' := [.ow (.slice none 0 0) 3 1 ((none : Option (List Nat)).getD []).length (ints (chI ((none : Option (List Nat)).getD [])))]) (fun w' hs => Sat.ownil hs 3 1) ?_
      refine q_loop (σ := Nat × Option (List Nat) × Value) (fun y => 1 ≤ y.1 ∧ y.1 ≤ N ∧ BgI (covB (regV l n) most n) l.length y.1 y.2.1 ∧ (y.2.1 = none → y.2.2 = .slice none 0 0)) (fun y => N - y.1) (fun y => [(0, .slice (some ⟨vb, vo, none⟩) l.length vc), (1, .int .i64 most), (7, .int .i64 N), (9, y.2.2), (10, .int .i64 y.1)])
        (fun y => [.ow y.2.2 3 1 (y.2.1.getD []).length (ints (chI (y.2.1.getD [])))]) (1, none, .slice none 0 0) ⟨by omega, by dsimp only; rw [hN]; exact Nat.one_le_two_pow, BgI.start _ _, fun _ => rfl⟩ ⟨rfl, rfl, rfl, rfl, rfl, trivial⟩ (Sp.refl _) ?_
      rintro ⟨set, best, bv⟩ ⟨hs1, hs2, hB, hbv⟩ K hK
      dsimp only at hs1 hs2 hB hbv hK ⊢
      (refine q_seq (q_seq (q_region ?_)); (iterate 3 refine ql_pure tabOk rfl rfl ?_); refine q_nil ?_)
      refine q_if rfl (fun hc => ?_) (fun hc => ?_)
      · have hs3 : set < N := by omega
        clear hc
        (refine q_skip (q_seq (q_block (q_seq (q_region (ql_pure tabOk rfl rfl (q_nil (q_seq (q_region (ql_pure tabOk rfl rfl (ql_pure tabOk rfl rfl (q_nil ?_))))))))))); refine q_seq (q_seq (q_region (ql_pure tabOk rfl rfl (q_nil (q_block ?_))))))
        refine q_conv (H' := [.ow (.slice none 0 0) 3 1 (bitsN set 0).length (ints (chI (bitsN set 0))), .ow bv 3 1 (best.getD []).length (ints (chI (best.getD [])))]) (fun w' hs => Sat.ownil hs 3 1) ?_
        refine q_loop (σ := Nat × Value) (fun y => y.1 ≤ l.length) (fun y => l.length - y.1) (fun y => [(0, .slice (some ⟨vb, vo, none⟩) l.length vc), (1, .int .i64 most), (7, .int .i64 N), (9, bv), (10, .int .i64 set), (11, y.2), (12, .int .i64 (set / 2 ^ y.1 : Nat)), (13, .int .i64 y.1)])
          (fun y => [.ow y.2 3 1 (bitsN set y.1).length (ints (chI (bitsN set y.1))), .ow bv 3 1 (best.getD []).length (ints (chI (best.getD [])))]) (0, .slice none 0 0) (by simp) ⟨rfl, rfl, rfl, rfl, rfl, rfl, lookI rfl (by simp), rfl, trivial⟩ (Sp.refl _) ?_
        rintro ⟨k, u⟩ hk K2 hK2
        dsimp only at hk hK2 ⊢
        have hbs := bits_succ set k
        have hbl := inc_len (bits_inc set k)
        have hdd : set / 2 ^ (k + 1) = set / 2 ^ k / 2 := by rw [Nat.pow_succ, Nat.div_div_eq_div_mul]
        have hrs : set / 2 ^ k ≤ set := Nat.div_le_self _ _
        (refine q_seq (q_seq (q_region ?_)); (iterate 4 refine ql_pure tabOk rfl rfl ?_); refine q_nil ?_)
        refine q_if rfl (fun hc => ?_) (fun hc => ?_)
        · have hk2 : k < l.length := by omega
          clear hc
          generalize set / 2 ^ k = r at hbs hdd hrs
          by_cases hb : r % 2 = 1
          · rw [if_pos hb] at hbs
            (refine q_skip (q_seq (q_block (q_seq (q_seq (q_region (ql_pure tabOk rfl rfl (ql_remN rfl rfl rfl (by omega) (by omega) (ql_eqlT tabOk rfl rfl rfl (by omega) (q_nil (q_cond_true rfl (q_region ?_))))))))))); refine ql_pure tabOk rfl rfl (ql_pure tabOk rfl rfl ?_))
            refine ql_mkS 3 [.int .i64 k] rfl (by kernel_rfl) rfl (fun bn => ?_)
            skip
            refine ql_append (q := 1) (news := [.int .i64 k]) slI rfl rfl rfl (fun v' => by repeat constructor) (fun w' hs => ⟨_, _, Blk.rdN (hs.blk (b := bn) (by repeat constructor)) rfl⟩) (by simp [oneV]) (by omega) (by omega) (fun u' => ?_)
            (refine ql_pure tabOk rfl rfl (q_nil (q_region (ql_pure tabOk rfl rfl (ql_quoN rfl rfl rfl (by omega) (by omega) (by omega) (ql_pure tabOk rfl rfl (q_nil (q_blk (q_region (ql_pure tabOk rfl rfl (ql_ar tabOk rfl rfl rfl rfl (by omega) (by omega) (ql_pure tabOk rfl rfl ?_))))))))))); refine q_nil ?_)
            exact hK2 (k + 1, u') _ _ (by dsimp only; omega) (by dsimp only; omega) ⟨rfl, rfl, rfl, rfl, rfl, rfl, lookI rfl (by dsimp only; rw [hdd]; omega), rfl, trivial⟩ (by dsimp only; rw [hbs, List.length_append, List.length_singleton, chI_add]; repeat constructor)
          · rw [if_neg hb, List.append_nil] at hbs
            (refine q_skip (q_seq (q_block (q_seq (q_seq (q_region (ql_pure tabOk rfl rfl (ql_remN rfl rfl rfl (by omega) (by omega) (ql_eqlF tabOk rfl rfl rfl (by omega) (q_nil (q_cond_false rfl (q_skip ?_))))))))))); refine q_region (ql_pure tabOk rfl rfl (ql_quoN rfl rfl rfl (by omega) (by omega) (by omega) (ql_pure tabOk rfl rfl (q_nil (q_blk (q_region (ql_pure tabOk rfl rfl (ql_ar tabOk rfl rfl rfl rfl (by omega) (by omega) (ql_pure tabOk rfl rfl (q_nil ?_)))))))))))
            exact hK2 (k + 1, u) _ _ (by dsimp only; omega) (by dsimp only; omega) ⟨rfl, rfl, rfl, rfl, rfl, rfl, lookI rfl (by dsimp only; rw [hdd]; omega), rfl, trivial⟩ (by dsimp only; rw [hbs]; repeat constructor)
        · have hkm : k = l.length := by omega
          subst hkm
          clear hc hK2 hbs hdd hrs
          have hne := bits_ne (m := l.length) hs1 (by omega)
          have hin := bits_inc set l.length
          have hst := fun hc hb => hB.take hs1 hc hb
          have hsk := fun hc => hB.skip (set := set) hc
          generalize bitsN set l.length = L at hbl hne hin hst hsk
          have hLp := List.length_pos_iff.2 hne
          refine q_fact (fun w hs => hs.ownSome (v := u) (by repeat constructor) hLp) ?_
          rintro ⟨ug, uc, rfl⟩
          (refine q_exit _ rfl (q_seq (q_region (ql_pure tabOk rfl rfl (q_nil (q_seq (q_seq (q_region (ql_pure tabOk rfl rfl (q_nil (q_block ?_)))))))))))
          refine q_loop (σ := Nat) (fun s => s ≤ n) (fun s => n - s) (fun s => [(0, .slice (some ⟨vb, vo, none⟩) l.length vc), (1, .int .i64 most), (7, .int .i64 N), (9, bv), (10, .int .i64 set), (11, (.slice (some ⟨ug, 0, none⟩) L.length uc)), (14, .bool (cvK (regV l n) most s L)), (15, .int .i64 s)]) (fun _ => [.ow (.slice (some ⟨ug, 0, none⟩) L.length uc) 3 1 L.length (ints (chI L)), .ow bv 3 1 (best.getD []).length (ints (chI (best.getD [])))]) 0 (by omega) ⟨rfl, rfl, rfl, rfl, rfl, rfl, rfl, rfl, trivial⟩ (by repeat constructor) ?_
          rintro s hsn K3 hK3
          (refine q_seq (q_seq (q_region (ql_pure tabOk rfl rfl (ql_pure tabOk rfl rfl ?_)))))
          refine ql_index tabOk rfl rfl rfl rfl rfl (by omega) (by omega) ?_
          refine ql_load1 tabOk rfl rfl rfl (fun w hs => hc0 _ hs.chg0) ?_
          (refine ql_pure tabOk rfl rfl (ql_pure tabOk rfl rfl (q_nil ?_)))
          refine q_if rfl (fun hc => ?_) (fun hc => ?_)
          · have hsn2 : s < n := by omega
            clear hc
            (refine q_skip (q_seq (q_block (q_seq (q_region (ql_pure tabOk rfl rfl (q_nil (q_seq (q_seq (q_region (ql_pure tabOk rfl rfl (q_nil ?_))))))))))); refine q_block ?_)
            refine q_loop (σ := Nat) (fun i => i ≤ L.length) (fun i => L.length - i) (fun i => [(0, .slice (some ⟨vb, vo, none⟩) l.length vc), (1, .int .i64 most), (7, .int .i64 N), (9, bv), (10, .int .i64 set), (11, (.slice (some ⟨ug, 0, none⟩) L.length uc)), (14, .bool (cvK (regV l n) most s L)), (15, .int .i64 s), (16, .bool ((L.take i).any (pgB (regV l n) most s))), (17, .int .i64 i)]) (fun _ => [.ow (.slice (some ⟨ug, 0, none⟩) L.length uc) 3 1 L.length (ints (chI L)), .ow bv 3 1 (best.getD []).length (ints (chI (best.getD [])))]) 0 (by omega) ⟨rfl, rfl, rfl, rfl, rfl, rfl, rfl, rfl, rfl, rfl, trivial⟩ (by repeat constructor) ?_
            rintro i hii K4 hK4
            (refine q_seq (q_seq (q_region ?_)); (iterate 4 refine ql_pure tabOk rfl rfl ?_); refine q_nil ?_)
            refine q_if rfl (fun hc => ?_) (fun hc => ?_)
            · have hi2 : i < L.length := by omega
              have hj2 : i < (chI L).length := by rw [chI_len]; exact hi2
              have hLm := hin.2 _ (List.getElem_mem hi2)
              have hga := chI_get hj2
              clear hc
              have hx := any_next (pgB (regV l n) most s) L hi2
              cases hso : (L.take i).any (pgB (regV l n) most s) with
              | true =>
                rw [hso, Bool.true_or] at hx
                (refine q_skip (q_seq (q_block (q_region (ql_pure tabOk rfl rfl (ql_pure tabOk rfl rfl ?_))))); (iterate 9 refine ql_gno rfl rfl rfl ?_); refine ql_pure tabOk rfl rfl (ql_pure tabOk rfl rfl (q_nil (q_blk (q_region (ql_pure tabOk rfl rfl (ql_ar tabOk rfl rfl rfl rfl (by omega) (by omega) (ql_pure tabOk rfl rfl (q_nil ?_)))))))))
                exact hK4 (i + 1) _ _ (by omega) (by omega) ⟨rfl, rfl, rfl, rfl, rfl, rfl, rfl, rfl, by rw [hx]; rfl, rfl, trivial⟩ (Sp.refl _)
              | false =>
                rw [hso, Bool.false_or] at hx
                (refine q_skip (q_seq (q_block (q_region (ql_pure tabOk rfl rfl (ql_pure tabOk rfl rfl (ql_gyes rfl (ql_pure tabOk rfl rfl (ql_gyes rfl (ql_pure tabOk rfl rfl (ql_gyes rfl (ql_pure tabOk rfl rfl ?_))))))))))); refine ql_gyes rfl ?_)
                refine ql_index tabOk rfl rfl rfl rfl rfl (by omega) (by omega) ?_
                (refine ql_gyes rfl ?_)
                refine ql_load1 (v := .int .i64 (L[i] : Nat)) tabOk rfl rfl rfl (fun w hs => by rw [← hga]; exact RdI.at (hs.rdI (v := (.slice (some ⟨ug, 0, none⟩) L.length uc)) (l := chI L) (t := 3) (n := L.length) (by repeat constructor) (chI_len _).symm) i hj2) ?_
                (refine ql_gyes rfl (ql_pure tabOk rfl rfl (ql_gyes rfl ?_)))
                refine ql_callv (val := .int .i64 (gt (regV l n) L[i] s)) tabOk rfl rfl rfl rfl (fun w hs => ?_) ?_; exact regret_ca w lo hi _ l n L[i] s (RdII.keep h hs.chg0) hl hLm hsn2
                unfold pgB at hx
                (refine ql_gyes rfl (ql_pure tabOk rfl rfl (ql_gyes rfl ?_)); (iterate 3 refine ql_pure tabOk rfl rfl ?_); refine q_nil (q_blk (q_region (ql_pure tabOk rfl rfl (ql_ar tabOk rfl rfl rfl rfl (by omega) (by omega) (ql_pure tabOk rfl rfl (q_nil ?_)))))))
                exact hK4 (i + 1) _ _ (by omega) (by omega) ⟨rfl, rfl, rfl, rfl, rfl, rfl, rfl, rfl, by unfold pgB; rw [hx]; rfl, rfl, trivial⟩ (Sp.refl _)
            · have hil : i = L.length := by omega
              rw [List.take_of_length_le (by omega)]
              have hx := cvK_next (regV l n) most s L
              clear hc hK4
              cases his : cvK (regV l n) most s L with
              | true =>
                rw [his, Bool.true_and] at hx
                (refine q_exit _ rfl (q_region (ql_pure tabOk rfl rfl (ql_pure tabOk rfl rfl (ql_gyes rfl ?_)))); (iterate 3 refine ql_pure tabOk rfl rfl ?_); refine q_nil (q_blk (q_region (ql_pure tabOk rfl rfl (ql_ar tabOk rfl rfl rfl rfl (by omega) (by omega) (ql_pure tabOk rfl rfl (q_nil ?_)))))))
                exact hK3 (s + 1) _ _ (by omega) (by omega) ⟨rfl, rfl, rfl, rfl, rfl, rfl, by rw [hx]; rfl, rfl, trivial⟩ (Sp.refl _)
              | false =>
                rw [his, Bool.false_and] at hx
                (refine q_exit _ rfl (q_region (ql_pure tabOk rfl rfl (ql_pure tabOk rfl rfl (ql_gno rfl rfl rfl (ql_pure tabOk rfl rfl (ql_pure tabOk rfl rfl (q_nil (q_blk (q_region (ql_pure tabOk rfl rfl (ql_ar tabOk rfl rfl rfl rfl (by omega) (by omega) ?_))))))))))); refine ql_pure tabOk rfl rfl (q_nil ?_))
                exact hK3 (s + 1) _ _ (by omega) (by omega) ⟨rfl, rfl, rfl, rfl, rfl, rfl, by rw [hx]; rfl, rfl, trivial⟩ (Sp.refl _)
          · have hsl : s = n := by omega
            subst hsl
            rw [cvK_all]
            clear hc hK3
            cases hcv : covB (regV l s) most s L with
            | false =>
              have hskip := hsk (.inl hcv)
              (refine q_exit _ rfl (q_seq (q_region (ql_pure tabOk rfl rfl (ql_pure tabOk rfl rfl ?_)))); (iterate 3 refine ql_gno rfl rfl rfl ?_); (iterate 3 refine ql_gnone rfl rfl ?_); refine ql_gno rfl rfl rfl (ql_pure tabOk rfl rfl (q_nil (q_cond_false rfl (q_skip (q_blk (q_region (ql_pure tabOk rfl rfl (ql_ar tabOk rfl rfl rfl rfl (by omega) (by omega) (ql_pure tabOk rfl rfl (q_nil ?_)))))))))))
              exact hK (set + 1, best, bv) _ _ ⟨by dsimp only; omega, by dsimp only; omega, hskip, hbv⟩ (by dsimp only; omega) ⟨rfl, rfl, rfl, rfl, rfl, trivial⟩ (by repeat constructor)
            | true =>
              cases best with
              | none =>
                obtain rfl := hbv rfl
                have htake := hst hcv (fun o ho => (by cases ho))
                (refine q_exit _ rfl (q_seq (q_region (ql_pure tabOk rfl rfl (ql_pure tabOk rfl rfl (ql_gyes rfl (ql_pure tabOk rfl rfl (ql_gyes rfl ?_))))))))
                refine ql_eqnil tabOk rfl rfl rfl rfl ?_
                (refine ql_gyes rfl (ql_pure tabOk rfl rfl ?_); (iterate 3 refine ql_gno rfl rfl rfl ?_); refine ql_gyes rfl (ql_pure tabOk rfl rfl (ql_pure tabOk rfl rfl (q_nil (q_cond_true rfl (q_region (ql_pure tabOk rfl rfl (ql_pure tabOk rfl rfl (q_nil (q_blk (q_region (ql_pure tabOk rfl rfl ?_))))))))))); refine ql_ar tabOk rfl rfl rfl rfl (by omega) (by omega) (ql_pure tabOk rfl rfl (q_nil ?_)))
                exact hK (set + 1, some L, (.slice (some ⟨ug, 0, none⟩) L.length uc)) _ _ ⟨by dsimp only; omega, by dsimp only; omega, htake, fun e => (by cases e)⟩ (by dsimp only; omega) ⟨rfl, rfl, rfl, rfl, rfl, trivial⟩ (by repeat constructor)
              | some o =>
                have hoy := (hB.ye o rfl).1
                have hop : 0 < o.length := by
                  obtain ⟨t, t1, t2, rfl⟩ := hoy
                  exact List.length_pos_iff.2 (bits_ne t1 (by omega))
                have hol : o.length ≤ l.length := by
                  obtain ⟨t, t1, t2, rfl⟩ := hoy
                  exact inc_len (bits_inc _ _)
                refine q_fact (fun w hs => hs.ownSome (v := bv) (by repeat constructor) (by simpa using hop)) ?_
                rintro ⟨bg, bc, rfl⟩
                dsimp only [Option.getD_some]
                (refine q_exit _ rfl (q_seq (q_region (ql_pure tabOk rfl rfl (ql_pure tabOk rfl rfl (ql_gyes rfl (ql_pure tabOk rfl rfl (ql_gyes rfl ?_))))))))
                refine ql_eqnil tabOk rfl rfl rfl rfl ?_
                (refine ql_gyes rfl (ql_pure tabOk rfl rfl (ql_gyes rfl (ql_pure tabOk rfl rfl (ql_gyes rfl (ql_pure tabOk rfl rfl (ql_gyes rfl ?_)))))))
                refine ql_callv (val := .bool (elB L o)) tabOk rfl rfl rfl rfl (fun w hs => ?_) ?_; exact earlier_ca w 0 w.heap.size 0 w.heap.size _ _ L o (hs.rdI (v := (.slice (some ⟨ug, 0, none⟩) L.length uc)) (l := chI L) (t := 3) (n := L.length) (by repeat constructor) (chI_len _).symm) (hs.rdI (v := .slice (some ⟨bg, 0, none⟩) o.length bc) (l := chI o) (t := 3) (n := o.length) (by repeat constructor) (chI_len _).symm) (by omega) (by omega)
                cases hel : elB L o with
                | true =>
                  have htake := hst hcv (fun o' ho => by cases ho; exact hel)
                  (refine ql_gyes rfl (ql_pure tabOk rfl rfl (ql_pure tabOk rfl rfl (q_nil (q_cond_true rfl (q_region (ql_pure tabOk rfl rfl (ql_pure tabOk rfl rfl (q_nil (q_blk (q_region (ql_pure tabOk rfl rfl ?_))))))))))); refine ql_ar tabOk rfl rfl rfl rfl (by omega) (by omega) (ql_pure tabOk rfl rfl (q_nil ?_)))
                  exact hK (set + 1, some L, (.slice (some ⟨ug, 0, none⟩) L.length uc)) _ _ ⟨by dsimp only; omega, by dsimp only; omega, htake, fun e => (by cases e)⟩ (by dsimp only; omega) ⟨rfl, rfl, rfl, rfl, rfl, trivial⟩ (by repeat constructor)
                | false =>
                  have hskip := hsk (.inr ⟨o, rfl, hel⟩)
                  (refine ql_gyes rfl (ql_pure tabOk rfl rfl (ql_pure tabOk rfl rfl (q_nil (q_cond_false rfl (q_skip (q_blk (q_region (ql_pure tabOk rfl rfl (ql_ar tabOk rfl rfl rfl rfl (by omega) (by omega) (ql_pure tabOk rfl rfl (q_nil ?_))))))))))))
                  exact hK (set + 1, some o, .slice (some ⟨bg, 0, none⟩) o.length bc) _ _ ⟨by dsimp only; omega, by dsimp only; omega, hskip, fun e => (by cases e)⟩ (by dsimp only; omega) ⟨rfl, rfl, rfl, rfl, rfl, trivial⟩ (by repeat constructor)
      · have hse : set = N := by omega
        rw [hse, hN] at hB
        have hbe := hB.end ho
        subst hbe
        (refine q_exit _ rfl (q_seq (q_region ?_)); (iterate 3 refine ql_pure tabOk rfl rfl ?_); refine q_nil (q_ret ?_))
        refine q_fin tabOk rfl (by repeat constructor) fun w hs => ?_
        exact ⟨_, rfl, hs.sp (by repeat constructor)⟩
  · have e : bgA l most = [] := if_neg h0
    rw [e]
    (refine ql_pure tabOk rfl rfl (q_nil (q_seq (q_region (ql_pure tabOk rfl rfl (ql_neqT tabOk rfl rfl rfl (by omega) (q_nil (q_cond_true rfl (q_seq (q_region ?_))))))))); (iterate 3 refine ql_pure tabOk rfl rfl ?_); refine q_nil (q_ret ?_))
    refine q_fin tabOk rfl (by repeat constructor) fun w hs => ?_
    exact ⟨_, rfl, Sat.ownil (hs.sp (by repeat constructor)) _ _⟩
end Go.Proofs.Ytcmpdmobmbbplaa

/- The plain law of zones: the best zone, and its first wax. -/
namespace Go.Proofs.Ytcmpdmobmbbplaa
open Go Go.Eng
theorem zone_w {rs : List (List Int)} {most : Int} {a : Nat} : ∀ m : Nat, (zoneF rs most a m).2 < m ∨ (zoneF rs most a m).2 = 0
  | 0 => .inr rfl
  | m + 1 => by
    have := zone_w (rs := rs) (most := most) (a := a) m
    unfold zoneF
    dsimp only
    split
    · dsimp only; omega
    · omega
theorem zone_first {rs : List (List Int)} {most : Int} {a : Nat} : ∀ m i : Nat, i < m → (i : Int) < (zoneF rs most a m).2 → (a : Int) - 1 + goodN (rs.getD i []) most a < (zoneF rs most a m).1
  | m + 1, i, h => by
    unfold zoneF
    dsimp only
    split
    · rename_i h1
      dsimp only
      intro h2
      have := zone_ge (rs := rs) (most := most) (a := a) m i (by omega)
      omega
    · rename_i h1
      intro h2
      by_cases e : i = m
      · subst e
        have h3 := zone_w (rs := rs) (most := most) (a := a) i
        omega
      · exact zone_first m i (by omega) h2
/-- The best zone from a snow on: its end, its wax. -/
structure ZFst (rs : List (List Int)) (most : Int) (n m a E W : Nat) : Prop where
  lt : a ≤ E
  le : E < n
  wm : W < m
  good : allG (rs.getD W []) most a E = true
  fst : ∀ i, i < W → allG (rs.getD i []) most a E = false
  max : ∀ i t, i < m → E < t → t < n → allG (rs.getD i []) most a t = false
theorem zone_fst {l : List (List Int)} {n : Nat} {most : Int} (hl : TabOk l n) (hm : 0 ≤ most) {a f : Nat} (ha : a < n) : ∃ E W, ZFst (regV l n) most n l.length a E W ∧ zonesF (regV l n) most n (f + 1) a = ((a : Int), (E : Int), (W : Int)) :: zonesF (regV l n) most n f (E + 1) := by
  have hR := reach_is hl hm ha
  obtain ⟨w, hw, e, hg⟩ := hR.wax
  have h1 := hR.lt
  have h2 := hR.le
  have h3 := hR.eq
  have hlen := regV_len l n
  have hrl : ∀ i, i < l.length → ((regV l n).getD i []).length = n := fun i hi => by
    have h5 : i < (regV l n).length := by rw [hlen]; exact hi
    rw [List.getD_eq_getElem?_getD, List.getElem?_eq_getElem h5, Option.getD_some]
    exact reg_row h5
  refine ⟨reachF (regV l n) most a - 1, w, ⟨by omega, by omega, by omega, allG_of (fun t h5 h6 => hg t h5 (by omega)), fun i hi => ?_, fun i t hi h5 h6 => ?_⟩, ?_⟩
  · cases hx : allG ((regV l n).getD i []) most a (reachF (regV l n) most a - 1) with
    | false => rfl
    | true =>
      have h7 := allG_get (by rw [hrl i (by omega)]; omega) hx
      have h8 := goodN_ge (show a ≤ reachF (regV l n) most a - 1 by omega) (by rw [hrl i (by omega)]; omega) h7
      have h9 := zone_first (rs := regV l n) (most := most) (a := a) (regV l n).length i (by omega) (by rw [e]; omega)
      omega
  · cases hx : allG ((regV l n).getD i []) most a t with
    | false => rfl
    | true =>
      have h7 := allG_get (by rw [hrl i hi]; omega) hx
      have := hR.max i t (by rw [hlen]; exact hi) (by omega) h6 h7
      omega
  · have e1 : ((reachF (regV l n) most a - 1 : Nat) : Int) = (reachF (regV l n) most a : Int) - 1 := by omega
    have e2 : ((reachF (regV l n) most a : Int) - 1 + 1).toNat = reachF (regV l n) most a - 1 + 1 := by omega
    rw [zonesF_step ha, h3, e, e1, e2]
end Go.Proofs.Ytcmpdmobmbbplaa

/- The walk of the reference's Zones. -/
namespace Go.Proofs.Ytcmpdmobmbbplaa
open Go Go.Eng

theorem rzone_flat : flatB Try.prog 95 [some .i64, some .i64, some .i64] = true := by kernel_rfl
theorem slZr : SlT Try.prog 91 95 3 24 (.agg #[.int .i64 0, .int .i64 0, .int .i64 0]) := ⟨by kernel_rfl, by kernel_rfl, by kernel_rfl, by decide⟩
/-- The zone that has been found so far. -/
def zoC (a E : Nat) : Option Nat → List Value
  | none => [.int .i64 0, .int .i64 0, .int .i64 0]
  | some j => [.int .i64 a, .int .i64 E, .int .i64 j]
set_option maxHeartbeats 8000000 in
theorem rzones_ca (w : World) (lo hi : Nat) (v : Value) (l : List (List Int)) (most : Int) (h : RdII w lo hi v l) (hlen : l.length ≤ maxLen) (hrl : ∀ r ∈ l, r.length ≤ maxLen) : Ca Try.prog 49 [v, .int .i64 most] w fun x w' => ∃ u : Value, x = .tuple #[u, .int .i64 (limitV l most)] ∧ Sat w M0 [.ow u 95 3 (zonesV l most).1.length (znC (zonesV l most).1)] w' := by
  obtain ⟨va, vc, rfl, hva⟩ := RdII.outI h
  refine q_of (Sat.nil w M0) Try.func49 rfl (by simp [Try.ntmps49]) ?_
  (refine q_seq (q_region (ql_pure tabOk rfl rfl (ql_pure tabOk rfl rfl (q_nil (q_seq (q_seq (q_region (ql_pure tabOk rfl rfl (ql_pure tabOk rfl rfl ?_))))))))))
  refine ql_callv (val := .int .i64 (limitV l most)) tabOk rfl rfl rfl rfl (fun w hs => ?_) ?_; exact rlimit_ca w lo hi _ l most (RdII.keep h hs.chg0) hlen hrl
  by_cases h0 : limitV l most = 0
  · obtain ⟨hl, hm0, hm1⟩ := limit_iff.1 h0
    have eo : (zonesV l most).1 = zonesF (regV l (nV l)) most (nV l) (nV l + 1) 0 := by unfold zonesV; rw [if_neg (by simpa using h0)]
    rw [eo, h0]
    clear eo
    generalize hnn : nV l = n at hl
    have hl1 := hl.l1
    have hl2 := hl.l2
    have hn1 := hl.n1
    have hn2 := hl.n2
    have hrow := fun k (hk : k < l.length) => hl.len _ (List.getElem_mem hk)
    obtain ⟨vb, vo, rfl⟩ := hva (by omega)
    obtain ⟨b0, o0, c0, hr0, hc0⟩ := RdII.rowS h 0 (by omega) (hrow 0 (by omega)) (by omega)
    (refine ql_pure tabOk rfl rfl (q_nil (q_seq (q_region (ql_pure tabOk rfl rfl (ql_neqF tabOk rfl rfl rfl (by omega) (q_nil (q_cond_false rfl (q_skip (q_seq (q_region (ql_pure tabOk rfl rfl ?_))))))))))))
    refine ql_index tabOk rfl rfl rfl rfl rfl (by omega) (by omega) ?_
    refine ql_load1 tabOk rfl rfl rfl (fun w hs => hc0 _ hs.chg0) ?_
    (refine ql_pure tabOk rfl rfl (ql_pure tabOk rfl rfl (q_nil (q_seq (q_region (ql_pure tabOk rfl rfl (q_nil (q_seq (q_seq (q_region (ql_pure tabOk rfl rfl (q_nil ?_))))))))))); refine q_block ?_)
    refine q_conv (H' := [.ow (.slice none 0 0) 95 3 0 (znC [])]) (fun w' hs => Sat.ownil hs _ _) ?_
    refine q_loop (σ := Nat × Nat × List (Int × Int × Int) × Value) (fun y => y.1 ≤ n ∧ n < y.1 + y.2.1 ∧ y.2.2.1.length + y.2.1 = n + 1 ∧ y.2.2.1 ++ zonesF (regV l n) most n y.2.1 y.1 = zonesF (regV l n) most n (n + 1) 0) (fun y => y.2.1) (fun y => [(0, .slice (some ⟨vb, vo, none⟩) l.length vc), (1, .int .i64 most), (7, .int .i64 n), (8, y.2.2.2), (9, .int .i64 y.1)])
      (fun y => [.ow y.2.2.2 95 3 y.2.2.1.length (znC y.2.2.1)]) (0, n + 1, [], .slice none 0 0) ⟨by simp, by simp, by simp, rfl⟩ ⟨rfl, rfl, rfl, rfl, rfl, trivial⟩ (Sp.refl _) ?_
    rintro ⟨a, f, out, ov⟩ ⟨ha, haf, hof, hz⟩ K hK
    dsimp only at ha haf hof hz hK ⊢
    (refine q_seq (q_seq (q_region ?_)); (iterate 3 refine ql_pure tabOk rfl rfl ?_); refine q_nil ?_)
    refine q_if rfl (fun hc => ?_) (fun hc => ?_)
    · have ha2 : a < n := by omega
      clear hc
      obtain ⟨f, rfl⟩ : ∃ g, f = g + 1 := ⟨f - 1, by omega⟩
      obtain ⟨E, W, hZ, hst⟩ := zone_fst (f := f) hl hm0 ha2
      rw [hst] at hz
      obtain ⟨zlt, zle, zwm, zgood, zfst, zmax⟩ := hZ
      (refine q_skip (q_block (q_seq (q_region ?_))))
      refine ql_mk #[.int .i64 0, .int .i64 0, .int .i64 0] rfl (by kernel_rfl) rfl ?_
      skip
      refine ql_alloc zero95 rfl (fun b10 => ?_)
      (refine ql_setA tabOk rfl rfl rfl rfl rfl (by repeat constructor) rfl ?_; refine q_nil (q_seq (q_seq (q_region (ql_pure tabOk rfl rfl (ql_ar tabOk rfl rfl rfl rfl (by omega) (by omega) (ql_pure tabOk rfl rfl (q_nil (q_block ?_)))))))))
      rw [show (n : Int) - 1 = ((E + (n - 1 - E) : Nat) : Int) from by omega]
      refine q_loop (σ := Nat) (fun d => E + d < n) (fun d => d) (fun d => [(0, .slice (some ⟨vb, vo, none⟩) l.length vc), (1, .int .i64 most), (7, .int .i64 n), (8, ov), (9, .int .i64 a), (10, .pointer (some ⟨b10, 0, none⟩)), (11, .int .i64 (E + d : Nat))]) (fun _ => [.pt b10 [.int .i64 0, .int .i64 0, .int .i64 0] 95, .ow ov 95 3 out.length (znC out)]) (n - 1 - E) (by omega) ⟨rfl, rfl, rfl, rfl, rfl, rfl, rfl, trivial⟩ (by repeat constructor) ?_
      rintro d hd K2 hK2
      (refine q_seq (q_seq (q_region (ql_pure tabOk rfl rfl (ql_pure tabOk rfl rfl (ql_geqT tabOk rfl rfl rfl (by omega) (q_nil (q_cond_true rfl (q_skip (q_seq (q_block (q_seq ?_))))))))))); refine q_seq (q_region (ql_pure tabOk rfl rfl (ql_pure tabOk rfl rfl (ql_ar tabOk rfl rfl rfl rfl (by omega) (by omega) (ql_pure tabOk rfl rfl (q_nil (q_block ?_))))))))
      · skip
        by_cases hd0 : d = 0
        · subst hd0
          rw [Nat.add_zero]
          refine q_loop (σ := Nat × Option Nat) (fun y => y.1 ≤ l.length ∧ (y.1 ≤ W → y.2 = some W)) (fun y => y.1) (fun y => [(0, .slice (some ⟨vb, vo, none⟩) l.length vc), (1, .int .i64 most), (7, .int .i64 n), (8, ov), (9, .int .i64 a), (10, .pointer (some ⟨b10, 0, none⟩)), (11, .int .i64 E), (12, .int .i64 ((y.1 : Int) - 1))]) (fun y => [.pt b10 (zoC a E y.2) 95, .ow ov 95 3 out.length (znC out)]) (l.length, none) ⟨by simp, fun h => by simp at h; omega⟩ ⟨rfl, rfl, rfl, rfl, rfl, rfl, rfl, rfl, trivial⟩ (by repeat constructor) ?_
          rintro ⟨k, z⟩ ⟨hk, hkz⟩ K3 hK3
          dsimp only at hk hkz hK3 ⊢
          (refine q_seq (q_seq (q_region (ql_pure tabOk rfl rfl (ql_pure tabOk rfl rfl (q_nil ?_))))))
          refine q_if rfl (fun hc => ?_) (fun hc => ?_)
          · obtain ⟨j, rfl⟩ : ∃ j, k = j + 1 := ⟨k - 1, by omega⟩
            clear hc
            rw [show ((j + 1 : Nat) : Int) - 1 = (j : Int) from by omega]
            (refine q_skip (q_seq (q_block (q_seq (q_region ?_)))); (iterate 5 refine ql_pure tabOk rfl rfl ?_))
            refine ql_callv (val := .bool (allG ((regV l n).getD j []) most a E)) tabOk rfl rfl rfl rfl (fun w hs => ?_) ?_; exact rgood_ca w lo hi _ l n j a E most (RdII.keep h hs.chg0) hl (by omega) zlt zle
            cases hg : allG ((regV l n).getD j []) most a E with
            | false =>
              have hjW : j ≠ W := fun e => by rw [e, zgood] at hg; cases hg
              (refine ql_pure tabOk rfl rfl ?_; (iterate 4 refine ql_gno rfl rfl rfl ?_); (iterate 4 refine ql_gnone rfl rfl ?_); refine ql_gno rfl rfl rfl (ql_pure tabOk rfl rfl (q_nil (q_cond_false rfl (q_skip (q_blk (q_region (ql_pure tabOk rfl rfl (ql_ar tabOk rfl rfl rfl rfl (by omega) (by omega) (ql_pure tabOk rfl rfl (q_nil ?_)))))))))))
              exact hK3 (j, z) _ _ ⟨by dsimp only; omega, fun h => hkz (by dsimp only at h; omega)⟩ (by dsimp only; omega) ⟨rfl, rfl, rfl, rfl, rfl, rfl, rfl, rfl, trivial⟩ (by repeat constructor)
            | true =>
              have hjW : W ≤ j := by
                rcases Nat.lt_or_ge j W with h1 | h1
                · rw [zfst j h1] at hg; cases hg
                · exact h1
              cases z with
              | none =>
                dsimp only [zoC]
                (refine ql_pure tabOk rfl rfl (ql_gyes rfl ?_); refine ql_loadABa tabOk rfl rfl rfl ?_; refine ql_gyes rfl ?_)
                refine ql_mk #[.int .i64 0, .int .i64 0, .int .i64 0] rfl (by kernel_rfl) rfl ?_
                (refine ql_gyes rfl ?_)
                refine ql_eqF (xs := [Value.int .i64 0, .int .i64 0, .int .i64 0]) (ys := [Value.int .i64 0, .int .i64 0, .int .i64 0]) [some .i64, some .i64, some .i64] rzone_flat rfl rfl rfl rfl rfl ?_
                rw [show eqL [Value.int .i64 0, .int .i64 0, .int .i64 0] [.int .i64 0, .int .i64 0, .int .i64 0] = true from by rw [eqL_refl]]
                (refine ql_gyes rfl (ql_pure tabOk rfl rfl ?_); (iterate 4 refine ql_gno rfl rfl rfl ?_); refine ql_gyes rfl (ql_pure tabOk rfl rfl (ql_pure tabOk rfl rfl (q_nil (q_cond_true rfl (q_region ?_))))); (iterate 3 refine ql_pure tabOk rfl rfl ?_))
                refine ql_mk #[.int .i64 a, .int .i64 E, .int .i64 j] rfl (by kernel_rfl) rfl ?_
                (refine ql_setA tabOk rfl rfl rfl rfl rfl (by repeat constructor) rfl ?_; refine q_nil (q_blk (q_region (ql_pure tabOk rfl rfl (ql_ar tabOk rfl rfl rfl rfl (by omega) (by omega) (ql_pure tabOk rfl rfl (q_nil ?_)))))))
                exact hK3 (j, some j) _ _ ⟨by dsimp only; omega, fun h => by dsimp only at h ⊢; congr 1; omega⟩ (by dsimp only; omega) ⟨rfl, rfl, rfl, rfl, rfl, rfl, rfl, rfl, trivial⟩ (by repeat constructor)
              | some i =>
                dsimp only [zoC]
                (refine ql_pure tabOk rfl rfl (ql_gyes rfl ?_); refine ql_loadABa tabOk rfl rfl rfl ?_; refine ql_gyes rfl ?_)
                refine ql_mk #[.int .i64 0, .int .i64 0, .int .i64 0] rfl (by kernel_rfl) rfl ?_
                (refine ql_gyes rfl ?_)
                refine ql_eqF (xs := [Value.int .i64 a, .int .i64 E, .int .i64 i]) (ys := [Value.int .i64 0, .int .i64 0, .int .i64 0]) [some .i64, some .i64, some .i64] rzone_flat rfl rfl rfl rfl rfl ?_
                cases he : eqL [Value.int .i64 a, .int .i64 E, .int .i64 i] [.int .i64 0, .int .i64 0, .int .i64 0] with
                | true =>
                  (refine ql_gyes rfl (ql_pure tabOk rfl rfl ?_); (iterate 4 refine ql_gno rfl rfl rfl ?_); refine ql_gyes rfl (ql_pure tabOk rfl rfl (ql_pure tabOk rfl rfl (q_nil (q_cond_true rfl (q_region ?_))))); (iterate 3 refine ql_pure tabOk rfl rfl ?_))
                  refine ql_mk #[.int .i64 a, .int .i64 E, .int .i64 j] rfl (by kernel_rfl) rfl ?_
                  (refine ql_setA tabOk rfl rfl rfl rfl rfl (by repeat constructor) rfl ?_; refine q_nil (q_blk (q_region (ql_pure tabOk rfl rfl (ql_ar tabOk rfl rfl rfl rfl (by omega) (by omega) (ql_pure tabOk rfl rfl (q_nil ?_)))))))
                  exact hK3 (j, some j) _ _ ⟨by dsimp only; omega, fun h => by dsimp only at h ⊢; congr 1; omega⟩ (by dsimp only; omega) ⟨rfl, rfl, rfl, rfl, rfl, rfl, rfl, rfl, trivial⟩ (by repeat constructor)
                | false =>
                  (refine ql_gyes rfl (ql_pure tabOk rfl rfl (ql_gyes rfl (ql_pure tabOk rfl rfl (ql_gyes rfl ?_)))); refine ql_loadBa tabOk rfl rfl rfl ?_; refine ql_gyes rfl (ql_pure tabOk rfl rfl (ql_gyes rfl (ql_eqlT tabOk rfl rfl rfl (by omega) (ql_gyes rfl (ql_pure tabOk rfl rfl (ql_pure tabOk rfl rfl (q_nil (q_cond_true rfl (q_region ?_))))))))); (iterate 3 refine ql_pure tabOk rfl rfl ?_))
                  refine ql_mk #[.int .i64 a, .int .i64 E, .int .i64 j] rfl (by kernel_rfl) rfl ?_
                  (refine ql_setA tabOk rfl rfl rfl rfl rfl (by repeat constructor) rfl ?_; refine q_nil (q_blk (q_region (ql_pure tabOk rfl rfl (ql_ar tabOk rfl rfl rfl rfl (by omega) (by omega) (ql_pure tabOk rfl rfl (q_nil ?_)))))))
                  exact hK3 (j, some j) _ _ ⟨by dsimp only; omega, fun h => by dsimp only at h ⊢; congr 1; omega⟩ (by dsimp only; omega) ⟨rfl, rfl, rfl, rfl, rfl, rfl, rfl, rfl, trivial⟩ (by repeat constructor)
          · have hk0 : k = 0 := by omega
            obtain rfl := hkz (by omega)
            clear hc hK3 hK2
            dsimp only [zoC]
            (refine q_exit _ rfl (q_seq (q_region (ql_pure tabOk rfl rfl ?_))); refine ql_loadBa tabOk rfl rfl rfl ?_; refine ql_pure tabOk rfl rfl (ql_eqlT tabOk rfl rfl rfl (by omega) (ql_pure tabOk rfl rfl (ql_gyes rfl (ql_pure tabOk rfl rfl (ql_gyes rfl (ql_pure tabOk rfl rfl (ql_gyes rfl ?_))))))); refine ql_loadBa tabOk rfl rfl rfl ?_; refine ql_gyes rfl (ql_pure tabOk rfl rfl (ql_gyes rfl (ql_pure tabOk rfl rfl (ql_gyes rfl (ql_pure tabOk rfl rfl (ql_gyes rfl ?_)))))))
            refine ql_callv (val := .bool true) tabOk rfl rfl rfl rfl (fun w hs => ?_) ?_; exact by have := rgood_ca w lo hi _ l n W a E most (RdII.keep h hs.chg0) hl zwm zlt zle; rw [zgood] at this; exact this
            (refine ql_pure tabOk rfl rfl (q_nil (q_cond_true rfl (q_exit _ rfl (q_seq (q_region (ql_pure tabOk rfl rfl ?_)))))); refine ql_loadABa tabOk rfl rfl rfl ?_)
            refine ql_mkS 95 [.int .i64 a, .int .i64 E, .int .i64 W] rfl (by kernel_rfl) rfl (fun bn => ?_)
            skip
            refine ql_append (q := 1) (news := [.int .i64 a, .int .i64 E, .int .i64 W]) slZr rfl rfl rfl (fun v' => by repeat constructor) (fun w' hs => ⟨_, _, Blk.rdN (hs.blk (b := bn) (by repeat constructor)) rfl⟩) (by simp [oneV]) (by omega) (by omega) (fun u' => ?_)
            (refine ql_pure tabOk rfl rfl (q_nil (q_region (ql_pure tabOk rfl rfl ?_))); refine ql_loadBa tabOk rfl rfl rfl ?_; refine ql_ar tabOk rfl rfl rfl rfl (by omega) (by omega) (ql_pure tabOk rfl rfl (q_nil (q_blk ?_))))
            exact hK (E + 1, f, out ++ [((a : Int), (E : Int), (W : Int))], u') _ _ ⟨by dsimp only; omega, by dsimp only; omega, by dsimp only; rw [List.length_append, List.length_singleton]; omega, by dsimp only; rw [List.append_assoc]; exact hz⟩ (by dsimp only; omega) ⟨rfl, rfl, rfl, rfl, rfl, trivial⟩ (by dsimp only; rw [List.length_append, List.length_singleton, znC_snoc]; repeat constructor)
        · refine q_loop (σ := Nat) (fun k => k ≤ l.length) (fun k => k) (fun k => [(0, .slice (some ⟨vb, vo, none⟩) l.length vc), (1, .int .i64 most), (7, .int .i64 n), (8, ov), (9, .int .i64 a), (10, .pointer (some ⟨b10, 0, none⟩)), (11, .int .i64 (E + d : Nat)), (12, .int .i64 ((k : Int) - 1))]) (fun _ => [.pt b10 [.int .i64 0, .int .i64 0, .int .i64 0] 95, .ow ov 95 3 out.length (znC out)]) l.length (by omega) ⟨rfl, rfl, rfl, rfl, rfl, rfl, rfl, rfl, trivial⟩ (by repeat constructor) ?_
          rintro k hk K3 hK3
          (refine q_seq (q_seq (q_region (ql_pure tabOk rfl rfl (ql_pure tabOk rfl rfl (q_nil ?_))))))
          refine q_if rfl (fun hc => ?_) (fun hc => ?_)
          · obtain ⟨j, rfl⟩ : ∃ j, k = j + 1 := ⟨k - 1, by omega⟩
            clear hc
            rw [show ((j + 1 : Nat) : Int) - 1 = (j : Int) from by omega]
            (refine q_skip (q_seq (q_block (q_seq (q_region ?_)))); (iterate 5 refine ql_pure tabOk rfl rfl ?_))
            refine ql_callv (val := .bool false) tabOk rfl rfl rfl rfl (fun w hs => ?_) ?_; exact by have := rgood_ca w lo hi _ l n j a (E + d) most (RdII.keep h hs.chg0) hl (by omega) (by omega) hd; rw [zmax j (E + d) (by omega) (by omega) hd] at this; exact this
            (refine ql_pure tabOk rfl rfl ?_; (iterate 4 refine ql_gno rfl rfl rfl ?_); (iterate 4 refine ql_gnone rfl rfl ?_); refine ql_gno rfl rfl rfl (ql_pure tabOk rfl rfl (q_nil (q_cond_false rfl (q_skip (q_blk (q_region (ql_pure tabOk rfl rfl (ql_ar tabOk rfl rfl rfl rfl (by omega) (by omega) (ql_pure tabOk rfl rfl (q_nil ?_)))))))))))
            exact hK3 j _ _ (by omega) (by omega) ⟨rfl, rfl, rfl, rfl, rfl, rfl, rfl, rfl, trivial⟩ (by repeat constructor)
          · clear hc hK3
            obtain ⟨g, rfl⟩ : ∃ g, d = g + 1 := ⟨d - 1, by omega⟩
            (refine q_exit _ rfl (q_seq (q_region (ql_pure tabOk rfl rfl ?_))); refine ql_loadBa tabOk rfl rfl rfl ?_; refine ql_pure tabOk rfl rfl (ql_eqlF tabOk rfl rfl rfl (by omega) (ql_pure tabOk rfl rfl ?_)); (iterate 7 refine ql_gno rfl rfl rfl ?_); refine ql_pure tabOk rfl rfl (q_nil (q_cond_false rfl (q_skip (q_blk (q_region (ql_pure tabOk rfl rfl (ql_ar tabOk rfl rfl rfl rfl (by omega) (by omega) (ql_pure tabOk rfl rfl (q_nil ?_))))))))))
            exact hK2 g _ _ (by omega) (by omega) ⟨rfl, rfl, rfl, rfl, rfl, rfl, lookI rfl (by omega), trivial⟩ (by repeat constructor)
    · have hae : a = n := by omega
      rw [zonesF_end (by omega), List.append_nil] at hz
      rw [← hz]
      (refine q_exit _ rfl (q_seq (q_region ?_)); (iterate 3 refine ql_pure tabOk rfl rfl ?_); refine q_nil (q_ret ?_))
      refine q_fin tabOk rfl (by repeat constructor) fun w hs => ?_
      exact ⟨_, rfl, hs.sp (by repeat constructor)⟩
  · have e : (zonesV l most).1 = [] := by unfold zonesV; rw [if_pos h0]
    rw [e]
    (refine ql_pure tabOk rfl rfl (q_nil (q_seq (q_region (ql_pure tabOk rfl rfl (ql_neqT tabOk rfl rfl rfl (by omega) (q_nil (q_cond_true rfl (q_seq (q_region ?_))))))))); (iterate 3 refine ql_pure tabOk rfl rfl ?_); refine q_nil (q_ret ?_))
    refine q_fin tabOk rfl (by repeat constructor) fun w hs => ?_
    exact ⟨_, rfl, Sat.ownil (hs.sp (by repeat constructor)) _ _⟩
end Go.Proofs.Ytcmpdmobmbbplaa

/- SkiWaxed. -/
namespace Go.Proofs.Ytcmpdmobmbbplaa
open Go Go.Eng

theorem own_rdII {w0 w : World} {M : Nat → Prop} {H : List Ck} {t t2 n : Nat} {v : Value} {X : List (Value × List Int)} (hs : Sat w0 M H w) (h1 : un (rowsO t X) ∈ H) (h2 : Ck.ow v t2 1 n (X.map (·.1)) ∈ H) : RdII w 0 w.heap.size v (X.map (·.2)) := rowsO_rd (hs.mem h1) (hs.mem h2)
def addR (s : Nat) (d : Int) (p : Value × List Int) : Value × List Int := (p.1, p.2.set s (p.2.getD s 0 + d))
/-- The first rows are changed. -/
def addK (s : Nat) (d : Int) (X : List (Value × List Int)) (k : Nat) : List (Value × List Int) := (X.take k).map (addR s d) ++ X.drop k
end Go.Proofs.Ytcmpdmobmbbplaa

/- The plain law of SkiBagged: breaks that are tried. -/
namespace Go.Proofs.Ytcmpdmobmbbplaa

theorem brk_val {l : List (List Int)} {n : Nat} {most : Int} (hl : TabOk l n) (hm : 0 ≤ most) (hm2 : most ≤ 10000) {br : List Int} (hb : ∀ s ∈ br, 0 ≤ s ∧ s < n) : breaksV l most br = (if brkF (regV l n) most br = true then !br.isEmpty && true else false, 0) := by
  have hnV : nV l = n := hl.v.2
  have he : limitV l most = 0 := limit_iff.2 ⟨by rw [hnV]; exact hl, hm, hm2⟩
  unfold breaksV
  rw [if_neg (by simpa using he), if_neg, hnV]
  rw [Bool.not_eq_false, List.all_eq_true]
  intro s hs
  have := hb s hs
  rw [inB_iff, hnV]
  omega
/-- Where the zones begin is a list of breaks. -/
theorem starts_say {l : List (List Int)} {n : Nat} {most : Int} (hl : TabOk l n) (hm : 0 ≤ most) (hm2 : most ≤ 10000) : 1 ≤ (zonesF (regV l n) most n (n + 1) 0).length ∧ breaksV l most ((zonesF (regV l n) most n (n + 1) 0).map (·.1)) = (true, 0) := by
  have hn := hl.n1
  obtain ⟨h1, h2⟩ := zones_are hl hm (n + 1) 0 (by omega) (by omega)
  have h3 := starts_are hl hm (n + 1) 0 (by omega) (by omega)
  generalize zonesF (regV l n) most n (n + 1) 0 = Z at h1 h2 h3 ⊢
  have h4 : 1 ≤ Z.length := by
    cases Z with
    | nil => simp [nxtZ] at h2; omega
    | cons z Z => simp
  refine ⟨h4, ?_⟩
  rw [brk_val hl hm hm2 (fun s hs => ?_), if_pos h3]
  · cases Z with
    | nil => simp at h4
    | cons z Z => rfl
  · obtain ⟨z, hz, rfl⟩ := List.mem_map.1 hs
    obtain ⟨i, hi, rfl⟩ := List.mem_iff_getElem.1 hz
    have h5 := h1 i hi
    have h6 := h5.a0
    have h7 := h5.frm
    have h8 := h5.le
    have h9 := h5.lt
    omega
theorem Inc.up {m : Nat} {ch : List Nat} (h : Inc m ch) : Inc (m + 1) ch := ⟨h.1, fun x hx => by have := h.2 x hx; omega⟩
theorem Inc.push {m : Nat} {ch : List Nat} (h : Inc m ch) : Inc (m + 1) (ch ++ [m]) := by
  refine ⟨List.pairwise_append.2 ⟨h.1, List.pairwise_singleton _ _, fun x hx y hy => ?_⟩, fun x hx => ?_⟩
  · rw [List.mem_singleton.1 hy]
    exact h.2 x hx
  · rcases List.mem_append.1 hx with h1 | h1
    · have := h.2 x h1; omega
    · rw [List.mem_singleton.1 h1]; omega
end Go.Proofs.Ytcmpdmobmbbplaa

/- The walk of SkiWaxes. -/
namespace Go.Proofs.Ytcmpdmobmbbplaa
open Go Go.Eng

def wideB (l : List (List Int)) : Bool := decide (15 < l.length) || l.any fun r => decide (25 < r.length)
theorem wide_no {l : List (List Int)} (h : wideB l = false) : l.length ≤ 15 ∧ ∀ r ∈ l, r.length ≤ 25 := by
  unfold wideB at h
  rw [Bool.or_eq_false_iff] at h
  refine ⟨by simpa using h.1, fun r hr => ?_⟩
  have := List.any_eq_false.1 h.2 r hr
  simpa using this
theorem wide_ca (w : World) (lo hi : Nat) (v : Value) (l : List (List Int)) (h : RdII w lo hi v l) (hlen : l.length ≤ maxLen) (hrl : ∀ r ∈ l, r.length ≤ maxLen) : Ca Try.prog 43 [v] w fun x w' => x = .bool (wideB l) ∧ Chg [] w w' := by
  obtain ⟨va, vc, rfl, hva⟩ := RdII.outI h
  simp only [maxLen] at hlen hrl
  refine q_of (Sat.nil w M0) Try.func43 rfl (by simp [Try.ntmps43]) ?_
  by_cases g1 : 15 < l.length
  · have e : wideB l = true := by unfold wideB; rw [decide_eq_true g1]; rfl
    rw [e]
    (refine q_seq (q_region (ql_pure tabOk rfl rfl (q_nil (q_seq (q_seq (q_region (ql_pure tabOk rfl rfl (ql_pure tabOk rfl rfl (ql_gtrT tabOk rfl rfl rfl (by omega) (q_nil (q_cond_true rfl ?_))))))))))); refine q_seq (q_region (ql_pure tabOk rfl rfl (q_nil (q_ret ?_)))))
    refine q_fin tabOk rfl (by repeat constructor) fun w hs => ?_
    exact ⟨rfl, hs.chg0⟩
  · (refine q_seq (q_region (ql_pure tabOk rfl rfl (q_nil (q_seq (q_seq (q_region (ql_pure tabOk rfl rfl (ql_pure tabOk rfl rfl (ql_gtrF tabOk rfl rfl rfl (by omega) (q_nil (q_cond_false rfl ?_))))))))))); refine q_skip (q_seq (q_seq (q_region ?_))); (iterate 3 refine ql_pure tabOk rfl rfl ?_); refine q_nil (q_block ?_))
    · skip
      refine q_loop (σ := Nat) (fun k => k ≤ l.length ∧ (l.take k).any (fun r => decide (25 < r.length)) = false) (fun k => l.length - k) (fun k => [(8, .slice va l.length vc), (9, .int .i64 l.length), (10, .int .i64 k)]) (fun _ => []) 0 ⟨by omega, by simp⟩ ⟨rfl, rfl, rfl, trivial⟩ (Sp.refl _) ?_
      rintro k ⟨hk, hany⟩ K hK
      (refine q_seq (q_region (ql_pure tabOk rfl rfl (q_nil (q_seq ?_)))))
      refine q_if rfl (fun hc => ?_) (fun hc => ?_)
      · have hk2 : k < l.length := by omega
        clear hc
        obtain ⟨vb, vo, hab⟩ := hva (by omega)
        cases hab
        obtain ⟨a1, c1, hr1, hc1⟩ := RdII.row h k hk2
        have hr1l := hrl _ (List.getElem_mem hk2)
        (refine q_skip (q_seq (q_block (q_seq (q_region ?_)))))
        refine ql_index tabOk rfl rfl rfl rfl rfl (by omega) (by omega) ?_
        refine ql_load1 tabOk rfl rfl rfl (fun w hs => hc1 _ hs.chg0) ?_
        (refine ql_pure tabOk rfl rfl (q_nil (q_seq (q_region ?_))); (iterate 3 refine ql_pure tabOk rfl rfl ?_); refine q_nil ?_)
        refine q_if rfl (fun hc => ?_) (fun hc => ?_)
        · have hx : decide (25 < l[k].length) = true := decide_eq_true (by omega)
          have e : wideB l = true := by unfold wideB; rw [any_stop (fun r : List Int => decide (25 < r.length)) _ hk2 hx, Bool.or_true]
          (refine q_seq (q_region (ql_pure tabOk rfl rfl (q_nil (q_ret ?_)))))
          refine q_fin tabOk rfl (by repeat constructor) fun w hs => ?_
          exact ⟨by rw [e]; rfl, hs.chg0⟩
        · have hx : decide (25 < l[k].length) = false := by simp; omega
          (refine q_skip (q_blk (q_region (ql_ar tabOk rfl rfl rfl rfl (by omega) (by omega) (ql_pure tabOk rfl rfl (q_nil ?_))))))
          exact hK (k + 1) _ _ ⟨by omega, any_take (fun r : List Int => decide (25 < r.length)) _ hk2 hany hx⟩ (by omega) ⟨rfl, rfl, rfl, trivial⟩ (Sp.refl _)
      · obtain rfl : k = l.length := by omega
        rw [List.take_length] at hany
        have e : wideB l = false := by unfold wideB; rw [hany, decide_eq_false g1]; rfl
        (refine q_exit _ rfl (q_seq (q_region (ql_pure tabOk rfl rfl (q_nil (q_ret ?_))))))
        refine q_fin tabOk rfl (by repeat constructor) fun w hs => ?_
        exact ⟨by rw [e]; rfl, hs.chg0⟩
theorem zonesA_ca (w : World) (lo hi : Nat) (v : Value) (l : List (List Int)) (most : Int) (h : RdII w lo hi v l) : Ca Try.prog 48 [v, .int .i64 most] w fun x w' => ∃ u : Value, x = .tuple #[u, .int .i64 (limitV l most)] ∧ Sat w M0 [.ow u 96 3 (zonesV l most).1.length (znC (zonesV l most).1)] w' := by
  by_cases h0 : limitV l most = 0
  · rw [h0]
    exact zones_ok w lo hi v l most h h0
  · have e : (zonesV l most).1 = [] := by unfold zonesV; rw [if_pos h0]
    rw [e]
    exact (zones_no w lo hi v l most h h0).mono fun x w' ⟨h1, h2⟩ => ⟨_, h1, Sat.ownil ((Sat.nil w M0).keep h2) _ _⟩
theorem breaksA_ca (w : World) (lo hi : Nat) (v : Value) (l : List (List Int)) (most : Int) (h : RdII w lo hi v l) : Ca Try.prog 52 [v, .int .i64 most] w fun x w' => ∃ u : Value, x = .tuple #[u, .int .i64 (limitV l most)] ∧ Sat w M0 [.ow u 3 1 (zonesV l most).1.length (ints ((zonesV l most).1.map (·.1)))] w' := by
  by_cases h0 : limitV l most = 0
  · rw [h0]
    exact breaks_ok w lo hi v l most h h0
  · have e : (zonesV l most).1 = [] := by unfold zonesV; rw [if_pos h0]
    rw [e]
    refine q_of (Sat.nil w M0) Try.func52 rfl (by simp [Try.ntmps52]) ?_
    (refine q_seq (q_region (ql_pure tabOk rfl rfl (ql_pure tabOk rfl rfl (q_nil (q_seq (q_region (ql_pure tabOk rfl rfl (ql_pure tabOk rfl rfl ?_)))))))))
    refine ql_callv (val := .tuple #[.slice none 0 0, .int .i64 (limitV l most)]) tabOk rfl rfl rfl rfl (fun w hs => ?_) ?_; exact zones_no w lo hi _ l most (RdII.keep h hs.chg0) h0
    (refine ql_pure tabOk rfl rfl (ql_ext tabOk rfl rfl rfl (ql_ext tabOk rfl rfl rfl (ql_pure tabOk rfl rfl (ql_pure tabOk rfl rfl (q_nil (q_seq (q_seq (q_region (ql_pure tabOk rfl rfl (ql_neqT tabOk rfl rfl rfl (by omega) (q_nil ?_))))))))))); refine q_cond_true rfl (q_seq (q_region ?_)); (iterate 3 refine ql_pure tabOk rfl rfl ?_); refine q_nil (q_ret ?_))
    refine q_fin tabOk rfl (by repeat constructor) fun w hs => ?_
    exact ⟨_, rfl, Sat.ownil (hs.sp (by repeat constructor)) _ _⟩
theorem regA_len (l : List (List Int)) : (regA l).length ≤ 12 ∧ ∀ r ∈ regA l, r.length ≤ 20 := by
  unfold regA
  split
  · rename_i h
    have hl := table_iff.1 h
    refine ⟨by rw [regV_len]; exact hl.l2, fun r hr => ?_⟩
    obtain ⟨i, hi, rfl⟩ := List.getElem_of_mem hr
    rw [reg_row hi]
    exact hl.n2
  · simp
theorem bgA_len (l : List (List Int)) (most : Int) : (bgA l most).length ≤ 12 := by
  unfold bgA
  split
  · rename_i h
    obtain ⟨hl, hm0, hm1⟩ := limit_iff.1 h
    obtain ⟨out, ho, _⟩ := bag_says hl hm0
    rw [ho]
    have := inc_len (bag_sound ho).2.2.1
    have := hl.l2
    simp only [Option.getD_some]
    unfold nV at *
    omega
  · simp
theorem zonesV_len (l : List (List Int)) (most : Int) : (zonesV l most).1.length ≤ 21 := by
  unfold zonesV
  split
  · simp
  · rename_i h
    have hl := (limit_iff.1 (show limitV l most = 0 by simpa using h)).1
    have h1 := hl.n2
    have h2 := zonesF_len (rs := regV l (nV l)) (most := most) (n := nV l) (nV l + 1) 0
    simp only
    omega
set_option maxRecDepth 20000 in
set_option maxHeartbeats 16000000 in
theorem skiWaxes_ca (w : World) (lo hi lo2 hi2 : Nat) (l : List (List Int)) (v u : Value) (from' to' most : Int) (br : List Int) (h : RdII w lo hi v l) (hlen : l.length ≤ maxLen) (hrl : ∀ r ∈ l, r.length ≤ maxLen) (h2 : RdI w lo2 hi2 u br) (hlen2 : br.length ≤ maxLen) :
    Ca Try.prog 7 [v, .int .i64 from', .int .i64 to', .int .i64 most, u] w fun r w' => r = .bool true ∧ Chg [] w w' := by
  obtain ⟨va, vc, rfl, hva⟩ := RdII.outI h
  obtain ⟨ua, uc, rfl, hua⟩ := RdI.outI h2
  refine q_of (Sat.nil w M0) Try.func7 rfl (by simp [Try.ntmps7]) ?_
  refine q_seq ?_
  refine q_region ?_
  (refine ql_pure tabOk rfl rfl (q_nil (q_seq (q_seq ?_))))
  refine q_cut (σ := {b : Bool // b = false → l.length ≤ 15 ∧ (∀ r ∈ l, r.length ≤ 25) ∧ br.length ≤ 30}) (fun b => [(0, .slice va l.length vc), (1, .int .i64 from'), (2, .int .i64 to'), (3, .int .i64 most), (4, .slice ua br.length uc), (48, .bool b.1)]) (fun _ => []) ?_ ?_
  rotate_left
  · intro K2 hK2
    (refine q_region (ql_pure tabOk rfl rfl ?_))
    refine ql_callv (val := .bool (wideB l)) tabOk rfl rfl rfl rfl (fun w hs => ?_) ?_; exact wide_ca w lo hi _ l (RdII.keep h hs.chg0) hlen hrl
    cases hwd : wideB l with
    | true =>
      (refine ql_pure tabOk rfl rfl ?_; (iterate 4 refine ql_gno rfl rfl rfl ?_); (iterate 3 refine ql_gnone rfl rfl ?_); refine ql_gno rfl rfl rfl (ql_pure tabOk rfl rfl (ql_pure tabOk rfl rfl ?_)); (iterate 3 refine ql_gno rfl rfl rfl ?_); refine ql_pure tabOk rfl rfl (q_nil ?_))
      exact hK2 ⟨true, fun e => (by cases e)⟩ _ _ ⟨rfl, rfl, rfl, rfl, rfl, rfl, trivial⟩ (Sp.refl _)
    | false =>
      obtain ⟨hl15, hr25⟩ := wide_no hwd
      by_cases g1 : l.length > 6
      · by_cases g2 : l.length ≤ 12
        · skip
          (refine ql_pure tabOk rfl rfl (ql_gyes rfl (ql_pure tabOk rfl rfl (ql_gyes rfl (ql_pure tabOk rfl rfl (ql_gyes rfl (ql_gtrT tabOk rfl rfl rfl (by omega) (ql_gyes rfl (ql_pure tabOk rfl rfl (ql_gyes rfl (ql_pure tabOk rfl rfl (ql_gyes rfl ?_))))))))))); refine ql_pure tabOk rfl rfl (ql_gyes rfl (ql_leqT tabOk rfl rfl rfl (by omega) (ql_gyes rfl ?_))); (iterate 3 refine ql_pure tabOk rfl rfl ?_); (iterate 3 refine ql_gno rfl rfl rfl ?_); refine ql_pure tabOk rfl rfl (q_nil ?_))
          exact hK2 ⟨true, fun e => (by cases e)⟩ _ _ ⟨rfl, rfl, rfl, rfl, rfl, rfl, trivial⟩ (Sp.refl _)
        · by_cases g3 : br.length > 30
          · skip
            (refine ql_pure tabOk rfl rfl (ql_gyes rfl (ql_pure tabOk rfl rfl (ql_gyes rfl (ql_pure tabOk rfl rfl (ql_gyes rfl (ql_gtrT tabOk rfl rfl rfl (by omega) (ql_gyes rfl (ql_pure tabOk rfl rfl (ql_gyes rfl (ql_pure tabOk rfl rfl (ql_gyes rfl ?_))))))))))); refine ql_pure tabOk rfl rfl (ql_gyes rfl (ql_leqF tabOk rfl rfl rfl (by omega) (ql_gyes rfl ?_))); (iterate 3 refine ql_pure tabOk rfl rfl ?_); refine ql_gyes rfl (ql_pure tabOk rfl rfl (ql_gyes rfl (ql_pure tabOk rfl rfl (ql_gyes rfl (ql_gtrT tabOk rfl rfl rfl (by omega) (ql_pure tabOk rfl rfl (q_nil ?_))))))))
            exact hK2 ⟨true, fun e => (by cases e)⟩ _ _ ⟨rfl, rfl, rfl, rfl, rfl, rfl, trivial⟩ (Sp.refl _)
          · skip
            (refine ql_pure tabOk rfl rfl (ql_gyes rfl (ql_pure tabOk rfl rfl (ql_gyes rfl (ql_pure tabOk rfl rfl (ql_gyes rfl (ql_gtrT tabOk rfl rfl rfl (by omega) (ql_gyes rfl (ql_pure tabOk rfl rfl (ql_gyes rfl (ql_pure tabOk rfl rfl (ql_gyes rfl ?_))))))))))); refine ql_pure tabOk rfl rfl (ql_gyes rfl (ql_leqF tabOk rfl rfl rfl (by omega) (ql_gyes rfl ?_))); (iterate 3 refine ql_pure tabOk rfl rfl ?_); refine ql_gyes rfl (ql_pure tabOk rfl rfl (ql_gyes rfl (ql_pure tabOk rfl rfl (ql_gyes rfl (ql_gtrF tabOk rfl rfl rfl (by omega) (ql_pure tabOk rfl rfl (q_nil ?_))))))))
            exact hK2 ⟨false, fun _ => ⟨hl15, hr25, by omega⟩⟩ _ _ ⟨rfl, rfl, rfl, rfl, rfl, rfl, trivial⟩ (Sp.refl _)
      · by_cases g3 : br.length > 30
        · skip
          (refine ql_pure tabOk rfl rfl (ql_gyes rfl (ql_pure tabOk rfl rfl (ql_gyes rfl (ql_pure tabOk rfl rfl (ql_gyes rfl (ql_gtrF tabOk rfl rfl rfl (by omega) (ql_gyes rfl (ql_pure tabOk rfl rfl ?_)))))))); (iterate 3 refine ql_gno rfl rfl rfl ?_); refine ql_gyes rfl ?_; (iterate 3 refine ql_pure tabOk rfl rfl ?_); refine ql_gyes rfl (ql_pure tabOk rfl rfl (ql_gyes rfl (ql_pure tabOk rfl rfl (ql_gyes rfl (ql_gtrT tabOk rfl rfl rfl (by omega) (ql_pure tabOk rfl rfl (q_nil ?_))))))))
          exact hK2 ⟨true, fun e => (by cases e)⟩ _ _ ⟨rfl, rfl, rfl, rfl, rfl, rfl, trivial⟩ (Sp.refl _)
        · skip
          (refine ql_pure tabOk rfl rfl (ql_gyes rfl (ql_pure tabOk rfl rfl (ql_gyes rfl (ql_pure tabOk rfl rfl (ql_gyes rfl (ql_gtrF tabOk rfl rfl rfl (by omega) (ql_gyes rfl (ql_pure tabOk rfl rfl ?_)))))))); (iterate 3 refine ql_gno rfl rfl rfl ?_); refine ql_gyes rfl ?_; (iterate 3 refine ql_pure tabOk rfl rfl ?_); refine ql_gyes rfl (ql_pure tabOk rfl rfl (ql_gyes rfl (ql_pure tabOk rfl rfl (ql_gyes rfl (ql_gtrF tabOk rfl rfl rfl (by omega) (ql_pure tabOk rfl rfl (q_nil ?_))))))))
          exact hK2 ⟨false, fun _ => ⟨hl15, hr25, by omega⟩⟩ _ _ ⟨rfl, rfl, rfl, rfl, rfl, rfl, trivial⟩ (Sp.refl _)
  rintro ⟨b, hb⟩
  cases b with
  | true =>
    (refine q_cond_true rfl (q_seq (q_region ?_)))
    refine ql_callv (val := .bool true) tabOk rfl rfl rfl rfl (fun w hs => ?_) ?_; exact awake_ca w
    (refine ql_pure tabOk rfl rfl (q_nil (q_ret ?_)))
    refine q_fin tabOk rfl (by repeat constructor) fun w hs => ?_
    exact ⟨rfl, hs.chg0⟩
  | false =>
  obtain ⟨hl15, hr25, hb30⟩ := hb rfl
  clear hlen hrl hlen2
  have hlm : l.length ≤ maxLen := by simp only [maxLen]; omega
  have hrm : ∀ r ∈ l, r.length ≤ maxLen := fun r hr => by have := hr25 r hr; simp only [maxLen]; omega
  (refine q_cond_false rfl (q_skip (q_seq (q_region (ql_pure tabOk rfl rfl ?_)))))
  refine ql_call (β := Value × List (Value × List Int)) tabOk [] _ M0 rfl rfl rfl rfl (Sp.refl _) (fun _ h => h.elim) (fun w' hs => cloneAll_ca w' lo hi _ l (RdII.keep h hs.chg0) (by omega) (fun r hr => by have := hr25 r hr; omega)) ?_
  rintro ⟨_, X⟩ ov ⟨rfl, hX⟩
  dsimp only [List.cons_append, List.nil_append] at hX ⊢
  (refine ql_pure tabOk rfl rfl ?_)
  refine ql_call (β := Value) tabOk [] _ M0 rfl rfl rfl rfl (Sp.refl _) (fun _ h => h.elim) (fun w' hs => cloneI_ca w' lo2 hi2 _ br (RdE.keep h2 hs.chg0) (by omega)) ?_
  rintro _ mv rfl
  dsimp only [List.cons_append, List.nil_append]
  (refine ql_pure tabOk rfl rfl (ql_pure tabOk rfl rfl (q_nil (q_seq (q_region (ql_pure tabOk rfl rfl ?_))))))
  refine ql_call (β := Value × List (Value × List Int)) tabOk [] _ M0 rfl rfl rfl rfl (Sp.refl _) (fun _ h => h.elim) (fun w' hs => regretsA_ca w' 0 w'.heap.size _ l (by have := own_rdII (t := 3) (v := ov) hs (X := X) (by repeat constructor) (by repeat constructor); rw [hX] at this; exact this)) ?_
  rintro ⟨ra, XA⟩ _ ⟨rfl, hXA⟩
  dsimp only [List.cons_append, List.nil_append] at hXA ⊢
  (refine ql_pure tabOk rfl rfl (ql_ext tabOk rfl rfl rfl (ql_ext tabOk rfl rfl rfl (ql_pure tabOk rfl rfl (ql_pure tabOk rfl rfl (q_nil (q_seq (q_region (ql_pure tabOk rfl rfl ?_)))))))))
  refine ql_call (β := Value × List (Value × List Int)) tabOk [] _ M0 rfl rfl rfl rfl (Sp.refl _) (fun _ h => h.elim) (fun w' hs => rregA_ca w' lo hi _ l (RdII.keep h hs.chg0) hlm hrm) ?_
  rintro ⟨rb, XB⟩ _ ⟨rfl, hXB⟩
  dsimp only [List.cons_append, List.nil_append] at hXB ⊢
  have hrg := regA_len l
  (refine ql_pure tabOk rfl rfl (ql_ext tabOk rfl rfl rfl (ql_ext tabOk rfl rfl rfl (ql_pure tabOk rfl rfl (ql_pure tabOk rfl rfl (q_nil (q_seq (q_seq (q_region (ql_pure tabOk rfl rfl (ql_pure tabOk rfl rfl (ql_neqF tabOk rfl rfl rfl (by omega) ?_))))))))))); refine ql_pure tabOk rfl rfl (ql_gyes rfl (ql_pure tabOk rfl rfl (ql_gyes rfl (ql_pure tabOk rfl rfl (ql_gyes rfl ?_))))))
  refine ql_callv (val := .bool true) tabOk rfl rfl rfl rfl (fun w hs => ?_) ?_; exact eqII_ca w 0 w.heap.size 0 w.heap.size ra rb (regA l) (by have := own_rdII (t := 3) (v := ra) hs (X := XA) (by repeat constructor) (by repeat constructor); rw [hXA] at this; exact this) (by have := own_rdII (t := 3) (v := rb) hs (X := XB) (by repeat constructor) (by repeat constructor); rw [hXB] at this; exact this) (by omega) (fun r hr => by have := hrg.2 r hr; omega)
  (refine ql_gyes rfl (ql_pure tabOk rfl rfl (ql_pure tabOk rfl rfl (q_nil (q_cond_false rfl (q_skip (q_seq (q_region ?_))))))); (iterate 3 refine ql_pure tabOk rfl rfl ?_))
  refine ql_callv (val := .tuple #[.int .i64 (bestV l from' to').1, .int .i64 (bestV l from' to').2.1, .int .i64 (bestV l from' to').2.2]) tabOk rfl rfl rfl rfl (fun w hs => ?_) ?_; exact wax_ca w 0 w.heap.size _ l from' to' (by have := own_rdII (t := 3) (v := ov) hs (X := X) (by repeat constructor) (by repeat constructor); rw [hX] at this; exact this)
  (refine ql_pure tabOk rfl rfl ?_; (iterate 3 refine ql_ext tabOk rfl rfl rfl ?_); (iterate 3 refine ql_pure tabOk rfl rfl ?_); refine q_nil (q_seq (q_region ?_)); (iterate 3 refine ql_pure tabOk rfl rfl ?_))
  refine ql_callv (val := .tuple #[.int .i64 (bestV l from' to').1, .int .i64 (bestV l from' to').2.1, .int .i64 (bestV l from' to').2.2]) tabOk rfl rfl rfl rfl (fun w hs => ?_) ?_; exact rwax_ca w lo hi _ l from' to' (RdII.keep h hs.chg0) hlm hrm
  (refine ql_pure tabOk rfl rfl ?_; (iterate 3 refine ql_ext tabOk rfl rfl rfl ?_); (iterate 3 refine ql_pure tabOk rfl rfl ?_); refine q_nil (q_seq (q_seq (q_region (ql_pure tabOk rfl rfl (ql_pure tabOk rfl rfl (ql_neqF tabOk rfl rfl rfl (by omega) (ql_pure tabOk rfl rfl (ql_gyes rfl (ql_pure tabOk rfl rfl (ql_gyes rfl (ql_pure tabOk rfl rfl ?_))))))))))); refine ql_gyes rfl (ql_neqF tabOk rfl rfl rfl (by omega) (ql_pure tabOk rfl rfl (ql_pure tabOk rfl rfl (ql_gyes rfl (ql_pure tabOk rfl rfl (ql_gyes rfl (ql_pure tabOk rfl rfl (ql_gyes rfl (ql_neqF tabOk rfl rfl rfl (by omega) (ql_pure tabOk rfl rfl (q_nil ?_))))))))))); refine q_cond_false rfl (q_skip (q_seq (q_region (ql_pure tabOk rfl rfl (ql_pure tabOk rfl rfl ?_))))))
  refine ql_call (β := Value) tabOk [] _ M0 rfl rfl rfl rfl (Sp.refl _) (fun _ h => h.elim) (fun w' hs => bagA_ca w' 0 w'.heap.size _ l most (by have := own_rdII (t := 3) (v := ov) hs (X := X) (by repeat constructor) (by repeat constructor); rw [hX] at this; exact this)) ?_
  rintro ga _ rfl
  dsimp only [List.cons_append, List.nil_append]
  (refine ql_pure tabOk rfl rfl (ql_ext tabOk rfl rfl rfl (ql_ext tabOk rfl rfl rfl (ql_pure tabOk rfl rfl (ql_pure tabOk rfl rfl (q_nil (q_seq (q_region (ql_pure tabOk rfl rfl (ql_pure tabOk rfl rfl ?_))))))))))
  refine ql_call (β := Value) tabOk [] _ M0 rfl rfl rfl rfl (Sp.refl _) (fun _ h => h.elim) (fun w' hs => rbag_ca w' lo hi _ l most (RdII.keep h hs.chg0) hlm hrm) ?_
  rintro gb _ rfl
  dsimp only [List.cons_append, List.nil_append]
  have hgl := bgA_len l most
  (refine ql_pure tabOk rfl rfl (ql_ext tabOk rfl rfl rfl (ql_ext tabOk rfl rfl rfl (ql_pure tabOk rfl rfl (ql_pure tabOk rfl rfl (q_nil (q_seq (q_seq (q_region (ql_pure tabOk rfl rfl (ql_pure tabOk rfl rfl (ql_neqF tabOk rfl rfl rfl (by omega) ?_))))))))))); refine ql_pure tabOk rfl rfl (ql_gyes rfl (ql_pure tabOk rfl rfl (ql_gyes rfl (ql_pure tabOk rfl rfl (ql_gyes rfl ?_))))))
  refine ql_callv (val := .bool true) tabOk rfl rfl rfl rfl (fun w hs => ?_) ?_; exact eqI_ca w 0 w.heap.size 0 w.heap.size ga gb (chI (bgA l most)) (hs.rdI (v := ga) (t := 3) (n := (bgA l most).length) (by repeat constructor) (chI_len _).symm) (hs.rdI (v := gb) (t := 3) (n := (bgA l most).length) (by repeat constructor) (chI_len _).symm) (by rw [chI_len]; omega)
  (refine ql_gyes rfl (ql_pure tabOk rfl rfl (ql_pure tabOk rfl rfl (q_nil (q_cond_false rfl (q_skip (q_seq (q_region (ql_pure tabOk rfl rfl (ql_pure tabOk rfl rfl ?_))))))))))
  refine ql_call (β := Value) tabOk [] _ M0 rfl rfl rfl rfl (Sp.refl _) (fun _ h => h.elim) (fun w' hs => zonesA_ca w' 0 w'.heap.size _ l most (by have := own_rdII (t := 3) (v := ov) hs (X := X) (by repeat constructor) (by repeat constructor); rw [hX] at this; exact this)) ?_
  rintro za _ rfl
  dsimp only [List.cons_append, List.nil_append]
  refine ql_fact (fun w hs => hs.slice2 (v := za) (by repeat constructor)) ?_
  rintro ⟨zp, zc, rfl⟩
  (refine ql_pure tabOk rfl rfl (ql_ext tabOk rfl rfl rfl (ql_ext tabOk rfl rfl rfl (ql_pure tabOk rfl rfl (ql_pure tabOk rfl rfl (q_nil (q_seq (q_region (ql_pure tabOk rfl rfl (ql_pure tabOk rfl rfl ?_))))))))))
  refine ql_call (β := Value) tabOk [] _ M0 rfl rfl rfl rfl (Sp.refl _) (fun _ h => h.elim) (fun w' hs => rzones_ca w' lo hi _ l most (RdII.keep h hs.chg0) hlm hrm) ?_
  rintro zb _ rfl
  dsimp only [List.cons_append, List.nil_append]
  refine ql_fact (fun w hs => hs.slice2 (v := zb) (by repeat constructor)) ?_
  rintro ⟨yp, yc, rfl⟩
  have hzl := zonesV_len l most
  obtain ⟨Z, hZ⟩ : ∃ Z, Z = (zonesV l most).1 := ⟨_, rfl⟩
  rw [← hZ] at hzl ⊢
  (refine ql_pure tabOk rfl rfl (ql_ext tabOk rfl rfl rfl (ql_ext tabOk rfl rfl rfl (ql_pure tabOk rfl rfl (ql_pure tabOk rfl rfl (q_nil (q_seq (q_seq (q_region (ql_pure tabOk rfl rfl (ql_pure tabOk rfl rfl (ql_neqF tabOk rfl rfl rfl (by omega) ?_))))))))))); refine ql_pure tabOk rfl rfl (ql_gyes rfl (ql_pure tabOk rfl rfl (ql_gyes rfl (ql_pure tabOk rfl rfl (ql_gyes rfl (ql_pure tabOk rfl rfl (ql_gyes rfl (ql_pure tabOk rfl rfl (ql_gyes rfl (ql_neqF tabOk rfl rfl rfl (by omega) (ql_pure tabOk rfl rfl ?_))))))))))); refine q_nil (q_cond_false rfl (q_skip (q_seq (q_seq (q_region ?_))))); (iterate 3 refine ql_pure tabOk rfl rfl ?_); refine q_nil (q_block ?_))
  refine q_loop (σ := Nat) (fun k => k ≤ Z.length) (fun k => Z.length - k) (fun k => [(0, .slice va l.length vc), (3, .int .i64 most), (4, .slice ua br.length uc), (11, ov), (12, mv), (23, .slice zp Z.length zc), (24, .slice yp Z.length yc), (146, .int .i64 Z.length), (147, .int .i64 k)])
    (fun _ => [.ow (.slice zp Z.length zc) 96 3 Z.length (znC Z), .ow (.slice yp Z.length yc) 95 3 Z.length (znC Z), .ow mv 3 1 br.length (ints br), un (rowsO 3 X), .ow ov 26 1 l.length (X.map (·.1))]) 0 (by omega) ⟨rfl, rfl, rfl, rfl, rfl, rfl, rfl, rfl, rfl, trivial⟩ (by repeat constructor) ?_
  rintro k hk K hK
  (refine q_seq (q_region (ql_pure tabOk rfl rfl (q_nil (q_seq ?_)))))
  refine q_if rfl (fun hc => ?_) (fun hc => ?_)
  · have hk2 : k < Z.length := by omega
    clear hc
    refine q_fact (fun w hs => hs.ownSome (v := .slice zp Z.length zc) (by repeat constructor) (by omega)) ?_
    rintro ⟨zg, zc', e1⟩
    cases e1
    refine q_fact (fun w hs => hs.ownSome (v := .slice yp Z.length yc) (by repeat constructor) (by omega)) ?_
    rintro ⟨yg, yc', e1⟩
    cases e1
    (refine q_skip (q_seq (q_block (q_seq (q_region (ql_pure tabOk rfl rfl (ql_pure tabOk rfl rfl (q_nil (q_seq ?_)))))))))
    refine q_draw _ [] (Sp.refl _) (by kernel_rfl) (by kernel_rfl) ?_
    (refine qf_pure tabOk rfl rfl rfl (qf_pure tabOk rfl rfl rfl ?_))
    refine qf_index tabOk rfl rfl rfl rfl rfl (by omega) (by omega) ?_
    refine qf_loadA (cs := [.int .i64 Z[k].1, .int .i64 Z[k].2.1, .int .i64 Z[k].2.2]) tabOk rfl rfl rfl rfl (fun w hs q hq => zn_at hs (g := zg) (by repeat constructor) hk2 q hq) ?_
    (refine qf_pure tabOk rfl rfl rfl (qf_pure tabOk rfl rfl rfl ?_))
    refine qf_index tabOk rfl rfl rfl rfl rfl (by omega) (by omega) ?_
    refine qf_loadA (cs := [.int .i64 Z[k].1, .int .i64 Z[k].2.1, .int .i64 Z[k].2.2]) tabOk rfl rfl rfl rfl (fun w hs q hq => zn_at hs (g := yg) (by repeat constructor) hk2 q hq) ?_
    skip
    refine qf_neF (xs := [.int .i64 Z[k].1, .int .i64 Z[k].2.1, .int .i64 Z[k].2.2]) (ys := [.int .i64 Z[k].1, .int .i64 Z[k].2.1, .int .i64 Z[k].2.2]) [some .i64, some .i64, some .i64] rzone_flat rfl rfl rfl rfl rfl ?_
    rw [eqL_refl]
    (refine qf_nil (q_cond_false rfl (q_skip (q_blk (q_region (ql_ar tabOk rfl rfl rfl rfl (by omega) (by omega) (ql_pure tabOk rfl rfl (q_nil ?_))))))))
    exact hK (k + 1) _ _ (by omega) (by omega) ⟨rfl, rfl, rfl, rfl, rfl, rfl, rfl, rfl, rfl, trivial⟩ (by repeat constructor)
  · clear hc hK
    (refine q_exit _ rfl (q_seq (q_region ?_)); (iterate 3 refine ql_pure tabOk rfl rfl ?_))
    refine ql_callv (val := .tuple #[.bool (breaksV l most br).1, .int .i64 (breaksV l most br).2]) tabOk rfl rfl rfl rfl (fun w hs => ?_) ?_; exact breaksShow_ca w 0 w.heap.size 0 w.heap.size _ mv l most br (by have := own_rdII (t := 3) (v := ov) hs (X := X) (by repeat constructor) (by repeat constructor); rw [hX] at this; exact this) (hs.rdI (v := mv) (l := br) (t := 3) (n := br.length) (by repeat constructor) rfl) (by omega)
    (refine ql_pure tabOk rfl rfl (ql_ext tabOk rfl rfl rfl (ql_ext tabOk rfl rfl rfl (ql_pure tabOk rfl rfl (ql_pure tabOk rfl rfl (q_nil (q_seq (q_region ?_))))))); (iterate 3 refine ql_pure tabOk rfl rfl ?_))
    refine ql_callv (val := .tuple #[.bool (breaksV l most br).1, .int .i64 (breaksV l most br).2]) tabOk rfl rfl rfl rfl (fun w hs => ?_) ?_; exact rbreaks_ca w lo hi lo2 hi2 _ _ l most br (RdII.keep h hs.chg0) hlm hrm (RdE.keep h2 hs.chg0) (by omega)
    (refine ql_pure tabOk rfl rfl (ql_ext tabOk rfl rfl rfl (ql_ext tabOk rfl rfl rfl (ql_pure tabOk rfl rfl (ql_pure tabOk rfl rfl (q_nil (q_seq (q_seq (q_region (ql_pure tabOk rfl rfl (ql_pure tabOk rfl rfl ?_)))))))))))
    refine ql_neb (by kernel_rfl) rfl rfl rfl ?_
    rw [beq_self_eq_true]
    (refine ql_pure tabOk rfl rfl (ql_gyes rfl (ql_pure tabOk rfl rfl (ql_gyes rfl (ql_pure tabOk rfl rfl (ql_gyes rfl (ql_neqF tabOk rfl rfl rfl (by omega) (ql_pure tabOk rfl rfl (q_nil (q_cond_false rfl (q_skip (q_seq ?_))))))))))); refine q_region (ql_pure tabOk rfl rfl (ql_pure tabOk rfl rfl ?_)))
    refine ql_call (β := Value) tabOk [] _ M0 rfl rfl rfl rfl (Sp.refl _) (fun _ h => h.elim) (fun w' hs => breaksA_ca w' 0 w'.heap.size _ l most (by have := own_rdII (t := 3) (v := ov) hs (X := X) (by repeat constructor) (by repeat constructor); rw [hX] at this; exact this)) ?_
    rintro bv _ rfl
    dsimp only [List.cons_append, List.nil_append]
    refine ql_fact (fun w hs => hs.slice2 (v := bv) (by repeat constructor)) ?_
    rintro ⟨bp, bc, rfl⟩
    rw [← hZ]
    (refine ql_pure tabOk rfl rfl (ql_ext tabOk rfl rfl rfl (ql_ext tabOk rfl rfl rfl (ql_pure tabOk rfl rfl (ql_pure tabOk rfl rfl (q_nil (q_seq (q_seq (q_region (ql_pure tabOk rfl rfl (ql_pure tabOk rfl rfl ?_)))))))))))
    refine ql_callv (val := .int .i64 (limitV l most)) tabOk rfl rfl rfl rfl (fun w hs => ?_) ?_; exact rlimit_ca w lo hi _ l most (RdII.keep h hs.chg0) hlm hrm
    by_cases h0 : limitV l most = 0
    · obtain ⟨hl, hm0, hm1⟩ := limit_iff.1 h0
      have hst := (starts_say hl hm0 hm1).2
      rw [← (show (zonesV l most).1 = zonesF (regV l (nV l)) most (nV l) (nV l + 1) 0 from by unfold zonesV; rw [if_neg (by simpa using h0)]), ← hZ] at hst
      rw [h0]
      (refine ql_pure tabOk rfl rfl (q_nil (q_seq (q_region (ql_pure tabOk rfl rfl (ql_pure tabOk rfl rfl (ql_neqF tabOk rfl rfl rfl (by omega) (ql_pure tabOk rfl rfl (ql_gyes rfl (ql_pure tabOk rfl rfl (ql_gyes rfl (ql_neqF tabOk rfl rfl rfl (by omega) ?_))))))))))); refine ql_gyes rfl (ql_pure tabOk rfl rfl ?_); (iterate 3 refine ql_gno rfl rfl rfl ?_); refine ql_gyes rfl (ql_pure tabOk rfl rfl (ql_pure tabOk rfl rfl (q_nil (q_cond_false rfl (q_skip (q_seq (q_seq (q_region (ql_pure tabOk rfl rfl (ql_eqlT tabOk rfl rfl rfl (by omega) (q_nil ?_))))))))))); refine q_cond_true rfl (q_seq (q_region ?_)); (iterate 3 refine ql_pure tabOk rfl rfl ?_))
      refine ql_callv (val := .tuple #[.bool true, .int .i64 0]) tabOk rfl rfl rfl rfl (fun w hs => ?_) ?_; exact by have := rbreaks_ca w lo hi 0 w.heap.size _ (.slice bp Z.length bc) l most (Z.map (·.1)) (RdII.keep h hs.chg0) hlm hrm (hs.rdI (v := .slice bp Z.length bc) (l := Z.map (·.1)) (t := 3) (n := Z.length) (by repeat constructor) (by simp)) (by rw [List.length_map]; omega); rw [hst] at this; exact this
      (refine ql_pure tabOk rfl rfl (ql_ext tabOk rfl rfl rfl (ql_ext tabOk rfl rfl rfl (ql_pure tabOk rfl rfl (ql_pure tabOk rfl rfl (q_nil (q_seq (q_region (ql_pure tabOk rfl rfl (ql_neqF tabOk rfl rfl rfl (by omega) (ql_pure tabOk rfl rfl (ql_gyes rfl ?_))))))))))); refine ql_pure tabOk rfl rfl (ql_gyes rfl ?_); (iterate 3 refine ql_pure tabOk rfl rfl ?_); refine ql_gyes rfl (ql_pure tabOk rfl rfl (ql_gyes rfl (ql_pure tabOk rfl rfl (ql_gyes rfl (ql_pure tabOk rfl rfl (ql_gyes rfl (ql_pure tabOk rfl rfl (ql_gyes rfl (ql_neqF tabOk rfl rfl rfl (by omega) (ql_pure tabOk rfl rfl (q_nil ?_))))))))))); refine q_cond_false rfl (q_skip (q_seq (q_region (ql_pure tabOk rfl rfl (ql_pure tabOk rfl rfl ?_))))))
      refine ql_callv (val := .bool true) tabOk rfl rfl rfl rfl (fun w hs => ?_) ?_; exact eqII_ca w 0 w.heap.size lo hi ov _ l (by have := own_rdII (t := 3) (v := ov) hs (X := X) (by repeat constructor) (by repeat constructor); rw [hX] at this; exact this) (RdII.keep h hs.chg0) (by omega) (fun r hr => by have := hr25 r hr; omega)
      (refine ql_pure tabOk rfl rfl (ql_gyes rfl (ql_pure tabOk rfl rfl (ql_gyes rfl (ql_pure tabOk rfl rfl (ql_gyes rfl ?_))))))
      refine ql_callv (val := .bool true) tabOk rfl rfl rfl rfl (fun w hs => ?_) ?_; exact eqI_ca w 0 w.heap.size lo2 hi2 mv _ br (hs.rdI (v := mv) (l := br) (t := 3) (n := br.length) (by repeat constructor) rfl) (RdE.keep h2 hs.chg0) (by omega)
      (refine ql_pure tabOk rfl rfl (ql_pure tabOk rfl rfl (ql_gyes rfl ?_)))
      refine ql_callv (val := .bool true) tabOk rfl rfl rfl rfl (fun w hs => ?_) ?_; exact awake_ca w
      (refine ql_pure tabOk rfl rfl (ql_pure tabOk rfl rfl (q_nil (q_ret ?_))))
      refine q_fin tabOk rfl (by repeat constructor) fun w hs => ?_
      exact ⟨rfl, hs.chg0⟩
    · have hz0 : Z.length = 0 := by rw [hZ]; unfold zonesV; rw [if_pos h0]; rfl
      (refine ql_pure tabOk rfl rfl (q_nil (q_seq (q_region (ql_pure tabOk rfl rfl (ql_pure tabOk rfl rfl (ql_neqF tabOk rfl rfl rfl (by omega) (ql_pure tabOk rfl rfl (ql_gyes rfl (ql_pure tabOk rfl rfl (ql_gyes rfl (ql_neqT tabOk rfl rfl rfl (by omega) ?_))))))))))); refine ql_gyes rfl (ql_pure tabOk rfl rfl (ql_gyes rfl (ql_pure tabOk rfl rfl (ql_gyes rfl (ql_pure tabOk rfl rfl (ql_gyes rfl (ql_gtrF tabOk rfl rfl rfl (by omega) (ql_gyes rfl (ql_pure tabOk rfl rfl (ql_pure tabOk rfl rfl (q_nil ?_))))))))))); refine q_cond_false rfl (q_skip (q_seq (q_seq (q_region (ql_pure tabOk rfl rfl (ql_eqlF tabOk rfl rfl rfl (by omega) (q_nil (q_cond_false rfl (q_skip (q_seq (q_region ?_))))))))))); refine ql_pure tabOk rfl rfl (ql_pure tabOk rfl rfl ?_))
      refine ql_callv (val := .bool true) tabOk rfl rfl rfl rfl (fun w hs => ?_) ?_; exact eqII_ca w 0 w.heap.size lo hi ov _ l (by have := own_rdII (t := 3) (v := ov) hs (X := X) (by repeat constructor) (by repeat constructor); rw [hX] at this; exact this) (RdII.keep h hs.chg0) (by omega) (fun r hr => by have := hr25 r hr; omega)
      (refine ql_pure tabOk rfl rfl (ql_gyes rfl (ql_pure tabOk rfl rfl (ql_gyes rfl (ql_pure tabOk rfl rfl (ql_gyes rfl ?_))))))
      refine ql_callv (val := .bool true) tabOk rfl rfl rfl rfl (fun w hs => ?_) ?_; exact eqI_ca w 0 w.heap.size lo2 hi2 mv _ br (hs.rdI (v := mv) (l := br) (t := 3) (n := br.length) (by repeat constructor) rfl) (RdE.keep h2 hs.chg0) (by omega)
      (refine ql_pure tabOk rfl rfl (ql_pure tabOk rfl rfl (ql_gyes rfl ?_)))
      refine ql_callv (val := .bool true) tabOk rfl rfl rfl rfl (fun w hs => ?_) ?_; exact awake_ca w
      (refine ql_pure tabOk rfl rfl (ql_pure tabOk rfl rfl (q_nil (q_ret ?_))))
      refine q_fin tabOk rfl (by repeat constructor) fun w hs => ?_
      exact ⟨rfl, hs.chg0⟩
end Go.Proofs.Ytcmpdmobmbbplaa
