/- My texts K26, D1, D2, D3, D4, K29, D5, K27, K28, W13, K30, B33, K41, B34, W19, E0, E1, E2, E3, K42, E4, E5, joined: a claim takes at most 60 files. -/
import Derived.Test.YtcmpdmobmbbplaaJ3

/- Walks: the examples of the chapter. -/
namespace Go.Proofs.Ytcmpdmobmbbplaa
open Go Go.Eng

theorem Blk.rdS' {w : World} {b c n : Nat} {l : List (Int × Int)} {t : TypeId} (h : Blk w b (spC l) t) (hn : n = l.length) : RdS w 0 w.heap.size (.slice (some ⟨b, 0, none⟩) n c) l := by
  subst hn
  exact RdS.of (Blk.rdN (sz := 2) h (spC_length l))
theorem Blk.rdR' {w : World} {b c n : Nat} {l : List Rn} {t : TypeId} (h : Blk w b (rnC l) t) (hn : n = l.length) : RdR w 0 w.heap.size (.slice (some ⟨b, 0, none⟩) n c) l := by
  subst hn
  exact RdR.of (Blk.rdN (sz := 3) h (rnC_length l))
theorem four_ca (w : World) : Ca Try.prog 76 [] w fun x w' => ∃ b : Nat, x = .agg (lbC fourL (.slice (some ⟨b, 0, none⟩) 4 4)).toArray ∧ Sat w M0 [.pt b (rnC fourL.runs) 33] w' := by
  refine q_of (Sat.nil w M0) Try.func76 rfl (by simp [Try.ntmps76]) ?_
  (refine q_seq (q_region ?_))
  refine ql_alloc zero25 rfl (fun b0 => ?_)
  (refine q_nil (q_seq (q_region ?_)))
  refine ql_mk #[.int .i64 0, .int .i64 1, .int .i64 8] rfl (by kernel_rfl) rfl ?_
  refine ql_mk #[.int .i64 1, .int .i64 2, .int .i64 3] rfl (by kernel_rfl) rfl ?_
  refine ql_mk #[.int .i64 2, .int .i64 1, .int .i64 (-9)] rfl (by kernel_rfl) rfl ?_
  refine ql_mk #[.int .i64 3, .int .i64 0, .int .i64 (-6)] rfl (by kernel_rfl) rfl ?_
  refine ql_mkS 33 (rnC fourL.runs) rfl (by kernel_rfl) rfl (fun b5 => ?_)
  refine ql_mk #[.int .i64 4, .int .i64 5, .slice (some ⟨b5, 0, none⟩) 4 4] rfl (by kernel_rfl) rfl ?_
  (refine ql_setA tabOk rfl rfl rfl rfl rfl (by repeat constructor) rfl ?_; refine q_nil (q_ret ?_))
  refine q_fin tabOk rfl (by repeat constructor) fun w hs => ?_
  exact ⟨b5, rfl, hs.sp (by repeat constructor)⟩
theorem three_ca (w : World) : Ca Try.prog 77 [] w fun x w' => ∃ y : Nat × Nat × Nat × Nat, x = .slice (some ⟨y.2.2.2, 0, none⟩) 3 3 ∧ Sat w M0 [.pt y.2.2.2 [.slice (some ⟨y.1, 0, none⟩) 4 4, .slice (some ⟨y.2.1, 0, none⟩) 4 4, .slice (some ⟨y.2.2.1, 0, none⟩) 4 4] 26, .pt y.2.2.1 (ints [9, 9, 2, 1]) 3, .pt y.2.1 (ints [6, 2, 3, 8]) 3, .pt y.1 (ints [5, 4, 9, 9]) 3] w' := by
  refine q_of (Sat.nil w M0) Try.func77 rfl (by simp [Try.ntmps77]) ?_
  (refine q_seq (q_region (ql_pure tabOk rfl rfl (q_nil (q_seq (q_region ?_))))))
  refine ql_mkS 3 (ints [5, 4, 9, 9]) rfl (by kernel_rfl) rfl (fun c1 => ?_)
  refine ql_mkS 3 (ints [6, 2, 3, 8]) rfl (by kernel_rfl) rfl (fun c2 => ?_)
  refine ql_mkS 3 (ints [9, 9, 2, 1]) rfl (by kernel_rfl) rfl (fun c3 => ?_)
  refine ql_mkS 26 [.slice (some ⟨c1, 0, none⟩) 4 4, .slice (some ⟨c2, 0, none⟩) 4 4, .slice (some ⟨c3, 0, none⟩) 4 4] rfl (by kernel_rfl) rfl (fun c4 => ?_)
  (refine ql_pure tabOk rfl rfl (q_nil (q_ret ?_)))
  refine q_fin tabOk rfl (by repeat constructor) fun w hs => ?_
  exact ⟨(c1, c2, c3, c4), rfl, hs.sp (by repeat constructor)⟩
theorem six_ca (w : World) : Ca Try.prog 79 [] w fun x w' => ∃ b : Nat, x = .slice (some ⟨b, 0, none⟩) 6 6 ∧ Sat w M0 [.pt b (ints sixL) 3] w' := by
  refine q_of (Sat.nil w M0) Try.func79 rfl (by simp [Try.ntmps79]) ?_
  (refine q_seq (q_region (ql_pure tabOk rfl rfl (q_nil (q_seq (q_region ?_))))))
  refine ql_mkS 3 (ints sixL) rfl (by kernel_rfl) rfl (fun c1 => ?_)
  (refine ql_pure tabOk rfl rfl (q_nil (q_ret ?_)))
  refine q_fin tabOk rfl (by repeat constructor) fun w hs => ?_
  exact ⟨c1, rfl, hs.sp (by repeat constructor)⟩
theorem span_ca (lo hi : Int) (w : World) : Ca Try.prog 28 [.int .i64 lo, .int .i64 hi] w fun x w' => x = rtV (lo, hi) ∧ Chg [] w w' := by
  refine q_of (Sat.nil w M0) Try.func28 rfl (by simp [Try.ntmps28]) ?_
  (refine q_seq (q_region ?_))
  refine ql_alloc zero45 rfl (fun b4 => ?_)
  (refine q_nil (q_seq (q_region (ql_pure tabOk rfl rfl (ql_pure tabOk rfl rfl ?_)))))
  refine ql_mk #[.int .i64 lo, .int .i64 hi] rfl (by kernel_rfl) rfl ?_
  (refine ql_setA tabOk rfl rfl rfl rfl rfl (by repeat constructor) rfl ?_; refine q_nil (q_ret ?_))
  refine q_fin tabOk rfl (by repeat constructor) fun w hs => ?_
  exact ⟨rfl, hs.chg0⟩
theorem blk_II {w : World} {c1 c2 c3 c4 : Nat} {t1 t2 t3 t4 : TypeId} {l1 l2 l3 : List Int} {n1 n2 n3 : Nat} (e1 : n1 = l1.length) (e2 : n2 = l2.length) (e3 : n3 = l3.length) (h1 : Blk w c1 (ints l1) t1) (h2 : Blk w c2 (ints l2) t2) (h3 : Blk w c3 (ints l3) t3)
    (h4 : Blk w c4 [.slice (some ⟨c1, 0, none⟩) n1 n1, .slice (some ⟨c2, 0, none⟩) n2 n2, .slice (some ⟨c3, 0, none⟩) n3 n3] t4) : RdII w 0 w.heap.size (.slice (some ⟨c4, 0, none⟩) 3 3) [l1, l2, l3] := by
  subst e1 e2 e3
  refine ⟨[.slice (some ⟨c1, 0, none⟩) l1.length l1.length, .slice (some ⟨c2, 0, none⟩) l2.length l2.length, .slice (some ⟨c3, 0, none⟩) l3.length l3.length], RdE.one (by have := Blk.rdN (c := 3) (sz := 1) (q := 3) h4 rfl; exact this) (by simp [oneV]), rfl, fun i hi hi' => ?_⟩
  obtain rfl | rfl | rfl : i = 0 ∨ i = 1 ∨ i = 2 := by simp at hi; omega
  · exact Blk.rdI h1
  · exact Blk.rdI h2
  · exact Blk.rdI h3
theorem aw_ok : fourL.Ok ∧ NoC fourL.ord fourL.n := agreed_iff.1 aw_check
theorem aw_plan : PlanOk fourL 4 := planned_iff.1 (by decide +kernel)
theorem aw_few2 : planO fourL.n 4 fourL.ord = 2 := by decide +kernel
theorem aw_n : fourL.n = 4 := by decide
theorem aw_ord2 : cnt fourL.ord fourL.n (2 ^ fourL.n - 1) = 3 := aw_orders
theorem aw_pl2 : plC fourL fourL.ord fourL.n = [(1, 1), (2, 3), (3, 4), (2, 4)] := aw_places
theorem aw_wax2 : bestV threeT 0 2 = (1, 1, 0) := by decide +kernel
theorem aw_lim : limitV threeT 1 = 0 := by decide +kernel
set_option maxHeartbeats 4000000 in
set_option maxRecDepth 4000 in
theorem awake_ca (w : World) : Ca Try.prog 18 [] w fun v w' => v = .bool true ∧ Chg [] w w' := by
  refine q_of (Sat.nil w M0) Try.func18 rfl (by simp [Try.ntmps18]) ?_
  have hF : ∀ w' b, Blk w' b (rnC fourL.runs) 33 → RdR w' 0 w'.heap.size (.slice (some ⟨b, 0, none⟩) 4 4) fourL.runs := fun w' b hb => Blk.rdR' hb rfl
  (refine q_seq (q_region (ql_pure tabOk rfl rfl (q_nil (q_seq (q_region ?_))))))
  refine ql_call (β := Nat) tabOk [] _ M0 rfl rfl rfl rfl (Sp.refl _) (fun _ h => h.elim) (fun w' hs => four_ca w') ?_
  rintro b1 _ rfl
  dsimp only [List.cons_append, List.nil_append]
  refine ql_call (β := Value) tabOk [] _ M0 rfl rfl rfl rfl (Sp.refl _) (fun _ h => h.elim) (fun w' hs => places_ok w' 0 w'.heap.size fourL _ (hF w' b1 (hs.blk (by repeat constructor))) aw_ok.1 aw_ok.2) ?_
  rintro va _ rfl
  rw [aw_pl2, aw_n]
  dsimp only [List.cons_append, List.nil_append]
  refine ql_fact (fun w hs => hs.ownSome (v := va) (by repeat constructor) (by decide)) ?_
  rintro ⟨a1, a2, rfl⟩
  (refine ql_pure tabOk rfl rfl (ql_ext tabOk rfl rfl rfl (ql_ext tabOk rfl rfl rfl (ql_pure tabOk rfl rfl (ql_pure tabOk rfl rfl (q_nil (q_seq (q_region ?_))))))))
  refine ql_call (β := Nat) tabOk [] _ M0 rfl rfl rfl rfl (Sp.refl _) (fun _ h => h.elim) (fun w' hs => four_ca w') ?_
  rintro b2 _ rfl
  dsimp only [List.cons_append, List.nil_append]
  refine ql_callv (val := .tuple #[.int .i64 3, .int .i64 0]) tabOk rfl rfl rfl rfl (fun w hs => ?_) ?_; exact by have := orders_ok w 0 w.heap.size fourL _ (hF w b2 (hs.blk (by repeat constructor))) aw_ok.1 aw_ok.2; rw [aw_ord2] at this; exact this
  (refine ql_pure tabOk rfl rfl (ql_ext tabOk rfl rfl rfl (ql_ext tabOk rfl rfl rfl (ql_pure tabOk rfl rfl (ql_pure tabOk rfl rfl (q_nil (q_seq (q_region ?_))))))))
  refine ql_call (β := Nat) tabOk [] _ M0 rfl rfl rfl rfl (Sp.refl _) (fun _ h => h.elim) (fun w' hs => four_ca w') ?_
  rintro b3 _ rfl
  dsimp only [List.cons_append, List.nil_append]
  refine ql_mkS 3 (ints [0, 2]) rfl (by kernel_rfl) rfl (fun c1 => ?_)
  refine ql_callv (val := .tuple #[.bool true, .int .i64 0]) tabOk rfl rfl rfl rfl (fun w hs => ?_) ?_; exact by have := chainShows_ca w 0 w.heap.size 0 w.heap.size fourL _ 0 2 _ [0, 2] (hF w b3 (hs.blk (by repeat constructor))) (by decide) (Blk.rdI (c := 2) (hs.blk (b := c1) (by repeat constructor))) (by decide); rw [aw_chain] at this; exact this
  (refine ql_pure tabOk rfl rfl (ql_ext tabOk rfl rfl rfl (ql_ext tabOk rfl rfl rfl (ql_pure tabOk rfl rfl (ql_pure tabOk rfl rfl (q_nil (q_seq (q_region ?_))))))))
  refine ql_call (β := Nat) tabOk [] _ M0 rfl rfl rfl rfl (Sp.refl _) (fun _ h => h.elim) (fun w' hs => four_ca w') ?_
  rintro b4 _ rfl
  dsimp only [List.cons_append, List.nil_append]
  refine ql_callv (val := .tuple #[.int .i64 2, .int .i64 0]) tabOk rfl rfl rfl rfl (fun w hs => ?_) ?_; exact by have := fewest_ok w 0 w.heap.size fourL _ 4 (hF w b4 (hs.blk (by repeat constructor))) aw_plan; rw [aw_few2] at this; exact this
  (refine ql_pure tabOk rfl rfl (ql_ext tabOk rfl rfl rfl (ql_ext tabOk rfl rfl rfl (ql_pure tabOk rfl rfl (ql_pure tabOk rfl rfl (q_nil (q_seq (q_seq (q_region (ql_pure tabOk rfl rfl (ql_neqF tabOk rfl rfl rfl (by omega) (ql_pure tabOk rfl rfl ?_))))))))))); refine ql_gyes rfl (ql_pure tabOk rfl rfl (ql_gyes rfl (ql_neqF tabOk rfl rfl rfl (by omega) (ql_pure tabOk rfl rfl (ql_pure tabOk rfl rfl (ql_gyes rfl (ql_pure tabOk rfl rfl (ql_gyes rfl (ql_neqF tabOk rfl rfl rfl (by omega) (ql_pure tabOk rfl rfl (ql_pure tabOk rfl rfl ?_))))))))))); refine ql_gyes rfl (ql_pure tabOk rfl rfl (ql_gyes rfl (ql_neqF tabOk rfl rfl rfl (by omega) (ql_pure tabOk rfl rfl (ql_pure tabOk rfl rfl (ql_gyes rfl (ql_pure tabOk rfl rfl (ql_gyes rfl ?_)))))))))
  refine ql_callv (val := rtV (1, 1)) tabOk rfl rfl rfl rfl (fun w hs => ?_) ?_; exact span_ca 1 1 w
  refine ql_gyes rfl ?_
  refine ql_callv (val := rtV (2, 3)) tabOk rfl rfl rfl rfl (fun w hs => ?_) ?_; exact span_ca 2 3 w
  refine ql_gyes rfl ?_
  refine ql_callv (val := rtV (3, 4)) tabOk rfl rfl rfl rfl (fun w hs => ?_) ?_; exact span_ca 3 4 w
  refine ql_gyes rfl ?_
  refine ql_callv (val := rtV (2, 4)) tabOk rfl rfl rfl rfl (fun w hs => ?_) ?_; exact span_ca 2 4 w
  refine ql_gyes rfl ?_
  refine ql_mkS 45 (spC [(1, 1), (2, 3), (3, 4), (2, 4)]) rfl (by kernel_rfl) rfl (fun c2 => ?_)
  refine ql_gyes rfl ?_
  refine ql_callv (val := .bool true) tabOk rfl rfl rfl rfl (fun w hs => ?_) ?_; exact eqS_ca w 0 w.heap.size 0 w.heap.size _ _ [(1, 1), (2, 3), (3, 4), (2, 4)] (own_rdS (t := 45) (hs.mem (c := .ow (.slice (some ⟨a1, 0, none⟩) 4 a2) 45 2 4 (spC [(1, 1), (2, 3), (3, 4), (2, 4)])) (by repeat constructor)) rfl) (Blk.rdS' (c := 4) (hs.blk (b := c2) (by repeat constructor)) rfl) (by decide)
  (refine ql_gyes rfl ?_; (iterate 3 refine ql_pure tabOk rfl rfl ?_); refine ql_gyes rfl (ql_pure tabOk rfl rfl (ql_gyes rfl (ql_neqF tabOk rfl rfl rfl (by omega) (ql_pure tabOk rfl rfl (ql_pure tabOk rfl rfl (ql_gyes rfl (ql_pure tabOk rfl rfl (ql_gyes rfl ?_)))))))); (iterate 3 refine ql_pure tabOk rfl rfl ?_); refine ql_gyes rfl (ql_pure tabOk rfl rfl (ql_gyes rfl (ql_neqF tabOk rfl rfl rfl (by omega) (ql_pure tabOk rfl rfl (q_nil (q_cond_false rfl (q_skip (q_seq (q_region ?_))))))))))
  have hT : ∀ w' x1 x2 x3 x4, Blk w' x4 [.slice (some ⟨x1, 0, none⟩) 4 4, .slice (some ⟨x2, 0, none⟩) 4 4, .slice (some ⟨x3, 0, none⟩) 4 4] 26 → Blk w' x3 (ints [9, 9, 2, 1]) 3 → Blk w' x2 (ints [6, 2, 3, 8]) 3 → Blk w' x1 (ints [5, 4, 9, 9]) 3 → RdII w' 0 w'.heap.size (.slice (some ⟨x4, 0, none⟩) 3 3) threeT := fun w' x1 x2 x3 x4 h4 h3 h2 h1 => blk_II (l1 := [5, 4, 9, 9]) (l2 := [6, 2, 3, 8]) (l3 := [9, 9, 2, 1]) rfl rfl rfl h1 h2 h3 h4
  refine ql_call (β := Nat × Nat × Nat × Nat) tabOk [] _ M0 rfl rfl rfl rfl (Sp.refl _) (fun _ h => h.elim) (fun w' hs => three_ca w') ?_
  rintro ⟨x1, x2, x3, x4⟩ _ rfl
  dsimp only [List.cons_append, List.nil_append]
  refine ql_callv (val := .tuple #[.int .i64 1, .int .i64 1, .int .i64 0]) tabOk rfl rfl rfl rfl (fun w hs => ?_) ?_; exact by have := wax_ca w 0 w.heap.size _ threeT 0 2 (hT w x1 x2 x3 x4 (hs.blk (by repeat constructor)) (hs.blk (by repeat constructor)) (hs.blk (by repeat constructor)) (hs.blk (by repeat constructor))); rw [aw_wax2] at this; exact this
  (refine ql_pure tabOk rfl rfl ?_; (iterate 3 refine ql_ext tabOk rfl rfl rfl ?_); (iterate 3 refine ql_pure tabOk rfl rfl ?_); refine q_nil (q_seq (q_region ?_)))
  refine ql_call (β := Nat × Nat × Nat × Nat) tabOk [] _ M0 rfl rfl rfl rfl (Sp.refl _) (fun _ h => h.elim) (fun w' hs => three_ca w') ?_
  rintro ⟨y1, y2, y3, y4⟩ _ rfl
  dsimp only [List.cons_append, List.nil_append]
  refine ql_call (β := Value) tabOk [] _ M0 rfl rfl rfl rfl (Sp.refl _) (fun _ h => h.elim) (fun w' hs => zones_ok w' 0 w'.heap.size _ threeT 1 (hT w' y1 y2 y3 y4 (hs.blk (by repeat constructor)) (hs.blk (by repeat constructor)) (hs.blk (by repeat constructor)) (hs.blk (by repeat constructor))) aw_lim) ?_
  rintro vz _ rfl
  rw [aw_zones]
  dsimp only [List.cons_append, List.nil_append, List.length_cons, List.length_nil]
  refine ql_fact (fun w hs => hs.ownSome (v := vz) (by repeat constructor) (by decide)) ?_
  rintro ⟨z1, z2, rfl⟩
  (refine ql_pure tabOk rfl rfl (ql_ext tabOk rfl rfl rfl (ql_ext tabOk rfl rfl rfl (ql_pure tabOk rfl rfl (ql_pure tabOk rfl rfl (q_nil (q_seq (q_region ?_))))))))
  refine ql_call (β := Nat × Nat × Nat × Nat) tabOk [] _ M0 rfl rfl rfl rfl (Sp.refl _) (fun _ h => h.elim) (fun w' hs => three_ca w') ?_
  rintro ⟨u1, u2, u3, u4⟩ _ rfl
  dsimp only [List.cons_append, List.nil_append]
  refine ql_mkS 3 (ints [0, 3]) rfl (by kernel_rfl) rfl (fun c3 => ?_)
  refine ql_callv (val := .tuple #[.bool true, .int .i64 0]) tabOk rfl rfl rfl rfl (fun w hs => ?_) ?_; exact by have := breaksShow_ca w 0 w.heap.size 0 w.heap.size _ _ threeT 1 [0, 3] (hT w u1 u2 u3 u4 (hs.blk (by repeat constructor)) (hs.blk (by repeat constructor)) (hs.blk (by repeat constructor)) (hs.blk (by repeat constructor))) (Blk.rdI (c := 2) (hs.blk (b := c3) (by repeat constructor))) (by decide); rw [aw_breaks] at this; exact this
  (refine ql_pure tabOk rfl rfl (ql_ext tabOk rfl rfl rfl (ql_ext tabOk rfl rfl rfl (ql_pure tabOk rfl rfl (ql_pure tabOk rfl rfl (q_nil (q_seq (q_region ?_))))))))
  refine ql_call (β := Nat) tabOk [] _ M0 rfl rfl rfl rfl (Sp.refl _) (fun _ h => h.elim) (fun w' hs => six_ca w') ?_
  rintro s1 _ rfl
  dsimp only [List.cons_append, List.nil_append]
  refine ql_call (β := Value) tabOk [] _ M0 rfl rfl rfl rfl (Sp.refl _) (fun _ h => h.elim) (fun w' hs => match_ok w' 0 w'.heap.size _ sixL (show RdI w' 0 w'.heap.size (.slice (some ⟨s1, 0, none⟩) 6 6) sixL from Blk.rdI (c := 6) (l := sixL) (hs.blk (b := s1) (by repeat constructor))) (sing_iff.1 aw_sing)) ?_
  rintro vm _ rfl
  rw [aw_cost]
  dsimp only [List.cons_append, List.nil_append]
  (refine ql_pure tabOk rfl rfl ?_; (iterate 3 refine ql_ext tabOk rfl rfl rfl ?_); (iterate 3 refine ql_pure tabOk rfl rfl ?_); refine q_nil (q_seq (q_region ?_)))
  refine ql_call (β := Nat) tabOk [] _ M0 rfl rfl rfl rfl (Sp.refl _) (fun _ h => h.elim) (fun w' hs => six_ca w') ?_
  rintro s2 _ rfl
  dsimp only [List.cons_append, List.nil_append]
  refine ql_callv (val := rtV (20, 23)) tabOk rfl rfl rfl rfl (fun w hs => ?_) ?_; exact span_ca 20 23 w
  refine ql_callv (val := rtV (38, 41)) tabOk rfl rfl rfl rfl (fun w hs => ?_) ?_; exact span_ca 38 41 w
  refine ql_callv (val := rtV (50, 60)) tabOk rfl rfl rfl rfl (fun w hs => ?_) ?_; exact span_ca 50 60 w
  refine ql_mkS 45 (spC [(20, 23), (38, 41), (50, 60)]) rfl (by kernel_rfl) rfl (fun c4 => ?_)
  refine ql_callv (val := .tuple #[.int .i64 16, .int .i64 0]) tabOk rfl rfl rfl rfl (fun w hs => ?_) ?_; exact by have := gapsShow_ca w 0 w.heap.size 0 w.heap.size _ _ sixL [(20, 23), (38, 41), (50, 60)] (show RdI w 0 w.heap.size (.slice (some ⟨s2, 0, none⟩) 6 6) sixL from Blk.rdI (c := 6) (l := sixL) (hs.blk (b := s2) (by repeat constructor))) (Blk.rdS' (c := 3) (hs.blk (b := c4) (by repeat constructor)) rfl) (by decide); rw [aw_gaps] at this; exact this
  (refine ql_pure tabOk rfl rfl (ql_ext tabOk rfl rfl rfl (ql_ext tabOk rfl rfl rfl (ql_pure tabOk rfl rfl (ql_pure tabOk rfl rfl (q_nil (q_seq (q_region (ql_pure tabOk rfl rfl (ql_eqlT tabOk rfl rfl rfl (by omega) (ql_pure tabOk rfl rfl (ql_gyes rfl ?_))))))))))); refine ql_pure tabOk rfl rfl (ql_gyes rfl (ql_eqlT tabOk rfl rfl rfl (by omega) (ql_pure tabOk rfl rfl (ql_pure tabOk rfl rfl (ql_gyes rfl (ql_pure tabOk rfl rfl (ql_gyes rfl (ql_eqlT tabOk rfl rfl rfl (by omega) (ql_pure tabOk rfl rfl (ql_pure tabOk rfl rfl (ql_gyes rfl ?_))))))))))); refine ql_pure tabOk rfl rfl (ql_gyes rfl (ql_eqlT tabOk rfl rfl rfl (by omega) (ql_pure tabOk rfl rfl (ql_pure tabOk rfl rfl (ql_gyes rfl (ql_pure tabOk rfl rfl (ql_gyes rfl (ql_eqlT tabOk rfl rfl rfl (by omega) (ql_pure tabOk rfl rfl (ql_pure tabOk rfl rfl (ql_gyes rfl ?_))))))))))); refine ql_pure tabOk rfl rfl (ql_gyes rfl (ql_eqlT tabOk rfl rfl rfl (by omega) (ql_pure tabOk rfl rfl (ql_pure tabOk rfl rfl (ql_gyes rfl (ql_pure tabOk rfl rfl (ql_gyes rfl (ql_eqlT tabOk rfl rfl rfl (by omega) (ql_pure tabOk rfl rfl (ql_pure tabOk rfl rfl (ql_gyes rfl ?_))))))))))); refine ql_pure tabOk rfl rfl (ql_gyes rfl ?_))
  refine ql_mk #[.int .i64 0, .int .i64 2, .int .i64 1] rfl (by kernel_rfl) rfl ?_
  refine ql_gyes rfl ?_
  refine ql_mk #[.int .i64 3, .int .i64 3, .int .i64 2] rfl (by kernel_rfl) rfl ?_
  refine ql_gyes rfl ?_
  refine ql_mkS 96 (rnC [⟨0, 2, 1⟩, ⟨3, 3, 2⟩]) rfl (by kernel_rfl) rfl (fun c5 => ?_)
  refine ql_gyes rfl ?_
  refine ql_callv (val := .bool true) tabOk rfl rfl rfl rfl (fun w hs => ?_) ?_; exact eqZ_ca w 0 w.heap.size 0 w.heap.size _ _ [⟨0, 2, 1⟩, ⟨3, 3, 2⟩] (own_rdR (t := 96) (hs.mem (c := .ow (.slice (some ⟨z1, 0, none⟩) 2 z2) 96 3 2 (rnC [⟨0, 2, 1⟩, ⟨3, 3, 2⟩])) (by repeat constructor)) rfl) (Blk.rdR' (c := 2) (hs.blk (b := c5) (by repeat constructor)) rfl) (by decide)
  (refine ql_pure tabOk rfl rfl (ql_pure tabOk rfl rfl (ql_gyes rfl ?_)); (iterate 3 refine ql_pure tabOk rfl rfl ?_); refine ql_gyes rfl (ql_pure tabOk rfl rfl (ql_gyes rfl (ql_eqlT tabOk rfl rfl rfl (by omega) (ql_pure tabOk rfl rfl (ql_pure tabOk rfl rfl (ql_gyes rfl (ql_pure tabOk rfl rfl (ql_gyes rfl (ql_pure tabOk rfl rfl (ql_gyes rfl (ql_eqlT tabOk rfl rfl rfl (by omega) ?_))))))))))); refine ql_pure tabOk rfl rfl (ql_pure tabOk rfl rfl (q_nil (q_ret ?_))))
  refine q_fin tabOk rfl (by repeat constructor) fun w hs => ?_
  exact ⟨rfl, hs.chg0⟩
end Go.Proofs.Ytcmpdmobmbbplaa

/- Walks: klisterkit's deck. Only the ranges of what it deals are told. -/
namespace Go.Proofs.Ytcmpdmobmbbplaa
open Go Go.Eng

section
attribute [local irreducible] IntKind.wrap Int.tmod Int.tdiv

/-- The deck's own variable, after at most K cards. -/
def DkS (w : World) (b : Nat) (bs : Value) (K : Nat) : Prop :=
  ∃ next st, Blk w b [bs, .int .i64 next, .int .u32 st] 127 ∧ 0 ≤ next ∧ next ≤ K ∧ 0 ≤ st ∧ st < 4294967296
/-- Its bytes. -/
def DkB (w : World) (lo hi : Nat) (bs : Value) : Prop := ∃ nb cs, Rd w lo hi bs 1 nb cs ∧ (∀ c ∈ cs, ∃ x, c = .int .u8 x ∧ 0 ≤ x ∧ x < 256)
theorem DkB.keep {w w' : World} {lo hi : Nat} {bs : Value} (h : DkB w lo hi bs) (c : Chg [] w w') : DkB w' lo hi bs := by
  obtain ⟨nb, cs, h1, h2⟩ := h
  exact ⟨nb, cs, h1.keep c, h2⟩

end
/-- A deck, after at most K cards. -/
def dkP (bs : Value) (b K : Nat) : Ck := .gn (fun x => x = b) (fun w => DkS w b bs K) (fun w w' N h hc hN => by
  obtain ⟨next, st, h1, h2⟩ := h
  exact ⟨next, st, (hc.block b h1.lt (hN b rfl)).trans h1, h2⟩)

theorem DkS.mono {w : World} {b K K' : Nat} {bs : Value} (h : DkS w b bs K) (hk : K ≤ K') : DkS w b bs K' := by
  obtain ⟨next, st, h1, h2, h3, h4⟩ := h
  exact ⟨next, st, h1, h2, by omega, h4⟩
section
variable {K b : Nat} {bs : Value} {w0 w : World} {R : List Ck}
end
end Go.Proofs.Ytcmpdmobmbbplaa

/- Walks: a lab is made of numbers. -/
namespace Go.Proofs.Ytcmpdmobmbbplaa
open Go Go.Eng

/-- What a lab that was made has. -/
structure MadeL (most runs : Nat) (l : Lb) (real : List Int) : Prop where
  ok : l.Ok
  s2 : 2 ≤ l.skis
  sm : l.skis ≤ most
  e12 : l.err ≤ 11
  len : l.runs.length ≤ runs
  tr : l.True real
  rl : real.length = l.n
  rb : ∀ x ∈ real, 0 ≤ x ∧ x ≤ 96
theorem slR : SlT Try.prog 23 33 3 24 (.agg #[.int .i64 0, .int .i64 0, .int .i64 0]) := ⟨by kernel_rfl, by kernel_rfl, by kernel_rfl, by decide⟩
end Go.Proofs.Ytcmpdmobmbbplaa

/- Walks: labs are copied, and get a run more. -/
namespace Go.Proofs.Ytcmpdmobmbbplaa
open Go Go.Eng

theorem rnC_one (l : List Rn) : ∀ c ∈ rnC l, oneV c = true := fun c hc => by obtain ⟨y, _, hy⟩ := List.mem_flatMap.1 hc; simp at hy; rcases hy with rfl | rfl | rfl <;> rfl
theorem cloneR_ca (w : World) (lo hi : Nat) (v : Value) (l : List Rn) (h : RdR w lo hi v l) (hlen : l.length ≤ 1000) : Ca Try.prog 70 [v] w fun x w' => ∃ u : Value, x = u ∧ Sat w M0 [.ow u 33 3 l.length (rnC l)] w' := by
  obtain ⟨a, c, rfl, ha⟩ := RdR.outI h
  refine q_of (Sat.nil w M0) Try.func70 rfl (by simp [Try.ntmps70]) ?_
  refine q_conv (H' := [.ow (.slice none 0 0) 33 3 0 (rnC [])]) (fun w' hs => Sat.ownil hs 33 3) ?_
  (refine q_seq (q_region (ql_pure tabOk rfl rfl (q_nil (q_seq (q_region (ql_pure tabOk rfl rfl ?_)))))))
  refine ql_append (q := l.length) (news := rnC l) slR rfl rfl rfl (fun v' => by repeat constructor) (fun w' hs => ⟨_, _, RdR.row (RdE.keep h hs.chg0)⟩) (rnC_one l) (by omega) (by omega) (fun u' => ?_)
  (refine ql_pure tabOk rfl rfl (q_nil (q_ret ?_)))
  refine q_fin tabOk rfl (by repeat constructor) fun w hs => ?_
  exact ⟨u', rfl, hs.sp (by simp only [rnC, List.flatMap_nil, List.nil_append, Nat.zero_add]; repeat constructor)⟩
def tD3_563eb24 : OT := chainT [0, 1, 2, 3, 4, 5, 6, 7, 8] (.nil)
theorem cloneL_ca (w : World) (lo hi : Nat) (l : Lb) (v : Value) (h : RdR w lo hi v l.runs) (hlen : l.runs.length ≤ 1000) : Ca Try.prog 13 [.agg (lbC l v).toArray] w fun x w' => ∃ u : Value, x = .agg (lbC l u).toArray ∧ Sat w M0 [.ow u 33 3 l.runs.length (rnC l.runs)] w' := by
  obtain ⟨a, c, rfl, ha⟩ := RdR.outI h
  refine q_of (Sat.nil w M0) Try.func13 rfl (by simp [Try.ntmps13]) ?_
  (refine q_seq (q_region ?_))
  refine ql_box rfl rfl (fun b1 => ?_)
  skip
  refine ql_alloc zero25 rfl (fun b2 => ?_)
  (refine q_nil (q_seq ?_))
  refine q_cut (σ := Value) (fun u => [(2, .pointer (some ⟨b2, 0, none⟩))])
      (fun u => [.pt b2 [.int .i64 l.skis, .int .i64 l.err, u] 25, .ow u 33 3 l.runs.length (rnC l.runs)]) ?_ ?_
  rotate_left
  · intro K2 hK2
    refine q_drawT (tD3_563eb24) _ [.pt b2 [.int .i64 0, .int .i64 0, .slice none 0 0] 25] (Sp.cons (by repeat constructor) (Sp.refl _)) (by kernel_rfl) (by kernel_rfl) ?_
    refine qt_seg (by repeat (first | exact PickL.nil | (apply PickL.cons; rfl))) fun K1 hK1 => ?_
    (refine qf_pure tabOk rfl rfl rfl ?_; refine qf_loadBa tabOk rfl rfl rfl ?_; refine qf_pure tabOk rfl rfl rfl ?_; refine qf_loadBa tabOk rfl rfl rfl ?_; refine qf_pure tabOk rfl rfl rfl ?_; refine qf_loadBa tabOk rfl rfl rfl ?_)
    refine qf_call (β := Value) tabOk [] _ M0 rfl rfl rfl rfl (Sp.refl _) (fun _ h => h.elim) (fun w' hs => cloneR_ca w' lo hi _ l.runs (RdE.keep h hs.chg0) (by omega)) ?_
    rintro _ u rfl
    dsimp only [List.cons_append, List.nil_append]
    refine qf_fact (fun w hs => hs.slice2 (v := u) (by repeat constructor)) ?_
    rintro ⟨a1, c1, rfl⟩
    skip
    refine qf_mk #[.int .i64 l.skis, .int .i64 l.err, .slice a1 l.runs.length c1] rfl (by kernel_rfl) rfl ?_
    (refine qf_setA tabOk rfl rfl rfl rfl rfl (by repeat constructor) rfl ?_; refine qf_nil ?_)
    exact hK1 _ _ (qt_nil (hK2 (.slice a1 l.runs.length c1) _ _ ⟨rfl, trivial⟩ (by repeat constructor)))
  intro u
  (refine q_ret ?_)
  refine q_fin tabOk rfl (by repeat constructor) fun w hs => ?_
  exact ⟨u, rfl, hs.sp (by repeat constructor)⟩
end Go.Proofs.Ytcmpdmobmbbplaa

/- Lists of labs, and what is told of them. -/
namespace Go.Proofs.Ytcmpdmobmbbplaa
open Go Go.Eng

abbrev LbM := Lb × Option Addr × Nat
def labCs (M : List LbM) : List Value := M.flatMap fun m => [.int .i64 m.1.skis, .int .i64 m.1.err, .slice m.2.1 m.1.runs.length m.2.2]
def labOs (t : Nat) (M : List LbM) : List Ck := M.map fun m => .ow (.slice m.2.1 m.1.runs.length m.2.2) t 3 m.1.runs.length (rnC m.1.runs)
/-- Places that were told. -/
def plOs (t : Nat) (M : List LbM) (ps : List Value) : List Ck := (M.zip ps).map fun x => .ow x.2 t 2 x.1.1.n (spC (plC x.1.1 x.1.1.ord x.1.1.n))
/-- An array that is filled. -/
def filA (f : Nat → Int) (n j : Nat) : List Int := (List.range n).map fun i => if i < j then f i else 0
def lbM (M : List LbM) (i : Nat) : Lb := (M.getD i (⟨0, 0, []⟩, none, 0)).1
def oM (M : List LbM) (i : Nat) : Int := cnt (lbM M i).ord (lbM M i).n (2 ^ (lbM M i).n - 1)
def rM (M : List LbM) (k i : Nat) : Int := (planO (lbM M i).n k (lbM M i).ord : Nat)
/-- What all labs of a list have. -/
structure AllOk (sk : Nat) (m : LbM) : Prop where
  ok : m.1.Ok
  noC : NoC m.1.ord m.1.n
  skis : m.1.skis = (sk : Int)
theorem AllOk.n {sk : Nat} {m : LbM} (h : AllOk sk m) : m.1.n = sk := by unfold Lb.n; rw [h.skis]; omega
end Go.Proofs.Ytcmpdmobmbbplaa

/- Walks: all pairs of skis of which one is faster; whether a pair is among them. -/
namespace Go.Proofs.Ytcmpdmobmbbplaa
open Go Go.Eng

/-- The pairs with a faster ski of a list of skis. -/
def prA (o n : Nat) (L : List Nat) : List (Int × Int) := L.flatMap fun a => ((List.range n).filter fun b => fa o a b).map fun (b : Nat) => ((a : Int), (b : Int))
/-- All pairs of skis of which one is faster. -/
def fasL (o n : Nat) : List (Int × Int) := prA o n (List.range n)
/-- Those of the skis ahead of the k-th one, and the first ones of its own. -/
def fasI (o n a b : Nat) : List (Int × Int) := prA o n (List.range a) ++ ((List.range b).filter fun b => fa o a b).map fun (b : Nat) => ((a : Int), (b : Int))
theorem fasI_next (o n a : Nat) : fasI o n a n = fasI o n (a + 1) 0 := by
  unfold fasI prA
  rw [List.range_succ, List.flatMap_append]
  simp
theorem fasI_yes {o n a b : Nat} (h : fa o a b = true) : fasI o n a (b + 1) = fasI o n a b ++ [((a : Int), (b : Int))] := by
  unfold fasI
  rw [List.range_succ, List.filter_append, List.map_append, List.append_assoc]
  simp [h]
theorem fasI_no {o n a b : Nat} (h : fa o a b = false) : fasI o n a (b + 1) = fasI o n a b := by
  unfold fasI
  rw [List.range_succ, List.filter_append, List.map_append]
  simp [h]
theorem fasI_all (o n : Nat) : fasI o n n 0 = fasL o n := by unfold fasI fasL; simp
theorem fasI_len {o n : Nat} : ∀ a b, b ≤ n → (fasI o n a b).length ≤ a * n + b
  | 0, b, _ => by
    unfold fasI prA
    have := List.length_filter_le (fun c => fa o 0 c) (List.range b)
    rw [List.length_range] at this
    simp
    exact this
  | a + 1, b, hb => by
    have ih := fasI_len (o := o) a n (Nat.le_refl _)
    rw [fasI_next] at ih
    have h1 := List.length_filter_le (fun c => fa o (a + 1) c) (List.range b)
    rw [List.length_range] at h1
    unfold fasI at ih ⊢
    rw [List.length_append, List.length_map] at ih ⊢
    simp only [List.range_zero, List.filter_nil, List.length_nil, Nat.add_zero] at ih
    rw [Nat.add_mul, Nat.one_mul]
    omega
theorem slP : SlT Try.prog 58 63 2 16 (.agg #[.int .i64 0, .int .i64 0]) := ⟨by kernel_rfl, by kernel_rfl, by kernel_rfl, by decide⟩
theorem spC_snoc (l : List (Int × Int)) (p : Int × Int) : spC (l ++ [p]) = spC l ++ [.int .i64 p.1, .int .i64 p.2] := by simp [spC]
theorem faster_no (w : World) (lo hi : Nat) (l : Lb) (v : Value) (h : RdR w lo hi v l.runs) (hlen : l.runs.length ≤ maxLen) (hc0 : agreedV l ≠ 0) : Ca Try.prog 25 [.agg (lbC l v).toArray] w fun x w' => x = .tuple #[.slice none 0 0, .int .i64 (agreedV l)] ∧ Chg [] w w' := by
  refine q_of (Sat.nil w M0) Try.func25 rfl (by simp [Try.ntmps25]) ?_
  (refine q_seq (q_region ?_))
  refine ql_box rfl rfl (fun b1 => ?_)
  rw [agg_cells]
  (refine ql_pure tabOk rfl rfl (ql_pure tabOk rfl rfl (q_nil (q_seq (q_region ?_)))); refine ql_loadABa tabOk rfl rfl rfl ?_)
  refine ql_call (β := Option Addr) tabOk [] _ M0 rfl rfl rfl rfl (Sp.refl _) (fun _ h => h.elim) (fun w' hs => agreed_no w' lo hi l v (RdE.keep h hs.chg0) hlen hc0) ?_
  rintro p _ rfl
  dsimp only [List.cons_append, List.nil_append]
  (refine ql_pure tabOk rfl rfl (ql_ext tabOk rfl rfl rfl (ql_ext tabOk rfl rfl rfl (ql_pure tabOk rfl rfl (ql_pure tabOk rfl rfl (q_nil (q_seq (q_seq (q_region (ql_pure tabOk rfl rfl (ql_neqT tabOk rfl rfl rfl (by omega) (q_nil ?_))))))))))); refine q_cond_true rfl (q_seq (q_region ?_)); (iterate 3 refine ql_pure tabOk rfl rfl ?_); refine q_nil (q_ret ?_))
  refine q_fin tabOk rfl (by repeat constructor) fun w hs => ?_
  exact ⟨rfl, hs.chg0⟩
set_option maxHeartbeats 1000000 in
theorem faster_ok (w : World) (lo hi : Nat) (l : Lb) (v : Value) (h : RdR w lo hi v l.runs) (hl : l.Ok) (hn : NoC l.ord l.n) : Ca Try.prog 25 [.agg (lbC l v).toArray] w fun x w' => ∃ u : Value, x = .tuple #[u, .int .i64 0] ∧ Sat w M0 [.ow u 63 2 (fasL l.ord l.n).length (spC (fasL l.ord l.n))] w' := by
  obtain ⟨n, en, hn', h8, h1⟩ := hl.nat
  rw [hn']
  refine q_of (Sat.nil w M0) Try.func25 rfl (by simp [Try.ntmps25]) ?_
  (refine q_seq (q_region ?_))
  refine ql_box rfl rfl (fun b1 => ?_)
  rw [agg_cells]
  (refine ql_pure tabOk rfl rfl (ql_pure tabOk rfl rfl (q_nil (q_seq (q_region ?_)))); refine ql_loadABa tabOk rfl rfl rfl ?_)
  refine ql_call (β := Nat) tabOk [] _ M0 rfl rfl rfl rfl (Sp.refl _) (fun _ h => h.elim) (fun w' hs => agreed_ok w' lo hi l v (RdE.keep h hs.chg0) hl hn) ?_
  rintro b _ rfl
  dsimp only [List.cons_append, List.nil_append]
  (refine ql_pure tabOk rfl rfl (ql_ext tabOk rfl rfl rfl (ql_ext tabOk rfl rfl rfl (ql_pure tabOk rfl rfl (ql_pure tabOk rfl rfl (q_nil (q_seq (q_seq (q_region (ql_pure tabOk rfl rfl (ql_neqF tabOk rfl rfl rfl (by omega) (q_nil ?_))))))))))); refine q_cond_false rfl (q_skip (q_seq (q_region (ql_pure tabOk rfl rfl (q_nil (q_seq (q_seq (q_region ?_)))))))); (iterate 4 refine ql_pure tabOk rfl rfl ?_); refine ql_loadBa tabOk rfl rfl rfl ?_; refine ql_pure tabOk rfl rfl (q_nil (q_block ?_)))
  rw [en]
  refine q_conv (H' := [.ow (.slice none 0 0) 63 2 (fasI l.ord n 0 0).length (spC (fasI l.ord n 0 0)), .pt b (dkC l v l.ord) 136]) (fun w' hs => (Sat.ownil hs 63 2).sp (by repeat constructor)) ?_
  refine q_loop (σ := Nat × Value) (fun y => y.1 ≤ n) (fun y => n - y.1) (fun y => [(4, .pointer (some ⟨b, 0, none⟩)), (6, y.2), (21, .int .i64 n), (22, .int .i64 y.1)]) (fun y => [.ow y.2 63 2 (fasI l.ord n y.1 0).length (spC (fasI l.ord n y.1 0)), .pt b (dkC l v l.ord) 136]) (0, .slice none 0 0) (by simp only; omega) ⟨rfl, rfl, rfl, rfl, trivial⟩ (by repeat constructor) ?_
  rintro ⟨x, u⟩ hs1 K hK
  dsimp only at hs1 ⊢
  (refine q_seq (q_region (ql_pure tabOk rfl rfl (q_nil (q_seq ?_)))))
  refine q_if rfl (fun hc => ?_) (fun hc => ?_)
  · have hs2 : x < n := by omega
    clear hc
    (refine q_skip (q_seq (q_block (q_seq (q_region (ql_pure tabOk rfl rfl (ql_pure tabOk rfl rfl (q_nil (q_seq (q_region ?_))))))))); (iterate 4 refine ql_pure tabOk rfl rfl ?_); refine ql_loadBa tabOk rfl rfl rfl ?_; refine ql_pure tabOk rfl rfl (q_nil (q_block ?_)))
    rw [en]
    refine q_loop (σ := Nat × Value) (fun y => y.1 ≤ n) (fun y => n - y.1) (fun y => [(4, .pointer (some ⟨b, 0, none⟩)), (6, y.2), (7, .int .i64 x), (21, .int .i64 n), (22, .int .i64 x), (29, .int .i64 n), (30, .int .i64 y.1)]) (fun y => [.ow y.2 63 2 (fasI l.ord n x y.1).length (spC (fasI l.ord n x y.1)), .pt b (dkC l v l.ord) 136]) (0, u) (by simp only; omega) ⟨rfl, rfl, rfl, rfl, rfl, rfl, rfl, trivial⟩ (by repeat constructor) ?_
    clear hs1
    rintro ⟨y, u⟩ hs1 K2 hK2
    dsimp only at hs1 ⊢
    (refine q_seq (q_region (ql_pure tabOk rfl rfl (q_nil (q_seq ?_)))))
    refine q_if rfl (fun hc => ?_) (fun hc => ?_)
    · have hs3 : y < n := by omega
      clear hc
      (refine q_skip (q_seq (q_block (q_seq (q_region (ql_pure tabOk rfl rfl (ql_pure tabOk rfl rfl (q_nil (q_seq (q_region ?_))))))))); (iterate 5 refine ql_pure tabOk rfl rfl ?_))
      refine ql_indexA (len := 8) o_arr rfl rfl rfl (by omega) (by omega) ?_
      skip
      refine ql_indexA (len := 8) r_arr rfl rfl rfl (by omega) (by omega) ?_
      skip
      refine ql_load1 (v := .bool (fa l.ord x y)) tabOk rfl rfl rfl (fun w hs => d_cell (hs.blk (by repeat constructor)) x y (by omega) (by omega) (by omega)) ?_
      cases hx : fa l.ord x y with
      | true =>
        have hlen := fasI_len (o := l.ord) (n := n) x y (by omega)
        have hxn : x * n ≤ 8 * 8 := Nat.mul_le_mul (by omega) h8
        (refine q_nil (q_cond_true rfl (q_region ?_)); (iterate 3 refine ql_pure tabOk rfl rfl ?_))
        refine ql_mk #[.int .i64 x, .int .i64 y] rfl (by kernel_rfl) rfl ?_
        skip
        refine ql_mkS 63 [.int .i64 x, .int .i64 y] rfl (by kernel_rfl) rfl (fun bn => ?_)
        skip
        refine ql_append (q := 1) (news := [.int .i64 x, .int .i64 y]) slP rfl rfl rfl (fun v' => by repeat constructor) (fun w' hs => ⟨_, _, Blk.rdN (hs.blk (b := bn) (by repeat constructor)) rfl⟩) (by simp [oneV]) (by omega) (by omega) (fun u' => ?_)
        (refine ql_pure tabOk rfl rfl (q_nil (q_blk (q_region (ql_ar tabOk rfl rfl rfl rfl (by omega) (by omega) (ql_pure tabOk rfl rfl (q_nil ?_)))))))
        exact hK2 (y + 1, u') _ _ (by simp only; omega) (by simp only; omega) ⟨rfl, rfl, rfl, rfl, rfl, rfl, rfl, trivial⟩ (by dsimp only; rw [fasI_yes hx, spC_snoc, List.length_append, List.length_singleton]; repeat constructor)
      | false =>
        (refine q_nil (q_cond_false rfl (q_skip (q_blk (q_region (ql_ar tabOk rfl rfl rfl rfl (by omega) (by omega) (ql_pure tabOk rfl rfl (q_nil ?_))))))))
        exact hK2 (y + 1, u) _ _ (by simp only; omega) (by simp only; omega) ⟨rfl, rfl, rfl, rfl, rfl, rfl, rfl, trivial⟩ (by dsimp only; rw [fasI_no hx]; repeat constructor)
    · obtain rfl : y = n := by omega
      (refine q_exit _ rfl (q_blk (q_region (ql_ar tabOk rfl rfl rfl rfl (by omega) (by omega) (ql_pure tabOk rfl rfl (q_nil ?_))))))
      exact hK (x + 1, u) _ _ (by simp only; omega) (by simp only; omega) ⟨rfl, rfl, rfl, rfl, trivial⟩ (by dsimp only; rw [← fasI_next]; repeat constructor)
  · obtain rfl : x = n := by omega
    (refine q_exit _ rfl (q_seq (q_region ?_)); (iterate 3 refine ql_pure tabOk rfl rfl ?_); refine q_nil (q_ret ?_))
    refine q_fin tabOk rfl (by repeat constructor) fun w hs => ?_
    exact ⟨u, rfl, by rw [← fasI_all]; exact hs.sp (by repeat constructor)⟩
/-- Where a pair is, or -1. -/
def idxP (L : List (Int × Int)) (p : Int × Int) : Int := if p ∈ L then (L.idxOf p : Int) else -1
end Go.Proofs.Ytcmpdmobmbbplaa

/- Labs that grow, and what is read of them. -/
namespace Go.Proofs.Ytcmpdmobmbbplaa
open Go Go.Eng

/-- The slice of a lab's runs. -/
abbrev slV (m : LbM) : Value := .slice m.2.1 m.1.runs.length m.2.2
end Go.Proofs.Ytcmpdmobmbbplaa

/- Walks: tables are made of numbers, and copied. -/
namespace Go.Proofs.Ytcmpdmobmbbplaa
open Go Go.Eng

end Go.Proofs.Ytcmpdmobmbbplaa

/- Walks: the regrets of a table; lists of lists copied. -/
namespace Go.Proofs.Ytcmpdmobmbbplaa
open Go Go.Eng

theorem cloneI_ca (w : World) (lo hi : Nat) (v : Value) (l : List Int) (h : RdI w lo hi v l) (hlen : l.length ≤ 1000000) : Ca Try.prog 29 [v] w fun r w' => ∃ u : Value, r = u ∧ Sat w M0 [.ow u 3 1 l.length (ints l)] w' := by
  obtain ⟨a, ca, rfl, _⟩ := RdI.outI h
  have hrow : ∀ w', Chg [] w w' → Rd w' lo hi (.slice a l.length ca) 1 l.length (ints l) := fun w' hc => by
    have := (RdE.keep h hc).rd
    rw [cellsOf_ints] at this
    simpa using this
  refine q_of (Sat.nil w M0) Try.func29 rfl (by simp [Try.ntmps29]) ?_
  (refine q_seq (q_region (ql_pure tabOk rfl rfl (q_nil (q_seq (q_region (ql_pure tabOk rfl rfl ?_)))))))
  refine ql_conv (H' := [.ow (.slice none 0 0) 3 1 0 []]) (fun w' hs => Sat.ownil hs 3 1) ?_
  refine ql_append (q := l.length) slI rfl rfl rfl (fun v' => by repeat constructor) (fun w' hs => ⟨lo, hi, hrow w' hs.chg0⟩) (by simp [oneV]) (by omega) (by omega) (fun u => ?_)
  (refine ql_pure tabOk rfl rfl (q_nil (q_ret ?_)))
  refine q_fin tabOk rfl (by repeat constructor) fun w hs => ?_
  exact ⟨u, rfl, by simpa using hs⟩
end Go.Proofs.Ytcmpdmobmbbplaa

/- The plain law of SkiBagged. -/
namespace Go.Proofs.Ytcmpdmobmbbplaa

/-- Where the best zone from a snow on ends, and one. -/
def reachF (rs : List (List Int)) (most : Int) (a : Nat) : Nat := ((zoneF rs most a rs.length).1 + 1).toNat
structure ReachZ (rs : List (List Int)) (most : Int) (n a e : Nat) : Prop where
  lt : a < e
  le : e ≤ n
  wax : ∃ w : Nat, w < rs.length ∧ (zoneF rs most a rs.length).2 = (w : Int) ∧ ∀ s, a ≤ s → s < e → (rs.getD w []).getD s 0 ≤ most
  max : ∀ w s, w < rs.length → a ≤ s → s < n → (∀ t, a ≤ t → t ≤ s → (rs.getD w []).getD t 0 ≤ most) → s < e
  eq : (zoneF rs most a rs.length).1 = (e : Int) - 1
/-- Where the next zone begins. -/
def nxtZ (Z : List (Int × Int × Int)) (a : Int) : Nat → Int
  | 0 => a
  | i + 1 => (Z.getD i (0, 0, 0)).2.1 + 1
structure ZoneIs (rs : List (List Int)) (most : Int) (n : Nat) (a : Int) (z : Int × Int × Int) : Prop where
  frm : z.1 = a
  a0 : 0 ≤ a
  le : a ≤ z.2.1
  lt : z.2.1 < n
  w0 : 0 ≤ z.2.2
  w1 : z.2.2 < rs.length
  good : ∀ s : Nat, a ≤ s → (s : Int) ≤ z.2.1 → (rs.getD z.2.2.toNat []).getD s 0 ≤ most
/-- The first number for which something is found. -/
def tryF {α : Type} (g : Nat → Option α) : Nat → Nat → Option α
  | 0, _ => none
  | f + 1, w => match g w with
    | some x => some x
    | none => tryF g f (w + 1)
def fstB (ch : List Nat) : Nat := match ch.getLast? with | none => 0 | some x => x + 1
/-- The first list of so many waxes more that is good enough. -/
def chooseF (cov : List Nat → Bool) (m : Nat) : Nat → List Nat → Option (List Nat)
  | 0, ch => if cov ch then some ch else none
  | k + 1, ch => tryF (fun w => chooseF cov m k (ch ++ [w])) (m - fstB ch) (fstB ch)
def bagF (cov : List Nat → Bool) (m : Nat) : Option (List Nat) := tryF (fun n => chooseF cov m (n + 1) []) m 0
def Inc (m : Nat) (ch : List Nat) : Prop := ch.Pairwise (· < ·) ∧ ∀ x ∈ ch, x < m
/-- Some waxes have a good one for each snow. -/
def covB (rs : List (List Int)) (most : Int) (n : Nat) (ch : List Nat) : Bool := (List.range n).all fun s => ch.any fun w => decide ((rs.getD w []).getD s 0 ≤ most)
end Go.Proofs.Ytcmpdmobmbbplaa

/- Walks: breaks; slices.Clone; waxes that are good on a snow. -/
namespace Go.Proofs.Ytcmpdmobmbbplaa
open Go Go.Eng

/-- Chosen waxes as numbers. -/
def chI (ch : List Nat) : List Int := ch.map fun (x : Nat) => (x : Int)
theorem chI_len (ch : List Nat) : (chI ch).length = ch.length := by simp [chI]
def pGd (R : List (List Int)) (most : Int) (s : Nat) : Value → Bool
  | .int _ i => decide ((R.getD i.toNat []).getD s 0 ≤ most)
  | _ => false
end Go.Proofs.Ytcmpdmobmbbplaa

/- The engine: loops in which each round leaves marks; the end of a function with many marks. -/
namespace Go.Eng
open Go Go.RowKit

section
variable {P : Program} {n : Nat} {F : Fin} {k : List It} {e : Env} {w : World}
theorem y_loopD {r : Option Nat} {ds : List Deferred} {body : Code} (I : List Deferred → Nat → Env → World → Prop) {m : Nat} {l : Env} (h0 : I ds m l w) (hs : Sub l e)
    (round : ∀ ds m l w, I ds m l w → ∀ K : Act → World → Prop, (∀ ds' m' l' e' w', I ds' m' l' w' → m' < m → Sub l' e' → ∀ a, Fits n e' a → a.defers = ds' → K a w') → Y P ⟨r, ds⟩ n F (.code body :: .k K :: k) l w) :
    Y P ⟨r, ds⟩ n F (.code (.loop body) :: k) e w := by
  intro a hf hd
  have key : ∀ m ds l w, I ds m l w → ∀ a, Fits n l a → a.defers = ds → Code.roundsIn (FR r) 0 P body (S P r F k) (m + 1) a w := by
    intro m
    induction m using Nat.strongRecOn with
    | _ m ih =>
      intro ds l w hI a hf hd
      exact round ds m l w hI (Code.roundsIn (FR r) 0 P body (S P r F k) m) (fun ds' m' l' e' w' hI' hlt hs' a' hf' hd' => roundsIn_mono (by omega) (ih m' hlt ds' l' w' hI' a' (hf'.sub hs') hd')) a hf hd
  exact wpIn_loop_rounds (m + 1) (key m ds l w h0 a (hf.sub hs) hd)
end
section
variable {P : Program} {n : Nat} {F : Fin} {w0 : World} {M : Nat → Prop} {k : List It} {e : Env} {H : List Ck}
/-- A loop whose rounds may leave marks. -/
theorem q_loopD {r : Option Nat} {σ : Type} {body : Code} (dsf : σ → List Deferred) (inv : σ → Prop) (m : σ → Nat) (env : σ → Env) (hp : σ → List Ck) (s0 : σ) (h0 : inv s0) (hs : Sub (env s0) e) (hH : Sp H (hp s0))
    (round : ∀ s, inv s → ∀ K : Act → World → Prop, (∀ s' e' H', inv s' → m s' < m s → Sub (env s') e' → Sp H' (hp s') → Q P ⟨r, dsf s'⟩ n F w0 M (.k K :: k) e' H') → Q P ⟨r, dsf s⟩ n F w0 M (.code body :: .k K :: k) (env s) (hp s)) :
    Q P ⟨r, dsf s0⟩ n F w0 M (.code (.loop body) :: k) e H := .mk fun w hw =>
  y_loopD (fun ds m' l w' => ∃ s, inv s ∧ ds = dsf s ∧ m' = m s ∧ l = env s ∧ Sat w0 M (hp s) w') (m := m s0) (l := env s0) ⟨s0, h0, rfl, rfl, rfl, hw.sp hH⟩ hs (by
    rintro ds m' l w' ⟨s, hi, rfl, rfl, rfl, hsat⟩ K hK
    exact (round s hi K (fun s' e' H' hi' hlt hsub hsp => .mk fun w'' hw'' a hf hd => hK (dsf s') (m s') (env s') e' w'' ⟨s', hi', rfl, rfl, rfl, hw''.sp hsp⟩ hlt hsub a hf hd)).h w' hsat)
theorem leaves_marks {fn : Func} {tmps : Array Value} {R : Ending → World → Prop} {H' : List Ck} (hl : ∀ w, Sat w0 M H' w → LeavesInM (FR none) 0 P fn tmps R [] .returning w) : ∀ (Ds : List Nat) (w : World), Sat w0 M (Ds.map dfr ++ H') w → LeavesInM (FR none) 0 P fn tmps R (Ds.map mark) .returning w
  | [], w, h => hl w h
  | D :: Ds, w, h1 => by
    have hp : w.heap[D]? = some (.deferred (some [])) := h1.all _ List.mem_cons_self
    have h2 : Sat w0 M (Ds.map dfr ++ H') (w.putObj D (.deferred none)) := by
      have hsep := List.pairwise_cons.1 h1.sep
      refine ⟨h1.chg.up (putObj_chg w D _) (fun b hb => ?_), fun c hc => Ck.st (h1.all c (List.mem_cons_of_mem _ hc)) (putObj_chg w D _).P (fun b hb hm => ?_), hsep.2, fun c hc b hb => ?_⟩
      · simp at hb
        subst hb
        exact (h1.bd _ List.mem_cons_self b rfl).2
      · simp at hm
        subst hm
        exact hsep.1 c hc b rfl hb
      · rw [World.putObj_size]
        exact h1.bd c (List.mem_cons_of_mem _ hc) b hb
    refine ⟨by simp, .inl ⟨D, _, rfl, run_takeDeferred hp, ?_⟩⟩
    exact leaves_marks hl Ds _ h2
theorem q_finMs {T : Tab} (hT : T.Ok P) (Ds : List Nat) {fn : Func} {R : Value → World → Prop} {rs : List ResultVar} {vs : List Value} {H' : List Ck} (hH : Rm H (un (Ds.map dfr)) H') (hres : fn.results = rs.toArray) (h : RVs T e H' rs vs) (hR : ∀ w, Sat w0 M H' w → R (retV vs) w) : Q P ⟨none, Ds.map mark⟩ n (fun _ => finM P fn R .ret) w0 M [] e H := .mk fun w hs a hf hd => by
  show LeavesInM (FR none) 0 P fn a.tmps _ a.defers .returning w
  rw [show a.defers = Ds.map mark from hd]
  exact leaves_marks (fun w hs => leaves_nil (results_run hT hres h hf hs) ⟨retV vs, rfl, hR w hs⟩) Ds w (Sat.un_iff.1 (hs.perm hH.perm))
end
end Go.Eng

/- Walks: the search of a shortest chain of runs. -/
namespace Go.Proofs.Ytcmpdmobmbbplaa
open Go Go.Eng

/-- Turned round at both ends, so far. -/
def RevI (l : List Int) (k : Nat) (l' : List Int) : Prop := l'.length = l.length ∧ 2 * k ≤ l.length ∧ ∀ m, m < l.length → l'.getD m 0 = if m < k ∨ l.length ≤ m + k then l.getD (l.length - 1 - m) 0 else l.getD m 0
theorem RevI.zero (l : List Int) : RevI l 0 l := ⟨rfl, by omega, fun m hm => by rw [if_neg (by omega)]⟩
theorem RevI.step {l l' : List Int} {k : Nat} (h : RevI l k l') (hk : k < l.length - 1 - k) (h1 : k < l'.length) (h2 : l.length - 1 - k < l'.length) : RevI l (k + 1) ((l'.set k l'[l.length - 1 - k]).set (l.length - 1 - k) l'[k]) := by
  obtain ⟨hl, hk2, hv⟩ := h
  refine ⟨by simp [hl], by omega, fun m hm => ?_⟩
  have e1 : l'[l.length - 1 - k] = l.getD (l.length - 1 - k) 0 := by
    have := hv (l.length - 1 - k) (by omega)
    rw [if_neg (by omega), List.getD_eq_getElem?_getD, List.getElem?_eq_getElem h2] at this
    exact this
  have e2 : l'[k] = l.getD k 0 := by
    have := hv k (by omega)
    rw [if_neg (by omega), List.getD_eq_getElem?_getD, List.getElem?_eq_getElem h1] at this
    exact this
  rw [set_getD _ _ _ _ (by simpa using h2), set_getD _ _ _ _ h1, e1, e2]
  by_cases c1 : m = l.length - 1 - k
  · rw [if_pos c1, if_pos (by omega), c1]
    congr 1
    omega
  · rw [if_neg c1]
    by_cases c2 : m = k
    · rw [if_pos c2, if_pos (by omega), c2]
    · rw [if_neg c2, hv m hm]
      by_cases c3 : m < k ∨ l.length ≤ m + k
      · rw [if_pos c3, if_pos (by omega)]
      · rw [if_neg c3, if_neg (by omega)]
theorem RevI.end {l l' : List Int} {k : Nat} (h : RevI l k l') (hk : l.length ≤ 2 * k + 1) : l' = l.reverse := by
  obtain ⟨hl, hk2, hv⟩ := h
  refine List.ext_getElem (by simp [hl]) (fun m h1 h2 => ?_)
  have := hv m (by omega)
  rw [List.getD_eq_getElem?_getD, List.getElem?_eq_getElem h1] at this
  rw [List.getElem_reverse]
  have e : l.getD (l.length - 1 - m) 0 = l[l.length - 1 - m] := by
    rw [List.getD_eq_getElem?_getD, List.getElem?_eq_getElem (by omega)]; rfl
  rw [← e, ← Option.getD_some (a := l'[m]) (b := 0), this]
  split
  · rfl
  · congr 1
    omega

set_option maxHeartbeats 4000000 in
theorem rev_ca (w : World) (g c : Nat) (l : List Int) (hl : l.length ≤ 1000000) (hb : w.ownsRow 0 3 1 (.slice (some ⟨g, 0, none⟩) l.length c) l.length (ints l)) :
    Ca Try.prog 137 [.slice (some ⟨g, 0, none⟩) l.length c] w fun v w' => v = .tuple #[] ∧ Sat w (fun x => x = g) [.ow (.slice (some ⟨g, 0, none⟩) l.length c) 3 1 l.length (ints l.reverse)] w' := by
  refine q_of (Sat.own0 hb) Try.func137 rfl (by simp [Try.ntmps137]) ?_
  (refine q_seq (q_region (ql_pure tabOk rfl rfl (ql_pure tabOk rfl rfl (ql_ar tabOk rfl rfl rfl rfl (by omega) (by omega) (ql_pure tabOk rfl rfl (ql_pure tabOk rfl rfl (q_nil (q_block ?_)))))))))
  refine q_loop (σ := Nat × List Int) (fun s => RevI l s.1 s.2) (fun s => l.length - s.1) (fun s => [(0, .slice (some ⟨g, 0, none⟩) l.length c), (2, .int .i64 s.1), (3, .int .i64 (l.length - 1 - s.1))])
    (fun s => [.ow (.slice (some ⟨g, 0, none⟩) l.length c) 3 1 l.length (ints s.2)]) (0, l) (RevI.zero l) ⟨rfl, rfl, lookI rfl (by simp), trivial⟩ (by repeat constructor) ?_
  rintro ⟨k, l'⟩ hI K hK
  simp only at hI
  have hI2 := hI
  obtain ⟨hl', hk2, _⟩ := hI2
  dsimp only
  (refine q_seq (q_seq (q_region ?_)); (iterate 3 refine ql_pure tabOk rfl rfl ?_); refine q_nil ?_)
  refine q_if rfl (fun hc => ?_) (fun hc => ?_)
  · have hk : k < l.length - 1 - k := by omega
    have h1 : k < l'.length := by omega
    have h2 : l.length - 1 - k < l'.length := by omega
    clear hc
    have hst := hI.step hk h1 h2
    obtain ⟨q, hq⟩ : ∃ q : Nat, (q : Int) = (l.length : Int) - 1 - k := ⟨l.length - 1 - k, by omega⟩
    have hq2 : l.length - 1 - k = q := by omega
    simp only [hq2] at hst
    rw [hq2] at h2
    rw [← hq]
    (refine q_skip (q_seq (q_block ?_)))
    refine q_drawB [true, true, false, false, true, true, true, true, true, true, true, true, false, false, false, false] [] [.ow (.slice (some ⟨g, 0, none⟩) l.length c) 3 1 l.length (ints l')] (by repeat constructor) (by kernel_rfl) (by kernel_rfl) (by kernel_rfl) ?_
    refine qb_T 2 rfl rfl (Sp.refl _) fun K1 hK1 => ?_
    (refine qf_pure tabOk rfl rfl rfl (qf_pure tabOk rfl rfl rfl (qf_nil ?_)))
    refine hK1 _ _ (qb_F 2 [.ow (.slice (some ⟨g, 0, none⟩) l.length c) 3 1 l.length (ints l')] rfl rfl (by repeat constructor) fun K1 hK1 => ?_)
    (refine qf_pure tabOk rfl rfl rfl (qf_pure tabOk rfl rfl rfl (qf_nil ?_)))
    refine hK1 _ _ (qb_T 8 rfl rfl (by repeat constructor) fun K1 hK1 => ?_)
    (refine qf_pure tabOk rfl rfl rfl (qf_pure tabOk rfl rfl rfl ?_))
    (refine qf_index tabOk rfl rfl rfl rfl rfl (by omega) (by omega) ?_; refine qf_load1 tabOk rfl rfl rfl (fun w hs => RdI.at (hs.rdI (l := l') (t := 3) (n := l.length) (by repeat constructor) hl'.symm) q h2) ?_)
    (refine qf_pure tabOk rfl rfl rfl (qf_pure tabOk rfl rfl rfl ?_))
    (refine qf_index tabOk rfl rfl rfl rfl rfl (by omega) (by omega) ?_; refine qf_load1 tabOk rfl rfl rfl (fun w hs => RdI.at (hs.rdI (l := l') (t := 3) (n := l.length) (by repeat constructor) hl'.symm) k h1) ?_)
    (refine qf_nil ?_)
    refine hK1 _ _ (qb_F 4 [.ow (.slice (some ⟨g, 0, none⟩) l.length c) 3 1 l.length (ints l')] rfl rfl (by repeat constructor) fun K1 hK1 => ?_)
    skip
    refine qf_index tabOk rfl rfl rfl rfl rfl (by omega) (by omega) ?_
    refine qf_storeW tabOk k rfl rfl rfl rfl (by repeat constructor) (by omega) (by simpa using h1) ?_
    skip
    refine qf_index tabOk rfl rfl rfl rfl rfl (by omega) (by omega) ?_
    refine qf_storeW tabOk q rfl rfl rfl rfl (by repeat constructor) (by omega) (by simpa using h2) ?_
    rw [← List.map_set, ← List.map_set]
    (refine qf_nil ?_)
    refine hK1 _ _ (qb_nil ?_)
    (refine q_blk (q_region (ql_pure tabOk rfl rfl (ql_ar tabOk rfl rfl rfl rfl (by omega) (by omega) (ql_pure tabOk rfl rfl (ql_ar tabOk rfl rfl rfl rfl (by omega) (by omega) (ql_pure tabOk rfl rfl (ql_pure tabOk rfl rfl (q_nil ?_)))))))))
    exact hK (k + 1, _) _ _ hst (by simp only; omega) ⟨rfl, rfl, lookI rfl (by omega), trivial⟩ (by repeat constructor)
  · obtain rfl := hI.end (by omega)
    (refine q_exit _ rfl ?_)
    refine q_end tabOk rfl (by repeat constructor) fun w hs => ?_
    exact ⟨rfl, hs⟩

/-- Numbers that are set to -1, so far. -/
def filP (k : Nat) : List Int := (List.range 8).map fun i => if i < k then -1 else 0
theorem filP_len (k : Nat) : (filP k).length = 8 := by simp [filP]
theorem filP_set {k : Nat} (hk : k < 8) : (filP k).set k (-1) = filP (k + 1) := by
  refine List.ext_getElem (by simp [filP]) (fun i h1 h2 => ?_)
  rw [List.getElem_set]
  simp only [filP, List.getElem_map, List.getElem_range]
  by_cases e : k = i
  · subst e; simp
  · rw [if_neg e]
    by_cases e2 : i < k
    · rw [if_pos e2, if_pos (by omega)]
    · rw [if_neg e2, if_neg (by omega)]
theorem filP_8 : filP 8 = List.replicate 8 (-1) := by decide
theorem i_arr : arrB Try.prog 195 8 3 1 = true := by kernel_rfl
theorem chI_add (l : List Nat) (x : Nat) : ints (chI (l ++ [x])) = ints (chI l) ++ [.int .i64 x] := by simp [chI]
theorem sh_run {l : Lb} (hl : l.Ok) {i f s : Nat} (h : Sh l i f s) : ∃ hi : i < l.runs.length, runI l.err l.runs[i] = some ((f : Int), (s : Int)) := by
  obtain ⟨h1, h2⟩ := h
  refine ⟨h1, ?_⟩
  rw [List.getD_eq_getElem?_getD, List.getElem?_eq_getElem h1, Option.getD_some] at h2
  have hr := hl.run _ (List.getElem_mem h1)
  have h3 := hr.a0
  have h5 := hr.b0
  unfold runV at h2
  unfold runI
  split at h2
  · rename_i hc
    rw [if_pos hc]
    have e1 := congrArg Prod.fst (Option.some.inj h2)
    have e2 := congrArg Prod.snd (Option.some.inj h2)
    dsimp only at e1 e2
    rw [← e1, ← e2, Int.toNat_of_nonneg h3, Int.toNat_of_nonneg h5]
  · rename_i hc
    rw [if_neg hc]
    split at h2
    · rename_i hc2
      rw [if_pos hc2]
      have e1 := congrArg Prod.fst (Option.some.inj h2)
      have e2 := congrArg Prod.snd (Option.some.inj h2)
      dsimp only at e1 e2
      rw [← e1, ← e2, Int.toNat_of_nonneg h3, Int.toNat_of_nonneg h5]
    · cases h2
/-- The search ahead of a round. -/
def BIx (l : Lb) (fast slow n : Nat) (by' : List Int) (met lev : List Nat) : Prop := (n < met.length ∧ BI l fast slow n [] by' met lev) ∨ ∃ m, n = m + 1 ∧ n = met.length ∧ BI l fast slow m (shL l) by' met lev
theorem BI.bd {l : Lb} {fast slow n : Nat} {pre : List (Nat × Int × Int)} {by' : List Int} {met lev : List Nat} (h : BI l fast slow n pre by' met lev) : met.length ≤ 9 := by
  have h2 := h.sz
  have h3 := List.length_filter_le (fun s => decide (0 ≤ by'.getD s 0)) (List.range 8)
  rw [List.length_range] at h3
  omega
theorem BIx.bd {l : Lb} {fast slow n : Nat} {by' : List Int} {met lev : List Nat} (h : BIx l fast slow n by' met lev) : n ≤ met.length ∧ met.length ≤ 9 := by
  rcases h with ⟨h1, h2⟩ | ⟨m, h1, h2, h3⟩
  · exact ⟨by omega, h2.bd⟩
  · exact ⟨by omega, h3.bd⟩
theorem BIx.go {l : Lb} {fast slow n : Nat} {by' : List Int} {met lev : List Nat} (h : BIx l fast slow n by' met lev) (hn : n < met.length) : BI l fast slow n [] by' met lev := by
  rcases h with ⟨_, h2⟩ | ⟨m, h1, h2, h3⟩
  · exact h2
  · omega
theorem BIx.after {l : Lb} {fast slow n : Nat} {by' : List Int} {met lev : List Nat} (h : BI l fast slow n (shL l) by' met lev) : BIx l fast slow (n + 1) by' met lev := by
  have := h.nl
  by_cases h1 : n + 1 < met.length
  · exact .inl ⟨h1, h.next h1⟩
  · exact .inr ⟨n, rfl, by omega, h⟩
theorem BIx.none {l : Lb} {fast slow n : Nat} {by' : List Int} {met lev : List Nat} (he : 0 ≤ l.err) (h : BIx l fast slow n by' met lev) (hn : n = met.length) : NoCh l fast slow ∧ by'.getD slow 0 < 0 ∧ by'.length = 8 := by
  rcases h with ⟨h1, _⟩ | ⟨m, h1, h2, h3⟩
  · omega
  · exact ⟨h3.none he (by omega), h3.slow, h3.bl⟩
def tK41_bd78311 : OT := .alt (chainT [11, 0, 1, 2, 3, 4, 5, 6, 7, 8, 9, 10, 12, 13] (.nil)) (chainT [0, 1, 2, 3, 4, 5, 6, 7, 11, 8, 9, 10, 12, 13] (.nil))
set_option maxHeartbeats 4000000 in
theorem chain_ca (w : World) (b : Nat) (lo hi : Nat) (l : Lb) (v : Value) (o : Nat) (t : TypeId) (hb : Blk w b (dkC l v o) t) (h : RdR w lo hi v l.runs) (hl : l.Ok) (fast slow : Nat) (hf8 : fast < 8) (hs8 : slow < 8) :
    Ca Try.prog 96 [.pointer (some ⟨b, 0, none⟩), .int .i64 fast, .int .i64 slow] w fun x w' => (x = .slice none 0 0 ∧ NoCh l fast slow ∧ Chg [] w w') ∨ ∃ g cp : Nat, ∃ c : List Int, x = .slice (some ⟨g, 0, none⟩) c.length cp ∧ Short l fast slow c ∧ Sat w M0 [.ow x 3 1 c.length (ints c)] w' := by
  have hlen : l.runs.length ≤ maxLen := by have := hl.len; simp only [maxLen]; omega
  refine q_ofM (Sat.nil w M0) Try.func96 rfl (by simp [Try.ntmps96]) ?_
  (refine q_seq (q_region ?_))
  refine ql_box rfl rfl (fun b5 => ?_)
  (refine ql_pure tabOk rfl rfl (q_nil ?_))
  refine q_scope (fun _ _ _ h => h) ?_
  (refine q_seq (q_region ?_))
  refine ql_alloc zero195 rfl (fun b7 => ?_)
  (refine q_nil (q_seq (q_seq (q_region (ql_pure tabOk rfl rfl (q_nil (q_block ?_)))))))
  refine q_loop (σ := Nat) (fun k => k ≤ 8) (fun k => 8 - k) (fun k => [(0, .pointer (some ⟨b, 0, none⟩)), (1, .int .i64 fast), (5, .pointer (some ⟨b5, 0, none⟩)), (7, .pointer (some ⟨b7, 0, none⟩)), (17, .int .i64 k)]) (fun k => [.pt b7 (ints (filP k)) 195, .pt b5 [.int .i64 slow] 3]) 0 (by omega) ⟨rfl, rfl, rfl, rfl, rfl, trivial⟩ (by repeat constructor) ?_
  · rintro k hk K hK
    (refine q_seq (q_region (ql_pure tabOk rfl rfl (q_nil (q_seq ?_)))))
    refine q_if rfl (fun hc => ?_) (fun hc => ?_)
    · have hk2 : k < 8 := by omega
      clear hc
      (refine q_skip (q_seq (q_block (q_seq (q_region (ql_pure tabOk rfl rfl (ql_pure tabOk rfl rfl (q_nil (q_region (ql_pure tabOk rfl rfl ?_))))))))))
      refine ql_indexA (len := 8) i_arr rfl rfl rfl (by omega) (by omega) ?_
      have hi : k < (filP k).length := by rw [filP_len]; omega
      refine ql_storeI tabOk (k) rfl rfl rfl (by repeat constructor) (by first | rfl | omega | simp) hi ?_
      rw [filP_set hk2]
      (refine q_nil (q_blk (q_region (ql_ar tabOk rfl rfl rfl rfl (by omega) (by omega) (ql_pure tabOk rfl rfl (q_nil ?_))))))
      exact hK (k + 1) _ _ (by omega) (by omega) ⟨rfl, rfl, rfl, rfl, rfl, trivial⟩ (by repeat constructor)
    · have hk8 : k = 8 := by omega
      subst hk8
      rw [filP_8]
      clear hc hK hk
      (refine q_exit _ rfl (q_seq (q_region (ql_pure tabOk rfl rfl ?_))))
      refine ql_mkS 3 [.int .i64 fast] rfl (by kernel_rfl) rfl (fun b24 => ?_)
      skip
      refine ql_alloc zero26 rfl (fun b9 => ?_)
      (refine ql_set tabOk rfl rfl rfl rfl (by repeat constructor) ?_; refine q_nil (q_seq (q_label (q_seq (q_seq (q_region ?_))))))
      refine ql_alloc zero3 rfl (fun b10 => ?_)
      (refine ql_set tabOk rfl rfl rfl rfl (by repeat constructor) ?_; refine q_nil (q_block ?_))
      refine q_conv (H' := [.ow (.slice (some ⟨b24, 0, none⟩) 1 1) 3 1 1 (ints (chI [fast])), .pt b9 [.slice (some ⟨b24, 0, none⟩) 1 1] 26, .pt b10 [.int .i64 0] 3, .pt b7 (ints (List.replicate 8 (-1))) 195, .pt b5 [.int .i64 slow] 3, un (([] : List Nat).map dfr)]) (fun w' hs => (Sat.un_nil (Sat.pt_ow (sz := 1) (m := 1) rfl (by omega) (hs.sp (H' := [.pt b24 [.int .i64 fast] 3, .pt b9 [.slice (some ⟨b24, 0, none⟩) 1 1] 26, .pt b10 [.int .i64 0] 3, .pt b7 (ints (List.replicate 8 (-1))) 195, .pt b5 [.int .i64 slow] 3]) (by repeat constructor)))).sp (by repeat constructor)) ?_
      refine q_loopD (σ := Nat × List Int × (List Nat × List Nat) × List Nat × Nat × Value) (fun s => s.2.2.2.1.map Eng.mark) (fun s => BIx l fast slow s.1 s.2.1 s.2.2.1.1 s.2.2.1.2) (fun s => 10 - s.1)
        (fun s => [(0, .pointer (some ⟨b, 0, none⟩)), (1, .int .i64 fast), (5, .pointer (some ⟨b5, 0, none⟩)), (7, .pointer (some ⟨b7, 0, none⟩)), (9, .pointer (some ⟨b9, 0, none⟩)), (10, .pointer (some ⟨s.2.2.2.2.1, 0, none⟩))])
        (fun s => [.ow s.2.2.2.2.2 3 1 s.2.2.1.1.length (ints (chI s.2.2.1.1)), .pt b9 [s.2.2.2.2.2] 26, .pt s.2.2.2.2.1 [.int .i64 s.1] 3, .pt b7 (ints s.2.1) 195, .pt b5 [.int .i64 slow] 3, un (s.2.2.2.1.map dfr)])
        (0, List.replicate 8 (-1), ([fast], [0]), [], b10, .slice (some ⟨b24, 0, none⟩) 1 1) (.inl ⟨by simp, BI.start l hf8 hs8⟩) ⟨rfl, rfl, rfl, rfl, rfl, rfl, trivial⟩ (by repeat constructor) ?_
      rintro ⟨n, by', ⟨met, lev⟩, Ds, x10, vm⟩ hI K hK
      dsimp only at hI hK ⊢
      have hmc : n ≤ met.length ∧ met.length ≤ 9 := hI.bd
      refine q_fact (fun w hs => hs.slice2 (v := vm) (by repeat constructor)) ?_
      rintro ⟨ga, gc, rfl⟩
      (refine q_seq (q_seq (q_region ?_)); (iterate 2 refine ql_loadBa tabOk rfl rfl rfl ?_); refine ql_pure tabOk rfl rfl (ql_pure tabOk rfl rfl (q_nil ?_)))
      refine q_if rfl (fun hc => ?_) (fun hc => ?_)
      · have hn : n < met.length := by omega
        clear hc
        have hB := hI.go hn
        (refine q_skip (q_seq (q_block (q_seq (q_region ?_)))); (iterate 3 refine ql_pure tabOk rfl rfl ?_); refine ql_loadPA tabOk rfl rfl rfl (by assumption) (by rfl) (by rfl) ?_)
        refine ql_call (β := Nat) tabOk [] _ M0 rfl rfl rfl rfl (Sp.refl _) (fun _ h => h.elim) (fun w' hs => shown_ca w' l v) ?_
        rintro bs _ rfl
        dsimp only [List.cons_append, List.nil_append]
        (refine q_nil (q_block ?_))
        obtain ⟨he0, he1⟩ : 0 ≤ l.err ∧ l.err ≤ 1000 := ⟨hl.e0, hl.e1⟩
        refine q_range shE (List Int × (List Nat × List Nat) × Value) (shL l) (fun pre s => BI l fast slow n pre s.1 s.2.1.1 s.2.1.2) (fun c s => c = .exit 2 ∧ ∃ K, BK l fast slow s.1 slow [] K)
          (fun s => [.ow s.2.2 3 1 s.2.1.1.length (ints (chI s.2.1.1)), .pt b9 [s.2.2] 26, .pt b7 (ints s.1) 195]) [.pt x10 [.int .i64 n] 3, .pt b5 [.int .i64 slow] 3, un (Ds.map dfr), .pt bs (lbC l v) 25] (by', (met, lev), .slice ga met.length gc)
          rfl (by kernel_rfl) rfl (fun _ _ => rfl) hB (by repeat constructor) ?_ ?_ ?_ ?_
        · intro w1 D hs hD
          exact shown_it w w1 D lo hi bs l v h ⟨hl.e0, hl.e1⟩ (by have := hl.len; omega) (fun w' hc => hs.chg0.old hc (fun k hk => (hD k hk).2.resolve_left (fun h => h))) (hs.blk (by repeat constructor)) (fun h => (hD _ h).1 ⟨.pt bs (lbC l v) _, (by repeat constructor), rfl⟩)
        · clear hB hI K hK
          rintro pre ⟨i, p1, p2⟩ post ⟨by', ⟨met, lev⟩, vm⟩ w1 lb rdy bsy K F' hx hB hsat hR hbegin hend hret hexit
          dsimp only at hB hend hexit hbegin ⊢
          have hxm : (i, p1, p2) ∈ shL l := by rw [hx]; simp
          have hxl := shL_in hl _ hxm
          have hxs := sh_mem hxm
          have h8 := hl.s1
          obtain ⟨f, hf⟩ := Int.eq_ofNat_of_zero_le hxl.1
          obtain ⟨g, hg⟩ := Int.eq_ofNat_of_zero_le hxl.2.2.1
          dsimp only at hf hg hxl hxs
          subst hf hg
          have hg8 : g < 8 := by omega
          rw [Int.toNat_natCast, Int.toNat_natCast] at hxs
          dsimp only [shE, List.zip_cons_cons, List.zip_nil_left, List.zip_nil_right, List.foldl_cons, List.foldl_nil]
          (refine q_seq (q_region (ql_pure tabOk rfl rfl (q_nil (q_region ?_)))))
          refine ql_alloc zero63 rfl (fun b12 => ?_)
          (refine ql_setA tabOk rfl rfl rfl rfl rfl (by repeat constructor) rfl ?_; refine q_nil ?_)
          refine q_conv (H' := [rdy, .pt b12 [.int .i64 f, .int .i64 g] 63, .ow vm 3 1 met.length (ints (chI met)), .pt b9 [vm] 26, .pt b7 (ints by') 195]) (fun w' hs => hs.sp (by repeat constructor)) ?_
          refine hbegin _ _ ?_
          have hnl := hB.nl
          have hm9 := hB.bd
          have hbl := hB.bl
          have hgb : g < by'.length := by omega
          obtain ⟨mn, hmn⟩ : ∃ mn, mn = met.getD n 0 := ⟨_, rfl⟩
          have hmI : (chI met)[n]'(by rw [chI_len]; exact hnl) = (mn : Int) := by rw [hmn, List.getD_eq_getElem?_getD, List.getElem?_eq_getElem hnl]; simp [chI]
          have hnc : n < (chI met).length := by rw [chI_len]; exact hnl
          obtain ⟨bg, hbg⟩ : ∃ bg, bg = by'.getD g 0 := ⟨_, rfl⟩
          have hbI : by'[g] = bg := by rw [hbg, List.getD_eq_getElem?_getD, List.getElem?_eq_getElem hgb]; rfl
          refine q_fact (fun w hs => hs.ownSome (v := vm) (by repeat constructor) (by omega)) ?_
          rintro ⟨gn, gm, rfl⟩
          (refine q_block (q_seq ?_))
          by_cases hfm : f = mn
          · by_cases hbn : bg < 0
            · skip
              refine q_draw _ [] (Sp.refl _) (by kernel_rfl) (by kernel_rfl) ?_
              (refine qf_pure tabOk rfl rfl rfl ?_; (iterate 2 refine qf_loadBa tabOk rfl rfl rfl ?_))
              refine qf_load1 (v := .int .i64 n) tabOk rfl rfl rfl (fun w hs => by rw [Blk.cell ((hR w hs.chg).blk (b := x10) (cs := [.int .i64 n]) (t := 3) (by repeat constructor))]; rfl) ?_
              skip
              (refine qf_index tabOk rfl rfl rfl rfl rfl (by omega) (by omega) ?_; refine qf_load1 tabOk rfl rfl rfl (fun w hs => RdI.at (hs.rdI (l := chI met) (t := 3) (n := met.length) (by repeat constructor) (chI_len _).symm) n hnc) ?_)
              rw [hmI]
              (refine qf_eqlT tabOk rfl rfl rfl (by omega) (qf_pure tabOk rfl rfl rfl (qf_gyes rfl (qf_pure tabOk rfl rfl rfl (qf_gyes rfl ?_)))); refine qf_loadBa tabOk rfl rfl rfl ?_; refine qf_gyes rfl ?_)
              refine qf_indexA (len := 8) i_arr rfl rfl rfl (by omega) (by omega) ?_
              (refine qf_gyes rfl ?_)
              refine qf_loadI tabOk (g) rfl rfl rfl (by repeat constructor) (by first | rfl | omega | simp) hgb ?_
              rw [hbI]
              (refine qf_gyes rfl (qf_lssT tabOk rfl rfl rfl (by omega) (qf_pure tabOk rfl rfl rfl (qf_nil (q_cond_true rfl (q_seq (q_region (ql_pure tabOk rfl rfl ?_))))))); refine ql_loadBa tabOk rfl rfl rfl ?_; refine ql_pure tabOk rfl rfl ?_)
              refine ql_indexA (len := 8) i_arr rfl rfl rfl (by omega) (by omega) ?_
              refine ql_storeI tabOk (g) rfl rfl rfl (by repeat constructor) (by first | rfl | omega | simp) hgb ?_
              (refine q_nil (q_seq (q_seq (q_region (ql_pure tabOk rfl rfl ?_)))); refine ql_loadBa tabOk rfl rfl rfl ?_)
              refine ql_load1 (v := .int .i64 slow) tabOk rfl rfl rfl (fun w hs => by rw [Blk.cell ((hR w hs.chg).blk (b := b5) (cs := [.int .i64 slow]) (t := 3) (by repeat constructor))]; rfl) ?_
              by_cases hgs : g = slow
              · have hstop : BK l fast slow (by'.set g (i : Int)) slow [] (lev.getD n 0 + 1) := by
                  have := hB.stop (x := (i, (f : Int), (g : Int))) hl.e0 (by rw [Int.toNat_natCast, Int.toNat_natCast]; exact hxs) hs8 (by rw [Int.toNat_natCast, ← hmn]; exact hfm) (by rw [Int.toNat_natCast]; exact hgs)
                  rw [hgs]
                  exact this
                (refine ql_eqlT tabOk rfl rfl rfl (by omega) (q_nil (q_cond_true rfl ?_)))
                refine q_exit_out rfl ?_
                exact hexit 2 _ _ (by'.set g i, (met, lev), _) ⟨rfl, lev.getD n 0 + 1, hstop⟩ (by repeat constructor)
              · (refine ql_eqlF tabOk rfl rfl rfl (by omega) (q_nil (q_cond_false rfl (q_skip (q_region ?_)))); refine ql_loadBa tabOk rfl rfl rfl ?_; refine ql_pure tabOk rfl rfl ?_; refine ql_loadBa tabOk rfl rfl rfl ?_)
                refine ql_mkS 3 [.int .i64 g] rfl (by kernel_rfl) rfl (fun bn => ?_)
                skip
                refine ql_append (q := 1) (news := [.int .i64 g]) slI rfl rfl rfl (fun v' => by repeat constructor) (fun w' hs => ⟨_, _, Blk.rdN (hs.blk (b := bn) (by repeat constructor)) rfl⟩) (by simp [oneV]) (by omega) (by omega) (fun u' => ?_)
                refine ql_fact (fun w' hs => hs.own_one (v := u') (by repeat constructor)) (fun hone => ?_)
                refine ql_store1 tabOk rfl rfl rfl hone (by repeat constructor) (by simp) ?_
                (refine q_nil (q_blk ?_))
                have hA := hB.add (x := (i, (f : Int), (g : Int))) (by rw [Int.toNat_natCast, Int.toNat_natCast]; exact hxs) (by rw [Int.toNat_natCast]; exact hg8) (by show Int.toNat (f : Int) = met.getD n 0; rw [Int.toNat_natCast, ← hmn]; exact hfm) (by show by'.getD (Int.toNat (g : Int)) 0 < 0; rw [Int.toNat_natCast, ← hbg]; exact hbn) (by show Int.toNat (g : Int) ≠ slow; rw [Int.toNat_natCast]; exact hgs)
                simp only [Int.toNat_natCast] at hA
                exact hend _ _ (by'.set g i, (met ++ [g], lev ++ [lev.getD n 0 + 1]), u') hA (by dsimp only; rw [List.length_append, List.length_singleton, chI_add]; repeat constructor)
            · skip
              refine q_draw _ [] (Sp.refl _) (by kernel_rfl) (by kernel_rfl) ?_
              (refine qf_pure tabOk rfl rfl rfl ?_; (iterate 2 refine qf_loadBa tabOk rfl rfl rfl ?_))
              refine qf_load1 (v := .int .i64 n) tabOk rfl rfl rfl (fun w hs => by rw [Blk.cell ((hR w hs.chg).blk (b := x10) (cs := [.int .i64 n]) (t := 3) (by repeat constructor))]; rfl) ?_
              skip
              (refine qf_index tabOk rfl rfl rfl rfl rfl (by omega) (by omega) ?_; refine qf_load1 tabOk rfl rfl rfl (fun w hs => RdI.at (hs.rdI (l := chI met) (t := 3) (n := met.length) (by repeat constructor) (chI_len _).symm) n hnc) ?_)
              rw [hmI]
              (refine qf_eqlT tabOk rfl rfl rfl (by omega) (qf_pure tabOk rfl rfl rfl (qf_gyes rfl (qf_pure tabOk rfl rfl rfl (qf_gyes rfl ?_)))); refine qf_loadBa tabOk rfl rfl rfl ?_; refine qf_gyes rfl ?_)
              refine qf_indexA (len := 8) i_arr rfl rfl rfl (by omega) (by omega) ?_
              (refine qf_gyes rfl ?_)
              refine qf_loadI tabOk (g) rfl rfl rfl (by repeat constructor) (by first | rfl | omega | simp) hgb ?_
              rw [hbI]
              (refine qf_gyes rfl (qf_lssF tabOk rfl rfl rfl (by omega) (qf_pure tabOk rfl rfl rfl (qf_nil (q_cond_false rfl (q_skip (q_blk ?_)))))))
              exact hend _ _ (by', (met, lev), _) (hB.skip hg8 (.inr (by show 0 ≤ by'.getD (Int.toNat (g : Int)) 0; rw [Int.toNat_natCast, ← hbg]; omega))) (by repeat constructor)
          · skip
            refine q_draw _ [] (Sp.refl _) (by kernel_rfl) (by kernel_rfl) ?_
            (refine qf_pure tabOk rfl rfl rfl ?_; (iterate 2 refine qf_loadBa tabOk rfl rfl rfl ?_))
            refine qf_load1 (v := .int .i64 n) tabOk rfl rfl rfl (fun w hs => by rw [Blk.cell ((hR w hs.chg).blk (b := x10) (cs := [.int .i64 n]) (t := 3) (by repeat constructor))]; rfl) ?_
            skip
            (refine qf_index tabOk rfl rfl rfl rfl rfl (by omega) (by omega) ?_; refine qf_load1 tabOk rfl rfl rfl (fun w hs => RdI.at (hs.rdI (l := chI met) (t := 3) (n := met.length) (by repeat constructor) (chI_len _).symm) n hnc) ?_)
            rw [hmI]
            (refine qf_eqlF tabOk rfl rfl rfl (by omega) (qf_pure tabOk rfl rfl rfl ?_); (iterate 5 refine qf_gno rfl rfl rfl ?_); refine qf_pure tabOk rfl rfl rfl (qf_nil (q_cond_false rfl (q_skip (q_blk ?_)))))
            exact hend _ _ (by', (met, lev), _) (hB.skip hg8 (.inl (by show Int.toNat (f : Int) ≠ met.getD n 0; rw [Int.toNat_natCast, ← hmn]; exact hfm))) (by repeat constructor)
        · intro D s hI2
          obtain ⟨by', ⟨met, lev⟩, vm⟩ := s
          dsimp only at hI2 ⊢
          (refine q_blk (q_blk (q_seq (q_seq (q_region ?_)))); refine ql_loadBa tabOk rfl rfl rfl ?_; refine q_nil (q_region ?_))
          refine ql_alloc zero3 rfl (fun y10 => ?_)
          (refine ql_set tabOk rfl rfl rfl rfl (by repeat constructor) ?_; refine q_nil (q_region ?_); refine ql_loadBa tabOk rfl rfl rfl ?_; refine ql_ar tabOk rfl rfl rfl rfl (by omega) (by omega) ?_; refine ql_set tabOk rfl rfl rfl rfl (by repeat constructor) ?_; refine q_nil ?_)
          refine q_conv (H' := [.ow vm 3 1 met.length (ints (chI met)), .pt b9 [vm] 26, .pt y10 [.int .i64 (n + 1)] 3, .pt b7 (ints by') 195, .pt b5 [.int .i64 slow] 3, un ((D :: Ds).map dfr)]) (fun w' hs => (Sat.un_in (hs.sp (H' := [dfr D, un (Ds.map dfr), .ow vm 3 1 met.length (ints (chI met)), .pt b9 [vm] 26, .pt y10 [.int .i64 (n + 1)] 3, .pt b7 (ints by') 195, .pt b5 [.int .i64 slow] 3]) (by repeat constructor))).sp (by repeat constructor)) ?_
          exact hK (n + 1, by', (met, lev), D :: Ds, y10, vm) _ _ (BIx.after hI2) (by dsimp only; omega) ⟨rfl, rfl, rfl, rfl, rfl, rfl, trivial⟩ (Sp.refl _)
        · rintro D ⟨by', ⟨met, lev⟩, vm⟩ c ⟨rfl, KK, hBK⟩
          dsimp only at hBK ⊢
          (refine q_exit _ rfl (q_seq (q_seq (q_region ?_))); refine ql_loadBa tabOk rfl rfl rfl ?_)
          have hb8 := hBK.bl
          have hge : 0 ≤ by'.getD slow 0 := by
            rcases hBK.ge with h1 | ⟨_, h2⟩
            · exact h1
            · exact absurd rfl h2
          refine ql_indexA (len := 8) i_arr rfl rfl rfl (by omega) (by omega) ?_
          have his : slow < by'.length := by omega
          refine ql_loadI tabOk (slow) rfl rfl rfl (by repeat constructor) (by first | rfl | omega | simp) his ?_
          rw [show by'[slow] = by'.getD slow 0 from by rw [List.getD_eq_getElem?_getD, List.getElem?_eq_getElem his]; rfl]
          (refine ql_lssF tabOk rfl rfl rfl (by omega) (q_nil (q_cond_false rfl (q_skip (q_seq (q_region (ql_pure tabOk rfl rfl (q_nil (q_seq (q_seq (q_region ?_)))))))))); refine ql_loadBa tabOk rfl rfl rfl ?_; refine ql_pure tabOk rfl rfl (q_nil (q_block ?_)))
          refine q_conv (H' := [.ow (.slice none 0 0) 3 1 0 (ints []), .pt b7 (ints by') 195, un ((D :: Ds).map dfr)]) (fun w' hs => Sat.ownil ((Sat.un_in (hs.sp (H' := [dfr D, un (Ds.map dfr), .pt b7 (ints by') 195]) (by repeat constructor))).sp (by repeat constructor)) _ _) ?_
          refine q_loop (σ := Nat × List Int × Value) (fun s => BK l fast slow by' s.1 s.2.1 KK) (fun s => KK + 1 - s.2.1.length)
            (fun s => [(0, .pointer (some ⟨b, 0, none⟩)), (1, .int .i64 fast), (7, .pointer (some ⟨b7, 0, none⟩)), (13, s.2.2), (14, .int .i64 s.1)])
            (fun s => [.ow s.2.2 3 1 s.2.1.length (ints s.2.1), .pt b7 (ints by') 195, un ((D :: Ds).map dfr)]) (slow, [], .slice none 0 0) hBK ⟨rfl, rfl, rfl, rfl, rfl, trivial⟩ (Sp.refl _) ?_
          rintro ⟨at', out, vo⟩ hO K3 hK3
          dsimp only at hO hK3 ⊢
          have hob := hO.bound
          have hk9 := hO.kb
          have ha8 := hO.at8
          refine q_fact (fun w hs => hs.slice2 (v := vo) (by repeat constructor)) ?_
          rintro ⟨vg, vc, rfl⟩
          by_cases hol : out.length = 0
          · have hgo : out = [] ∨ at' ≠ fast := .inl (List.length_eq_zero_iff.1 hol)
            (refine q_seq (q_seq (q_region (ql_pure tabOk rfl rfl (ql_pure tabOk rfl rfl (ql_eqlT tabOk rfl rfl rfl (by omega) (ql_pure tabOk rfl rfl ?_)))))); (iterate 3 refine ql_gno rfl rfl rfl ?_); refine ql_pure tabOk rfl rfl (q_nil (q_cond_true rfl (q_skip (q_block (q_seq (q_region (ql_pure tabOk rfl rfl (ql_pure tabOk rfl rfl ?_)))))))))
            obtain ⟨f, hf0, hsh, hO2⟩ := hO.step hgo
            have hib : at' < by'.length := by omega
            obtain ⟨bi, hbi⟩ : ∃ bi : Nat, (bi : Int) = by'.getD at' 0 := ⟨(by'.getD at' 0).toNat, by omega⟩
            rw [← hbi] at hO2 hsh
            rw [Int.toNat_natCast] at hsh
            have hbI : by'[at'] = bi := by rw [hbi, List.getD_eq_getElem?_getD, List.getElem?_eq_getElem hib]; rfl
            skip
            refine ql_indexA (len := 8) i_arr rfl rfl rfl (by omega) (by omega) ?_
            refine ql_loadI tabOk (at') rfl rfl rfl (by repeat constructor) (by first | rfl | omega | simp) hib ?_
            rw [hbI]
            skip
            refine ql_mkS 3 [.int .i64 bi] rfl (by kernel_rfl) rfl (fun bn => ?_)
            skip
            refine ql_append (q := 1) (news := [.int .i64 bi]) slI rfl rfl rfl (fun v' => by repeat constructor) (fun w' hs => ⟨_, _, Blk.rdN (hs.blk (b := bn) (by repeat constructor)) rfl⟩) (by simp [oneV]) (by omega) (by omega) (fun u' => ?_)
            (refine ql_pure tabOk rfl rfl (q_nil (q_seq ?_)))
            obtain ⟨hbl, hrun⟩ := sh_run hl hsh
            refine q_cut (σ := Nat) (fun z => [(0, .pointer (some ⟨b, 0, none⟩)), (1, .int .i64 fast), (7, .pointer (some ⟨b7, 0, none⟩)), (13, u'), (14, .int .i64 at'), (15, .pointer (some ⟨z, 0, none⟩))])
              (fun z => [.pt z [.int .i64 f, .int .i64 at'] 63, .ow u' 3 1 (out.length + 1) (ints out ++ [.int .i64 bi]), .pt b7 (ints by') 195, un ((D :: Ds).map dfr)]) ?_ ?_
            rotate_left
            · intro K4 hK4
              refine q_drawT (tK41_bd78311) _ [] (Sp.refl _) (by kernel_rfl) (by kernel_rfl) ?_
              refine qt_alt ?_ ?_
              · skip
                refine qt_seg (by repeat (first | exact PickL.nil | (apply PickL.cons; rfl))) fun K1 hK1 => ?_
                skip
                refine qf_alloc zero63 rfl (fun b15 => ?_)
                ((iterate 3 refine qf_pure tabOk rfl rfl rfl ?_); refine qf_loadPA tabOk rfl rfl rfl (by assumption) (by rfl) (by rfl) ?_; refine qf_pure tabOk rfl rfl rfl ?_)
                refine qf_indexA (len := 8) i_arr rfl rfl rfl (by omega) (by omega) ?_
                refine qf_loadI tabOk (at') rfl rfl rfl (by repeat constructor) (by first | rfl | omega | simp) hib ?_
                rw [hbI]
                skip
                refine qf_callv (val := .tuple #[.agg #[.int .i64 f, .int .i64 at'], .bool true]) tabOk rfl rfl rfl rfl (fun w hs => ?_) ?_; exact by have := shows_ca w lo hi l v (RdE.keep h hs.chg0) ⟨hl.e0, hl.e1⟩ bi hbl; rw [hrun] at this; exact this
                (refine qf_pure tabOk rfl rfl rfl (qf_ext tabOk rfl rfl rfl (qf_ext tabOk rfl rfl rfl ?_)); refine qf_setA tabOk rfl rfl rfl rfl rfl (by repeat constructor) rfl ?_; refine qf_pure tabOk rfl rfl rfl (qf_nil ?_))
                skip
                exact hK1 _ _ (qt_nil (hK4 b15 _ _ ⟨rfl, rfl, rfl, rfl, rfl, rfl, trivial⟩ (by repeat constructor)))
              · skip
                refine qt_seg (by repeat (first | exact PickL.nil | (apply PickL.cons; rfl))) fun K1 hK1 => ?_
                ((iterate 3 refine qf_pure tabOk rfl rfl rfl ?_); refine qf_loadPA tabOk rfl rfl rfl (by assumption) (by rfl) (by rfl) ?_; refine qf_pure tabOk rfl rfl rfl ?_)
                refine qf_indexA (len := 8) i_arr rfl rfl rfl (by omega) (by omega) ?_
                refine qf_loadI tabOk (at') rfl rfl rfl (by repeat constructor) (by first | rfl | omega | simp) hib ?_
                rw [hbI]
                skip
                refine qf_callv (val := .tuple #[.agg #[.int .i64 f, .int .i64 at'], .bool true]) tabOk rfl rfl rfl rfl (fun w hs => ?_) ?_; exact by have := shows_ca w lo hi l v (RdE.keep h hs.chg0) ⟨hl.e0, hl.e1⟩ bi hbl; rw [hrun] at this; exact this
                skip
                refine qf_alloc zero63 rfl (fun b15 => ?_)
                (refine qf_pure tabOk rfl rfl rfl (qf_ext tabOk rfl rfl rfl (qf_ext tabOk rfl rfl rfl ?_)); refine qf_setA tabOk rfl rfl rfl rfl rfl (by repeat constructor) rfl ?_; refine qf_pure tabOk rfl rfl rfl (qf_nil ?_))
                skip
                exact hK1 _ _ (qt_nil (hK4 b15 _ _ ⟨rfl, rfl, rfl, rfl, rfl, rfl, trivial⟩ (by repeat constructor)))
            intro b15
            (refine q_region (ql_pure tabOk rfl rfl ?_); refine ql_loadBa tabOk rfl rfl rfl ?_; refine ql_pure tabOk rfl rfl (q_nil (q_blk ?_)))
            have hb2 := hO2.bound
            rw [List.length_append, List.length_singleton] at hb2
            exact hK3 (f, out ++ [(bi : Int)], u') _ _ hO2 (by dsimp only; rw [List.length_append, List.length_singleton]; omega) ⟨rfl, rfl, rfl, rfl, rfl, trivial⟩ (by dsimp only; rw [List.length_append, List.length_singleton, show ints (out ++ [(bi : Int)]) = ints out ++ [.int .i64 bi] from by simp]; repeat constructor)
          · by_cases haf : at' = fast
            · have hne : out ≠ [] := fun e => hol (by rw [e]; rfl)
              have hsh := (show BK l fast slow by' fast out KK from haf ▸ hO).end hne
              refine q_fact (fun w hs => hs.ownSome (v := .slice vg out.length vc) (by repeat constructor) (by omega)) ?_
              rintro ⟨qg, qc, hq⟩
              cases hq
              (refine q_seq (q_seq (q_region (ql_pure tabOk rfl rfl (ql_pure tabOk rfl rfl (ql_eqlF tabOk rfl rfl rfl (by omega) (ql_pure tabOk rfl rfl (ql_gyes rfl (ql_pure tabOk rfl rfl (ql_gyes rfl (ql_pure tabOk rfl rfl (ql_gyes rfl ?_))))))))))); refine ql_neqF tabOk rfl rfl rfl (by omega) (ql_pure tabOk rfl rfl (q_nil (q_cond_false rfl (q_exit _ rfl (q_seq (q_region (ql_pure tabOk rfl rfl ?_))))))))
              refine ql_call (β := Unit) (ψ := fun _ v => v = .tuple #[]) (L' := fun _ => [.ow (.slice (some ⟨qg, 0, none⟩) out.length vc) 3 1 out.length (ints out.reverse)]) tabOk [.ow (.slice (some ⟨qg, 0, none⟩) out.length vc) 3 1 out.length (ints out)] _ (fun x => x = qg) rfl rfl rfl rfl (Sp.cons (by repeat constructor) (Sp.refl _)) (fun x hx => ⟨_, .head _, by subst hx; rfl⟩) (fun w' hs => (rev_ca w' qg vc out (by omega) (hs.all _ (.head _))).mono fun v w'' h => ⟨(), h⟩) ?_
              rintro _ _ rfl
              (refine q_nil (q_seq (q_region (ql_pure tabOk rfl rfl (ql_pure tabOk rfl rfl (q_nil (q_ret ?_)))))))
              refine q_finMs tabOk (D :: Ds) (by repeat constructor) rfl (by repeat constructor) fun w hs => ?_
              exact .inr ⟨qg, vc, out.reverse, by rw [List.length_reverse]; rfl, hsh, by rw [List.length_reverse]; exact hs.sp (by repeat constructor)⟩
            · have hgo : out = [] ∨ at' ≠ fast := .inr haf
              (refine q_seq (q_seq (q_region (ql_pure tabOk rfl rfl (ql_pure tabOk rfl rfl (ql_eqlF tabOk rfl rfl rfl (by omega) (ql_pure tabOk rfl rfl (ql_gyes rfl (ql_pure tabOk rfl rfl (ql_gyes rfl (ql_pure tabOk rfl rfl (ql_gyes rfl ?_))))))))))); refine ql_neqT tabOk rfl rfl rfl (by omega) (ql_pure tabOk rfl rfl (q_nil (q_cond_true rfl (q_skip (q_block (q_seq (q_region (ql_pure tabOk rfl rfl (ql_pure tabOk rfl rfl ?_))))))))))
              obtain ⟨f, hf0, hsh, hO2⟩ := hO.step hgo
              have hib : at' < by'.length := by omega
              obtain ⟨bi, hbi⟩ : ∃ bi : Nat, (bi : Int) = by'.getD at' 0 := ⟨(by'.getD at' 0).toNat, by omega⟩
              rw [← hbi] at hO2 hsh
              rw [Int.toNat_natCast] at hsh
              have hbI : by'[at'] = bi := by rw [hbi, List.getD_eq_getElem?_getD, List.getElem?_eq_getElem hib]; rfl
              skip
              refine ql_indexA (len := 8) i_arr rfl rfl rfl (by omega) (by omega) ?_
              refine ql_loadI tabOk (at') rfl rfl rfl (by repeat constructor) (by first | rfl | omega | simp) hib ?_
              rw [hbI]
              skip
              refine ql_mkS 3 [.int .i64 bi] rfl (by kernel_rfl) rfl (fun bn => ?_)
              skip
              refine ql_append (q := 1) (news := [.int .i64 bi]) slI rfl rfl rfl (fun v' => by repeat constructor) (fun w' hs => ⟨_, _, Blk.rdN (hs.blk (b := bn) (by repeat constructor)) rfl⟩) (by simp [oneV]) (by omega) (by omega) (fun u' => ?_)
              (refine ql_pure tabOk rfl rfl (q_nil (q_seq ?_)))
              obtain ⟨hbl, hrun⟩ := sh_run hl hsh
              refine q_cut (σ := Nat) (fun z => [(0, .pointer (some ⟨b, 0, none⟩)), (1, .int .i64 fast), (7, .pointer (some ⟨b7, 0, none⟩)), (13, u'), (14, .int .i64 at'), (15, .pointer (some ⟨z, 0, none⟩))])
                (fun z => [.pt z [.int .i64 f, .int .i64 at'] 63, .ow u' 3 1 (out.length + 1) (ints out ++ [.int .i64 bi]), .pt b7 (ints by') 195, un ((D :: Ds).map dfr)]) ?_ ?_
              rotate_left
              · intro K4 hK4
                refine q_drawT (tK41_bd78311) _ [] (Sp.refl _) (by kernel_rfl) (by kernel_rfl) ?_
                refine qt_alt ?_ ?_
                · skip
                  refine qt_seg (by repeat (first | exact PickL.nil | (apply PickL.cons; rfl))) fun K1 hK1 => ?_
                  skip
                  refine qf_alloc zero63 rfl (fun b15 => ?_)
                  ((iterate 3 refine qf_pure tabOk rfl rfl rfl ?_); refine qf_loadPA tabOk rfl rfl rfl (by assumption) (by rfl) (by rfl) ?_; refine qf_pure tabOk rfl rfl rfl ?_)
                  refine qf_indexA (len := 8) i_arr rfl rfl rfl (by omega) (by omega) ?_
                  refine qf_loadI tabOk (at') rfl rfl rfl (by repeat constructor) (by first | rfl | omega | simp) hib ?_
                  rw [hbI]
                  skip
                  refine qf_callv (val := .tuple #[.agg #[.int .i64 f, .int .i64 at'], .bool true]) tabOk rfl rfl rfl rfl (fun w hs => ?_) ?_; exact by have := shows_ca w lo hi l v (RdE.keep h hs.chg0) ⟨hl.e0, hl.e1⟩ bi hbl; rw [hrun] at this; exact this
                  (refine qf_pure tabOk rfl rfl rfl (qf_ext tabOk rfl rfl rfl (qf_ext tabOk rfl rfl rfl ?_)); refine qf_setA tabOk rfl rfl rfl rfl rfl (by repeat constructor) rfl ?_; refine qf_pure tabOk rfl rfl rfl (qf_nil ?_))
                  skip
                  exact hK1 _ _ (qt_nil (hK4 b15 _ _ ⟨rfl, rfl, rfl, rfl, rfl, rfl, trivial⟩ (by repeat constructor)))
                · skip
                  refine qt_seg (by repeat (first | exact PickL.nil | (apply PickL.cons; rfl))) fun K1 hK1 => ?_
                  ((iterate 3 refine qf_pure tabOk rfl rfl rfl ?_); refine qf_loadPA tabOk rfl rfl rfl (by assumption) (by rfl) (by rfl) ?_; refine qf_pure tabOk rfl rfl rfl ?_)
                  refine qf_indexA (len := 8) i_arr rfl rfl rfl (by omega) (by omega) ?_
                  refine qf_loadI tabOk (at') rfl rfl rfl (by repeat constructor) (by first | rfl | omega | simp) hib ?_
                  rw [hbI]
                  skip
                  refine qf_callv (val := .tuple #[.agg #[.int .i64 f, .int .i64 at'], .bool true]) tabOk rfl rfl rfl rfl (fun w hs => ?_) ?_; exact by have := shows_ca w lo hi l v (RdE.keep h hs.chg0) ⟨hl.e0, hl.e1⟩ bi hbl; rw [hrun] at this; exact this
                  skip
                  refine qf_alloc zero63 rfl (fun b15 => ?_)
                  (refine qf_pure tabOk rfl rfl rfl (qf_ext tabOk rfl rfl rfl (qf_ext tabOk rfl rfl rfl ?_)); refine qf_setA tabOk rfl rfl rfl rfl rfl (by repeat constructor) rfl ?_; refine qf_pure tabOk rfl rfl rfl (qf_nil ?_))
                  skip
                  exact hK1 _ _ (qt_nil (hK4 b15 _ _ ⟨rfl, rfl, rfl, rfl, rfl, rfl, trivial⟩ (by repeat constructor)))
              intro b15
              (refine q_region (ql_pure tabOk rfl rfl ?_); refine ql_loadBa tabOk rfl rfl rfl ?_; refine ql_pure tabOk rfl rfl (q_nil (q_blk ?_)))
              have hb2 := hO2.bound
              rw [List.length_append, List.length_singleton] at hb2
              exact hK3 (f, out ++ [(bi : Int)], u') _ _ hO2 (by dsimp only; rw [List.length_append, List.length_singleton]; omega) ⟨rfl, rfl, rfl, rfl, rfl, trivial⟩ (by dsimp only; rw [List.length_append, List.length_singleton, show ints (out ++ [(bi : Int)]) = ints out ++ [.int .i64 bi] from by simp]; repeat constructor)
      · have hn : n = met.length := by omega
        clear hc
        (refine q_exit _ rfl (q_seq (q_seq (q_region ?_))); refine ql_loadBa tabOk rfl rfl rfl ?_)
        obtain ⟨hno, hb0, hb8⟩ := hI.none hl.e0 hn
        refine ql_indexA (len := 8) i_arr rfl rfl rfl (by omega) (by omega) ?_
        have hi : slow < by'.length := by omega
        refine ql_loadI tabOk (slow) rfl rfl rfl (by repeat constructor) (by first | rfl | omega | simp) hi ?_
        rw [show by'[slow] = by'.getD slow 0 from by rw [List.getD_eq_getElem?_getD, List.getElem?_eq_getElem hi]; rfl]
        (refine ql_lssT tabOk rfl rfl rfl (by omega) (q_nil (q_cond_true rfl (q_seq (q_region (ql_pure tabOk rfl rfl (q_nil (q_ret ?_))))))))
        refine q_finMs tabOk Ds (by repeat constructor) rfl (by repeat constructor) fun w hs => ?_
        exact .inl ⟨rfl, hno, hs.chg0⟩
end Go.Proofs.Ytcmpdmobmbbplaa

/- The engine: make of a list whose elements are one cell each. -/
namespace Go.Eng
open Go Go.RowKit
section
variable {P : Program} {T : Tab} {ro : Cx} {n : Nat} {F : Fin} {w0 : World} {M : Nat → Prop} {k : List It} {ops : Array Oper} {rest : List Oper} {e : Env} {H Hq : List Ck}
theorem ql_makeZ {d t et m bytes : Nat} {z : Value} {x y : Operand} {ty : TypeId} {pos : String} {af : Array Edge} (hS : SlT P t et 1 bytes z) (hz1 : z.cells = #[z]) (hx : opv e x = some (.int .i64 m)) (hy : opv e y = some (.int .i64 m)) (hd : Nat.blt d n = true) (hm : m ≤ 1000000) (hb8 : bytes ≤ 8)
    (h : ∀ b, QL P ro n F w0 M k ops rest ((d, .slice (some ⟨b, 0, none⟩) m m) :: e) (.pt b (List.replicate m z) et :: H)) :
    QL P ro n F w0 M k ops (⟨some d, .makeSlice t x y, ty, pos, af, none⟩ :: rest) e H := .mk fun w hs => by
  obtain ⟨ht, hi', hzs, hsz⟩ := hS
  cases hinf : P.info? et with
  | none => simp [hinf] at hi'
  | some i =>
    simp [hinf] at hi'
    obtain ⟨hz, hsize, hby⟩ := hi'
    subst hby
    have hm8 : m * i.bytes ≤ 1000000 * 8 := Nat.mul_le_mul hm hb8
    have hr := run_makeSlice (P := P) w t et i _ ht hinf hz .i64 .i64 m m (by omega) (Int.le_refl _) (by rw [hsize]; simp; omega) (by rw [Int.mul_comm]; omega) (by omega)
    have hcells : (madeCells z.cells ((m : Int).toNat * i.size)) = (List.replicate m z).toArray := by
      apply Array.ext'
      rw [hsize, hz1, toList_madeCells_one]
      simp
    rw [hcells] at hr
    refine yl_val (w' := w.alloc (.cells (List.replicate m z).toArray et)) (by simp) hd (fun ac hf => ?_) ((h w.heap.size).h _ (hs.addPt (alloc_chg _ _) (by simp) (alloc_blk w _ _)))
    simp only [execOp, hf.op hx, hf.op hy]
    simp [hr]
theorem ql_storeBo (hT : T.Ok P) {t : Nat} {x y : Operand} {b off : Nat} {l : List Bool} {z : Bool} {bt : TypeId} {H' : List Ck} {ty : TypeId} {pos : String} {af : Array Edge} (i : Nat)
    (hx : opv e x = some (.pointer (some ⟨b, off, none⟩))) (hy : opv e y = some (.bool z)) (h1 : has T.one t = true) (hr : Rp H (.pt b (bools l) bt) (.pt b (bools (l.set i z)) bt) H') (ho : off = i) (hi : i < l.length)
    (h : QL P ro n F w0 M k ops rest e H') : QL P ro n F w0 M k ops (⟨none, .store t x y, ty, pos, af, none⟩ :: rest) e H :=
  ql_store1 hT hx hy h1 rfl (by subst ho; rw [← List.map_set]; exact hr) (by subst ho; simpa using hi) h
theorem bcell {w : World} {b : Nat} {sl : List Bool} {t : TypeId} (hb : Blk w b (bools sl) t) (f : Nat) (hf : f < sl.length) : w.cell? ⟨b, 0 + (f : Int).toNat * 1, none⟩ = some (.bool (sl.getD f false)) := by
  rw [Blk.cell hb, Int.toNat_natCast, Nat.zero_add, Nat.mul_one, List.getElem?_map, List.getD_eq_getElem?_getD, List.getElem?_eq_getElem hf]
  rfl
theorem icell {w : World} {b : Nat} {sl : List Int} {t : TypeId} (hb : Blk w b (ints sl) t) (f : Nat) (hf : f < sl.length) : w.cell? ⟨b, 0 + (f : Int).toNat * 1, none⟩ = some (.int .i64 (sl.getD f 0)) := by
  rw [Blk.cell hb, Int.toNat_natCast, Nat.zero_add, Nat.mul_one, List.getElem?_map, List.getD_eq_getElem?_getD, List.getElem?_eq_getElem hf]
  rfl
end
end Go.Eng

/- The plain law of SkiChains: how far skis are, which are faster, what a chain shows. -/
namespace Go.Proofs.Ytcmpdmobmbbplaa
open Go Go.Eng
theorem sh_pair {l : Lb} {i f s : Nat} (h : Sh l i f s) : (f, s) ∈ l.pairs := by
  obtain ⟨h1, h2⟩ := h
  rw [List.getD_eq_getElem?_getD, List.getElem?_eq_getElem h1, Option.getD_some] at h2
  exact List.mem_filterMap.2 ⟨_, List.getElem_mem h1, h2⟩
theorem pair_sh {l : Lb} {p : Nat × Nat} (h : p ∈ l.pairs) : ∃ i, Sh l i p.1 p.2 := by
  obtain ⟨r, hr, h1⟩ := List.mem_filterMap.1 h
  obtain ⟨i, hi, rfl⟩ := List.getElem_of_mem hr
  exact ⟨i, hi, by rw [List.getD_eq_getElem?_getD, List.getElem?_eq_getElem hi, Option.getD_some]; exact h1⟩
theorem sh_in {l : Lb} (hl : l.Ok) {i f s : Nat} (h : Sh l i f s) : f < l.n ∧ s < l.n := ⟨(hl.in _ (sh_pair h)).1, (hl.in _ (sh_pair h)).2.1⟩
theorem wk_one {l : Lb} {i a b : Nat} (h : Sh l i a b) : Wk l a 1 b := ⟨a, i, rfl, h⟩
theorem wk_app {l : Lb} {a b k : Nat} (h : Wk l a k b) : ∀ m c, Wk l b m c → Wk l a (k + m) c
  | 0, c, h2 => by
    have e : c = b := h2
    rw [e]; exact h
  | m + 1, c, ⟨s, i, h2, h3⟩ => ⟨s, i, wk_app h m s h2, h3⟩
theorem wk_in {l : Lb} (hl : l.Ok) {a k b : Nat} (h : Wk l a (k + 1) b) : b < l.n := by
  obtain ⟨s, i, _, h3⟩ := h
  exact (sh_in hl h3).2
theorem wk_fa {l : Lb} (hl : l.Ok) {a : Nat} (ha : a < 8) : ∀ k b, Wk l a (k + 1) b → fa l.ord a b = true
  | 0, b, ⟨s, i, h2, h3⟩ => by
    have e : s = a := h2
    rw [e] at h3
    exact order_has hl.in8 (sh_pair h3)
  | k + 1, b, ⟨s, i, h2, h3⟩ => by
    have h8 := hl.n8
    have hi := sh_in hl h3
    exact hl.o.tr a s b ha (by omega) (by omega) (wk_fa hl ha k s h2) (order_has hl.in8 (sh_pair h3))
theorem fa_wk {l : Lb} (hl : l.Ok) {a b : Nat} (ha : a < 8) (hb : b < 8) (h : fa l.ord a b = true) : ∃ k, Wk l a (k + 1) b :=
  order_sub (R := fun a b => ∃ k, Wk l a (k + 1) b) hl.in8 (fun a b c _ _ _ ⟨k, h1⟩ ⟨m, h2⟩ => ⟨k + 1 + m, wk_app h1 (m + 1) c h2⟩) (fun p hp => by
    obtain ⟨i, hi⟩ := pair_sh hp
    exact ⟨0, wk_one hi⟩) a b ha hb h
theorem wk_lead {l : Lb} {a : Nat} : ∀ k b, Wk l a k b → ∃ c : List Int, c.length = k ∧ leadV l a c = some (b : Int)
  | 0, b, h => ⟨[], rfl, by rw [show b = a from h]; rfl⟩
  | k + 1, b, ⟨s, i, h2, h3⟩ => by
    obtain ⟨c, hc, h4⟩ := wk_lead k s h2
    refine ⟨c ++ [(i : Int)], by simp [hc], ?_⟩
    rw [lead_snoc, h4, Option.bind_some, lead_cons h3]
    rfl
/-- The fewest runs of a chain. -/
def IsD (l : Lb) (a b k : Nat) : Prop := 1 ≤ k ∧ Wk l a k b ∧ ∀ j, 1 ≤ j → j < k → ¬ Wk l a j b
theorem isD_of {l : Lb} {a b : Nat} : ∀ k, 1 ≤ k → Wk l a k b → ∃ j, j ≤ k ∧ IsD l a b j := by
  intro k
  induction k using Nat.strongRecOn with
  | _ k ih =>
    intro h1 hw
    by_cases hx : ∃ j, 1 ≤ j ∧ j < k ∧ Wk l a j b
    · obtain ⟨j, h2, h3, h4⟩ := hx
      obtain ⟨i, h5, h6⟩ := ih j h3 h2 h4
      exact ⟨i, by omega, h6⟩
    · exact ⟨k, Nat.le_refl _, h1, hw, fun j h2 h3 h4 => hx ⟨j, h2, h3, h4⟩⟩
theorem isD_eq {l : Lb} {a b j k : Nat} (h : IsD l a b j) (g : IsD l a b k) : j = k := by
  rcases Nat.lt_trichotomy j k with h1 | h1 | h1
  · exact absurd h.2.1 (g.2.2 j h.1 h1)
  · exact h1
  · exact absurd g.2.1 (h.2.2 k g.1 h1)
theorem isD_pred {l : Lb} {a b k : Nat} (h : IsD l a b (k + 2)) : ∃ f i, IsD l a f (k + 1) ∧ Sh l i f b := by
  obtain ⟨_, ⟨f, i, h2, h3⟩, h4⟩ := h
  exact ⟨f, i, ⟨by omega, h2, fun j hj hk hw => h4 (j + 1) (by omega) (by omega) ⟨f, i, hw, h3⟩⟩, h3⟩
theorem isD_one {l : Lb} {a b : Nat} (h : IsD l a b 1) : ∃ i, Sh l i a b := by
  obtain ⟨_, ⟨f, i, h2, h3⟩, _⟩ := h
  rw [show f = a from h2] at h3
  exact ⟨i, h3⟩
theorem isD_nodes {l : Lb} (hl : l.Ok) {a : Nat} : ∀ k b, IsD l a b (k + 1) → ∃ L : List Nat, L.length = k + 1 ∧ L.Nodup ∧ ∀ x ∈ L, x < l.n ∧ ∃ j, j ≤ k + 1 ∧ IsD l a x j
  | 0, b, h => ⟨[b], rfl, by simp, fun x hx => by rw [List.mem_singleton.1 hx]; exact ⟨wk_in hl h.2.1, 1, by omega, h⟩⟩
  | k + 1, b, h => by
    obtain ⟨f, i, h1, h2⟩ := isD_pred h
    obtain ⟨L, h3, h4, h5⟩ := isD_nodes hl k f h1
    refine ⟨b :: L, by simp [h3], List.nodup_cons.2 ⟨fun hb => ?_, h4⟩, fun x hx => ?_⟩
    · obtain ⟨_, j, hj, hd⟩ := h5 b hb
      have := isD_eq hd h
      omega
    · rcases List.mem_cons.1 hx with rfl | hx
      · exact ⟨wk_in hl h.2.1, k + 2, by omega, h⟩
      · obtain ⟨g1, j, g2, g3⟩ := h5 x hx
        exact ⟨g1, j, by omega, g3⟩
theorem nodup_len : ∀ {n : Nat} {L : List Nat}, L.Nodup → (∀ x ∈ L, x < n) → L.length ≤ n
  | 0, L, _, hn => by
    cases L with
    | nil => simp
    | cons x L => exact absurd (hn x List.mem_cons_self) (by omega)
  | n + 1, L, h, hn => by
    have h1 := nodup_len (n := n) (h.erase n) (fun x hx => by
      have := (h.mem_erase_iff).1 hx
      have := hn x this.2
      omega)
    rw [List.length_erase] at h1
    split at h1 <;> omega
theorem isD_le {l : Lb} (hl : l.Ok) {a b k : Nat} (h : IsD l a b k) : k ≤ l.n := by
  obtain ⟨m, rfl⟩ : ∃ m, k = m + 1 := ⟨k - 1, by have := h.1; omega⟩
  obtain ⟨L, h1, h2, h3⟩ := isD_nodes hl m b h
  have := nodup_len h2 (fun x hx => (h3 x hx).1)
  omega
/-- Which skis are reached so far. -/
structure FI (l : Lb) (a : Nat) (sl : List Bool) : Prop where
  len : sl.length = l.n
  ok : ∀ s, sl.getD s false = true → ∃ k, Wk l a (k + 1) s
theorem bset_getD (sl : List Bool) (s t : Nat) (hs : s < sl.length) : (sl.set s true).getD t false = if t = s then true else sl.getD t false := by
  rw [List.getD_eq_getElem?_getD, List.getElem?_set]
  by_cases h : s = t
  · subst h; simp [hs]
  · rw [if_neg h, if_neg (fun h' => h h'.symm), List.getD_eq_getElem?_getD]
theorem FI.start {l : Lb} {a : Nat} : FI l a (List.replicate l.n false) := ⟨by simp, fun s h => by
  rw [List.getD_eq_getElem?_getD, List.getElem?_replicate] at h
  split at h <;> cases h⟩
theorem FI.add {l : Lb} (hl : l.Ok) {a i f s : Nat} {sl : List Bool} (h : FI l a sl) (hs : Sh l i f s) (hf : f = a ∨ sl.getD f false = true) : FI l a (sl.set s true) := by
  have hin := sh_in hl hs
  refine ⟨by simp [h.len], fun t ht => ?_⟩
  rw [bset_getD _ _ _ (by rw [h.len]; exact hin.2)] at ht
  split at ht
  · rename_i e
    subst e
    rcases hf with rfl | hf
    · exact ⟨0, wk_one hs⟩
    · obtain ⟨k, hk⟩ := h.ok f hf
      exact ⟨k + 1, f, i, hk, hs⟩
  · exact h.ok t ht
theorem FI.done {l : Lb} (hl : l.Ok) {a : Nat} (ha : a < 8) {sl : List Bool} (h : FI l a sl) (hc : ∀ i f s, Sh l i f s → (f = a ∨ sl.getD f false = true) → sl.getD s false = true) {b : Nat} (hb : b < l.n) : sl.getD b false = fa l.ord a b := by
  have key : ∀ k s, Wk l a (k + 1) s → sl.getD s false = true := by
    intro k
    induction k with
    | zero =>
      rintro s ⟨t, i, h2, h3⟩
      rw [show t = a from h2] at h3
      exact hc i a s h3 (.inl rfl)
    | succ k ih =>
      rintro s ⟨t, i, h2, h3⟩
      exact hc i t s h3 (.inr (ih t h2))
  have h8 := hl.n8
  cases hx : fa l.ord a b with
  | true =>
    obtain ⟨k, hk⟩ := fa_wk hl ha (by omega) hx
    exact key k b hk
  | false =>
    cases hy : sl.getD b false with
    | false => rfl
    | true =>
      obtain ⟨k, hk⟩ := h.ok b hy
      rw [wk_fa hl ha k b hk] at hx
      cases hx
def falses (sl : List Bool) : Nat := (sl.filter fun b => !b).length
theorem falses_set : ∀ (sl : List Bool) (s : Nat), s < sl.length → sl.getD s false = false → falses (sl.set s true) + 1 = falses sl
  | [], s, h, _ => by simp at h
  | b :: sl, 0, _, h => by
    have : b = false := h
    subst this
    simp [falses]
  | b :: sl, s + 1, h, h2 => by
    have ih := falses_set sl s (by simpa using h) h2
    cases b <;> simp [falses] at ih ⊢ <;> omega
/-- Distances so far: rounds before the n-th one, and the runs before the i-th one. -/
structure LI (l : Lb) (a n i : Nat) (far : List Int) : Prop where
  len : far.length = l.n
  ok : ∀ s, far.getD s 0 ≠ 0 → ∃ k, far.getD s 0 = (k : Nat) ∧ k ≤ n ∧ IsD l a s k
  old : ∀ s k, k < n → IsD l a s k → far.getD s 0 = k
  cur : ∀ j f s, j < i → Sh l j f s → (n = 1 ∧ f = a ∨ ∃ m, n = m + 2 ∧ IsD l a f (m + 1)) → far.getD s 0 ≠ 0
theorem LI.start (l : Lb) (a : Nat) : LI l a 1 0 (List.replicate l.n 0) where
  len := by simp
  ok := fun s h => by
    rw [List.getD_eq_getElem?_getD, List.getElem?_replicate] at h
    split at h <;> simp at h
  old := fun s k hk h => by have := h.1; omega
  cur := fun j f s hj => by omega
theorem LI.fin {l : Lb} (hl : l.Ok) {a n : Nat} {far : List Int} (h : LI l a n l.runs.length far) (hn : 1 ≤ n) : LI l a (n + 1) 0 far where
  len := h.len
  ok := fun s hs => by
    obtain ⟨k, h1, h2, h3⟩ := h.ok s hs
    exact ⟨k, h1, by omega, h3⟩
  old := fun s k hk hd => by
    by_cases e : k < n
    · exact h.old s k e hd
    · obtain rfl : k = n := by omega
      have hne : far.getD s 0 ≠ 0 := by
        rcases Nat.lt_or_ge 1 k with h1 | h1
        · obtain ⟨m, rfl⟩ : ∃ m, k = m + 2 := ⟨k - 2, by omega⟩
          obtain ⟨f, i, h3, h4⟩ := isD_pred hd
          exact h.cur i f s h4.1 h4 (.inr ⟨m, rfl, h3⟩)
        · obtain rfl : k = 1 := by omega
          obtain ⟨i, h4⟩ := isD_one hd
          exact h.cur i a s h4.1 h4 (.inl ⟨rfl, rfl⟩)
      obtain ⟨j, h1, h2, h3⟩ := h.ok s hne
      rw [h1, isD_eq h3 hd]
  cur := fun j f s hj => by omega
theorem LI.skip {l : Lb} {a n i : Nat} {far : List Int} (h : LI l a n i far) (hx : ∀ f s, Sh l i f s → (n = 1 ∧ f = a ∨ ∃ m, n = m + 2 ∧ IsD l a f (m + 1)) → far.getD s 0 ≠ 0) : LI l a n (i + 1) far :=
  { h with
    cur := fun j f s hj hsh hf => by
      by_cases e : j = i
      · rw [e] at hsh; exact hx f s hsh hf
      · exact h.cur j f s (by omega) hsh hf }
theorem LI.set {l : Lb} (hl : l.Ok) {a n i f s : Nat} {far : List Int} (h : LI l a n i far) (hn : 1 ≤ n) (hsh : Sh l i f s) (h0 : far.getD s 0 = 0) (hf : n = 1 ∧ f = a ∨ ∃ m, n = m + 2 ∧ IsD l a f (m + 1)) : LI l a n (i + 1) (far.set s n) := by
  have hin := sh_in hl hsh
  have hg : ∀ t, (far.set s (n : Int)).getD t 0 = if t = s then (n : Int) else far.getD t 0 := fun t => set_getD _ _ _ _ (by rw [h.len]; exact hin.2)
  have hw : Wk l a n s := by
    rcases hf with ⟨rfl, rfl⟩ | ⟨m, rfl, hd⟩
    · exact wk_one hsh
    · exact ⟨f, i, hd.2.1, hsh⟩
  have hd : IsD l a s n := ⟨hn, hw, fun j h1 h2 h3 => by
    obtain ⟨k, hk, hk2⟩ := isD_of j h1 h3
    have := h.old s k (by omega) hk2
    have := hk2.1
    omega⟩
  refine ⟨by simp [h.len], fun t ht => ?_, fun t k hk hkd => ?_, fun j f' t hj hs' hf' => ?_⟩
  · rw [hg] at ht ⊢
    by_cases e : t = s
    · rw [if_pos e, e]; exact ⟨n, rfl, Nat.le_refl _, hd⟩
    · rw [if_neg e] at ht ⊢; exact h.ok t ht
  · rw [hg]
    by_cases e : t = s
    · rw [e] at hkd
      have := isD_eq hkd hd
      omega
    · rw [if_neg e]; exact h.old t k hk hkd
  · rw [hg]
    by_cases e : t = s
    · rw [if_pos e]; omega
    · rw [if_neg e]
      by_cases e2 : j = i
      · rw [e2] at hs'
        have := hs'.2.symm.trans hsh.2
        cases this
        exact absurd rfl e
      · exact h.cur j f' t (by omega) hs' hf'
/-- How many runs the shortest chain has, 0 if there is none. -/
def LenP (l : Lb) (a b : Nat) (n : Int) : Prop := (n = 0 ∧ ∀ k, 1 ≤ k → ¬ Wk l a k b) ∨ ∃ k : Nat, n = k ∧ IsD l a b k
theorem LI.end {l : Lb} (hl : l.Ok) {a : Nat} {far : List Int} (h : LI l a (l.n + 1) 0 far) (b : Nat) : LenP l a b (far.getD b 0) := by
  by_cases h0 : far.getD b 0 = 0
  · refine .inl ⟨h0, fun k hk hw => ?_⟩
    obtain ⟨j, _, hd⟩ := isD_of k hk hw
    have := h.old b j (by have := isD_le hl hd; omega) hd
    have := hd.1
    omega
  · obtain ⟨k, h1, _, h3⟩ := h.ok b h0
    exact .inr ⟨k, h1, h3⟩
theorem short_len {l : Lb} (he : 0 ≤ l.err) {a b : Nat} {c : List Int} {n : Int} (h : Short l a b c) (hn : LenP l a b n) : n = c.length := by
  obtain ⟨b', hb, hw⟩ := lead_wk he a _ c _ rfl h.ok
  have e : b' = b := by omega
  rw [e] at hw
  have hc : 1 ≤ c.length := List.length_pos_iff.2 h.ne
  rcases hn with ⟨_, h2⟩ | ⟨k, rfl, hd⟩
  · exact absurd hw (h2 _ hc)
  · have h1 : k ≤ c.length := by
      rcases Nat.lt_or_ge c.length k with h3 | h3
      · exact absurd hw (hd.2.2 _ hc h3)
      · exact h3
    obtain ⟨c', h4, h5⟩ := wk_lead k b hd.2.1
    have := h.min c' (fun e => by rw [e] at h4; have := hd.1; simp at h4; omega) h5
    omega
theorem noCh_len {l : Lb} {a b : Nat} {n : Int} (h : NoCh l a b) (hn : LenP l a b n) : n = 0 := by
  rcases hn with ⟨h1, _⟩ | ⟨k, rfl, hd⟩
  · exact h1
  · exfalso
    obtain ⟨c', h4, h5⟩ := wk_lead k b hd.2.1
    exact h c' (fun e => by rw [e] at h4; have := hd.1; simp at h4; omega) h5
theorem leadV_cons (l : Lb) (a i : Int) (c : List Int) : leadV l a (i :: c) = match runV l.err (l.runs.getD i.toNat ⟨0, 0, 0⟩) with
    | none => none
    | some p => if (p.1 : Int) = a then leadV l p.2 c else none := by
  (conv => lhs; unfold leadV) <;> rfl
theorem lead_app (l : Lb) : ∀ (c d : List Int) (a : Int), leadV l a (c ++ d) = (leadV l a c).bind fun x => leadV l x d
  | [], d, a => rfl
  | j :: c, d, a => by
    rw [List.cons_append, leadV_cons, leadV_cons]
    split
    · rfl
    · rename_i p hp
      split
      · exact lead_app l c d p.2
      · rfl
/-- What a run shows, in the reference. -/
def shR (e : Int) (r : Rn) : Int × Int := (runI e r).getD (-1, -1)
def rqL (l : Lb) (j : Int) : Int × Int := shR l.err (l.runs.getD j.toNat ⟨0, 0, 0⟩)
theorem lead_one2 {l : Lb} (hl : l.Ok) {j : Int} (h0 : 0 ≤ j) (h1 : j < l.runs.length) (x : Int) : leadV l x [j] = if 0 ≤ (rqL l j).1 ∧ (rqL l j).1 = x then some (rqL l j).2 else none := by
  have hj : j.toNat < l.runs.length := by omega
  have hr := hl.run _ (List.getElem_mem hj)
  have a0 := hr.a0
  have b0 := hr.b0
  unfold leadV rqL shR
  rw [List.getD_eq_getElem?_getD, List.getElem?_eq_getElem hj, Option.getD_some]
  generalize l.runs[j.toNat] = r at *
  unfold runV runI
  by_cases h2 : l.err < r.lead
  · rw [if_pos h2, if_pos h2]
    simp only [Option.getD_some, Int.toNat_of_nonneg a0, Int.toNat_of_nonneg b0]
    by_cases h3 : r.a = x
    · rw [if_pos h3, if_pos ⟨a0, h3⟩]; rfl
    · rw [if_neg h3, if_neg (fun h => h3 h.2)]
  · rw [if_neg h2, if_neg h2]
    by_cases h4 : r.lead < -l.err
    · rw [if_pos h4, if_pos h4]
      simp only [Option.getD_some, Int.toNat_of_nonneg a0, Int.toNat_of_nonneg b0]
      by_cases h3 : r.b = x
      · rw [if_pos h3, if_pos ⟨b0, h3⟩]; rfl
      · rw [if_neg h3, if_neg (fun h => h3 h.2)]
    · rw [if_neg h4, if_neg h4, if_neg (by simp)]
def chainB (l : Lb) (a b : Int) (c : List Int) : Bool := match leadV l a c with | none => false | some x => decide (x = b) && (!c.isEmpty && true)
/-- A chain, as far as it has been looked at. -/
structure CI (l : Lb) (a b : Int) (c : List Int) (i : Nat) : Prop where
  le : i ≤ c.length
  ok : leadV l a (c.take i) = some (if i = 0 then a else (rqL l (c.getD (i - 1) 0)).2)
  fin : 0 < i → i = c.length → (rqL l (c.getD (i - 1) 0)).2 = b
theorem CI.start (l : Lb) (a b : Int) (c : List Int) : CI l a b c 0 := ⟨by omega, rfl, by omega⟩
section
variable {l : Lb} {a b : Int} {c : List Int} {i : Nat}
theorem CI.next (hl : l.Ok) (h : CI l a b c i) (hi : i < c.length) (hc : ∀ j ∈ c, 0 ≤ j ∧ j < l.runs.length) : leadV l a (c.take (i + 1)) = if 0 ≤ (rqL l (c.getD i 0)).1 ∧ (rqL l (c.getD i 0)).1 = (if i = 0 then a else (rqL l (c.getD (i - 1) 0)).2) then some (rqL l (c.getD i 0)).2 else none := by
  have hg : c.getD i 0 = c[i] := by rw [List.getD_eq_getElem?_getD, List.getElem?_eq_getElem hi]; rfl
  have hm := hc _ (List.getElem_mem hi)
  rw [← List.take_append_getElem hi, lead_app, h.ok, Option.bind_some, lead_one2 hl hm.1 hm.2, hg]
theorem CI.step (hl : l.Ok) (h : CI l a b c i) (hi : i < c.length) (hc : ∀ j ∈ c, 0 ≤ j ∧ j < l.runs.length) (h0 : 0 ≤ (rqL l (c.getD i 0)).1) (h1 : (rqL l (c.getD i 0)).1 = (if i = 0 then a else (rqL l (c.getD (i - 1) 0)).2)) (h2 : (rqL l (c.getD i 0)).2 = (if i + 1 < c.length then (rqL l (c.getD (i + 1) 0)).1 else b)) : CI l a b c (i + 1) := by
  refine ⟨by omega, ?_, fun _ h3 => ?_⟩
  · rw [h.next hl hi hc, if_pos ⟨h0, h1⟩, if_neg (by omega), Nat.add_sub_cancel]
  · rw [Nat.add_sub_cancel, h2, if_neg (by omega)]
theorem chainB_none {m : Nat} (h : leadV l a (c.take m) = none) : chainB l a b c = false := by
  unfold chainB
  have : leadV l a c = none := by rw [← List.take_append_drop m c, lead_app, h]; rfl
  rw [this]
theorem CI.bad (hl : l.Ok) (h : CI l a b c i) (hi : i < c.length) (hc : ∀ j ∈ c, 0 ≤ j ∧ j < l.runs.length) (h1 : ¬ (0 ≤ (rqL l (c.getD i 0)).1 ∧ (rqL l (c.getD i 0)).1 = (if i = 0 then a else (rqL l (c.getD (i - 1) 0)).2))) : chainB l a b c = false :=
  chainB_none (m := i + 1) (by rw [h.next hl hi hc, if_neg h1])
theorem CI.bad2 (hl : l.Ok) (h : CI l a b c i) (hi : i < c.length) (hc : ∀ j ∈ c, 0 ≤ j ∧ j < l.runs.length) (h0 : 0 ≤ (rqL l (c.getD i 0)).1) (h1 : (rqL l (c.getD i 0)).1 = (if i = 0 then a else (rqL l (c.getD (i - 1) 0)).2)) (h2 : (rqL l (c.getD i 0)).2 ≠ (if i + 1 < c.length then (rqL l (c.getD (i + 1) 0)).1 else b)) : chainB l a b c = false := by
  have h3 := h.next hl hi hc
  rw [if_pos ⟨h0, h1⟩] at h3
  by_cases e : i + 1 < c.length
  · rw [if_pos e] at h2
    refine chainB_none (m := i + 2) ?_
    have hg : c.getD (i + 1) 0 = c[i + 1] := by rw [List.getD_eq_getElem?_getD, List.getElem?_eq_getElem e]; rfl
    have hm := hc _ (List.getElem_mem e)
    rw [show i + 2 = (i + 1) + 1 from rfl, ← List.take_append_getElem e, lead_app, h3, Option.bind_some, lead_one2 hl hm.1 hm.2, if_neg (fun h => h2 (by rw [hg, h.2]))]
  · rw [if_neg e] at h2
    rw [List.take_of_length_le (by omega)] at h3
    unfold chainB
    rw [h3]
    show (decide (_ = b) && _) = false
    rw [decide_eq_false h2]
    rfl
theorem CI.end (h : CI l a b c c.length) : chainB l a b c = decide (0 < c.length) := by
  have h1 := h.ok
  rw [List.take_length] at h1
  unfold chainB
  rw [h1]
  by_cases e : c.length = 0
  · have : c = [] := List.length_eq_zero_iff.1 e
    subst this
    simp
  · rw [if_neg e, h.fin (by omega) rfl]
    cases c with
    | nil => simp at e
    | cons x c => simp
end
theorem short_chain {l : Lb} {a b : Nat} {c : List Int} (h : Short l a b c) : chainB l a b c = true := by
  unfold chainB
  rw [h.ok]
  have := h.ne
  cases c with
  | nil => exact absurd rfl this
  | cons x c => simp
end Go.Proofs.Ytcmpdmobmbbplaa

/- Walks of the reference: the error of a lab, what a run shows. -/
namespace Go.Proofs.Ytcmpdmobmbbplaa
open Go Go.Eng

theorem out_ca (n lo hi : Int) (w : World) : Ca Try.prog 90 [.int .i64 n, .int .i64 lo, .int .i64 hi] w fun v w' => v = .bool (!(inB n lo hi)) ∧ Chg [] w w' := by
  refine q_of (Sat.nil w M0) Try.func90 rfl (by simp [Try.ntmps90]) ?_
  by_cases h1 : n < lo
  · (refine q_seq (q_region (ql_pure tabOk rfl rfl (q_nil (q_seq (q_region (ql_pure tabOk rfl rfl (ql_pure tabOk rfl rfl (ql_lssT tabOk rfl rfl rfl (by omega) (ql_pure tabOk rfl rfl ?_))))))))); (iterate 3 refine ql_gno rfl rfl rfl ?_); refine ql_pure tabOk rfl rfl (ql_pure tabOk rfl rfl (q_nil (q_ret ?_))))
    refine q_fin tabOk rfl (by repeat constructor) fun w hs => ?_
    exact ⟨by simp [inB, retV]; omega, hs.chg0⟩
  · by_cases h2 : n > hi
    · (refine q_seq (q_region (ql_pure tabOk rfl rfl (q_nil (q_seq (q_region (ql_pure tabOk rfl rfl (ql_pure tabOk rfl rfl (ql_lssF tabOk rfl rfl rfl (by omega) (ql_pure tabOk rfl rfl (ql_gyes rfl (ql_pure tabOk rfl rfl ?_))))))))))); refine ql_gyes rfl (ql_pure tabOk rfl rfl (ql_gyes rfl (ql_gtrT tabOk rfl rfl rfl (by omega) (ql_pure tabOk rfl rfl (ql_pure tabOk rfl rfl (q_nil (q_ret ?_))))))))
      refine q_fin tabOk rfl (by repeat constructor) fun w hs => ?_
      exact ⟨by simp [inB, retV]; omega, hs.chg0⟩
    · (refine q_seq (q_region (ql_pure tabOk rfl rfl (q_nil (q_seq (q_region (ql_pure tabOk rfl rfl (ql_pure tabOk rfl rfl (ql_lssF tabOk rfl rfl rfl (by omega) (ql_pure tabOk rfl rfl (ql_gyes rfl (ql_pure tabOk rfl rfl ?_))))))))))); refine ql_gyes rfl (ql_pure tabOk rfl rfl (ql_gyes rfl (ql_gtrF tabOk rfl rfl rfl (by omega) (ql_pure tabOk rfl rfl (ql_pure tabOk rfl rfl (q_nil (q_ret ?_))))))))
      refine q_fin tabOk rfl (by repeat constructor) fun w hs => ?_
      exact ⟨by simp [inB, retV]; omega, hs.chg0⟩
theorem rshows_ca (w : World) (lo hi : Nat) (l : Lb) (v : Value) (h : RdR w lo hi v l.runs) (he : 0 ≤ l.err ∧ l.err ≤ 1000) (i : Nat) (hi' : i < l.runs.length) (hr : -10000 ≤ l.runs[i].lead) :
    Ca Try.prog 91 [.agg (lbC l v).toArray, .int .i64 i] w fun x w' => x = .tuple #[.int .i64 (shR l.err l.runs[i]).1, .int .i64 (shR l.err l.runs[i]).2] ∧ Chg [] w w' := by
  obtain ⟨a, ca, rfl, hsa⟩ := RdR.outI h
  obtain ⟨b, off, rfl⟩ := hsa (by omega)
  refine q_of (Sat.nil w M0) Try.func91 rfl (by simp [Try.ntmps91]) ?_
  (refine q_seq (q_region ?_))
  refine ql_box rfl rfl (fun b2 => ?_)
  (refine ql_pure tabOk rfl rfl (ql_pure tabOk rfl rfl (q_nil (q_seq (q_region (ql_pure tabOk rfl rfl ?_))))); refine ql_loadBa tabOk rfl rfl rfl ?_; refine ql_pure tabOk rfl rfl ?_)
  refine ql_index tabOk rfl rfl rfl rfl rfl (by omega) (by omega) ?_
  refine ql_loadA tabOk rfl rfl rfl rfl (fun w hs => RdR.at (RdE.keep h hs.chg0) i hi') ?_
  skip
  refine ql_alloc zero160 rfl (fun b6 => ?_)
  (refine ql_setA tabOk rfl rfl rfl rfl rfl (by repeat constructor) rfl ?_; refine q_nil (q_seq (q_seq (q_region (ql_pure tabOk rfl rfl ?_)))); refine ql_loadBa tabOk rfl rfl rfl ?_; refine ql_pure tabOk rfl rfl ?_; refine ql_loadBa tabOk rfl rfl rfl ?_; refine ql_pure tabOk rfl rfl (q_nil ?_))
  refine q_if rfl (fun hc => ?_) (fun hc => ?_)
  · (refine q_seq ?_)
    refine q_draw _ [] (Sp.refl _) (by kernel_rfl) (by kernel_rfl) ?_
    (refine qf_pure tabOk rfl rfl rfl ?_; refine qf_loadBa tabOk rfl rfl rfl ?_; refine qf_pure tabOk rfl rfl rfl ?_; refine qf_loadBa tabOk rfl rfl rfl ?_; refine qf_pure tabOk rfl rfl rfl (qf_pure tabOk rfl rfl rfl (qf_nil (q_ret ?_))))
    refine q_fin tabOk rfl (by repeat constructor) fun w hs => ?_
    exact ⟨by simp [retV, shR, runI, hc], hs.chg0⟩
  · have h1 := hc
    clear hc
    (refine q_skip (q_seq (q_seq (q_region (ql_pure tabOk rfl rfl ?_)))); refine ql_loadBa tabOk rfl rfl rfl ?_; refine ql_neg tabOk rfl rfl (by omega) (by omega) (ql_pure tabOk rfl rfl ?_); refine ql_loadBa tabOk rfl rfl rfl ?_; refine ql_pure tabOk rfl rfl (q_nil ?_))
    refine q_if rfl (fun hc => ?_) (fun hc => ?_)
    · have h2 : l.runs[i].lead < -l.err := by omega
      (refine q_seq ?_)
      refine q_draw _ [] (Sp.refl _) (by kernel_rfl) (by kernel_rfl) ?_
      (refine qf_pure tabOk rfl rfl rfl ?_; refine qf_loadBa tabOk rfl rfl rfl ?_; refine qf_pure tabOk rfl rfl rfl ?_; refine qf_loadBa tabOk rfl rfl rfl ?_; refine qf_pure tabOk rfl rfl rfl (qf_pure tabOk rfl rfl rfl (qf_nil (q_ret ?_))))
      refine q_fin tabOk rfl (by repeat constructor) fun w hs => ?_
      exact ⟨by simp [retV, shR, runI, h1, h2], hs.chg0⟩
    · have h2 : ¬ l.runs[i].lead < -l.err := by omega
      (refine q_skip (q_seq (q_region (ql_pure tabOk rfl rfl (ql_pure tabOk rfl rfl (q_nil (q_ret ?_)))))))
      refine q_fin tabOk rfl (by repeat constructor) fun w hs => ?_
      exact ⟨by simp [retV, shR, runI, h1, h2], hs.chg0⟩
theorem all_take {α : Type} (p : α → Bool) (l : List α) {i : Nat} (hi : i < l.length) (h : (l.take i).all p = true) (hx : p l[i] = true) : (l.take (i + 1)).all p = true := by
  rw [← List.take_append_getElem hi, List.all_append, h]
  simp [hx]
theorem all_stop {α : Type} (p : α → Bool) (l : List α) {i : Nat} (hi : i < l.length) (hx : p l[i] = false) : l.all p = false := by
  rw [List.all_eq_false]
  exact ⟨l[i], List.getElem_mem hi, by rw [hx]; simp⟩
theorem rcheck_ca (w : World) (lo hi : Nat) (l : Lb) (v : Value) (h : RdR w lo hi v l.runs) (hlen : l.runs.length ≤ maxLen) : Ca Try.prog 32 [.agg (lbC l v).toArray] w fun x w' => x = .int .i64 (checkV l) ∧ Chg [] w w' := by
  obtain ⟨a, ca, rfl, hsa⟩ := RdR.outI h
  simp only [maxLen] at hlen
  refine q_of (Sat.nil w M0) Try.func32 rfl (by simp [Try.ntmps32]) ?_
  (refine q_seq (q_region ?_))
  refine ql_box rfl rfl (fun b1 => ?_)
  rw [agg_cells]
  (refine ql_pure tabOk rfl rfl (q_nil (q_seq (q_seq (q_region (ql_pure tabOk rfl rfl ?_))))); refine ql_loadBa tabOk rfl rfl rfl ?_)
  refine ql_callv (val := .bool (!(inB l.skis 1 8))) tabOk rfl rfl rfl rfl (fun w hs => ?_) ?_; exact out_ca l.skis 1 8 w
  have ec : ∀ x : Bool, (!x) = false → x = true := fun x => by cases x <;> simp
  cases h1 : inB l.skis 1 8 with
  | false =>
    (refine ql_pure tabOk rfl rfl ?_; (iterate 3 refine ql_gno rfl rfl rfl ?_); refine ql_pure tabOk rfl rfl (q_nil (q_cond_true rfl (q_seq (q_region (ql_pure tabOk rfl rfl (q_nil (q_ret ?_))))))))
    refine q_fin tabOk rfl (by repeat constructor) fun w hs => ?_
    exact ⟨by simp [retV, checkV, h1], hs.chg0⟩
  | true =>
    (refine ql_pure tabOk rfl rfl (ql_gyes rfl (ql_pure tabOk rfl rfl (ql_gyes rfl ?_))); refine ql_loadBa tabOk rfl rfl rfl ?_; refine ql_gyes rfl ?_)
    refine ql_callv (val := .bool (!(inB l.err 0 1000))) tabOk rfl rfl rfl rfl (fun w hs => ?_) ?_; exact out_ca l.err 0 1000 w
    cases h2 : inB l.err 0 1000 with
    | false =>
      (refine ql_pure tabOk rfl rfl (q_nil (q_cond_true rfl (q_seq (q_region (ql_pure tabOk rfl rfl (q_nil (q_ret ?_))))))))
      refine q_fin tabOk rfl (by repeat constructor) fun w hs => ?_
      exact ⟨by simp [retV, checkV, h1, h2], hs.chg0⟩
    | true =>
      have hsk := inB_iff.1 h1
      (refine ql_pure tabOk rfl rfl (q_nil (q_cond_false rfl (q_skip (q_seq (q_seq (q_region (ql_pure tabOk rfl rfl ?_))))))); refine ql_loadBa tabOk rfl rfl rfl ?_; refine ql_pure tabOk rfl rfl (ql_pure tabOk rfl rfl (q_nil ?_)))
      refine q_if rfl (fun hc => ?_) (fun hc => ?_)
      · have h3 : 40 < l.runs.length := by omega
        (refine q_seq (q_region (ql_pure tabOk rfl rfl (q_nil (q_ret ?_)))))
        refine q_fin tabOk rfl (by repeat constructor) fun w hs => ?_
        exact ⟨by simp [retV, checkV, h1, h2, h3], hs.chg0⟩
      · have h3 : ¬ 40 < l.runs.length := by omega
        clear hc
        (refine q_skip (q_seq (q_seq (q_region (ql_pure tabOk rfl rfl (q_nil (q_block ?_)))))))
        refine q_loop (σ := Nat) (fun k => k ≤ l.runs.length ∧ (l.runs.take k).all (knP l.skis) = true) (fun k => l.runs.length - k) (fun k => [(1, .pointer (some ⟨b1, 0, none⟩)), (3, .int .i64 k)]) (fun _ => [.pt b1 (lbC l (.slice a l.runs.length ca)) 70]) 0 ⟨by omega, by simp⟩ ⟨rfl, rfl, trivial⟩ (by repeat constructor) ?_
        rintro k ⟨hk, hall⟩ K hK
        (refine q_seq (q_seq (q_region (ql_pure tabOk rfl rfl (ql_pure tabOk rfl rfl ?_)))); refine ql_loadBa tabOk rfl rfl rfl ?_; refine ql_pure tabOk rfl rfl (ql_pure tabOk rfl rfl (q_nil ?_)))
        refine q_if rfl (fun hc => ?_) (fun hc => ?_)
        · have hk2 : k < l.runs.length := by omega
          clear hc
          obtain ⟨b, off, hab⟩ := hsa (by omega)
          cases hab
          (refine q_skip (q_seq (q_block (q_seq (q_region (ql_pure tabOk rfl rfl ?_))))); refine ql_loadBa tabOk rfl rfl rfl ?_; refine ql_pure tabOk rfl rfl ?_)
          refine ql_index tabOk rfl rfl rfl rfl rfl (by omega) (by omega) ?_
          refine ql_loadA tabOk rfl rfl rfl rfl (fun w hs => RdR.at (RdE.keep h hs.chg0) k hk2) ?_
          skip
          refine ql_alloc zero160 rfl (fun b4 => ?_)
          (refine ql_setA tabOk rfl rfl rfl rfl rfl (by repeat constructor) rfl ?_; refine q_nil (q_seq (q_region (ql_pure tabOk rfl rfl ?_))); refine ql_loadBa tabOk rfl rfl rfl ?_; refine ql_pure tabOk rfl rfl ?_; refine ql_loadBa tabOk rfl rfl rfl ?_; refine ql_ar tabOk rfl rfl rfl rfl (by omega) (by omega) ?_)
          refine ql_callv (val := .bool (!(inB l.runs[k].a 0 (l.skis - 1)))) tabOk rfl rfl rfl rfl (fun w hs => ?_) ?_; exact out_ca l.runs[k].a 0 (l.skis - 1) w
          cases ha : inB l.runs[k].a 0 (l.skis - 1) with
          | false =>
            have hkn : knP l.skis l.runs[k] = false := by unfold knP; simp_all
            (refine ql_pure tabOk rfl rfl ?_; (iterate 6 refine ql_gno rfl rfl rfl ?_); refine ql_pure tabOk rfl rfl (ql_pure tabOk rfl rfl ?_); (iterate 5 refine ql_gno rfl rfl rfl ?_); refine ql_pure tabOk rfl rfl (q_nil (q_cond_true rfl (q_seq (q_region (ql_pure tabOk rfl rfl (q_nil (q_ret ?_))))))))
            refine q_fin tabOk rfl (by repeat constructor) fun w hs => ?_
            have hbad : knownB l = false := all_stop _ _ hk2 hkn
            exact ⟨by simp [retV, checkV, h1, h2, h3, hbad], hs.chg0⟩
          | true =>
            (refine ql_pure tabOk rfl rfl (ql_gyes rfl (ql_pure tabOk rfl rfl (ql_gyes rfl ?_))); refine ql_loadBa tabOk rfl rfl rfl ?_; refine ql_gyes rfl (ql_pure tabOk rfl rfl (ql_gyes rfl ?_)); refine ql_loadBa tabOk rfl rfl rfl ?_; refine ql_gyes rfl (ql_ar tabOk rfl rfl rfl rfl (by omega) (by omega) (ql_gyes rfl ?_)))
            refine ql_callv (val := .bool (!(inB l.runs[k].b 0 (l.skis - 1)))) tabOk rfl rfl rfl rfl (fun w hs => ?_) ?_; exact out_ca l.runs[k].b 0 (l.skis - 1) w
            cases hb : inB l.runs[k].b 0 (l.skis - 1) with
            | false =>
              have hkn : knP l.skis l.runs[k] = false := by unfold knP; simp_all
              (refine ql_pure tabOk rfl rfl (ql_pure tabOk rfl rfl ?_); (iterate 5 refine ql_gno rfl rfl rfl ?_); refine ql_pure tabOk rfl rfl (q_nil (q_cond_true rfl (q_seq (q_region (ql_pure tabOk rfl rfl (q_nil (q_ret ?_))))))))
              refine q_fin tabOk rfl (by repeat constructor) fun w hs => ?_
              have hbad : knownB l = false := all_stop _ _ hk2 hkn
              exact ⟨by simp [retV, checkV, h1, h2, h3, hbad], hs.chg0⟩
            | true =>
              by_cases hab : l.runs[k].a = l.runs[k].b
              · skip
                have hkn : knP l.skis l.runs[k] = false := by unfold knP; simp_all
                (refine ql_pure tabOk rfl rfl (ql_pure tabOk rfl rfl (ql_gyes rfl (ql_pure tabOk rfl rfl (ql_gyes rfl ?_)))); refine ql_loadBa tabOk rfl rfl rfl ?_; refine ql_gyes rfl (ql_pure tabOk rfl rfl (ql_gyes rfl ?_)); refine ql_loadBa tabOk rfl rfl rfl ?_; refine ql_gyes rfl (ql_eqlT tabOk rfl rfl rfl (by omega) (ql_pure tabOk rfl rfl (q_nil (q_cond_true rfl (q_seq (q_region (ql_pure tabOk rfl rfl (q_nil (q_ret ?_))))))))))
                refine q_fin tabOk rfl (by repeat constructor) fun w hs => ?_
                have hbad : knownB l = false := all_stop _ _ hk2 hkn
                exact ⟨by simp [retV, checkV, h1, h2, h3, hbad], hs.chg0⟩
              · have hkn : knP l.skis l.runs[k] = true := by unfold knP; simp [ha, hb, hab]
                (refine ql_pure tabOk rfl rfl (ql_pure tabOk rfl rfl (ql_gyes rfl (ql_pure tabOk rfl rfl (ql_gyes rfl ?_)))); refine ql_loadBa tabOk rfl rfl rfl ?_; refine ql_gyes rfl (ql_pure tabOk rfl rfl (ql_gyes rfl ?_)); refine ql_loadBa tabOk rfl rfl rfl ?_; refine ql_gyes rfl (ql_eqlF tabOk rfl rfl rfl (by omega) (ql_pure tabOk rfl rfl (q_nil (q_cond_false rfl (q_skip (q_blk (q_region (ql_pure tabOk rfl rfl (ql_ar tabOk rfl rfl rfl rfl (by omega) (by omega) (ql_pure tabOk rfl rfl (q_nil ?_))))))))))))
                exact hK (k + 1) _ _ ⟨by omega, all_take _ _ hk2 hall hkn⟩ (by omega) ⟨rfl, rfl, trivial⟩ (by repeat constructor)
        · obtain rfl : k = l.runs.length := by omega
          clear hc hK hk
          rw [List.take_length] at hall
          have hkb : knownB l = true := hall
          (refine q_exit _ rfl (q_seq (q_seq (q_region (ql_pure tabOk rfl rfl (q_nil (q_block ?_)))))))
          refine q_loop (σ := Nat) (fun k => k ≤ l.runs.length ∧ (l.runs.take k).all (fun r => inB r.lead (-10000) 10000) = true) (fun k => l.runs.length - k) (fun k => [(1, .pointer (some ⟨b1, 0, none⟩)), (5, .int .i64 k)]) (fun _ => [.pt b1 (lbC l (.slice a l.runs.length ca)) 70]) 0 ⟨by omega, by simp⟩ ⟨rfl, rfl, trivial⟩ (by repeat constructor) ?_
          rintro k ⟨hk, hall2⟩ K hK
          (refine q_seq (q_seq (q_region (ql_pure tabOk rfl rfl (ql_pure tabOk rfl rfl ?_)))); refine ql_loadBa tabOk rfl rfl rfl ?_; refine ql_pure tabOk rfl rfl (ql_pure tabOk rfl rfl (q_nil ?_)))
          refine q_if rfl (fun hc => ?_) (fun hc => ?_)
          · have hk2 : k < l.runs.length := by omega
            clear hc
            obtain ⟨b, off, hab⟩ := hsa (by omega)
            cases hab
            (refine q_skip (q_seq (q_block (q_seq (q_region (ql_pure tabOk rfl rfl ?_))))); refine ql_loadBa tabOk rfl rfl rfl ?_; refine ql_pure tabOk rfl rfl ?_)
            refine ql_index tabOk rfl rfl rfl rfl rfl (by omega) (by omega) ?_
            (refine ql_pure tabOk rfl rfl ?_)
            refine ql_load1 (v := .int .i64 l.runs[k].lead) tabOk rfl rfl rfl (fun w hs => RdR.at (RdE.keep h hs.chg0) k hk2 2 (by omega)) ?_
            refine ql_callv (val := .bool (!(inB l.runs[k].lead (-10000) 10000))) tabOk rfl rfl rfl rfl (fun w hs => ?_) ?_; exact out_ca l.runs[k].lead (-10000) 10000 w
            cases hx : inB l.runs[k].lead (-10000) 10000 with
            | false =>
              (refine q_nil (q_cond_true rfl (q_seq (q_region (ql_pure tabOk rfl rfl (q_nil (q_ret ?_)))))))
              refine q_fin tabOk rfl (by repeat constructor) fun w hs => ?_
              have hbad : leadB l = false := all_stop (fun r : Rn => inB r.lead (-10000) 10000) _ hk2 hx
              exact ⟨by simp [retV, checkV, h1, h2, h3, hkb, hbad], hs.chg0⟩
            | true =>
              (refine q_nil (q_cond_false rfl (q_skip (q_blk (q_region (ql_pure tabOk rfl rfl (ql_ar tabOk rfl rfl rfl rfl (by omega) (by omega) (ql_pure tabOk rfl rfl (q_nil ?_)))))))))
              exact hK (k + 1) _ _ ⟨by omega, all_take _ _ hk2 hall2 hx⟩ (by omega) ⟨rfl, rfl, trivial⟩ (by repeat constructor)
          · obtain rfl : k = l.runs.length := by omega
            rw [List.take_length] at hall2
            have hlb : leadB l = true := hall2
            (refine q_exit _ rfl (q_seq (q_region (ql_pure tabOk rfl rfl (q_nil (q_ret ?_))))))
            refine q_fin tabOk rfl (by repeat constructor) fun w hs => ?_
            exact ⟨by simp [retV, checkV, h1, h2, h3, hkb, hlb], hs.chg0⟩
end Go.Proofs.Ytcmpdmobmbbplaa

/- Walks of the reference: two skis; which skis are faster. -/
namespace Go.Proofs.Ytcmpdmobmbbplaa
open Go Go.Eng

theorem rtwo_ca (w : World) (lo hi : Nat) (l : Lb) (v : Value) (a b : Int) (h : RdR w lo hi v l.runs) (hlen : l.runs.length ≤ maxLen) : Ca Try.prog 39 [.agg (lbC l v).toArray, .int .i64 a, .int .i64 b] w fun x w' => x = .int .i64 (twoV l a b) ∧ Chg [] w w' := by
  refine q_of (Sat.nil w M0) Try.func39 rfl (by simp [Try.ntmps39]) ?_
  (refine q_seq (q_region ?_))
  refine ql_box rfl rfl (fun b3 => ?_)
  (refine ql_pure tabOk rfl rfl (q_nil (q_seq (q_seq (q_region ?_)))); refine ql_loadABa tabOk rfl rfl rfl ?_)
  refine ql_callv (val := .int .i64 (checkV l)) tabOk rfl rfl rfl rfl (fun w hs => ?_) ?_; exact rcheck_ca w lo hi l v (RdE.keep h hs.chg0) hlen
  by_cases h0 : checkV l = 0
  · have hl := check_iff.1 h0
    have s0 := hl.s0
    have s1 := hl.s1
    rw [h0]
    (refine ql_pure tabOk rfl rfl (q_nil (q_seq (q_region (ql_pure tabOk rfl rfl (ql_neqF tabOk rfl rfl rfl (by omega) (q_nil (q_cond_false rfl (q_skip (q_seq (q_seq (q_region ?_))))))))))); refine ql_pure tabOk rfl rfl (ql_pure tabOk rfl rfl ?_); refine ql_loadBa tabOk rfl rfl rfl ?_; refine ql_ar tabOk rfl rfl rfl rfl (by omega) (by omega) ?_)
    refine ql_callv (val := .bool (!(inB a 0 (l.skis - 1)))) tabOk rfl rfl rfl rfl (fun w hs => ?_) ?_; exact out_ca a 0 (l.skis - 1) w
    cases ha : inB a 0 (l.skis - 1) with
    | false =>
      (refine ql_pure tabOk rfl rfl ?_; (iterate 5 refine ql_gno rfl rfl rfl ?_); refine ql_pure tabOk rfl rfl (q_nil (q_cond_true rfl (q_seq (q_region (ql_pure tabOk rfl rfl (q_nil (q_ret ?_))))))))
      refine q_fin tabOk rfl (by repeat constructor) fun w hs => ?_
      exact ⟨by simp [retV, twoV, h0, ha], hs.chg0⟩
    | true =>
      (refine ql_pure tabOk rfl rfl (ql_gyes rfl (ql_pure tabOk rfl rfl (ql_gyes rfl (ql_pure tabOk rfl rfl (ql_gyes rfl ?_))))); refine ql_loadBa tabOk rfl rfl rfl ?_; refine ql_gyes rfl (ql_ar tabOk rfl rfl rfl rfl (by omega) (by omega) (ql_gyes rfl ?_)))
      refine ql_callv (val := .bool (!(inB b 0 (l.skis - 1)))) tabOk rfl rfl rfl rfl (fun w hs => ?_) ?_; exact out_ca b 0 (l.skis - 1) w
      cases hb : inB b 0 (l.skis - 1) with
      | false =>
        (refine ql_pure tabOk rfl rfl (q_nil (q_cond_true rfl (q_seq (q_region (ql_pure tabOk rfl rfl (q_nil (q_ret ?_))))))))
        refine q_fin tabOk rfl (by repeat constructor) fun w hs => ?_
        exact ⟨by simp [retV, twoV, h0, ha, hb], hs.chg0⟩
      | true =>
        (refine ql_pure tabOk rfl rfl (q_nil (q_cond_false rfl (q_skip (q_seq (q_region (ql_pure tabOk rfl rfl (q_nil (q_ret ?_)))))))))
        refine q_fin tabOk rfl (by repeat constructor) fun w hs => ?_
        exact ⟨by simp [retV, twoV, h0, ha, hb], hs.chg0⟩
  · (refine ql_pure tabOk rfl rfl (q_nil (q_seq (q_region (ql_pure tabOk rfl rfl (ql_neqT tabOk rfl rfl rfl (by omega) (q_nil (q_cond_true rfl (q_seq (q_region (ql_pure tabOk rfl rfl (ql_pure tabOk rfl rfl ?_))))))))))); refine q_nil (q_ret ?_))
    refine q_fin tabOk rfl (by repeat constructor) fun w hs => ?_
    exact ⟨by simp [retV, twoV, h0], hs.chg0⟩
theorem runI_sh {l : Lb} (hl : l.Ok) {i : Nat} (hi : i < l.runs.length) {p q : Int} (h : runI l.err l.runs[i] = some (p, q)) : ∃ f s : Nat, p = f ∧ q = s ∧ Sh l i f s := by
  have hr := hl.run _ (List.getElem_mem hi)
  have a0 := hr.a0
  have b0 := hr.b0
  have hpq : 0 ≤ p ∧ 0 ≤ q := by
    unfold runI at h
    split at h
    · cases h; exact ⟨a0, b0⟩
    · split at h
      · cases h; exact ⟨b0, a0⟩
      · cases h
  refine ⟨p.toNat, q.toNat, by omega, by omega, hi, ?_⟩
  rw [List.getD_eq_getElem?_getD, List.getElem?_eq_getElem hi, Option.getD_some, runI_nat, h]
  rfl
theorem runI_no {l : Lb} {i : Nat} (hi : i < l.runs.length) (h : runI l.err l.runs[i] = none) {f s : Nat} : ¬ Sh l i f s := by
  rintro ⟨_, h2⟩
  rw [List.getD_eq_getElem?_getD, List.getElem?_eq_getElem hi, Option.getD_some, runI_nat, h] at h2
  cases h2
theorem slBo : SlT Try.prog 163 4 1 1 (.bool false) := ⟨by kernel_rfl, by kernel_rfl, rfl, by omega⟩
set_option maxHeartbeats 2000000 in
theorem rfast_ca (w : World) (lo hi : Nat) (l : Lb) (v : Value) (h : RdR w lo hi v l.runs) (hl : l.Ok) (a b : Nat) (ha : a < l.n) (hb : b < l.n) : Ca Try.prog 34 [.agg (lbC l v).toArray, .int .i64 a, .int .i64 b] w fun x w' => x = .bool (fa l.ord a b) ∧ Chg [] w w' := by
  have h8 := hl.n8
  have s0 := hl.s0
  have hlen := hl.len
  obtain ⟨n, hn⟩ := Int.eq_ofNat_of_zero_le (show 0 ≤ l.skis by omega)
  have hn' : l.n = n := by unfold Lb.n; omega
  rw [hn'] at h8 ha hb
  obtain ⟨va, vc, rfl, hsa⟩ := RdR.outI h
  refine q_of (Sat.nil w M0) Try.func34 rfl (by simp [Try.ntmps34]) ?_
  (refine q_seq (q_region ?_))
  refine ql_box rfl rfl (fun b3 => ?_)
  rw [agg_cells]
  (refine ql_pure tabOk rfl rfl (q_nil (q_seq (q_region (ql_pure tabOk rfl rfl ?_)))); refine ql_loadBa tabOk rfl rfl rfl ?_)
  rw [hn]
  refine ql_makeZ slBo rfl rfl rfl rfl (by omega) (by omega) (fun b14 => ?_)
  (refine ql_pure tabOk rfl rfl (q_nil (q_seq (q_seq (q_region (ql_pure tabOk rfl rfl (q_nil (q_block ?_))))))))
  refine q_conv (H' := [.pt b14 (bools (List.replicate n false)) 4, .pt b3 (lbC l (.slice va l.runs.length vc)) 70]) (fun w' hs => by rw [show bools (List.replicate n false) = List.replicate n (.bool false) from List.map_replicate]; exact hs.sp (by repeat constructor)) ?_
  refine q_loop (σ := Bool × List Bool) (fun s => FI l a s.2 ∧ (s.1 = false → ∀ i f t, Sh l i f t → (f = a ∨ s.2.getD f false = true) → s.2.getD t false = true)) (fun s => falses s.2 + (if s.1 then 1 else 0)) (fun s => [(1, .int .i64 a), (2, .int .i64 b), (3, .pointer (some ⟨b3, 0, none⟩)), (7, .slice (some ⟨b14, 0, none⟩) n n), (8, .bool s.1)])
    (fun s => [.pt b14 (bools s.2) 4, .pt b3 (lbC l (.slice va l.runs.length vc)) 70]) (true, List.replicate n false) ⟨by rw [← hn']; exact FI.start, by simp⟩ ⟨rfl, rfl, rfl, rfl, rfl, trivial⟩ (Sp.refl _) ?_
  rintro ⟨gr, sl⟩ ⟨hF, hcl⟩ K hK
  dsimp only at hF hcl hK ⊢
  cases gr with
  | false =>
    have hbl : b < sl.length := by rw [hF.len, hn']; exact hb
    (refine q_seq (q_seq (q_region (ql_pure tabOk rfl rfl (q_nil (q_cond_false rfl (q_exit _ rfl (q_seq (q_region (ql_pure tabOk rfl rfl (ql_pure tabOk rfl rfl ?_)))))))))))
    refine ql_index tabOk rfl rfl rfl rfl rfl (by omega) (by omega) ?_
    refine ql_load1 (v := .bool (sl.getD b false)) tabOk rfl rfl rfl (fun w hs => bcell (hs.blk (b := b14) (by repeat constructor)) b hbl) ?_
    (refine ql_pure tabOk rfl rfl (q_nil (q_ret ?_)))
    refine q_fin tabOk rfl (by repeat constructor) fun w hs => ?_
    exact ⟨by rw [hF.done hl (by omega) (hcl rfl) (by rw [hn']; exact hb)]; rfl, hs.chg0⟩
  | true =>
    clear hcl
    (refine q_seq (q_seq (q_region (ql_pure tabOk rfl rfl (q_nil (q_cond_true rfl (q_skip (q_block (q_seq (q_region (ql_pure tabOk rfl rfl (q_nil ?_))))))))))); refine q_seq (q_region (ql_pure tabOk rfl rfl (q_nil (q_block ?_)))))
    refine q_loop (σ := Nat × Bool × List Bool) (fun s => s.1 ≤ l.runs.length ∧ FI l a s.2.2 ∧ (s.2.1 = false → s.2.2 = sl ∧ ∀ j f t, j < s.1 → Sh l j f t → (f = a ∨ s.2.2.getD f false = true) → s.2.2.getD t false = true) ∧ falses s.2.2 + (if s.2.1 then 1 else 0) ≤ falses sl) (fun s => l.runs.length - s.1) (fun s => [(1, .int .i64 a), (2, .int .i64 b), (3, .pointer (some ⟨b3, 0, none⟩)), (7, .slice (some ⟨b14, 0, none⟩) n n), (8, .bool s.2.1), (9, .int .i64 s.1)])
      (fun s => [.pt b14 (bools s.2.2) 4, .pt b3 (lbC l (.slice va l.runs.length vc)) 70]) (0, false, sl) ⟨by simp, hF, fun _ => ⟨rfl, fun j f t hj => by simp at hj⟩, by simp⟩ ⟨rfl, rfl, rfl, rfl, rfl, rfl, trivial⟩ (Sp.refl _) ?_
    rintro ⟨i, gr, sl'⟩ ⟨hir, hF', hcl, hfl⟩ K2 hK2
    dsimp only at hir hF' hcl hfl hK2 ⊢
    (refine q_seq (q_seq (q_region (ql_pure tabOk rfl rfl (ql_pure tabOk rfl rfl ?_)))); refine ql_loadBa tabOk rfl rfl rfl ?_; refine ql_pure tabOk rfl rfl (ql_pure tabOk rfl rfl (q_nil ?_)))
    refine q_if rfl (fun hc => ?_) (fun hc => ?_)
    · have hi2 : i < l.runs.length := by omega
      clear hc
      have hrl := (hl.run _ (List.getElem_mem hi2)).l0
      (refine q_skip (q_seq (q_block (q_seq (q_region ?_)))); refine ql_loadABa tabOk rfl rfl rfl ?_; refine ql_pure tabOk rfl rfl ?_)
      cases hr : runI l.err l.runs[i] with
      | none =>
        refine ql_callv (val := .tuple #[.int .i64 (-1), .int .i64 (-1)]) tabOk rfl rfl rfl rfl (fun w hs => ?_) ?_; exact by have := rshows_ca w lo hi l _ (RdE.keep h hs.chg0) ⟨hl.e0, hl.e1⟩ i hi2 hrl; rw [show shR l.err l.runs[i] = (-1, -1) from by unfold shR; rw [hr]; rfl] at this; exact this
        (refine ql_pure tabOk rfl rfl (ql_ext tabOk rfl rfl rfl (ql_ext tabOk rfl rfl rfl (ql_pure tabOk rfl rfl (ql_pure tabOk rfl rfl (q_nil (q_seq (q_region (ql_pure tabOk rfl rfl (ql_geqF tabOk rfl rfl rfl (by omega) (ql_pure tabOk rfl rfl ?_)))))))))); (iterate 4 refine ql_gno rfl rfl rfl ?_); (iterate 4 refine ql_gnone rfl rfl ?_); refine ql_gno rfl rfl rfl (ql_pure tabOk rfl rfl (ql_pure tabOk rfl rfl ?_)); (iterate 5 refine ql_gno rfl rfl rfl ?_); refine ql_pure tabOk rfl rfl (q_nil (q_cond_false rfl (q_skip (q_blk (q_region (ql_pure tabOk rfl rfl (ql_ar tabOk rfl rfl rfl rfl (by omega) (by omega) (ql_pure tabOk rfl rfl (q_nil ?_))))))))))
        exact hK2 (i + 1, gr, sl') _ _ ⟨by omega, hF', fun hg => ⟨(hcl hg).1, fun j f t hj hsh => by
          by_cases e : j = i
          · rw [e] at hsh; exact absurd hsh (runI_no hi2 hr)
          · exact (hcl hg).2 j f t (by omega) hsh⟩, hfl⟩ (by dsimp only; omega) ⟨rfl, rfl, rfl, rfl, rfl, rfl, trivial⟩ (Sp.refl _)
      | some pq =>
        obtain ⟨p, q⟩ := pq
        obtain ⟨f, t, rfl, rfl, hsh⟩ := runI_sh hl hi2 hr
        have hin := sh_in hl hsh
        rw [hn'] at hin
        have hfl2 : f < sl'.length := by rw [hF'.len, hn']; exact hin.1
        have htl2 : t < sl'.length := by rw [hF'.len, hn']; exact hin.2
        have hso : ∀ f' t', Sh l i f' t' → f' = f ∧ t' = t := fun f' t' h' => by
          have := h'.2.symm.trans hsh.2
          cases this
          exact ⟨rfl, rfl⟩
        refine ql_callv (val := .tuple #[.int .i64 f, .int .i64 t]) tabOk rfl rfl rfl rfl (fun w hs => ?_) ?_; exact by have := rshows_ca w lo hi l _ (RdE.keep h hs.chg0) ⟨hl.e0, hl.e1⟩ i hi2 hrl; rw [show shR l.err l.runs[i] = ((f : Int), (t : Int)) from by unfold shR; rw [hr]; rfl] at this; exact this
        by_cases hfa : f = a
        · have hfa' : f = a ∨ sl'.getD f false = true := .inl hfa
          (refine ql_pure tabOk rfl rfl (ql_ext tabOk rfl rfl rfl (ql_ext tabOk rfl rfl rfl (ql_pure tabOk rfl rfl (ql_pure tabOk rfl rfl (q_nil (q_seq (q_region (ql_pure tabOk rfl rfl (ql_geqT tabOk rfl rfl rfl (by omega) (ql_pure tabOk rfl rfl (ql_gyes rfl ?_))))))))))); refine ql_pure tabOk rfl rfl (ql_gyes rfl (ql_pure tabOk rfl rfl (ql_gyes rfl (ql_eqlT tabOk rfl rfl rfl (by omega) (ql_gyes rfl (ql_pure tabOk rfl rfl ?_)))))); (iterate 4 refine ql_gno rfl rfl rfl ?_); refine ql_gyes rfl ?_; (iterate 3 refine ql_pure tabOk rfl rfl ?_); refine ql_gyes rfl (ql_pure tabOk rfl rfl (ql_gyes rfl (ql_pure tabOk rfl rfl (ql_gyes rfl ?_)))))
          refine ql_index tabOk rfl rfl rfl rfl rfl (by omega) (by omega) ?_
          (refine ql_gyes rfl ?_)
          refine ql_load1 (v := .bool (sl'.getD t false)) tabOk rfl rfl rfl (fun w hs => bcell (hs.blk (b := b14) (by repeat constructor)) t htl2) ?_
          cases ht : sl'.getD t false with
          | true =>
            have hskip : (f = a ∨ sl'.getD f false = true) → sl'.getD t false = true := fun _ => ht
            (refine ql_gyes rfl (ql_pure tabOk rfl rfl (ql_pure tabOk rfl rfl (q_nil (q_cond_false rfl (q_skip (q_blk (q_region (ql_pure tabOk rfl rfl (ql_ar tabOk rfl rfl rfl rfl (by omega) (by omega) (ql_pure tabOk rfl rfl (q_nil ?_))))))))))))
            exact hK2 (i + 1, gr, sl') _ _ ⟨by omega, hF', fun hg => ⟨(hcl hg).1, fun j f' t' hj hs' hf' => by
              by_cases e : j = i
              · rw [e] at hs'
                obtain ⟨rfl, rfl⟩ := hso f' t' hs'
                exact hskip hf'
              · exact (hcl hg).2 j f' t' (by omega) hs' hf'⟩, hfl⟩ (by dsimp only; omega) ⟨rfl, rfl, rfl, rfl, rfl, rfl, trivial⟩ (Sp.refl _)
          | false =>
            (refine ql_gyes rfl (ql_pure tabOk rfl rfl (ql_pure tabOk rfl rfl (q_nil (q_cond_true rfl (q_seq (q_region (ql_pure tabOk rfl rfl (ql_pure tabOk rfl rfl ?_)))))))))
            refine ql_index tabOk rfl rfl rfl rfl rfl (by omega) (by omega) ?_
            refine ql_storeBo tabOk t rfl rfl rfl (by repeat constructor) (by simp) htl2 ?_
            (refine q_nil (q_region (ql_pure tabOk rfl rfl (q_nil (q_blk (q_region (ql_pure tabOk rfl rfl (ql_ar tabOk rfl rfl rfl rfl (by omega) (by omega) (ql_pure tabOk rfl rfl (q_nil ?_))))))))))
            have hfs := falses_set sl' t htl2 ht
            have hfl3 : falses (sl'.set t true) + 1 ≤ falses sl := by split at hfl <;> omega
            exact hK2 (i + 1, true, sl'.set t true) _ _ ⟨by dsimp only; omega, hF'.add hl hsh hfa', fun hg => (by cases hg), hfl3⟩ (by dsimp only; omega) ⟨rfl, rfl, rfl, rfl, rfl, rfl, trivial⟩ (Sp.refl _)
        · (refine ql_pure tabOk rfl rfl (ql_ext tabOk rfl rfl rfl (ql_ext tabOk rfl rfl rfl (ql_pure tabOk rfl rfl (ql_pure tabOk rfl rfl (q_nil (q_seq (q_region (ql_pure tabOk rfl rfl (ql_geqT tabOk rfl rfl rfl (by omega) (ql_pure tabOk rfl rfl (ql_gyes rfl ?_))))))))))); refine ql_pure tabOk rfl rfl (ql_gyes rfl (ql_pure tabOk rfl rfl (ql_gyes rfl (ql_eqlF tabOk rfl rfl rfl (by omega) (ql_gyes rfl (ql_pure tabOk rfl rfl (ql_gyes rfl (ql_pure tabOk rfl rfl (ql_gyes rfl (ql_pure tabOk rfl rfl (ql_gyes rfl ?_))))))))))))
          refine ql_index tabOk rfl rfl rfl rfl rfl (by omega) (by omega) ?_
          (refine ql_gyes rfl ?_)
          refine ql_load1 (v := .bool (sl'.getD f false)) tabOk rfl rfl rfl (fun w hs => bcell (hs.blk (b := b14) (by repeat constructor)) f hfl2) ?_
          cases hsf : sl'.getD f false with
          | true =>
            have hfa' : f = a ∨ sl'.getD f false = true := .inr hsf
            (refine ql_gyes rfl ?_; (iterate 3 refine ql_pure tabOk rfl rfl ?_); refine ql_gyes rfl (ql_pure tabOk rfl rfl (ql_gyes rfl (ql_pure tabOk rfl rfl (ql_gyes rfl ?_)))))
            refine ql_index tabOk rfl rfl rfl rfl rfl (by omega) (by omega) ?_
            (refine ql_gyes rfl ?_)
            refine ql_load1 (v := .bool (sl'.getD t false)) tabOk rfl rfl rfl (fun w hs => bcell (hs.blk (b := b14) (by repeat constructor)) t htl2) ?_
            cases ht : sl'.getD t false with
            | true =>
              have hskip : (f = a ∨ sl'.getD f false = true) → sl'.getD t false = true := fun _ => ht
              (refine ql_gyes rfl (ql_pure tabOk rfl rfl (ql_pure tabOk rfl rfl (q_nil (q_cond_false rfl (q_skip (q_blk (q_region (ql_pure tabOk rfl rfl (ql_ar tabOk rfl rfl rfl rfl (by omega) (by omega) (ql_pure tabOk rfl rfl (q_nil ?_))))))))))))
              exact hK2 (i + 1, gr, sl') _ _ ⟨by omega, hF', fun hg => ⟨(hcl hg).1, fun j f' t' hj hs' hf' => by
                by_cases e : j = i
                · rw [e] at hs'
                  obtain ⟨rfl, rfl⟩ := hso f' t' hs'
                  exact hskip hf'
                · exact (hcl hg).2 j f' t' (by omega) hs' hf'⟩, hfl⟩ (by dsimp only; omega) ⟨rfl, rfl, rfl, rfl, rfl, rfl, trivial⟩ (Sp.refl _)
            | false =>
              (refine ql_gyes rfl (ql_pure tabOk rfl rfl (ql_pure tabOk rfl rfl (q_nil (q_cond_true rfl (q_seq (q_region (ql_pure tabOk rfl rfl (ql_pure tabOk rfl rfl ?_)))))))))
              refine ql_index tabOk rfl rfl rfl rfl rfl (by omega) (by omega) ?_
              refine ql_storeBo tabOk t rfl rfl rfl (by repeat constructor) (by simp) htl2 ?_
              (refine q_nil (q_region (ql_pure tabOk rfl rfl (q_nil (q_blk (q_region (ql_pure tabOk rfl rfl (ql_ar tabOk rfl rfl rfl rfl (by omega) (by omega) (ql_pure tabOk rfl rfl (q_nil ?_))))))))))
              have hfs := falses_set sl' t htl2 ht
              have hfl3 : falses (sl'.set t true) + 1 ≤ falses sl := by split at hfl <;> omega
              exact hK2 (i + 1, true, sl'.set t true) _ _ ⟨by dsimp only; omega, hF'.add hl hsh hfa', fun hg => (by cases hg), hfl3⟩ (by dsimp only; omega) ⟨rfl, rfl, rfl, rfl, rfl, rfl, trivial⟩ (Sp.refl _)
          | false =>
            have hskip : (f = a ∨ sl'.getD f false = true) → sl'.getD t false = true := fun h' => by
              rcases h' with h' | h'
              · exact absurd h' hfa
              · rw [hsf] at h'; cases h'
            (refine ql_gyes rfl ?_; (iterate 3 refine ql_pure tabOk rfl rfl ?_); (iterate 5 refine ql_gno rfl rfl rfl ?_); refine ql_pure tabOk rfl rfl (q_nil (q_cond_false rfl (q_skip (q_blk (q_region (ql_pure tabOk rfl rfl (ql_ar tabOk rfl rfl rfl rfl (by omega) (by omega) (ql_pure tabOk rfl rfl (q_nil ?_))))))))))
            exact hK2 (i + 1, gr, sl') _ _ ⟨by omega, hF', fun hg => ⟨(hcl hg).1, fun j f' t' hj hs' hf' => by
              by_cases e : j = i
              · rw [e] at hs'
                obtain ⟨rfl, rfl⟩ := hso f' t' hs'
                exact hskip hf'
              · exact (hcl hg).2 j f' t' (by omega) hs' hf'⟩, hfl⟩ (by dsimp only; omega) ⟨rfl, rfl, rfl, rfl, rfl, rfl, trivial⟩ (Sp.refl _)
    · have hie : i = l.runs.length := by omega
      clear hc hK2
      (refine q_exit _ rfl (q_blk ?_))
      exact hK (gr, sl') _ _ ⟨hF', fun hg j f t hsh hf => (hcl hg).2 j f t (by have := hsh.1; omega) hsh hf⟩ (by dsimp only; simp only [if_true]; omega) ⟨rfl, rfl, rfl, rfl, rfl, trivial⟩ (Sp.refl _)
end Go.Proofs.Ytcmpdmobmbbplaa

/- Walks of the reference: whether runs contradict each other; the length of the shortest chain. -/
namespace Go.Proofs.Ytcmpdmobmbbplaa
open Go Go.Eng

theorem ragreed_ca (w : World) (lo hi : Nat) (l : Lb) (v : Value) (h : RdR w lo hi v l.runs) (hlen : l.runs.length ≤ maxLen) : Ca Try.prog 33 [.agg (lbC l v).toArray] w fun x w' => x = .int .i64 (agreedV l) ∧ Chg [] w w' := by
  refine q_of (Sat.nil w M0) Try.func33 rfl (by simp [Try.ntmps33]) ?_
  (refine q_seq (q_region ?_))
  refine ql_box rfl rfl (fun b1 => ?_)
  rw [agg_cells]
  (refine ql_pure tabOk rfl rfl (q_nil (q_seq (q_seq (q_region ?_)))); refine ql_loadABa tabOk rfl rfl rfl ?_)
  refine ql_callv (val := .int .i64 (checkV l)) tabOk rfl rfl rfl rfl (fun w hs => ?_) ?_; exact rcheck_ca w lo hi l v (RdE.keep h hs.chg0) hlen
  by_cases h0 : checkV l = 0
  · have hl := check_iff.1 h0
    have h8 := hl.n8
    have s0 := hl.s0
    obtain ⟨n, hn⟩ := Int.eq_ofNat_of_zero_le (show 0 ≤ l.skis by omega)
    have hn' : l.n = n := by unfold Lb.n; omega
    rw [hn'] at h8
    rw [h0]
    (refine ql_pure tabOk rfl rfl (q_nil (q_seq (q_region (ql_pure tabOk rfl rfl (ql_neqF tabOk rfl rfl rfl (by omega) (q_nil (q_cond_false rfl (q_skip (q_seq (q_seq (q_region ?_))))))))))); refine ql_pure tabOk rfl rfl (q_nil (q_block ?_)))
    refine q_loop (σ := Nat) (fun s => s ≤ n ∧ ∀ t, t < s → fa l.ord t t = false) (fun s => n - s) (fun s => [(1, .pointer (some ⟨b1, 0, none⟩)), (4, .int .i64 s)]) (fun _ => [.pt b1 (lbC l v) 70]) 0 ⟨by omega, fun t ht => by omega⟩ ⟨rfl, rfl, trivial⟩ (by repeat constructor) ?_
    rintro s ⟨hs1, hb1⟩ K hK
    (refine q_seq (q_seq (q_region (ql_pure tabOk rfl rfl (ql_pure tabOk rfl rfl ?_)))); refine ql_loadBa tabOk rfl rfl rfl ?_; refine ql_pure tabOk rfl rfl (q_nil ?_))
    rw [hn]
    refine q_if rfl (fun hc => ?_) (fun hc => ?_)
    · have hs2 : s < n := by omega
      clear hc
      (refine q_skip (q_seq (q_block (q_seq (q_region ?_)))); refine ql_loadABa tabOk rfl rfl rfl ?_; refine ql_pure tabOk rfl rfl (ql_pure tabOk rfl rfl ?_))
      refine ql_callv (val := .bool (fa l.ord s s)) tabOk rfl rfl rfl rfl (fun w hs => ?_) ?_; exact rfast_ca w lo hi l v (RdE.keep h hs.chg0) hl s s (by rw [hn']; exact hs2) (by rw [hn']; exact hs2)
      cases hx : fa l.ord s s with
      | true =>
        (refine q_nil (q_cond_true rfl (q_seq (q_region (ql_pure tabOk rfl rfl (q_nil (q_ret ?_)))))))
        refine q_fin tabOk rfl (by repeat constructor) fun w hs => ?_
        have hcf : conflB l.ord l.n = true := by
          cases hcc : conflB l.ord l.n with
          | true => rfl
          | false => rw [confl_iff.1 hcc s (by rw [hn']; exact hs2)] at hx; cases hx
        exact ⟨by simp [retV, agreedV, h0, hcf], hs.chg0⟩
      | false =>
        (refine q_nil (q_cond_false rfl (q_skip (q_blk (q_region (ql_pure tabOk rfl rfl (ql_ar tabOk rfl rfl rfl rfl (by omega) (by omega) (ql_pure tabOk rfl rfl (q_nil ?_)))))))))
        exact hK (s + 1) _ _ ⟨by omega, fun t ht => by
          by_cases e : t = s
          · rw [e]; exact hx
          · exact hb1 t (by omega)⟩ (by omega) ⟨rfl, rfl, trivial⟩ (Sp.refl _)
    · have hsn : s = n := by omega
      subst hsn
      (refine q_exit _ rfl (q_seq (q_region (ql_pure tabOk rfl rfl (q_nil (q_ret ?_))))))
      refine q_fin tabOk rfl (by repeat constructor) fun w hs => ?_
      have hcf : conflB l.ord l.n = false := confl_iff.2 (by rw [hn']; exact hb1)
      exact ⟨by simp [retV, agreedV, h0, hcf], hs.chg0⟩
  · (refine ql_pure tabOk rfl rfl (q_nil (q_seq (q_region (ql_pure tabOk rfl rfl (ql_neqT tabOk rfl rfl rfl (by omega) (q_nil (q_cond_true rfl (q_seq (q_region (ql_pure tabOk rfl rfl (ql_pure tabOk rfl rfl ?_))))))))))); refine q_nil (q_ret ?_))
    refine q_fin tabOk rfl (by repeat constructor) fun w hs => ?_
    exact ⟨by simp [retV, agreedV, h0], hs.chg0⟩
set_option maxHeartbeats 2000000 in
theorem rlength_ca (w : World) (lo hi : Nat) (l : Lb) (v : Value) (h : RdR w lo hi v l.runs) (hl : l.Ok) (a b : Nat) (ha : a < l.n) (hb : b < l.n) : Ca Try.prog 40 [.agg (lbC l v).toArray, .int .i64 a, .int .i64 b] w fun x w' => ∃ z : Int, (x = .int .i64 z ∧ LenP l a b z) ∧ Sat w M0 [] w' := by
  have h8 := hl.n8
  have s0 := hl.s0
  have hlen := hl.len
  obtain ⟨n, hn⟩ := Int.eq_ofNat_of_zero_le (show 0 ≤ l.skis by omega)
  have hn' : l.n = n := by unfold Lb.n; omega
  rw [hn'] at h8 ha hb
  obtain ⟨va, vc, rfl, hsa⟩ := RdR.outI h
  refine q_of (Sat.nil w M0) Try.func40 rfl (by simp [Try.ntmps40]) ?_
  (refine q_seq (q_region ?_))
  refine ql_box rfl rfl (fun b3 => ?_)
  rw [agg_cells]
  (refine ql_pure tabOk rfl rfl (q_nil (q_seq (q_region (ql_pure tabOk rfl rfl ?_)))); refine ql_loadBa tabOk rfl rfl rfl ?_)
  rw [hn]
  refine ql_makeI slI rfl rfl rfl (by omega) (fun b14 => ?_)
  (refine ql_pure tabOk rfl rfl (q_nil (q_seq (q_seq (q_region (ql_pure tabOk rfl rfl (q_nil (q_block ?_))))))))
  refine q_loop (σ := Nat × List Int) (fun s => 1 ≤ s.1 ∧ s.1 ≤ n + 1 ∧ LI l a s.1 0 s.2) (fun s => n + 1 - s.1) (fun s => [(1, .int .i64 a), (2, .int .i64 b), (3, .pointer (some ⟨b3, 0, none⟩)), (7, .slice (some ⟨b14, 0, none⟩) n n), (8, .int .i64 s.1)])
    (fun s => [.pt b14 (ints s.2) 3, .pt b3 (lbC l (.slice va l.runs.length vc)) 70]) (1, List.replicate n 0) ⟨by omega, by simp only; omega, by rw [← hn']; exact LI.start l a⟩ ⟨rfl, rfl, rfl, rfl, rfl, trivial⟩ (by repeat constructor) ?_
  rintro ⟨nn, far⟩ ⟨hn1, hn2, hL⟩ K hK
  dsimp only at hn1 hn2 hL hK ⊢
  (refine q_seq (q_seq (q_region (ql_pure tabOk rfl rfl (ql_pure tabOk rfl rfl ?_)))); refine ql_loadBa tabOk rfl rfl rfl ?_; refine ql_pure tabOk rfl rfl (q_nil ?_))
  rw [hn]
  refine q_if rfl (fun hc => ?_) (fun hc => ?_)
  · have hn3 : nn ≤ n := by omega
    clear hc
    (refine q_skip (q_seq (q_block (q_seq (q_region (ql_pure tabOk rfl rfl (q_nil (q_block ?_))))))))
    refine q_loop (σ := Nat × List Int) (fun s => s.1 ≤ l.runs.length ∧ LI l a nn s.1 s.2) (fun s => l.runs.length - s.1) (fun s => [(1, .int .i64 a), (2, .int .i64 b), (3, .pointer (some ⟨b3, 0, none⟩)), (7, .slice (some ⟨b14, 0, none⟩) n n), (8, .int .i64 nn), (9, .int .i64 s.1)])
      (fun s => [.pt b14 (ints s.2) 3, .pt b3 (lbC l (.slice va l.runs.length vc)) 70]) (0, far) ⟨by simp, hL⟩ ⟨rfl, rfl, rfl, rfl, rfl, rfl, trivial⟩ (Sp.refl _) ?_
    rintro ⟨i, far⟩ ⟨hir, hL⟩ K2 hK2
    dsimp only at hir hL hK2 ⊢
    (refine q_seq (q_seq (q_region (ql_pure tabOk rfl rfl (ql_pure tabOk rfl rfl ?_)))); refine ql_loadBa tabOk rfl rfl rfl ?_; refine ql_pure tabOk rfl rfl (ql_pure tabOk rfl rfl (q_nil ?_)))
    refine q_if rfl (fun hc => ?_) (fun hc => ?_)
    · have hi2 : i < l.runs.length := by omega
      clear hc
      have hrl := (hl.run _ (List.getElem_mem hi2)).l0
      (refine q_skip (q_seq (q_block (q_seq (q_region ?_)))); refine ql_loadABa tabOk rfl rfl rfl ?_; refine ql_pure tabOk rfl rfl ?_)
      cases hr : runI l.err l.runs[i] with
      | none =>
        refine ql_callv (val := .tuple #[.int .i64 (-1), .int .i64 (-1)]) tabOk rfl rfl rfl rfl (fun w hs => ?_) ?_; exact by have := rshows_ca w lo hi l _ (RdE.keep h hs.chg0) ⟨hl.e0, hl.e1⟩ i hi2 hrl; rw [show shR l.err l.runs[i] = (-1, -1) from by unfold shR; rw [hr]; rfl] at this; exact this
        (refine ql_pure tabOk rfl rfl (ql_ext tabOk rfl rfl rfl (ql_ext tabOk rfl rfl rfl (ql_pure tabOk rfl rfl (ql_pure tabOk rfl rfl (q_nil (q_seq (q_region (ql_pure tabOk rfl rfl (ql_geqF tabOk rfl rfl rfl (by omega) (ql_pure tabOk rfl rfl ?_)))))))))); (iterate 5 refine ql_gno rfl rfl rfl ?_); refine ql_pure tabOk rfl rfl (ql_pure tabOk rfl rfl ?_); (iterate 3 refine ql_gno rfl rfl rfl ?_); (iterate 3 refine ql_gnone rfl rfl ?_); refine ql_gno rfl rfl rfl (ql_gno rfl rfl rfl ?_); (iterate 11 refine ql_gnone rfl rfl ?_); refine ql_gno rfl rfl rfl (ql_pure tabOk rfl rfl (q_nil (q_cond_false rfl (q_skip (q_blk (q_region (ql_pure tabOk rfl rfl (ql_ar tabOk rfl rfl rfl rfl (by omega) (by omega) (ql_pure tabOk rfl rfl (q_nil ?_)))))))))))
        exact hK2 (i + 1, far) _ _ ⟨by dsimp only; omega, hL.skip (fun f t hsh => absurd hsh (runI_no hi2 hr))⟩ (by dsimp only; omega) ⟨rfl, rfl, rfl, rfl, rfl, rfl, trivial⟩ (Sp.refl _)
      | some pq =>
        obtain ⟨p, q⟩ := pq
        obtain ⟨f, t, rfl, rfl, hsh⟩ := runI_sh hl hi2 hr
        have hin := sh_in hl hsh
        rw [hn'] at hin
        have hfl2 : f < far.length := by rw [hL.len, hn']; exact hin.1
        have htl2 : t < far.length := by rw [hL.len, hn']; exact hin.2
        have hso : ∀ f' t', Sh l i f' t' → f' = f ∧ t' = t := fun f' t' h' => by
          have := h'.2.symm.trans hsh.2
          cases this
          exact ⟨rfl, rfl⟩
        refine ql_callv (val := .tuple #[.int .i64 f, .int .i64 t]) tabOk rfl rfl rfl rfl (fun w hs => ?_) ?_; exact by have := rshows_ca w lo hi l _ (RdE.keep h hs.chg0) ⟨hl.e0, hl.e1⟩ i hi2 hrl; rw [show shR l.err l.runs[i] = ((f : Int), (t : Int)) from by unfold shR; rw [hr]; rfl] at this; exact this
        (refine ql_pure tabOk rfl rfl (ql_ext tabOk rfl rfl rfl (ql_ext tabOk rfl rfl rfl (ql_pure tabOk rfl rfl (ql_pure tabOk rfl rfl (q_nil (q_seq (q_region (ql_pure tabOk rfl rfl (ql_geqT tabOk rfl rfl rfl (by omega) (ql_pure tabOk rfl rfl (ql_gyes rfl ?_))))))))))); refine ql_pure tabOk rfl rfl (ql_gyes rfl (ql_pure tabOk rfl rfl (ql_gyes rfl ?_))))
        refine ql_index tabOk rfl rfl rfl rfl rfl (by omega) (by omega) ?_
        (refine ql_gyes rfl ?_)
        refine ql_load1 (v := .int .i64 (far.getD t 0)) tabOk rfl rfl rfl (fun w hs => icell (hs.blk (b := b14) (by repeat constructor)) t htl2) ?_
        by_cases h1 : far.getD t 0 = 0
        · by_cases hnn : nn = 1
          · by_cases hfa : f = a
            · have hset : nn = 1 ∧ f = a ∨ ∃ m, nn = m + 2 ∧ IsD l a f (m + 1) := .inl ⟨hnn, hfa⟩
              (refine ql_gyes rfl (ql_eqlT tabOk rfl rfl rfl (by omega) (ql_pure tabOk rfl rfl (ql_pure tabOk rfl rfl (ql_gyes rfl (ql_pure tabOk rfl rfl (ql_gyes rfl (ql_eqlT tabOk rfl rfl rfl (by omega) (ql_gyes rfl (ql_pure tabOk rfl rfl (ql_gyes rfl (ql_pure tabOk rfl rfl ?_))))))))))); refine ql_gyes rfl (ql_pure tabOk rfl rfl (ql_gyes rfl (ql_eqlT tabOk rfl rfl rfl (by omega) (ql_gyes rfl (ql_pure tabOk rfl rfl (ql_gyes rfl (ql_pure tabOk rfl rfl ?_))))))); (iterate 3 refine ql_gno rfl rfl rfl ?_); (iterate 7 refine ql_gnone rfl rfl ?_); refine ql_gno rfl rfl rfl (ql_gyes rfl (ql_pure tabOk rfl rfl (ql_pure tabOk rfl rfl (q_nil (q_cond_true rfl (q_region ?_)))))); (iterate 3 refine ql_pure tabOk rfl rfl ?_))
              refine ql_index tabOk rfl rfl rfl rfl rfl (by omega) (by omega) ?_
              refine ql_storeI tabOk (t) rfl rfl rfl (by repeat constructor) (by first | rfl | omega | simp) htl2 ?_
              (refine q_nil (q_blk (q_region (ql_pure tabOk rfl rfl (ql_ar tabOk rfl rfl rfl rfl (by omega) (by omega) (ql_pure tabOk rfl rfl (q_nil ?_)))))))
              exact hK2 (i + 1, far.set t nn) _ _ ⟨by dsimp only; omega, hL.set hl hn1 hsh h1 hset⟩ (by dsimp only; omega) ⟨rfl, rfl, rfl, rfl, rfl, rfl, trivial⟩ (Sp.refl _)
            · have hskip : (nn = 1 ∧ f = a ∨ ∃ m, nn = m + 2 ∧ IsD l a f (m + 1)) → far.getD t 0 ≠ 0 := fun h' => by
                rcases h' with ⟨_, h2⟩ | ⟨m, h2, _⟩
                · exact absurd h2 hfa
                · omega
              (refine ql_gyes rfl (ql_eqlT tabOk rfl rfl rfl (by omega) (ql_pure tabOk rfl rfl (ql_pure tabOk rfl rfl (ql_gyes rfl (ql_pure tabOk rfl rfl (ql_gyes rfl (ql_eqlT tabOk rfl rfl rfl (by omega) (ql_gyes rfl (ql_pure tabOk rfl rfl (ql_gyes rfl (ql_pure tabOk rfl rfl ?_))))))))))); refine ql_gyes rfl (ql_pure tabOk rfl rfl (ql_gyes rfl (ql_eqlF tabOk rfl rfl rfl (by omega) (ql_gyes rfl (ql_pure tabOk rfl rfl (ql_gyes rfl (ql_pure tabOk rfl rfl (ql_gyes rfl (ql_pure tabOk rfl rfl (ql_gyes rfl (ql_gtrF tabOk rfl rfl rfl (by omega) ?_))))))))))); refine ql_gyes rfl (ql_pure tabOk rfl rfl ?_); (iterate 7 refine ql_gno rfl rfl rfl ?_); refine ql_gyes rfl (ql_pure tabOk rfl rfl (ql_gyes rfl (ql_pure tabOk rfl rfl (ql_pure tabOk rfl rfl (q_nil (q_cond_false rfl (q_skip (q_blk (q_region (ql_pure tabOk rfl rfl (ql_ar tabOk rfl rfl rfl rfl (by omega) (by omega) ?_))))))))))); refine ql_pure tabOk rfl rfl (q_nil ?_))
              exact hK2 (i + 1, far) _ _ ⟨by dsimp only; omega, hL.skip (fun f' t' hs' hf' => by
                obtain ⟨rfl, rfl⟩ := hso f' t' hs'
                exact hskip hf')⟩ (by dsimp only; omega) ⟨rfl, rfl, rfl, rfl, rfl, rfl, trivial⟩ (Sp.refl _)
          · (refine ql_gyes rfl (ql_eqlT tabOk rfl rfl rfl (by omega) (ql_pure tabOk rfl rfl (ql_pure tabOk rfl rfl (ql_gyes rfl (ql_pure tabOk rfl rfl (ql_gyes rfl (ql_eqlF tabOk rfl rfl rfl (by omega) (ql_gyes rfl (ql_pure tabOk rfl rfl ?_))))))))); (iterate 3 refine ql_gno rfl rfl rfl ?_); refine ql_gyes rfl (ql_pure tabOk rfl rfl (ql_gyes rfl (ql_pure tabOk rfl rfl (ql_gyes rfl (ql_pure tabOk rfl rfl (ql_gyes rfl (ql_gtrT tabOk rfl rfl rfl (by omega) (ql_gyes rfl (ql_pure tabOk rfl rfl (ql_gyes rfl (ql_pure tabOk rfl rfl ?_))))))))))); refine ql_gyes rfl (ql_pure tabOk rfl rfl (ql_gyes rfl ?_)))
            refine ql_index tabOk rfl rfl rfl rfl rfl (by omega) (by omega) ?_
            (refine ql_gyes rfl ?_)
            refine ql_load1 (v := .int .i64 (far.getD f 0)) tabOk rfl rfl rfl (fun w hs => icell (hs.blk (b := b14) (by repeat constructor)) f hfl2) ?_
            by_cases h2 : far.getD f 0 = (nn : Int) - 1
            · have hset : nn = 1 ∧ f = a ∨ ∃ m, nn = m + 2 ∧ IsD l a f (m + 1) := .inr (by
                obtain ⟨k, h3, _, h4⟩ := hL.ok f (by omega)
                refine ⟨nn - 2, by omega, ?_⟩
                rw [show nn - 2 + 1 = k from by omega]
                exact h4)
              (refine ql_gyes rfl (ql_pure tabOk rfl rfl (ql_gyes rfl (ql_ar tabOk rfl rfl rfl rfl (by omega) (by omega) (ql_gyes rfl (ql_eqlT tabOk rfl rfl rfl (by omega) (ql_gyes rfl (ql_pure tabOk rfl rfl (ql_gyes rfl (ql_pure tabOk rfl rfl (ql_pure tabOk rfl rfl (q_nil ?_))))))))))); refine q_cond_true rfl (q_region ?_); (iterate 3 refine ql_pure tabOk rfl rfl ?_))
              refine ql_index tabOk rfl rfl rfl rfl rfl (by omega) (by omega) ?_
              refine ql_storeI tabOk (t) rfl rfl rfl (by repeat constructor) (by first | rfl | omega | simp) htl2 ?_
              (refine q_nil (q_blk (q_region (ql_pure tabOk rfl rfl (ql_ar tabOk rfl rfl rfl rfl (by omega) (by omega) (ql_pure tabOk rfl rfl (q_nil ?_)))))))
              exact hK2 (i + 1, far.set t nn) _ _ ⟨by dsimp only; omega, hL.set hl hn1 hsh h1 hset⟩ (by dsimp only; omega) ⟨rfl, rfl, rfl, rfl, rfl, rfl, trivial⟩ (Sp.refl _)
            · have hskip : (nn = 1 ∧ f = a ∨ ∃ m, nn = m + 2 ∧ IsD l a f (m + 1)) → far.getD t 0 ≠ 0 := fun h' => by
                rcases h' with ⟨h3, _⟩ | ⟨m, h3, h4⟩
                · exact absurd h3 hnn
                · have := hL.old f (m + 1) (by omega) h4
                  omega
              (refine ql_gyes rfl (ql_pure tabOk rfl rfl (ql_gyes rfl (ql_ar tabOk rfl rfl rfl rfl (by omega) (by omega) (ql_gyes rfl (ql_eqlF tabOk rfl rfl rfl (by omega) (ql_gyes rfl (ql_pure tabOk rfl rfl (ql_gyes rfl (ql_pure tabOk rfl rfl (ql_pure tabOk rfl rfl (q_nil ?_))))))))))); refine q_cond_false rfl (q_skip (q_blk (q_region (ql_pure tabOk rfl rfl (ql_ar tabOk rfl rfl rfl rfl (by omega) (by omega) (ql_pure tabOk rfl rfl (q_nil ?_))))))))
              exact hK2 (i + 1, far) _ _ ⟨by dsimp only; omega, hL.skip (fun f' t' hs' hf' => by
                obtain ⟨rfl, rfl⟩ := hso f' t' hs'
                exact hskip hf')⟩ (by dsimp only; omega) ⟨rfl, rfl, rfl, rfl, rfl, rfl, trivial⟩ (Sp.refl _)
        · have hskip : (nn = 1 ∧ f = a ∨ ∃ m, nn = m + 2 ∧ IsD l a f (m + 1)) → far.getD t 0 ≠ 0 := fun _ => h1
          (refine ql_gyes rfl (ql_eqlF tabOk rfl rfl rfl (by omega) (ql_pure tabOk rfl rfl (ql_pure tabOk rfl rfl ?_))); (iterate 3 refine ql_gno rfl rfl rfl ?_); (iterate 3 refine ql_gnone rfl rfl ?_); refine ql_gno rfl rfl rfl (ql_gno rfl rfl rfl ?_); (iterate 11 refine ql_gnone rfl rfl ?_); refine ql_gno rfl rfl rfl (ql_pure tabOk rfl rfl (q_nil (q_cond_false rfl (q_skip (q_blk (q_region (ql_pure tabOk rfl rfl (ql_ar tabOk rfl rfl rfl rfl (by omega) (by omega) (ql_pure tabOk rfl rfl (q_nil ?_)))))))))))
          exact hK2 (i + 1, far) _ _ ⟨by dsimp only; omega, hL.skip (fun f' t' hs' hf' => by
            obtain ⟨rfl, rfl⟩ := hso f' t' hs'
            exact hskip hf')⟩ (by dsimp only; omega) ⟨rfl, rfl, rfl, rfl, rfl, rfl, trivial⟩ (Sp.refl _)
    · have hie : i = l.runs.length := by omega
      subst hie
      clear hc hK2
      (refine q_exit _ rfl (q_blk (q_region (ql_pure tabOk rfl rfl (ql_ar tabOk rfl rfl rfl rfl (by omega) (by omega) (ql_pure tabOk rfl rfl (q_nil ?_)))))))
      exact hK (nn + 1, far) _ _ ⟨by dsimp only; omega, by dsimp only; omega, hL.fin hl hn1⟩ (by dsimp only; omega) ⟨rfl, rfl, rfl, rfl, rfl, trivial⟩ (Sp.refl _)
  · have hne : nn = n + 1 := by omega
    subst hne
    clear hc hK
    have hbl : b < far.length := by rw [hL.len, hn']; exact hb
    (refine q_exit _ rfl (q_seq (q_region (ql_pure tabOk rfl rfl (ql_pure tabOk rfl rfl ?_)))))
    refine ql_index tabOk rfl rfl rfl rfl rfl (by omega) (by omega) ?_
    refine ql_load1 (v := .int .i64 (far.getD b 0)) tabOk rfl rfl rfl (fun w hs => icell (hs.blk (b := b14) (by repeat constructor)) b hbl) ?_
    (refine ql_pure tabOk rfl rfl (q_nil (q_ret ?_)))
    refine q_fin tabOk rfl (by repeat constructor) fun w hs => ?_
    exact ⟨_, ⟨rfl, by rw [← hn'] at hL; exact hL.end hl b⟩, hs.sp (by repeat constructor)⟩
end Go.Proofs.Ytcmpdmobmbbplaa

/- Walks of the reference: what a chain shows. -/
namespace Go.Proofs.Ytcmpdmobmbbplaa
open Go Go.Eng

theorem rshows2_ca (w : World) (lo hi : Nat) (l : Lb) (v : Value) (h : RdR w lo hi v l.runs) (hl : l.Ok) (j : Int) (h0 : 0 ≤ j) (h1 : j < l.runs.length) :
    Ca Try.prog 91 [.agg (lbC l v).toArray, .int .i64 j] w fun x w' => x = .tuple #[.int .i64 (rqL l j).1, .int .i64 (rqL l j).2] ∧ Chg [] w w' := by
  obtain ⟨i, rfl⟩ := Int.eq_ofNat_of_zero_le h0
  have hi' : i < l.runs.length := by omega
  have := rshows_ca w lo hi l v h ⟨hl.e0, hl.e1⟩ i hi' (hl.run _ (List.getElem_mem hi')).l0
  unfold rqL
  rw [show ((i : Nat) : Int).toNat = i from rfl, List.getD_eq_getElem?_getD, List.getElem?_eq_getElem hi', Option.getD_some]
  exact this
theorem chainV_eq {l : Lb} {a b : Int} {c : List Int} (h2 : twoV l a b = 0) (ha : (c.all fun i => inB i 0 (l.runs.length - 1)) = true) : chainV l a b c = (chainB l a b c, 0) := chain_yes h2 ha
theorem getD_at {l : List Int} {i : Nat} (h : i < l.length) : l[i] = l.getD i 0 := by rw [List.getD_eq_getElem?_getD, List.getElem?_eq_getElem h]; rfl
set_option maxHeartbeats 4000000 in
theorem rchain_ca (w : World) (lo hi lo2 hi2 : Nat) (l : Lb) (v : Value) (a b : Int) (u : Value) (c : List Int) (h : RdR w lo hi v l.runs) (hlen : l.runs.length ≤ maxLen) (hu : RdI w lo2 hi2 u c) (hc : c.length ≤ 1000000) : Ca Try.prog 37 [.agg (lbC l v).toArray, .int .i64 a, .int .i64 b, u] w fun x w' => x = .tuple #[.bool (chainV l a b c).1, .int .i64 (chainV l a b c).2] ∧ Chg [] w w' := by
  obtain ⟨va, vc, rfl, hsa⟩ := RdR.outI h
  obtain ⟨ua, uc, rfl, hsu⟩ := RdI.outI hu
  refine q_of (Sat.nil w M0) Try.func37 rfl (by simp [Try.ntmps37]) ?_
  (refine q_seq (q_region ?_))
  refine ql_box rfl rfl (fun b4 => ?_)
  rw [agg_cells]
  (refine ql_pure tabOk rfl rfl (ql_pure tabOk rfl rfl (q_nil (q_seq (q_seq (q_region ?_))))); refine ql_loadABa tabOk rfl rfl rfl ?_; refine ql_pure tabOk rfl rfl (ql_pure tabOk rfl rfl ?_))
  refine ql_callv (val := .int .i64 (twoV l a b)) tabOk rfl rfl rfl rfl (fun w hs => ?_) ?_; exact rtwo_ca w lo hi l _ a b (RdE.keep h hs.chg0) hlen
  by_cases h2 : twoV l a b = 0
  · have hl := (two_iff.1 h2).1
    have hll := hl.len
    rw [h2]
    (refine ql_pure tabOk rfl rfl (q_nil (q_seq (q_region (ql_pure tabOk rfl rfl (ql_neqF tabOk rfl rfl rfl (by omega) (q_nil (q_cond_false rfl (q_skip (q_seq (q_seq (q_region ?_))))))))))); refine ql_pure tabOk rfl rfl (q_nil (q_block ?_)))
    refine q_loop (σ := Nat) (fun i => i ≤ c.length ∧ (c.take i).all (fun i => inB i 0 (l.runs.length - 1)) = true) (fun i => c.length - i) (fun i => [(1, .int .i64 a), (2, .int .i64 b), (3, .slice ua c.length uc), (4, .pointer (some ⟨b4, 0, none⟩)), (11, .int .i64 i)]) (fun _ => [.pt b4 (lbC l (.slice va l.runs.length vc)) 70]) 0 ⟨by omega, by simp⟩ ⟨rfl, rfl, rfl, rfl, rfl, trivial⟩ (by repeat constructor) ?_
    rintro i ⟨hi1, hall⟩ K hK
    (refine q_seq (q_seq (q_region ?_)); (iterate 4 refine ql_pure tabOk rfl rfl ?_); refine q_nil ?_)
    refine q_if rfl (fun hc => ?_) (fun hc => ?_)
    · have hi2 : i < c.length := by omega
      clear hc
      obtain ⟨ub, uo, hab⟩ := hsu (by omega)
      cases hab
      (refine q_skip (q_seq (q_block (q_seq ?_))))
      refine q_draw _ [] (Sp.refl _) (by kernel_rfl) (by kernel_rfl) ?_
      (refine qf_pure tabOk rfl rfl rfl (qf_pure tabOk rfl rfl rfl ?_))
      (refine qf_index tabOk rfl rfl rfl rfl rfl (by omega) (by omega) ?_; refine qf_load1 tabOk rfl rfl rfl (fun w hs => RdI.at (RdE.keep hu hs.chg0) i hi2) ?_)
      (refine qf_pure tabOk rfl rfl rfl ?_; refine qf_loadBa tabOk rfl rfl rfl ?_; refine qf_pure tabOk rfl rfl rfl (qf_ar tabOk rfl rfl rfl rfl (by omega) (by omega) ?_))
      refine qf_callv (val := .bool (!(inB c[i] 0 (l.runs.length - 1)))) tabOk rfl rfl rfl rfl (fun w hs => ?_) ?_; exact out_ca c[i] 0 (l.runs.length - 1) w
      cases hx : inB c[i] 0 (l.runs.length - 1) with
      | false =>
        (refine qf_nil (q_cond_true rfl (q_seq (q_region (ql_pure tabOk rfl rfl (ql_pure tabOk rfl rfl (q_nil (q_ret ?_))))))))
        refine q_fin tabOk rfl (by repeat constructor) fun w hs => ?_
        have hbad : (c.all fun i => inB i 0 (l.runs.length - 1)) = false := all_stop _ _ hi2 hx
        exact ⟨by rw [chain_un h2 hbad]; rfl, hs.chg0⟩
      | true =>
        (refine qf_nil (q_cond_false rfl (q_skip (q_blk (q_region (ql_pure tabOk rfl rfl (ql_ar tabOk rfl rfl rfl rfl (by omega) (by omega) (ql_pure tabOk rfl rfl (q_nil ?_)))))))))
        exact hK (i + 1) _ _ ⟨by omega, all_take _ _ hi2 hall hx⟩ (by omega) ⟨rfl, rfl, rfl, rfl, rfl, trivial⟩ (Sp.refl _)
    · obtain rfl : i = c.length := by omega
      rw [List.take_length] at hall
      clear hc hK hi1
      have hcv := chainV_eq (a := a) (b := b) h2 hall
      have hrc : ∀ j ∈ c, 0 ≤ j ∧ j < l.runs.length := fun j hj => by
        have := inB_iff.1 (List.all_eq_true.1 hall j hj)
        omega
      (refine q_exit _ rfl (q_seq (q_seq (q_region (ql_pure tabOk rfl rfl (q_nil (q_block ?_)))))))
      refine q_loop (σ := Nat) (fun i => CI l a b c i) (fun i => c.length - i) (fun i => [(1, .int .i64 a), (2, .int .i64 b), (3, .slice ua c.length uc), (4, .pointer (some ⟨b4, 0, none⟩)), (12, .int .i64 i)]) (fun _ => [.pt b4 (lbC l (.slice va l.runs.length vc)) 70]) 0 (CI.start l a b c) ⟨rfl, rfl, rfl, rfl, rfl, trivial⟩ (Sp.refl _) ?_
      rintro i hI K hK
      have hile := hI.le
      (refine q_seq (q_seq (q_region ?_)); (iterate 4 refine ql_pure tabOk rfl rfl ?_); refine q_nil ?_)
      refine q_if rfl (fun hc => ?_) (fun hc => ?_)
      · have hi2 : i < c.length := by omega
        clear hc
        obtain ⟨ub, uo, hab⟩ := hsu (by omega)
        cases hab
        have hm := hrc _ (List.getElem_mem hi2)
        (refine q_skip (q_seq (q_block (q_seq ?_))))
        refine q_draw _ [] (Sp.refl _) (by kernel_rfl) (by kernel_rfl) ?_
        (refine qf_loadABa tabOk rfl rfl rfl ?_; refine qf_pure tabOk rfl rfl rfl (qf_pure tabOk rfl rfl rfl ?_))
        (refine qf_index tabOk rfl rfl rfl rfl rfl (by omega) (by omega) ?_; refine qf_load1 tabOk rfl rfl rfl (fun w hs => RdI.at (RdE.keep hu hs.chg0) i hi2) ?_)
        rw [getD_at hi2] at hm ⊢
        refine qf_callv (val := .tuple #[.int .i64 (rqL l (c.getD i 0)).1, .int .i64 (rqL l (c.getD i 0)).2]) tabOk rfl rfl rfl rfl (fun w hs => ?_) ?_; exact rshows2_ca w lo hi l _ (RdE.keep h hs.chg0) hl (c.getD i 0) hm.1 hm.2
        (refine qf_pure tabOk rfl rfl rfl (qf_ext tabOk rfl rfl rfl (qf_ext tabOk rfl rfl rfl (qf_pure tabOk rfl rfl rfl (qf_pure tabOk rfl rfl rfl (qf_nil (q_seq (q_region ?_))))))); (iterate 4 refine ql_pure tabOk rfl rfl ?_); refine q_nil (q_seq (q_seq (q_region (ql_pure tabOk rfl rfl (ql_pure tabOk rfl rfl (q_nil ?_)))))))
        have hstep := hI.step hl hi2 hrc
        have hbad := hI.bad hl hi2 hrc
        have hbad2 := hI.bad2 hl hi2 hrc
        generalize (rqL l (c.getD i 0)).1 = x1 at *
        generalize (rqL l (c.getD i 0)).2 = x2 at *
        dsimp only [List.nil_append]
        refine q_if rfl (fun hc => ?_) (fun hc => ?_)
        · obtain ⟨m, hmi⟩ : ∃ m, i = m + 1 := ⟨i - 1, by omega⟩
          have hm1 : m < c.length := by omega
          have hm2 := hrc _ (List.getElem_mem hm1)
          clear hc
          rw [if_neg (by omega), show i - 1 = m from by omega] at hstep hbad hbad2
          skip
          refine q_draw _ [] (Sp.refl _) (by kernel_rfl) (by kernel_rfl) ?_
          (refine qf_loadABa tabOk rfl rfl rfl ?_; refine qf_pure tabOk rfl rfl rfl (qf_pure tabOk rfl rfl rfl (qf_ar tabOk rfl rfl rfl rfl (by omega) (by omega) ?_)))
          rw [show (i : Int) - 1 = (m : Int) from by omega]
          (refine qf_index tabOk rfl rfl rfl rfl rfl (by omega) (by omega) ?_; refine qf_load1 tabOk rfl rfl rfl (fun w hs => RdI.at (RdE.keep hu hs.chg0) m hm1) ?_)
          rw [getD_at hm1] at hm2 ⊢
          refine qf_callv (val := .tuple #[.int .i64 (rqL l (c.getD m 0)).1, .int .i64 (rqL l (c.getD m 0)).2]) tabOk rfl rfl rfl rfl (fun w hs => ?_) ?_; exact rshows2_ca w lo hi l _ (RdE.keep h hs.chg0) hl (c.getD m 0) hm2.1 hm2.2
          (refine qf_pure tabOk rfl rfl rfl (qf_ext tabOk rfl rfl rfl (qf_ext tabOk rfl rfl rfl (qf_pure tabOk rfl rfl rfl (qf_nil (q_seq (q_seq (q_region ?_))))))); (iterate 3 refine ql_pure tabOk rfl rfl ?_); refine ql_ar tabOk rfl rfl rfl rfl (by omega) (by omega) (ql_pure tabOk rfl rfl (q_nil ?_)))
          generalize (rqL l (c.getD m 0)).2 = y at *
          have hy : y = y := rfl
          dsimp only [List.nil_append]
          skip
          refine q_if rfl (fun hc => ?_) (fun hc => ?_)
          · have hn2 : i + 1 < c.length := by omega
            clear hc
            have hm2 := hrc _ (List.getElem_mem hn2)
            rw [if_pos hn2] at hstep hbad2
            skip
            refine q_draw _ [] (Sp.refl _) (by kernel_rfl) (by kernel_rfl) ?_
            (refine qf_loadABa tabOk rfl rfl rfl ?_; refine qf_pure tabOk rfl rfl rfl (qf_pure tabOk rfl rfl rfl (qf_ar tabOk rfl rfl rfl rfl (by omega) (by omega) ?_)))
            (refine qf_index tabOk rfl rfl rfl rfl rfl (by omega) (by omega) ?_; refine qf_load1 tabOk rfl rfl rfl (fun w hs => RdI.at (RdE.keep hu hs.chg0) (i + 1) hn2) ?_)
            rw [getD_at hn2] at hm2 ⊢
            refine qf_callv (val := .tuple #[.int .i64 (rqL l (c.getD (i + 1) 0)).1, .int .i64 (rqL l (c.getD (i + 1) 0)).2]) tabOk rfl rfl rfl rfl (fun w hs => ?_) ?_; exact rshows2_ca w lo hi l _ (RdE.keep h hs.chg0) hl (c.getD (i + 1) 0) hm2.1 hm2.2
            (refine qf_pure tabOk rfl rfl rfl (qf_ext tabOk rfl rfl rfl (qf_ext tabOk rfl rfl rfl (qf_pure tabOk rfl rfl rfl (qf_nil (q_seq ?_))))))
            generalize (rqL l (c.getD (i + 1) 0)).1 = z at *
            have hz : z = z := rfl
            dsimp only [List.nil_append]
            by_cases g1 : x1 < 0
            · (refine q_region (ql_pure tabOk rfl rfl (ql_lssT tabOk rfl rfl rfl (by omega) (ql_pure tabOk rfl rfl ?_))); (iterate 3 refine ql_gno rfl rfl rfl ?_); refine ql_pure tabOk rfl rfl (ql_pure tabOk rfl rfl ?_); (iterate 3 refine ql_gno rfl rfl rfl ?_); refine ql_pure tabOk rfl rfl (q_nil (q_cond_true rfl (q_seq (q_region (ql_pure tabOk rfl rfl (ql_pure tabOk rfl rfl (q_nil (q_ret ?_)))))))))
              refine q_fin tabOk rfl (by repeat constructor) fun w hs => ?_
              exact ⟨by rw [hcv, hbad (fun h => by omega)]; rfl, hs.chg0⟩
            · by_cases g2 : x1 = y
              · by_cases g3 : x2 = z
                · (refine q_region (ql_pure tabOk rfl rfl (ql_lssF tabOk rfl rfl rfl (by omega) (ql_pure tabOk rfl rfl (ql_gyes rfl (ql_pure tabOk rfl rfl (ql_gyes rfl (ql_pure tabOk rfl rfl (ql_gyes rfl (ql_neqF tabOk rfl rfl rfl (by omega) (ql_pure tabOk rfl rfl (ql_pure tabOk rfl rfl ?_))))))))))); refine ql_gyes rfl (ql_pure tabOk rfl rfl (ql_gyes rfl (ql_pure tabOk rfl rfl (ql_gyes rfl (ql_neqF tabOk rfl rfl rfl (by omega) (ql_pure tabOk rfl rfl (q_nil (q_cond_false rfl (q_skip (q_blk (q_region ?_))))))))))); refine ql_pure tabOk rfl rfl (ql_ar tabOk rfl rfl rfl rfl (by omega) (by omega) (ql_pure tabOk rfl rfl (q_nil ?_))))
                  exact hK (i + 1) _ _ (hstep (by omega) (g2.trans hy) (g3.trans hz)) (by omega) ⟨rfl, rfl, rfl, rfl, rfl, trivial⟩ (Sp.refl _)
                · (refine q_region (ql_pure tabOk rfl rfl (ql_lssF tabOk rfl rfl rfl (by omega) (ql_pure tabOk rfl rfl (ql_gyes rfl (ql_pure tabOk rfl rfl (ql_gyes rfl (ql_pure tabOk rfl rfl (ql_gyes rfl (ql_neqF tabOk rfl rfl rfl (by omega) (ql_pure tabOk rfl rfl (ql_pure tabOk rfl rfl ?_))))))))))); refine ql_gyes rfl (ql_pure tabOk rfl rfl (ql_gyes rfl (ql_pure tabOk rfl rfl (ql_gyes rfl (ql_neqT tabOk rfl rfl rfl (by omega) (ql_pure tabOk rfl rfl (q_nil (q_cond_true rfl (q_seq (q_region (ql_pure tabOk rfl rfl ?_))))))))))); refine ql_pure tabOk rfl rfl (q_nil (q_ret ?_)))
                  refine q_fin tabOk rfl (by repeat constructor) fun w hs => ?_
                  exact ⟨by rw [hcv, hbad2 (by omega) (g2.trans hy) (fun h => g3 (h.trans hz.symm))]; rfl, hs.chg0⟩
              · (refine q_region (ql_pure tabOk rfl rfl (ql_lssF tabOk rfl rfl rfl (by omega) (ql_pure tabOk rfl rfl (ql_gyes rfl (ql_pure tabOk rfl rfl (ql_gyes rfl (ql_pure tabOk rfl rfl (ql_gyes rfl (ql_neqT tabOk rfl rfl rfl (by omega) (ql_pure tabOk rfl rfl (ql_pure tabOk rfl rfl ?_))))))))))); (iterate 3 refine ql_gno rfl rfl rfl ?_); refine ql_pure tabOk rfl rfl (q_nil (q_cond_true rfl (q_seq (q_region (ql_pure tabOk rfl rfl (ql_pure tabOk rfl rfl (q_nil (q_ret ?_)))))))))
                refine q_fin tabOk rfl (by repeat constructor) fun w hs => ?_
                exact ⟨by rw [hcv, hbad (fun h => g2 (h.2.trans hy.symm))]; rfl, hs.chg0⟩
          · rw [if_neg (by omega)] at hstep hbad2
            obtain ⟨z, hz⟩ : ∃ z, z = b := ⟨b, rfl⟩
            by_cases g1 : x1 < 0
            · (refine q_skip (q_seq (q_region (ql_pure tabOk rfl rfl (ql_lssT tabOk rfl rfl rfl (by omega) (ql_pure tabOk rfl rfl ?_))))); (iterate 3 refine ql_gno rfl rfl rfl ?_); refine ql_pure tabOk rfl rfl (ql_pure tabOk rfl rfl ?_); (iterate 3 refine ql_gno rfl rfl rfl ?_); refine ql_pure tabOk rfl rfl (q_nil (q_cond_true rfl (q_seq (q_region (ql_pure tabOk rfl rfl (ql_pure tabOk rfl rfl (q_nil (q_ret ?_)))))))))
              refine q_fin tabOk rfl (by repeat constructor) fun w hs => ?_
              exact ⟨by rw [hcv, hbad (fun h => by omega)]; rfl, hs.chg0⟩
            · by_cases g2 : x1 = y
              · by_cases g3 : x2 = z
                · (refine q_skip (q_seq (q_region (ql_pure tabOk rfl rfl (ql_lssF tabOk rfl rfl rfl (by omega) (ql_pure tabOk rfl rfl (ql_gyes rfl (ql_pure tabOk rfl rfl (ql_gyes rfl (ql_pure tabOk rfl rfl (ql_gyes rfl (ql_neqF tabOk rfl rfl rfl (by omega) ?_))))))))))); refine ql_pure tabOk rfl rfl (ql_pure tabOk rfl rfl (ql_gyes rfl (ql_pure tabOk rfl rfl (ql_gyes rfl (ql_pure tabOk rfl rfl (ql_gyes rfl (ql_neqF tabOk rfl rfl rfl (by omega) (ql_pure tabOk rfl rfl (q_nil (q_cond_false rfl (q_skip ?_))))))))))); refine q_blk (q_region (ql_pure tabOk rfl rfl (ql_ar tabOk rfl rfl rfl rfl (by omega) (by omega) (ql_pure tabOk rfl rfl (q_nil ?_))))))
                  exact hK (i + 1) _ _ (hstep (by omega) (g2.trans hy) (g3.trans hz)) (by omega) ⟨rfl, rfl, rfl, rfl, rfl, trivial⟩ (Sp.refl _)
                · (refine q_skip (q_seq (q_region (ql_pure tabOk rfl rfl (ql_lssF tabOk rfl rfl rfl (by omega) (ql_pure tabOk rfl rfl (ql_gyes rfl (ql_pure tabOk rfl rfl (ql_gyes rfl (ql_pure tabOk rfl rfl (ql_gyes rfl (ql_neqF tabOk rfl rfl rfl (by omega) ?_))))))))))); refine ql_pure tabOk rfl rfl (ql_pure tabOk rfl rfl (ql_gyes rfl (ql_pure tabOk rfl rfl (ql_gyes rfl (ql_pure tabOk rfl rfl (ql_gyes rfl (ql_neqT tabOk rfl rfl rfl (by omega) (ql_pure tabOk rfl rfl (q_nil (q_cond_true rfl (q_seq ?_))))))))))); refine q_region (ql_pure tabOk rfl rfl (ql_pure tabOk rfl rfl (q_nil (q_ret ?_)))))
                  refine q_fin tabOk rfl (by repeat constructor) fun w hs => ?_
                  exact ⟨by rw [hcv, hbad2 (by omega) (g2.trans hy) (fun h => g3 (h.trans hz.symm))]; rfl, hs.chg0⟩
              · (refine q_skip (q_seq (q_region (ql_pure tabOk rfl rfl (ql_lssF tabOk rfl rfl rfl (by omega) (ql_pure tabOk rfl rfl (ql_gyes rfl (ql_pure tabOk rfl rfl (ql_gyes rfl (ql_pure tabOk rfl rfl (ql_gyes rfl (ql_neqT tabOk rfl rfl rfl (by omega) ?_))))))))))); refine ql_pure tabOk rfl rfl (ql_pure tabOk rfl rfl ?_); (iterate 3 refine ql_gno rfl rfl rfl ?_); refine ql_pure tabOk rfl rfl (q_nil (q_cond_true rfl (q_seq (q_region (ql_pure tabOk rfl rfl (ql_pure tabOk rfl rfl (q_nil (q_ret ?_)))))))))
                refine q_fin tabOk rfl (by repeat constructor) fun w hs => ?_
                exact ⟨by rw [hcv, hbad (fun h => g2 (h.2.trans hy.symm))]; rfl, hs.chg0⟩
        · have hi0 : i = 0 := by omega
          clear hc
          rw [if_pos hi0] at hstep hbad hbad2
          obtain ⟨y, hy⟩ : ∃ y, y = a := ⟨a, rfl⟩
          (refine q_skip (q_seq (q_seq (q_region ?_))); (iterate 3 refine ql_pure tabOk rfl rfl ?_); refine ql_ar tabOk rfl rfl rfl rfl (by omega) (by omega) (ql_pure tabOk rfl rfl (q_nil ?_)))
          refine q_if rfl (fun hc => ?_) (fun hc => ?_)
          · have hn2 : i + 1 < c.length := by omega
            clear hc
            have hm2 := hrc _ (List.getElem_mem hn2)
            rw [if_pos hn2] at hstep hbad2
            skip
            refine q_draw _ [] (Sp.refl _) (by kernel_rfl) (by kernel_rfl) ?_
            (refine qf_loadABa tabOk rfl rfl rfl ?_; refine qf_pure tabOk rfl rfl rfl (qf_pure tabOk rfl rfl rfl (qf_ar tabOk rfl rfl rfl rfl (by omega) (by omega) ?_)))
            (refine qf_index tabOk rfl rfl rfl rfl rfl (by omega) (by omega) ?_; refine qf_load1 tabOk rfl rfl rfl (fun w hs => RdI.at (RdE.keep hu hs.chg0) (i + 1) hn2) ?_)
            rw [getD_at hn2] at hm2 ⊢
            refine qf_callv (val := .tuple #[.int .i64 (rqL l (c.getD (i + 1) 0)).1, .int .i64 (rqL l (c.getD (i + 1) 0)).2]) tabOk rfl rfl rfl rfl (fun w hs => ?_) ?_; exact rshows2_ca w lo hi l _ (RdE.keep h hs.chg0) hl (c.getD (i + 1) 0) hm2.1 hm2.2
            (refine qf_pure tabOk rfl rfl rfl (qf_ext tabOk rfl rfl rfl (qf_ext tabOk rfl rfl rfl (qf_pure tabOk rfl rfl rfl (qf_nil (q_seq ?_))))))
            generalize (rqL l (c.getD (i + 1) 0)).1 = z at *
            have hz : z = z := rfl
            dsimp only [List.nil_append]
            by_cases g1 : x1 < 0
            · (refine q_region (ql_pure tabOk rfl rfl (ql_lssT tabOk rfl rfl rfl (by omega) (ql_pure tabOk rfl rfl ?_))); (iterate 3 refine ql_gno rfl rfl rfl ?_); refine ql_pure tabOk rfl rfl (ql_pure tabOk rfl rfl ?_); (iterate 3 refine ql_gno rfl rfl rfl ?_); refine ql_pure tabOk rfl rfl (q_nil (q_cond_true rfl (q_seq (q_region (ql_pure tabOk rfl rfl (ql_pure tabOk rfl rfl (q_nil (q_ret ?_)))))))))
              refine q_fin tabOk rfl (by repeat constructor) fun w hs => ?_
              exact ⟨by rw [hcv, hbad (fun h => by omega)]; rfl, hs.chg0⟩
            · by_cases g2 : x1 = y
              · by_cases g3 : x2 = z
                · (refine q_region (ql_pure tabOk rfl rfl (ql_lssF tabOk rfl rfl rfl (by omega) (ql_pure tabOk rfl rfl (ql_gyes rfl (ql_pure tabOk rfl rfl (ql_gyes rfl (ql_pure tabOk rfl rfl (ql_gyes rfl (ql_neqF tabOk rfl rfl rfl (by omega) (ql_pure tabOk rfl rfl (ql_pure tabOk rfl rfl ?_))))))))))); refine ql_gyes rfl (ql_pure tabOk rfl rfl (ql_gyes rfl (ql_pure tabOk rfl rfl (ql_gyes rfl (ql_neqF tabOk rfl rfl rfl (by omega) (ql_pure tabOk rfl rfl (q_nil (q_cond_false rfl (q_skip (q_blk (q_region ?_))))))))))); refine ql_pure tabOk rfl rfl (ql_ar tabOk rfl rfl rfl rfl (by omega) (by omega) (ql_pure tabOk rfl rfl (q_nil ?_))))
                  exact hK (i + 1) _ _ (hstep (by omega) (g2.trans hy) (g3.trans hz)) (by omega) ⟨rfl, rfl, rfl, rfl, rfl, trivial⟩ (Sp.refl _)
                · (refine q_region (ql_pure tabOk rfl rfl (ql_lssF tabOk rfl rfl rfl (by omega) (ql_pure tabOk rfl rfl (ql_gyes rfl (ql_pure tabOk rfl rfl (ql_gyes rfl (ql_pure tabOk rfl rfl (ql_gyes rfl (ql_neqF tabOk rfl rfl rfl (by omega) (ql_pure tabOk rfl rfl (ql_pure tabOk rfl rfl ?_))))))))))); refine ql_gyes rfl (ql_pure tabOk rfl rfl (ql_gyes rfl (ql_pure tabOk rfl rfl (ql_gyes rfl (ql_neqT tabOk rfl rfl rfl (by omega) (ql_pure tabOk rfl rfl (q_nil (q_cond_true rfl (q_seq (q_region (ql_pure tabOk rfl rfl ?_))))))))))); refine ql_pure tabOk rfl rfl (q_nil (q_ret ?_)))
                  refine q_fin tabOk rfl (by repeat constructor) fun w hs => ?_
                  exact ⟨by rw [hcv, hbad2 (by omega) (g2.trans hy) (fun h => g3 (h.trans hz.symm))]; rfl, hs.chg0⟩
              · (refine q_region (ql_pure tabOk rfl rfl (ql_lssF tabOk rfl rfl rfl (by omega) (ql_pure tabOk rfl rfl (ql_gyes rfl (ql_pure tabOk rfl rfl (ql_gyes rfl (ql_pure tabOk rfl rfl (ql_gyes rfl (ql_neqT tabOk rfl rfl rfl (by omega) (ql_pure tabOk rfl rfl (ql_pure tabOk rfl rfl ?_))))))))))); (iterate 3 refine ql_gno rfl rfl rfl ?_); refine ql_pure tabOk rfl rfl (q_nil (q_cond_true rfl (q_seq (q_region (ql_pure tabOk rfl rfl (ql_pure tabOk rfl rfl (q_nil (q_ret ?_)))))))))
                refine q_fin tabOk rfl (by repeat constructor) fun w hs => ?_
                exact ⟨by rw [hcv, hbad (fun h => g2 (h.2.trans hy.symm))]; rfl, hs.chg0⟩
          · rw [if_neg (by omega)] at hstep hbad2
            obtain ⟨z, hz⟩ : ∃ z, z = b := ⟨b, rfl⟩
            by_cases g1 : x1 < 0
            · (refine q_skip (q_seq (q_region (ql_pure tabOk rfl rfl (ql_lssT tabOk rfl rfl rfl (by omega) (ql_pure tabOk rfl rfl ?_))))); (iterate 3 refine ql_gno rfl rfl rfl ?_); refine ql_pure tabOk rfl rfl (ql_pure tabOk rfl rfl ?_); (iterate 3 refine ql_gno rfl rfl rfl ?_); refine ql_pure tabOk rfl rfl (q_nil (q_cond_true rfl (q_seq (q_region (ql_pure tabOk rfl rfl (ql_pure tabOk rfl rfl (q_nil (q_ret ?_)))))))))
              refine q_fin tabOk rfl (by repeat constructor) fun w hs => ?_
              exact ⟨by rw [hcv, hbad (fun h => by omega)]; rfl, hs.chg0⟩
            · by_cases g2 : x1 = y
              · by_cases g3 : x2 = z
                · (refine q_skip (q_seq (q_region (ql_pure tabOk rfl rfl (ql_lssF tabOk rfl rfl rfl (by omega) (ql_pure tabOk rfl rfl (ql_gyes rfl (ql_pure tabOk rfl rfl (ql_gyes rfl (ql_pure tabOk rfl rfl (ql_gyes rfl (ql_neqF tabOk rfl rfl rfl (by omega) ?_))))))))))); refine ql_pure tabOk rfl rfl (ql_pure tabOk rfl rfl (ql_gyes rfl (ql_pure tabOk rfl rfl (ql_gyes rfl (ql_pure tabOk rfl rfl (ql_gyes rfl (ql_neqF tabOk rfl rfl rfl (by omega) (ql_pure tabOk rfl rfl (q_nil (q_cond_false rfl (q_skip ?_))))))))))); refine q_blk (q_region (ql_pure tabOk rfl rfl (ql_ar tabOk rfl rfl rfl rfl (by omega) (by omega) (ql_pure tabOk rfl rfl (q_nil ?_))))))
                  exact hK (i + 1) _ _ (hstep (by omega) (g2.trans hy) (g3.trans hz)) (by omega) ⟨rfl, rfl, rfl, rfl, rfl, trivial⟩ (Sp.refl _)
                · (refine q_skip (q_seq (q_region (ql_pure tabOk rfl rfl (ql_lssF tabOk rfl rfl rfl (by omega) (ql_pure tabOk rfl rfl (ql_gyes rfl (ql_pure tabOk rfl rfl (ql_gyes rfl (ql_pure tabOk rfl rfl (ql_gyes rfl (ql_neqF tabOk rfl rfl rfl (by omega) ?_))))))))))); refine ql_pure tabOk rfl rfl (ql_pure tabOk rfl rfl (ql_gyes rfl (ql_pure tabOk rfl rfl (ql_gyes rfl (ql_pure tabOk rfl rfl (ql_gyes rfl (ql_neqT tabOk rfl rfl rfl (by omega) (ql_pure tabOk rfl rfl (q_nil (q_cond_true rfl (q_seq ?_))))))))))); refine q_region (ql_pure tabOk rfl rfl (ql_pure tabOk rfl rfl (q_nil (q_ret ?_)))))
                  refine q_fin tabOk rfl (by repeat constructor) fun w hs => ?_
                  exact ⟨by rw [hcv, hbad2 (by omega) (g2.trans hy) (fun h => g3 (h.trans hz.symm))]; rfl, hs.chg0⟩
              · (refine q_skip (q_seq (q_region (ql_pure tabOk rfl rfl (ql_lssF tabOk rfl rfl rfl (by omega) (ql_pure tabOk rfl rfl (ql_gyes rfl (ql_pure tabOk rfl rfl (ql_gyes rfl (ql_pure tabOk rfl rfl (ql_gyes rfl (ql_neqT tabOk rfl rfl rfl (by omega) ?_))))))))))); refine ql_pure tabOk rfl rfl (ql_pure tabOk rfl rfl ?_); (iterate 3 refine ql_gno rfl rfl rfl ?_); refine ql_pure tabOk rfl rfl (q_nil (q_cond_true rfl (q_seq (q_region (ql_pure tabOk rfl rfl (ql_pure tabOk rfl rfl (q_nil (q_ret ?_)))))))))
                refine q_fin tabOk rfl (by repeat constructor) fun w hs => ?_
                exact ⟨by rw [hcv, hbad (fun h => g2 (h.2.trans hy.symm))]; rfl, hs.chg0⟩
      · obtain rfl : i = c.length := by omega
        have he := hI.end
        (refine q_exit _ rfl (q_seq (q_region ?_)); (iterate 5 refine ql_pure tabOk rfl rfl ?_); refine q_nil (q_ret ?_))
        refine q_fin tabOk rfl (by repeat constructor) fun w hs => ?_
        refine ⟨?_, hs.chg0⟩
        rw [hcv, he]
        simp [retV]
  · (refine ql_pure tabOk rfl rfl (q_nil (q_seq (q_region (ql_pure tabOk rfl rfl (ql_neqT tabOk rfl rfl rfl (by omega) (q_nil (q_cond_true rfl (q_seq (q_region ?_))))))))); (iterate 3 refine ql_pure tabOk rfl rfl ?_); refine q_nil (q_ret ?_))
    refine q_fin tabOk rfl (by repeat constructor) fun w hs => ?_
    exact ⟨by rw [chain_no h2]; rfl, hs.chg0⟩
end Go.Proofs.Ytcmpdmobmbbplaa

/- Walks: the shortest chain, or the error. -/
namespace Go.Proofs.Ytcmpdmobmbbplaa
open Go Go.Eng

/-- What comes of asking for a chain. -/
def ChR (l : Lb) (a b : Int) (c : List Int) (e : Int) : Prop := (twoV l a b ≠ 0 ∧ c = [] ∧ e = twoV l a b) ∨ (twoV l a b = 0 ∧ NoCh l a.toNat b.toNat ∧ c = [] ∧ e = 6) ∨ (twoV l a b = 0 ∧ Short l a.toNat b.toNat c ∧ e = 0)
theorem chain0_ca (w : World) (lo hi : Nat) (l : Lb) (v : Value) (a b : Int) (h : RdR w lo hi v l.runs) (hlen : l.runs.length ≤ maxLen) :
    Ca Try.prog 38 [.agg (lbC l v).toArray, .int .i64 a, .int .i64 b] w fun x w' => ∃ y : Value × List Int × Int, (x = .tuple #[y.1, .int .i64 y.2.2] ∧ ChR l a b y.2.1 y.2.2) ∧ Sat w M0 [.ow y.1 3 1 y.2.1.length (ints y.2.1)] w' := by
  refine q_of (Sat.nil w M0) Try.func38 rfl (by simp [Try.ntmps38]) ?_
  (refine q_seq (q_region ?_))
  refine ql_box rfl rfl (fun b3 => ?_)
  rw [agg_cells]
  (refine ql_pure tabOk rfl rfl (ql_pure tabOk rfl rfl (q_nil (q_seq (q_region ?_)))); refine ql_loadABa tabOk rfl rfl rfl ?_; refine ql_pure tabOk rfl rfl (ql_pure tabOk rfl rfl ?_))
  by_cases h2 : twoV l a b = 0
  · obtain ⟨hl, ha, hb⟩ := two_iff.1 h2
    have s1 := hl.s1
    have a1 := inB_iff.1 ha
    have b1 := inB_iff.1 hb
    refine ql_call (β := Nat) tabOk [] _ M0 rfl rfl rfl rfl (Sp.refl _) (fun _ h => h.elim) (fun w' hs => two_ok w' lo hi l v a b (RdE.keep h hs.chg0) h2) ?_
    rintro d _ rfl
    dsimp only [List.cons_append, List.nil_append]
    (refine ql_pure tabOk rfl rfl (ql_ext tabOk rfl rfl rfl (ql_ext tabOk rfl rfl rfl (ql_pure tabOk rfl rfl (ql_pure tabOk rfl rfl (q_nil (q_seq (q_seq (q_region (ql_pure tabOk rfl rfl (ql_neqF tabOk rfl rfl rfl (by omega) (q_nil ?_))))))))))); refine q_cond_false rfl (q_skip (q_seq (q_seq (q_region ?_)))); (iterate 3 refine ql_pure tabOk rfl rfl ?_))
    refine ql_call (β := Option (Nat × Nat × List Int)) (ψ := fun o x => match o with | none => x = .slice none 0 0 ∧ NoCh l a.toNat b.toNat | some y => x = .slice (some ⟨y.1, 0, none⟩) y.2.2.length y.2.1 ∧ Short l a.toNat b.toNat y.2.2) (L' := fun o => match o with | none => [] | some y => [.ow (.slice (some ⟨y.1, 0, none⟩) y.2.2.length y.2.1) 3 1 y.2.2.length (ints y.2.2)]) tabOk [] _ M0 rfl rfl rfl rfl (Sp.refl _) (fun _ h => h.elim) (fun w' hs => by
      have hch := chain_ca w' d lo hi l v l.ord 136 (hs.blk (by repeat constructor)) (RdE.keep h hs.chg0) hl a.toNat b.toNat (by omega) (by omega)
      rw [Int.toNat_of_nonneg a1.1, Int.toNat_of_nonneg b1.1] at hch
      refine hch.mono fun x w2 hx => ?_
      rcases hx with ⟨g1, g2, g3⟩ | ⟨g, cp, c, g1, g2, g3⟩
      · exact ⟨none, ⟨g1, g2⟩, (Sat.nil w' M0).keep g3⟩
      · exact ⟨some (g, cp, c), ⟨g1, g2⟩, by rw [g1] at g3; exact g3⟩) ?_
    rintro o x hox
    cases o with
    | none =>
      obtain ⟨rfl, hno⟩ := hox
      dsimp only [List.nil_append]
      (refine ql_pure tabOk rfl rfl (q_nil (q_seq (q_region (ql_pure tabOk rfl rfl ?_)))))
      refine ql_neqnil tabOk rfl rfl rfl rfl ?_
      (refine q_nil (q_cond_false rfl (q_skip (q_seq (q_region (ql_pure tabOk rfl rfl (ql_pure tabOk rfl rfl (q_nil (q_ret ?_)))))))))
      refine q_fin tabOk rfl (by repeat constructor) fun w hs => ?_
      exact ⟨(.slice none 0 0, [], 6), ⟨rfl, .inr (.inl ⟨h2, hno, rfl, rfl⟩)⟩, Sat.ownil (hs.sp (by repeat constructor)) _ _⟩
    | some y =>
      obtain ⟨g, cp, c⟩ := y
      obtain ⟨rfl, hsh⟩ := hox
      dsimp only [List.nil_append, List.cons_append]
      (refine ql_pure tabOk rfl rfl (q_nil (q_seq (q_region (ql_pure tabOk rfl rfl ?_)))))
      refine ql_neqnil tabOk rfl rfl rfl rfl ?_
      (refine q_nil (q_cond_true rfl (q_seq (q_region ?_))); (iterate 3 refine ql_pure tabOk rfl rfl ?_); refine q_nil (q_ret ?_))
      refine q_fin tabOk rfl (by repeat constructor) fun w hs => ?_
      exact ⟨(.slice (some ⟨g, 0, none⟩) c.length cp, c, 0), ⟨rfl, .inr (.inr ⟨h2, hsh, rfl⟩)⟩, hs.sp (by repeat constructor)⟩
  · refine ql_call (β := Option Addr) tabOk [] _ M0 rfl rfl rfl rfl (Sp.refl _) (fun _ h => h.elim) (fun w' hs => two_no w' lo hi l v a b (RdE.keep h hs.chg0) hlen h2) ?_
    rintro p _ rfl
    dsimp only [List.cons_append, List.nil_append]
    (refine ql_pure tabOk rfl rfl (ql_ext tabOk rfl rfl rfl (ql_ext tabOk rfl rfl rfl (ql_pure tabOk rfl rfl (ql_pure tabOk rfl rfl (q_nil (q_seq (q_seq (q_region (ql_pure tabOk rfl rfl (ql_neqT tabOk rfl rfl rfl (by omega) (q_nil ?_))))))))))); refine q_cond_true rfl (q_seq (q_region ?_)); (iterate 3 refine ql_pure tabOk rfl rfl ?_); refine q_nil (q_ret ?_))
    refine q_fin tabOk rfl (by repeat constructor) fun w hs => ?_
    exact ⟨(.slice none 0 0, [], twoV l a b), ⟨rfl, .inl ⟨h2, rfl, rfl⟩⟩, Sat.ownil (hs.sp (by repeat constructor)) _ _⟩
end Go.Proofs.Ytcmpdmobmbbplaa

/- Walks: a lab of the reference; labs compared. -/
namespace Go.Proofs.Ytcmpdmobmbbplaa
open Go Go.Eng

theorem slRr : SlT Try.prog 68 160 3 24 (.agg #[.int .i64 0, .int .i64 0, .int .i64 0]) := ⟨by kernel_rfl, by kernel_rfl, rfl, by omega⟩
theorem rlab_ca (w : World) (lo hi : Nat) (l : Lb) (v : Value) (h : RdR w lo hi v l.runs) (hlen : l.runs.length ≤ 1000) : Ca Try.prog 30 [.agg (lbC l v).toArray] w fun x w' => ∃ u : Value, x = .agg (lbC l u).toArray ∧ Sat w M0 [.ow u 160 3 l.runs.length (rnC l.runs)] w' := by
  obtain ⟨a, c, rfl, ha⟩ := RdR.outI h
  refine q_of (Sat.nil w M0) Try.func30 rfl (by simp [Try.ntmps30]) ?_
  (refine q_seq (q_region ?_))
  refine ql_box rfl rfl (fun b1 => ?_)
  rw [agg_cells]
  skip
  refine ql_alloc zero70 rfl (fun b2 => ?_)
  (refine q_nil (q_seq (q_region (ql_pure tabOk rfl rfl ?_))); refine ql_loadBa tabOk rfl rfl rfl ?_; refine ql_pure tabOk rfl rfl ?_; refine ql_loadBa tabOk rfl rfl rfl ?_)
  refine ql_mk #[.int .i64 l.skis, .int .i64 l.err, .slice none 0 0] rfl (by kernel_rfl) rfl ?_
  skip
  refine ql_alloc zero70 rfl (fun b3 => ?_)
  (refine ql_setA tabOk rfl rfl rfl rfl rfl (by repeat constructor) rfl ?_; refine q_nil (q_seq (q_seq (q_region (ql_pure tabOk rfl rfl ?_)))); refine ql_loadBa tabOk rfl rfl rfl ?_; refine ql_pure tabOk rfl rfl (ql_pure tabOk rfl rfl (q_nil (q_block ?_))))
  refine q_conv (H' := [.ow (.slice none 0 0) 160 3 0 (rnC (l.runs.take 0)), .pt b3 [.int .i64 l.skis, .int .i64 l.err, .slice none 0 0] 70, .pt b2 [.int .i64 0, .int .i64 0, .slice none 0 0] 70, .pt b1 (lbC l (.slice a l.runs.length c)) 25]) (fun w' hs => Sat.ownil (hs.sp (by repeat constructor)) _ _) ?_
  refine q_loop (σ := Nat × Value) (fun s => s.1 ≤ l.runs.length) (fun s => l.runs.length - s.1) (fun s => [(2, .pointer (some ⟨b2, 0, none⟩)), (3, .pointer (some ⟨b3, 0, none⟩)), (12, .slice a l.runs.length c), (13, .int .i64 l.runs.length), (14, .int .i64 s.1)])
    (fun s => [.ow s.2 160 3 s.1 (rnC (l.runs.take s.1)), .pt b3 [.int .i64 l.skis, .int .i64 l.err, s.2] 70, .pt b2 [.int .i64 0, .int .i64 0, .slice none 0 0] 70]) (0, .slice none 0 0) (by simp) ⟨rfl, rfl, rfl, rfl, rfl, trivial⟩ (by repeat constructor) ?_
  rintro ⟨i, u⟩ hi K hK
  dsimp only at hi hK ⊢
  refine q_fact (fun w hs => hs.slice2 (v := u) (by repeat constructor)) ?_
  rintro ⟨ua, uc, rfl⟩
  (refine q_seq (q_region (ql_pure tabOk rfl rfl (q_nil (q_seq ?_)))))
  refine q_if rfl (fun hc => ?_) (fun hc => ?_)
  · have hi2 : i < l.runs.length := by omega
    clear hc
    obtain ⟨b, off, hab⟩ := ha (by omega)
    cases hab
    (refine q_skip (q_seq (q_block (q_seq (q_region ?_)))))
    refine ql_index tabOk rfl rfl rfl rfl rfl (by omega) (by omega) ?_
    refine ql_loadA tabOk rfl rfl rfl rfl (fun w hs => RdR.at (RdE.keep h hs.chg0) i hi2) ?_
    skip
    refine ql_alloc zero33 rfl (fun b5 => ?_)
    (refine ql_setA tabOk rfl rfl rfl rfl rfl (by repeat constructor) rfl ?_; refine q_nil (q_region (ql_pure tabOk rfl rfl ?_)); refine ql_loadBa tabOk rfl rfl rfl ?_; refine ql_loadABa tabOk rfl rfl rfl ?_)
    refine ql_mkS 160 [.int .i64 l.runs[i].a, .int .i64 l.runs[i].b, .int .i64 l.runs[i].lead] rfl (by kernel_rfl) rfl (fun bn => ?_)
    skip
    refine ql_append (q := 1) (news := [.int .i64 l.runs[i].a, .int .i64 l.runs[i].b, .int .i64 l.runs[i].lead]) slRr rfl rfl rfl (fun v' => by repeat constructor) (fun w' hs => ⟨_, _, Blk.rdN (hs.blk (b := bn) (by repeat constructor)) rfl⟩) (by simp [oneV]) (by omega) (by omega) (fun u' => ?_)
    refine ql_fact (fun w' hs => hs.own_one (v := u') (by repeat constructor)) (fun hone => ?_)
    (refine ql_pure tabOk rfl rfl ?_)
    refine ql_store1 tabOk rfl rfl rfl hone (by repeat constructor) (by simp) ?_
    (refine q_nil (q_blk (q_region (ql_ar tabOk rfl rfl rfl rfl (by omega) (by omega) (ql_pure tabOk rfl rfl (q_nil ?_))))))
    exact hK (i + 1, u') _ _ (by dsimp only; omega) (by dsimp only; omega) ⟨rfl, rfl, rfl, rfl, rfl, trivial⟩ (by dsimp only; rw [show rnC (l.runs.take (i + 1)) = rnC (l.runs.take i) ++ [.int .i64 l.runs[i].a, .int .i64 l.runs[i].b, .int .i64 l.runs[i].lead] from by rw [← List.take_append_getElem hi2, rnC, List.flatMap_append]; rfl]; repeat constructor)
  · obtain rfl : i = l.runs.length := by omega
    rw [List.take_length]
    (refine q_exit _ rfl (q_seq (q_region ?_)); refine ql_loadABa tabOk rfl rfl rfl ?_; refine ql_setA tabOk rfl rfl rfl rfl rfl (by repeat constructor) rfl ?_; refine q_nil (q_ret ?_))
    refine q_fin tabOk rfl (by repeat constructor) fun w hs => ?_
    exact ⟨_, rfl, hs.sp (by repeat constructor)⟩
theorem same_ca (w : World) (lo hi lo2 hi2 : Nat) (l : Lb) (v u : Value) (h : RdR w lo hi v l.runs) (h2 : RdR w lo2 hi2 u l.runs) (hlen : l.runs.length ≤ 1000) : Ca Try.prog 41 [.agg (lbC l v).toArray, .agg (lbC l u).toArray] w fun x w' => x = .bool true ∧ Chg [] w w' := by
  refine q_of (Sat.nil w M0) Try.func41 rfl (by simp [Try.ntmps41]) ?_
  (refine q_seq (q_region ?_))
  refine ql_box rfl rfl (fun b2 => ?_)
  skip
  refine ql_box rfl rfl (fun b3 => ?_)
  rw [agg_cells, agg_cells]
  (refine ql_pure tabOk rfl rfl (q_nil (q_seq (q_region (ql_pure tabOk rfl rfl ?_)))); refine ql_loadBa tabOk rfl rfl rfl ?_; refine ql_pure tabOk rfl rfl ?_; refine ql_loadBa tabOk rfl rfl rfl ?_; refine ql_eqlT tabOk rfl rfl rfl (by omega) (ql_pure tabOk rfl rfl (ql_gyes rfl (ql_pure tabOk rfl rfl (ql_gyes rfl ?_)))); refine ql_loadBa tabOk rfl rfl rfl ?_; refine ql_gyes rfl (ql_pure tabOk rfl rfl (ql_gyes rfl ?_)); refine ql_loadBa tabOk rfl rfl rfl ?_; refine ql_gyes rfl (ql_eqlT tabOk rfl rfl rfl (by omega) (ql_pure tabOk rfl rfl (ql_pure tabOk rfl rfl (ql_gyes rfl (ql_pure tabOk rfl rfl (ql_gyes rfl ?_)))))); refine ql_loadBa tabOk rfl rfl rfl ?_; refine ql_gyes rfl (ql_pure tabOk rfl rfl (ql_gyes rfl ?_)); refine ql_loadBa tabOk rfl rfl rfl ?_; refine ql_gyes rfl ?_)
  refine ql_callv (val := .bool true) tabOk rfl rfl rfl rfl (fun w hs => ?_) ?_; exact eqR_ca w lo hi lo2 hi2 v u l.runs (RdE.keep h hs.chg0) (RdE.keep h2 hs.chg0) (by omega)
  (refine ql_pure tabOk rfl rfl (ql_pure tabOk rfl rfl (q_nil (q_ret ?_))))
  refine q_fin tabOk rfl (by repeat constructor) fun w hs => ?_
  exact ⟨rfl, hs.chg0⟩
end Go.Proofs.Ytcmpdmobmbbplaa

/- The walk of SkiChains. -/
namespace Go.Proofs.Ytcmpdmobmbbplaa
open Go Go.Eng

theorem short_le {l : Lb} (hl : l.Ok) {a b : Nat} {c : List Int} (h : Short l a b c) : c.length ≤ l.n := by
  obtain ⟨b', hb, hw⟩ := lead_wk hl.e0 a _ c _ rfl h.ok
  have e : b' = b := by omega
  rw [e] at hw
  obtain ⟨j, _, hd⟩ := isD_of _ (List.length_pos_iff.2 h.ne) hw
  obtain ⟨c', h4, h5⟩ := wk_lead j b hd.2.1
  have h6 := h.min c' (fun e => by rw [e] at h4; have := hd.1; simp at h4; omega) h5
  have := isD_le hl hd
  omega
/-- All pairs that Faster returns. -/
def fasA (l : Lb) : List (Int × Int) := if agreedV l = 0 then fasL l.ord l.n else []
theorem fasterA_ca (w : World) (lo hi : Nat) (l : Lb) (v : Value) (h : RdR w lo hi v l.runs) (hlen : l.runs.length ≤ maxLen) : Ca Try.prog 25 [.agg (lbC l v).toArray] w fun x w' => ∃ u : Value, x = .tuple #[u, .int .i64 (agreedV l)] ∧ Sat w M0 [.ow u 63 2 (fasA l).length (spC (fasA l))] w' := by
  by_cases h0 : agreedV l = 0
  · have e : fasA l = fasL l.ord l.n := if_pos h0
    rw [e, h0]
    exact faster_ok w lo hi l v h (agreed_iff.1 h0).1 (agreed_iff.1 h0).2
  · have e : fasA l = [] := if_neg h0
    rw [e]
    exact (faster_no w lo hi l v h hlen h0).mono fun x w' ⟨h1, h2⟩ => ⟨_, h1, Sat.ownil ((Sat.nil w M0).keep h2) _ _⟩
theorem fasA_len (l : Lb) : (fasA l).length ≤ 1000 := by
  unfold fasA
  split
  · rename_i h
    have h8 := (agreed_iff.1 h).1.n8
    have h1 := fasI_len (o := l.ord) (n := l.n) l.n 0 (by omega)
    rw [fasI_all] at h1
    have : l.n * l.n ≤ 8 * 8 := Nat.mul_le_mul h8 h8
    omega
  · simp
def tE5_d1a7a2f : OT := chainT [8, 9, 10] (.nil)
def tE5_4827765 : OT := chainT [7] (tE5_d1a7a2f)
def tE5_cadd481 : OT := chainT [6] (tE5_d1a7a2f)
def tE5_2bd7652 : OT := .alt (chainT [6] (tE5_4827765)) (chainT [7] (tE5_cadd481))
def tE5_69d16bf : OT := chainT [4, 5] (tE5_d1a7a2f)
def tE5_cad8bc1 : OT := .alt (chainT [4, 5] (tE5_4827765)) (chainT [7] (tE5_69d16bf))
def tE5_db7f0e3 : OT := .alt (chainT [4, 5] (tE5_cadd481)) (chainT [6] (tE5_69d16bf))
def tE5_c7f8ae7 : OT := .alt (chainT [4, 5] (tE5_2bd7652)) (.alt (chainT [6] (tE5_cad8bc1)) (chainT [7] (tE5_db7f0e3)))
def tE5_8ca2305 : OT := chainT [2, 3] (tE5_69d16bf)
def tE5_9e62ff0 : OT := .alt (chainT [2, 3] (tE5_cad8bc1)) (chainT [7] (tE5_8ca2305))
def tE5_62186b2 : OT := .alt (chainT [2, 3] (tE5_db7f0e3)) (chainT [6] (tE5_8ca2305))
def tE5_ed18e2b : OT := .alt (chainT [2, 3] (tE5_c7f8ae7)) (.alt (chainT [6] (tE5_9e62ff0)) (chainT [7] (tE5_62186b2)))
def tE5_f770ffc : OT := chainT [0, 1] (tE5_8ca2305)
def tE5_bb7b8ba : OT := .alt (chainT [0, 1] (tE5_9e62ff0)) (chainT [7] (tE5_f770ffc))
def tE5_02d9108 : OT := .alt (chainT [0, 1] (tE5_62186b2)) (chainT [6] (tE5_f770ffc))
def tE5_cb8a7af : OT := .alt (chainT [0, 1] (tE5_ed18e2b)) (.alt (chainT [6] (tE5_bb7b8ba)) (chainT [7] (tE5_02d9108)))
set_option maxRecDepth 20000 in
set_option maxHeartbeats 16000000 in
theorem skiChains_ca (w : World) (lo hi lo2 hi2 : Nat) (l : Lb) (v u : Value) (fast slow : Int) (ch : List Int) (h : RdR w lo hi v l.runs) (hlen0 : l.runs.length ≤ maxLen) (h2 : RdI w lo2 hi2 u ch) (hlen2 : ch.length ≤ maxLen) :
    Ca Try.prog 6 [.agg (lbC l v).toArray, .int .i64 fast, .int .i64 slow, u] w fun r w' => r = .bool true ∧ Chg [] w w' := by
  obtain ⟨va, vc, rfl, hsv⟩ := RdR.outI h
  obtain ⟨ca, cc, rfl, hsc⟩ := RdI.outI h2
  refine q_of (Sat.nil w M0) Try.func6 rfl (by simp [Try.ntmps6]) ?_
  (refine q_seq (q_region ?_))
  refine ql_box rfl rfl (fun b4 => ?_)
  rw [agg_cells]
  by_cases g1 : l.runs.length > 45
  · skip
    (refine ql_pure tabOk rfl rfl (q_nil (q_seq (q_seq (q_region (ql_pure tabOk rfl rfl ?_))))); refine ql_loadBa tabOk rfl rfl rfl ?_; refine ql_pure tabOk rfl rfl (ql_gtrT tabOk rfl rfl rfl (by omega) (ql_pure tabOk rfl rfl ?_)); (iterate 3 refine ql_gno rfl rfl rfl ?_); refine ql_pure tabOk rfl rfl (q_nil (q_cond_true rfl (q_seq (q_region ?_)))))
    refine ql_callv (val := .bool true) tabOk rfl rfl rfl rfl (fun w hs => ?_) ?_; exact awake_ca w
    (refine ql_pure tabOk rfl rfl (q_nil (q_ret ?_)))
    refine q_fin tabOk rfl (by repeat constructor) fun w hs => ?_
    exact ⟨rfl, hs.chg0⟩
  by_cases g2 : ch.length > 50
  · skip
    (refine ql_pure tabOk rfl rfl (q_nil (q_seq (q_seq (q_region (ql_pure tabOk rfl rfl ?_))))); refine ql_loadBa tabOk rfl rfl rfl ?_; refine ql_pure tabOk rfl rfl (ql_gtrF tabOk rfl rfl rfl (by omega) (ql_pure tabOk rfl rfl (ql_gyes rfl (ql_pure tabOk rfl rfl (ql_gyes rfl (ql_pure tabOk rfl rfl (ql_gyes rfl (ql_gtrT tabOk rfl rfl rfl (by omega) (ql_pure tabOk rfl rfl (q_nil (q_cond_true rfl ?_))))))))))); refine q_seq (q_region ?_))
    refine ql_callv (val := .bool true) tabOk rfl rfl rfl rfl (fun w hs => ?_) ?_; exact awake_ca w
    (refine ql_pure tabOk rfl rfl (q_nil (q_ret ?_)))
    refine q_fin tabOk rfl (by repeat constructor) fun w hs => ?_
    exact ⟨rfl, hs.chg0⟩
  (refine ql_pure tabOk rfl rfl (q_nil (q_seq (q_seq (q_region (ql_pure tabOk rfl rfl ?_))))); refine ql_loadBa tabOk rfl rfl rfl ?_; refine ql_pure tabOk rfl rfl (ql_gtrF tabOk rfl rfl rfl (by omega) (ql_pure tabOk rfl rfl (ql_gyes rfl (ql_pure tabOk rfl rfl (ql_gyes rfl (ql_pure tabOk rfl rfl (ql_gyes rfl (ql_gtrF tabOk rfl rfl rfl (by omega) (ql_pure tabOk rfl rfl (q_nil (q_cond_false rfl ?_))))))))))); refine q_skip (q_seq ?_))
  refine q_cut (σ := Option Addr × Nat × Option Addr × Nat × Option Addr × Nat × Nat × Nat) (fun ⟨ua, uc, ma, mc, ra, rc, b9, b11⟩ => [(1, .int .i64 fast), (2, .int .i64 slow), (3, .slice ca ch.length cc), (4, .pointer (some ⟨b4, 0, none⟩)), (9, .pointer (some ⟨b9, 0, none⟩)), (11, .pointer (some ⟨b11, 0, none⟩)), (10, .slice ma ch.length mc)])
    (fun ⟨ua, uc, ma, mc, ra, rc, b9, b11⟩ => [.pt b9 (lbC l (.slice ua l.runs.length uc)) 25, .pt b11 (lbC l (.slice ra l.runs.length rc)) 70, .ow (.slice ua l.runs.length uc) 33 3 l.runs.length (rnC l.runs), .ow (.slice ma ch.length mc) 3 1 ch.length (ints ch), .ow (.slice ra l.runs.length rc) 160 3 l.runs.length (rnC l.runs), .pt b4 (lbC l (.slice va l.runs.length vc)) 25]) ?_ ?_
  rotate_left
  · intro K2 hK2
    refine q_drawT (tE5_cb8a7af) _ [] (Sp.refl _) (by kernel_rfl) (by kernel_rfl) ?_
    refine qt_let (σ := Option Addr × Nat × Option Addr × Nat × Option Addr × Nat × Nat × Nat × Unit) (.nil) (fun ⟨ua, uc, ma, mc, ra, rc, b9, b11, ()⟩ => [(1, .int .i64 fast), (2, .int .i64 slow), (3, .slice ca ch.length cc), (4, .pointer (some ⟨b4, 0, none⟩)), (9, .pointer (some ⟨b9, 0, none⟩)), (11, .pointer (some ⟨b11, 0, none⟩)), (10, .slice ma ch.length mc)]) (fun ⟨ua, uc, ma, mc, ra, rc, b9, b11, ()⟩ => [.pt b9 (lbC l (.slice ua l.runs.length uc)) 25, .pt b11 (lbC l (.slice ra l.runs.length rc)) 70, .ow (.slice ua l.runs.length uc) 33 3 l.runs.length (rnC l.runs), .ow (.slice ma ch.length mc) 3 1 ch.length (ints ch), .ow (.slice ra l.runs.length rc) 160 3 l.runs.length (rnC l.runs)]) ?_ (fun hS1_3_5_6_7_10 => ?_)
    · rintro ⟨ua, uc, ma, mc, ra, rc, b9, b11, _⟩
      exact qt_nil (hK2 ⟨ua, uc, ma, mc, ra, rc, b9, b11⟩ _ _ ⟨rfl, rfl, rfl, rfl, rfl, rfl, rfl, trivial⟩ (by repeat constructor))
    refine qt_let (σ := Option Addr × Nat × Option Addr × Nat × Option Addr × Nat × Nat × Nat × Unit) (tE5_d1a7a2f) (fun ⟨ua, uc, ma, mc, ra, rc, b9, b11, ()⟩ => [(1, .int .i64 fast), (2, .int .i64 slow), (3, .slice ca ch.length cc), (4, .pointer (some ⟨b4, 0, none⟩)), (9, .pointer (some ⟨b9, 0, none⟩)), (11, .pointer (some ⟨b11, 0, none⟩)), (34, .agg (lbC l (.slice ua l.runs.length uc)).toArray), (36, .slice ma ch.length mc), (38, .agg (lbC l (.slice ra l.runs.length rc)).toArray)]) (fun ⟨ua, uc, ma, mc, ra, rc, b9, b11, ()⟩ => [.pt b9 [.int .i64 0, .int .i64 0, .slice none 0 0] 25, .pt b11 [.int .i64 0, .int .i64 0, .slice none 0 0] 70, .ow (.slice ua l.runs.length uc) 33 3 l.runs.length (rnC l.runs), .ow (.slice ma ch.length mc) 3 1 ch.length (ints ch), .ow (.slice ra l.runs.length rc) 160 3 l.runs.length (rnC l.runs)]) ?_ (fun hS1_3_5_6_7 => ?_)
    · rintro ⟨ua, uc, ma, mc, ra, rc, b9, b11, _⟩
      refine qt_seg (by repeat (first | exact PickL.nil | (apply PickL.cons; rfl))) fun K1 hK1 => ?_
      (refine qf_setA tabOk rfl rfl rfl rfl rfl (by repeat constructor) rfl ?_; refine qf_pure tabOk rfl rfl rfl ?_; refine qf_setA tabOk rfl rfl rfl rfl rfl (by repeat constructor) rfl ?_; refine qf_nil ?_)
      skip
      exact hK1 _ _ (hS1_3_5_6_7_10 ⟨ua, uc, ma, mc, ra, rc, b9, b11, ()⟩ _ _ ⟨rfl, rfl, rfl, rfl, rfl, rfl, rfl, trivial⟩ (by repeat constructor))
    refine qt_let (σ := Option Addr × Nat × Option Addr × Nat × Option Addr × Nat × Nat × Unit) (tE5_4827765) (fun ⟨ua, uc, ma, mc, ra, rc, b9, ()⟩ => [(1, .int .i64 fast), (2, .int .i64 slow), (3, .slice ca ch.length cc), (4, .pointer (some ⟨b4, 0, none⟩)), (9, .pointer (some ⟨b9, 0, none⟩)), (34, .agg (lbC l (.slice ua l.runs.length uc)).toArray), (36, .slice ma ch.length mc), (38, .agg (lbC l (.slice ra l.runs.length rc)).toArray)]) (fun ⟨ua, uc, ma, mc, ra, rc, b9, ()⟩ => [.pt b9 [.int .i64 0, .int .i64 0, .slice none 0 0] 25, .ow (.slice ua l.runs.length uc) 33 3 l.runs.length (rnC l.runs), .ow (.slice ma ch.length mc) 3 1 ch.length (ints ch), .ow (.slice ra l.runs.length rc) 160 3 l.runs.length (rnC l.runs)]) ?_ (fun hS1_3_5_6 => ?_)
    · rintro ⟨ua, uc, ma, mc, ra, rc, b9, _⟩
      refine qt_seg (by repeat (first | exact PickL.nil | (apply PickL.cons; rfl))) fun K1 hK1 => ?_
      skip
      refine qf_alloc zero70 rfl (fun b11 => ?_)
      (refine qf_nil ?_)
      exact hK1 _ _ (hS1_3_5_6_7 ⟨ua, uc, ma, mc, ra, rc, b9, b11, ()⟩ _ _ ⟨rfl, rfl, rfl, rfl, rfl, rfl, rfl, rfl, rfl, trivial⟩ (by repeat constructor))
    refine qt_let (σ := Option Addr × Nat × Option Addr × Nat × Option Addr × Nat × Nat × Unit) (tE5_cadd481) (fun ⟨ua, uc, ma, mc, ra, rc, b11, ()⟩ => [(1, .int .i64 fast), (2, .int .i64 slow), (3, .slice ca ch.length cc), (4, .pointer (some ⟨b4, 0, none⟩)), (11, .pointer (some ⟨b11, 0, none⟩)), (34, .agg (lbC l (.slice ua l.runs.length uc)).toArray), (36, .slice ma ch.length mc), (38, .agg (lbC l (.slice ra l.runs.length rc)).toArray)]) (fun ⟨ua, uc, ma, mc, ra, rc, b11, ()⟩ => [.pt b11 [.int .i64 0, .int .i64 0, .slice none 0 0] 70, .ow (.slice ua l.runs.length uc) 33 3 l.runs.length (rnC l.runs), .ow (.slice ma ch.length mc) 3 1 ch.length (ints ch), .ow (.slice ra l.runs.length rc) 160 3 l.runs.length (rnC l.runs)]) ?_ (fun hS1_3_5_7 => ?_)
    · rintro ⟨ua, uc, ma, mc, ra, rc, b11, _⟩
      refine qt_seg (by repeat (first | exact PickL.nil | (apply PickL.cons; rfl))) fun K1 hK1 => ?_
      skip
      refine qf_alloc zero25 rfl (fun b9 => ?_)
      (refine qf_nil ?_)
      exact hK1 _ _ (hS1_3_5_6_7 ⟨ua, uc, ma, mc, ra, rc, b9, b11, ()⟩ _ _ ⟨rfl, rfl, rfl, rfl, rfl, rfl, rfl, rfl, rfl, trivial⟩ (by repeat constructor))
    refine qt_let (σ := Option Addr × Nat × Option Addr × Nat × Nat × Nat × Unit) (tE5_69d16bf) (fun ⟨ua, uc, ma, mc, b9, b11, ()⟩ => [(1, .int .i64 fast), (2, .int .i64 slow), (3, .slice ca ch.length cc), (4, .pointer (some ⟨b4, 0, none⟩)), (9, .pointer (some ⟨b9, 0, none⟩)), (11, .pointer (some ⟨b11, 0, none⟩)), (34, .agg (lbC l (.slice ua l.runs.length uc)).toArray), (36, .slice ma ch.length mc)]) (fun ⟨ua, uc, ma, mc, b9, b11, ()⟩ => [.pt b9 [.int .i64 0, .int .i64 0, .slice none 0 0] 25, .pt b11 [.int .i64 0, .int .i64 0, .slice none 0 0] 70, .ow (.slice ua l.runs.length uc) 33 3 l.runs.length (rnC l.runs), .ow (.slice ma ch.length mc) 3 1 ch.length (ints ch)]) ?_ (fun hS1_3_6_7 => ?_)
    · rintro ⟨ua, uc, ma, mc, b9, b11, _⟩
      refine qt_seg (by repeat (first | exact PickL.nil | (apply PickL.cons; rfl))) fun K1 hK1 => ?_
      (refine qf_loadABa tabOk rfl rfl rfl ?_)
      refine qf_call (β := Value) tabOk [] _ M0 rfl rfl rfl rfl (Sp.refl _) (fun _ h => h.elim) (fun w' hs => rlab_ca w' lo hi l _ (RdE.keep h hs.chg0) (by omega)) ?_
      rintro z3 _ rfl
      dsimp only [List.cons_append, List.nil_append]
      refine qf_fact (fun w hs => hs.slice2 (v := z3) (by repeat constructor)) ?_
      rintro ⟨ra, rc, rfl⟩
      (refine qf_nil ?_)
      exact hK1 _ _ (hS1_3_5_6_7 ⟨ua, uc, ma, mc, ra, rc, b9, b11, ()⟩ _ _ ⟨rfl, rfl, rfl, rfl, rfl, rfl, rfl, rfl, rfl, trivial⟩ (by repeat constructor))
    refine qt_let (σ := Option Addr × Nat × Option Addr × Nat × Option Addr × Nat × Unit) (tE5_2bd7652) (fun ⟨ua, uc, ma, mc, ra, rc, ()⟩ => [(1, .int .i64 fast), (2, .int .i64 slow), (3, .slice ca ch.length cc), (4, .pointer (some ⟨b4, 0, none⟩)), (34, .agg (lbC l (.slice ua l.runs.length uc)).toArray), (36, .slice ma ch.length mc), (38, .agg (lbC l (.slice ra l.runs.length rc)).toArray)]) (fun ⟨ua, uc, ma, mc, ra, rc, ()⟩ => [.ow (.slice ua l.runs.length uc) 33 3 l.runs.length (rnC l.runs), .ow (.slice ma ch.length mc) 3 1 ch.length (ints ch), .ow (.slice ra l.runs.length rc) 160 3 l.runs.length (rnC l.runs)]) ?_ (fun hS1_3_5 => ?_)
    · rintro ⟨ua, uc, ma, mc, ra, rc, _⟩
      refine qt_alt ?_ ?_
      · skip
        refine qt_seg (by repeat (first | exact PickL.nil | (apply PickL.cons; rfl))) fun K1 hK1 => ?_
        skip
        refine qf_alloc zero25 rfl (fun b9 => ?_)
        (refine qf_nil ?_)
        exact hK1 _ _ (hS1_3_5_6 ⟨ua, uc, ma, mc, ra, rc, b9, ()⟩ _ _ ⟨rfl, rfl, rfl, rfl, rfl, rfl, rfl, rfl, trivial⟩ (by repeat constructor))
      · skip
        refine qt_seg (by repeat (first | exact PickL.nil | (apply PickL.cons; rfl))) fun K1 hK1 => ?_
        skip
        refine qf_alloc zero70 rfl (fun b11 => ?_)
        (refine qf_nil ?_)
        exact hK1 _ _ (hS1_3_5_7 ⟨ua, uc, ma, mc, ra, rc, b11, ()⟩ _ _ ⟨rfl, rfl, rfl, rfl, rfl, rfl, rfl, rfl, trivial⟩ (by repeat constructor))
    refine qt_let (σ := Option Addr × Nat × Option Addr × Nat × Nat × Unit) (tE5_cad8bc1) (fun ⟨ua, uc, ma, mc, b9, ()⟩ => [(1, .int .i64 fast), (2, .int .i64 slow), (3, .slice ca ch.length cc), (4, .pointer (some ⟨b4, 0, none⟩)), (9, .pointer (some ⟨b9, 0, none⟩)), (34, .agg (lbC l (.slice ua l.runs.length uc)).toArray), (36, .slice ma ch.length mc)]) (fun ⟨ua, uc, ma, mc, b9, ()⟩ => [.pt b9 [.int .i64 0, .int .i64 0, .slice none 0 0] 25, .ow (.slice ua l.runs.length uc) 33 3 l.runs.length (rnC l.runs), .ow (.slice ma ch.length mc) 3 1 ch.length (ints ch)]) ?_ (fun hS1_3_6 => ?_)
    · rintro ⟨ua, uc, ma, mc, b9, _⟩
      refine qt_alt ?_ ?_
      · skip
        refine qt_seg (by repeat (first | exact PickL.nil | (apply PickL.cons; rfl))) fun K1 hK1 => ?_
        (refine qf_loadABa tabOk rfl rfl rfl ?_)
        refine qf_call (β := Value) tabOk [] _ M0 rfl rfl rfl rfl (Sp.refl _) (fun _ h => h.elim) (fun w' hs => rlab_ca w' lo hi l _ (RdE.keep h hs.chg0) (by omega)) ?_
        rintro z3 _ rfl
        dsimp only [List.cons_append, List.nil_append]
        refine qf_fact (fun w hs => hs.slice2 (v := z3) (by repeat constructor)) ?_
        rintro ⟨ra, rc, rfl⟩
        (refine qf_nil ?_)
        exact hK1 _ _ (hS1_3_5_6 ⟨ua, uc, ma, mc, ra, rc, b9, ()⟩ _ _ ⟨rfl, rfl, rfl, rfl, rfl, rfl, rfl, rfl, trivial⟩ (by repeat constructor))
      · skip
        refine qt_seg (by repeat (first | exact PickL.nil | (apply PickL.cons; rfl))) fun K1 hK1 => ?_
        skip
        refine qf_alloc zero70 rfl (fun b11 => ?_)
        (refine qf_nil ?_)
        exact hK1 _ _ (hS1_3_6_7 ⟨ua, uc, ma, mc, b9, b11, ()⟩ _ _ ⟨rfl, rfl, rfl, rfl, rfl, rfl, rfl, rfl, trivial⟩ (by repeat constructor))
    refine qt_let (σ := Option Addr × Nat × Option Addr × Nat × Nat × Unit) (tE5_db7f0e3) (fun ⟨ua, uc, ma, mc, b11, ()⟩ => [(1, .int .i64 fast), (2, .int .i64 slow), (3, .slice ca ch.length cc), (4, .pointer (some ⟨b4, 0, none⟩)), (11, .pointer (some ⟨b11, 0, none⟩)), (34, .agg (lbC l (.slice ua l.runs.length uc)).toArray), (36, .slice ma ch.length mc)]) (fun ⟨ua, uc, ma, mc, b11, ()⟩ => [.pt b11 [.int .i64 0, .int .i64 0, .slice none 0 0] 70, .ow (.slice ua l.runs.length uc) 33 3 l.runs.length (rnC l.runs), .ow (.slice ma ch.length mc) 3 1 ch.length (ints ch)]) ?_ (fun hS1_3_7 => ?_)
    · rintro ⟨ua, uc, ma, mc, b11, _⟩
      refine qt_alt ?_ ?_
      · skip
        refine qt_seg (by repeat (first | exact PickL.nil | (apply PickL.cons; rfl))) fun K1 hK1 => ?_
        (refine qf_loadABa tabOk rfl rfl rfl ?_)
        refine qf_call (β := Value) tabOk [] _ M0 rfl rfl rfl rfl (Sp.refl _) (fun _ h => h.elim) (fun w' hs => rlab_ca w' lo hi l _ (RdE.keep h hs.chg0) (by omega)) ?_
        rintro z3 _ rfl
        dsimp only [List.cons_append, List.nil_append]
        refine qf_fact (fun w hs => hs.slice2 (v := z3) (by repeat constructor)) ?_
        rintro ⟨ra, rc, rfl⟩
        (refine qf_nil ?_)
        exact hK1 _ _ (hS1_3_5_7 ⟨ua, uc, ma, mc, ra, rc, b11, ()⟩ _ _ ⟨rfl, rfl, rfl, rfl, rfl, rfl, rfl, rfl, trivial⟩ (by repeat constructor))
      · skip
        refine qt_seg (by repeat (first | exact PickL.nil | (apply PickL.cons; rfl))) fun K1 hK1 => ?_
        skip
        refine qf_alloc zero25 rfl (fun b9 => ?_)
        (refine qf_nil ?_)
        exact hK1 _ _ (hS1_3_6_7 ⟨ua, uc, ma, mc, b9, b11, ()⟩ _ _ ⟨rfl, rfl, rfl, rfl, rfl, rfl, rfl, rfl, trivial⟩ (by repeat constructor))
    refine qt_let (σ := Option Addr × Nat × Nat × Nat × Unit) (tE5_8ca2305) (fun ⟨ua, uc, b9, b11, ()⟩ => [(1, .int .i64 fast), (2, .int .i64 slow), (3, .slice ca ch.length cc), (4, .pointer (some ⟨b4, 0, none⟩)), (9, .pointer (some ⟨b9, 0, none⟩)), (11, .pointer (some ⟨b11, 0, none⟩)), (34, .agg (lbC l (.slice ua l.runs.length uc)).toArray)]) (fun ⟨ua, uc, b9, b11, ()⟩ => [.pt b9 [.int .i64 0, .int .i64 0, .slice none 0 0] 25, .pt b11 [.int .i64 0, .int .i64 0, .slice none 0 0] 70, .ow (.slice ua l.runs.length uc) 33 3 l.runs.length (rnC l.runs)]) ?_ (fun hS1_6_7 => ?_)
    · rintro ⟨ua, uc, b9, b11, _⟩
      refine qt_seg (by repeat (first | exact PickL.nil | (apply PickL.cons; rfl))) fun K1 hK1 => ?_
      (refine qf_pure tabOk rfl rfl rfl ?_)
      refine qf_call (β := Value) tabOk [] _ M0 rfl rfl rfl rfl (Sp.refl _) (fun _ h => h.elim) (fun w' hs => cloneI_ca w' lo2 hi2 _ ch (RdE.keep h2 hs.chg0) (by omega)) ?_
      rintro _ z2 rfl
      dsimp only [List.cons_append, List.nil_append]
      refine qf_fact (fun w hs => hs.slice2 (v := z2) (by repeat constructor)) ?_
      rintro ⟨ma, mc, rfl⟩
      (refine qf_nil ?_)
      exact hK1 _ _ (hS1_3_6_7 ⟨ua, uc, ma, mc, b9, b11, ()⟩ _ _ ⟨rfl, rfl, rfl, rfl, rfl, rfl, rfl, rfl, trivial⟩ (by repeat constructor))
    refine qt_let (σ := Option Addr × Nat × Option Addr × Nat × Unit) (tE5_c7f8ae7) (fun ⟨ua, uc, ma, mc, ()⟩ => [(1, .int .i64 fast), (2, .int .i64 slow), (3, .slice ca ch.length cc), (4, .pointer (some ⟨b4, 0, none⟩)), (34, .agg (lbC l (.slice ua l.runs.length uc)).toArray), (36, .slice ma ch.length mc)]) (fun ⟨ua, uc, ma, mc, ()⟩ => [.ow (.slice ua l.runs.length uc) 33 3 l.runs.length (rnC l.runs), .ow (.slice ma ch.length mc) 3 1 ch.length (ints ch)]) ?_ (fun hS1_3 => ?_)
    · rintro ⟨ua, uc, ma, mc, _⟩
      refine qt_alt ?_ (qt_alt ?_ ?_)
      · skip
        refine qt_seg (by repeat (first | exact PickL.nil | (apply PickL.cons; rfl))) fun K1 hK1 => ?_
        (refine qf_loadABa tabOk rfl rfl rfl ?_)
        refine qf_call (β := Value) tabOk [] _ M0 rfl rfl rfl rfl (Sp.refl _) (fun _ h => h.elim) (fun w' hs => rlab_ca w' lo hi l _ (RdE.keep h hs.chg0) (by omega)) ?_
        rintro z3 _ rfl
        dsimp only [List.cons_append, List.nil_append]
        refine qf_fact (fun w hs => hs.slice2 (v := z3) (by repeat constructor)) ?_
        rintro ⟨ra, rc, rfl⟩
        (refine qf_nil ?_)
        exact hK1 _ _ (hS1_3_5 ⟨ua, uc, ma, mc, ra, rc, ()⟩ _ _ ⟨rfl, rfl, rfl, rfl, rfl, rfl, rfl, trivial⟩ (by repeat constructor))
      · skip
        refine qt_seg (by repeat (first | exact PickL.nil | (apply PickL.cons; rfl))) fun K1 hK1 => ?_
        skip
        refine qf_alloc zero25 rfl (fun b9 => ?_)
        (refine qf_nil ?_)
        exact hK1 _ _ (hS1_3_6 ⟨ua, uc, ma, mc, b9, ()⟩ _ _ ⟨rfl, rfl, rfl, rfl, rfl, rfl, rfl, trivial⟩ (by repeat constructor))
      · skip
        refine qt_seg (by repeat (first | exact PickL.nil | (apply PickL.cons; rfl))) fun K1 hK1 => ?_
        skip
        refine qf_alloc zero70 rfl (fun b11 => ?_)
        (refine qf_nil ?_)
        exact hK1 _ _ (hS1_3_7 ⟨ua, uc, ma, mc, b11, ()⟩ _ _ ⟨rfl, rfl, rfl, rfl, rfl, rfl, rfl, trivial⟩ (by repeat constructor))
    refine qt_let (σ := Option Addr × Nat × Nat × Unit) (tE5_9e62ff0) (fun ⟨ua, uc, b9, ()⟩ => [(1, .int .i64 fast), (2, .int .i64 slow), (3, .slice ca ch.length cc), (4, .pointer (some ⟨b4, 0, none⟩)), (9, .pointer (some ⟨b9, 0, none⟩)), (34, .agg (lbC l (.slice ua l.runs.length uc)).toArray)]) (fun ⟨ua, uc, b9, ()⟩ => [.pt b9 [.int .i64 0, .int .i64 0, .slice none 0 0] 25, .ow (.slice ua l.runs.length uc) 33 3 l.runs.length (rnC l.runs)]) ?_ (fun hS1_6 => ?_)
    · rintro ⟨ua, uc, b9, _⟩
      refine qt_alt ?_ ?_
      · skip
        refine qt_seg (by repeat (first | exact PickL.nil | (apply PickL.cons; rfl))) fun K1 hK1 => ?_
        (refine qf_pure tabOk rfl rfl rfl ?_)
        refine qf_call (β := Value) tabOk [] _ M0 rfl rfl rfl rfl (Sp.refl _) (fun _ h => h.elim) (fun w' hs => cloneI_ca w' lo2 hi2 _ ch (RdE.keep h2 hs.chg0) (by omega)) ?_
        rintro _ z2 rfl
        dsimp only [List.cons_append, List.nil_append]
        refine qf_fact (fun w hs => hs.slice2 (v := z2) (by repeat constructor)) ?_
        rintro ⟨ma, mc, rfl⟩
        (refine qf_nil ?_)
        exact hK1 _ _ (hS1_3_6 ⟨ua, uc, ma, mc, b9, ()⟩ _ _ ⟨rfl, rfl, rfl, rfl, rfl, rfl, rfl, trivial⟩ (by repeat constructor))
      · skip
        refine qt_seg (by repeat (first | exact PickL.nil | (apply PickL.cons; rfl))) fun K1 hK1 => ?_
        skip
        refine qf_alloc zero70 rfl (fun b11 => ?_)
        (refine qf_nil ?_)
        exact hK1 _ _ (hS1_6_7 ⟨ua, uc, b9, b11, ()⟩ _ _ ⟨rfl, rfl, rfl, rfl, rfl, rfl, rfl, trivial⟩ (by repeat constructor))
    refine qt_let (σ := Option Addr × Nat × Nat × Unit) (tE5_62186b2) (fun ⟨ua, uc, b11, ()⟩ => [(1, .int .i64 fast), (2, .int .i64 slow), (3, .slice ca ch.length cc), (4, .pointer (some ⟨b4, 0, none⟩)), (11, .pointer (some ⟨b11, 0, none⟩)), (34, .agg (lbC l (.slice ua l.runs.length uc)).toArray)]) (fun ⟨ua, uc, b11, ()⟩ => [.pt b11 [.int .i64 0, .int .i64 0, .slice none 0 0] 70, .ow (.slice ua l.runs.length uc) 33 3 l.runs.length (rnC l.runs)]) ?_ (fun hS1_7 => ?_)
    · rintro ⟨ua, uc, b11, _⟩
      refine qt_alt ?_ ?_
      · skip
        refine qt_seg (by repeat (first | exact PickL.nil | (apply PickL.cons; rfl))) fun K1 hK1 => ?_
        (refine qf_pure tabOk rfl rfl rfl ?_)
        refine qf_call (β := Value) tabOk [] _ M0 rfl rfl rfl rfl (Sp.refl _) (fun _ h => h.elim) (fun w' hs => cloneI_ca w' lo2 hi2 _ ch (RdE.keep h2 hs.chg0) (by omega)) ?_
        rintro _ z2 rfl
        dsimp only [List.cons_append, List.nil_append]
        refine qf_fact (fun w hs => hs.slice2 (v := z2) (by repeat constructor)) ?_
        rintro ⟨ma, mc, rfl⟩
        (refine qf_nil ?_)
        exact hK1 _ _ (hS1_3_7 ⟨ua, uc, ma, mc, b11, ()⟩ _ _ ⟨rfl, rfl, rfl, rfl, rfl, rfl, rfl, trivial⟩ (by repeat constructor))
      · skip
        refine qt_seg (by repeat (first | exact PickL.nil | (apply PickL.cons; rfl))) fun K1 hK1 => ?_
        skip
        refine qf_alloc zero25 rfl (fun b9 => ?_)
        (refine qf_nil ?_)
        exact hK1 _ _ (hS1_6_7 ⟨ua, uc, b9, b11, ()⟩ _ _ ⟨rfl, rfl, rfl, rfl, rfl, rfl, rfl, trivial⟩ (by repeat constructor))
    refine qt_let (σ := Nat × Nat × Unit) (tE5_f770ffc) (fun ⟨b9, b11, ()⟩ => [(1, .int .i64 fast), (2, .int .i64 slow), (3, .slice ca ch.length cc), (4, .pointer (some ⟨b4, 0, none⟩)), (9, .pointer (some ⟨b9, 0, none⟩)), (11, .pointer (some ⟨b11, 0, none⟩))]) (fun ⟨b9, b11, ()⟩ => [.pt b9 [.int .i64 0, .int .i64 0, .slice none 0 0] 25, .pt b11 [.int .i64 0, .int .i64 0, .slice none 0 0] 70]) ?_ (fun hS6_7 => ?_)
    · rintro ⟨b9, b11, _⟩
      refine qt_seg (by repeat (first | exact PickL.nil | (apply PickL.cons; rfl))) fun K1 hK1 => ?_
      (refine qf_loadABa tabOk rfl rfl rfl ?_)
      refine qf_call (β := Value) tabOk [] _ M0 rfl rfl rfl rfl (Sp.refl _) (fun _ h => h.elim) (fun w' hs => cloneL_ca w' lo hi l _ (RdE.keep h hs.chg0) (by omega)) ?_
      rintro z1 _ rfl
      dsimp only [List.cons_append, List.nil_append]
      refine qf_fact (fun w hs => hs.slice2 (v := z1) (by repeat constructor)) ?_
      rintro ⟨ua, uc, rfl⟩
      (refine qf_nil ?_)
      exact hK1 _ _ (hS1_6_7 ⟨ua, uc, b9, b11, ()⟩ _ _ ⟨rfl, rfl, rfl, rfl, rfl, rfl, rfl, trivial⟩ (by repeat constructor))
    refine qt_let (σ := Option Addr × Nat × Unit) (tE5_ed18e2b) (fun ⟨ua, uc, ()⟩ => [(1, .int .i64 fast), (2, .int .i64 slow), (3, .slice ca ch.length cc), (4, .pointer (some ⟨b4, 0, none⟩)), (34, .agg (lbC l (.slice ua l.runs.length uc)).toArray)]) (fun ⟨ua, uc, ()⟩ => [.ow (.slice ua l.runs.length uc) 33 3 l.runs.length (rnC l.runs)]) ?_ (fun hS1 => ?_)
    · rintro ⟨ua, uc, _⟩
      refine qt_alt ?_ (qt_alt ?_ ?_)
      · skip
        refine qt_seg (by repeat (first | exact PickL.nil | (apply PickL.cons; rfl))) fun K1 hK1 => ?_
        (refine qf_pure tabOk rfl rfl rfl ?_)
        refine qf_call (β := Value) tabOk [] _ M0 rfl rfl rfl rfl (Sp.refl _) (fun _ h => h.elim) (fun w' hs => cloneI_ca w' lo2 hi2 _ ch (RdE.keep h2 hs.chg0) (by omega)) ?_
        rintro _ z2 rfl
        dsimp only [List.cons_append, List.nil_append]
        refine qf_fact (fun w hs => hs.slice2 (v := z2) (by repeat constructor)) ?_
        rintro ⟨ma, mc, rfl⟩
        (refine qf_nil ?_)
        exact hK1 _ _ (hS1_3 ⟨ua, uc, ma, mc, ()⟩ _ _ ⟨rfl, rfl, rfl, rfl, rfl, rfl, trivial⟩ (by repeat constructor))
      · skip
        refine qt_seg (by repeat (first | exact PickL.nil | (apply PickL.cons; rfl))) fun K1 hK1 => ?_
        skip
        refine qf_alloc zero25 rfl (fun b9 => ?_)
        (refine qf_nil ?_)
        exact hK1 _ _ (hS1_6 ⟨ua, uc, b9, ()⟩ _ _ ⟨rfl, rfl, rfl, rfl, rfl, rfl, trivial⟩ (by repeat constructor))
      · skip
        refine qt_seg (by repeat (first | exact PickL.nil | (apply PickL.cons; rfl))) fun K1 hK1 => ?_
        skip
        refine qf_alloc zero70 rfl (fun b11 => ?_)
        (refine qf_nil ?_)
        exact hK1 _ _ (hS1_7 ⟨ua, uc, b11, ()⟩ _ _ ⟨rfl, rfl, rfl, rfl, rfl, rfl, trivial⟩ (by repeat constructor))
    refine qt_let (σ := Nat × Unit) (tE5_bb7b8ba) (fun ⟨b9, ()⟩ => [(1, .int .i64 fast), (2, .int .i64 slow), (3, .slice ca ch.length cc), (4, .pointer (some ⟨b4, 0, none⟩)), (9, .pointer (some ⟨b9, 0, none⟩))]) (fun ⟨b9, ()⟩ => [.pt b9 [.int .i64 0, .int .i64 0, .slice none 0 0] 25]) ?_ (fun hS6 => ?_)
    · rintro ⟨b9, _⟩
      refine qt_alt ?_ ?_
      · skip
        refine qt_seg (by repeat (first | exact PickL.nil | (apply PickL.cons; rfl))) fun K1 hK1 => ?_
        (refine qf_loadABa tabOk rfl rfl rfl ?_)
        refine qf_call (β := Value) tabOk [] _ M0 rfl rfl rfl rfl (Sp.refl _) (fun _ h => h.elim) (fun w' hs => cloneL_ca w' lo hi l _ (RdE.keep h hs.chg0) (by omega)) ?_
        rintro z1 _ rfl
        dsimp only [List.cons_append, List.nil_append]
        refine qf_fact (fun w hs => hs.slice2 (v := z1) (by repeat constructor)) ?_
        rintro ⟨ua, uc, rfl⟩
        (refine qf_nil ?_)
        exact hK1 _ _ (hS1_6 ⟨ua, uc, b9, ()⟩ _ _ ⟨rfl, rfl, rfl, rfl, rfl, rfl, trivial⟩ (by repeat constructor))
      · skip
        refine qt_seg (by repeat (first | exact PickL.nil | (apply PickL.cons; rfl))) fun K1 hK1 => ?_
        skip
        refine qf_alloc zero70 rfl (fun b11 => ?_)
        (refine qf_nil ?_)
        exact hK1 _ _ (hS6_7 ⟨b9, b11, ()⟩ _ _ ⟨rfl, rfl, rfl, rfl, rfl, rfl, trivial⟩ (by repeat constructor))
    refine qt_let (σ := Nat × Unit) (tE5_02d9108) (fun ⟨b11, ()⟩ => [(1, .int .i64 fast), (2, .int .i64 slow), (3, .slice ca ch.length cc), (4, .pointer (some ⟨b4, 0, none⟩)), (11, .pointer (some ⟨b11, 0, none⟩))]) (fun ⟨b11, ()⟩ => [.pt b11 [.int .i64 0, .int .i64 0, .slice none 0 0] 70]) ?_ (fun hS7 => ?_)
    · rintro ⟨b11, _⟩
      refine qt_alt ?_ ?_
      · skip
        refine qt_seg (by repeat (first | exact PickL.nil | (apply PickL.cons; rfl))) fun K1 hK1 => ?_
        (refine qf_loadABa tabOk rfl rfl rfl ?_)
        refine qf_call (β := Value) tabOk [] _ M0 rfl rfl rfl rfl (Sp.refl _) (fun _ h => h.elim) (fun w' hs => cloneL_ca w' lo hi l _ (RdE.keep h hs.chg0) (by omega)) ?_
        rintro z1 _ rfl
        dsimp only [List.cons_append, List.nil_append]
        refine qf_fact (fun w hs => hs.slice2 (v := z1) (by repeat constructor)) ?_
        rintro ⟨ua, uc, rfl⟩
        (refine qf_nil ?_)
        exact hK1 _ _ (hS1_7 ⟨ua, uc, b11, ()⟩ _ _ ⟨rfl, rfl, rfl, rfl, rfl, rfl, trivial⟩ (by repeat constructor))
      · skip
        refine qt_seg (by repeat (first | exact PickL.nil | (apply PickL.cons; rfl))) fun K1 hK1 => ?_
        skip
        refine qf_alloc zero25 rfl (fun b9 => ?_)
        (refine qf_nil ?_)
        exact hK1 _ _ (hS6_7 ⟨b9, b11, ()⟩ _ _ ⟨rfl, rfl, rfl, rfl, rfl, rfl, trivial⟩ (by repeat constructor))
    refine qt_alt ?_ (qt_alt ?_ ?_)
    · skip
      refine qt_seg (by repeat (first | exact PickL.nil | (apply PickL.cons; rfl))) fun K1 hK1 => ?_
      (refine qf_loadABa tabOk rfl rfl rfl ?_)
      refine qf_call (β := Value) tabOk [] _ M0 rfl rfl rfl rfl (Sp.refl _) (fun _ h => h.elim) (fun w' hs => cloneL_ca w' lo hi l _ (RdE.keep h hs.chg0) (by omega)) ?_
      rintro z1 _ rfl
      dsimp only [List.cons_append, List.nil_append]
      refine qf_fact (fun w hs => hs.slice2 (v := z1) (by repeat constructor)) ?_
      rintro ⟨ua, uc, rfl⟩
      (refine qf_nil ?_)
      exact hK1 _ _ (hS1 ⟨ua, uc, ()⟩ _ _ ⟨rfl, rfl, rfl, rfl, rfl, trivial⟩ (by repeat constructor))
    · skip
      refine qt_seg (by repeat (first | exact PickL.nil | (apply PickL.cons; rfl))) fun K1 hK1 => ?_
      skip
      refine qf_alloc zero25 rfl (fun b9 => ?_)
      (refine qf_nil ?_)
      exact hK1 _ _ (hS6 ⟨b9, ()⟩ _ _ ⟨rfl, rfl, rfl, rfl, rfl, trivial⟩ (by repeat constructor))
    · skip
      refine qt_seg (by repeat (first | exact PickL.nil | (apply PickL.cons; rfl))) fun K1 hK1 => ?_
      skip
      refine qf_alloc zero70 rfl (fun b11 => ?_)
      (refine qf_nil ?_)
      exact hK1 _ _ (hS7 ⟨b11, ()⟩ _ _ ⟨rfl, rfl, rfl, rfl, rfl, trivial⟩ (by repeat constructor))
  rintro ⟨ua, uc, ma, mc, ra, rc, b9, b11⟩
  dsimp only
  (refine q_seq (q_seq ?_))
  refine q_draw _ [] (Sp.refl _) (by kernel_rfl) (by kernel_rfl) ?_
  (refine qf_loadABa tabOk rfl rfl rfl ?_)
  refine qf_callv (val := .int .i64 (checkV l)) tabOk rfl rfl rfl rfl (fun w hs => ?_) ?_; exact check_ca w 0 w.heap.size l _ (own_rdR (t := 33) (hs.mem (c := .ow (.slice ua l.runs.length uc) 33 3 l.runs.length (rnC l.runs)) (by repeat constructor)) rfl) (by omega)
  (refine qf_loadABa tabOk rfl rfl rfl ?_)
  refine qf_callv (val := .int .i64 (checkV l)) tabOk rfl rfl rfl rfl (fun w hs => ?_) ?_; exact rcheck_ca w 0 w.heap.size l _ (own_rdR (t := 160) (hs.mem (c := .ow (.slice ra l.runs.length rc) 160 3 l.runs.length (rnC l.runs)) (by repeat constructor)) rfl) (by omega)
  (refine qf_neqF tabOk rfl rfl rfl (by omega) (qf_nil (q_cond_false rfl (q_skip (q_seq (q_region ?_))))); refine ql_loadABa tabOk rfl rfl rfl ?_)
  refine ql_call (β := Value) tabOk [] _ M0 rfl rfl rfl rfl (Sp.refl _) (fun _ h => h.elim) (fun w' hs => fasterA_ca w' 0 w'.heap.size l _ (own_rdR (t := 33) (hs.mem (c := .ow (.slice ua l.runs.length uc) 33 3 l.runs.length (rnC l.runs)) (by repeat constructor)) rfl) (by omega)) ?_
  rintro z12 _ rfl
  dsimp only [List.cons_append, List.nil_append]
  refine ql_fact (fun w hs => hs.slice2 (v := z12) (by repeat constructor)) ?_
  rintro ⟨fp, fc, rfl⟩
  (refine ql_pure tabOk rfl rfl (ql_ext tabOk rfl rfl rfl (ql_ext tabOk rfl rfl rfl (ql_pure tabOk rfl rfl (ql_pure tabOk rfl rfl (q_nil (q_seq (q_region ?_))))))); refine ql_loadABa tabOk rfl rfl rfl ?_)
  refine ql_callv (val := .int .i64 (agreedV l)) tabOk rfl rfl rfl rfl (fun w hs => ?_) ?_; exact ragreed_ca w 0 w.heap.size l _ (own_rdR (t := 160) (hs.mem (c := .ow (.slice ra l.runs.length rc) 160 3 l.runs.length (rnC l.runs)) (by repeat constructor)) rfl) (by omega)
  (refine ql_pure tabOk rfl rfl (q_nil (q_seq (q_region (ql_pure tabOk rfl rfl (q_nil (q_seq (q_seq (q_region (ql_pure tabOk rfl rfl (ql_pure tabOk rfl rfl (q_nil ?_))))))))))))
  refine q_cut (σ := Value) (fun u => [(1, .int .i64 fast), (2, .int .i64 slow), (3, .slice ca ch.length cc), (4, .pointer (some ⟨b4, 0, none⟩)), (9, .pointer (some ⟨b9, 0, none⟩)), (11, .pointer (some ⟨b11, 0, none⟩)), (10, .slice ma ch.length mc), (12, .slice fp (fasA l).length fc), (13, .int .i64 (agreedV l)), (14, .int .i64 (agreedV l)), (15, u)]) (fun u => [.ow u 63 2 (fasA l).length (spC (fasA l)), .ow (.slice fp (fasA l).length fc) 63 2 (fasA l).length (spC (fasA l)), .pt b9 (lbC l (.slice ua l.runs.length uc)) 25, .pt b11 (lbC l (.slice ra l.runs.length rc)) 70, .ow (.slice ua l.runs.length uc) 33 3 l.runs.length (rnC l.runs), .ow (.slice ma ch.length mc) 3 1 ch.length (ints ch), .ow (.slice ra l.runs.length rc) 160 3 l.runs.length (rnC l.runs), .pt b4 (lbC l (.slice va l.runs.length vc)) 25]) ?_ ?_
  rotate_left
  · intro K2 hK2
    refine q_if rfl (fun hc => ?_) (fun hc => ?_)
    · have h0 : agreedV l = 0 := hc
      clear hc
      have hl := (agreed_iff.1 h0).1
      obtain ⟨n, en, hn', h8, h1⟩ := hl.nat
      have efa : fasA l = fasL l.ord n := by rw [← hn']; exact if_pos h0
      (refine q_seq (q_region (ql_pure tabOk rfl rfl ?_)); refine ql_loadBa tabOk rfl rfl rfl ?_; refine ql_pure tabOk rfl rfl (q_nil (q_block ?_)))
      rw [en]
      refine q_conv (H' := [.ow (.slice none 0 0) 63 2 (fasI l.ord n 0 0).length (spC (fasI l.ord n 0 0)), .ow (.slice fp (fasA l).length fc) 63 2 (fasA l).length (spC (fasA l)), .pt b9 (lbC l (.slice ua l.runs.length uc)) 25, .pt b11 (lbC l (.slice ra l.runs.length rc)) 70, .ow (.slice ua l.runs.length uc) 33 3 l.runs.length (rnC l.runs), .ow (.slice ma ch.length mc) 3 1 ch.length (ints ch), .ow (.slice ra l.runs.length rc) 160 3 l.runs.length (rnC l.runs), .pt b4 (lbC l (.slice va l.runs.length vc)) 25]) (fun w' hs => Sat.ownil hs _ _) ?_
      refine q_loop (σ := Nat × Value) (fun s => s.1 ≤ n) (fun s => n - s.1) (fun s => [(1, .int .i64 fast), (2, .int .i64 slow), (3, .slice ca ch.length cc), (4, .pointer (some ⟨b4, 0, none⟩)), (9, .pointer (some ⟨b9, 0, none⟩)), (11, .pointer (some ⟨b11, 0, none⟩)), (10, .slice ma ch.length mc), (12, .slice fp (fasA l).length fc), (13, .int .i64 (agreedV l)), (14, .int .i64 (agreedV l)), (15, s.2), (54, .int .i64 n), (55, .int .i64 s.1)]) (fun s => [.ow s.2 63 2 (fasI l.ord n s.1 0).length (spC (fasI l.ord n s.1 0)), .ow (.slice fp (fasA l).length fc) 63 2 (fasA l).length (spC (fasA l)), .pt b9 (lbC l (.slice ua l.runs.length uc)) 25, .pt b11 (lbC l (.slice ra l.runs.length rc)) 70, .ow (.slice ua l.runs.length uc) 33 3 l.runs.length (rnC l.runs), .ow (.slice ma ch.length mc) 3 1 ch.length (ints ch), .ow (.slice ra l.runs.length rc) 160 3 l.runs.length (rnC l.runs), .pt b4 (lbC l (.slice va l.runs.length vc)) 25]) (0, .slice none 0 0) (by simp) ⟨rfl, rfl, rfl, rfl, rfl, rfl, rfl, rfl, rfl, rfl, rfl, rfl, rfl, trivial⟩ (Sp.refl _) ?_
      rintro ⟨x, v15⟩ hx K hK
      dsimp only at hx hK ⊢
      (refine q_seq (q_region (ql_pure tabOk rfl rfl (q_nil (q_seq ?_)))))
      refine q_if rfl (fun hc => ?_) (fun hc => ?_)
      · have hx2 : x < n := by omega
        clear hc
        (refine q_skip (q_seq (q_block (q_seq (q_region (ql_pure tabOk rfl rfl (ql_pure tabOk rfl rfl (q_nil (q_seq (q_region (ql_pure tabOk rfl rfl ?_)))))))))); refine ql_loadBa tabOk rfl rfl rfl ?_; refine ql_pure tabOk rfl rfl (q_nil (q_block ?_)))
        rw [en]
        refine q_loop (σ := Nat × Value) (fun s => s.1 ≤ n) (fun s => n - s.1) (fun s => [(1, .int .i64 fast), (2, .int .i64 slow), (3, .slice ca ch.length cc), (4, .pointer (some ⟨b4, 0, none⟩)), (9, .pointer (some ⟨b9, 0, none⟩)), (11, .pointer (some ⟨b11, 0, none⟩)), (10, .slice ma ch.length mc), (12, .slice fp (fasA l).length fc), (13, .int .i64 (agreedV l)), (14, .int .i64 (agreedV l)), (15, s.2), (54, .int .i64 n), (55, .int .i64 x), (16, .int .i64 x), (59, .int .i64 n), (60, .int .i64 s.1)]) (fun s => [.ow s.2 63 2 (fasI l.ord n x s.1).length (spC (fasI l.ord n x s.1)), .ow (.slice fp (fasA l).length fc) 63 2 (fasA l).length (spC (fasA l)), .pt b9 (lbC l (.slice ua l.runs.length uc)) 25, .pt b11 (lbC l (.slice ra l.runs.length rc)) 70, .ow (.slice ua l.runs.length uc) 33 3 l.runs.length (rnC l.runs), .ow (.slice ma ch.length mc) 3 1 ch.length (ints ch), .ow (.slice ra l.runs.length rc) 160 3 l.runs.length (rnC l.runs), .pt b4 (lbC l (.slice va l.runs.length vc)) 25]) (0, v15) (by simp) ⟨rfl, rfl, rfl, rfl, rfl, rfl, rfl, rfl, rfl, rfl, rfl, rfl, rfl, rfl, rfl, rfl, trivial⟩ (Sp.refl _) ?_
        rintro ⟨y, v15⟩ hy K3 hK3
        dsimp only at hy hK3 ⊢
        (refine q_seq (q_region (ql_pure tabOk rfl rfl (q_nil (q_seq ?_)))))
        refine q_if rfl (fun hc => ?_) (fun hc => ?_)
        · have hy2 : y < n := by omega
          clear hc
          (refine q_skip (q_seq (q_block (q_seq (q_region (ql_pure tabOk rfl rfl (ql_pure tabOk rfl rfl (q_nil (q_seq (q_region ?_))))))))); refine ql_loadABa tabOk rfl rfl rfl ?_; refine ql_pure tabOk rfl rfl (ql_pure tabOk rfl rfl ?_))
          refine ql_callv (val := .bool (fa l.ord x y)) tabOk rfl rfl rfl rfl (fun w hs => ?_) ?_; exact rfast_ca w 0 w.heap.size l _ (own_rdR (t := 160) (hs.mem (c := .ow (.slice ra l.runs.length rc) 160 3 l.runs.length (rnC l.runs)) (by repeat constructor)) rfl) hl x y (by omega) (by omega)
          cases hf : fa l.ord x y with
          | false =>
            (refine q_nil (q_cond_false rfl (q_skip (q_blk (q_region (ql_ar tabOk rfl rfl rfl rfl (by omega) (by omega) (ql_pure tabOk rfl rfl (q_nil ?_))))))))
            exact hK3 (y + 1, v15) _ _ (by dsimp only; omega) (by dsimp only; omega) ⟨rfl, rfl, rfl, rfl, rfl, rfl, rfl, rfl, rfl, rfl, rfl, rfl, rfl, rfl, rfl, rfl, trivial⟩ (by dsimp only; rw [fasI_no hf]; repeat constructor)
          | true =>
            have hfl := fasI_len (o := l.ord) (n := n) x y hy
            have hxn : x * n ≤ 8 * 8 := Nat.mul_le_mul (by omega) h8
            (refine q_nil (q_cond_true rfl (q_region ?_)); (iterate 3 refine ql_pure tabOk rfl rfl ?_))
            refine ql_mk #[.int .i64 x, .int .i64 y] rfl (by kernel_rfl) rfl ?_
            skip
            refine ql_mkS 63 [.int .i64 x, .int .i64 y] rfl (by kernel_rfl) rfl (fun bn => ?_)
            skip
            refine ql_append (q := 1) (news := [.int .i64 x, .int .i64 y]) slP rfl rfl rfl (fun v' => by repeat constructor) (fun w' hs => ⟨_, _, Blk.rdN (hs.blk (b := bn) (by repeat constructor)) rfl⟩) (by simp [oneV]) (by omega) (by omega) (fun u' => ?_)
            (refine ql_pure tabOk rfl rfl (q_nil (q_blk (q_region (ql_ar tabOk rfl rfl rfl rfl (by omega) (by omega) (ql_pure tabOk rfl rfl (q_nil ?_)))))))
            exact hK3 (y + 1, u') _ _ (by dsimp only; omega) (by dsimp only; omega) ⟨rfl, rfl, rfl, rfl, rfl, rfl, rfl, rfl, rfl, rfl, rfl, rfl, rfl, rfl, rfl, rfl, trivial⟩ (by dsimp only; rw [fasI_yes hf, List.length_append, List.length_singleton, spC_snoc]; repeat constructor)
        · obtain rfl : y = n := by omega
          (refine q_exit _ rfl (q_blk (q_region (ql_ar tabOk rfl rfl rfl rfl (by omega) (by omega) (ql_pure tabOk rfl rfl (q_nil ?_))))))
          exact hK (x + 1, v15) _ _ (by dsimp only; omega) (by dsimp only; omega) ⟨rfl, rfl, rfl, rfl, rfl, rfl, rfl, rfl, rfl, rfl, rfl, rfl, rfl, trivial⟩ (by dsimp only; rw [← fasI_next]; repeat constructor)
      · obtain rfl : x = n := by omega
        (refine q_exit _ rfl ?_)
        exact hK2 v15 _ _ ⟨rfl, rfl, rfl, rfl, rfl, rfl, rfl, rfl, rfl, rfl, rfl, trivial⟩ (by rw [efa, ← fasI_all]; repeat constructor)
    · have efa : fasA l = [] := if_neg hc
      (refine q_skip ?_)
      refine q_conv (H' := [.ow (.slice none 0 0) 63 2 (fasA l).length (spC (fasA l)), .ow (.slice fp (fasA l).length fc) 63 2 (fasA l).length (spC (fasA l)), .pt b9 (lbC l (.slice ua l.runs.length uc)) 25, .pt b11 (lbC l (.slice ra l.runs.length rc)) 70, .ow (.slice ua l.runs.length uc) 33 3 l.runs.length (rnC l.runs), .ow (.slice ma ch.length mc) 3 1 ch.length (ints ch), .ow (.slice ra l.runs.length rc) 160 3 l.runs.length (rnC l.runs), .pt b4 (lbC l (.slice va l.runs.length vc)) 25]) (fun w' hs => by rw [efa] at hs ⊢; exact Sat.ownil hs _ _) ?_
      exact hK2 (.slice none 0 0) _ _ ⟨rfl, rfl, rfl, rfl, rfl, rfl, rfl, rfl, rfl, rfl, rfl, trivial⟩ (Sp.refl _)
  intro v15
  have hfl := fasA_len l
  (refine q_seq (q_seq (q_region (ql_pure tabOk rfl rfl (ql_pure tabOk rfl rfl (ql_neqF tabOk rfl rfl rfl (by omega) (ql_pure tabOk rfl rfl (ql_gyes rfl (ql_pure tabOk rfl rfl (ql_gyes rfl (ql_pure tabOk rfl rfl (ql_gyes rfl ?_))))))))))))
  refine ql_callv (val := .bool true) tabOk rfl rfl rfl rfl (fun w hs => ?_) ?_; exact eqP_ca w 0 w.heap.size 0 w.heap.size _ _ (fasA l) (own_rdS (t := 63) (hs.mem (c := .ow (.slice fp (fasA l).length fc) 63 2 (fasA l).length (spC (fasA l))) (by repeat constructor)) rfl) (own_rdS (t := 63) (hs.mem (c := .ow v15 63 2 (fasA l).length (spC (fasA l))) (by repeat constructor)) rfl) (by omega)
  (refine ql_gyes rfl (ql_pure tabOk rfl rfl (ql_pure tabOk rfl rfl (q_nil (q_cond_false rfl (q_skip (q_seq (q_region ?_))))))); refine ql_loadABa tabOk rfl rfl rfl ?_; (iterate 3 refine ql_pure tabOk rfl rfl ?_))
  refine ql_callv (val := .tuple #[.bool (chainV l fast slow ch).1, .int .i64 (chainV l fast slow ch).2]) tabOk rfl rfl rfl rfl (fun w hs => ?_) ?_; exact chainShows_ca w 0 w.heap.size 0 w.heap.size l _ fast slow _ ch (own_rdR (t := 33) (hs.mem (c := .ow (.slice ua l.runs.length uc) 33 3 l.runs.length (rnC l.runs)) (by repeat constructor)) rfl) (by omega) (hs.rdI (v := .slice ma ch.length mc) (l := ch) (t := 3) (n := ch.length) (by repeat constructor) rfl) (by omega)
  (refine ql_pure tabOk rfl rfl (ql_ext tabOk rfl rfl rfl (ql_ext tabOk rfl rfl rfl (ql_pure tabOk rfl rfl (ql_pure tabOk rfl rfl (q_nil (q_seq (q_region ?_))))))); refine ql_loadABa tabOk rfl rfl rfl ?_; (iterate 3 refine ql_pure tabOk rfl rfl ?_))
  refine ql_callv (val := .tuple #[.bool (chainV l fast slow ch).1, .int .i64 (chainV l fast slow ch).2]) tabOk rfl rfl rfl rfl (fun w hs => ?_) ?_; exact rchain_ca w 0 w.heap.size lo2 hi2 l _ fast slow _ ch (own_rdR (t := 160) (hs.mem (c := .ow (.slice ra l.runs.length rc) 160 3 l.runs.length (rnC l.runs)) (by repeat constructor)) rfl) (by omega) (RdE.keep h2 hs.chg0) (by omega)
  (refine ql_pure tabOk rfl rfl (ql_ext tabOk rfl rfl rfl (ql_ext tabOk rfl rfl rfl (ql_pure tabOk rfl rfl (ql_pure tabOk rfl rfl (q_nil (q_seq (q_seq (q_region (ql_pure tabOk rfl rfl (ql_pure tabOk rfl rfl ?_)))))))))))
  refine ql_neb (by kernel_rfl) rfl rfl rfl ?_
  rw [beq_self_eq_true]
  (refine ql_pure tabOk rfl rfl (ql_gyes rfl (ql_pure tabOk rfl rfl (ql_gyes rfl (ql_pure tabOk rfl rfl (ql_gyes rfl (ql_neqF tabOk rfl rfl rfl (by omega) (ql_pure tabOk rfl rfl (q_nil (q_cond_false rfl (q_skip (q_seq ?_))))))))))); refine q_region ?_; refine ql_loadABa tabOk rfl rfl rfl ?_; refine ql_pure tabOk rfl rfl (ql_pure tabOk rfl rfl ?_))
  refine ql_call (β := Value × List Int × Int) tabOk [] _ M0 rfl rfl rfl rfl (Sp.refl _) (fun _ h => h.elim) (fun w' hs => chain0_ca w' 0 w'.heap.size l _ fast slow (own_rdR (t := 33) (hs.mem (c := .ow (.slice ua l.runs.length uc) 33 3 l.runs.length (rnC l.runs)) (by repeat constructor)) rfl) (by omega)) ?_
  rintro ⟨v20, c2, e2⟩ _ ⟨rfl, hR⟩
  dsimp only [List.cons_append, List.nil_append] at hR ⊢
  refine ql_fact (fun w hs => hs.slice2 (v := v20) (by repeat constructor)) ?_
  rintro ⟨cp2, cq2, rfl⟩
  (refine ql_pure tabOk rfl rfl (ql_ext tabOk rfl rfl rfl (ql_ext tabOk rfl rfl rfl (ql_pure tabOk rfl rfl (ql_pure tabOk rfl rfl (q_nil (q_seq (q_region ?_))))))); refine ql_loadABa tabOk rfl rfl rfl ?_; refine ql_pure tabOk rfl rfl (ql_pure tabOk rfl rfl ?_))
  refine ql_callv (val := .int .i64 (twoV l fast slow)) tabOk rfl rfl rfl rfl (fun w hs => ?_) ?_; exact rtwo_ca w 0 w.heap.size l _ fast slow (own_rdR (t := 160) (hs.mem (c := .ow (.slice ra l.runs.length rc) 160 3 l.runs.length (rnC l.runs)) (by repeat constructor)) rfl) (by omega)
  rcases hR with ⟨ht, rfl, rfl⟩ | ⟨ht, hno, rfl, rfl⟩ | ⟨ht, hsh, rfl⟩
  · dsimp only [List.length_nil]
    (refine ql_pure tabOk rfl rfl (q_nil (q_seq (q_seq (q_region (ql_pure tabOk rfl rfl (ql_eqlF tabOk rfl rfl rfl (by omega) (ql_pure tabOk rfl rfl ?_))))))); (iterate 5 refine ql_gno rfl rfl rfl ?_); refine ql_pure tabOk rfl rfl (q_nil (q_cond_false rfl (q_skip (q_seq (q_seq (q_region (ql_pure tabOk rfl rfl (ql_pure tabOk rfl rfl (ql_neqF tabOk rfl rfl rfl (by omega) (ql_pure tabOk rfl rfl (ql_gyes rfl ?_))))))))))); refine ql_pure tabOk rfl rfl (ql_gyes rfl (ql_neqT tabOk rfl rfl rfl (by omega) (ql_gyes rfl (ql_pure tabOk rfl rfl (ql_gyes rfl (ql_pure tabOk rfl rfl (ql_gyes rfl (ql_pure tabOk rfl rfl (ql_gyes rfl (ql_gtrF tabOk rfl rfl rfl (by omega) (ql_gyes rfl ?_))))))))))); refine ql_pure tabOk rfl rfl (ql_pure tabOk rfl rfl (q_nil (q_cond_false rfl (q_skip (q_seq (q_seq (q_region (ql_pure tabOk rfl rfl (ql_eqlF tabOk rfl rfl rfl (by omega) (q_nil (q_cond_false rfl ?_))))))))))); refine q_skip (q_seq (q_region ?_)); (iterate 2 refine ql_loadABa tabOk rfl rfl rfl ?_))
    refine ql_callv (val := .bool true) tabOk rfl rfl rfl rfl (fun w hs => ?_) ?_; exact same_ca w 0 w.heap.size lo hi l _ _ (own_rdR (t := 33) (hs.mem (c := .ow (.slice ua l.runs.length uc) 33 3 l.runs.length (rnC l.runs)) (by repeat constructor)) rfl) (RdE.keep h hs.chg0) (by omega)
    (refine ql_pure tabOk rfl rfl (ql_gyes rfl (ql_pure tabOk rfl rfl (ql_gyes rfl (ql_pure tabOk rfl rfl (ql_gyes rfl ?_))))))
    refine ql_callv (val := .bool true) tabOk rfl rfl rfl rfl (fun w hs => ?_) ?_; exact eqI_ca w 0 w.heap.size lo2 hi2 _ _ ch (hs.rdI (v := .slice ma ch.length mc) (l := ch) (t := 3) (n := ch.length) (by repeat constructor) rfl) (RdE.keep h2 hs.chg0) (by omega)
    (refine ql_pure tabOk rfl rfl (ql_pure tabOk rfl rfl (ql_gyes rfl ?_)))
    refine ql_callv (val := .bool true) tabOk rfl rfl rfl rfl (fun w hs => ?_) ?_; exact awake_ca w
    (refine ql_pure tabOk rfl rfl (ql_pure tabOk rfl rfl (q_nil (q_ret ?_))))
    refine q_fin tabOk rfl (by repeat constructor) fun w hs => ?_
    exact ⟨rfl, hs.chg0⟩
  · obtain ⟨hl, ha, hb⟩ := two_iff.1 ht
    have a1 := inB_iff.1 ha
    have b1 := inB_iff.1 hb
    have s0 := hl.s0
    rw [ht]
    dsimp only [List.length_nil]
    (refine ql_pure tabOk rfl rfl (q_nil (q_seq (q_seq (q_region (ql_pure tabOk rfl rfl (ql_eqlT tabOk rfl rfl rfl (by omega) (ql_pure tabOk rfl rfl (ql_gyes rfl ?_)))))))); refine ql_loadABa tabOk rfl rfl rfl ?_; refine ql_gyes rfl (ql_pure tabOk rfl rfl (ql_gyes rfl (ql_pure tabOk rfl rfl (ql_gyes rfl ?_)))))
    refine ql_call (β := Int) tabOk [] _ M0 rfl rfl rfl rfl (Sp.refl _) (fun _ h => h.elim) (fun w' hs => by have := rlength_ca w' 0 w'.heap.size l _ (own_rdR (t := 160) (hs.mem (c := .ow (.slice ra l.runs.length rc) 160 3 l.runs.length (rnC l.runs)) (by repeat constructor)) rfl) hl fast.toNat slow.toNat (by unfold Lb.n; omega) (by unfold Lb.n; omega); rw [Int.toNat_of_nonneg a1.1, Int.toNat_of_nonneg b1.1] at this; exact this) ?_
    rintro z _ ⟨rfl, hz⟩
    obtain rfl := noCh_len hno hz
    (refine ql_gyes rfl (ql_eqlT tabOk rfl rfl rfl (by omega) (ql_pure tabOk rfl rfl (q_nil (q_cond_true rfl (q_region (ql_pure tabOk rfl rfl (q_nil (q_seq (q_seq (q_region (ql_pure tabOk rfl rfl ?_))))))))))); refine ql_pure tabOk rfl rfl (ql_neqF tabOk rfl rfl rfl (by omega) (ql_pure tabOk rfl rfl (ql_gyes rfl (ql_pure tabOk rfl rfl (ql_gyes rfl (ql_neqT tabOk rfl rfl rfl (by omega) (ql_gyes rfl (ql_pure tabOk rfl rfl (ql_gyes rfl (ql_pure tabOk rfl rfl (ql_gyes rfl ?_))))))))))); refine ql_pure tabOk rfl rfl (ql_gyes rfl (ql_gtrF tabOk rfl rfl rfl (by omega) (ql_gyes rfl (ql_pure tabOk rfl rfl (ql_pure tabOk rfl rfl (q_nil (q_cond_false rfl (q_skip (q_seq (q_seq (q_region ?_))))))))))); refine ql_pure tabOk rfl rfl (ql_eqlF tabOk rfl rfl rfl (by omega) (q_nil (q_cond_false rfl (q_skip (q_seq (q_region ?_)))))); (iterate 2 refine ql_loadABa tabOk rfl rfl rfl ?_))
    refine ql_callv (val := .bool true) tabOk rfl rfl rfl rfl (fun w hs => ?_) ?_; exact same_ca w 0 w.heap.size lo hi l _ _ (own_rdR (t := 33) (hs.mem (c := .ow (.slice ua l.runs.length uc) 33 3 l.runs.length (rnC l.runs)) (by repeat constructor)) rfl) (RdE.keep h hs.chg0) (by omega)
    (refine ql_pure tabOk rfl rfl (ql_gyes rfl (ql_pure tabOk rfl rfl (ql_gyes rfl (ql_pure tabOk rfl rfl (ql_gyes rfl ?_))))))
    refine ql_callv (val := .bool true) tabOk rfl rfl rfl rfl (fun w hs => ?_) ?_; exact eqI_ca w 0 w.heap.size lo2 hi2 _ _ ch (hs.rdI (v := .slice ma ch.length mc) (l := ch) (t := 3) (n := ch.length) (by repeat constructor) rfl) (RdE.keep h2 hs.chg0) (by omega)
    (refine ql_pure tabOk rfl rfl (ql_pure tabOk rfl rfl (ql_gyes rfl ?_)))
    refine ql_callv (val := .bool true) tabOk rfl rfl rfl rfl (fun w hs => ?_) ?_; exact awake_ca w
    (refine ql_pure tabOk rfl rfl (ql_pure tabOk rfl rfl (q_nil (q_ret ?_))))
    refine q_fin tabOk rfl (by repeat constructor) fun w hs => ?_
    exact ⟨rfl, hs.chg0⟩
  · obtain ⟨hl, ha, hb⟩ := two_iff.1 ht
    have a1 := inB_iff.1 ha
    have b1 := inB_iff.1 hb
    have s0 := hl.s0
    have hcl : 1 ≤ c2.length := List.length_pos_iff.2 hsh.ne
    have hll := hl.len
    have hc8 := short_le hl hsh
    have hn8 := hl.n8
    rw [ht]
    (refine ql_pure tabOk rfl rfl (q_nil (q_seq (q_seq (q_region (ql_pure tabOk rfl rfl (ql_eqlT tabOk rfl rfl rfl (by omega) (ql_pure tabOk rfl rfl (ql_gyes rfl ?_)))))))); refine ql_loadABa tabOk rfl rfl rfl ?_; refine ql_gyes rfl (ql_pure tabOk rfl rfl (ql_gyes rfl (ql_pure tabOk rfl rfl (ql_gyes rfl ?_)))))
    have hcv : chainV l fast slow c2 = (true, 0) := by
      rw [chainV_eq ht (List.all_eq_true.2 fun j hj => inB_iff.2 (by have := hsh.inr j hj; omega))]
      have := short_chain hsh
      rw [Int.toNat_of_nonneg a1.1, Int.toNat_of_nonneg b1.1] at this
      rw [this]
    refine ql_call (β := Int) tabOk [] _ M0 rfl rfl rfl rfl (Sp.refl _) (fun _ h => h.elim) (fun w' hs => by have := rlength_ca w' 0 w'.heap.size l _ (own_rdR (t := 160) (hs.mem (c := .ow (.slice ra l.runs.length rc) 160 3 l.runs.length (rnC l.runs)) (by repeat constructor)) rfl) hl fast.toNat slow.toNat (by unfold Lb.n; omega) (by unfold Lb.n; omega); rw [Int.toNat_of_nonneg a1.1, Int.toNat_of_nonneg b1.1] at this; exact this) ?_
    rintro z _ ⟨rfl, hz⟩
    obtain rfl := short_len hl.e0 hsh hz
    (refine ql_gyes rfl (ql_eqlF tabOk rfl rfl rfl (by omega) (ql_pure tabOk rfl rfl (q_nil (q_cond_false rfl (q_skip (q_seq (q_seq (q_region (ql_pure tabOk rfl rfl (ql_pure tabOk rfl rfl (ql_neqF tabOk rfl rfl rfl (by omega) ?_))))))))))); refine ql_pure tabOk rfl rfl (ql_gyes rfl (ql_pure tabOk rfl rfl (ql_gyes rfl (ql_neqF tabOk rfl rfl rfl (by omega) (ql_gyes rfl (ql_pure tabOk rfl rfl ?_)))))); (iterate 3 refine ql_gno rfl rfl rfl ?_); refine ql_gyes rfl (ql_pure tabOk rfl rfl (ql_pure tabOk rfl rfl (q_nil (q_cond_false rfl (q_skip (q_seq (q_seq (q_region (ql_pure tabOk rfl rfl (ql_eqlT tabOk rfl rfl rfl (by omega) (q_nil ?_))))))))))); refine q_cond_true rfl (q_seq (q_region ?_)); refine ql_loadABa tabOk rfl rfl rfl ?_; (iterate 3 refine ql_pure tabOk rfl rfl ?_))
    refine ql_callv (val := .tuple #[.bool true, .int .i64 0]) tabOk rfl rfl rfl rfl (fun w hs => ?_) ?_; exact by have := rchain_ca w 0 w.heap.size 0 w.heap.size l _ fast slow _ c2 (own_rdR (t := 160) (hs.mem (c := .ow (.slice ra l.runs.length rc) 160 3 l.runs.length (rnC l.runs)) (by repeat constructor)) rfl) (by omega) (hs.rdI (v := .slice cp2 c2.length cq2) (l := c2) (t := 3) (n := c2.length) (by repeat constructor) rfl) (by omega); rw [hcv] at this; exact this
    (refine ql_pure tabOk rfl rfl (ql_ext tabOk rfl rfl rfl (ql_ext tabOk rfl rfl rfl (ql_pure tabOk rfl rfl (ql_pure tabOk rfl rfl (q_nil (q_seq (q_region (ql_pure tabOk rfl rfl (ql_neqF tabOk rfl rfl rfl (by omega) (ql_pure tabOk rfl rfl (ql_gyes rfl ?_))))))))))); refine ql_pure tabOk rfl rfl (ql_gyes rfl ?_); (iterate 3 refine ql_pure tabOk rfl rfl ?_); refine ql_gyes rfl (ql_pure tabOk rfl rfl (ql_gyes rfl (ql_pure tabOk rfl rfl (ql_gyes rfl ?_)))); refine ql_loadABa tabOk rfl rfl rfl ?_; refine ql_gyes rfl (ql_pure tabOk rfl rfl (ql_gyes rfl (ql_pure tabOk rfl rfl (ql_gyes rfl ?_)))))
    refine ql_call (β := Int) tabOk [] _ M0 rfl rfl rfl rfl (Sp.refl _) (fun _ h => h.elim) (fun w' hs => by have := rlength_ca w' 0 w'.heap.size l _ (own_rdR (t := 160) (hs.mem (c := .ow (.slice ra l.runs.length rc) 160 3 l.runs.length (rnC l.runs)) (by repeat constructor)) rfl) hl fast.toNat slow.toNat (by unfold Lb.n; omega) (by unfold Lb.n; omega); rw [Int.toNat_of_nonneg a1.1, Int.toNat_of_nonneg b1.1] at this; exact this) ?_
    rintro z _ ⟨rfl, hz⟩
    obtain rfl := short_len hl.e0 hsh hz
    (refine ql_gyes rfl (ql_neqF tabOk rfl rfl rfl (by omega) (ql_pure tabOk rfl rfl (q_nil (q_cond_false rfl (q_skip (q_seq (q_region ?_))))))); (iterate 2 refine ql_loadABa tabOk rfl rfl rfl ?_))
    refine ql_callv (val := .bool true) tabOk rfl rfl rfl rfl (fun w hs => ?_) ?_; exact same_ca w 0 w.heap.size lo hi l _ _ (own_rdR (t := 33) (hs.mem (c := .ow (.slice ua l.runs.length uc) 33 3 l.runs.length (rnC l.runs)) (by repeat constructor)) rfl) (RdE.keep h hs.chg0) (by omega)
    (refine ql_pure tabOk rfl rfl (ql_gyes rfl (ql_pure tabOk rfl rfl (ql_gyes rfl (ql_pure tabOk rfl rfl (ql_gyes rfl ?_))))))
    refine ql_callv (val := .bool true) tabOk rfl rfl rfl rfl (fun w hs => ?_) ?_; exact eqI_ca w 0 w.heap.size lo2 hi2 _ _ ch (hs.rdI (v := .slice ma ch.length mc) (l := ch) (t := 3) (n := ch.length) (by repeat constructor) rfl) (RdE.keep h2 hs.chg0) (by omega)
    (refine ql_pure tabOk rfl rfl (ql_pure tabOk rfl rfl (ql_gyes rfl ?_)))
    refine ql_callv (val := .bool true) tabOk rfl rfl rfl rfl (fun w hs => ?_) ?_; exact awake_ca w
    (refine ql_pure tabOk rfl rfl (ql_pure tabOk rfl rfl (q_nil (q_ret ?_))))
    refine q_fin tabOk rfl (by repeat constructor) fun w hs => ?_
    exact ⟨rfl, hs.chg0⟩
end Go.Proofs.Ytcmpdmobmbbplaa
