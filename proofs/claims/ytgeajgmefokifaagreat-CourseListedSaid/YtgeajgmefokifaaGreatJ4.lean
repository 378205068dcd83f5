/- My texts K25, K1, K26, K27, L0, E0, E16, E17, E18, E19, C2, E20, E21, E22, E1, E2, E3, E4, E5, L7, E6, E7, E8, E9, E10, E11, W5, E12, E13, E14, T0, T1, E15, E23, K28, K29, B28, K30, K31, W8, Z0, W10, L12, L14, joined: a claim takes at most 60 files. -/
import Derived.Test.YtgeajgmefokifaaGreatJ3
import Derived.ChangeSlices
import Derived.ChangeArms
import Derived.ChangeShapes

/- Walks: awake. -/
namespace Go.Proofs.YtgeajgmefokifaaGreat
open Go Go.Eng

theorem blk_II {w : World} {c1 c2 c3 c4 : Nat} {t1 t2 t3 t4 : TypeId} {l1 l2 l3 : List Int} (h1 : Blk w c1 (ints l1) t1) (h2 : Blk w c2 (ints l2) t2) (h3 : Blk w c3 (ints l3) t3)
    (h4 : Blk w c4 [.slice (some ⟨c1, 0, none⟩) l1.length l1.length, .slice (some ⟨c2, 0, none⟩) l2.length l2.length, .slice (some ⟨c3, 0, none⟩) l3.length l3.length] t4) : RdII w 0 w.heap.size (.slice (some ⟨c4, 0, none⟩) 3 3) [l1, l2, l3] := by
  refine RdII.of (vs := [.slice (some ⟨c1, 0, none⟩) l1.length l1.length, .slice (some ⟨c2, 0, none⟩) l2.length l2.length, .slice (some ⟨c3, 0, none⟩) l3.length l3.length]) ((Blk.rd h4 (by simp [oneV]) 3).wide (Nat.zero_le _) h4.lt) rfl (fun i hi hi' => ?_) (by simp [oneV])
  obtain rfl | rfl | rfl : i = 0 ∨ i = 1 ∨ i = 2 := by simp at hi; omega
  · exact Blk.rdI h1
  · exact Blk.rdI h2
  · exact Blk.rdI h3

theorem lsK_rd {w0 w : World} {M : Nat → Prop} {H : List Ck} {v : Value} {xs : List (Value × List Int)} (h : Sat w0 M H w) (h1 : Ck.ow v 22 1 xs.length (xs.map (·.1)) ∈ H) (h2 : un (rowsO 3 xs) ∈ H) : RdII w 0 w.heap.size v (xs.map (·.2)) :=
  rowsO_rd (h.mem h2) (h.mem h1)
set_option maxHeartbeats 4000000 in
set_option maxRecDepth 4000 in
theorem awake_ca (w : World) : Ca Tryz.prog 17 [] w fun v w' => v = .bool true ∧ Chg [] w w' := by
  refine q_of (Sat.nil w M0) Tryz.func17 rfl (by simp [Tryz.ntmps17]) ?_
  (refine q_seq ?_; refine q_region ?_; refine ql_pure tabOk rfl rfl ?_; refine q_nil ?_; refine q_seq ?_; refine q_region ?_)
  refine ql_call (β := Nat) tabOk [] _ M0 rfl rfl rfl rfl (Sp.refl _) (fun _ h => h.elim) (fun w' hs => three_ca w') ?_
  rintro bs _ rfl
  (refine ql_pure tabOk rfl rfl ?_; (iterate 2 refine ql_ext tabOk rfl rfl rfl ?_))
  refine ql_alloc zero27 rfl (fun b2 => ?_)
  (refine ql_pure tabOk rfl rfl ?_; refine ql_setA tabOk rfl rfl rfl rfl rfl (by repeat constructor) rfl ?_; refine q_nil ?_; refine q_seq ?_; refine q_region ?_; refine ql_pure tabOk rfl rfl ?_; refine ql_loadAB tabOk rfl rfl rfl (by repeat first | exact .head _ | refine .tail _ ?_) (by rfl) (by rfl) ?_)
  have hS : ∀ w', Blk w' bs (lpC threeS) 32 → RdL w' 0 w'.heap.size (.slice (some ⟨bs, 0, none⟩) threeS.length 3) threeS := fun w' hb => Blk.rdL hb rfl
  refine ql_call (β := Value × List (Value × List Int)) (ψ := fun y x => x = .tuple #[y.1, .int .i64 0] ∧ y.2.map (·.2) = allC threeS threeR) tabOk [] _ M0 rfl rfl rfl rfl (Sp.refl _) (fun _ h => h.elim) (fun w' hs => all_ok w' 0 w'.heap.size (some ⟨bs, 0, none⟩) 3 threeS threeR (hS w' (hs.blk (by repeat first | exact .head _ | refine .tail _ ?_))) aw_cr (by rw [aw_all]; decide)) ?_
  rintro ⟨va, xs⟩ _ ⟨rfl, hxs⟩
  rw [aw_all] at hxs
  dsimp only at hxs
  dsimp only [lsK, List.cons_append, List.nil_append]
  refine ql_fact (fun w hs => hs.slice (v := va) (by repeat first | exact .head _ | refine .tail _ ?_)) ?_
  rintro ⟨va1, va2, va3, rfl⟩
  (refine ql_pure tabOk rfl rfl ?_; (iterate 2 refine ql_ext tabOk rfl rfl rfl ?_); (iterate 2 refine ql_pure tabOk rfl rfl ?_); refine q_nil ?_; refine q_seq ?_; refine q_region ?_; refine ql_pure tabOk rfl rfl ?_; refine ql_loadAB tabOk rfl rfl rfl (by repeat first | exact .head _ | refine .tail _ ?_) (by rfl) (by rfl) ?_)
  refine ql_mkS 3 (ints [1, 1, 1]) rfl (by kernel_rfl) rfl (fun b3 => ?_)
  refine ql_call (β := Value) tabOk [] _ M0 rfl rfl rfl rfl (Sp.refl _) (fun _ h => h.elim) (fun w' hs => brok_ok w' 0 w'.heap.size 0 w'.heap.size (some ⟨bs, 0, none⟩) 3 _ threeS threeR [1, 1, 1] (hS w' (hs.blk (by repeat first | exact .head _ | refine .tail _ ?_))) (by decide) (Blk.rdI (l := [1, 1, 1]) (c := 3) (hs.blk (b := b3) (by repeat first | exact .head _ | refine .tail _ ?_))) (by decide) aw_brk) ?_
  rintro vb _ rfl
  rw [aw_brk2]
  dsimp only [List.cons_append, List.nil_append]
  refine ql_fact (fun w hs => hs.slice (v := vb) (by repeat first | exact .head _ | refine .tail _ ?_)) ?_
  rintro ⟨vb1, vb2, vb3, rfl⟩
  (refine ql_pure tabOk rfl rfl ?_; (iterate 2 refine ql_ext tabOk rfl rfl rfl ?_); (iterate 2 refine ql_pure tabOk rfl rfl ?_); refine q_nil ?_; refine q_seq ?_; refine q_region ?_; refine ql_pure tabOk rfl rfl ?_; refine ql_loadAB tabOk rfl rfl rfl (by repeat first | exact .head _ | refine .tail _ ?_) (by rfl) (by rfl) ?_)
  refine ql_call (β := Value) tabOk [] _ M0 rfl rfl rfl rfl (Sp.refl _) (fun _ h => h.elim) (fun w' hs => cheap_ok w' 0 w'.heap.size (some ⟨bs, 0, none⟩) 3 threeS threeR 40 [0, 1, 1] (hS w' (hs.blk (by repeat first | exact .head _ | refine .tail _ ?_))) aw_cr (by decide) aw_cheap) ?_
  rintro vc _ rfl
  rw [aw_snow]
  dsimp only [List.cons_append, List.nil_append]
  refine ql_fact (fun w hs => hs.slice (v := vc) (by repeat first | exact .head _ | refine .tail _ ?_)) ?_
  rintro ⟨vc1, vc2, vc3, rfl⟩
  (refine ql_pure tabOk rfl rfl ?_; (iterate 3 refine ql_ext tabOk rfl rfl rfl ?_); (iterate 3 refine ql_pure tabOk rfl rfl ?_); refine q_nil ?_; (iterate 2 refine q_seq ?_); refine q_region ?_; refine ql_pure tabOk rfl rfl ?_; refine ql_neqF tabOk rfl rfl rfl (by omega) ?_; refine ql_pure tabOk rfl rfl ?_; refine ql_gyes rfl ?_; refine ql_pure tabOk rfl rfl ?_; refine ql_gyes rfl ?_; refine ql_neqF tabOk rfl rfl rfl (by omega) ?_; (iterate 2 refine ql_pure tabOk rfl rfl ?_); refine ql_gyes rfl ?_; refine ql_pure tabOk rfl rfl ?_; refine ql_gyes rfl ?_; refine ql_neqF tabOk rfl rfl rfl (by omega) ?_; (iterate 2 refine ql_pure tabOk rfl rfl ?_); refine ql_gyes rfl ?_; refine ql_pure tabOk rfl rfl ?_; refine ql_gyes rfl ?_)
  refine ql_mkS 3 (ints [0, 0, 2]) rfl (by kernel_rfl) rfl (fun c1 => ?_)
  refine ql_gyes rfl ?_
  refine ql_mkS 3 (ints [0, 1, 1]) rfl (by kernel_rfl) rfl (fun c2 => ?_)
  refine ql_gyes rfl ?_
  refine ql_mkS 3 (ints [0, 1, 2]) rfl (by kernel_rfl) rfl (fun c3 => ?_)
  refine ql_gyes rfl ?_
  refine ql_mkS 22 [.slice (some ⟨c1, 0, none⟩) 3 3, .slice (some ⟨c2, 0, none⟩) 3 3, .slice (some ⟨c3, 0, none⟩) 3 3] rfl (by kernel_rfl) rfl (fun c4 => ?_)
  (refine ql_gyes rfl ?_)
  refine ql_callv (val := .bool true) tabOk rfl rfl rfl rfl (fun w hs => ?_) ?_; exact eqII_ca w 0 w.heap.size 0 w.heap.size _ _ [[0, 0, 2], [0, 1, 1], [0, 1, 2]] (hxs ▸ lsK_rd (v := .slice va1 va2 va3) (xs := xs) hs (by repeat first | exact .head _ | refine .tail _ ?_) (by repeat first | exact .head _ | refine .tail _ ?_)) (blk_II (l1 := [0, 0, 2]) (l2 := [0, 1, 1]) (l3 := [0, 1, 2]) (hs.blk (b := c1) (by repeat first | exact .head _ | refine .tail _ ?_)) (hs.blk (b := c2) (by repeat first | exact .head _ | refine .tail _ ?_)) (hs.blk (b := c3) (by repeat first | exact .head _ | refine .tail _ ?_)) (hs.blk (b := c4) (by repeat first | exact .head _ | refine .tail _ ?_))) (by decide) (by decide)
  (refine ql_gyes rfl ?_; (iterate 3 refine ql_pure tabOk rfl rfl ?_); refine ql_gyes rfl ?_; refine ql_pure tabOk rfl rfl ?_; refine ql_gyes rfl ?_)
  refine ql_mkS 154 (ints [4]) rfl (by kernel_rfl) rfl (fun c5 => ?_)
  refine ql_gyes rfl ?_
  refine ql_callv (val := .bool true) tabOk rfl rfl rfl rfl (fun w hs => ?_) ?_; exact eqR_ca w 0 w.heap.size 0 w.heap.size _ _ [4] (hs.rdI (v := .slice vb1 vb2 vb3) (l := [4]) (by repeat first | exact .head _ | refine .tail _ ?_) rfl) (Blk.rdI (l := [4]) (c := 1) (hs.blk (b := c5) (by repeat first | exact .head _ | refine .tail _ ?_))) (by decide)
  (refine ql_gyes rfl ?_; (iterate 3 refine ql_pure tabOk rfl rfl ?_); refine ql_gyes rfl ?_; refine ql_pure tabOk rfl rfl ?_; refine ql_gyes rfl ?_)
  refine ql_mkS 3 (ints [0, 1, 1]) rfl (by kernel_rfl) rfl (fun c6 => ?_)
  refine ql_gyes rfl ?_
  refine ql_callv (val := .bool true) tabOk rfl rfl rfl rfl (fun w hs => ?_) ?_; exact eqI_ca w 0 w.heap.size 0 w.heap.size _ _ [0, 1, 1] (hs.rdI (v := .slice vc1 vc2 vc3) (l := [0, 1, 1]) (by repeat first | exact .head _ | refine .tail _ ?_) rfl) (Blk.rdI (l := [0, 1, 1]) (c := 3) (hs.blk (b := c6) (by repeat first | exact .head _ | refine .tail _ ?_))) (by decide)
  (refine ql_gyes rfl ?_; (iterate 3 refine ql_pure tabOk rfl rfl ?_); refine ql_gyes rfl ?_; refine ql_pure tabOk rfl rfl ?_; refine ql_gyes rfl ?_; refine ql_neqF tabOk rfl rfl rfl (by omega) ?_; refine ql_pure tabOk rfl rfl ?_; refine q_nil ?_; refine q_cond_false rfl ?_; refine q_skip ?_; refine q_seq ?_; refine q_region ?_)
  refine ql_callv tabOk rfl rfl rfl rfl (fun w hs => spanM_ca _ _ w) ?_
  (refine ql_pure tabOk rfl rfl ?_; refine ql_st8 tabOk rfl rfl rfl rfl (by repeat constructor) ?_; refine ql_pure tabOk rfl rfl ?_)
  refine ql_stA (rlC threeQ) tabOk rfl rfl rfl rfl rfl (by repeat constructor) rfl rfl ?_
  (refine q_nil ?_; refine q_seq ?_; refine q_region ?_; refine ql_pure tabOk rfl rfl ?_; refine ql_loadAB tabOk rfl rfl rfl (by repeat first | exact .head _ | refine .tail _ ?_) (by rfl) (by rfl) ?_)
  refine ql_call (β := Value × Value) tabOk [] _ M0 rfl rfl rfl rfl (Sp.refl _) (fun _ h => h.elim) (fun w' hs => yield_ok w' 0 w'.heap.size (some ⟨bs, 0, none⟩) 3 threeS threeQ [0, 1, 2] (hS w' (hs.blk (by repeat first | exact .head _ | refine .tail _ ?_))) aw_cr2 aw_yield) ?_
  rintro ⟨vy, vz⟩ _ rfl
  rw [aw_yield2]
  dsimp only [List.cons_append, List.nil_append]
  refine ql_fact (fun w hs => hs.slice (v := vy) (by repeat first | exact .head _ | refine .tail _ ?_)) ?_
  rintro ⟨vy1, vy2, vy3, rfl⟩
  refine ql_fact (fun w hs => hs.slice (v := vz) (by repeat first | exact .head _ | refine .tail _ ?_)) ?_
  rintro ⟨vz1, vz2, vz3, rfl⟩
  (refine ql_pure tabOk rfl rfl ?_; (iterate 3 refine ql_ext tabOk rfl rfl rfl ?_); (iterate 3 refine ql_pure tabOk rfl rfl ?_); refine q_nil ?_; refine q_seq ?_; refine q_region ?_)
  have hD : ∀ n w' b, Blk w' b (dyC (shortW n).days) 46 → RdD w' 0 w'.heap.size (.slice (some ⟨b, 0, none⟩) (shortW n).days.length 3) (shortW n).days := fun n w' b hb => Blk.rdD hb rfl
  refine ql_call (β := Nat) tabOk [] _ M0 rfl rfl rfl rfl (Sp.refl _) (fun _ h => h.elim) (fun w' hs => short_ca w' 500) ?_
  rintro d1 _ rfl
  refine ql_callv (val := .tuple #[.int .i64 2, .int .i64 0]) tabOk rfl rfl rfl rfl (fun w hs => ?_) ?_; exact by have := first_ca w 0 w.heap.size (shortW 500) (some ⟨d1, 0, none⟩) 3 (hD 500 w d1 (hs.blk (by repeat first | exact .head _ | refine .tail _ ?_))) (by decide); rw [aw_first] at this; exact this
  (refine ql_pure tabOk rfl rfl ?_; (iterate 2 refine ql_ext tabOk rfl rfl rfl ?_); (iterate 2 refine ql_pure tabOk rfl rfl ?_); refine q_nil ?_; refine q_seq ?_; refine q_region ?_)
  refine ql_call (β := Nat) tabOk [] _ M0 rfl rfl rfl rfl (Sp.refl _) (fun _ h => h.elim) (fun w' hs => short_ca w' 500) ?_
  rintro d2 _ rfl
  refine ql_mk #[.int .i64 (-1), .int .i64 2] rfl (by kernel_rfl) rfl ?_
  refine ql_callv (val := .tuple #[.int .i64 360, .int .i64 0]) tabOk rfl rfl rfl rfl (fun w hs => ?_) ?_; exact by have := proves_ca w 0 w.heap.size (shortW 500) (some ⟨d2, 0, none⟩) 3 (-1) 2 (hD 500 w d2 (hs.blk (by repeat first | exact .head _ | refine .tail _ ?_))) (by decide); rw [aw_proves] at this; exact this
  (refine ql_pure tabOk rfl rfl ?_; (iterate 2 refine ql_ext tabOk rfl rfl rfl ?_); (iterate 2 refine ql_pure tabOk rfl rfl ?_); refine q_nil ?_; refine q_seq ?_; refine q_region ?_)
  refine ql_call (β := Nat) tabOk [] _ M0 rfl rfl rfl rfl (Sp.refl _) (fun _ h => h.elim) (fun w' hs => short_ca w' 500) ?_
  rintro d3 _ rfl
  refine ql_call (β := Value) tabOk [] _ M0 rfl rfl rfl rfl (Sp.refl _) (fun _ h => h.elim) (fun w' hs => ranges_ok w' 0 w'.heap.size (shortW 500) (some ⟨d3, 0, none⟩) 3 (hD 500 w' d3 (hs.blk (by repeat first | exact .head _ | refine .tail _ ?_))) aw_right) ?_
  rintro vx _ rfl
  rw [aw_ranges]
  dsimp only [List.cons_append, List.nil_append]
  refine ql_fact (fun w hs => hs.slice (v := vx) (by repeat first | exact .head _ | refine .tail _ ?_)) ?_
  rintro ⟨vx1, vx2, vx3, rfl⟩
  (refine ql_pure tabOk rfl rfl ?_; (iterate 2 refine ql_ext tabOk rfl rfl rfl ?_); (iterate 2 refine ql_pure tabOk rfl rfl ?_); refine q_nil ?_; (iterate 2 refine q_seq ?_); refine q_region ?_; refine ql_pure tabOk rfl rfl ?_; refine ql_neqF tabOk rfl rfl rfl (by omega) ?_; refine ql_pure tabOk rfl rfl ?_; refine ql_gyes rfl ?_; refine ql_pure tabOk rfl rfl ?_; refine ql_gyes rfl ?_; refine ql_neqF tabOk rfl rfl rfl (by omega) ?_; (iterate 2 refine ql_pure tabOk rfl rfl ?_); refine ql_gyes rfl ?_; refine ql_pure tabOk rfl rfl ?_; refine ql_gyes rfl ?_; refine ql_neqF tabOk rfl rfl rfl (by omega) ?_; (iterate 2 refine ql_pure tabOk rfl rfl ?_); refine ql_gyes rfl ?_; refine ql_pure tabOk rfl rfl ?_; refine ql_gyes rfl ?_; refine ql_neqF tabOk rfl rfl rfl (by omega) ?_; (iterate 2 refine ql_pure tabOk rfl rfl ?_); refine ql_gyes rfl ?_; refine ql_pure tabOk rfl rfl ?_; refine ql_gyes rfl ?_)
  refine ql_mkS 154 (ints [0]) rfl (by kernel_rfl) rfl (fun c7 => ?_)
  refine ql_gyes rfl ?_
  refine ql_callv (val := .bool true) tabOk rfl rfl rfl rfl (fun w hs => ?_) ?_; exact eqR_ca w 0 w.heap.size 0 w.heap.size _ _ [0] (hs.rdI (v := .slice vy1 vy2 vy3) (l := [0]) (by repeat first | exact .head _ | refine .tail _ ?_) rfl) (Blk.rdI (l := [0]) (c := 1) (hs.blk (b := c7) (by repeat first | exact .head _ | refine .tail _ ?_))) (by decide)
  (refine ql_gyes rfl ?_; (iterate 3 refine ql_pure tabOk rfl rfl ?_); refine ql_gyes rfl ?_; refine ql_pure tabOk rfl rfl ?_; refine ql_gyes rfl ?_)
  refine ql_mkS 3 (ints [0, 1, 2]) rfl (by kernel_rfl) rfl (fun c8 => ?_)
  refine ql_gyes rfl ?_
  refine ql_callv (val := .bool true) tabOk rfl rfl rfl rfl (fun w hs => ?_) ?_; exact eqI_ca w 0 w.heap.size 0 w.heap.size _ _ [0, 1, 2] (hs.rdI (v := .slice vz1 vz2 vz3) (l := [0, 1, 2]) (by repeat first | exact .head _ | refine .tail _ ?_) rfl) (Blk.rdI (l := [0, 1, 2]) (c := 3) (hs.blk (b := c8) (by repeat first | exact .head _ | refine .tail _ ?_))) (by decide)
  (refine ql_gyes rfl ?_; (iterate 3 refine ql_pure tabOk rfl rfl ?_); refine ql_gyes rfl ?_; refine ql_pure tabOk rfl rfl ?_; refine ql_gyes rfl ?_; refine ql_neqF tabOk rfl rfl rfl (by omega) ?_; (iterate 2 refine ql_pure tabOk rfl rfl ?_); refine ql_gyes rfl ?_; refine ql_pure tabOk rfl rfl ?_; refine ql_gyes rfl ?_; refine ql_neqF tabOk rfl rfl rfl (by omega) ?_; (iterate 2 refine ql_pure tabOk rfl rfl ?_); refine ql_gyes rfl ?_; refine ql_pure tabOk rfl rfl ?_; refine ql_gyes rfl ?_)
  refine ql_mk #[.int .i64 280, .int .i64 390] rfl (by kernel_rfl) rfl ?_
  refine ql_gyes rfl ?_
  refine ql_mk #[.int .i64 160, .int .i64 600] rfl (by kernel_rfl) rfl ?_
  refine ql_gyes rfl ?_
  refine ql_mkS 25 (spC [(280, 390), (160, 600)]) rfl (by kernel_rfl) rfl (fun c9 => ?_)
  refine ql_gyes rfl ?_
  refine ql_callv (val := .bool true) tabOk rfl rfl rfl rfl (fun w hs => ?_) ?_; exact eqS_ca w 0 w.heap.size 0 w.heap.size _ _ [(280, 390), (160, 600)] (own_rdS (t := 25) (hs.mem (c := .ow (.slice vx1 vx2 vx3) 25 2 2 (spC [(280, 390), (160, 600)])) (by repeat first | exact .head _ | refine .tail _ ?_)) rfl) (Blk.rdS (l := [(280, 390), (160, 600)]) (c := 2) (hs.blk (b := c9) (by repeat first | exact .head _ | refine .tail _ ?_)) rfl) (by decide)
  (refine ql_gyes rfl ?_; (iterate 2 refine ql_pure tabOk rfl rfl ?_); refine q_nil ?_; refine q_cond_false rfl ?_; refine q_skip ?_; refine q_seq ?_; refine q_region ?_)
  refine ql_call (β := Nat) tabOk [] _ M0 rfl rfl rfl rfl (Sp.refl _) (fun _ h => h.elim) (fun w' hs => short_ca w' 100) ?_
  rintro d4 _ rfl
  refine ql_callv (val := .tuple #[.int .i64 460, .int .i64 0]) tabOk rfl rfl rfl rfl (fun w hs => ?_) ?_; exact by have := least_ca w 0 w.heap.size (shortW 100) (some ⟨d4, 0, none⟩) 3 (hD 100 w d4 (hs.blk (by repeat first | exact .head _ | refine .tail _ ?_))) (by decide); rw [aw_least] at this; exact this
  (refine ql_pure tabOk rfl rfl ?_; (iterate 2 refine ql_ext tabOk rfl rfl rfl ?_); (iterate 2 refine ql_pure tabOk rfl rfl ?_); refine q_nil ?_; refine q_seq ?_; refine q_region ?_)
  refine ql_call (β := Nat) tabOk [] _ M0 rfl rfl rfl rfl (Sp.refl _) (fun _ h => h.elim) (fun w' hs => short_ca w' 100) ?_
  rintro d5 _ rfl
  refine ql_callv (val := .tuple #[.int .i64 540, .int .i64 0]) tabOk rfl rfl rfl rfl (fun w hs => ?_) ?_; exact by have := room_ca w 0 w.heap.size (shortW 100) (some ⟨d5, 0, none⟩) 3 (hD 100 w d5 (hs.blk (by repeat first | exact .head _ | refine .tail _ ?_))) (by decide); rw [aw_room] at this; exact this
  (refine ql_pure tabOk rfl rfl ?_; (iterate 2 refine ql_ext tabOk rfl rfl rfl ?_); (iterate 2 refine ql_pure tabOk rfl rfl ?_); refine q_nil ?_; refine q_seq ?_; refine q_region ?_; refine ql_pure tabOk rfl rfl ?_; refine ql_eqlT tabOk rfl rfl rfl (by omega) ?_; refine ql_pure tabOk rfl rfl ?_; refine ql_gyes rfl ?_; refine ql_pure tabOk rfl rfl ?_; refine ql_gyes rfl ?_; refine ql_eqlT tabOk rfl rfl rfl (by omega) ?_; (iterate 2 refine ql_pure tabOk rfl rfl ?_); refine ql_gyes rfl ?_; refine ql_pure tabOk rfl rfl ?_; refine ql_gyes rfl ?_; refine ql_eqlT tabOk rfl rfl rfl (by omega) ?_; (iterate 2 refine ql_pure tabOk rfl rfl ?_); refine ql_gyes rfl ?_; refine ql_pure tabOk rfl rfl ?_; refine ql_gyes rfl ?_; refine ql_eqlT tabOk rfl rfl rfl (by omega) ?_; (iterate 2 refine ql_pure tabOk rfl rfl ?_); refine q_nil ?_; refine q_ret ?_)
  refine q_fin tabOk rfl (by repeat (first | exact RVs.nil | apply RVs.tmp rfl | apply RVs.cellA rfl rfl (by repeat first | exact .head _ | refine .tail _ ?_) (by rfl) | apply RVs.cell1 rfl rfl (by repeat first | exact .head _ | refine .tail _ ?_))) fun w hs => ?_
  exact ⟨rfl, hs.chg0⟩
end Go.Proofs.YtgeajgmefokifaaGreat

/- Walks: klisterkit's deck. Only the ranges of what it deals are told. -/
namespace Go.Proofs.YtgeajgmefokifaaGreat
open Go Go.Eng

section
attribute [local irreducible] IntKind.wrap Int.tmod Int.tdiv

/-- The deck's own variable, after at most K cards. -/
def DkS (w : World) (b : Nat) (bs : Value) (K : Nat) : Prop :=
  ∃ next st, Blk w b [bs, .int .i64 next, .int .u32 st] 157 ∧ 0 ≤ next ∧ next ≤ K ∧ 0 ≤ st ∧ st < 4294967296
/-- Its bytes. -/
def DkB (w : World) (lo hi : Nat) (bs : Value) : Prop := ∃ nb cs, Rd w lo hi bs 1 nb cs ∧ (∀ c ∈ cs, ∃ x, c = .int .u8 x ∧ 0 ≤ x ∧ x < 256)
theorem DkB.keep {w w' : World} {lo hi : Nat} {bs : Value} (h : DkB w lo hi bs) (c : Chg [] w w') : DkB w' lo hi bs := by
  obtain ⟨nb, cs, h1, h2⟩ := h
  exact ⟨nb, cs, h1.keep c, h2⟩

set_option maxHeartbeats 1000000 in
theorem draw_ca (n : Int) (K : Nat) (hK : K < 4611686018427387904) (w : World) (b lo hi : Nat) (bs : Value) (hby : DkB w lo hi bs) (hlh : hi ≤ b) (hd : DkS w b bs K) :
    Ca Tryz.prog 27 [.pointer (some ⟨b, 0, none⟩), .int .i64 n] w fun v w' => ∃ r, v = .int .i64 r ∧ 0 ≤ r ∧ (r < n ∨ r = 0) ∧ Chg [b] w w' ∧ w'.heap.size = w.heap.size ∧ DkS w' b bs (K + 1) := by
  obtain ⟨nb, cs, hrd, hcs⟩ := hby
  obtain ⟨next, st, hb, hn0, hnK, hs0, hs1⟩ := hd
  have hd : DkS w b bs (K + 1) := ⟨next, st, hb, hn0, by omega, hs0, hs1⟩
  obtain ⟨a, cap, rfl, hsl⟩ := hrd.out
  refine ca_of Tryz.func27 rfl (by simp [Tryz.ntmps27]) ?_
  (refine y_seq ?_; refine y_region ?_; refine yl_pure tabOk rfl rfl ?_; (iterate 2 refine y_seq ?_); refine y_region ?_; (iterate 3 refine yl_pure tabOk rfl rfl ?_))
  refine yl_split rfl rfl (fun hc => ?_) (fun hc => ?_)
  · ((iterate 6 refine yl_guard_no rfl rfl rfl ?_); refine yl_pure tabOk rfl rfl ?_; refine y_cond_true rfl ?_; refine y_seq ?_; refine y_region ?_; refine yl_pure tabOk rfl rfl ?_; refine y_ret ?_)
    exact y_fin1 rfl rfl ⟨0, rfl, by omega, .inr rfl, Chg.refl _ _, rfl, hd⟩
  (refine yl_guard_yes rfl ?_; refine yl_pure tabOk rfl rfl ?_; refine yl_guard_yes rfl ?_; refine yl_pure tabOk rfl rfl ?_; refine yl_guard_yes rfl ?_; refine yl_pure tabOk rfl rfl ?_; refine yl_guard_yes rfl ?_; refine yl_loadB tabOk rfl rfl rfl (by assumption) (by rfl) ?_; refine yl_guard_yes rfl ?_; refine yl_pure tabOk rfl rfl ?_; refine yl_guard_yes rfl ?_; (iterate 2 refine yl_pure tabOk rfl rfl ?_); refine yl_nil ?_)
  have hn := of_decide_eq_false hc
  refine y_if rfl (fun hc => ?_) (fun hc => ?_)
  · (refine y_seq ?_; refine y_region ?_; refine yl_pure tabOk rfl rfl ?_; refine y_ret ?_)
    exact y_fin1 rfl rfl ⟨0, rfl, by omega, .inr rfl, Chg.refl _ _, rfl, hd⟩
  have hnb : 0 < nb := by omega
  obtain ⟨bb, off, rfl, hcell⟩ := hsl hnb
  (refine y_skip ?_; refine y_seq ?_)
  refine y_draw [] (by kernel_rfl) (by kernel_rfl) (fun w1 hc1 hs1 => ?_)
  have hb1 := hb.keep hc1
  ((iterate 3 refine yf_pure tabOk rfl rfl rfl ?_); refine yf_loadB tabOk rfl rfl rfl (by assumption) (by first | assumption | simp) (by rfl) ?_; (iterate 3 refine yf_pure tabOk rfl rfl rfl ?_); refine yf_loadB tabOk rfl rfl rfl (by assumption) (by first | assumption | simp) (by rfl) ?_; (iterate 3 refine yf_pure tabOk rfl rfl rfl ?_); refine yf_loadB tabOk rfl rfl rfl (by assumption) (by first | assumption | simp) (by rfl) ?_; refine yf_pure tabOk rfl rfl rfl ?_)
  have hlen : cs.length = nb := by have := hrd.1; omega
  have hm := tmod_pos hn0 (by omega : (0 : Int) < nb)
  refine yf_rem rfl rfl (by omega) rfl ?_
  refine yf_index tabOk rfl rfl rfl rfl rfl hm.1 hm.2 ?_
  obtain ⟨x, hx, hx0, hx1⟩ := hcs (cs[(next.tmod nb).toNat]'(by omega)) (List.getElem_mem _)
  refine yf_load1 tabOk rfl rfl rfl (fun w' hw' => ?_) (v := .int .u8 x) ?_
  · have h1 := ((hrd.keep hc1).keep hw').cell rfl (next.tmod nb).toNat (by omega)
    rw [Nat.mul_one, h1, List.getElem?_eq_getElem (by omega), hx]
  ((iterate 4 refine yf_pure tabOk rfl rfl rfl ?_); refine yf_loadB tabOk rfl rfl rfl (by assumption) (by first | assumption | simp) (by rfl) ?_; (iterate 3 refine yf_pure tabOk rfl rfl rfl ?_); refine yf_loadB tabOk rfl rfl rfl (by assumption) (by first | assumption | simp) (by rfl) ?_; refine yf_pure tabOk rfl rfl rfl ?_)
  refine yf_quo rfl rfl (by omega) rfl ?_
  ((iterate 3 refine yf_pure tabOk rfl rfl rfl ?_); refine y_seq ?_; refine y_region ?_; (iterate 3 refine yl_pure tabOk rfl rfl ?_); refine yl_loadB tabOk rfl rfl rfl (by assumption) (by rfl) ?_; (iterate 3 refine yl_pure tabOk rfl rfl ?_))
  refine yl_store1 tabOk rfl rfl rfl rfl (by assumption) (by simp) (fun w2 hc2 hs2 hb2 => ?_)
  (refine y_seq ?_; refine y_region ?_; (iterate 4 refine yl_pure tabOk rfl rfl ?_); refine yl_loadB tabOk rfl rfl rfl (by assumption) (by rfl) ?_; (iterate 7 refine yl_pure tabOk rfl rfl ?_))
  refine yl_rem rfl rfl (by omega) rfl ?_
  ((iterate 2 refine yl_pure tabOk rfl rfl ?_))
  refine yl_store1 tabOk rfl rfl rfl rfl (by assumption) (by simp) (fun w3 hc3 hs3 hb3 => ?_)
  have hc03 : Chg [b] w w3 := (hc1.nil.trans hc2).trans hc3
  generalize hq : IntKind.u32.wrap (IntKind.i64.wrap (next.tdiv nb)) = q at *
  clear hq
  generalize hz : Int.tmod _ 65519 = z at *
  have hz0 : 0 ≤ z ∧ z < 65519 := by rw [← hz]; exact tmod_pos (wu32_range _).1 (by omega)
  clear hz
  have hd3 : DkS w3 b (.slice (some ⟨bb, off, none⟩) nb cap) (K + 1) := by
    refine ⟨next + 1, z, ?_, by omega, by omega, hz0.1, by omega⟩
    rw [w64 (by omega) (by omega)] at hb3
    exact hb3
  have hfin : ∀ y : Int, ∃ r, Value.int .i64 ((IntKind.i64.wrap (IntKind.u32.wrap y)).tmod n) = .int .i64 r ∧ 0 ≤ r ∧ (r < n ∨ r = 0) ∧ Chg [b] w w3 ∧ w3.heap.size = w.heap.size ∧ DkS w3 b (.slice (some ⟨bb, off, none⟩) nb cap) (K + 1) := by
    intro y
    have h1 := wu32_range y
    have h2 : IntKind.i64.wrap (IntKind.u32.wrap y) = IntKind.u32.wrap y := w64 (by omega) (by omega)
    rw [h2]
    have h3 := tmod_pos h1.1 (by omega : (0 : Int) < n)
    exact ⟨_, rfl, h3.1, .inl h3.2, hc03, by omega, hd3⟩
  ((iterate 2 refine y_seq ?_); refine y_region ?_; (iterate 3 refine yl_pure tabOk rfl rfl ?_))
  refine yl_split rfl rfl (fun hc => ?_) (fun hc => ?_)
  · (refine yl_guard_yes rfl ?_; refine yl_pure tabOk rfl rfl ?_; refine yl_guard_yes rfl ?_; (iterate 2 refine yl_pure tabOk rfl rfl ?_); refine yl_nil ?_)
    refine y_if rfl (fun hc => ?_) (fun hc => ?_)
    · (refine y_seq ?_; refine y_region ?_; (iterate 3 refine yl_pure tabOk rfl rfl ?_))
      refine yl_rem rfl rfl (by omega) rfl ?_
      (refine yl_pure tabOk rfl rfl ?_; refine y_ret ?_)
      exact y_fin1 rfl rfl (hfin _)
    · (refine y_skip ?_; refine y_seq ?_; refine y_region ?_; (iterate 3 refine yl_pure tabOk rfl rfl ?_); refine yl_loadB tabOk rfl rfl rfl (by assumption) (by rfl) ?_; (iterate 5 refine yl_pure tabOk rfl rfl ?_))
      refine yl_rem rfl rfl (by omega) rfl ?_
      (refine yl_pure tabOk rfl rfl ?_; refine y_ret ?_)
      exact y_fin1 rfl rfl (hfin _)
  · ((iterate 2 refine yl_guard_no rfl rfl rfl ?_); refine yl_pure tabOk rfl rfl ?_; refine y_cond_false rfl ?_; refine y_skip ?_; refine y_seq ?_; refine y_region ?_; (iterate 3 refine yl_pure tabOk rfl rfl ?_); refine yl_loadB tabOk rfl rfl rfl (by assumption) (by rfl) ?_; (iterate 5 refine yl_pure tabOk rfl rfl ?_))
    refine yl_rem rfl rfl (by omega) rfl ?_
    (refine yl_pure tabOk rfl rfl ?_; refine y_ret ?_)
    exact y_fin1 rfl rfl (hfin _)


end
/-- A deck, after at most K cards. -/
def dkP (bs : Value) (b K : Nat) : Ck := .gn (fun x => x = b) (fun w => DkS w b bs K) (fun w w' N h hc hN => by
  obtain ⟨next, st, h1, h2⟩ := h
  exact ⟨next, st, (hc.block b h1.lt (hN b rfl)).trans h1, h2⟩)

theorem drawP_ca (n : Int) (K : Nat) (hK : K < 4611686018427387904) (w : World) (b lo hi : Nat) (bs : Value) (hby : DkB w lo hi bs) (hlh : hi ≤ b) (hd : DkS w b bs K) :
    Ca Tryz.prog 27 [.pointer (some ⟨b, 0, none⟩), .int .i64 n] w fun v w' => ∃ x : Int, (v = .int .i64 x ∧ 0 ≤ x ∧ (x < n ∨ x = 0)) ∧ Sat w (fun x => x = b) [dkP bs b (K + 1)] w' :=
  (draw_ca n K hK w b lo hi bs hby hlh hd).mono fun v w' ⟨r, h1, h2, h3, h4, h5, h6⟩ =>
    ⟨r, ⟨h1, h2, h3⟩, ⟨h4.os, h4.tape, h4.output, h4.size, fun k hk hkb => h4.block k hk (by simpa using hkb)⟩, by simpa [dkP, Ck.p] using h6, .cons (by simp) .nil, fun c hc x hx => by
      obtain rfl : c = dkP bs b (K + 1) := by simpa using hc
      obtain rfl : x = b := hx
      obtain ⟨_, _, h7, _⟩ := h6
      exact ⟨h7.lt, .inl rfl⟩⟩



theorem dk_sat {w : World} {b K : Nat} {bs : Value} (hd : DkS w b bs K) : Sat w (fun x => x = b) [dkP bs b K] w :=
  ⟨ChgP.refl _ _, by simpa [dkP, Ck.p] using hd, .cons (by simp) .nil, fun c hc x hx => by
    obtain rfl : c = dkP bs b K := by simpa using hc
    obtain rfl : x = b := hx
    obtain ⟨_, _, h7, _⟩ := hd
    exact ⟨h7.lt, .inl rfl⟩⟩

theorem between_ca (l h : Int) (hl : -1000000 ≤ l) (hh : h ≤ 1000000) (hlh2 : l ≤ h) (K : Nat) (hK : K < 4611686018427387904) (w : World) (b lo hi : Nat) (bs : Value) (hby : DkB w lo hi bs) (hlh : hi ≤ b) (hd : DkS w b bs K) :
    Ca Tryz.prog 28 [.pointer (some ⟨b, 0, none⟩), .int .i64 l, .int .i64 h] w fun v w' => ∃ x : Int, (v = .int .i64 x ∧ l ≤ x ∧ x ≤ h) ∧ Sat w (fun x => x = b) [dkP bs b (K + 1)] w' := by
  refine q_of (dk_sat hd) Tryz.func28 rfl (by simp [Tryz.ntmps28]) ?_
  (refine q_seq ?_; refine q_region ?_; refine ql_pure tabOk rfl rfl ?_; refine q_nil ?_; refine q_seq ?_; refine q_region ?_; (iterate 4 refine ql_pure tabOk rfl rfl ?_); (iterate 2 refine ql_ar tabOk rfl rfl rfl rfl (by omega) (by omega) ?_))
  refine ql_call (β := Int) (ψ := fun x v => v = .int .i64 x ∧ 0 ≤ x ∧ (x < h - l + 1 ∨ x = 0)) (L' := fun _ => [dkP bs b (K + 1)]) tabOk [dkP bs b K] [] (fun x => x = b) rfl rfl rfl rfl (Sp.refl _) (fun x hx => ⟨_, .head _, hx⟩) (fun w' hs => drawP_ca (h - l + 1) K hK w' b lo hi bs (by
    obtain ⟨nb, cs, h1, h2⟩ := hby
    exact ⟨nb, cs, h1.chg (N := [b]) ⟨hs.chg.os, hs.chg.tape, hs.chg.output, hs.chg.size, fun k hk hkb => hs.chg.block k hk (by simpa using hkb)⟩ (fun k hk => .inr (by simp at hk; omega)), h2⟩) hlh (hs.all _ (.head _))) ?_
  rintro x _ ⟨rfl, hx0, hx1⟩
  (refine ql_ar tabOk rfl rfl rfl rfl (by omega) (by omega) ?_; refine ql_pure tabOk rfl rfl ?_; refine q_nil ?_; refine q_ret ?_)
  refine q_fin tabOk rfl (by repeat (first | exact RVs.nil | apply RVs.tmp rfl | apply RVs.cellA rfl rfl (by repeat first | exact .head _ | refine .tail _ ?_) (by rfl) | apply RVs.cell1 rfl rfl (by repeat first | exact .head _ | refine .tail _ ?_))) fun w hs => ?_
  exact ⟨_, ⟨rfl, by omega, by omega⟩, hs⟩



theorem of_ca (w : World) (a : Option Addr) (n c : Nat) : Ca Tryz.prog 19 [.slice a n c] w fun v w' => ∃ b : Nat, v = .pointer (some ⟨b, 0, none⟩) ∧ Sat w M0 [dkP (.slice a n c) b 0] w' := by
  refine q_of (Sat.nil w M0) Tryz.func19 rfl (by simp [Tryz.ntmps19]) ?_
  (refine q_seq ?_; refine q_region ?_; refine ql_pure tabOk rfl rfl ?_; refine q_nil ?_; refine q_seq ?_; refine q_region ?_; refine ql_pure tabOk rfl rfl ?_)
  refine ql_mk #[.slice a n c, .int .i64 0, .int .u32 17] rfl (by kernel_rfl) rfl ?_
  skip
  refine ql_box rfl rfl (fun b1 => ?_)
  (refine ql_pure tabOk rfl rfl ?_; refine q_nil ?_; refine q_ret ?_)
  refine q_fin tabOk rfl (by repeat (first | exact RVs.nil | apply RVs.tmp rfl | apply RVs.cellA rfl rfl (by repeat first | exact .head _ | refine .tail _ ?_) (by rfl) | apply RVs.cell1 rfl rfl (by repeat first | exact .head _ | refine .tail _ ?_))) fun w hs => ?_
  refine ⟨b1, rfl, ⟨hs.chg, fun d hd => ?_, .cons (by simp) .nil, fun d hd x hx => ?_⟩⟩
  · obtain rfl : d = dkP (.slice a n c) b1 0 := by simpa using hd
    exact ⟨0, 17, hs.all _ (.head _), by omega, by omega, by omega, by omega⟩
  · obtain rfl : d = dkP (.slice a n c) b1 0 := by simpa using hd
    obtain rfl : x = b1 := hx
    exact hs.bd _ (.head _) x rfl



theorem DkB.keepP {w w' : World} {lo hi b : Nat} {bs : Value} (h : DkB w lo hi bs) (hlh : hi ≤ b) (hc : ChgP (fun x => x = b) w w') : DkB w' lo hi bs := by
  obtain ⟨nb, cs, h1, h2⟩ := h
  exact ⟨nb, cs, h1.chg (N := [b]) ⟨hc.os, hc.tape, hc.output, hc.size, fun k hk hkb => hc.block k hk (by simpa using hkb)⟩ (fun k hk => .inr (by simp at hk; omega)), h2⟩
theorem DkS.mono {w : World} {b K K' : Nat} {bs : Value} (h : DkS w b bs K) (hk : K ≤ K') : DkS w b bs K' := by
  obtain ⟨next, st, h1, h2, h3, h4⟩ := h
  exact ⟨next, st, h1, h2, by omega, h4⟩
theorem Sat.dk {w0 w : World} {M : Nat → Prop} {R : List Ck} {b K K' : Nat} {bs : Value} (h : Sat w0 M (dkP bs b K :: R) w) (hk : K ≤ K') : Sat w0 M (dkP bs b K' :: R) w := h.turn (fun _ h => h) (fun h => DkS.mono h hk)



section
variable {K b : Nat} {bs : Value} {w0 w : World} {R : List Ck}
theorem dk_new (hs : Sat w0 M0 (dkP bs b K :: R) w) : w0.heap.size ≤ b := (hs.bd _ (.head _) b rfl).2.resolve_left (fun h => h)
theorem drw0 {n : Int} (hby : DkB w0 0 w0.heap.size bs) (hs : Sat w0 M0 (dkP bs b K :: R) w) (hn : 1 ≤ n) (hK : K < 1000000) :
    Ca Tryz.prog 27 [.pointer (some ⟨b, 0, none⟩), .int .i64 n] w fun v w' => ∃ x : Int, (v = .int .i64 x ∧ 0 ≤ x ∧ x ≤ n - 1) ∧ Sat w (fun x => x = b) [dkP bs b (K + 1)] w' :=
  (drawP_ca n K (by omega) w b 0 w0.heap.size _ (hby.keep hs.chg0) (dk_new hs) (hs.all _ (.head _))).mono fun v w' ⟨x, ⟨h1, h2, h3⟩, h4⟩ => ⟨x, ⟨h1, h2, by omega⟩, h4⟩
end
end Go.Proofs.YtgeajgmefokifaaGreat

/- Walks: a winter is made of numbers. -/
namespace Go.Proofs.YtgeajgmefokifaaGreat
open Go Go.Eng

structure DayB (d : Dy) : Prop where
  n : 0 ≤ d.n0 ∧ d.n0 ≤ 29 ∧ d.n0 ≤ d.n1 ∧ d.n1 ≤ d.n0 + 11
  m : 0 ≤ d.m0 ∧ d.m0 ≤ 39 ∧ d.m0 ≤ d.m1 ∧ d.m1 ≤ d.m0 + 19
  l : 0 ≤ d.l0 ∧ d.l0 ≤ 5 ∧ d.l0 ≤ d.l1 ∧ d.l1 ≤ d.l0 + 3
/-- What MadeWinter makes. -/
structure WinB (days : Nat) (x : Wn) : Prop where
  store : 20 ≤ x.store ∧ x.store ≤ 200
  stock : 0 ≤ x.stock ∧ x.stock ≤ x.store
  d1 : 1 ≤ x.days.length
  d2 : x.days.length ≤ days
  days : ∀ d ∈ x.days, DayB d
theorem WinB.right {days : Nat} {x : Wn} (h : WinB days x) (hd : days ≤ 60) : x.Right := by
  have h1 := h.store
  have h2 := h.d2
  refine ⟨by omega, h.stock, h.d1, by omega, fun d hdm => ?_⟩
  have := h.days d hdm
  have a := this.n
  have b := this.m
  have c := this.l
  exact ⟨by omega, by omega, by omega⟩
/-- The spans made so far. -/
structure DayI (i : Nat) (d : Dy) : Prop where
  n : 1 ≤ i → 0 ≤ d.n0 ∧ d.n0 ≤ 29 ∧ d.n0 ≤ d.n1 ∧ d.n1 ≤ d.n0 + 11
  m : 2 ≤ i → 0 ≤ d.m0 ∧ d.m0 ≤ 39 ∧ d.m0 ≤ d.m1 ∧ d.m1 ≤ d.m0 + 19
  l : 3 ≤ i → 0 ≤ d.l0 ∧ d.l0 ≤ 5 ∧ d.l0 ≤ d.l1 ∧ d.l1 ≤ d.l0 + 3

end Go.Proofs.YtgeajgmefokifaaGreat

/- Walks: a weather is drawn. -/
namespace Go.Proofs.YtgeajgmefokifaaGreat
open Go Go.Eng

theorem getD_snoc (l : List Int) (x : Int) (i : Nat) : (l ++ [x]).getD i 0 = if i < l.length then l.getD i 0 else if i = l.length then x else 0 := by
  simp only [List.getD_eq_getElem?_getD, List.getElem?_append]
  by_cases h : i < l.length
  · simp [h]
  · rw [if_neg h, if_neg h]
    by_cases h2 : i = l.length
    · subst h2; simp
    · rw [if_neg h2, List.getElem?_eq_none (by simp; omega)]
      rfl
/-- A weather of the first days. -/
structure WtP (days : List Dy) (k : Nat) (t : Wt) : Prop where
  ln : t.need.length = k
  lm : t.make.length = k
  ll : t.loss.length = k
  n : ∀ i, i < k → ∀ (h : i < days.length), days[i].n0 ≤ t.need.getD i 0 ∧ t.need.getD i 0 ≤ days[i].n1
  m : ∀ i, i < k → ∀ (h : i < days.length), days[i].m0 ≤ t.make.getD i 0 ∧ t.make.getD i 0 ≤ days[i].m1
  l : ∀ i, i < k → ∀ (h : i < days.length), days[i].l0 ≤ t.loss.getD i 0 ∧ t.loss.getD i 0 ≤ days[i].l1
theorem WtP.step {days : List Dy} {k : Nat} {t : Wt} (h : WtP days k t) (hk : k < days.length) {x y z : Int} (hx : days[k].n0 ≤ x ∧ x ≤ days[k].n1) (hy : days[k].m0 ≤ y ∧ y ≤ days[k].m1) (hz : days[k].l0 ≤ z ∧ z ≤ days[k].l1) : WtP days (k + 1) ⟨t.need ++ [x], t.make ++ [y], t.loss ++ [z]⟩ := by
  refine ⟨by simp [h.ln], by simp [h.lm], by simp [h.ll], fun i hi hd => ?_, fun i hi hd => ?_, fun i hi hd => ?_⟩
  · rw [getD_snoc, h.ln]
    split
    · exact h.n i (by assumption) hd
    · obtain rfl : i = k := by omega
      simpa using hx
  · rw [getD_snoc, h.lm]
    split
    · exact h.m i (by assumption) hd
    · obtain rfl : i = k := by omega
      simpa using hy
  · rw [getD_snoc, h.ll]
    split
    · exact h.l i (by assumption) hd
    · obtain rfl : i = k := by omega
      simpa using hz
theorem WtP.in {x : Wn} {t : Wt} (h : WtP x.days x.days.length t) : t.In x := ⟨h.ln, h.lm, h.ll, fun i hi => h.n i hi hi, fun i hi => h.m i hi hi, fun i hi => h.l i hi hi⟩
/-- The deck, and the days. -/
abbrev drL (bs : Value) (b K g c : Nat) (l : List Dy) : List Ck := [dkP bs b K, .ow (.slice (some ⟨g, 0, none⟩) l.length c) 46 6 l.length (dyC l)]

end Go.Proofs.YtgeajgmefokifaaGreat

/- What the laws of winters share. -/
namespace Go.Proofs.YtgeajgmefokifaaGreat
open Go Go.Eng

section
variable {K b g c : Nat} {bs : Value} {w0 w : World} {R : List Ck}
end
theorem bool_b : boolB Tryz.prog 4 = true := by kernel_rfl
end Go.Proofs.YtgeajgmefokifaaGreat

/- Walks of the reference: the error of a winter. -/
namespace Go.Proofs.YtgeajgmefokifaaGreat
open Go Go.Eng

section
variable {w : World} {lo hi b off len cap : Nat} {l : List Dy}
theorem RdD.need (h : RdD w lo hi (.slice (some ⟨b, off, none⟩) len cap) l) (i : Nat) (hi : i < l.length) (j : Nat) (hj : j < 2) : w.cell? ⟨b, off + i * 6 + 0 + j, none⟩ = [Value.int .i64 l[i].n0, Value.int .i64 l[i].n1][j]? := by
  have := RdD.at h i hi (0 + j) (by omega)
  rw [← Nat.add_assoc] at this
  rw [this]
  match j, hj with
  | 0, _ => rfl
  | 1, _ => rfl
theorem RdD.make (h : RdD w lo hi (.slice (some ⟨b, off, none⟩) len cap) l) (i : Nat) (hi : i < l.length) (j : Nat) (hj : j < 2) : w.cell? ⟨b, off + i * 6 + 2 + j, none⟩ = [Value.int .i64 l[i].m0, Value.int .i64 l[i].m1][j]? := by
  have := RdD.at h i hi (2 + j) (by omega)
  rw [← Nat.add_assoc] at this
  rw [this]
  match j, hj with
  | 0, _ => rfl
  | 1, _ => rfl
theorem RdD.loss (h : RdD w lo hi (.slice (some ⟨b, off, none⟩) len cap) l) (i : Nat) (hi : i < l.length) (j : Nat) (hj : j < 2) : w.cell? ⟨b, off + i * 6 + 4 + j, none⟩ = [Value.int .i64 l[i].l0, Value.int .i64 l[i].l1][j]? := by
  have := RdD.at h i hi (4 + j) (by omega)
  rw [← Nat.add_assoc] at this
  rw [this]
  match j, hj with
  | 0, _ => rfl
  | 1, _ => rfl
end
end Go.Proofs.YtgeajgmefokifaaGreat

/- Walks of the reference: the errors of a stadium, of rules, and of a course. -/
namespace Go.Proofs.YtgeajgmefokifaaGreat
open Go Go.Eng

section
variable {w : World} {lo hi b off len cap : Nat} {l : List Lp}
theorem RdL.a0 (h : RdL w lo hi (.slice (some ⟨b, off, none⟩) len cap) l) (i : Nat) (hi : i < l.length) : w.cell? ⟨b, off + i * 3 + 0, none⟩ = some (.int .i64 l[i].len) := RdL.at0 h i hi
end
/-- In order, as far as they are looked at. -/
def ordB (c : List Int) (k : Nat) : Bool := (List.range k).all fun i => decide (c.getD i 0 ≤ c.getD (i + 1) 0) && true
theorem ordB_srt : ∀ (c : List Int), srtB c = ordB c (c.length - 1)
  | [] => rfl
  | [_] => rfl
  | a :: b :: l => by
    rw [srtB, ordB_srt (b :: l)]
    simp only [ordB, List.length_cons, Nat.add_sub_cancel]
    rw [List.range_succ_eq_map, List.all_cons, List.all_map]
    simp only [Bool.and_true]
    rfl
end Go.Proofs.YtgeajgmefokifaaGreat

/- Walks of the reference: how often a loop occurs; which rules a course breaks. -/
namespace Go.Proofs.YtgeajgmefokifaaGreat
open Go Go.Eng

def oftP (r : Rl) (c : List Int) (k : Nat) : Bool := (c.take k).any fun i => decide (r.uses < cntI c i) && true
end Go.Proofs.YtgeajgmefokifaaGreat

/- Walk of the reference: all lists of laps. -/
namespace Go.Proofs.YtgeajgmefokifaaGreat
open Go Go.Eng

/-- The lists that are found among the first numbers. -/
def foundL (n laps m : Nat) : List (List Int) := ((List.range m).map (digL n laps)).filter (fun c => decide (listedV n c = 0))
end Go.Proofs.YtgeajgmefokifaaGreat

/- Walks of the reference: all right courses. -/
namespace Go.Proofs.YtgeajgmefokifaaGreat
open Go Go.Eng

section
variable {w0 w : World} {M : Nat → Prop} {H : List Ck} {t t2 : TypeId} {xs : List (Value × List Int)} {u : Value} {c : List Int}
theorem ls_mem (hs : Sat w0 M H w) (hu : un (rowsO t xs) ∈ H) (hm : (u, c) ∈ xs) : w.ownsRow 0 t 1 u c.length (ints c) := hs.un_mem (c := .ow u t 1 c.length (ints c)) hu (List.mem_map.2 ⟨_, hm, rfl⟩)
theorem ls_rd (hs : Sat w0 M H w) (hu : un (rowsO t xs) ∈ H) (hm : (u, c) ∈ xs) : RdI w 0 w.heap.size u c := own_rdI (ls_mem hs hu hm) rfl
theorem own_slice2 {e sz n : Nat} {v : Value} {ys : List Value} (h1 : w.ownsRow 0 e sz v n ys) : ∃ a d, v = .slice a n d := by
  rcases h1.2 with ⟨rfl, rfl, _⟩ | ⟨g, cap, cur, rfl, _⟩
  · exact ⟨_, _, rfl⟩
  · exact ⟨_, _, rfl⟩
theorem ls_slice (hs : Sat w0 M H w) (hu : un (rowsO t xs) ∈ H) (hm : (u, c) ∈ xs) : ∃ a d, u = .slice a c.length d := own_slice2 (ls_mem hs hu hm)
theorem ls_cell {g n cp : Nat} (hs : Sat w0 M H w) (hv : .ow (.slice (some ⟨g, 0, none⟩) n cp) t2 1 n (xs.map (·.1)) ∈ H) {i : Nat} (hi : i < xs.length) (hx : xs[i] = (u, c)) : w.cell? ⟨g, 0 + i * 1, none⟩ = some u := by
  have := own_cell (hs.mem hv) i (by simpa using hi)
  rw [show 0 + i * 1 = i by omega]
  simpa [hx] using this
theorem ls_rdII (hs : Sat w0 M H w) {v : Value} {n : Nat} (hu : un (rowsO t xs) ∈ H) (hv : .ow v t2 1 n (xs.map (·.1)) ∈ H) : RdII w 0 w.heap.size v (xs.map (·.2)) := rowsO_rd (hs.mem hu) (hs.mem hv)
end
end Go.Proofs.YtgeajgmefokifaaGreat

/- The plain laws of courses: their order, the fewest rules, the least snow. -/
namespace Go.Proofs.YtgeajgmefokifaaGreat

/-! Lexicographic order -/
theorem sortL_sorted (n : Nat) : ∀ (k least : Nat), (sortL n k least).Pairwise (fun a b => cmpB a b = true)
  | 0, _ => by simp [sortL]
  | k + 1, least => by
    rw [sortL]
    refine List.pairwise_flatMap.2 ⟨fun i _ => ?_, ?_⟩
    · refine List.pairwise_map.2 ((sortL_sorted n k i).imp fun {a b} h => ?_)
      simpa [cmpB] using h
    · refine List.Pairwise.imp ?_ (List.pairwise_lt_range' (s := least) (n := n - least))
      intro i j hij x hx y hy
      obtain ⟨a, _, rfl⟩ := List.mem_map.1 hx
      obtain ⟨b, _, rfl⟩ := List.mem_map.1 hy
      simp only [cmpB]
      rw [if_neg (by omega)]
      simp
      omega
theorem coursesL_sorted (n laps : Nat) : (coursesL n laps).Pairwise (fun a b => cmpB a b = true) := sortL_sorted n laps 0
theorem allC_sorted (s : List Lp) (r : Rl) : (allC s r).Pairwise (fun a b => cmpB a b = true) := (coursesL_sorted _ _).filter _
/-! The fewest rules -/
end Go.Proofs.YtgeajgmefokifaaGreat

/- Walks of the reference: Broken, earlier, Yield. -/
namespace Go.Proofs.YtgeajgmefokifaaGreat
open Go Go.Eng

end Go.Proofs.YtgeajgmefokifaaGreat

/- Walks of the reference: area, snow, what a volume covers, and the cheapest course. -/
namespace Go.Proofs.YtgeajgmefokifaaGreat
open Go Go.Eng

def volB (s : List Lp) (depth volume : Int) (c : List Int) : Bool := decide (snowV s c depth ≤ volume) && true
theorem allC_len {s : List Lp} {r : Rl} (hcr : CR s r) {c : List Int} (hc : c ∈ allC s r) : c.length ≤ 6 := by
  have hla := hcr.r.laps
  have hm := coursesL_mem.1 (List.mem_filter.1 hc).1
  rw [hm.1]
  unfold nL
  omega
end Go.Proofs.YtgeajgmefokifaaGreat

/- Walks of the reference: what a volume covers; the cheapest course. -/
namespace Go.Proofs.YtgeajgmefokifaaGreat
open Go Go.Eng

def ltS (s : List Lp) (depth : Int) (a b : List Int) : Bool := decide (snowV s a depth < snowV s b depth) && true
end Go.Proofs.YtgeajgmefokifaaGreat

/- Walks of the reference: the error of a weather. -/
namespace Go.Proofs.YtgeajgmefokifaaGreat
open Go Go.Eng

end Go.Proofs.YtgeajgmefokifaaGreat

/- Plain laws of what happens, step by step. -/
namespace Go.Proofs.YtgeajgmefokifaaGreat
open Go Go.Eng

end Go.Proofs.YtgeajgmefokifaaGreat

/- Walk of the reference: what happens in a weather. -/
namespace Go.Proofs.YtgeajgmefokifaaGreat
open Go Go.Eng

end Go.Proofs.YtgeajgmefokifaaGreat

/- Walk of the reference: the ends of a winter's spans. -/
namespace Go.Proofs.YtgeajgmefokifaaGreat
open Go Go.Eng

end Go.Proofs.YtgeajgmefokifaaGreat

/- Walks: winters and weathers compared that are equal. -/
namespace Go.Proofs.YtgeajgmefokifaaGreat
open Go Go.Eng

end Go.Proofs.YtgeajgmefokifaaGreat

/- Winters that are copied, and whose days are changed. -/
namespace Go.Proofs.YtgeajgmefokifaaGreat
open Go Go.Eng

/-! The cells of days -/
def fldD (d : Dy) : Nat → Int
  | 0 => d.n0
  | 1 => d.n1
  | 2 => d.m0
  | 3 => d.m1
  | 4 => d.l0
  | _ => d.l1
def setD (d : Dy) (f : Nat) (v : Int) : Dy :=
  match f with
  | 0 => { d with n0 := v }
  | 1 => { d with n1 := v }
  | 2 => { d with m0 := v }
  | 3 => { d with m1 := v }
  | 4 => { d with l0 := v }
  | _ => { d with l1 := v }
/-- Days in a block, with room behind them. -/
abbrev dyB (g : Nat) (l : List Dy) (sp : List Value) : Ck := .pt g (dyC l ++ sp) 46
section
variable {P : Program} {T : Tab} {ro : Cx} {n : Nat} {F : Fin} {w0 : World} {M : Nat → Prop} {k : List It} {ops : Array Oper} {rest : List Oper} {e : Env} {H Hq : List Ck}
end
/-! Copies -/
end Go.Proofs.YtgeajgmefokifaaGreat

/- Walks: a weather copied. -/
namespace Go.Proofs.YtgeajgmefokifaaGreat
open Go Go.Eng

end Go.Proofs.YtgeajgmefokifaaGreat

/- Walk: a winter of the reference. -/
namespace Go.Proofs.YtgeajgmefokifaaGreat
open Go Go.Eng

end Go.Proofs.YtgeajgmefokifaaGreat

/- Walks: whether there are too many days, or numbers. -/
namespace Go.Proofs.YtgeajgmefokifaaGreat
open Go Go.Eng

def longB (n : Nat) (ll : List (List Int)) : Bool := (ll.any fun l => decide (70 < l.length) && true) || (decide (65 < n) && true)
end Go.Proofs.YtgeajgmefokifaaGreat

/- Walk of the reference: piles. -/
namespace Go.Proofs.YtgeajgmefokifaaGreat
open Go Go.Eng

/-- Much is taken from piles, one after the other. -/
structure TkI (much : Int) (l : List Int) (k : Nat) (m : Int) (o : List Int) : Prop where
  kl : k ≤ l.length
  len : o.length = l.length
  mb : 0 ≤ m ∧ m ≤ much
  nn : ∀ x ∈ o, 0 ≤ x ∧ x ≤ 2000000
  eq : rremP much l = o.take k ++ rremP m (o.drop k)
theorem TkI.zero {much : Int} {l : List Int} (h : 0 ≤ much) (hl : ∀ x ∈ l, 0 ≤ x ∧ x ≤ 2000000) : TkI much l 0 much l := ⟨Nat.zero_le _, rfl, ⟨h, Int.le_refl _⟩, hl, by simp⟩
theorem TkI.step {much : Int} {l : List Int} {k : Nat} {m : Int} {o : List Int} (h : TkI much l k m o) (hk : k < o.length) (hm : 0 < m) {n : Int} (hn : n = min o[k] m) : TkI much l (k + 1) (m - n) (o.set k (o[k] - n)) := by
  subst hn
  have h0 := h.nn _ (List.getElem_mem hk)
  refine ⟨by have := h.len; omega, by simp [h.len], by have := h.mb; omega, fun x hx => ?_, ?_⟩
  · rcases List.mem_or_eq_of_mem_set hx with hx | rfl
    · exact h.nn x hx
    · omega
  · rw [h.eq, List.drop_eq_getElem_cons hk, rremP, if_pos (by omega)]
    have e1 : (o.set k (o[k] - min o[k] m)).take (k + 1) = o.take k ++ [o[k] - min o[k] m] := by
      rw [List.take_succ_eq_append_getElem (by simpa using hk), List.take_set_of_le (Nat.le_refl _)]
      simp
    have e2 : (o.set k (o[k] - min o[k] m)).drop (k + 1) = o.drop (k + 1) := by rw [List.drop_set_of_lt (by omega)]
    rw [e1, e2]
    simp
theorem TkI.full {much : Int} {l : List Int} {k : Nat} {m : Int} {o : List Int} (h : TkI much l k m o) (hk : ¬ k < o.length) : o = rremP much l := by
  have h1 := h.len
  have h2 := h.kl
  rw [h.eq, List.drop_eq_nil_of_le (by omega), List.take_of_length_le (by omega)]
  simp [rremP]
theorem TkI.done {much : Int} {l : List Int} {k : Nat} {m : Int} {o : List Int} (h : TkI much l k m o) (hm : ¬ m > 0) : o = rremP much l := by
  obtain rfl : m = 0 := by have := h.mb; omega
  rw [h.eq, rremP_zero, List.take_append_drop]
theorem set_ints (l : List Int) (k : Nat) (v : Int) : (ints l).set k (.int .i64 v) = ints (l.set k v) := by simp [ints, List.map_set]

end Go.Proofs.YtgeajgmefokifaaGreat

/- Walks of the reference: the first day that can fail; whether a winter is held. -/
namespace Go.Proofs.YtgeajgmefokifaaGreat
open Go Go.Eng

/-- Whether no day can fail. -/
def heldB (x : Wn) : Bool := decide ((firstV x).2 = 6) && true
end Go.Proofs.YtgeajgmefokifaaGreat

/- Walk of the reference: proofs. -/
namespace Go.Proofs.YtgeajgmefokifaaGreat
open Go Go.Eng

/-- What is left, day by day. -/
def lfK (x : Wn) (frm : Int) (i : Nat) : Int := if i ≤ frm.toNat then x.stock else phK x frm (i - 1 - frm.toNat) - (worstW x).need.getD (i - 1) 0
end Go.Proofs.YtgeajgmefokifaaGreat

/- Plain laws of winters: more stock, more room, more snow made, less need and less loss. -/
namespace Go.Proofs.YtgeajgmefokifaaGreat
open Go

structure RichD (d d' : Dy) : Prop where
  n : d'.n0 = d.n0 ∧ d.n0 ≤ d'.n1 ∧ d'.n1 ≤ d.n1
  m : d'.m1 = d.m1 ∧ d.m0 ≤ d'.m0 ∧ d'.m0 ≤ d.m1
  l : d'.l0 = d.l0 ∧ d.l0 ≤ d'.l1 ∧ d'.l1 ≤ d.l1
structure RichL (l l' : List Dy) : Prop where
  len : l'.length = l.length
  all : ∀ i (h : i < l.length) (h' : i < l'.length), RichD l[i] l'[i]
end Go.Proofs.YtgeajgmefokifaaGreat

/- Walks of the reference: the least stock and the least store. -/
namespace Go.Proofs.YtgeajgmefokifaaGreat
open Go Go.Eng

end Go.Proofs.YtgeajgmefokifaaGreat

/- Walk of the reference: the ranges of stocks. -/
namespace Go.Proofs.YtgeajgmefokifaaGreat
open Go Go.Eng

end Go.Proofs.YtgeajgmefokifaaGreat

/- The walk of CourseOpens. -/
namespace Go.Proofs.YtgeajgmefokifaaGreat
open Go Go.Eng

end Go.Proofs.YtgeajgmefokifaaGreat

/- What a function is told of its arguments: slices and structs that came in can be read. -/
namespace Go.Proofs.YtgeajgmefokifaaGreat
open Go Go.Eng

section
variable {H : Type} {enc : TypeId × Value → H} {P : Program} {w : World} {sp : Nat → Bool} {held : Bool}
theorem flat_get {sz : Nat} (hsz : 0 < sz) : ∀ (css : List (List Value)), (∀ c ∈ css, c.length = sz) → ∀ j, css.flatten[j]? = (css[j / sz]?).bind (fun c => c[j % sz]?)
  | [], _, j => by simp
  | c :: css, h, j => by
    have hc := h c List.mem_cons_self
    rw [List.flatten_cons]
    by_cases hj : j < sz
    · rw [List.getElem?_append_left (by omega), Nat.div_eq_of_lt hj, Nat.mod_eq_of_lt hj]
      rfl
    · obtain ⟨k, rfl⟩ : ∃ k, j = k + sz := ⟨j - sz, by omega⟩
      rw [List.getElem?_append_right (by omega), hc, Nat.add_sub_cancel, flat_get hsz css (fun d hd => h d (List.mem_cons_of_mem _ hd)), Nat.add_div_right _ hsz, Nat.add_mod_right]
      rfl
end
/-- A number that fits into 64 bits. -/
def I64 (n : Int) : Prop := -9223372036854775808 ≤ n ∧ n < 9223372036854775808
section
variable {H : Type} {enc : TypeId × Value → H} {P : Program} {w : World} {sp : Nat → Bool} {held : Bool}
theorem RdI.one {v : Value} {l : List Int} {lo hi : Nat} (h : RdI w lo hi v l) : oneV v = true := by
  obtain ⟨a, c, rfl, _⟩ := RdI.outI h
  rfl
end
end Go.Proofs.YtgeajgmefokifaaGreat

/- What a function of the chapter is told of its arguments. -/
namespace Go.Proofs.YtgeajgmefokifaaGreat
open Go Go.Eng

section
variable {H : Type} {enc : TypeId × Value → H} {P : Program} {w : World} {sp : Nat → Bool} {held : Bool}
end

section
variable {H : Type} {enc : TypeId × Value → H} {w : World} {sp : Nat → Bool} {held : Bool} {rc : Reach} {base : Nat} {v : Value} {d : DataW H} {ps : List MemPlace}
/-- The numbers of rules fit into 64 bits. -/
structure Rl.Big (r : Rl) : Prop where
  laps : I64 r.laps
  g0 : I64 r.g0
  g1 : I64 r.g1
  c0 : I64 r.c0
  c1 : I64 r.c1
  p0 : I64 r.p0
  p1 : I64 r.p1
  wide : I64 r.wide
  uses : I64 r.uses
end
end Go.Proofs.YtgeajgmefokifaaGreat

/- The walk of CourseWinters. -/
namespace Go.Proofs.YtgeajgmefokifaaGreat
open Go Go.Eng

end Go.Proofs.YtgeajgmefokifaaGreat

/- Walks: loops copied and turned, rules as numbers, whether there are too many lists; contracts in one piece. -/
namespace Go.Proofs.YtgeajgmefokifaaGreat
open Go Go.Eng

theorem slLp : SlT Tryz.prog 23 32 3 24 (.agg #[.int .i64 0, .int .i64 0, .int .i64 0]) := ⟨by kernel_rfl, by kernel_rfl, by kernel_rfl, by decide⟩
theorem lpC_snoc (l : List Lp) (d : Lp) : lpC (l ++ [d]) = lpC l ++ lpC [d] := by simp [lpC]
theorem lpC_one (l : List Lp) : ∀ c ∈ lpC l, oneV c = true := fun c hc => by obtain ⟨y, _, hy⟩ := List.mem_flatMap.1 hc; simp at hy; rcases hy with rfl | rfl | rfl <;> rfl
theorem Blk.rdLp {w : World} {b : Nat} {d : Lp} {t : TypeId} (h : Blk w b (lpC [d]) t) : Rd w b (b + 1) (.slice (some ⟨b, 0, none⟩) 1 1) 3 1 (lpC [d]) :=
  ⟨rfl, .inr ⟨b, 0, 1, rfl, fun _ => ⟨Nat.le_refl _, Nat.lt_succ_self _, h.lt⟩, fun j _ => by rw [Nat.zero_add]; exact Blk.cell h j⟩⟩
theorem sat_rdL {w0 w : World} {M : Nat → Prop} {H : List Ck} {v : Value} {t n : Nat} {l : List Lp} (hs : Sat w0 M H w) (hm : .ow v t 3 n (lpC l) ∈ H) (hn : n = l.length) : RdL w 0 w.heap.size v l := own_rdL (hs.mem hm) hn
/-! Contracts in one piece -/
theorem brok_fst {s : List Lp} {r : Rl} {c : List Int} : (brokenV s r c).1 = if (brokenV s r c).2 = 0 then brkL s r c else [] := by
  unfold brokenV
  split
  · rename_i h
    simp [h]
  split
  · rename_i h
    simp [h]
  split <;> simp
theorem sat_ownil {w w' : World} (t sz : Nat) (h : Chg [] w w') : Sat w M0 [.ow (.slice none 0 0) t sz 0 []] w' := Sat.ownil ((Sat.nil w M0).keep h) t sz
section
variable (w : World) (lo hi : Nat) (a : Option Addr) (cp : Nat) (s : List Lp) (r : Rl) (h : RdL w lo hi (.slice a s.length cp) s) (hlen : s.length ≤ 1000000)
include h hlen
theorem brok_u (lo2 hi9 : Nat) (v : Value) (c : List Int) (hv : RdI w lo2 hi9 v c) (hlc : c.length ≤ 1000000) :
    Ca Tryz.prog 20 [.slice a s.length cp, .agg (rlC r).toArray, v] w fun x w' => ∃ u : Value, x = .tuple #[u, .int .i64 (brokenV s r c).2] ∧ Sat w M0 [.ow u 154 1 (brokenV s r c).1.length (ints (brokenV s r c).1)] w' := by
  rw [brok_fst]
  by_cases e : (brokenV s r c).2 = 0
  · rw [if_pos e, e]
    exact brok_ok w lo hi lo2 hi9 a cp v s r c h hlen hv hlc e
  · rw [if_neg e]
    exact (brok_no w lo hi lo2 hi9 a cp v s r c h hlen hv hlc e).mono fun x w' ⟨h1, h2⟩ => ⟨_, h1, sat_ownil _ _ h2⟩
end
/-- The fewest rules, with the first course. -/
def yldV (s : List Lp) (r : Rl) : (List Int × List Int) × Int := if checkS s r ≠ 0 then (([], []), checkS s r) else ((brkL s r ((yieldO s r (coursesL s.length (nL r))).getD []), (yieldO s r (coursesL s.length (nL r))).getD []), 0)
section
variable (w : World) (lo hi : Nat) (a : Option Addr) (cp : Nat) (s : List Lp) (r : Rl) (h : RdL w lo hi (.slice a s.length cp) s) (hlen : s.length ≤ 1000000)
include h hlen
end
end Go.Proofs.YtgeajgmefokifaaGreat

/- Walk: a stadium and rules are made. -/
namespace Go.Proofs.YtgeajgmefokifaaGreat
open Go Go.Eng

structure LpM (l : Lp) : Prop where
  len : 1500 ≤ l.len ∧ l.len ≤ 3400
  climb : 0 ≤ l.climb ∧ l.climb ≤ 110
  wide : 4 ≤ l.wide ∧ l.wide ≤ 8
structure MadeS (most laps : Nat) (s : List Lp) (r : Rl) : Prop where
  n1 : 1 ≤ s.length
  n2 : s.length ≤ most
  all : ∀ l ∈ s, LpM l
  lp : 1 ≤ r.laps ∧ r.laps ≤ laps
  g : 0 ≤ r.g0 ∧ r.g0 ≤ r.g1 ∧ r.g1 ≤ 20000
  c : 0 ≤ r.c0 ∧ r.c0 ≤ r.c1 ∧ r.c1 ≤ 1000
  p : 1500 ≤ r.p0 ∧ r.p0 ≤ 1800 ∧ 2500 ≤ r.p1 ∧ r.p1 ≤ 3400
  wide : 3 ≤ r.wide ∧ r.wide ≤ 5
  uses : 1 ≤ r.uses ∧ r.uses ≤ laps
theorem MadeS.cr {most laps : Nat} {s : List Lp} {r : Rl} (h : MadeS most laps s r) (hm : most ≤ 12) (hl : laps ≤ 6) : CR s r := by
  have h1 := h.n1; have h2 := h.n2; have h3 := h.lp; have h4 := h.g; have h5 := h.c; have h6 := h.p; have h7 := h.wide; have h8 := h.uses
  exact ⟨⟨h1, by omega, fun l hl => by have h := h.all l hl; have := h.len; have := h.climb; have := h.wide; exact ⟨by omega, by omega, by omega⟩⟩, ⟨by omega, by omega, by omega, by omega, by omega, by omega⟩⟩
theorem mul_bd {a b A B : Int} (h1 : 0 ≤ a) (h2 : a ≤ A) (h3 : 0 ≤ b) (h4 : b ≤ B) : 0 ≤ a * b ∧ a * b ≤ A * B := ⟨Int.mul_nonneg h1 h3, Int.mul_le_mul h2 h4 h3 (by omega)⟩
set_option maxHeartbeats 4000000 in
theorem madeS_ca (most laps : Nat) (h1 : 1 ≤ most) (h2 : most ≤ 12) (h3 : 1 ≤ laps) (h4 : laps ≤ 6) (K : Nat) (hK : K < 100000) (w : World) (b lo hi : Nat) (bs : Value) (hby : DkB w lo hi bs) (hlh : hi ≤ b) (hd : DkS w b bs K) :
    Ca Tryz.prog 18 [.pointer (some ⟨b, 0, none⟩), .int .i64 most, .int .i64 laps] w fun v w' => ∃ y : Nat × Nat × List Lp × Rl, (v = .tuple #[.slice (some ⟨y.1, 0, none⟩) y.2.2.1.length y.2.1, .agg (rlC y.2.2.2).toArray] ∧ MadeS most laps y.2.2.1 y.2.2.2) ∧ Sat w (fun x => x = b) [.ow (.slice (some ⟨y.1, 0, none⟩) y.2.2.1.length y.2.1) 32 3 y.2.2.1.length (lpC y.2.2.1), dkP bs b (K + 100)] w' := by
  refine q_of (dk_sat hd) Tryz.func18 rfl (by simp [Tryz.ntmps18]) ?_
  (refine q_seq ?_; refine q_region ?_; refine ql_pure tabOk rfl rfl ?_)
  refine ql_alloc zero27 rfl (fun b7 => ?_)
  (refine q_nil ?_; refine q_seq ?_; refine q_region ?_; refine ql_pure tabOk rfl rfl ?_; refine q_nil ?_; (iterate 2 refine q_seq ?_); refine q_region ?_; (iterate 2 refine ql_pure tabOk rfl rfl ?_))
  refine ql_call (β := Int) (ψ := fun zq v => v = .int .i64 zq ∧ 1 ≤ zq ∧ zq ≤ most) (L' := fun _ => [dkP bs b (K + 1)]) tabOk [dkP bs b (K)] _ (fun x => x = b) rfl rfl rfl rfl (Sp.cons (by repeat constructor) (Sp.refl _)) (fun x hx => ⟨_, .head _, hx⟩) (fun w' hs => between_ca (1) (most) (by omega) (by omega) (by omega) (K) (by omega) w' b lo hi bs (hby.keepP hlh hs.chg) hlh (hs.all _ (.head _))) ?_; rintro cnt _ ⟨rfl, hcnt⟩
  (refine ql_pure tabOk rfl rfl ?_; refine q_nil ?_; refine q_block ?_)
  obtain ⟨cn, rfl⟩ := Int.eq_ofNat_of_zero_le (show 0 ≤ cnt by omega)
  have hcn : 1 ≤ cn ∧ cn ≤ most := by omega
  clear hcnt
  refine q_conv (H' := [.ow (.slice none 0 0) 32 3 0 (lpC []), dkP bs b (K + 1 + 3 * 0), .pt b7 [.int .i64 0, .int .i64 0, .int .i64 0, .int .i64 0, .int .i64 0, .int .i64 0, .int .i64 0, .int .i64 0, .int .i64 0] 27])
    (fun w' hs => (Sat.ownil hs 32 3).sp (by repeat (first | exact Sp.nil | exact Sp.refl _ | refine Sp.cons (by repeat constructor) ?_))) ?_
  refine q_loop (σ := Value × List Lp) (fun s => s.2.length ≤ cn ∧ ∀ l ∈ s.2, LpM l) (fun s => cn - s.2.length) (fun s => [(0, .pointer (some ⟨b, 0, none⟩)), (2, .int .i64 laps), (7, .pointer (some ⟨b7, 0, none⟩)), (8, s.1), (14, .int .i64 cn), (15, .int .i64 s.2.length)])
    (fun s => [.ow s.1 32 3 s.2.length (lpC s.2), dkP bs b (K + 1 + 3 * s.2.length), .pt b7 [.int .i64 0, .int .i64 0, .int .i64 0, .int .i64 0, .int .i64 0, .int .i64 0, .int .i64 0, .int .i64 0, .int .i64 0] 27]) (.slice none 0 0, []) (by simp) ⟨rfl, rfl, rfl, rfl, rfl, rfl, trivial⟩ (by repeat (first | exact Sp.nil | exact Sp.refl _ | refine Sp.cons (by repeat constructor) ?_)) ?_
  rintro ⟨v, l⟩ ⟨hl, hB⟩ K1 hK1
  simp only at hl hB
  dsimp only
  (refine q_seq ?_; refine q_region ?_; refine ql_pure tabOk rfl rfl ?_; refine q_nil ?_; refine q_seq ?_)
  refine q_if rfl (fun hc => ?_) (fun hc => ?_)
  · have hl2 : l.length < cn := by omega
    clear hc
    obtain ⟨k, hk⟩ : ∃ k, k = l.length := ⟨_, rfl⟩
    rw [← hk]
    (refine q_skip ?_; refine q_seq ?_; refine q_block ?_; refine q_region ?_; (iterate 2 refine ql_pure tabOk rfl rfl ?_))
    refine ql_call (β := Int) (ψ := fun zq v => v = .int .i64 zq ∧ 0 ≤ zq ∧ (zq < 20 ∨ zq = 0)) (L' := fun _ => [dkP bs b (K + 1 + 3 * k + 1)]) tabOk [dkP bs b (K + 1 + 3 * k)] _ (fun x => x = b) rfl rfl rfl rfl (Sp.cons (by repeat constructor) (Sp.refl _)) (fun x hx => ⟨_, .head _, hx⟩) (fun w' hs => drawP_ca (20) (K + 1 + 3 * k) (by omega) w' b lo hi bs (hby.keepP hlh hs.chg) hlh (hs.all _ (.head _))) ?_; rintro x1 _ ⟨rfl, hx1⟩
    ((iterate 2 refine ql_ar tabOk rfl rfl rfl rfl (by omega) (by omega) ?_); refine ql_pure tabOk rfl rfl ?_)
    refine ql_call (β := Int) (ψ := fun zq v => v = .int .i64 zq ∧ 0 ≤ zq ∧ (zq < 12 ∨ zq = 0)) (L' := fun _ => [dkP bs b (K + 1 + 3 * k + 1 + 1)]) tabOk [dkP bs b (K + 1 + 3 * k + 1)] _ (fun x => x = b) rfl rfl rfl rfl (Sp.cons (by repeat constructor) (Sp.refl _)) (fun x hx => ⟨_, .head _, hx⟩) (fun w' hs => drawP_ca (12) (K + 1 + 3 * k + 1) (by omega) w' b lo hi bs (hby.keepP hlh hs.chg) hlh (hs.all _ (.head _))) ?_; rintro x2 _ ⟨rfl, hx2⟩
    (refine ql_ar tabOk rfl rfl rfl rfl (by omega) (by omega) ?_; refine ql_pure tabOk rfl rfl ?_)
    refine ql_call (β := Int) (ψ := fun zq v => v = .int .i64 zq ∧ 4 ≤ zq ∧ zq ≤ 8) (L' := fun _ => [dkP bs b (K + 1 + 3 * k + 1 + 1 + 1)]) tabOk [dkP bs b (K + 1 + 3 * k + 1 + 1)] _ (fun x => x = b) rfl rfl rfl rfl (Sp.cons (by repeat constructor) (Sp.refl _)) (fun x hx => ⟨_, .head _, hx⟩) (fun w' hs => between_ca (4) (8) (by omega) (by omega) (by omega) (K + 1 + 3 * k + 1 + 1) (by omega) w' b lo hi bs (hby.keepP hlh hs.chg) hlh (hs.all _ (.head _))) ?_; rintro x3 _ ⟨rfl, hx3⟩
    skip
    refine ql_mk #[.int .i64 (1500 + 100 * x1), .int .i64 (10 * x2), .int .i64 x3] rfl (by kernel_rfl) rfl ?_
    refine ql_mkS 32 (lpC [⟨1500 + 100 * x1, 10 * x2, x3⟩]) rfl (by kernel_rfl) rfl (fun bn => ?_)
    refine ql_append (q := 1) slLp rfl rfl rfl (fun v' => by repeat constructor) (fun w' hs => ⟨_, _, Blk.rdLp (hs.blk (b := bn) (by repeat first | exact .head _ | refine .tail _ ?_))⟩) (lpC_one _) (by omega) (by omega) (fun u => ?_)
    (refine ql_pure tabOk rfl rfl ?_; refine q_nil ?_; refine q_blk ?_; refine q_region ?_; refine ql_ar tabOk rfl rfl rfl rfl (by omega) (by omega) ?_; refine ql_pure tabOk rfl rfl ?_; refine q_nil ?_)
    have e := lpC_snoc l ⟨1500 + 100 * x1, 10 * x2, x3⟩
    exact hK1 (u, l ++ [⟨1500 + 100 * x1, 10 * x2, x3⟩]) _ _ ⟨by simp only [List.length_append, List.length_cons, List.length_nil]; omega, fun d hd => by
      rcases List.mem_append.1 hd with hd | hd
      · exact hB d hd
      · obtain rfl := List.mem_singleton.1 hd
        exact ⟨by simp only; omega, by simp only; omega, hx3⟩⟩ (by simp only [List.length_append, List.length_cons, List.length_nil]; omega) ⟨rfl, rfl, rfl, rfl, rfl, lookI rfl (by simp; omega), trivial⟩ (by dsimp only; rw [e, List.length_append, ← hk]; repeat (first | exact Sp.nil | exact Sp.refl _ | refine Sp.cons (by repeat constructor) ?_))
  · have hle : l.length = cn := by omega
    clear hc hK1
    rw [hle]
    refine q_fact (fun w hs => hs.ownSome (v := v) (by repeat first | exact .head _ | refine .tail _ ?_) (by omega)) ?_
    rintro ⟨g, cd, rfl⟩
    (refine q_exit _ rfl ?_; refine q_seq ?_; refine q_region ?_; (iterate 2 refine ql_pure tabOk rfl rfl ?_))
    refine ql_call (β := Int) (ψ := fun zq v => v = .int .i64 zq ∧ 1 ≤ zq ∧ zq ≤ laps) (L' := fun _ => [dkP bs b (K + 1 + 3 * cn + 1)]) tabOk [dkP bs b (K + 1 + 3 * cn)] _ (fun x => x = b) rfl rfl rfl rfl (Sp.cons (by repeat constructor) (Sp.refl _)) (fun x hx => ⟨_, .head _, hx⟩) (fun w' hs => between_ca (1) (laps) (by omega) (by omega) (by omega) (K + 1 + 3 * cn) (by omega) w' b lo hi bs (hby.keepP hlh hs.chg) hlh (hs.all _ (.head _))) ?_; rintro la _ ⟨rfl, hla⟩
    (refine ql_pure tabOk rfl rfl ?_)
    refine ql_call (β := Int) (ψ := fun zq v => v = .int .i64 zq ∧ 3 ≤ zq ∧ zq ≤ 5) (L' := fun _ => [dkP bs b (K + 1 + 3 * cn + 1 + 1)]) tabOk [dkP bs b (K + 1 + 3 * cn + 1)] _ (fun x => x = b) rfl rfl rfl rfl (Sp.cons (by repeat constructor) (Sp.refl _)) (fun x hx => ⟨_, .head _, hx⟩) (fun w' hs => between_ca (3) (5) (by omega) (by omega) (by omega) (K + 1 + 3 * cn + 1) (by omega) w' b lo hi bs (hby.keepP hlh hs.chg) hlh (hs.all _ (.head _))) ?_; rintro wd _ ⟨rfl, hwd⟩
    ((iterate 2 refine ql_pure tabOk rfl rfl ?_))
    refine ql_call (β := Int) (ψ := fun zq v => v = .int .i64 zq ∧ 1 ≤ zq ∧ zq ≤ laps) (L' := fun _ => [dkP bs b (K + 1 + 3 * cn + 1 + 1 + 1)]) tabOk [dkP bs b (K + 1 + 3 * cn + 1 + 1)] _ (fun x => x = b) rfl rfl rfl rfl (Sp.cons (by repeat constructor) (Sp.refl _)) (fun x hx => ⟨_, .head _, hx⟩) (fun w' hs => between_ca (1) (laps) (by omega) (by omega) (by omega) (K + 1 + 3 * cn + 1 + 1) (by omega) w' b lo hi bs (hby.keepP hlh hs.chg) hlh (hs.all _ (.head _))) ?_; rintro us _ ⟨rfl, hus⟩
    refine ql_mk #[.int .i64 la, .int .i64 0, .int .i64 0, .int .i64 0, .int .i64 0, .int .i64 0, .int .i64 0, .int .i64 wd, .int .i64 us] rfl (by kernel_rfl) rfl ?_
    refine ql_alloc zero27 rfl (fun b9 => ?_)
    (refine ql_setA tabOk rfl rfl rfl rfl rfl (by repeat constructor) rfl ?_; refine q_nil ?_; refine q_seq ?_)
    refine q_draw _ [dkP bs b (K + 1 + 3 * cn + 1 + 1 + 1)] (Sp.cons (by repeat constructor) (Sp.refl _)) (by kernel_rfl) (by kernel_rfl) ?_
    (refine qf_pure tabOk rfl rfl rfl ?_; refine qf_loadB tabOk rfl rfl rfl (by repeat first | exact .head _ | refine .tail _ ?_) (by rfl) ?_; refine qf_pure tabOk rfl rfl rfl ?_)
    refine qf_call (β := Int) (ψ := fun zq v => v = .int .i64 zq ∧ 0 ≤ zq ∧ (zq < 12 ∨ zq = 0)) (L' := fun _ => [dkP bs b (K + 1 + 3 * cn + 1 + 1 + 1 + 1)]) tabOk [dkP bs b (K + 1 + 3 * cn + 1 + 1 + 1)] _ (fun x => x = b) rfl rfl rfl rfl (Sp.cons (by repeat constructor) (Sp.refl _)) (fun x hx => ⟨_, .head _, hx⟩) (fun w' hs => drawP_ca (12) (K + 1 + 3 * cn + 1 + 1 + 1) (by omega) w' b lo hi bs (hby.keepP hlh hs.chg) hlh (hs.all _ (.head _))) ?_; rintro y1 _ ⟨rfl, hy1⟩
    have hm1 := mul_bd (a := la) (b := 1500 + 100 * y1) (A := 6) (B := 2600) (by omega) (by omega) (by omega) (by omega)
    ((iterate 3 refine qf_ar tabOk rfl rfl rfl rfl (by omega) (by omega) ?_); refine qf_pure tabOk rfl rfl rfl ?_)
    refine qf_call (β := Int) (ψ := fun zq v => v = .int .i64 zq ∧ 0 ≤ zq ∧ (zq < 8 ∨ zq = 0)) (L' := fun _ => [dkP bs b (K + 1 + 3 * cn + 1 + 1 + 1 + 1 + 1)]) tabOk [dkP bs b (K + 1 + 3 * cn + 1 + 1 + 1 + 1)] _ (fun x => x = b) rfl rfl rfl rfl (Sp.cons (by repeat constructor) (Sp.refl _)) (fun x hx => ⟨_, .head _, hx⟩) (fun w' hs => drawP_ca (8) (K + 1 + 3 * cn + 1 + 1 + 1 + 1) (by omega) w' b lo hi bs (hby.keepP hlh hs.chg) hlh (hs.all _ (.head _))) ?_; rintro y2 _ ⟨rfl, hy2⟩
    have hm2 := mul_bd (a := 10 * y2) (b := la) (A := 70) (B := 6) (by omega) (by omega) (by omega) (by omega)
    (refine qf_ar tabOk rfl rfl rfl rfl (by omega) (by omega) ?_; refine qf_pure tabOk rfl rfl rfl ?_; refine qf_loadB tabOk rfl rfl rfl (by repeat first | exact .head _ | refine .tail _ ?_) (by rfl) ?_; refine qf_ar tabOk rfl rfl rfl rfl (by omega) (by omega) ?_; (iterate 2 refine qf_pure tabOk rfl rfl rfl ?_); refine qf_nil ?_; refine q_seq ?_; refine q_region ?_; (iterate 3 refine ql_pure tabOk rfl rfl ?_))
    generalize la * (1500 + 100 * y1) = q1 at *
    generalize 10 * y2 * la = q2 at *
    refine ql_call (β := Int) (ψ := fun zq v => v = .int .i64 zq ∧ 0 ≤ zq ∧ (zq < 30 ∨ zq = 0)) (L' := fun _ => [dkP bs b (K + 1 + 3 * cn + 1 + 1 + 1 + 1 + 1 + 1)]) tabOk [dkP bs b (K + 1 + 3 * cn + 1 + 1 + 1 + 1 + 1)] _ (fun x => x = b) rfl rfl rfl rfl (Sp.cons (by repeat constructor) (Sp.refl _)) (fun x hx => ⟨_, .head _, hx⟩) (fun w' hs => drawP_ca (30) (K + 1 + 3 * cn + 1 + 1 + 1 + 1 + 1) (by omega) w' b lo hi bs (hby.keepP hlh hs.chg) hlh (hs.all _ (.head _))) ?_; rintro z1 _ ⟨rfl, hz1⟩
    ((iterate 2 refine ql_ar tabOk rfl rfl rfl rfl (by omega) (by omega) ?_))
    refine ql_callv tabOk rfl rfl rfl rfl (fun w hs => spanM_ca _ _ w) ?_
    ((iterate 3 refine ql_pure tabOk rfl rfl ?_))
    refine ql_call (β := Int) (ψ := fun zq v => v = .int .i64 zq ∧ 0 ≤ zq ∧ (zq < 40 ∨ zq = 0)) (L' := fun _ => [dkP bs b (K + 1 + 3 * cn + 1 + 1 + 1 + 1 + 1 + 1 + 1)]) tabOk [dkP bs b (K + 1 + 3 * cn + 1 + 1 + 1 + 1 + 1 + 1)] _ (fun x => x = b) rfl rfl rfl rfl (Sp.cons (by repeat constructor) (Sp.refl _)) (fun x hx => ⟨_, .head _, hx⟩) (fun w' hs => drawP_ca (40) (K + 1 + 3 * cn + 1 + 1 + 1 + 1 + 1 + 1) (by omega) w' b lo hi bs (hby.keepP hlh hs.chg) hlh (hs.all _ (.head _))) ?_; rintro z2 _ ⟨rfl, hz2⟩
    ((iterate 2 refine ql_ar tabOk rfl rfl rfl rfl (by omega) (by omega) ?_))
    refine ql_callv tabOk rfl rfl rfl rfl (fun w hs => spanM_ca _ _ w) ?_
    (refine ql_pure tabOk rfl rfl ?_)
    refine ql_call (β := Int) (ψ := fun zq v => v = .int .i64 zq ∧ 0 ≤ zq ∧ (zq < 4 ∨ zq = 0)) (L' := fun _ => [dkP bs b (K + 1 + 3 * cn + 1 + 1 + 1 + 1 + 1 + 1 + 1 + 1)]) tabOk [dkP bs b (K + 1 + 3 * cn + 1 + 1 + 1 + 1 + 1 + 1 + 1)] _ (fun x => x = b) rfl rfl rfl rfl (Sp.cons (by repeat constructor) (Sp.refl _)) (fun x hx => ⟨_, .head _, hx⟩) (fun w' hs => drawP_ca (4) (K + 1 + 3 * cn + 1 + 1 + 1 + 1 + 1 + 1 + 1) (by omega) w' b lo hi bs (hby.keepP hlh hs.chg) hlh (hs.all _ (.head _))) ?_; rintro z3 _ ⟨rfl, hz3⟩
    ((iterate 2 refine ql_ar tabOk rfl rfl rfl rfl (by omega) (by omega) ?_); refine ql_pure tabOk rfl rfl ?_)
    refine ql_call (β := Int) (ψ := fun zq v => v = .int .i64 zq ∧ 0 ≤ zq ∧ (zq < 10 ∨ zq = 0)) (L' := fun _ => [dkP bs b (K + 1 + 3 * cn + 1 + 1 + 1 + 1 + 1 + 1 + 1 + 1 + 1)]) tabOk [dkP bs b (K + 1 + 3 * cn + 1 + 1 + 1 + 1 + 1 + 1 + 1 + 1)] _ (fun x => x = b) rfl rfl rfl rfl (Sp.cons (by repeat constructor) (Sp.refl _)) (fun x hx => ⟨_, .head _, hx⟩) (fun w' hs => drawP_ca (10) (K + 1 + 3 * cn + 1 + 1 + 1 + 1 + 1 + 1 + 1 + 1) (by omega) w' b lo hi bs (hby.keepP hlh hs.chg) hlh (hs.all _ (.head _))) ?_; rintro z4 _ ⟨rfl, hz4⟩
    ((iterate 2 refine ql_ar tabOk rfl rfl rfl rfl (by omega) (by omega) ?_))
    refine ql_callv tabOk rfl rfl rfl rfl (fun w hs => spanM_ca _ _ w) ?_
    (refine ql_pure tabOk rfl rfl ?_)
    refine ql_stA [.int .i64 la, .int .i64 q1, .int .i64 (q1 + 100 * z1), .int .i64 0, .int .i64 0, .int .i64 0, .int .i64 0, .int .i64 wd, .int .i64 us] tabOk rfl rfl rfl rfl rfl (by repeat constructor) rfl rfl ?_
    (refine ql_pure tabOk rfl rfl ?_)
    refine ql_stA [.int .i64 la, .int .i64 q1, .int .i64 (q1 + 100 * z1), .int .i64 q2, .int .i64 (q2 + 10 * z2), .int .i64 0, .int .i64 0, .int .i64 wd, .int .i64 us] tabOk rfl rfl rfl rfl rfl (by repeat constructor) rfl rfl ?_
    (refine ql_pure tabOk rfl rfl ?_)
    refine ql_stA [.int .i64 la, .int .i64 q1, .int .i64 (q1 + 100 * z1), .int .i64 q2, .int .i64 (q2 + 10 * z2), .int .i64 (1500 + 100 * z3), .int .i64 (2500 + 100 * z4), .int .i64 wd, .int .i64 us] tabOk rfl rfl rfl rfl rfl (by repeat constructor) rfl rfl ?_
    (refine q_nil ?_; refine q_seq ?_)
    refine q_draw _ [.pt b7 _ _] (Sp.cons (by repeat constructor) (Sp.refl _)) (by kernel_rfl) (by kernel_rfl) ?_
    (refine qf_pure tabOk rfl rfl rfl ?_; refine qf_loadAB tabOk rfl rfl rfl (by repeat first | exact .head _ | refine .tail _ ?_) (by rfl) (by rfl) ?_; refine qf_pure tabOk rfl rfl rfl ?_; refine qf_setA tabOk rfl rfl rfl rfl rfl (by repeat constructor) rfl ?_; refine qf_nil ?_; refine q_ret ?_)
    refine q_fin tabOk rfl (by repeat (first | exact RVs.nil | apply RVs.tmp rfl | apply RVs.cellA rfl rfl (by repeat first | exact .head _ | refine .tail _ ?_) (by rfl) | apply RVs.cell1 rfl rfl (by repeat first | exact .head _ | refine .tail _ ?_))) fun w hs => ?_
    exact ⟨(g, cd, l, ⟨la, q1, q1 + 100 * z1, q2, q2 + 10 * z2, 1500 + 100 * z3, 2500 + 100 * z4, wd, us⟩), ⟨by rw [hle]; rfl, ⟨by simp only; omega, by simp only; omega, hB, by simp only; omega, by simp only; omega, by simp only; omega, by simp only; omega, by simp only; omega, by simp only; omega⟩⟩, by
      dsimp only
      rw [hle]
      exact (Sat.dk (K' := K + 100) (R := [.ow (.slice (some ⟨g, 0, none⟩) cn cd) 32 3 cn (lpC l)]) (hs.sp (by repeat (first | exact Sp.nil | exact Sp.refl _ | refine Sp.cons (by repeat constructor) ?_))) (by omega)).sp (by repeat (first | exact Sp.nil | exact Sp.refl _ | refine Sp.cons (by repeat constructor) ?_))⟩
end Go.Proofs.YtgeajgmefokifaaGreat

/- Walks: a list is sorted; a course is dealt. -/
namespace Go.Proofs.YtgeajgmefokifaaGreat
open Go Go.Eng

theorem getD_set (L : List Int) (i p : Nat) (v : Int) (hi : i < L.length) : (L.set i v).getD p 0 = if p = i then v else L.getD p 0 := by
  simp only [List.getD_eq_getElem?_getD, List.getElem?_set]
  by_cases h : i = p
  · rw [if_pos h, if_pos h.symm, if_pos hi]
    rfl
  · rw [if_neg h, if_neg (fun hh => h hh.symm)]
structure InsI (l L : List Int) (i : Nat) : Prop where
  perm : L.Perm l
  srt : ∀ p q, p < q → q < i → L.getD p 0 ≤ L.getD q 0
structure InsJ (l L : List Int) (i j : Nat) : Prop where
  perm : L.Perm l
  ji : j ≤ i
  srt : ∀ p q, p < q → q ≤ i → p ≠ j → q ≠ j → L.getD p 0 ≤ L.getD q 0
  low : ∀ q, j < q → q ≤ i → L.getD j 0 ≤ L.getD q 0
theorem InsI.open {l L : List Int} {i : Nat} (h : InsI l L i) : InsJ l L i i := ⟨h.perm, Nat.le_refl _, fun p q h1 h2 _ h3 => h.srt p q h1 (by omega), fun q h1 h2 => by omega⟩
theorem InsJ.close {l L : List Int} {i j : Nat} (h : InsJ l L i j) (hj : j = 0 ∨ L.getD (j - 1) 0 ≤ L.getD j 0) : InsI l L (i + 1) := by
  refine ⟨h.perm, fun p q h1 h2 => ?_⟩
  by_cases hp : p = j
  · subst hp
    exact h.low q h1 (by omega)
  by_cases hq : q = j
  · subst hq
    rcases hj with hj | hj
    · omega
    · by_cases hp2 : p = q - 1
      · subst hp2; exact hj
      · have := h.srt p (q - 1) (by omega) (by have := h.ji; omega) hp (by omega)
        omega
  · exact h.srt p q h1 (by omega) hp hq
theorem InsJ.swap {l L : List Int} {i j : Nat} (h : InsJ l L i j) (hj : 0 < j) (hi : i < L.length) (hlt : L.getD j 0 < L.getD (j - 1) 0) {x y : Int} (hx : L.getD (j - 1) 0 = x) (hy : L.getD j 0 = y) : InsJ l ((L.set j x).set (j - 1) y) i (j - 1) := by
  have hji := h.ji
  have e : ∀ p, ((L.set j x).set (j - 1) y).getD p 0 = if p = j - 1 then y else if p = j then x else L.getD p 0 := fun p => by
    rw [getD_set _ _ _ _ (by simp; omega), getD_set _ _ _ _ (by omega)]
  refine ⟨List.Perm.trans ?_ h.perm, by omega, fun p q h1 h2 h3 h4 => ?_, fun q h1 h2 => ?_⟩
  · have h1 : j < L.length := by omega
    have h2 : j - 1 < L.length := by omega
    have ex : x = L[j - 1] := by rw [← hx, getD_at h2]
    have ey : y = L[j] := by rw [← hy, getD_at h1]
    subst ex ey
    exact List.set_set_perm h1 h2
  · rw [e, e, if_neg h3, if_neg h4]
    by_cases hp : p = j
    · rw [if_pos hp, if_neg (by omega), ← hx]
      exact h.srt (j - 1) q (by omega) h2 (by omega) (by omega)
    · rw [if_neg hp]
      by_cases hq : q = j
      · rw [if_pos hq, ← hx]
        exact h.srt p (j - 1) (by omega) (by omega) hp (by omega)
      · rw [if_neg hq]
        exact h.srt p q h1 h2 hp hq
  · rw [e, e, if_pos rfl, if_neg (by omega), ← hy]
    by_cases hq : q = j
    · rw [if_pos hq]
      omega
    · rw [if_neg hq]
      exact h.low q (by omega) h2
theorem InsI.all {l L : List Int} (h : InsI l L L.length) : srtB L = true := by
  rw [ordB_srt]
  refine List.all_eq_true.2 fun i hi => ?_
  have hi := List.mem_range.1 hi
  have := h.srt i (i + 1) (by omega) (by omega)
  simpa using this
set_option maxHeartbeats 4000000 in
theorem ins_ca (w : World) (g c : Nat) (l : List Int) (h1 : 1 ≤ l.length) (hl : l.length ≤ 12) (hb : w.ownsRow 0 3 1 (.slice (some ⟨g, 0, none⟩) l.length c) l.length (ints l)) :
    Ca Tryz.prog 128 [.slice (some ⟨g, 0, none⟩) l.length c, .int .i64 0, .int .i64 l.length] w fun v w' => ∃ L : List Int, (v = .tuple #[] ∧ L.Perm l ∧ srtB L = true) ∧ Sat w (fun x => x = g) [.ow (.slice (some ⟨g, 0, none⟩) l.length c) 3 1 l.length (ints L)] w' := by
  refine q_of (Sat.own0 hb) Tryz.func128 rfl (by simp [Tryz.ntmps128]) ?_
  (refine q_seq ?_; refine q_region ?_; refine ql_pure tabOk rfl rfl ?_; refine ql_ar tabOk rfl rfl rfl rfl (by omega) (by omega) ?_; refine ql_pure tabOk rfl rfl ?_; refine q_nil ?_; refine q_block ?_)
  refine q_loop (σ := Nat × List Int) (fun s => 1 ≤ s.1 ∧ s.1 ≤ l.length ∧ InsI l s.2 s.1) (fun s => l.length - s.1) (fun s => [(0, .slice (some ⟨g, 0, none⟩) l.length c), (1, .int .i64 0), (2, .int .i64 l.length), (6, .int .i64 s.1)])
    (fun s => [.ow (.slice (some ⟨g, 0, none⟩) l.length c) 3 1 l.length (ints s.2)]) (1, l) ⟨by simp, h1, .refl _, fun p q h1 h2 => by simp only at h2; omega⟩ ⟨rfl, rfl, rfl, rfl, trivial⟩ (by repeat (first | exact Sp.nil | exact Sp.refl _ | refine Sp.cons (by repeat constructor) ?_)) ?_
  rintro ⟨i, L⟩ ⟨hi1, hi2, hI⟩ K hK
  simp only at hi1 hi2 hI
  dsimp only
  ((iterate 2 refine q_seq ?_); refine q_region ?_; (iterate 3 refine ql_pure tabOk rfl rfl ?_); refine q_nil ?_)
  refine q_if rfl (fun hc => ?_) (fun hc => ?_)
  · have hi3 : i < l.length := by omega
    clear hc
    (refine q_skip ?_; refine q_seq ?_; refine q_block ?_; refine q_seq ?_; refine q_region ?_; (iterate 2 refine ql_pure tabOk rfl rfl ?_); refine q_nil ?_; refine q_block ?_)
    refine q_loop (σ := Nat × List Int) (fun s => InsJ l s.2 i s.1) (fun s => s.1) (fun s => [(0, .slice (some ⟨g, 0, none⟩) l.length c), (1, .int .i64 0), (2, .int .i64 l.length), (6, .int .i64 i), (7, .int .i64 s.1)])
      (fun s => [.ow (.slice (some ⟨g, 0, none⟩) l.length c) 3 1 l.length (ints s.2)]) (i, L) hI.open ⟨rfl, rfl, rfl, rfl, rfl, trivial⟩ (by repeat (first | exact Sp.nil | exact Sp.refl _ | refine Sp.cons (by repeat constructor) ?_)) ?_
    rintro ⟨j, L2⟩ hJ K2 hK2
    simp only at hJ
    dsimp only
    have hji := hJ.ji
    have hlen : L2.length = l.length := hJ.perm.length_eq
    by_cases hj0 : 0 < j
    · have y1 : j < L2.length := by omega
      have y2 : j - 1 < L2.length := by omega
      have g1 := getD_at y1
      have g2 := getD_at y2
      obtain ⟨q, hq⟩ : ∃ q : Nat, (q : Int) = (j : Int) - 1 := ⟨j - 1, by omega⟩
      have hq2 : j - 1 = q := by omega
      simp only [hq2] at y2 g2
      have hclose := hJ.close
      have hswap := hJ.swap hj0 (by omega)
      simp only [hq2] at hclose hswap
      ((iterate 2 refine q_seq ?_))
      refine q_draw _ [] (Sp.refl _) (by kernel_rfl) (by kernel_rfl) ?_
      ((iterate 2 refine qf_pure tabOk rfl rfl rfl ?_); refine qf_gtrT tabOk rfl rfl rfl (by omega) ?_; refine qf_pure tabOk rfl rfl rfl ?_; refine qf_gyes rfl ?_; refine qf_pure tabOk rfl rfl rfl ?_; refine qf_gyes rfl ?_; refine qf_pure tabOk rfl rfl rfl ?_; refine qf_gyes rfl ?_)
      refine qf_index tabOk rfl rfl rfl rfl rfl (by omega) (by omega) ?_
      (refine qf_gyes rfl ?_)
      refine qf_load1 (v := .int .i64 L2[j]) tabOk rfl rfl rfl (fun w hs => RdI.at (hs.rdI (v := .slice (some ⟨g, 0, none⟩) l.length c) (l := L2) (t := 3) (n := l.length) (by repeat first | exact .head _ | refine .tail _ ?_) hlen.symm) j y1) ?_
      (refine qf_gyes rfl ?_; refine qf_pure tabOk rfl rfl rfl ?_; refine qf_gyes rfl ?_; refine qf_pure tabOk rfl rfl rfl ?_; refine qf_gyes rfl ?_; refine qf_ar tabOk rfl rfl rfl rfl (by omega) (by omega) ?_; refine qf_gyes rfl ?_)
      rw [← hq]
      refine qf_index tabOk rfl rfl rfl rfl rfl (by omega) (by omega) ?_
      (refine qf_gyes rfl ?_)
      refine qf_load1 (v := .int .i64 L2[q]) tabOk rfl rfl rfl (fun w hs => RdI.at (hs.rdI (v := .slice (some ⟨g, 0, none⟩) l.length c) (l := L2) (t := 3) (n := l.length) (by repeat first | exact .head _ | refine .tail _ ?_) hlen.symm) q y2) ?_
      (refine qf_gyes rfl ?_)
      refine qf_callv (val := .bool (decide (L2[j] < L2[q]))) tabOk rfl rfl rfl rfl (fun w hs => ?_) ?_; exact lessI_ca L2[j] L2[q] w
      by_cases hlt : L2[j] < L2[q]
      · have hs2 := hswap (by omega) g2 g1
        rw [decide_eq_true hlt]
        (refine qf_pure tabOk rfl rfl rfl ?_; refine qf_nil ?_; refine q_cond_true rfl ?_; refine q_skip ?_; refine q_seq ?_; refine q_block ?_)
        refine q_drawB [true, true, false, false, false, true, true, true, true, true, true, true, true, true, false, false, false, false] [] [.ow (.slice (some ⟨g, 0, none⟩) l.length c) 3 1 l.length (ints L2)] (by repeat (first | exact Sp.nil | exact Sp.refl _ | refine Sp.cons (by repeat constructor) ?_)) (by kernel_rfl) (by kernel_rfl) (by kernel_rfl) ?_
        refine qb_T 2 rfl rfl (Sp.refl _) fun K1 hK1 => ?_
        ((iterate 2 refine qf_pure tabOk rfl rfl rfl ?_); refine qf_nil ?_)
        refine hK1 _ _ (qb_F 3 [.ow (.slice (some ⟨g, 0, none⟩) l.length c) 3 1 l.length (ints L2)] rfl rfl (by repeat (first | exact Sp.nil | exact Sp.refl _ | refine Sp.cons (by repeat constructor) ?_)) fun K1 hK1 => ?_)
        ((iterate 2 refine qf_pure tabOk rfl rfl rfl ?_); refine qf_ar tabOk rfl rfl rfl rfl (by omega) (by omega) ?_; refine qf_nil ?_)
        refine hK1 _ _ (qb_T 9 rfl rfl (by repeat (first | exact Sp.nil | exact Sp.refl _ | refine Sp.cons (by repeat constructor) ?_)) fun K1 hK1 => ?_)
        ((iterate 2 refine qf_pure tabOk rfl rfl rfl ?_); refine qf_ar tabOk rfl rfl rfl rfl (by omega) (by omega) ?_)
        rw [← hq]
        (refine qf_index tabOk rfl rfl rfl rfl rfl (by omega) (by omega) ?_; refine qf_load1 tabOk rfl rfl rfl (fun w hs => RdI.at (hs.rdI (l := L2) (t := 3) (n := l.length) (by repeat first | exact .head _ | refine .tail _ ?_) hlen.symm) q y2) ?_)
        ((iterate 2 refine qf_pure tabOk rfl rfl rfl ?_))
        (refine qf_index tabOk rfl rfl rfl rfl rfl (by omega) (by omega) ?_; refine qf_load1 tabOk rfl rfl rfl (fun w hs => RdI.at (hs.rdI (l := L2) (t := 3) (n := l.length) (by repeat first | exact .head _ | refine .tail _ ?_) hlen.symm) j y1) ?_)
        (refine qf_nil ?_)
        refine hK1 _ _ (qb_F 4 [.ow (.slice (some ⟨g, 0, none⟩) l.length c) 3 1 l.length (ints L2)] rfl rfl (by repeat (first | exact Sp.nil | exact Sp.refl _ | refine Sp.cons (by repeat constructor) ?_)) fun K1 hK1 => ?_)
        skip
        refine qf_index tabOk rfl rfl rfl rfl rfl (by omega) (by omega) ?_
        refine qf_storeW tabOk j rfl rfl rfl rfl (by repeat constructor) (by omega) (by simpa using y1) ?_
        skip
        refine qf_index tabOk rfl rfl rfl rfl rfl (by omega) (by omega) ?_
        refine qf_storeW tabOk q rfl rfl rfl rfl (by repeat constructor) (by omega) (by simpa using y2) ?_
        rw [set_ints, set_ints]
        (refine qf_nil ?_)
        refine hK1 _ _ (qb_nil ?_)
        (refine q_blk ?_; refine q_region ?_; refine ql_pure tabOk rfl rfl ?_; refine ql_ar tabOk rfl rfl rfl rfl (by omega) (by omega) ?_; refine ql_pure tabOk rfl rfl ?_; refine q_nil ?_)
        exact hK2 (q, _) _ _ hs2 (by simp only; omega) ⟨rfl, rfl, rfl, rfl, lookI rfl (by omega), trivial⟩ (by repeat (first | exact Sp.nil | exact Sp.refl _ | refine Sp.cons (by repeat constructor) ?_))
      · have hI2 := hclose (.inr (by omega))
        rw [decide_eq_false hlt]
        (refine qf_pure tabOk rfl rfl rfl ?_; refine qf_nil ?_; refine q_cond_false rfl ?_; refine q_exit _ rfl ?_; refine q_blk ?_; refine q_region ?_; refine ql_pure tabOk rfl rfl ?_; refine ql_ar tabOk rfl rfl rfl rfl (by omega) (by omega) ?_; refine ql_pure tabOk rfl rfl ?_; refine q_nil ?_)
        exact hK (i + 1, L2) _ _ ⟨by simp only; omega, by simp only; omega, hI2⟩ (by simp only; omega) ⟨rfl, rfl, rfl, rfl, trivial⟩ (by repeat (first | exact Sp.nil | exact Sp.refl _ | refine Sp.cons (by repeat constructor) ?_))
    · have hI2 := hJ.close (.inl (by omega))
      obtain rfl : j = 0 := by omega
      ((iterate 2 refine q_seq ?_))
      refine q_draw _ [] (Sp.refl _) (by kernel_rfl) (by kernel_rfl) ?_
      ((iterate 2 refine qf_pure tabOk rfl rfl rfl ?_); refine qf_gtrF tabOk rfl rfl rfl (by omega) ?_; refine qf_pure tabOk rfl rfl rfl ?_; (iterate 10 refine qf_gno rfl rfl rfl ?_); refine qf_pure tabOk rfl rfl rfl ?_; refine qf_nil ?_; refine q_cond_false rfl ?_; refine q_exit _ rfl ?_; refine q_blk ?_; refine q_region ?_; refine ql_pure tabOk rfl rfl ?_; refine ql_ar tabOk rfl rfl rfl rfl (by omega) (by omega) ?_; refine ql_pure tabOk rfl rfl ?_; refine q_nil ?_)
      exact hK (i + 1, L2) _ _ ⟨by simp only; omega, by simp only; omega, hI2⟩ (by simp only; omega) ⟨rfl, rfl, rfl, rfl, trivial⟩ (by repeat (first | exact Sp.nil | exact Sp.refl _ | refine Sp.cons (by repeat constructor) ?_))
  · obtain rfl : i = l.length := by omega
    have hlen : L.length = l.length := hI.perm.length_eq
    (refine q_exit _ rfl ?_)
    refine q_end tabOk rfl (by repeat (first | exact RVs.nil | apply RVs.tmp rfl | apply RVs.cellA rfl rfl (by repeat first | exact .head _ | refine .tail _ ?_) (by rfl) | apply RVs.cell1 rfl rfl (by repeat first | exact .head _ | refine .tail _ ?_))) fun w hs => ?_
    exact ⟨L, ⟨rfl, hI.perm, InsI.all (by rw [hlen]; exact hI)⟩, hs⟩
end Go.Proofs.YtgeajgmefokifaaGreat

/- The engine, part B28: a byte of a string. -/
namespace Go.Eng
open Go Go.RowKit

section
variable {P : Program} {T : Tab}
variable {ro : Cx} {n : Nat} {F : Fin} {w0 : World} {M : Nat → Prop} {k : List It} {ops : Array Oper} {rest : List Oper} {e : Env} {H Hq : List Ck}
theorem ql_strAt {d xt : Nat} {x ix : Operand} (s : ByteArray) (ik : IntKind) (i : Nat) (c : UInt8) {ty : TypeId} {pos : String} {af : Array Edge} (hu : P.underlying xt = some .string)
    (hx : opv e x = some (.string s)) (hi : opv e ix = some (.int ik i)) (hc : s[i]? = some c) (hd : Nat.blt d n = true)
    (h : QL P ro n F w0 M k ops rest ((d, .int .u8 c.toNat) :: e) H) : QL P ro n F w0 M k ops (⟨some d, .index xt x ix, ty, pos, af, none⟩ :: rest) e H := .mk fun w hs => by
  refine yl_val (by simp) hd (fun a hf => ?_) (h.h w hs)
  have e1 := hf.op hx
  have e2 := hf.op hi
  simp only [execOp, e1, e2]
  simp [Instr.index, asIntOf, run_underlying hu, hc]
end
end Go.Eng

/- Walks: short lists are sorted; a course is dealt. -/
namespace Go.Proofs.YtgeajgmefokifaaGreat
open Go Go.Eng

theorem und_str : Tryz.prog.underlying 9 = some .string := by kernel_rfl
set_option maxHeartbeats 4000000 in
theorem len64_ca (n : Nat) (hn : n ≤ 12) (w : World) : Ca Tryz.prog 138 [.int .u64 n] w fun v w' => ∃ x : Int, v = .int .i64 x ∧ Sat w M0 [] w' := by
  refine q_of (Sat.nil w M0) Tryz.func138 rfl (by simp [Tryz.ntmps138]) ?_
  obtain rfl | rfl | rfl | rfl | rfl | rfl | rfl | rfl | rfl | rfl | rfl | rfl | rfl : n = 0 ∨ n = 1 ∨ n = 2 ∨ n = 3 ∨ n = 4 ∨ n = 5 ∨ n = 6 ∨ n = 7 ∨ n = 8 ∨ n = 9 ∨ n = 10 ∨ n = 11 ∨ n = 12 := by omega
  · (refine q_seq ?_; refine q_region ?_; refine ql_pure tabOk rfl rfl ?_; refine q_nil ?_; (iterate 2 refine q_seq ?_); refine q_region ?_; (iterate 2 refine ql_pure tabOk rfl rfl ?_); refine q_nil ?_; refine q_cond_false rfl ?_; refine q_skip ?_; (iterate 2 refine q_seq ?_); refine q_region ?_; (iterate 2 refine ql_pure tabOk rfl rfl ?_); refine q_nil ?_; refine q_cond_false rfl ?_; refine q_skip ?_; (iterate 2 refine q_seq ?_); refine q_region ?_; (iterate 2 refine ql_pure tabOk rfl rfl ?_); refine q_nil ?_; refine q_cond_false rfl ?_; refine q_skip ?_; refine q_seq ?_; refine q_region ?_; (iterate 3 refine ql_pure tabOk rfl rfl ?_))
    refine ql_strAt _ .u8 0 0 und_str rfl rfl (by kernel_rfl) rfl ?_
    ((iterate 3 refine ql_pure tabOk rfl rfl ?_); refine q_nil ?_; refine q_ret ?_)
    refine q_fin tabOk rfl (by repeat (first | exact RVs.nil | apply RVs.tmp rfl | apply RVs.cellA rfl rfl (by repeat first | exact .head _ | refine .tail _ ?_) (by rfl) | apply RVs.cell1 rfl rfl (by repeat first | exact .head _ | refine .tail _ ?_))) fun w hs => ?_
    exact ⟨_, rfl, hs⟩
  · (refine q_seq ?_; refine q_region ?_; refine ql_pure tabOk rfl rfl ?_; refine q_nil ?_; (iterate 2 refine q_seq ?_); refine q_region ?_; (iterate 2 refine ql_pure tabOk rfl rfl ?_); refine q_nil ?_; refine q_cond_false rfl ?_; refine q_skip ?_; (iterate 2 refine q_seq ?_); refine q_region ?_; (iterate 2 refine ql_pure tabOk rfl rfl ?_); refine q_nil ?_; refine q_cond_false rfl ?_; refine q_skip ?_; (iterate 2 refine q_seq ?_); refine q_region ?_; (iterate 2 refine ql_pure tabOk rfl rfl ?_); refine q_nil ?_; refine q_cond_false rfl ?_; refine q_skip ?_; refine q_seq ?_; refine q_region ?_; (iterate 3 refine ql_pure tabOk rfl rfl ?_))
    refine ql_strAt _ .u8 1 1 und_str rfl rfl (by kernel_rfl) rfl ?_
    ((iterate 3 refine ql_pure tabOk rfl rfl ?_); refine q_nil ?_; refine q_ret ?_)
    refine q_fin tabOk rfl (by repeat (first | exact RVs.nil | apply RVs.tmp rfl | apply RVs.cellA rfl rfl (by repeat first | exact .head _ | refine .tail _ ?_) (by rfl) | apply RVs.cell1 rfl rfl (by repeat first | exact .head _ | refine .tail _ ?_))) fun w hs => ?_
    exact ⟨_, rfl, hs⟩
  · (refine q_seq ?_; refine q_region ?_; refine ql_pure tabOk rfl rfl ?_; refine q_nil ?_; (iterate 2 refine q_seq ?_); refine q_region ?_; (iterate 2 refine ql_pure tabOk rfl rfl ?_); refine q_nil ?_; refine q_cond_false rfl ?_; refine q_skip ?_; (iterate 2 refine q_seq ?_); refine q_region ?_; (iterate 2 refine ql_pure tabOk rfl rfl ?_); refine q_nil ?_; refine q_cond_false rfl ?_; refine q_skip ?_; (iterate 2 refine q_seq ?_); refine q_region ?_; (iterate 2 refine ql_pure tabOk rfl rfl ?_); refine q_nil ?_; refine q_cond_false rfl ?_; refine q_skip ?_; refine q_seq ?_; refine q_region ?_; (iterate 3 refine ql_pure tabOk rfl rfl ?_))
    refine ql_strAt _ .u8 2 2 und_str rfl rfl (by kernel_rfl) rfl ?_
    ((iterate 3 refine ql_pure tabOk rfl rfl ?_); refine q_nil ?_; refine q_ret ?_)
    refine q_fin tabOk rfl (by repeat (first | exact RVs.nil | apply RVs.tmp rfl | apply RVs.cellA rfl rfl (by repeat first | exact .head _ | refine .tail _ ?_) (by rfl) | apply RVs.cell1 rfl rfl (by repeat first | exact .head _ | refine .tail _ ?_))) fun w hs => ?_
    exact ⟨_, rfl, hs⟩
  · (refine q_seq ?_; refine q_region ?_; refine ql_pure tabOk rfl rfl ?_; refine q_nil ?_; (iterate 2 refine q_seq ?_); refine q_region ?_; (iterate 2 refine ql_pure tabOk rfl rfl ?_); refine q_nil ?_; refine q_cond_false rfl ?_; refine q_skip ?_; (iterate 2 refine q_seq ?_); refine q_region ?_; (iterate 2 refine ql_pure tabOk rfl rfl ?_); refine q_nil ?_; refine q_cond_false rfl ?_; refine q_skip ?_; (iterate 2 refine q_seq ?_); refine q_region ?_; (iterate 2 refine ql_pure tabOk rfl rfl ?_); refine q_nil ?_; refine q_cond_false rfl ?_; refine q_skip ?_; refine q_seq ?_; refine q_region ?_; (iterate 3 refine ql_pure tabOk rfl rfl ?_))
    refine ql_strAt _ .u8 3 2 und_str rfl rfl (by kernel_rfl) rfl ?_
    ((iterate 3 refine ql_pure tabOk rfl rfl ?_); refine q_nil ?_; refine q_ret ?_)
    refine q_fin tabOk rfl (by repeat (first | exact RVs.nil | apply RVs.tmp rfl | apply RVs.cellA rfl rfl (by repeat first | exact .head _ | refine .tail _ ?_) (by rfl) | apply RVs.cell1 rfl rfl (by repeat first | exact .head _ | refine .tail _ ?_))) fun w hs => ?_
    exact ⟨_, rfl, hs⟩
  · (refine q_seq ?_; refine q_region ?_; refine ql_pure tabOk rfl rfl ?_; refine q_nil ?_; (iterate 2 refine q_seq ?_); refine q_region ?_; (iterate 2 refine ql_pure tabOk rfl rfl ?_); refine q_nil ?_; refine q_cond_false rfl ?_; refine q_skip ?_; (iterate 2 refine q_seq ?_); refine q_region ?_; (iterate 2 refine ql_pure tabOk rfl rfl ?_); refine q_nil ?_; refine q_cond_false rfl ?_; refine q_skip ?_; (iterate 2 refine q_seq ?_); refine q_region ?_; (iterate 2 refine ql_pure tabOk rfl rfl ?_); refine q_nil ?_; refine q_cond_false rfl ?_; refine q_skip ?_; refine q_seq ?_; refine q_region ?_; (iterate 3 refine ql_pure tabOk rfl rfl ?_))
    refine ql_strAt _ .u8 4 3 und_str rfl rfl (by kernel_rfl) rfl ?_
    ((iterate 3 refine ql_pure tabOk rfl rfl ?_); refine q_nil ?_; refine q_ret ?_)
    refine q_fin tabOk rfl (by repeat (first | exact RVs.nil | apply RVs.tmp rfl | apply RVs.cellA rfl rfl (by repeat first | exact .head _ | refine .tail _ ?_) (by rfl) | apply RVs.cell1 rfl rfl (by repeat first | exact .head _ | refine .tail _ ?_))) fun w hs => ?_
    exact ⟨_, rfl, hs⟩
  · (refine q_seq ?_; refine q_region ?_; refine ql_pure tabOk rfl rfl ?_; refine q_nil ?_; (iterate 2 refine q_seq ?_); refine q_region ?_; (iterate 2 refine ql_pure tabOk rfl rfl ?_); refine q_nil ?_; refine q_cond_false rfl ?_; refine q_skip ?_; (iterate 2 refine q_seq ?_); refine q_region ?_; (iterate 2 refine ql_pure tabOk rfl rfl ?_); refine q_nil ?_; refine q_cond_false rfl ?_; refine q_skip ?_; (iterate 2 refine q_seq ?_); refine q_region ?_; (iterate 2 refine ql_pure tabOk rfl rfl ?_); refine q_nil ?_; refine q_cond_false rfl ?_; refine q_skip ?_; refine q_seq ?_; refine q_region ?_; (iterate 3 refine ql_pure tabOk rfl rfl ?_))
    refine ql_strAt _ .u8 5 3 und_str rfl rfl (by kernel_rfl) rfl ?_
    ((iterate 3 refine ql_pure tabOk rfl rfl ?_); refine q_nil ?_; refine q_ret ?_)
    refine q_fin tabOk rfl (by repeat (first | exact RVs.nil | apply RVs.tmp rfl | apply RVs.cellA rfl rfl (by repeat first | exact .head _ | refine .tail _ ?_) (by rfl) | apply RVs.cell1 rfl rfl (by repeat first | exact .head _ | refine .tail _ ?_))) fun w hs => ?_
    exact ⟨_, rfl, hs⟩
  · (refine q_seq ?_; refine q_region ?_; refine ql_pure tabOk rfl rfl ?_; refine q_nil ?_; (iterate 2 refine q_seq ?_); refine q_region ?_; (iterate 2 refine ql_pure tabOk rfl rfl ?_); refine q_nil ?_; refine q_cond_false rfl ?_; refine q_skip ?_; (iterate 2 refine q_seq ?_); refine q_region ?_; (iterate 2 refine ql_pure tabOk rfl rfl ?_); refine q_nil ?_; refine q_cond_false rfl ?_; refine q_skip ?_; (iterate 2 refine q_seq ?_); refine q_region ?_; (iterate 2 refine ql_pure tabOk rfl rfl ?_); refine q_nil ?_; refine q_cond_false rfl ?_; refine q_skip ?_; refine q_seq ?_; refine q_region ?_; (iterate 3 refine ql_pure tabOk rfl rfl ?_))
    refine ql_strAt _ .u8 6 3 und_str rfl rfl (by kernel_rfl) rfl ?_
    ((iterate 3 refine ql_pure tabOk rfl rfl ?_); refine q_nil ?_; refine q_ret ?_)
    refine q_fin tabOk rfl (by repeat (first | exact RVs.nil | apply RVs.tmp rfl | apply RVs.cellA rfl rfl (by repeat first | exact .head _ | refine .tail _ ?_) (by rfl) | apply RVs.cell1 rfl rfl (by repeat first | exact .head _ | refine .tail _ ?_))) fun w hs => ?_
    exact ⟨_, rfl, hs⟩
  · (refine q_seq ?_; refine q_region ?_; refine ql_pure tabOk rfl rfl ?_; refine q_nil ?_; (iterate 2 refine q_seq ?_); refine q_region ?_; (iterate 2 refine ql_pure tabOk rfl rfl ?_); refine q_nil ?_; refine q_cond_false rfl ?_; refine q_skip ?_; (iterate 2 refine q_seq ?_); refine q_region ?_; (iterate 2 refine ql_pure tabOk rfl rfl ?_); refine q_nil ?_; refine q_cond_false rfl ?_; refine q_skip ?_; (iterate 2 refine q_seq ?_); refine q_region ?_; (iterate 2 refine ql_pure tabOk rfl rfl ?_); refine q_nil ?_; refine q_cond_false rfl ?_; refine q_skip ?_; refine q_seq ?_; refine q_region ?_; (iterate 3 refine ql_pure tabOk rfl rfl ?_))
    refine ql_strAt _ .u8 7 3 und_str rfl rfl (by kernel_rfl) rfl ?_
    ((iterate 3 refine ql_pure tabOk rfl rfl ?_); refine q_nil ?_; refine q_ret ?_)
    refine q_fin tabOk rfl (by repeat (first | exact RVs.nil | apply RVs.tmp rfl | apply RVs.cellA rfl rfl (by repeat first | exact .head _ | refine .tail _ ?_) (by rfl) | apply RVs.cell1 rfl rfl (by repeat first | exact .head _ | refine .tail _ ?_))) fun w hs => ?_
    exact ⟨_, rfl, hs⟩
  · (refine q_seq ?_; refine q_region ?_; refine ql_pure tabOk rfl rfl ?_; refine q_nil ?_; (iterate 2 refine q_seq ?_); refine q_region ?_; (iterate 2 refine ql_pure tabOk rfl rfl ?_); refine q_nil ?_; refine q_cond_false rfl ?_; refine q_skip ?_; (iterate 2 refine q_seq ?_); refine q_region ?_; (iterate 2 refine ql_pure tabOk rfl rfl ?_); refine q_nil ?_; refine q_cond_false rfl ?_; refine q_skip ?_; (iterate 2 refine q_seq ?_); refine q_region ?_; (iterate 2 refine ql_pure tabOk rfl rfl ?_); refine q_nil ?_; refine q_cond_false rfl ?_; refine q_skip ?_; refine q_seq ?_; refine q_region ?_; (iterate 3 refine ql_pure tabOk rfl rfl ?_))
    refine ql_strAt _ .u8 8 4 und_str rfl rfl (by kernel_rfl) rfl ?_
    ((iterate 3 refine ql_pure tabOk rfl rfl ?_); refine q_nil ?_; refine q_ret ?_)
    refine q_fin tabOk rfl (by repeat (first | exact RVs.nil | apply RVs.tmp rfl | apply RVs.cellA rfl rfl (by repeat first | exact .head _ | refine .tail _ ?_) (by rfl) | apply RVs.cell1 rfl rfl (by repeat first | exact .head _ | refine .tail _ ?_))) fun w hs => ?_
    exact ⟨_, rfl, hs⟩
  · (refine q_seq ?_; refine q_region ?_; refine ql_pure tabOk rfl rfl ?_; refine q_nil ?_; (iterate 2 refine q_seq ?_); refine q_region ?_; (iterate 2 refine ql_pure tabOk rfl rfl ?_); refine q_nil ?_; refine q_cond_false rfl ?_; refine q_skip ?_; (iterate 2 refine q_seq ?_); refine q_region ?_; (iterate 2 refine ql_pure tabOk rfl rfl ?_); refine q_nil ?_; refine q_cond_false rfl ?_; refine q_skip ?_; (iterate 2 refine q_seq ?_); refine q_region ?_; (iterate 2 refine ql_pure tabOk rfl rfl ?_); refine q_nil ?_; refine q_cond_false rfl ?_; refine q_skip ?_; refine q_seq ?_; refine q_region ?_; (iterate 3 refine ql_pure tabOk rfl rfl ?_))
    refine ql_strAt _ .u8 9 4 und_str rfl rfl (by kernel_rfl) rfl ?_
    ((iterate 3 refine ql_pure tabOk rfl rfl ?_); refine q_nil ?_; refine q_ret ?_)
    refine q_fin tabOk rfl (by repeat (first | exact RVs.nil | apply RVs.tmp rfl | apply RVs.cellA rfl rfl (by repeat first | exact .head _ | refine .tail _ ?_) (by rfl) | apply RVs.cell1 rfl rfl (by repeat first | exact .head _ | refine .tail _ ?_))) fun w hs => ?_
    exact ⟨_, rfl, hs⟩
  · (refine q_seq ?_; refine q_region ?_; refine ql_pure tabOk rfl rfl ?_; refine q_nil ?_; (iterate 2 refine q_seq ?_); refine q_region ?_; (iterate 2 refine ql_pure tabOk rfl rfl ?_); refine q_nil ?_; refine q_cond_false rfl ?_; refine q_skip ?_; (iterate 2 refine q_seq ?_); refine q_region ?_; (iterate 2 refine ql_pure tabOk rfl rfl ?_); refine q_nil ?_; refine q_cond_false rfl ?_; refine q_skip ?_; (iterate 2 refine q_seq ?_); refine q_region ?_; (iterate 2 refine ql_pure tabOk rfl rfl ?_); refine q_nil ?_; refine q_cond_false rfl ?_; refine q_skip ?_; refine q_seq ?_; refine q_region ?_; (iterate 3 refine ql_pure tabOk rfl rfl ?_))
    refine ql_strAt _ .u8 10 4 und_str rfl rfl (by kernel_rfl) rfl ?_
    ((iterate 3 refine ql_pure tabOk rfl rfl ?_); refine q_nil ?_; refine q_ret ?_)
    refine q_fin tabOk rfl (by repeat (first | exact RVs.nil | apply RVs.tmp rfl | apply RVs.cellA rfl rfl (by repeat first | exact .head _ | refine .tail _ ?_) (by rfl) | apply RVs.cell1 rfl rfl (by repeat first | exact .head _ | refine .tail _ ?_))) fun w hs => ?_
    exact ⟨_, rfl, hs⟩
  · (refine q_seq ?_; refine q_region ?_; refine ql_pure tabOk rfl rfl ?_; refine q_nil ?_; (iterate 2 refine q_seq ?_); refine q_region ?_; (iterate 2 refine ql_pure tabOk rfl rfl ?_); refine q_nil ?_; refine q_cond_false rfl ?_; refine q_skip ?_; (iterate 2 refine q_seq ?_); refine q_region ?_; (iterate 2 refine ql_pure tabOk rfl rfl ?_); refine q_nil ?_; refine q_cond_false rfl ?_; refine q_skip ?_; (iterate 2 refine q_seq ?_); refine q_region ?_; (iterate 2 refine ql_pure tabOk rfl rfl ?_); refine q_nil ?_; refine q_cond_false rfl ?_; refine q_skip ?_; refine q_seq ?_; refine q_region ?_; (iterate 3 refine ql_pure tabOk rfl rfl ?_))
    refine ql_strAt _ .u8 11 4 und_str rfl rfl (by kernel_rfl) rfl ?_
    ((iterate 3 refine ql_pure tabOk rfl rfl ?_); refine q_nil ?_; refine q_ret ?_)
    refine q_fin tabOk rfl (by repeat (first | exact RVs.nil | apply RVs.tmp rfl | apply RVs.cellA rfl rfl (by repeat first | exact .head _ | refine .tail _ ?_) (by rfl) | apply RVs.cell1 rfl rfl (by repeat first | exact .head _ | refine .tail _ ?_))) fun w hs => ?_
    exact ⟨_, rfl, hs⟩
  · (refine q_seq ?_; refine q_region ?_; refine ql_pure tabOk rfl rfl ?_; refine q_nil ?_; (iterate 2 refine q_seq ?_); refine q_region ?_; (iterate 2 refine ql_pure tabOk rfl rfl ?_); refine q_nil ?_; refine q_cond_false rfl ?_; refine q_skip ?_; (iterate 2 refine q_seq ?_); refine q_region ?_; (iterate 2 refine ql_pure tabOk rfl rfl ?_); refine q_nil ?_; refine q_cond_false rfl ?_; refine q_skip ?_; (iterate 2 refine q_seq ?_); refine q_region ?_; (iterate 2 refine ql_pure tabOk rfl rfl ?_); refine q_nil ?_; refine q_cond_false rfl ?_; refine q_skip ?_; refine q_seq ?_; refine q_region ?_; (iterate 3 refine ql_pure tabOk rfl rfl ?_))
    refine ql_strAt _ .u8 12 4 und_str rfl rfl (by kernel_rfl) rfl ?_
    ((iterate 3 refine ql_pure tabOk rfl rfl ?_); refine q_nil ?_; refine q_ret ?_)
    refine q_fin tabOk rfl (by repeat (first | exact RVs.nil | apply RVs.tmp rfl | apply RVs.cellA rfl rfl (by repeat first | exact .head _ | refine .tail _ ?_) (by rfl) | apply RVs.cell1 rfl rfl (by repeat first | exact .head _ | refine .tail _ ?_))) fun w hs => ?_
    exact ⟨_, rfl, hs⟩
theorem len_ca (n : Nat) (hn : n ≤ 12) (w : World) : Ca Tryz.prog 93 [.int .u64 n] w fun v w' => ∃ x : Int, v = .int .i64 x ∧ Sat w M0 [] w' := by
  refine q_of (Sat.nil w M0) Tryz.func93 rfl (by simp [Tryz.ntmps93]) ?_
  (refine q_seq ?_; refine q_region ?_; refine ql_pure tabOk rfl rfl ?_; refine q_nil ?_; refine q_seq ?_; refine q_cond_false rfl ?_; refine q_skip ?_; refine q_seq ?_; refine q_region ?_; refine ql_pure tabOk rfl rfl ?_)
  refine ql_call (β := Int) tabOk [] _ M0 rfl rfl rfl rfl (Sp.refl _) (fun _ h => h.elim) (fun w' hs => len64_ca n hn w') ?_
  rintro x _ rfl
  dsimp only [List.cons_append, List.nil_append]
  (refine ql_pure tabOk rfl rfl ?_; refine q_nil ?_; refine q_ret ?_)
  refine q_fin tabOk rfl (by repeat (first | exact RVs.nil | apply RVs.tmp rfl | apply RVs.cellA rfl rfl (by repeat first | exact .head _ | refine .tail _ ?_) (by rfl) | apply RVs.cell1 rfl rfl (by repeat first | exact .head _ | refine .tail _ ?_))) fun w hs => ?_
  exact ⟨_, rfl, hs⟩
set_option maxHeartbeats 4000000 in
theorem pdq_ca (w : World) (g c : Nat) (l : List Int) (lim : Int) (h1 : 1 ≤ l.length) (hl : l.length ≤ 12) (hb : w.ownsRow 0 3 1 (.slice (some ⟨g, 0, none⟩) l.length c) l.length (ints l)) :
    Ca Tryz.prog 92 [.slice (some ⟨g, 0, none⟩) l.length c, .int .i64 0, .int .i64 l.length, .int .i64 lim] w fun v w' => ∃ L : List Int, (v = .tuple #[] ∧ L.Perm l ∧ srtB L = true) ∧ Sat w (fun x => x = g) [.ow (.slice (some ⟨g, 0, none⟩) l.length c) 3 1 l.length (ints L)] w' := by
  refine q_of (Sat.own0 hb) Tryz.func92 rfl (by simp [Tryz.ntmps92]) ?_
  (refine q_seq ?_; refine q_region ?_; refine ql_pure tabOk rfl rfl ?_; refine q_nil ?_; refine q_seq ?_; refine q_region ?_; refine ql_pure tabOk rfl rfl ?_; refine q_nil ?_; refine q_block ?_)
  refine q_loop (σ := Unit) (fun _ => True) (fun _ => 0) (fun _ => [(0, .slice (some ⟨g, 0, none⟩) l.length c), (1, .int .i64 0), (2, .int .i64 l.length)])
    (fun _ => [.ow (.slice (some ⟨g, 0, none⟩) l.length c) 3 1 l.length (ints l)]) () trivial ⟨rfl, rfl, rfl, trivial⟩ (by repeat (first | exact Sp.nil | exact Sp.refl _ | refine Sp.cons (by repeat constructor) ?_)) ?_
  rintro _ _ K hK
  clear hK
  (refine q_block ?_; refine q_seq ?_; refine q_region ?_; (iterate 2 refine ql_pure tabOk rfl rfl ?_); refine ql_ar tabOk rfl rfl rfl rfl (by omega) (by omega) ?_; refine ql_pure tabOk rfl rfl ?_; refine q_nil ?_; (iterate 2 refine q_seq ?_); refine q_region ?_; refine ql_pure tabOk rfl rfl ?_; refine ql_leqT tabOk rfl rfl rfl (by omega) ?_; refine q_nil ?_; refine q_cond_true rfl ?_; refine q_seq ?_; refine q_region ?_; (iterate 3 refine ql_pure tabOk rfl rfl ?_))
  refine ql_call (β := List Int) (ψ := fun L v => v = .tuple #[] ∧ L.Perm l ∧ srtB L = true) (L' := fun L => [.ow (.slice (some ⟨g, 0, none⟩) l.length c) 3 1 l.length (ints L)]) tabOk [.ow (.slice (some ⟨g, 0, none⟩) l.length c) 3 1 l.length (ints l)] _ (fun x => x = g) rfl rfl rfl rfl (Sp.cons (by repeat constructor) (Sp.refl _)) (fun x hx => ⟨_, .head _, by subst hx; rfl⟩) (fun w' hs => ins_ca w' g c l h1 hl (hs.all _ (.head _))) ?_
  rintro L _ ⟨rfl, hp, hso⟩
  dsimp only [List.cons_append, List.nil_append]
  (refine q_nil ?_; refine q_ret ?_)
  refine q_fin tabOk rfl (by repeat (first | exact RVs.nil | apply RVs.tmp rfl | apply RVs.cellA rfl rfl (by repeat first | exact .head _ | refine .tail _ ?_) (by rfl) | apply RVs.cell1 rfl rfl (by repeat first | exact .head _ | refine .tail _ ?_))) fun w hs => ?_
  exact ⟨L, ⟨rfl, hp, hso⟩, hs⟩
set_option maxHeartbeats 4000000 in
theorem sort_ca (w : World) (g c : Nat) (l : List Int) (h1 : 1 ≤ l.length) (hl : l.length ≤ 12) (hb : w.ownsRow 0 3 1 (.slice (some ⟨g, 0, none⟩) l.length c) l.length (ints l)) :
    Ca Tryz.prog 30 [.slice (some ⟨g, 0, none⟩) l.length c] w fun v w' => ∃ L : List Int, (v = .tuple #[] ∧ L.Perm l ∧ srtB L = true) ∧ Sat w (fun x => x = g) [.ow (.slice (some ⟨g, 0, none⟩) l.length c) 3 1 l.length (ints L)] w' := by
  refine q_of (Sat.own0 hb) Tryz.func30 rfl (by simp [Tryz.ntmps30]) ?_
  (refine q_seq ?_; refine q_region ?_; (iterate 3 refine ql_pure tabOk rfl rfl ?_); refine q_nil ?_; refine q_region ?_; (iterate 4 refine ql_pure tabOk rfl rfl ?_))
  have ew : IntKind.u64.wrap (l.length : Int) = l.length := by
    simp only [IntKind.wrap, IntKind.signed, IntKind.bits]
    simp
    omega
  refine ql_call (β := Int) tabOk [] _ M0 rfl rfl rfl rfl (Sp.refl _) (fun _ h => h.elim) (fun w' hs => by
    have := len_ca l.length hl w'
    rw [← ew] at this
    exact this) ?_
  rintro x _ rfl
  dsimp only [List.cons_append, List.nil_append]
  skip
  refine ql_call (β := List Int) (ψ := fun L v => v = .tuple #[] ∧ L.Perm l ∧ srtB L = true) (L' := fun L => [.ow (.slice (some ⟨g, 0, none⟩) l.length c) 3 1 l.length (ints L)]) tabOk [.ow (.slice (some ⟨g, 0, none⟩) l.length c) 3 1 l.length (ints l)] _ (fun x => x = g) rfl rfl rfl rfl (Sp.cons (by repeat constructor) (Sp.refl _)) (fun x hx => ⟨_, .head _, by subst hx; rfl⟩) (fun w' hs => pdq_ca w' g c l x h1 hl (hs.all _ (.head _))) ?_
  rintro L _ ⟨rfl, hp, hso⟩
  dsimp only [List.cons_append, List.nil_append]
  (refine q_nil ?_)
  refine q_end tabOk rfl (by repeat (first | exact RVs.nil | apply RVs.tmp rfl | apply RVs.cellA rfl rfl (by repeat first | exact .head _ | refine .tail _ ?_) (by rfl) | apply RVs.cell1 rfl rfl (by repeat first | exact .head _ | refine .tail _ ?_))) fun w hs => ?_
  exact ⟨L, ⟨rfl, hp, hso⟩, hs⟩
set_option maxHeartbeats 4000000 in
theorem picked_ca (loops laps : Nat) (h1 : 1 ≤ loops) (h2 : loops ≤ 12) (h3 : 1 ≤ laps) (h4 : laps ≤ 6) (K : Nat) (hK : K < 100000) (w : World) (b lo hi : Nat) (bs : Value) (hby : DkB w lo hi bs) (hlh : hi ≤ b) (hd : DkS w b bs K) :
    Ca Tryz.prog 26 [.pointer (some ⟨b, 0, none⟩), .int .i64 loops, .int .i64 laps] w fun v w' => ∃ y : Nat × Nat × List Int, (v = .slice (some ⟨y.1, 0, none⟩) y.2.2.length y.2.1 ∧ y.2.2.length = laps ∧ (∀ x ∈ y.2.2, 0 ≤ x ∧ x < loops) ∧ srtB y.2.2 = true) ∧ Sat w (fun x => x = b) [.ow (.slice (some ⟨y.1, 0, none⟩) y.2.2.length y.2.1) 3 1 y.2.2.length (ints y.2.2), dkP bs b (K + 6)] w' := by
  refine q_of (dk_sat hd) Tryz.func26 rfl (by simp [Tryz.ntmps26]) ?_
  (refine q_seq ?_; refine q_region ?_; refine ql_pure tabOk rfl rfl ?_; refine q_nil ?_; refine q_seq ?_; refine q_region ?_; refine ql_pure tabOk rfl rfl ?_; refine q_nil ?_; (iterate 2 refine q_seq ?_); refine q_region ?_; (iterate 2 refine ql_pure tabOk rfl rfl ?_); refine q_nil ?_; refine q_block ?_)
  refine q_conv (H' := [.ow (.slice none 0 0) 3 1 0 (ints []), dkP bs b (K + 0)]) (fun w' hs => (Sat.ownil hs 3 1).sp (by repeat (first | exact Sp.nil | exact Sp.refl _ | refine Sp.cons (by repeat constructor) ?_))) ?_
  refine q_loop (σ := Value × List Int) (fun s => s.2.length ≤ laps ∧ ∀ x ∈ s.2, 0 ≤ x ∧ x < loops) (fun s => laps - s.2.length) (fun s => [(0, .pointer (some ⟨b, 0, none⟩)), (1, .int .i64 loops), (7, s.1), (8, .int .i64 laps), (9, .int .i64 s.2.length)])
    (fun s => [.ow s.1 3 1 s.2.length (ints s.2), dkP bs b (K + s.2.length)]) (.slice none 0 0, []) (by simp) ⟨rfl, rfl, rfl, rfl, rfl, trivial⟩ (by repeat (first | exact Sp.nil | exact Sp.refl _ | refine Sp.cons (by repeat constructor) ?_)) ?_
  rintro ⟨v, l⟩ ⟨hl, hB⟩ K1 hK1
  simp only at hl hB
  dsimp only
  (refine q_seq ?_; refine q_region ?_; refine ql_pure tabOk rfl rfl ?_; refine q_nil ?_; refine q_seq ?_)
  refine q_if rfl (fun hc => ?_) (fun hc => ?_)
  · have hl2 : l.length < laps := by omega
    clear hc
    obtain ⟨k, hk⟩ : ∃ k, k = l.length := ⟨_, rfl⟩
    rw [← hk]
    (refine q_skip ?_; refine q_seq ?_; refine q_block ?_; refine q_region ?_; (iterate 3 refine ql_pure tabOk rfl rfl ?_))
    refine ql_call (β := Int) (ψ := fun zq v => v = .int .i64 zq ∧ 0 ≤ zq ∧ (zq < (loops : Int) ∨ zq = 0)) (L' := fun _ => [dkP bs b (K + k + 1)]) tabOk [dkP bs b (K + k)] _ (fun x => x = b) rfl rfl rfl rfl (Sp.cons (by repeat constructor) (Sp.refl _)) (fun x hx => ⟨_, .head _, hx⟩) (fun w' hs => drawP_ca ((loops : Int)) (K + k) (by omega) w' b lo hi bs (hby.keepP hlh hs.chg) hlh (hs.all _ (.head _))) ?_; rintro x1 _ ⟨rfl, hx1⟩
    skip
    refine ql_mkS 3 [.int .i64 x1] rfl (by kernel_rfl) rfl (fun bn => ?_)
    refine ql_append (q := 1) slI rfl rfl rfl (fun v' => by repeat constructor) (fun w' hs => ⟨_, _, Blk.rd (hs.blk (b := bn) (by repeat first | exact .head _ | refine .tail _ ?_)) rfl 1⟩) (by simp [oneV]) (by omega) (by omega) (fun u => ?_)
    (refine ql_pure tabOk rfl rfl ?_; refine q_nil ?_; refine q_blk ?_; refine q_region ?_; refine ql_ar tabOk rfl rfl rfl rfl (by omega) (by omega) ?_; refine ql_pure tabOk rfl rfl ?_; refine q_nil ?_)
    exact hK1 (u, l ++ [x1]) _ _ ⟨by simp only [List.length_append, List.length_cons, List.length_nil]; omega, fun d hd => by
      rcases List.mem_append.1 hd with hd | hd
      · exact hB d hd
      · obtain rfl := List.mem_singleton.1 hd
        omega⟩ (by simp only [List.length_append, List.length_cons, List.length_nil]; omega) ⟨rfl, rfl, rfl, rfl, lookI rfl (by simp; omega), trivial⟩ (by dsimp only; rw [show ints (l ++ [x1]) = ints l ++ [.int .i64 x1] by simp [ints], List.length_append, ← hk]; repeat (first | exact Sp.nil | exact Sp.refl _ | refine Sp.cons (by repeat constructor) ?_))
  · have hle : l.length = laps := by omega
    clear hc hK1
    refine q_fact (fun w hs => hs.ownSome (v := v) (by repeat first | exact .head _ | refine .tail _ ?_) (by omega)) ?_
    rintro ⟨g, cd, rfl⟩
    (refine q_exit _ rfl ?_; refine q_seq ?_; refine q_region ?_; refine ql_pure tabOk rfl rfl ?_)
    refine ql_call (β := List Int) (ψ := fun L v => v = .tuple #[] ∧ L.Perm l ∧ srtB L = true) (L' := fun L => [.ow (.slice (some ⟨g, 0, none⟩) l.length cd) 3 1 l.length (ints L)]) tabOk [.ow (.slice (some ⟨g, 0, none⟩) l.length cd) 3 1 l.length (ints l)] _ (fun x => x = g) rfl rfl rfl rfl (Sp.cons (by repeat constructor) (Sp.refl _)) (fun x hx => ⟨_, .head _, by subst hx; rfl⟩) (fun w' hs => sort_ca w' g cd l (by omega) (by omega) (hs.all _ (.head _))) ?_
    rintro L _ ⟨rfl, hp, hso⟩
    dsimp only [List.cons_append, List.nil_append]
    have hLl := hp.length_eq
    rw [← hLl]
    (refine q_nil ?_; refine q_seq ?_; refine q_region ?_; (iterate 2 refine ql_pure tabOk rfl rfl ?_); refine q_nil ?_; refine q_ret ?_)
    refine q_fin tabOk rfl (by repeat (first | exact RVs.nil | apply RVs.tmp rfl | apply RVs.cellA rfl rfl (by repeat first | exact .head _ | refine .tail _ ?_) (by rfl) | apply RVs.cell1 rfl rfl (by repeat first | exact .head _ | refine .tail _ ?_))) fun w hs => ?_
    exact ⟨(g, cd, L), ⟨rfl, by simp only; omega, fun x hx => hB x (hp.mem_iff.1 hx), hso⟩, (Sat.dk (K' := K + 6) (R := [.ow (.slice (some ⟨g, 0, none⟩) L.length cd) 3 1 L.length (ints L)]) (hs.sp (by repeat (first | exact Sp.nil | exact Sp.refl _ | refine Sp.cons (by repeat constructor) ?_))) (by omega)).sp (by repeat (first | exact Sp.nil | exact Sp.refl _ | refine Sp.cons (by repeat constructor) ?_))⟩
end Go.Proofs.YtgeajgmefokifaaGreat

/- Walk: numbers are shuffled. -/
namespace Go.Proofs.YtgeajgmefokifaaGreat
open Go Go.Eng

abbrev upN (l : List Nat) : List Int := l.map fun (s : Nat) => (s : Int)
end Go.Proofs.YtgeajgmefokifaaGreat

/- The plain laws of CourseYielded: rules that are made wider. -/
namespace Go.Proofs.YtgeajgmefokifaaGreat

/-- Which rule is broken. -/
def mkJ (s : List Lp) (r : Rl) (c : List Int) (j : Nat) : Bool := (marksV s r c).getD j false
/-- A rule is made as wide as it can be. -/
def wdn (r : Rl) (x : Int) : Rl := if x = 0 then { r with g0 := 0, g1 := 200000 } else if x = 1 then { r with c0 := 0, c1 := 200000 } else if x = 2 then { r with p0 := 0, p1 := 200000 } else if x = 3 then { r with wide := 1 } else { r with uses := 6 }
/-- .. all but one of the first rules. -/
def wdP (r : Rl) (l : List Int) (skip : Int) : Nat → Rl
  | 0 => r
  | t + 1 => if (t : Int) = skip then wdP r l skip t else wdn (wdP r l skip t) (l.getD t 0)
def Wd (l : List Int) (skip : Int) (t : Nat) (j : Nat) : Prop := ∃ i : Nat, i < t ∧ (i : Int) ≠ skip ∧ l.getD i 0 = (j : Int)
structure WdI (s : List Lp) (r R : Rl) (W : Nat → Prop) : Prop where
  laps : R.laps = r.laps
  g : (W 0 ∧ R.g0 = 0 ∧ R.g1 = 200000) ∨ (¬ W 0 ∧ R.g0 = r.g0 ∧ R.g1 = r.g1)
  c : (W 1 ∧ R.c0 = 0 ∧ R.c1 = 200000) ∨ (¬ W 1 ∧ R.c0 = r.c0 ∧ R.c1 = r.c1)
  p : (W 2 ∧ R.p0 = 0 ∧ R.p1 = 200000) ∨ (¬ W 2 ∧ R.p0 = r.p0 ∧ R.p1 = r.p1)
  w : (W 3 ∧ R.wide = 1) ∨ (¬ W 3 ∧ R.wide = r.wide)
  u : (W 4 ∧ R.uses = 6) ∨ (¬ W 4 ∧ R.uses = r.uses)
theorem right_iff (s : List Lp) (r : Rl) (c : List Int) : rightB s r c = true ↔ ∀ j, j < 5 → mkJ s r c j = false := by
  unfold rightB mkJ marksV
  constructor
  · intro h j hj
    have h := List.all_eq_true.1 h
    simp only [List.mem_cons, List.not_mem_nil, or_false, forall_eq_or_imp, forall_eq, Bool.not_eq_true'] at h
    have hj5 : j = 0 ∨ j = 1 ∨ j = 2 ∨ j = 3 ∨ j = 4 := by omega
    rcases hj5 with rfl | rfl | rfl | rfl | rfl
    · exact h.1
    · exact h.2.1
    · exact h.2.2.1
    · exact h.2.2.2.1
    · exact h.2.2.2.2
  · intro h
    have h0 := h 0 (by omega); have h1 := h 1 (by omega); have h2 := h 2 (by omega); have h3 := h 3 (by omega); have h4 := h 4 (by omega)
    simp only [List.getD_cons_zero, List.getD_cons_succ] at h0 h1 h2 h3 h4
    simp [h0, h1, h2, h3, h4]
/-- There are no more courses than may be listed. -/
theorem count_ok : ((List.range 7).all fun n => (List.range 6).all fun k => decide ((sortL n k 0).length ≤ 300)) = true := by decide +kernel
theorem courses_300 {n k : Nat} (hn : n ≤ 6) (hk : k ≤ 5) : (coursesL n k).length ≤ 300 := by
  have h := List.all_eq_true.1 (List.all_eq_true.1 count_ok n (List.mem_range.2 (by omega))) k (List.mem_range.2 (by omega))
  simpa [coursesL] using h
theorem allC_300 {s : List Lp} {r : Rl} (hn : s.length ≤ 6) (hk : nL r ≤ 5) : (allC s r).length ≤ 300 := Nat.le_trans (List.length_filter_le _ _) (courses_300 hn hk)
end Go.Proofs.YtgeajgmefokifaaGreat

/- Walks: lists compared, lists of lists searched. -/
namespace Go.Proofs.YtgeajgmefokifaaGreat
open Go Go.Eng

theorem cmpN_ca (x y : Int) (w : World) : Ca Tryz.prog 90 [.int .i64 x, .int .i64 y] w fun v w' => v = .int .i64 (cmpI x y) ∧ Chg [] w w' := by
  refine q_of (Sat.nil w M0) Tryz.func90 rfl (by simp [Tryz.ntmps90]) ?_
  (refine q_seq ?_; refine q_region ?_; refine ql_pure tabOk rfl rfl ?_; refine q_nil ?_; refine q_seq ?_; refine q_region ?_; refine ql_pure tabOk rfl rfl ?_)
  refine ql_callv (val := .bool false) tabOk rfl rfl rfl rfl (fun w hs => ?_) ?_; exact isNaN_ca x w
  (refine ql_pure tabOk rfl rfl ?_; refine q_nil ?_; refine q_seq ?_; refine q_region ?_; refine ql_pure tabOk rfl rfl ?_)
  refine ql_callv (val := .bool false) tabOk rfl rfl rfl rfl (fun w hs => ?_) ?_; exact isNaN_ca y w
  (refine ql_pure tabOk rfl rfl ?_; refine q_nil ?_; (iterate 2 refine q_seq ?_); refine q_region ?_; refine ql_pure tabOk rfl rfl ?_; refine q_nil ?_; refine q_cond_false rfl ?_; refine q_skip ?_; (iterate 2 refine q_seq ?_); refine q_region ?_; refine ql_pure tabOk rfl rfl ?_; refine q_nil ?_; refine q_cond_false rfl ?_; refine q_skip ?_; (iterate 2 refine q_seq ?_); refine q_region ?_; (iterate 3 refine ql_pure tabOk rfl rfl ?_); refine q_nil ?_)
  refine q_if rfl (fun hc => ?_) (fun hc => ?_)
  · have h1 : x < y := by first | assumption | (simpa using hc)
    (refine q_seq ?_; refine q_region ?_; refine ql_pure tabOk rfl rfl ?_; refine q_nil ?_; refine q_ret ?_)
    refine q_fin tabOk rfl (by repeat (first | exact RVs.nil | apply RVs.tmp rfl | apply RVs.cellA rfl rfl (by repeat first | exact .head _ | refine .tail _ ?_) (by rfl) | apply RVs.cell1 rfl rfl (by repeat first | exact .head _ | refine .tail _ ?_))) fun w hs => ?_
    exact ⟨by simp only [retV, cmpI]; rw [if_pos h1], hs.chg0⟩
  · have h1 : ¬ x < y := by first | assumption | (simpa using hc)
    clear hc
    (refine q_skip ?_; (iterate 2 refine q_seq ?_); refine q_region ?_; (iterate 3 refine ql_pure tabOk rfl rfl ?_); refine q_nil ?_)
    refine q_if rfl (fun hc => ?_) (fun hc => ?_)
    · have h2 : y < x := by first | assumption | (simpa using hc)
      (refine q_seq ?_; refine q_region ?_; refine ql_pure tabOk rfl rfl ?_; refine q_nil ?_; refine q_ret ?_)
      refine q_fin tabOk rfl (by repeat (first | exact RVs.nil | apply RVs.tmp rfl | apply RVs.cellA rfl rfl (by repeat first | exact .head _ | refine .tail _ ?_) (by rfl) | apply RVs.cell1 rfl rfl (by repeat first | exact .head _ | refine .tail _ ?_))) fun w hs => ?_
      exact ⟨by simp only [retV, cmpI]; rw [if_neg h1, if_pos h2], hs.chg0⟩
    · have h2 : ¬ y < x := by first | assumption | (simpa using hc)
      (refine q_skip ?_; refine q_seq ?_; refine q_region ?_; refine ql_pure tabOk rfl rfl ?_; refine q_nil ?_; refine q_ret ?_)
      refine q_fin tabOk rfl (by repeat (first | exact RVs.nil | apply RVs.tmp rfl | apply RVs.cellA rfl rfl (by repeat first | exact .head _ | refine .tail _ ?_) (by rfl) | apply RVs.cell1 rfl rfl (by repeat first | exact .head _ | refine .tail _ ?_))) fun w hs => ?_
      exact ⟨by simp only [retV, cmpI]; rw [if_neg h1, if_neg h2], hs.chg0⟩
set_option maxHeartbeats 1000000 in
theorem compN_ca (w : World) (lo hi lo2 hi2 : Nat) (v u : Value) (a b : List Int) (h : RdI w lo hi v a) (g : RdI w lo2 hi2 u b) (hl : a.length ≤ 1000000) (hl2 : b.length ≤ 1000000) :
    Ca Tryz.prog 21 [v, u] w fun r w' => ∃ z : Int, (r = .int .i64 z ∧ -1 ≤ z ∧ z ≤ 1 ∧ (z < 0 ↔ cmpB a b = true)) ∧ Sat w M0 [] w' := by
  obtain ⟨aa, ca, rfl, hsa⟩ := RdI.outI h
  obtain ⟨ab, cb, rfl, hsb⟩ := RdI.outI g
  refine q_of (Sat.nil w M0) Tryz.func21 rfl (by simp [Tryz.ntmps21]) ?_
  (refine q_seq ?_; refine q_region ?_; refine ql_pure tabOk rfl rfl ?_; refine q_nil ?_; (iterate 2 refine q_seq ?_); refine q_region ?_; (iterate 3 refine ql_pure tabOk rfl rfl ?_); refine q_nil ?_; refine q_block ?_)
  refine q_loop (σ := Nat) (fun k => k ≤ a.length ∧ k ≤ b.length ∧ cmpB a b = cmpB (a.drop k) (b.drop k)) (fun k => a.length - k) (fun k => [(0, .slice aa a.length ca), (1, .slice ab b.length cb), (9, .slice aa a.length ca), (10, .int .i64 a.length), (11, .int .i64 k)]) (fun _ => []) 0 ⟨by simp, by simp, by simp⟩ ⟨rfl, rfl, rfl, rfl, rfl, trivial⟩ .nil ?_
  rintro k ⟨hk, hkb, hC⟩ K hK
  (refine q_seq ?_; refine q_region ?_; refine ql_pure tabOk rfl rfl ?_; refine q_nil ?_; refine q_seq ?_)
  refine q_if rfl (fun hc => ?_) (fun hc => ?_)
  · have hk2 : k < a.length := by omega
    clear hc
    obtain ⟨ba, oa, rfl⟩ := hsa (by omega)
    (refine q_skip ?_; refine q_seq ?_; refine q_block ?_; refine q_seq ?_; refine q_region ?_; refine ql_pure tabOk rfl rfl ?_)
    (refine ql_index tabOk rfl rfl rfl rfl rfl (by omega) (by omega) ?_; refine ql_load1 tabOk rfl rfl rfl (fun w hs => RdI.at (h.keep hs.chg0) k hk2) ?_)
    ((iterate 2 refine ql_pure tabOk rfl rfl ?_); refine q_nil ?_; (iterate 2 refine q_seq ?_); refine q_region ?_; (iterate 4 refine ql_pure tabOk rfl rfl ?_); refine q_nil ?_)
    refine q_if rfl (fun hc => ?_) (fun hc => ?_)
    · have hb : b.length ≤ k := by first | omega | (simp at hc; omega)
      have e : cmpB a b = false := by
        rw [hC, List.drop_eq_getElem_cons hk2, List.drop_eq_nil_of_le hb]
        rfl
      (refine q_seq ?_; refine q_region ?_; refine ql_pure tabOk rfl rfl ?_; refine q_nil ?_; refine q_ret ?_)
      refine q_fin tabOk rfl (by repeat (first | exact RVs.nil | apply RVs.tmp rfl | apply RVs.cellA rfl rfl (by repeat first | exact .head _ | refine .tail _ ?_) (by rfl) | apply RVs.cell1 rfl rfl (by repeat first | exact .head _ | refine .tail _ ?_))) fun w hs => ?_
      exact ⟨1, ⟨rfl, by omega, by omega, by simp [e]⟩, hs⟩
    · have hb : k < b.length := by first | omega | (simp at hc; omega)
      clear hc
      obtain ⟨bb, ob, rfl⟩ := hsb (by omega)
      have hd := cmpB_drop hk2 hb
      (refine q_skip ?_; refine q_seq ?_; refine q_region ?_; (iterate 2 refine ql_pure tabOk rfl rfl ?_))
      (refine ql_index tabOk rfl rfl rfl rfl rfl (by omega) (by omega) ?_; refine ql_load1 tabOk rfl rfl rfl (fun w hs => RdI.at (g.keep hs.chg0) k hb) ?_)
      (refine ql_pure tabOk rfl rfl ?_; refine q_nil ?_; refine q_seq ?_; refine q_region ?_; (iterate 2 refine ql_pure tabOk rfl rfl ?_))
      refine ql_callv (val := .int .i64 (cmpI a[k] b[k])) tabOk rfl rfl rfl rfl (fun w hs => ?_) ?_; exact cmpN_ca _ _ w
      generalize a[k] = x at *
      generalize b[k] = y at *
      rcases Int.lt_trichotomy x y with hxy | hxy | hxy
      · have e : cmpI x y = -1 := by unfold cmpI; rw [if_pos hxy]
        have e2 : cmpB a b = true := by rw [hC, hd, if_neg (by omega)]; simp [hxy]
        rw [e]
        (refine ql_pure tabOk rfl rfl ?_; refine q_nil ?_; refine q_seq ?_; refine q_region ?_; refine ql_pure tabOk rfl rfl ?_; refine ql_neqT tabOk rfl rfl rfl (by omega) ?_; refine q_nil ?_; refine q_cond_true rfl ?_; refine q_seq ?_; refine q_region ?_; (iterate 2 refine ql_pure tabOk rfl rfl ?_); refine q_nil ?_; refine q_ret ?_)
        refine q_fin tabOk rfl (by repeat (first | exact RVs.nil | apply RVs.tmp rfl | apply RVs.cellA rfl rfl (by repeat first | exact .head _ | refine .tail _ ?_) (by rfl) | apply RVs.cell1 rfl rfl (by repeat first | exact .head _ | refine .tail _ ?_))) fun w hs => ?_
        exact ⟨-1, ⟨rfl, by omega, by omega, by simp [e2]⟩, hs⟩
      · have e : cmpI x y = 0 := by unfold cmpI; rw [if_neg (by omega), if_neg (by omega)]
        rw [e]
        (refine ql_pure tabOk rfl rfl ?_; refine q_nil ?_; refine q_seq ?_; refine q_region ?_; refine ql_pure tabOk rfl rfl ?_; refine ql_neqF tabOk rfl rfl rfl (by omega) ?_; refine q_nil ?_; refine q_cond_false rfl ?_; refine q_skip ?_; refine q_blk ?_; refine q_region ?_; refine ql_ar tabOk rfl rfl rfl rfl (by omega) (by omega) ?_; refine ql_pure tabOk rfl rfl ?_; refine q_nil ?_)
        exact hK (k + 1) _ _ ⟨by omega, by omega, by rw [hC, hd, if_pos hxy]⟩ (by omega) ⟨rfl, rfl, rfl, rfl, rfl, trivial⟩ .nil
      · have e : cmpI x y = 1 := by unfold cmpI; rw [if_neg (by omega), if_pos hxy]
        have e2 : cmpB a b = false := by rw [hC, hd, if_neg (by omega)]; simp; omega
        rw [e]
        (refine ql_pure tabOk rfl rfl ?_; refine q_nil ?_; refine q_seq ?_; refine q_region ?_; refine ql_pure tabOk rfl rfl ?_; refine ql_neqT tabOk rfl rfl rfl (by omega) ?_; refine q_nil ?_; refine q_cond_true rfl ?_; refine q_seq ?_; refine q_region ?_; (iterate 2 refine ql_pure tabOk rfl rfl ?_); refine q_nil ?_; refine q_ret ?_)
        refine q_fin tabOk rfl (by repeat (first | exact RVs.nil | apply RVs.tmp rfl | apply RVs.cellA rfl rfl (by repeat first | exact .head _ | refine .tail _ ?_) (by rfl) | apply RVs.cell1 rfl rfl (by repeat first | exact .head _ | refine .tail _ ?_))) fun w hs => ?_
        exact ⟨1, ⟨rfl, by omega, by omega, by simp [e2]⟩, hs⟩
  · have hka : k = a.length := by omega
    subst hka
    clear hc
    (refine q_exit _ rfl ?_; (iterate 2 refine q_seq ?_); refine q_region ?_; (iterate 5 refine ql_pure tabOk rfl rfl ?_); refine q_nil ?_)
    refine q_if rfl (fun hc => ?_) (fun hc => ?_)
    · have hb : a.length < b.length := by first | omega | (simp at hc; omega)
      have e : cmpB a b = true := by
        rw [hC, List.drop_length, List.drop_eq_getElem_cons hb]
        rfl
      (refine q_seq ?_; refine q_region ?_; refine ql_pure tabOk rfl rfl ?_; refine q_nil ?_; refine q_ret ?_)
      refine q_fin tabOk rfl (by repeat (first | exact RVs.nil | apply RVs.tmp rfl | apply RVs.cellA rfl rfl (by repeat first | exact .head _ | refine .tail _ ?_) (by rfl) | apply RVs.cell1 rfl rfl (by repeat first | exact .head _ | refine .tail _ ?_))) fun w hs => ?_
      exact ⟨-1, ⟨rfl, by omega, by omega, by simp [e]⟩, hs⟩
    · have hb : ¬ a.length < b.length := by first | omega | (simp at hc; omega)
      have e : cmpB a b = false := by
        rw [hC, List.drop_length, List.drop_eq_nil_of_le (by omega)]
        rfl
      (refine q_skip ?_; refine q_seq ?_; refine q_region ?_; refine ql_pure tabOk rfl rfl ?_; refine q_nil ?_; refine q_ret ?_)
      refine q_fin tabOk rfl (by repeat (first | exact RVs.nil | apply RVs.tmp rfl | apply RVs.cellA rfl rfl (by repeat first | exact .head _ | refine .tail _ ?_) (by rfl) | apply RVs.cell1 rfl rfl (by repeat first | exact .head _ | refine .tail _ ?_))) fun w hs => ?_
      exact ⟨0, ⟨rfl, by omega, by omega, by simp [e]⟩, hs⟩


set_option maxHeartbeats 1000000 in
theorem indexII_ca (w : World) (lo hi : Nat) (v : Value) (ll : List (List Int)) (h : RdII w lo hi v ll) (hlen : ll.length ≤ 1000000) {fv : Value} (q : List Int → Bool)
    (hq : ∀ w', Chg [] w w' → ∀ (u : Value) (l : List Int) (lo2 hi2 : Nat), RdI w' lo2 hi2 u l → l ∈ ll → CaF Tryz.prog fv [u] w' fun x w'' => x = .bool (q l) ∧ Chg [] w' w'') :
    Ca Tryz.prog 91 [v, fv] w fun r w' => ∃ z : Int, (r = .int .i64 z ∧ -1 ≤ z ∧ (0 ≤ z ↔ ll.any q = true)) ∧ Sat w M0 [] w' := by
  obtain ⟨a, c, rfl, hsa⟩ := RdII.outI h
  refine q_of (Sat.nil w M0) Tryz.func91 rfl (by simp [Tryz.ntmps91]) ?_
  (refine q_seq ?_; refine q_region ?_; refine ql_pure tabOk rfl rfl ?_; refine q_nil ?_; (iterate 2 refine q_seq ?_); refine q_region ?_; (iterate 3 refine ql_pure tabOk rfl rfl ?_); refine q_nil ?_; refine q_block ?_)
  refine q_loop (σ := Nat) (fun k => k ≤ ll.length ∧ (ll.take k).any q = false) (fun k => ll.length - k) (fun k => [(0, .slice a ll.length c), (1, fv), (7, .int .i64 ll.length), (8, .int .i64 k)]) (fun _ => []) 0 ⟨by omega, rfl⟩ ⟨rfl, rfl, rfl, rfl, trivial⟩ (by repeat (first | exact Sp.nil | exact Sp.refl _ | refine Sp.cons (by repeat constructor) ?_)) ?_
  rintro k ⟨hk, hall⟩ K hK
  (refine q_seq ?_; refine q_region ?_; refine ql_pure tabOk rfl rfl ?_; refine q_nil ?_; refine q_seq ?_)
  refine q_if rfl (fun hc => ?_) (fun hc => ?_)
  · have hk2 : k < ll.length := by first | omega | (simp at hc; omega)
    clear hc
    obtain ⟨b, off, rfl⟩ := hsa (by omega)
    obtain ⟨ra, rc, hr, hcell⟩ := h.row k hk2
    have hm := List.getElem_mem hk2
    have e : (ll.take (k + 1)).any q = q ll[k] := by rw [List.take_succ_eq_append_getElem hk2, List.any_append, hall]; simp
    (refine q_skip ?_; refine q_seq ?_; refine q_block ?_; refine q_seq ?_; refine q_region ?_; (iterate 2 refine ql_pure tabOk rfl rfl ?_); refine q_nil ?_; refine q_seq ?_; refine q_region ?_; (iterate 3 refine ql_pure tabOk rfl rfl ?_))
    refine ql_index tabOk rfl rfl rfl rfl rfl (by omega) (by omega) ?_
    refine ql_load1 (v := .slice ra ll[k].length rc) tabOk rfl rfl rfl (fun w' hs => hcell w' hs.chg0) ?_
    skip
    refine ql_callFv (val := .bool (q ll[k])) rfl rfl rfl (fun w' hs => hq w' hs.chg0 _ ll[k] lo hi (RdE.keep hr hs.chg0) hm) ?_
    cases hqk : q ll[k] with
    | true =>
      have e2 : ll.any q = true := List.any_eq_true.2 ⟨_, hm, hqk⟩
      (refine q_nil ?_; refine q_cond_true rfl ?_; refine q_seq ?_; refine q_region ?_; (iterate 2 refine ql_pure tabOk rfl rfl ?_); refine q_nil ?_; refine q_ret ?_)
      refine q_fin tabOk rfl (by repeat (first | exact RVs.nil | apply RVs.tmp rfl | apply RVs.cellA rfl rfl (by repeat first | exact .head _ | refine .tail _ ?_) (by rfl) | apply RVs.cell1 rfl rfl (by repeat first | exact .head _ | refine .tail _ ?_))) fun w hs => ?_
      exact ⟨(k : Int), ⟨rfl, by omega, by simp [e2]⟩, hs⟩
    | false =>
      (refine q_nil ?_; refine q_cond_false rfl ?_; refine q_skip ?_; refine q_blk ?_; refine q_region ?_; refine ql_ar tabOk rfl rfl rfl rfl (by omega) (by omega) ?_; refine ql_pure tabOk rfl rfl ?_; refine q_nil ?_)
      exact hK (k + 1) _ _ ⟨by omega, by rw [e, hqk]⟩ (by omega) ⟨rfl, rfl, rfl, rfl, trivial⟩ (by repeat (first | exact Sp.nil | exact Sp.refl _ | refine Sp.cons (by repeat constructor) ?_))
  · obtain rfl : k = ll.length := by first | omega | (simp at hc; omega)
    rw [List.take_length] at hall
    (refine q_exit _ rfl ?_; refine q_seq ?_; refine q_region ?_; refine ql_pure tabOk rfl rfl ?_; refine q_nil ?_; refine q_ret ?_)
    refine q_fin tabOk rfl (by repeat (first | exact RVs.nil | apply RVs.tmp rfl | apply RVs.cellA rfl rfl (by repeat first | exact .head _ | refine .tail _ ?_) (by rfl) | apply RVs.cell1 rfl rfl (by repeat first | exact .head _ | refine .tail _ ?_))) fun w hs => ?_
    exact ⟨-1, ⟨rfl, by omega, by simp [hall]⟩, hs⟩
theorem containsII_ca (w : World) (lo hi : Nat) (v : Value) (ll : List (List Int)) (h : RdII w lo hi v ll) (hlen : ll.length ≤ 1000000) {fv : Value} (q : List Int → Bool)
    (hq : ∀ w', Chg [] w w' → ∀ (u : Value) (l : List Int) (lo2 hi2 : Nat), RdI w' lo2 hi2 u l → l ∈ ll → CaF Tryz.prog fv [u] w' fun x w'' => x = .bool (q l) ∧ Chg [] w' w'') :
    Ca Tryz.prog 23 [v, fv] w fun r w' => r = .bool (ll.any q) ∧ Chg [] w w' := by
  refine q_of (Sat.nil w M0) Tryz.func23 rfl (by simp [Tryz.ntmps23]) ?_
  (refine q_seq ?_; refine q_region ?_; refine ql_pure tabOk rfl rfl ?_; refine q_nil ?_; refine q_seq ?_; refine q_region ?_; (iterate 2 refine ql_pure tabOk rfl rfl ?_))
  refine ql_call (β := Int) (ψ := fun z r => r = .int .i64 z ∧ -1 ≤ z ∧ (0 ≤ z ↔ ll.any q = true)) (L' := fun _ => []) tabOk [] _ M0 rfl rfl rfl rfl (Sp.refl _) (fun _ h => h.elim) (fun w' hs => indexII_ca w' lo hi v ll (h.keep hs.chg0) hlen q (fun w'' hc => hq w'' (hs.chg0.trans hc))) ?_
  rintro z _ ⟨rfl, z1, z2⟩
  dsimp only [List.cons_append, List.nil_append]
  cases ha : ll.any q with
  | true =>
    have hz := z2.2 ha
    clear z2
    (refine ql_geqT tabOk rfl rfl rfl (by omega) ?_; refine ql_pure tabOk rfl rfl ?_; refine q_nil ?_; refine q_ret ?_)
    refine q_fin tabOk rfl (by repeat (first | exact RVs.nil | apply RVs.tmp rfl | apply RVs.cellA rfl rfl (by repeat first | exact .head _ | refine .tail _ ?_) (by rfl) | apply RVs.cell1 rfl rfl (by repeat first | exact .head _ | refine .tail _ ?_))) fun w hs => ?_
    exact ⟨by rfl, hs.chg0⟩
  | false =>
    have hz : ¬ 0 ≤ z := fun hh => by rw [z2.1 hh] at ha; cases ha
    clear z2
    (refine ql_geqF tabOk rfl rfl rfl (by omega) ?_; refine ql_pure tabOk rfl rfl ?_; refine q_nil ?_; refine q_ret ?_)
    refine q_fin tabOk rfl (by repeat (first | exact RVs.nil | apply RVs.tmp rfl | apply RVs.cellA rfl rfl (by repeat first | exact .head _ | refine .tail _ ?_) (by rfl) | apply RVs.cell1 rfl rfl (by repeat first | exact .head _ | refine .tail _ ?_))) fun w hs => ?_
    exact ⟨by rfl, hs.chg0⟩
theorem any_eqI (ll : List (List Int)) (c : List Int) : ll.any (fun l => eqIB l c) = (decide (c ∈ ll) && true) := by
  rw [Bool.eq_iff_iff]
  simp only [List.any_eq_true, Bool.and_true, decide_eq_true_eq, eqIB_iff]
  exact ⟨fun ⟨x, h1, h2⟩ => h2 ▸ h1, fun h => ⟨c, h, rfl⟩⟩
theorem eqcl_ca (w : World) (b : Nat) (x u : Value) (lo hi lo2 hi2 : Nat) (l c : List Int) {t : TypeId} (hb : Blk w b [u] t) (h1 : RdI w lo hi x l) (h2 : RdI w lo2 hi2 u c) (hl : l.length ≤ 1000000) (hc : c.length ≤ 1000000) :
    Ca Tryz.prog 24 [x, .pointer (some ⟨b, 0, none⟩)] w fun r w' => r = .bool (eqIB l c) ∧ Chg [] w w' := by
  refine q_of (Sat.nil w M0) Tryz.func24 rfl (by simp [Tryz.ntmps24]) ?_
  (refine q_seq ?_; refine q_region ?_; refine ql_pure tabOk rfl rfl ?_; refine q_nil ?_; refine q_seq ?_; refine q_region ?_; refine ql_pure tabOk rfl rfl ?_; refine ql_loadP tabOk rfl rfl rfl (by assumption) (by rfl) ?_)
  refine ql_callv (val := .bool (eqIB l c)) tabOk rfl rfl rfl rfl (fun w hs => ?_) ?_; exact eqIF_ca w lo hi lo2 hi2 x u l c (RdE.keep h1 hs.chg0) (RdE.keep h2 hs.chg0) hl hc
  (refine ql_pure tabOk rfl rfl ?_; refine q_nil ?_; refine q_ret ?_)
  refine q_fin tabOk rfl (by repeat (first | exact RVs.nil | apply RVs.tmp rfl | apply RVs.cellA rfl rfl (by repeat first | exact .head _ | refine .tail _ ?_) (by rfl) | apply RVs.cell1 rfl rfl (by repeat first | exact .head _ | refine .tail _ ?_))) fun w hs => ?_
  exact ⟨rfl, hs.chg0⟩
theorem isL_ca (w : World) (lo hi lo2 hi2 : Nat) (v u : Value) (ll : List (List Int)) (c : List Int) (h : RdII w lo hi v ll) (hlen : ll.length ≤ 1000000) (hrow : ∀ l ∈ ll, l.length ≤ 1000000) (hu : RdI w lo2 hi2 u c) (hc : c.length ≤ 1000000) :
    Ca Tryz.prog 22 [v, u] w fun r w' => r = .bool (decide (c ∈ ll) && true) ∧ Chg [] w w' := by
  obtain ⟨a, ca, rfl, _⟩ := RdI.outI hu
  refine q_of (Sat.nil w M0) Tryz.func22 rfl (by simp [Tryz.ntmps22]) ?_
  (refine q_seq ?_; refine q_region ?_)
  refine ql_box rfl rfl (fun b3 => ?_)
  (refine ql_pure tabOk rfl rfl ?_; refine q_nil ?_; refine q_seq ?_; refine q_region ?_; (iterate 2 refine ql_pure tabOk rfl rfl ?_))
  refine ql_callv (val := .bool (ll.any fun l => eqIB l c)) tabOk rfl rfl rfl rfl (fun w hs => ?_) ?_; exact containsII_ca w lo hi v ll (h.keep hs.chg0) hlen (fun l => eqIB l c) (fun w' hc' x l lo3 hi3 hx hm => CaF.of tabOk rfl (eqcl_ca w' b3 x _ lo3 hi3 lo2 hi2 l c ((hc'.block b3 (hs.blk (b := b3) (by repeat first | exact .head _ | refine .tail _ ?_)).lt (by simp)).trans (hs.blk (b := b3) (by repeat first | exact .head _ | refine .tail _ ?_))) hx (RdE.keep hu (hs.chg0.trans hc')) (hrow l hm) hc))
  rw [any_eqI]
  (refine ql_pure tabOk rfl rfl ?_; refine q_nil ?_; refine q_ret ?_)
  refine q_fin tabOk rfl (by repeat (first | exact RVs.nil | apply RVs.tmp rfl | apply RVs.cellA rfl rfl (by repeat first | exact .head _ | refine .tail _ ?_) (by rfl) | apply RVs.cell1 rfl rfl (by repeat first | exact .head _ | refine .tail _ ?_))) fun w hs => ?_
  exact ⟨rfl, hs.chg0⟩
end Go.Proofs.YtgeajgmefokifaaGreat

/- The plain law of CourseListed: wider rules lose no course. -/
namespace Go.Proofs.YtgeajgmefokifaaGreat

/-- Wider rules. -/
structure Wid (r R : Rl) : Prop where
  laps : R.laps = r.laps
  g : R.g0 ≤ r.g0 ∧ r.g1 ≤ R.g1
  c : R.c0 ≤ r.c0 ∧ r.c1 ≤ R.c1
  p : R.p0 ≤ r.p0 ∧ r.p1 ≤ R.p1
  w : R.wide ≤ r.wide
  u : r.uses ≤ R.uses
theorem wid_right {s : List Lp} {r R : Rl} (h : Wid r R) {c : List Int} (hr : rightB s r c = true) : rightB s R c = true := by
  rw [right_iff] at hr ⊢
  intro j hj
  have h0 : (!wiB (lenS s c) r.g0 r.g1) = false := hr 0 (by omega)
  have h1 : (!wiB (clbS s c) r.c0 r.c1) = false := hr 1 (by omega)
  have h2 : lapB s r c = false := hr 2 (by omega)
  have h3 : widB s r c = false := hr 3 (by omega)
  have h4 : oftB r c = false := hr 4 (by omega)
  simp only [Bool.not_eq_false'] at h0 h1
  have h0 := wiB_iff.1 h0
  have h1 := wiB_iff.1 h1
  obtain ⟨_, hg, hc, hp, hw, hu⟩ := h
  have hj5 : j = 0 ∨ j = 1 ∨ j = 2 ∨ j = 3 ∨ j = 4 := by omega
  rcases hj5 with rfl | rfl | rfl | rfl | rfl
  · show (!wiB (lenS s c) R.g0 R.g1) = false
    rw [wiB_iff.2 (by omega)]; rfl
  · show (!wiB (clbS s c) R.c0 R.c1) = false
    rw [wiB_iff.2 (by omega)]; rfl
  · show lapB s R c = false
    unfold lapB at h2 ⊢
    rw [List.any_eq_false] at h2 ⊢
    intro x hx
    have h := h2 x hx
    simp only [Bool.not_eq_true', Bool.not_eq_false] at h ⊢
    have := wiB_iff.1 h
    exact wiB_iff.2 (by omega)
  · show widB s R c = false
    unfold widB at h3 ⊢
    rw [List.any_eq_false] at h3 ⊢
    intro x hx
    have h := h3 x hx
    simp only [Bool.and_true, decide_eq_true_eq] at h ⊢
    omega
  · show oftB R c = false
    unfold oftB at h4 ⊢
    simp only [Bool.and_true, decide_eq_false_iff_not] at h4 ⊢
    omega
theorem wid_all {s : List Lp} {r R : Rl} (h : Wid r R) {c : List Int} (hc : c ∈ allC s r) : c ∈ allC s R := by
  obtain ⟨h1, h2⟩ := List.mem_filter.1 hc
  refine List.mem_filter.2 ⟨?_, wid_right h h2⟩
  unfold nL at h1 ⊢
  rwa [h.laps]
end Go.Proofs.YtgeajgmefokifaaGreat

/- The walk of CourseYielded. -/
namespace Go.Proofs.YtgeajgmefokifaaGreat
open Go Go.Eng

section
variable {K b : Nat} {bs : Value} {w0 w : World} {R : List Ck}
theorem madeS0 {most laps : Nat} (h1 : 1 ≤ most) (h2 : most ≤ 12) (h3 : 1 ≤ laps) (h4 : laps ≤ 6) (hby : DkB w0 0 w0.heap.size bs) (hs : Sat w0 M0 (dkP bs b K :: R) w) (hK : K < 100000) :
    Ca Tryz.prog 18 [.pointer (some ⟨b, 0, none⟩), .int .i64 most, .int .i64 laps] w fun v w' => ∃ y : Nat × Nat × List Lp × Rl, (v = .tuple #[.slice (some ⟨y.1, 0, none⟩) y.2.2.1.length y.2.1, .agg (rlC y.2.2.2).toArray] ∧ MadeS most laps y.2.2.1 y.2.2.2) ∧ Sat w (fun x => x = b) [.ow (.slice (some ⟨y.1, 0, none⟩) y.2.2.1.length y.2.1) 32 3 y.2.2.1.length (lpC y.2.2.1), dkP bs b (K + 100)] w' :=
  madeS_ca most laps h1 h2 h3 h4 K hK w b 0 w0.heap.size bs (hby.keep hs.chg0) (dk_new hs) (hs.all _ (.head _))
theorem picked0 {loops laps : Nat} (h1 : 1 ≤ loops) (h2 : loops ≤ 12) (h3 : 1 ≤ laps) (h4 : laps ≤ 6) (hby : DkB w0 0 w0.heap.size bs) (hs : Sat w0 M0 (dkP bs b K :: R) w) (hK : K < 100000) :
    Ca Tryz.prog 26 [.pointer (some ⟨b, 0, none⟩), .int .i64 loops, .int .i64 laps] w fun v w' => ∃ y : Nat × Nat × List Int, (v = .slice (some ⟨y.1, 0, none⟩) y.2.2.length y.2.1 ∧ y.2.2.length = laps ∧ (∀ x ∈ y.2.2, 0 ≤ x ∧ x < loops) ∧ srtB y.2.2 = true) ∧ Sat w (fun x => x = b) [.ow (.slice (some ⟨y.1, 0, none⟩) y.2.2.length y.2.1) 3 1 y.2.2.length (ints y.2.2), dkP bs b (K + 6)] w' :=
  picked_ca loops laps h1 h2 h3 h4 K hK w b 0 w0.heap.size bs (hby.keep hs.chg0) (dk_new hs) (hs.all _ (.head _))
end
theorem brok_in {s : List Lp} {r : Rl} {c : List Int} (hcr : CR s r) (h1 : (c.length : Int) = r.laps) (h2 : ∀ x ∈ c, 0 ≤ x ∧ x < s.length) (h3 : srtB c = true) : brokenV s r c = (brkL s r c, 0) := by
  have hla := hcr.r.laps
  have h0 := checkS_iff.2 hcr
  have h4 := listedV_iff.2 ⟨⟨by omega, by omega⟩, h2, h3⟩
  unfold brokenV
  rw [if_neg (by omega), if_neg (by omega), if_neg (by omega)]
end Go.Proofs.YtgeajgmefokifaaGreat

/- The walk of CourseListed (seat Great). -/
namespace Go.Proofs.YtgeajgmefokifaaGreat
open Go Go.Eng

/-- The rules, with spans widened so far. -/
def wdR (r : Rl) (x1 y1 x2 y2 x3 y3 : Int) : Nat → Rl
  | 0 => r
  | 1 => { r with g0 := max 0 (r.g0 - x1), g1 := r.g1 + y1 }
  | 2 => { r with g0 := max 0 (r.g0 - x1), g1 := r.g1 + y1, c0 := max 0 (r.c0 - x2), c1 := r.c1 + y2 }
  | _ => { r with g0 := max 0 (r.g0 - x1), g1 := r.g1 + y1, c0 := max 0 (r.c0 - x2), c1 := r.c1 + y2, p0 := max 0 (r.p0 - x3), p1 := r.p1 + y3 }
/-- Wider spans, and no more. -/
structure Sp3 (r R : Rl) : Prop where
  laps : R.laps = r.laps
  g : (0 ≤ R.g0 ∧ R.g0 ≤ r.g0) ∧ r.g1 ≤ R.g1 ∧ R.g1 ≤ r.g1 + 300
  c : (0 ≤ R.c0 ∧ R.c0 ≤ r.c0) ∧ r.c1 ≤ R.c1 ∧ R.c1 ≤ r.c1 + 300
  p : (0 ≤ R.p0 ∧ R.p0 ≤ r.p0) ∧ r.p1 ≤ R.p1 ∧ R.p1 ≤ r.p1 + 300
  w : R.wide = r.wide
  u : R.uses = r.uses
set_option maxRecDepth 20000 in
set_option maxHeartbeats 16000000 in
theorem courseListed_ca (w : World) (a : Option Addr) (n c : Nat) (a2 : Option Addr) (n2 c2 : Nat) (hbyb1 : DkB w 0 w.heap.size (.slice a n c)) (hbyb2 : DkB w 0 w.heap.size (.slice a2 n2 c2)) :
    Ca Tryz.prog 4 [.slice a n c, .slice a2 n2 c2] w fun r w' => r = .bool true ∧ Chg [] w w' := by
  refine q_of (Sat.nil w M0) Tryz.func4 rfl (by simp [Tryz.ntmps4]) ?_
  (refine q_seq ?_; refine q_region ?_; refine ql_pure tabOk rfl rfl ?_; refine q_nil ?_; refine q_seq ?_; refine q_region ?_; refine ql_pure tabOk rfl rfl ?_)
  refine ql_call (β := Nat) tabOk [] _ M0 rfl rfl rfl rfl (Sp.refl _) (fun _ h => h.elim) (fun w' hs => of_ca w' a n c) ?_
  rintro b1 _ rfl
  skip
  refine ql_call (β := Nat × Nat × List Lp × Rl) (ψ := fun y v => v = .tuple #[.slice (some ⟨y.1, 0, none⟩) y.2.2.1.length y.2.1, .agg (rlC y.2.2.2).toArray] ∧ MadeS 6 5 y.2.2.1 y.2.2.2) (L' := fun y => [.ow (.slice (some ⟨y.1, 0, none⟩) y.2.2.1.length y.2.1) 32 3 y.2.2.1.length (lpC y.2.2.1), dkP (.slice a n c) b1 (0 + 100)]) tabOk [dkP (.slice a n c) b1 0] _ (fun x => x = b1) rfl rfl rfl rfl (Sp.cons (by repeat constructor) (Sp.refl _)) (fun x hx => ⟨_, .head _, hx⟩) (fun w' hs => madeS0 (most := 6) (laps := 5) (by omega) (by omega) (by omega) (by omega) hbyb1 hs (by omega)) ?_
  rintro ⟨g, cd, s, r⟩ _ ⟨rfl, hm⟩
  dsimp only [List.cons_append, List.nil_append] at hm ⊢
  have hcr := hm.cr (by omega) (by omega)
  have hn1 := hm.n1
  have hn2 := hm.n2
  have hlp := hm.lp
  have hnl : nL r ≤ 5 := by unfold nL; omega
  have hA1 : (allC s r).length ≤ 300 := allC_300 (by omega) hnl
  (refine ql_pure tabOk rfl rfl ?_; (iterate 2 refine ql_ext tabOk rfl rfl rfl ?_))
  refine ql_alloc zero27 rfl (fun b6 => ?_)
  (refine ql_pure tabOk rfl rfl ?_; refine ql_setA tabOk rfl rfl rfl rfl rfl (by repeat constructor) rfl ?_; refine q_nil ?_; refine q_seq ?_; refine q_region ?_; refine ql_pure tabOk rfl rfl ?_)
  refine ql_call (β := Nat) tabOk [] _ M0 rfl rfl rfl rfl (Sp.refl _) (fun _ h => h.elim) (fun w' hs => of_ca w' a2 n2 c2) ?_
  rintro b2 _ rfl
  (refine ql_pure tabOk rfl rfl ?_; refine q_nil ?_; refine q_seq ?_; refine q_region ?_; refine ql_pure tabOk rfl rfl ?_; refine ql_loadAB tabOk rfl rfl rfl (by repeat first | exact .head _ | refine .tail _ ?_) (by rfl) (by rfl) ?_)
  refine ql_call (β := Value × List (Value × List Int)) tabOk [] _ M0 rfl rfl rfl rfl (Sp.refl _) (fun _ h => h.elim) (fun w' hs => all_ok w' 0 w'.heap.size (some ⟨g, 0, none⟩) cd s r (sat_rdL (t := 32) hs (by repeat first | exact .head _ | refine .tail _ ?_) rfl) hcr hA1) ?_
  rintro ⟨z1, xs⟩ _ ⟨rfl, hx⟩
  dsimp only [lsK, List.cons_append, List.nil_append] at hx ⊢
  have l1 := congrArg List.length hx
  rw [List.length_map] at l1
  have hrows : ∀ c ∈ allC s r, c.length ≤ 1000000 := fun c hc => by have := allC_len hcr hc; omega
  have hcin : ∀ q ∈ allC s r, (∀ x ∈ q, 0 ≤ x ∧ x < s.length) ∧ (q.length : Int) = r.laps ∧ srtB q = true ∧ brkL s r q = [] := fun q hq => by
    obtain ⟨h1, h2⟩ := List.mem_filter.1 hq
    obtain ⟨m1, m2, m3⟩ := coursesL_mem.1 h1
    exact ⟨m2, by rw [m1]; unfold nL; omega, m3, (rightB_iff s r q).1 h2⟩
  have hmm : ∀ u q, (u, q) ∈ xs → q ∈ allC s r := fun u q h => by rw [← hx]; exact List.mem_map.2 ⟨_, h, rfl⟩
  have hso := allC_sorted s r
  refine ql_fact (fun w hs => hs.slice2 (v := z1) (by repeat first | exact .head _ | refine .tail _ ?_)) ?_
  rintro ⟨va, vc, rfl⟩
  (refine ql_pure tabOk rfl rfl ?_; (iterate 2 refine ql_ext tabOk rfl rfl rfl ?_); (iterate 2 refine ql_pure tabOk rfl rfl ?_); refine q_nil ?_; (iterate 2 refine q_seq ?_); refine q_region ?_; refine ql_pure tabOk rfl rfl ?_; refine ql_neqF tabOk rfl rfl rfl (by omega) ?_; refine q_nil ?_; refine q_cond_false rfl ?_; refine q_skip ?_; (iterate 2 refine q_seq ?_); refine q_region ?_; (iterate 3 refine ql_pure tabOk rfl rfl ?_); refine q_nil ?_; refine q_block ?_)
  refine q_loop (σ := Nat) (fun i => i ≤ xs.length) (fun i => xs.length - i) (fun i => [(5, .slice (some ⟨g, 0, none⟩) s.length cd), (6, .pointer (some ⟨b6, 0, none⟩)), (7, .pointer (some ⟨b2, 0, none⟩)), (8, .slice va xs.length vc), (40, .slice va xs.length vc), (41, .int .i64 xs.length), (42, .int .i64 i)])
    (fun _ => [dkP (.slice a2 n2 c2) b2 0, .ow (.slice va xs.length vc) 22 1 xs.length (xs.map (·.1)), un (rowsO 3 xs), .ow (.slice (some ⟨g, 0, none⟩) s.length cd) 32 3 s.length (lpC s), .pt b6 (rlC r) 27]) 0 (by omega) ⟨rfl, rfl, rfl, rfl, rfl, rfl, rfl, trivial⟩ (by repeat (first | exact Sp.nil | exact Sp.refl _ | refine Sp.cons (by repeat constructor) ?_)) ?_
  rintro i hi K hK
  (refine q_seq ?_; refine q_region ?_; refine ql_pure tabOk rfl rfl ?_; refine q_nil ?_; refine q_seq ?_)
  refine q_if rfl (fun hc => ?_) (fun hc => ?_)
  · have hi2 : i < xs.length := by first | omega | (simp at hc; omega)
    clear hc
    have hmem : xs[i] ∈ xs := List.getElem_mem hi2
    have hprev : ∀ j, (hj : j + 1 = i) → cmpB (xs[j]'(by omega)).2 xs[i].2 = true := fun j hj => by
      subst hj
      rw [← hx, List.pairwise_map, List.pairwise_iff_getElem] at hso
      exact hso j (j + 1) (by omega) hi2 (by omega)
    generalize hxi : xs[i] = p at *
    obtain ⟨u, q⟩ := p
    have hqm := hmm _ _ hmem
    obtain ⟨q1, q2, q3, q4⟩ := hcin q hqm
    have hqb := brok_in hcr (c := q) q2 q1 q3
    rw [q4] at hqb
    have hq6 := allC_len hcr hqm
    refine q_fact (fun w hs => hs.ownSome (v := .slice va xs.length vc) (by repeat first | exact .head _ | refine .tail _ ?_) (by omega)) ?_
    rintro ⟨g0, d0, e⟩
    cases e
    refine q_fact (fun w hs => ls_slice hs (xs := xs) (t := 3) (by repeat first | exact .head _ | refine .tail _ ?_) hmem) ?_
    rintro ⟨ua, uc, rfl⟩
    (refine q_skip ?_; refine q_seq ?_; refine q_block ?_; refine q_seq ?_; refine q_region ?_; refine ql_pure tabOk rfl rfl ?_)
    refine ql_index tabOk rfl rfl rfl rfl rfl (by omega) (by omega) ?_
    refine ql_load1 (v := .slice ua q.length uc) tabOk rfl rfl rfl (fun w hs => ls_cell hs (by repeat first | exact .head _ | refine .tail _ ?_) hi2 hxi) ?_
    ((iterate 2 refine ql_pure tabOk rfl rfl ?_); refine q_nil ?_; refine q_seq ?_; refine q_region ?_; refine ql_pure tabOk rfl rfl ?_; refine ql_loadAB tabOk rfl rfl rfl (by repeat first | exact .head _ | refine .tail _ ?_) (by rfl) (by rfl) ?_; refine ql_pure tabOk rfl rfl ?_)
    refine ql_call (β := Value) tabOk [] _ M0 rfl rfl rfl rfl (Sp.refl _) (fun _ h => h.elim) (fun w' hs => by
      have := brok_u w' 0 w'.heap.size (some ⟨g, 0, none⟩) cd s r (sat_rdL (t := 32) hs (by repeat first | exact .head _ | refine .tail _ ?_) rfl) (by omega) 0 w'.heap.size (.slice ua q.length uc) q (ls_rd hs (xs := xs) (t := 3) (by repeat first | exact .head _ | refine .tail _ ?_) hmem) (by omega)
      rw [hqb] at this
      exact this) ?_
    rintro z3 _ rfl
    dsimp only [List.cons_append, List.nil_append]
    refine ql_fact (fun w hs => hs.slice2 (v := z3) (by repeat first | exact .head _ | refine .tail _ ?_)) ?_
    rintro ⟨za, zc, rfl⟩
    by_cases hi0 : (i : Int) > 0
    · obtain ⟨j, hj⟩ : ∃ j, j + 1 = i := ⟨i - 1, by omega⟩
      have hj2 : j < xs.length := by omega
      have hcm := hprev j hj
      have hmemj : xs[j] ∈ xs := List.getElem_mem hj2
      generalize hxj : xs[j] = p at *
      obtain ⟨uj, qj⟩ := p
      dsimp only at hcm
      have hqj6 := allC_len hcr (hmm _ _ hmemj)
      refine ql_fact (fun w hs => ls_slice hs (xs := xs) (t := 3) (by repeat first | exact .head _ | refine .tail _ ?_) hmemj) ?_
      rintro ⟨ya, yc, rfl⟩
      (refine ql_pure tabOk rfl rfl ?_; (iterate 2 refine ql_ext tabOk rfl rfl rfl ?_); (iterate 2 refine ql_pure tabOk rfl rfl ?_); refine q_nil ?_; refine q_seq ?_; refine q_region ?_; refine ql_pure tabOk rfl rfl ?_; refine ql_neqF tabOk rfl rfl rfl (by omega) ?_; refine ql_pure tabOk rfl rfl ?_; refine ql_gyes rfl ?_; refine ql_pure tabOk rfl rfl ?_; refine ql_gyes rfl ?_; refine ql_pure tabOk rfl rfl ?_; refine ql_gyes rfl ?_; (iterate 3 refine ql_pure tabOk rfl rfl ?_); refine ql_gyes rfl ?_; refine ql_pure tabOk rfl rfl ?_; refine ql_gyes rfl ?_; refine ql_gtrT tabOk rfl rfl rfl (by omega) ?_; refine ql_gyes rfl ?_; refine ql_pure tabOk rfl rfl ?_; refine ql_gyes rfl ?_; refine ql_pure tabOk rfl rfl ?_; refine ql_gyes rfl ?_; refine ql_pure tabOk rfl rfl ?_; refine ql_gyes rfl ?_; refine ql_ar tabOk rfl rfl rfl rfl (by omega) (by omega) ?_; refine ql_gyes rfl ?_)
      refine ql_index tabOk rfl rfl rfl rfl rfl (by omega) (by omega) ?_
      (refine ql_gyes rfl ?_)
      refine ql_load1 (v := .slice ya qj.length yc) tabOk rfl rfl rfl (fun w hs => by have := ls_cell hs (t2 := 22) (g := g0) (n := xs.length) (cp := vc) (by repeat first | exact .head _ | refine .tail _ ?_) hj2 hxj; rwa [show j = ((i : Int) - 1).toNat by omega] at this) ?_
      (refine ql_gyes rfl ?_; refine ql_pure tabOk rfl rfl ?_; refine ql_gyes rfl ?_)
      refine ql_call (β := Int) (ψ := fun z v => v = .int .i64 z ∧ -1 ≤ z ∧ z ≤ 1 ∧ (z < 0 ↔ cmpB qj q = true)) (L' := fun _ => []) tabOk [] _ M0 rfl rfl rfl rfl (Sp.refl _) (fun _ h => h.elim) (fun w' hs => compN_ca w' 0 w'.heap.size 0 w'.heap.size _ _ qj q (ls_rd hs (xs := xs) (t := 3) (by repeat first | exact .head _ | refine .tail _ ?_) hmemj) (ls_rd hs (xs := xs) (t := 3) (by repeat first | exact .head _ | refine .tail _ ?_) hmem) (by omega) (by omega)) ?_
      rintro z _ ⟨rfl, y1, y2, y3⟩
      dsimp only [List.cons_append, List.nil_append]
      have hz := y3.2 hcm
      clear y3
      (refine ql_gyes rfl ?_; refine ql_geqF tabOk rfl rfl rfl (by omega) ?_; refine ql_gyes rfl ?_; (iterate 2 refine ql_pure tabOk rfl rfl ?_); refine q_nil ?_; refine q_cond_false rfl ?_; refine q_skip ?_; refine q_blk ?_; refine q_region ?_; refine ql_ar tabOk rfl rfl rfl rfl (by omega) (by omega) ?_; refine ql_pure tabOk rfl rfl ?_; refine q_nil ?_)
      exact hK (i + 1) _ _ (by omega) (by omega) ⟨rfl, rfl, rfl, rfl, rfl, rfl, rfl, trivial⟩ (by repeat (first | exact Sp.nil | exact Sp.refl _ | refine Sp.cons (by repeat constructor) ?_))
    · (refine ql_pure tabOk rfl rfl ?_; (iterate 2 refine ql_ext tabOk rfl rfl rfl ?_); (iterate 2 refine ql_pure tabOk rfl rfl ?_); refine q_nil ?_; refine q_seq ?_; refine q_region ?_; refine ql_pure tabOk rfl rfl ?_; refine ql_neqF tabOk rfl rfl rfl (by omega) ?_; refine ql_pure tabOk rfl rfl ?_; refine ql_gyes rfl ?_; refine ql_pure tabOk rfl rfl ?_; refine ql_gyes rfl ?_; refine ql_pure tabOk rfl rfl ?_; refine ql_gyes rfl ?_; (iterate 3 refine ql_pure tabOk rfl rfl ?_); refine ql_gyes rfl ?_; refine ql_pure tabOk rfl rfl ?_; refine ql_gyes rfl ?_; refine ql_gtrF tabOk rfl rfl rfl (by omega) ?_; refine ql_gyes rfl ?_; refine ql_pure tabOk rfl rfl ?_; (iterate 8 refine ql_gno rfl rfl rfl ?_); refine ql_gyes rfl ?_; (iterate 2 refine ql_pure tabOk rfl rfl ?_); refine q_nil ?_; refine q_cond_false rfl ?_; refine q_skip ?_; refine q_blk ?_; refine q_region ?_; refine ql_ar tabOk rfl rfl rfl rfl (by omega) (by omega) ?_; refine ql_pure tabOk rfl rfl ?_; refine q_nil ?_)
      exact hK (i + 1) _ _ (by omega) (by omega) ⟨rfl, rfl, rfl, rfl, rfl, rfl, rfl, trivial⟩ (by repeat (first | exact Sp.nil | exact Sp.refl _ | refine Sp.cons (by repeat constructor) ?_))
  clear hc hK hso
  (refine q_exit _ rfl ?_; refine q_seq ?_; refine q_region ?_; refine ql_pure tabOk rfl rfl ?_; refine q_nil ?_; (iterate 2 refine q_seq ?_); refine q_region ?_; refine ql_pure tabOk rfl rfl ?_; refine q_nil ?_; refine q_block ?_)
  refine q_loop (σ := Nat) (fun k => k ≤ 6) (fun k => 6 - k) (fun k => [(5, .slice (some ⟨g, 0, none⟩) s.length cd), (6, .pointer (some ⟨b6, 0, none⟩)), (7, .pointer (some ⟨b2, 0, none⟩)), (8, .slice va xs.length vc), (14, .func (.func 22) #[] #[]), (76, .int .i64 k)])
    (fun k => [dkP (.slice a2 n2 c2) b2 (0 + 6 * k), .ow (.slice va xs.length vc) 22 1 xs.length (xs.map (·.1)), un (rowsO 3 xs), .ow (.slice (some ⟨g, 0, none⟩) s.length cd) 32 3 s.length (lpC s), .pt b6 (rlC r) 27]) 0 (by omega) ⟨rfl, rfl, rfl, rfl, rfl, rfl, trivial⟩ (by repeat (first | exact Sp.nil | exact Sp.refl _ | refine Sp.cons (by repeat constructor) ?_)) ?_
  rintro k hk KK hKK
  (refine q_seq ?_; refine q_region ?_; refine ql_pure tabOk rfl rfl ?_; refine q_nil ?_; refine q_seq ?_)
  refine q_if rfl (fun hc => ?_) (fun hc => ?_)
  · have hk2 : k < 6 := by first | omega | (simp at hc; omega)
    clear hc
    (refine q_skip ?_; refine q_seq ?_; refine q_block ?_; refine q_seq ?_; refine q_region ?_; (iterate 4 refine ql_pure tabOk rfl rfl ?_); refine ql_loadB tabOk rfl rfl rfl (by repeat first | exact .head _ | refine .tail _ ?_) (by rfl) ?_)
    obtain ⟨lp, hlpe⟩ : ∃ lp : Nat, (lp : Int) = r.laps := ⟨r.laps.toNat, by omega⟩
    refine ql_call (β := Nat × Nat × List Int) (ψ := fun y v => v = .slice (some ⟨y.1, 0, none⟩) y.2.2.length y.2.1 ∧ y.2.2.length = lp ∧ (∀ x ∈ y.2.2, 0 ≤ x ∧ x < s.length) ∧ srtB y.2.2 = true) (L' := fun y => [.ow (.slice (some ⟨y.1, 0, none⟩) y.2.2.length y.2.1) 3 1 y.2.2.length (ints y.2.2), dkP (.slice a2 n2 c2) b2 (0 + 6 * k + 6)]) tabOk [dkP (.slice a2 n2 c2) b2 (0 + 6 * k)] _ (fun x => x = b2) rfl rfl rfl rfl (Sp.cons (by repeat constructor) (Sp.refl _)) (fun x hx => ⟨_, .head _, hx⟩) (fun w' hs => by rw [← hlpe]; exact picked0 (loops := s.length) (laps := lp) (by omega) (by omega) (by omega) (by omega) hbyb2 hs (by omega)) ?_
    rintro ⟨pg, pc, q⟩ _ ⟨rfl, q1, q2, q3⟩
    dsimp only [List.cons_append, List.nil_append] at q1 q2 q3 ⊢
    have hqb := brok_in hcr (c := q) (by omega) q2 q3
    have hqm : q ∈ coursesL s.length (nL r) := coursesL_mem.2 ⟨by unfold nL; omega, q2, q3⟩
    have hlq := brk_len s r q
    (refine ql_pure tabOk rfl rfl ?_; refine q_nil ?_; refine q_seq ?_; refine q_region ?_; refine ql_pure tabOk rfl rfl ?_; refine ql_loadAB tabOk rfl rfl rfl (by repeat first | exact .head _ | refine .tail _ ?_) (by rfl) (by rfl) ?_; refine ql_pure tabOk rfl rfl ?_)
    refine ql_call (β := Value) tabOk [] _ M0 rfl rfl rfl rfl (Sp.refl _) (fun _ h => h.elim) (fun w' hs => by
      have := brok_u w' 0 w'.heap.size (some ⟨g, 0, none⟩) cd s r (sat_rdL (t := 32) hs (by repeat first | exact .head _ | refine .tail _ ?_) rfl) (by omega) 0 w'.heap.size (.slice (some ⟨pg, 0, none⟩) q.length pc) q (hs.rdI (t := 3) (by repeat first | exact .head _ | refine .tail _ ?_) rfl) (by omega)
      rw [hqb] at this
      exact this) ?_
    rintro z4 _ rfl
    dsimp only [List.cons_append, List.nil_append]
    refine ql_fact (fun w hs => hs.slice2 (v := z4) (by repeat first | exact .head _ | refine .tail _ ?_)) ?_
    rintro ⟨ya, yc, rfl⟩
    have hiff : q ∈ allC s r ↔ (brkL s r q).length = 0 := by
      rw [List.length_eq_zero_iff, ← rightB_iff]
      exact ⟨fun h => (List.mem_filter.1 h).2, fun h => List.mem_filter.2 ⟨hqm, h⟩⟩
    by_cases hz : (brkL s r q).length = 0
    · have hd := hiff.2 hz
      (refine ql_pure tabOk rfl rfl ?_; (iterate 2 refine ql_ext tabOk rfl rfl rfl ?_); (iterate 2 refine ql_pure tabOk rfl rfl ?_); refine q_nil ?_; refine q_seq ?_; refine q_region ?_; refine ql_pure tabOk rfl rfl ?_; refine ql_neqF tabOk rfl rfl rfl (by omega) ?_; refine ql_pure tabOk rfl rfl ?_; refine ql_gyes rfl ?_; refine ql_pure tabOk rfl rfl ?_; refine ql_gyes rfl ?_; refine ql_pure tabOk rfl rfl ?_; refine ql_gyes rfl ?_; refine ql_eqlT tabOk rfl rfl rfl (by omega) ?_; refine ql_gyes rfl ?_; refine ql_pure tabOk rfl rfl ?_; refine ql_gyes rfl ?_; refine ql_pure tabOk rfl rfl ?_; refine ql_gyes rfl ?_; refine ql_pure tabOk rfl rfl ?_; refine ql_gyes rfl ?_)
      refine ql_callFv (val := .bool true) rfl rfl rfl (fun w' hs => CaF.of tabOk rfl (by
        have := isL_ca w' 0 w'.heap.size 0 w'.heap.size (.slice va xs.length vc) (.slice (some ⟨pg, 0, none⟩) q.length pc) (allC s r) q (hx ▸ ls_rdII hs (xs := xs) (t := 3) (t2 := 22) (n := xs.length) (by repeat first | exact .head _ | refine .tail _ ?_) (by repeat first | exact .head _ | refine .tail _ ?_)) (by omega) hrows (hs.rdI (t := 3) (by repeat first | exact .head _ | refine .tail _ ?_) rfl) (by omega)
        rw [decide_eq_true hd] at this
        exact this)) ?_
      (refine ql_gyes rfl ?_)
      refine ql_neb bool_b rfl rfl rfl ?_
      (refine ql_pure tabOk rfl rfl ?_; refine q_nil ?_; refine q_cond_false rfl ?_; refine q_skip ?_; refine q_blk ?_; refine q_region ?_; refine ql_ar tabOk rfl rfl rfl rfl (by omega) (by omega) ?_; refine ql_pure tabOk rfl rfl ?_; refine q_nil ?_)
      exact hKK (k + 1) _ _ (by omega) (by omega) ⟨rfl, rfl, rfl, rfl, rfl, rfl, trivial⟩ (by repeat (first | exact Sp.nil | exact Sp.refl _ | refine Sp.cons (by repeat constructor) ?_))
    · have hd : ¬ q ∈ allC s r := fun h => hz (hiff.1 h)
      (refine ql_pure tabOk rfl rfl ?_; (iterate 2 refine ql_ext tabOk rfl rfl rfl ?_); (iterate 2 refine ql_pure tabOk rfl rfl ?_); refine q_nil ?_; refine q_seq ?_; refine q_region ?_; refine ql_pure tabOk rfl rfl ?_; refine ql_neqF tabOk rfl rfl rfl (by omega) ?_; refine ql_pure tabOk rfl rfl ?_; refine ql_gyes rfl ?_; refine ql_pure tabOk rfl rfl ?_; refine ql_gyes rfl ?_; refine ql_pure tabOk rfl rfl ?_; refine ql_gyes rfl ?_; refine ql_eqlF tabOk rfl rfl rfl (by omega) ?_; refine ql_gyes rfl ?_; refine ql_pure tabOk rfl rfl ?_; refine ql_gyes rfl ?_; refine ql_pure tabOk rfl rfl ?_; refine ql_gyes rfl ?_; refine ql_pure tabOk rfl rfl ?_; refine ql_gyes rfl ?_)
      refine ql_callFv (val := .bool false) rfl rfl rfl (fun w' hs => CaF.of tabOk rfl (by
        have := isL_ca w' 0 w'.heap.size 0 w'.heap.size (.slice va xs.length vc) (.slice (some ⟨pg, 0, none⟩) q.length pc) (allC s r) q (hx ▸ ls_rdII hs (xs := xs) (t := 3) (t2 := 22) (n := xs.length) (by repeat first | exact .head _ | refine .tail _ ?_) (by repeat first | exact .head _ | refine .tail _ ?_)) (by omega) hrows (hs.rdI (t := 3) (by repeat first | exact .head _ | refine .tail _ ?_) rfl) (by omega)
        rw [decide_eq_false hd] at this
        exact this)) ?_
      (refine ql_gyes rfl ?_)
      refine ql_neb bool_b rfl rfl rfl ?_
      (refine ql_pure tabOk rfl rfl ?_; refine q_nil ?_; refine q_cond_false rfl ?_; refine q_skip ?_; refine q_blk ?_; refine q_region ?_; refine ql_ar tabOk rfl rfl rfl rfl (by omega) (by omega) ?_; refine ql_pure tabOk rfl rfl ?_; refine q_nil ?_)
      exact hKK (k + 1) _ _ (by omega) (by omega) ⟨rfl, rfl, rfl, rfl, rfl, rfl, trivial⟩ (by repeat (first | exact Sp.nil | exact Sp.refl _ | refine Sp.cons (by repeat constructor) ?_))
  obtain rfl : k = 6 := by first | omega | (simp at hc; omega)
  clear hc hKK
  have h4 := hm.g
  have h5 := hm.c
  have h6 := hm.p
  have h7 := hm.wide
  have h8 := hm.uses
  (refine q_exit _ rfl ?_; refine q_seq ?_; refine q_region ?_; refine ql_loadAB tabOk rfl rfl rfl (by repeat first | exact .head _ | refine .tail _ ?_) (by rfl) (by rfl) ?_)
  refine ql_alloc zero27 rfl (fun b18 => ?_)
  (refine ql_setA tabOk rfl rfl rfl rfl rfl (by repeat constructor) rfl ?_; refine q_nil ?_; (iterate 2 refine q_seq ?_); refine q_region ?_; (iterate 3 refine ql_pure tabOk rfl rfl ?_))
  refine ql_mkS 70 [.pointer (some ⟨b18, 1, none⟩), .pointer (some ⟨b18, 3, none⟩), .pointer (some ⟨b18, 5, none⟩)] rfl (by kernel_rfl) rfl (fun bp => ?_)
  ((iterate 2 refine ql_pure tabOk rfl rfl ?_); refine q_nil ?_; refine q_block ?_)
  refine q_loop (σ := {x : Nat × Rl // x.1 ≤ 3 ∧ Sp3 r x.2 ∧ (x.1 ≤ 2 → x.2.p0 = r.p0 ∧ x.2.p1 = r.p1) ∧ (x.1 ≤ 1 → x.2.c0 = r.c0 ∧ x.2.c1 = r.c1) ∧ (x.1 ≤ 0 → x.2.g0 = r.g0 ∧ x.2.g1 = r.g1)}) (fun _ => True) (fun x => 3 - x.1.1) (fun x => [(5, .slice (some ⟨g, 0, none⟩) s.length cd), (6, .pointer (some ⟨b6, 0, none⟩)), (7, .pointer (some ⟨b2, 0, none⟩)), (8, .slice va xs.length vc), (14, .func (.func 22) #[] #[]), (18, .pointer (some ⟨b18, 0, none⟩)), (108, .slice (some ⟨bp, 0, none⟩) 3 3), (109, .int .i64 3), (110, .int .i64 x.1.1)])
    (fun x => [.pt b18 (rlC x.1.2) 27, dkP (.slice a2 n2 c2) b2 (0 + 6 * 6 + 2 * x.1.1), .pt bp [.pointer (some ⟨b18, 1, none⟩), .pointer (some ⟨b18, 3, none⟩), .pointer (some ⟨b18, 5, none⟩)] 70, .ow (.slice va xs.length vc) 22 1 xs.length (xs.map (·.1)), un (rowsO 3 xs), .ow (.slice (some ⟨g, 0, none⟩) s.length cd) 32 3 s.length (lpC s), .pt b6 (rlC r) 27])
    ⟨(0, r), by omega, ⟨rfl, by dsimp only; omega, by dsimp only; omega, by dsimp only; omega, rfl, rfl⟩, by simp, by simp, by simp⟩ trivial ⟨rfl, rfl, rfl, rfl, rfl, rfl, rfl, rfl, rfl, trivial⟩ (by repeat (first | exact Sp.nil | exact Sp.refl _ | refine Sp.cons (by repeat constructor) ?_)) ?_
  rintro ⟨⟨i, R⟩, hi, hS, hp0, hc0, hg0⟩ _ K hK
  simp only at hi hS hp0 hc0 hg0
  dsimp only
  obtain ⟨S1, S2, S3, S4, S5, S6⟩ := hS
  obtain ⟨la, g0, g1, c0, c1, p0, p1, wd, us⟩ := R
  dsimp only at S1 S2 S3 S4 S5 S6 hp0 hc0 hg0 ⊢
  obtain rfl | rfl | rfl | rfl : i = 0 ∨ i = 1 ∨ i = 2 ∨ i = 3 := by omega
  · obtain ⟨KK0, hKK0⟩ : ∃ x, x = 0 + 6 * 6 + 2 * 0 := ⟨_, rfl⟩
    rw [← hKK0]
    (refine q_seq ?_; refine q_region ?_; refine ql_lssT tabOk rfl rfl rfl (by omega) ?_; refine q_nil ?_; refine q_seq ?_; refine q_cond_true rfl ?_; refine q_skip ?_; refine q_seq ?_; refine q_block ?_; refine q_seq ?_; refine q_region ?_)
    refine ql_index tabOk rfl rfl rfl rfl rfl (by decide) (by decide) ?_
    (refine ql_loadB tabOk rfl rfl rfl (by repeat first | exact .head _ | refine .tail _ ?_) (by rfl) ?_; refine ql_pure tabOk rfl rfl ?_; refine q_nil ?_)
    refine q_drawB2 [true, false, true, true, true, true, true, true, true, true, true, true, true, true, true, true, true, false, false, false, false, false, false, false, false] [.pt b18 [.int .i64 la, .int .i64 g0, .int .i64 g1, .int .i64 c0, .int .i64 c1, .int .i64 p0, .int .i64 p1, .int .i64 wd, .int .i64 us] 27, .pt bp [.pointer (some ⟨b18, 1, none⟩), .pointer (some ⟨b18, 3, none⟩), .pointer (some ⟨b18, 5, none⟩)] 70, .ow (.slice va xs.length vc) 22 1 xs.length (xs.map (·.1)), un (rowsO 3 xs), .ow (.slice (some ⟨g, 0, none⟩) s.length cd) 32 3 s.length (lpC s), .pt b6 (rlC r) 27]
      [dkP (.slice a2 n2 c2) b2 _]
      [.pt bp [.pointer (some ⟨b18, 1, none⟩), .pointer (some ⟨b18, 3, none⟩), .pointer (some ⟨b18, 5, none⟩)] 70, .ow (.slice va xs.length vc) 22 1 xs.length (xs.map (·.1)), un (rowsO 3 xs), .ow (.slice (some ⟨g, 0, none⟩) s.length cd) 32 3 s.length (lpC s), .pt b6 (rlC r) 27]
      [.pt b18 [.int .i64 la, .int .i64 g0, .int .i64 g1, .int .i64 c0, .int .i64 c1, .int .i64 p0, .int .i64 p1, .int .i64 wd, .int .i64 us] 27] (by repeat (first | exact Sp.nil | exact Sp.refl _ | refine Sp.cons (by repeat constructor) ?_)) (by repeat (first | exact Sp.nil | exact Sp.refl _ | refine Sp.cons (by repeat constructor) ?_)) (by kernel_rfl) (by kernel_rfl) (by kernel_rfl) ?_
    refine qb_T2 1 [dkP (.slice a2 n2 c2) b2 _] rfl rfl (by repeat (first | exact Sp.nil | exact Sp.refl _ | refine Sp.cons (by repeat constructor) ?_)) fun K1 hK1 => ?_
    (refine qf_pure tabOk rfl rfl rfl ?_; refine qf_nil ?_)
    refine hK1 _ _ (qb_F 1 [.pt b18 [.int .i64 la, .int .i64 g0, .int .i64 g1, .int .i64 c0, .int .i64 c1, .int .i64 p0, .int .i64 p1, .int .i64 wd, .int .i64 us] 27, dkP (.slice a2 n2 c2) b2 _] rfl rfl (by repeat (first | exact Sp.nil | exact Sp.refl _ | refine Sp.cons (by repeat constructor) ?_)) fun K1 hK1 => ?_)
    (refine qf_pure tabOk rfl rfl rfl ?_; refine qf_nil ?_)
    refine hK1 _ _ (qb_T2 15 [dkP (.slice a2 n2 c2) b2 _] rfl rfl (by repeat (first | exact Sp.nil | exact Sp.refl _ | refine Sp.cons (by repeat constructor) ?_)) fun K1 hK1 => ?_)
    ((iterate 3 refine qf_pure tabOk rfl rfl rfl ?_); refine qf_loadB tabOk rfl rfl rfl (by repeat first | exact .head _ | refine .tail _ ?_) (by rfl) ?_; refine qf_pure tabOk rfl rfl rfl ?_)
    refine qf_call (β := Int) (ψ := fun zq v => v = .int .i64 zq ∧ 0 ≤ zq ∧ zq ≤ 4 - 1) (L' := fun _ => [dkP (.slice a2 n2 c2) b2 (KK0 + 1)]) tabOk [dkP (.slice a2 n2 c2) b2 (KK0)] _ (fun x => x = b2) rfl rfl rfl rfl (Sp.cons (by repeat constructor) (Sp.refl _)) (fun x hx => ⟨_, .head _, hx⟩) (fun w' hs => drw0 hbyb2 hs (by omega) (by omega)) ?_; rintro x1 _ ⟨rfl, hx1⟩
    ((iterate 2 refine qf_ar tabOk rfl rfl rfl rfl (by omega) (by omega) ?_); (iterate 4 refine qf_pure tabOk rfl rfl rfl ?_); refine qf_loadB tabOk rfl rfl rfl (by repeat first | exact .head _ | refine .tail _ ?_) (by rfl) ?_; refine qf_pure tabOk rfl rfl rfl ?_)
    refine qf_call (β := Int) (ψ := fun zq v => v = .int .i64 zq ∧ 0 ≤ zq ∧ zq ≤ 4 - 1) (L' := fun _ => [dkP (.slice a2 n2 c2) b2 (KK0 + 1 + 1)]) tabOk [dkP (.slice a2 n2 c2) b2 (KK0 + 1)] _ (fun x => x = b2) rfl rfl rfl rfl (Sp.cons (by repeat constructor) (Sp.refl _)) (fun x hx => ⟨_, .head _, hx⟩) (fun w' hs => drw0 hbyb2 hs (by omega) (by omega)) ?_; rintro x2 _ ⟨rfl, hx2⟩
    (refine qf_nil ?_)
    refine hK1 _ _ (qb_F 8 [.pt b18 [.int .i64 la, .int .i64 g0, .int .i64 g1, .int .i64 c0, .int .i64 c1, .int .i64 p0, .int .i64 p1, .int .i64 wd, .int .i64 us] 27, dkP (.slice a2 n2 c2) b2 _] rfl rfl (by repeat (first | exact Sp.nil | exact Sp.refl _ | refine Sp.cons (by repeat constructor) ?_)) fun K1 hK1 => ?_)
    ((iterate 2 refine qf_ar tabOk rfl rfl rfl rfl (by omega) (by omega) ?_); (iterate 2 refine qf_pure tabOk rfl rfl rfl ?_); refine qf_st1 tabOk rfl rfl rfl rfl (by repeat constructor) ?_; (iterate 2 refine qf_pure tabOk rfl rfl rfl ?_); refine qf_st2 tabOk rfl rfl rfl rfl (by repeat constructor) ?_; refine qf_nil ?_)
    refine hK1 _ _ (qb_nil ?_)
    (refine q_blk ?_; refine q_region ?_; refine ql_ar tabOk rfl rfl rfl rfl (by omega) (by omega) ?_; refine ql_pure tabOk rfl rfl ?_; refine q_nil ?_)
    exact hK ⟨(1, ⟨la, max 0 (g0 - 100 * x1), g1 + 100 * x2, c0, c1, p0, p1, wd, us⟩), by omega, ⟨S1, by simp only; omega, by simp only; omega, by simp only; omega, S5, S6⟩, fun h => hp0 (by omega), fun h => hc0 (by omega), fun h => by simp only at h; omega⟩ _ _ trivial (by simp only; omega) ⟨rfl, rfl, rfl, rfl, rfl, rfl, rfl, rfl, rfl, trivial⟩ (by subst hKK0; repeat (first | exact Sp.nil | exact Sp.refl _ | refine Sp.cons (by repeat constructor) ?_))
  · obtain ⟨KK0, hKK0⟩ : ∃ x, x = 0 + 6 * 6 + 2 * 1 := ⟨_, rfl⟩
    rw [← hKK0]
    (refine q_seq ?_; refine q_region ?_; refine ql_lssT tabOk rfl rfl rfl (by omega) ?_; refine q_nil ?_; refine q_seq ?_; refine q_cond_true rfl ?_; refine q_skip ?_; refine q_seq ?_; refine q_block ?_; refine q_seq ?_; refine q_region ?_)
    refine ql_index tabOk rfl rfl rfl rfl rfl (by decide) (by decide) ?_
    (refine ql_loadB tabOk rfl rfl rfl (by repeat first | exact .head _ | refine .tail _ ?_) (by rfl) ?_; refine ql_pure tabOk rfl rfl ?_; refine q_nil ?_)
    refine q_drawB2 [true, false, true, true, true, true, true, true, true, true, true, true, true, true, true, true, true, false, false, false, false, false, false, false, false] [.pt b18 [.int .i64 la, .int .i64 g0, .int .i64 g1, .int .i64 c0, .int .i64 c1, .int .i64 p0, .int .i64 p1, .int .i64 wd, .int .i64 us] 27, .pt bp [.pointer (some ⟨b18, 1, none⟩), .pointer (some ⟨b18, 3, none⟩), .pointer (some ⟨b18, 5, none⟩)] 70, .ow (.slice va xs.length vc) 22 1 xs.length (xs.map (·.1)), un (rowsO 3 xs), .ow (.slice (some ⟨g, 0, none⟩) s.length cd) 32 3 s.length (lpC s), .pt b6 (rlC r) 27]
      [dkP (.slice a2 n2 c2) b2 _]
      [.pt bp [.pointer (some ⟨b18, 1, none⟩), .pointer (some ⟨b18, 3, none⟩), .pointer (some ⟨b18, 5, none⟩)] 70, .ow (.slice va xs.length vc) 22 1 xs.length (xs.map (·.1)), un (rowsO 3 xs), .ow (.slice (some ⟨g, 0, none⟩) s.length cd) 32 3 s.length (lpC s), .pt b6 (rlC r) 27]
      [.pt b18 [.int .i64 la, .int .i64 g0, .int .i64 g1, .int .i64 c0, .int .i64 c1, .int .i64 p0, .int .i64 p1, .int .i64 wd, .int .i64 us] 27] (by repeat (first | exact Sp.nil | exact Sp.refl _ | refine Sp.cons (by repeat constructor) ?_)) (by repeat (first | exact Sp.nil | exact Sp.refl _ | refine Sp.cons (by repeat constructor) ?_)) (by kernel_rfl) (by kernel_rfl) (by kernel_rfl) ?_
    refine qb_T2 1 [dkP (.slice a2 n2 c2) b2 _] rfl rfl (by repeat (first | exact Sp.nil | exact Sp.refl _ | refine Sp.cons (by repeat constructor) ?_)) fun K1 hK1 => ?_
    (refine qf_pure tabOk rfl rfl rfl ?_; refine qf_nil ?_)
    refine hK1 _ _ (qb_F 1 [.pt b18 [.int .i64 la, .int .i64 g0, .int .i64 g1, .int .i64 c0, .int .i64 c1, .int .i64 p0, .int .i64 p1, .int .i64 wd, .int .i64 us] 27, dkP (.slice a2 n2 c2) b2 _] rfl rfl (by repeat (first | exact Sp.nil | exact Sp.refl _ | refine Sp.cons (by repeat constructor) ?_)) fun K1 hK1 => ?_)
    (refine qf_pure tabOk rfl rfl rfl ?_; refine qf_nil ?_)
    refine hK1 _ _ (qb_T2 15 [dkP (.slice a2 n2 c2) b2 _] rfl rfl (by repeat (first | exact Sp.nil | exact Sp.refl _ | refine Sp.cons (by repeat constructor) ?_)) fun K1 hK1 => ?_)
    ((iterate 3 refine qf_pure tabOk rfl rfl rfl ?_); refine qf_loadB tabOk rfl rfl rfl (by repeat first | exact .head _ | refine .tail _ ?_) (by rfl) ?_; refine qf_pure tabOk rfl rfl rfl ?_)
    refine qf_call (β := Int) (ψ := fun zq v => v = .int .i64 zq ∧ 0 ≤ zq ∧ zq ≤ 4 - 1) (L' := fun _ => [dkP (.slice a2 n2 c2) b2 (KK0 + 1)]) tabOk [dkP (.slice a2 n2 c2) b2 (KK0)] _ (fun x => x = b2) rfl rfl rfl rfl (Sp.cons (by repeat constructor) (Sp.refl _)) (fun x hx => ⟨_, .head _, hx⟩) (fun w' hs => drw0 hbyb2 hs (by omega) (by omega)) ?_; rintro x1 _ ⟨rfl, hx1⟩
    ((iterate 2 refine qf_ar tabOk rfl rfl rfl rfl (by omega) (by omega) ?_); (iterate 4 refine qf_pure tabOk rfl rfl rfl ?_); refine qf_loadB tabOk rfl rfl rfl (by repeat first | exact .head _ | refine .tail _ ?_) (by rfl) ?_; refine qf_pure tabOk rfl rfl rfl ?_)
    refine qf_call (β := Int) (ψ := fun zq v => v = .int .i64 zq ∧ 0 ≤ zq ∧ zq ≤ 4 - 1) (L' := fun _ => [dkP (.slice a2 n2 c2) b2 (KK0 + 1 + 1)]) tabOk [dkP (.slice a2 n2 c2) b2 (KK0 + 1)] _ (fun x => x = b2) rfl rfl rfl rfl (Sp.cons (by repeat constructor) (Sp.refl _)) (fun x hx => ⟨_, .head _, hx⟩) (fun w' hs => drw0 hbyb2 hs (by omega) (by omega)) ?_; rintro x2 _ ⟨rfl, hx2⟩
    (refine qf_nil ?_)
    refine hK1 _ _ (qb_F 8 [.pt b18 [.int .i64 la, .int .i64 g0, .int .i64 g1, .int .i64 c0, .int .i64 c1, .int .i64 p0, .int .i64 p1, .int .i64 wd, .int .i64 us] 27, dkP (.slice a2 n2 c2) b2 _] rfl rfl (by repeat (first | exact Sp.nil | exact Sp.refl _ | refine Sp.cons (by repeat constructor) ?_)) fun K1 hK1 => ?_)
    ((iterate 2 refine qf_ar tabOk rfl rfl rfl rfl (by omega) (by omega) ?_); (iterate 2 refine qf_pure tabOk rfl rfl rfl ?_); refine qf_st3 tabOk rfl rfl rfl rfl (by repeat constructor) ?_; (iterate 2 refine qf_pure tabOk rfl rfl rfl ?_); refine qf_st4 tabOk rfl rfl rfl rfl (by repeat constructor) ?_; refine qf_nil ?_)
    refine hK1 _ _ (qb_nil ?_)
    (refine q_blk ?_; refine q_region ?_; refine ql_ar tabOk rfl rfl rfl rfl (by omega) (by omega) ?_; refine ql_pure tabOk rfl rfl ?_; refine q_nil ?_)
    exact hK ⟨(2, ⟨la, g0, g1, max 0 (c0 - 100 * x1), c1 + 100 * x2, p0, p1, wd, us⟩), by omega, ⟨S1, by simp only; omega, by simp only; omega, by simp only; omega, S5, S6⟩, fun h => hp0 (by omega), fun h => by simp only at h; omega, fun h => by simp only at h; omega⟩ _ _ trivial (by simp only; omega) ⟨rfl, rfl, rfl, rfl, rfl, rfl, rfl, rfl, rfl, trivial⟩ (by subst hKK0; repeat (first | exact Sp.nil | exact Sp.refl _ | refine Sp.cons (by repeat constructor) ?_))
  · obtain ⟨KK0, hKK0⟩ : ∃ x, x = 0 + 6 * 6 + 2 * 2 := ⟨_, rfl⟩
    rw [← hKK0]
    (refine q_seq ?_; refine q_region ?_; refine ql_lssT tabOk rfl rfl rfl (by omega) ?_; refine q_nil ?_; refine q_seq ?_; refine q_cond_true rfl ?_; refine q_skip ?_; refine q_seq ?_; refine q_block ?_; refine q_seq ?_; refine q_region ?_)
    refine ql_index tabOk rfl rfl rfl rfl rfl (by decide) (by decide) ?_
    (refine ql_loadB tabOk rfl rfl rfl (by repeat first | exact .head _ | refine .tail _ ?_) (by rfl) ?_; refine ql_pure tabOk rfl rfl ?_; refine q_nil ?_)
    refine q_drawB2 [true, false, true, true, true, true, true, true, true, true, true, true, true, true, true, true, true, false, false, false, false, false, false, false, false] [.pt b18 [.int .i64 la, .int .i64 g0, .int .i64 g1, .int .i64 c0, .int .i64 c1, .int .i64 p0, .int .i64 p1, .int .i64 wd, .int .i64 us] 27, .pt bp [.pointer (some ⟨b18, 1, none⟩), .pointer (some ⟨b18, 3, none⟩), .pointer (some ⟨b18, 5, none⟩)] 70, .ow (.slice va xs.length vc) 22 1 xs.length (xs.map (·.1)), un (rowsO 3 xs), .ow (.slice (some ⟨g, 0, none⟩) s.length cd) 32 3 s.length (lpC s), .pt b6 (rlC r) 27]
      [dkP (.slice a2 n2 c2) b2 _]
      [.pt bp [.pointer (some ⟨b18, 1, none⟩), .pointer (some ⟨b18, 3, none⟩), .pointer (some ⟨b18, 5, none⟩)] 70, .ow (.slice va xs.length vc) 22 1 xs.length (xs.map (·.1)), un (rowsO 3 xs), .ow (.slice (some ⟨g, 0, none⟩) s.length cd) 32 3 s.length (lpC s), .pt b6 (rlC r) 27]
      [.pt b18 [.int .i64 la, .int .i64 g0, .int .i64 g1, .int .i64 c0, .int .i64 c1, .int .i64 p0, .int .i64 p1, .int .i64 wd, .int .i64 us] 27] (by repeat (first | exact Sp.nil | exact Sp.refl _ | refine Sp.cons (by repeat constructor) ?_)) (by repeat (first | exact Sp.nil | exact Sp.refl _ | refine Sp.cons (by repeat constructor) ?_)) (by kernel_rfl) (by kernel_rfl) (by kernel_rfl) ?_
    refine qb_T2 1 [dkP (.slice a2 n2 c2) b2 _] rfl rfl (by repeat (first | exact Sp.nil | exact Sp.refl _ | refine Sp.cons (by repeat constructor) ?_)) fun K1 hK1 => ?_
    (refine qf_pure tabOk rfl rfl rfl ?_; refine qf_nil ?_)
    refine hK1 _ _ (qb_F 1 [.pt b18 [.int .i64 la, .int .i64 g0, .int .i64 g1, .int .i64 c0, .int .i64 c1, .int .i64 p0, .int .i64 p1, .int .i64 wd, .int .i64 us] 27, dkP (.slice a2 n2 c2) b2 _] rfl rfl (by repeat (first | exact Sp.nil | exact Sp.refl _ | refine Sp.cons (by repeat constructor) ?_)) fun K1 hK1 => ?_)
    (refine qf_pure tabOk rfl rfl rfl ?_; refine qf_nil ?_)
    refine hK1 _ _ (qb_T2 15 [dkP (.slice a2 n2 c2) b2 _] rfl rfl (by repeat (first | exact Sp.nil | exact Sp.refl _ | refine Sp.cons (by repeat constructor) ?_)) fun K1 hK1 => ?_)
    ((iterate 3 refine qf_pure tabOk rfl rfl rfl ?_); refine qf_loadB tabOk rfl rfl rfl (by repeat first | exact .head _ | refine .tail _ ?_) (by rfl) ?_; refine qf_pure tabOk rfl rfl rfl ?_)
    refine qf_call (β := Int) (ψ := fun zq v => v = .int .i64 zq ∧ 0 ≤ zq ∧ zq ≤ 4 - 1) (L' := fun _ => [dkP (.slice a2 n2 c2) b2 (KK0 + 1)]) tabOk [dkP (.slice a2 n2 c2) b2 (KK0)] _ (fun x => x = b2) rfl rfl rfl rfl (Sp.cons (by repeat constructor) (Sp.refl _)) (fun x hx => ⟨_, .head _, hx⟩) (fun w' hs => drw0 hbyb2 hs (by omega) (by omega)) ?_; rintro x1 _ ⟨rfl, hx1⟩
    ((iterate 2 refine qf_ar tabOk rfl rfl rfl rfl (by omega) (by omega) ?_); (iterate 4 refine qf_pure tabOk rfl rfl rfl ?_); refine qf_loadB tabOk rfl rfl rfl (by repeat first | exact .head _ | refine .tail _ ?_) (by rfl) ?_; refine qf_pure tabOk rfl rfl rfl ?_)
    refine qf_call (β := Int) (ψ := fun zq v => v = .int .i64 zq ∧ 0 ≤ zq ∧ zq ≤ 4 - 1) (L' := fun _ => [dkP (.slice a2 n2 c2) b2 (KK0 + 1 + 1)]) tabOk [dkP (.slice a2 n2 c2) b2 (KK0 + 1)] _ (fun x => x = b2) rfl rfl rfl rfl (Sp.cons (by repeat constructor) (Sp.refl _)) (fun x hx => ⟨_, .head _, hx⟩) (fun w' hs => drw0 hbyb2 hs (by omega) (by omega)) ?_; rintro x2 _ ⟨rfl, hx2⟩
    (refine qf_nil ?_)
    refine hK1 _ _ (qb_F 8 [.pt b18 [.int .i64 la, .int .i64 g0, .int .i64 g1, .int .i64 c0, .int .i64 c1, .int .i64 p0, .int .i64 p1, .int .i64 wd, .int .i64 us] 27, dkP (.slice a2 n2 c2) b2 _] rfl rfl (by repeat (first | exact Sp.nil | exact Sp.refl _ | refine Sp.cons (by repeat constructor) ?_)) fun K1 hK1 => ?_)
    ((iterate 2 refine qf_ar tabOk rfl rfl rfl rfl (by omega) (by omega) ?_); (iterate 2 refine qf_pure tabOk rfl rfl rfl ?_); refine qf_st5 tabOk rfl rfl rfl rfl (by repeat constructor) ?_; (iterate 2 refine qf_pure tabOk rfl rfl rfl ?_); refine qf_st6 tabOk rfl rfl rfl rfl (by repeat constructor) ?_; refine qf_nil ?_)
    refine hK1 _ _ (qb_nil ?_)
    (refine q_blk ?_; refine q_region ?_; refine ql_ar tabOk rfl rfl rfl rfl (by omega) (by omega) ?_; refine ql_pure tabOk rfl rfl ?_; refine q_nil ?_)
    exact hK ⟨(3, ⟨la, g0, g1, c0, c1, max 0 (p0 - 100 * x1), p1 + 100 * x2, wd, us⟩), by omega, ⟨S1, by simp only; omega, by simp only; omega, by simp only; omega, S5, S6⟩, fun h => by simp only at h; omega, fun h => by simp only at h; omega, fun h => by simp only at h; omega⟩ _ _ trivial (by simp only; omega) ⟨rfl, rfl, rfl, rfl, rfl, rfl, rfl, rfl, rfl, trivial⟩ (by subst hKK0; repeat (first | exact Sp.nil | exact Sp.refl _ | refine Sp.cons (by repeat constructor) ?_))
  · clear hK hp0 hc0 hg0
    obtain ⟨KK0, hKK0⟩ : ∃ x, x = 0 + 6 * 6 + 2 * 3 := ⟨_, rfl⟩
    rw [← hKK0]
    (refine q_seq ?_; refine q_region ?_; refine ql_lssF tabOk rfl rfl rfl (by omega) ?_; refine q_nil ?_; refine q_seq ?_; refine q_cond_false rfl ?_; refine q_exit _ rfl ?_; refine q_seq ?_)
    refine q_drawB2 [true, true, true, true, true, true, false, false, true, true, false, false, false, false, false, false] [.pt b18 [.int .i64 la, .int .i64 g0, .int .i64 g1, .int .i64 c0, .int .i64 c1, .int .i64 p0, .int .i64 p1, .int .i64 wd, .int .i64 us] 27, .pt bp [.pointer (some ⟨b18, 1, none⟩), .pointer (some ⟨b18, 3, none⟩), .pointer (some ⟨b18, 5, none⟩)] 70, .ow (.slice va xs.length vc) 22 1 xs.length (xs.map (·.1)), un (rowsO 3 xs), .ow (.slice (some ⟨g, 0, none⟩) s.length cd) 32 3 s.length (lpC s), .pt b6 (rlC r) 27] [dkP (.slice a2 n2 c2) b2 _] [.pt bp [.pointer (some ⟨b18, 1, none⟩), .pointer (some ⟨b18, 3, none⟩), .pointer (some ⟨b18, 5, none⟩)] 70, .ow (.slice va xs.length vc) 22 1 xs.length (xs.map (·.1)), un (rowsO 3 xs), .ow (.slice (some ⟨g, 0, none⟩) s.length cd) 32 3 s.length (lpC s), .pt b6 (rlC r) 27] [.pt b18 [.int .i64 la, .int .i64 g0, .int .i64 g1, .int .i64 c0, .int .i64 c1, .int .i64 p0, .int .i64 p1, .int .i64 wd, .int .i64 us] 27] (by repeat (first | exact Sp.nil | exact Sp.refl _ | refine Sp.cons (by repeat constructor) ?_)) (by repeat (first | exact Sp.nil | exact Sp.refl _ | refine Sp.cons (by repeat constructor) ?_)) (by kernel_rfl) (by kernel_rfl) (by kernel_rfl) ?_
    refine qb_T2 6 [dkP (.slice a2 n2 c2) b2 _] rfl rfl (by repeat (first | exact Sp.nil | exact Sp.refl _ | refine Sp.cons (by repeat constructor) ?_)) fun K1 hK1 => ?_
    (refine qf_pure tabOk rfl rfl rfl ?_; refine qf_loadB tabOk rfl rfl rfl (by repeat first | exact .head _ | refine .tail _ ?_) (by rfl) ?_; refine qf_pure tabOk rfl rfl rfl ?_)
    refine qf_call (β := Int) (ψ := fun zq v => v = .int .i64 zq ∧ 0 ≤ zq ∧ zq ≤ 2 - 1) (L' := fun _ => [dkP (.slice a2 n2 c2) b2 (KK0 + 1)]) tabOk [dkP (.slice a2 n2 c2) b2 (KK0)] _ (fun x => x = b2) rfl rfl rfl rfl (Sp.cons (by repeat constructor) (Sp.refl _)) (fun x hx => ⟨_, .head _, hx⟩) (fun w' hs => drw0 hbyb2 hs (by omega) (by omega)) ?_; rintro x1 _ ⟨rfl, hx1⟩
    (refine qf_ar tabOk rfl rfl rfl rfl (by omega) (by omega) ?_; refine qf_pure tabOk rfl rfl rfl ?_; refine qf_nil ?_)
    refine hK1 _ _ (qb_F 2 [.pt b18 [.int .i64 la, .int .i64 g0, .int .i64 g1, .int .i64 c0, .int .i64 c1, .int .i64 p0, .int .i64 p1, .int .i64 wd, .int .i64 us] 27, dkP (.slice a2 n2 c2) b2 _] rfl rfl (by repeat (first | exact Sp.nil | exact Sp.refl _ | refine Sp.cons (by repeat constructor) ?_)) fun K1 hK1 => ?_)
    (refine qf_pure tabOk rfl rfl rfl ?_; refine qf_loadB tabOk rfl rfl rfl (by repeat first | exact .head _ | refine .tail _ ?_) (by rfl) ?_; refine qf_nil ?_)
    refine hK1 _ _ (qb_T2 2 [dkP (.slice a2 n2 c2) b2 _] rfl rfl (by repeat (first | exact Sp.nil | exact Sp.refl _ | refine Sp.cons (by repeat constructor) ?_)) fun K1 hK1 => ?_)
    (refine qf_pure tabOk rfl rfl rfl ?_)
    refine qf_call (β := Int) (ψ := fun zq v => v = .int .i64 zq ∧ 0 ≤ zq ∧ zq ≤ 2 - 1) (L' := fun _ => [dkP (.slice a2 n2 c2) b2 (KK0 + 1 + 1)]) tabOk [dkP (.slice a2 n2 c2) b2 (KK0 + 1)] _ (fun x => x = b2) rfl rfl rfl rfl (Sp.cons (by repeat constructor) (Sp.refl _)) (fun x hx => ⟨_, .head _, hx⟩) (fun w' hs => drw0 hbyb2 hs (by omega) (by omega)) ?_; rintro x2 _ ⟨rfl, hx2⟩
    (refine qf_nil ?_)
    refine hK1 _ _ (qb_F 6 [.pt b18 [.int .i64 la, .int .i64 g0, .int .i64 g1, .int .i64 c0, .int .i64 c1, .int .i64 p0, .int .i64 p1, .int .i64 wd, .int .i64 us] 27, dkP (.slice a2 n2 c2) b2 _] rfl rfl (by repeat (first | exact Sp.nil | exact Sp.refl _ | refine Sp.cons (by repeat constructor) ?_)) fun K1 hK1 => ?_)
    (refine qf_ar tabOk rfl rfl rfl rfl (by omega) (by omega) ?_; (iterate 2 refine qf_pure tabOk rfl rfl rfl ?_); refine qf_st7 tabOk rfl rfl rfl rfl (by repeat constructor) ?_; refine qf_pure tabOk rfl rfl rfl ?_; refine qf_st8 tabOk rfl rfl rfl rfl (by repeat constructor) ?_; refine qf_nil ?_)
    refine hK1 _ _ (qb_nil ?_)
    (refine q_seq ?_; refine q_region ?_; refine ql_pure tabOk rfl rfl ?_; refine ql_loadAB tabOk rfl rfl rfl (by repeat first | exact .head _ | refine .tail _ ?_) (by rfl) (by rfl) ?_)
    obtain ⟨W, hW⟩ : ∃ W : Rl, W = ⟨la, g0, g1, c0, c1, p0, p1, max 1 (r.wide - x1), min 6 (r.uses + x2)⟩ := ⟨_, rfl⟩
    have eW : [Value.int .i64 la, .int .i64 g0, .int .i64 g1, .int .i64 c0, .int .i64 c1, .int .i64 p0, .int .i64 p1, .int .i64 (max 1 (r.wide - x1)), .int .i64 (min 6 (r.uses + x2))] = rlC W := by rw [hW]
    have hWw : Wid r W := by rw [hW]; exact ⟨S1, by simp only; omega, by simp only; omega, by simp only; omega, by simp only; omega, by simp only; omega⟩
    have hWc : CR s W := by rw [hW]; exact ⟨hcr.s, ⟨by simp only; omega, by simp only; omega, by simp only; omega, by simp only; omega, by simp only; omega, by simp only; omega⟩⟩
    have hA2 : (allC s W).length ≤ 300 := allC_300 (by omega) (by have := hWw.laps; unfold nL at hnl ⊢; rw [this]; exact hnl)
    have hrows2 : ∀ c ∈ allC s W, c.length ≤ 1000000 := fun c hc => by have := allC_len hWc hc; omega
    clear hW
    try rw [eW]
    refine ql_call (β := Value × List (Value × List Int)) tabOk [] _ M0 rfl rfl rfl rfl (Sp.refl _) (fun _ h => h.elim) (fun w' hs => all_ok w' 0 w'.heap.size (some ⟨g, 0, none⟩) cd s W (sat_rdL (t := 32) hs (by repeat first | exact .head _ | refine .tail _ ?_) rfl) hWc hA2) ?_
    rintro ⟨z5, ys⟩ _ ⟨rfl, hy⟩
    dsimp only [lsK, List.cons_append, List.nil_append] at hy ⊢
    have l2 := congrArg List.length hy
    rw [List.length_map] at l2
    (refine ql_pure tabOk rfl rfl ?_; (iterate 2 refine ql_ext tabOk rfl rfl rfl ?_); (iterate 2 refine ql_pure tabOk rfl rfl ?_); refine q_nil ?_; (iterate 2 refine q_seq ?_); refine q_region ?_; refine ql_pure tabOk rfl rfl ?_; refine ql_neqF tabOk rfl rfl rfl (by omega) ?_; refine q_nil ?_; refine q_cond_false rfl ?_; refine q_skip ?_; (iterate 2 refine q_seq ?_); refine q_region ?_; (iterate 3 refine ql_pure tabOk rfl rfl ?_); refine q_nil ?_; refine q_block ?_)
    refine q_loop (σ := Nat) (fun i => i ≤ xs.length) (fun i => xs.length - i) (fun i => [(14, .func (.func 22) #[] #[]), (21, z5), (160, .slice va xs.length vc), (161, .int .i64 xs.length), (162, .int .i64 i)])
      (fun _ => [.ow (.slice va xs.length vc) 22 1 xs.length (xs.map (·.1)), un (rowsO 3 xs), .ow z5 22 1 ys.length (ys.map (·.1)), un (rowsO 3 ys)]) 0 (by omega) ⟨rfl, rfl, rfl, rfl, rfl, trivial⟩ (by repeat (first | exact Sp.nil | exact Sp.refl _ | refine Sp.cons (by repeat constructor) ?_)) ?_
    rintro i hi K hK
    (refine q_seq ?_; refine q_region ?_; refine ql_pure tabOk rfl rfl ?_; refine q_nil ?_; refine q_seq ?_)
    refine q_if rfl (fun hc => ?_) (fun hc => ?_)
    · have hi2 : i < xs.length := by first | omega | (simp at hc; omega)
      clear hc
      have hmem : xs[i] ∈ xs := List.getElem_mem hi2
      generalize hxi : xs[i] = p at *
      obtain ⟨u, q⟩ := p
      have hqm := hmm _ _ hmem
      have hq6 := allC_len hcr hqm
      have hd := wid_all hWw hqm
      refine q_fact (fun w hs => hs.ownSome (v := .slice va xs.length vc) (by repeat first | exact .head _ | refine .tail _ ?_) (by omega)) ?_
      rintro ⟨g0, d0, e⟩
      cases e
      refine q_fact (fun w hs => ls_slice hs (xs := xs) (t := 3) (by repeat first | exact .head _ | refine .tail _ ?_) hmem) ?_
      rintro ⟨ua, uc, rfl⟩
      (refine q_skip ?_; refine q_seq ?_; refine q_block ?_; refine q_seq ?_; refine q_region ?_)
      refine ql_index tabOk rfl rfl rfl rfl rfl (by omega) (by omega) ?_
      refine ql_load1 (v := .slice ua q.length uc) tabOk rfl rfl rfl (fun w hs => ls_cell hs (by repeat first | exact .head _ | refine .tail _ ?_) hi2 hxi) ?_
      (refine ql_pure tabOk rfl rfl ?_; refine q_nil ?_; refine q_seq ?_; refine q_region ?_; (iterate 3 refine ql_pure tabOk rfl rfl ?_))
      refine ql_callFv (val := .bool true) rfl rfl rfl (fun w' hs => CaF.of tabOk rfl (by
        have := isL_ca w' 0 w'.heap.size 0 w'.heap.size z5 (.slice ua q.length uc) (allC s W) q (hy ▸ ls_rdII hs (xs := ys) (t := 3) (t2 := 22) (n := ys.length) (by repeat first | exact .head _ | refine .tail _ ?_) (by repeat first | exact .head _ | refine .tail _ ?_)) (by omega) hrows2 (ls_rd hs (xs := xs) (t := 3) (by repeat first | exact .head _ | refine .tail _ ?_) hmem) (by omega)
        rw [decide_eq_true hd] at this
        exact this)) ?_
      (refine ql_pure tabOk rfl rfl ?_; refine q_nil ?_; refine q_cond_false rfl ?_; refine q_skip ?_; refine q_blk ?_; refine q_region ?_; refine ql_ar tabOk rfl rfl rfl rfl (by omega) (by omega) ?_; refine ql_pure tabOk rfl rfl ?_; refine q_nil ?_)
      exact hK (i + 1) _ _ (by omega) (by omega) ⟨rfl, rfl, rfl, rfl, rfl, trivial⟩ (by repeat (first | exact Sp.nil | exact Sp.refl _ | refine Sp.cons (by repeat constructor) ?_))
    · clear hc hK
      (refine q_exit _ rfl ?_; refine q_seq ?_; refine q_region ?_)
      refine ql_callv (val := .bool true) tabOk rfl rfl rfl rfl (fun w hs => ?_) ?_; exact awake_ca w
      (refine ql_pure tabOk rfl rfl ?_; refine q_nil ?_; refine q_ret ?_)
      refine q_fin tabOk rfl (by repeat (first | exact RVs.nil | apply RVs.tmp rfl | apply RVs.cellA rfl rfl (by repeat first | exact .head _ | refine .tail _ ?_) (by rfl) | apply RVs.cell1 rfl rfl (by repeat first | exact .head _ | refine .tail _ ?_))) fun w hs => ?_
      exact ⟨rfl, hs.chg0⟩
end Go.Proofs.YtgeajgmefokifaaGreat
