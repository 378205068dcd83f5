/- My texts K25, K1, K26, K27, L0, E0, E16, E17, E18, E19, C2, E20, E21, E22, E1, E2, E3, E4, E5, L7, E6, E7, E8, E9, E10, E11, W5, E12, E13, E14, T0, T1, E15, E23, K28, K29, B28, K30, K31, W8, W9, L12, L13, joined: a claim takes at most 60 files. -/
import Derived.Test.YtgeajgmefokifaaJ3
import Derived.ChangeSlices
import Derived.ChangeArms
import Derived.ChangeShapes

/- Walks: awake. -/
namespace Go.Proofs.Ytgeajgmefokifaa
open Go Go.Eng

theorem blk_II {w : World} {c1 c2 c3 c4 : Nat} {t1 t2 t3 t4 : TypeId} {l1 l2 l3 : List Int} (h1 : Blk w c1 (ints l1) t1) (h2 : Blk w c2 (ints l2) t2) (h3 : Blk w c3 (ints l3) t3)
    (h4 : Blk w c4 [.slice (some ⟨c1, 0, none⟩) l1.length l1.length, .slice (some ⟨c2, 0, none⟩) l2.length l2.length, .slice (some ⟨c3, 0, none⟩) l3.length l3.length] t4) : RdII w 0 w.heap.size (.slice (some ⟨c4, 0, none⟩) 3 3) [l1, l2, l3] := by
  refine RdII.of (vs := [.slice (some ⟨c1, 0, none⟩) l1.length l1.length, .slice (some ⟨c2, 0, none⟩) l2.length l2.length, .slice (some ⟨c3, 0, none⟩) l3.length l3.length]) ((Blk.rd h4 (by simp [oneV]) 3).wide (Nat.zero_le _) h4.lt) rfl (fun i hi hi' => ?_) (by simp [oneV])
  obtain rfl | rfl | rfl : i = 0 ∨ i = 1 ∨ i = 2 := by simp at hi; omega
  · exact Blk.rdI h1
  · exact Blk.rdI h2
  · exact Blk.rdI h3

theorem lsK_rd {w0 w : World} {M : Nat → Prop} {H : List Ck} {v : Value} {xs : List (Value × List Int)} (h : Sat w0 M H w) (h1 : Ck.ow v 27 1 xs.length (xs.map (·.1)) ∈ H) (h2 : un (rowsO 3 xs) ∈ H) : RdII w 0 w.heap.size v (xs.map (·.2)) :=
  rowsO_rd (h.mem h2) (h.mem h1)
set_option maxHeartbeats 4000000 in
set_option maxRecDepth 4000 in
theorem awake_ca (w : World) : Ca Try.prog 18 [] w fun v w' => v = .bool true ∧ Chg [] w w' := by
  refine q_of (Sat.nil w M0) Try.func18 rfl (by simp [Try.ntmps18]) ?_
  (refine q_seq ?_; refine q_region ?_; refine ql_pure tabOk rfl rfl ?_; refine q_nil ?_; refine q_seq ?_; refine q_region ?_)
  refine ql_call (β := Nat) tabOk [] _ M0 rfl rfl rfl rfl (Sp.refl _) (fun _ h => h.elim) (fun w' hs => three_ca w') ?_
  rintro bs _ rfl
  (refine ql_pure tabOk rfl rfl ?_; (iterate 2 refine ql_ext tabOk rfl rfl rfl ?_))
  refine ql_alloc zero26 rfl (fun b2 => ?_)
  (refine ql_pure tabOk rfl rfl ?_; refine ql_setA tabOk rfl rfl rfl rfl rfl (by repeat constructor) rfl ?_; refine q_nil ?_; refine q_seq ?_; refine q_region ?_; refine ql_pure tabOk rfl rfl ?_; refine ql_loadAB tabOk rfl rfl rfl (by repeat first | exact .head _ | refine .tail _ ?_) (by rfl) (by rfl) ?_)
  have hS : ∀ w', Blk w' bs (lpC threeS) 31 → RdL w' 0 w'.heap.size (.slice (some ⟨bs, 0, none⟩) threeS.length 3) threeS := fun w' hb => Blk.rdL hb rfl
  refine ql_call (β := Value × List (Value × List Int)) (ψ := fun y x => x = .tuple #[y.1, .int .i64 0] ∧ y.2.map (·.2) = allC threeS threeR) tabOk [] _ M0 rfl rfl rfl rfl (Sp.refl _) (fun _ h => h.elim) (fun w' hs => all_ok w' 0 w'.heap.size (some ⟨bs, 0, none⟩) 3 threeS threeR (hS w' (hs.blk (by repeat first | exact .head _ | refine .tail _ ?_))) aw_cr (by rw [aw_all]; decide)) ?_
  rintro ⟨va, xs⟩ _ ⟨rfl, hxs⟩
  rw [aw_all] at hxs
  dsimp only at hxs
  dsimp only [lsK, List.cons_append, List.nil_append]
  refine ql_fact (fun w hs => hs.slice (v := va) (by repeat first | exact .head _ | refine .tail _ ?_)) ?_
  rintro ⟨va1, va2, va3, rfl⟩
  (refine ql_pure tabOk rfl rfl ?_; (iterate 2 refine ql_ext tabOk rfl rfl rfl ?_); (iterate 2 refine ql_pure tabOk rfl rfl ?_); refine q_nil ?_; refine q_seq ?_; refine q_region ?_; refine ql_pure tabOk rfl rfl ?_; refine ql_loadAB tabOk rfl rfl rfl (by repeat first | exact .head _ | refine .tail _ ?_) (by rfl) (by rfl) ?_)
  refine ql_mkS 3 (ints [1, 1, 1]) rfl (by kernel_rfl) rfl (fun b3 => ?_)
  refine ql_call (β := Value) tabOk [] _ M0 rfl rfl rfl rfl (Sp.refl _) (fun _ h => h.elim) (fun w' hs => brok_ok w' 0 w'.heap.size 0 w'.heap.size (some ⟨bs, 0, none⟩) 3 _ threeS threeR [1, 1, 1] (hS w' (hs.blk (by repeat first | exact .head _ | refine .tail _ ?_))) (by decide) (Blk.rdI (l := [1, 1, 1]) (c := 3) (hs.blk (b := b3) (by repeat first | exact .head _ | refine .tail _ ?_))) (by decide) aw_brk) ?_
  rintro vb _ rfl
  rw [aw_brk2]
  dsimp only [List.cons_append, List.nil_append]
  refine ql_fact (fun w hs => hs.slice (v := vb) (by repeat first | exact .head _ | refine .tail _ ?_)) ?_
  rintro ⟨vb1, vb2, vb3, rfl⟩
  (refine ql_pure tabOk rfl rfl ?_; (iterate 2 refine ql_ext tabOk rfl rfl rfl ?_); (iterate 2 refine ql_pure tabOk rfl rfl ?_); refine q_nil ?_; refine q_seq ?_; refine q_region ?_; refine ql_pure tabOk rfl rfl ?_; refine ql_loadAB tabOk rfl rfl rfl (by repeat first | exact .head _ | refine .tail _ ?_) (by rfl) (by rfl) ?_)
  refine ql_call (β := Value) tabOk [] _ M0 rfl rfl rfl rfl (Sp.refl _) (fun _ h => h.elim) (fun w' hs => cheap_ok w' 0 w'.heap.size (some ⟨bs, 0, none⟩) 3 threeS threeR 40 [0, 1, 1] (hS w' (hs.blk (by repeat first | exact .head _ | refine .tail _ ?_))) aw_cr (by decide) aw_cheap) ?_
  rintro vc _ rfl
  rw [aw_snow]
  dsimp only [List.cons_append, List.nil_append]
  refine ql_fact (fun w hs => hs.slice (v := vc) (by repeat first | exact .head _ | refine .tail _ ?_)) ?_
  rintro ⟨vc1, vc2, vc3, rfl⟩
  (refine ql_pure tabOk rfl rfl ?_; (iterate 3 refine ql_ext tabOk rfl rfl rfl ?_); (iterate 3 refine ql_pure tabOk rfl rfl ?_); refine q_nil ?_; (iterate 2 refine q_seq ?_); refine q_region ?_; refine ql_pure tabOk rfl rfl ?_; refine ql_neqF tabOk rfl rfl rfl (by omega) ?_; refine ql_pure tabOk rfl rfl ?_; refine ql_gyes rfl ?_; refine ql_pure tabOk rfl rfl ?_; refine ql_gyes rfl ?_; refine ql_neqF tabOk rfl rfl rfl (by omega) ?_; (iterate 2 refine ql_pure tabOk rfl rfl ?_); refine ql_gyes rfl ?_; refine ql_pure tabOk rfl rfl ?_; refine ql_gyes rfl ?_; refine ql_neqF tabOk rfl rfl rfl (by omega) ?_; (iterate 2 refine ql_pure tabOk rfl rfl ?_); refine ql_gyes rfl ?_; refine ql_pure tabOk rfl rfl ?_; refine ql_gyes rfl ?_)
  refine ql_mkS 3 (ints [0, 0, 2]) rfl (by kernel_rfl) rfl (fun c1 => ?_)
  refine ql_gyes rfl ?_
  refine ql_mkS 3 (ints [0, 1, 1]) rfl (by kernel_rfl) rfl (fun c2 => ?_)
  refine ql_gyes rfl ?_
  refine ql_mkS 3 (ints [0, 1, 2]) rfl (by kernel_rfl) rfl (fun c3 => ?_)
  refine ql_gyes rfl ?_
  refine ql_mkS 27 [.slice (some ⟨c1, 0, none⟩) 3 3, .slice (some ⟨c2, 0, none⟩) 3 3, .slice (some ⟨c3, 0, none⟩) 3 3] rfl (by kernel_rfl) rfl (fun c4 => ?_)
  (refine ql_gyes rfl ?_)
  refine ql_callv (val := .bool true) tabOk rfl rfl rfl rfl (fun w hs => ?_) ?_; exact eqII_ca w 0 w.heap.size 0 w.heap.size _ _ [[0, 0, 2], [0, 1, 1], [0, 1, 2]] (hxs ▸ lsK_rd (v := .slice va1 va2 va3) (xs := xs) hs (by repeat first | exact .head _ | refine .tail _ ?_) (by repeat first | exact .head _ | refine .tail _ ?_)) (blk_II (l1 := [0, 0, 2]) (l2 := [0, 1, 1]) (l3 := [0, 1, 2]) (hs.blk (b := c1) (by repeat first | exact .head _ | refine .tail _ ?_)) (hs.blk (b := c2) (by repeat first | exact .head _ | refine .tail _ ?_)) (hs.blk (b := c3) (by repeat first | exact .head _ | refine .tail _ ?_)) (hs.blk (b := c4) (by repeat first | exact .head _ | refine .tail _ ?_))) (by decide) (by decide)
  (refine ql_gyes rfl ?_; (iterate 3 refine ql_pure tabOk rfl rfl ?_); refine ql_gyes rfl ?_; refine ql_pure tabOk rfl rfl ?_; refine ql_gyes rfl ?_)
  refine ql_mkS 88 (ints [4]) rfl (by kernel_rfl) rfl (fun c5 => ?_)
  refine ql_gyes rfl ?_
  refine ql_callv (val := .bool true) tabOk rfl rfl rfl rfl (fun w hs => ?_) ?_; exact eqR_ca w 0 w.heap.size 0 w.heap.size _ _ [4] (hs.rdI (v := .slice vb1 vb2 vb3) (l := [4]) (by repeat first | exact .head _ | refine .tail _ ?_) rfl) (Blk.rdI (l := [4]) (c := 1) (hs.blk (b := c5) (by repeat first | exact .head _ | refine .tail _ ?_))) (by decide)
  (refine ql_gyes rfl ?_; (iterate 3 refine ql_pure tabOk rfl rfl ?_); refine ql_gyes rfl ?_; refine ql_pure tabOk rfl rfl ?_; refine ql_gyes rfl ?_)
  refine ql_mkS 3 (ints [0, 1, 1]) rfl (by kernel_rfl) rfl (fun c6 => ?_)
  refine ql_gyes rfl ?_
  refine ql_callv (val := .bool true) tabOk rfl rfl rfl rfl (fun w hs => ?_) ?_; exact eqI_ca w 0 w.heap.size 0 w.heap.size _ _ [0, 1, 1] (hs.rdI (v := .slice vc1 vc2 vc3) (l := [0, 1, 1]) (by repeat first | exact .head _ | refine .tail _ ?_) rfl) (Blk.rdI (l := [0, 1, 1]) (c := 3) (hs.blk (b := c6) (by repeat first | exact .head _ | refine .tail _ ?_))) (by decide)
  (refine ql_gyes rfl ?_; (iterate 3 refine ql_pure tabOk rfl rfl ?_); refine ql_gyes rfl ?_; refine ql_pure tabOk rfl rfl ?_; refine ql_gyes rfl ?_; refine ql_neqF tabOk rfl rfl rfl (by omega) ?_; refine ql_pure tabOk rfl rfl ?_; refine q_nil ?_; refine q_cond_false rfl ?_; refine q_skip ?_; refine q_seq ?_; refine q_region ?_)
  refine ql_callv tabOk rfl rfl rfl rfl (fun w hs => spanM_ca _ _ w) ?_
  (refine ql_pure tabOk rfl rfl ?_; refine ql_st8 tabOk rfl rfl rfl rfl (by repeat constructor) ?_; refine ql_pure tabOk rfl rfl ?_)
  refine ql_stA (rlC threeQ) tabOk rfl rfl rfl rfl rfl (by repeat constructor) rfl rfl ?_
  (refine q_nil ?_; refine q_seq ?_; refine q_region ?_; refine ql_pure tabOk rfl rfl ?_; refine ql_loadAB tabOk rfl rfl rfl (by repeat first | exact .head _ | refine .tail _ ?_) (by rfl) (by rfl) ?_)
  refine ql_call (β := Value × Value) tabOk [] _ M0 rfl rfl rfl rfl (Sp.refl _) (fun _ h => h.elim) (fun w' hs => yield_ok w' 0 w'.heap.size (some ⟨bs, 0, none⟩) 3 threeS threeQ [0, 1, 2] (hS w' (hs.blk (by repeat first | exact .head _ | refine .tail _ ?_))) aw_cr2 aw_yield) ?_
  rintro ⟨vy, vz⟩ _ rfl
  rw [aw_yield2]
  dsimp only [List.cons_append, List.nil_append]
  refine ql_fact (fun w hs => hs.slice (v := vy) (by repeat first | exact .head _ | refine .tail _ ?_)) ?_
  rintro ⟨vy1, vy2, vy3, rfl⟩
  refine ql_fact (fun w hs => hs.slice (v := vz) (by repeat first | exact .head _ | refine .tail _ ?_)) ?_
  rintro ⟨vz1, vz2, vz3, rfl⟩
  (refine ql_pure tabOk rfl rfl ?_; (iterate 3 refine ql_ext tabOk rfl rfl rfl ?_); (iterate 3 refine ql_pure tabOk rfl rfl ?_); refine q_nil ?_; refine q_seq ?_; refine q_region ?_)
  have hD : ∀ n w' b, Blk w' b (dyC (shortW n).days) 73 → RdD w' 0 w'.heap.size (.slice (some ⟨b, 0, none⟩) (shortW n).days.length 3) (shortW n).days := fun n w' b hb => Blk.rdD hb rfl
  refine ql_call (β := Nat) tabOk [] _ M0 rfl rfl rfl rfl (Sp.refl _) (fun _ h => h.elim) (fun w' hs => short_ca w' 500) ?_
  rintro d1 _ rfl
  refine ql_callv (val := .tuple #[.int .i64 2, .int .i64 0]) tabOk rfl rfl rfl rfl (fun w hs => ?_) ?_; exact by have := first_ca w 0 w.heap.size (shortW 500) (some ⟨d1, 0, none⟩) 3 (hD 500 w d1 (hs.blk (by repeat first | exact .head _ | refine .tail _ ?_))) (by decide); rw [aw_first] at this; exact this
  (refine ql_pure tabOk rfl rfl ?_; (iterate 2 refine ql_ext tabOk rfl rfl rfl ?_); (iterate 2 refine ql_pure tabOk rfl rfl ?_); refine q_nil ?_; refine q_seq ?_; refine q_region ?_)
  refine ql_call (β := Nat) tabOk [] _ M0 rfl rfl rfl rfl (Sp.refl _) (fun _ h => h.elim) (fun w' hs => short_ca w' 500) ?_
  rintro d2 _ rfl
  refine ql_mk #[.int .i64 (-1), .int .i64 2] rfl (by kernel_rfl) rfl ?_
  refine ql_callv (val := .tuple #[.int .i64 360, .int .i64 0]) tabOk rfl rfl rfl rfl (fun w hs => ?_) ?_; exact by have := proves_ca w 0 w.heap.size (shortW 500) (some ⟨d2, 0, none⟩) 3 (-1) 2 (hD 500 w d2 (hs.blk (by repeat first | exact .head _ | refine .tail _ ?_))) (by decide); rw [aw_proves] at this; exact this
  (refine ql_pure tabOk rfl rfl ?_; (iterate 2 refine ql_ext tabOk rfl rfl rfl ?_); (iterate 2 refine ql_pure tabOk rfl rfl ?_); refine q_nil ?_; refine q_seq ?_; refine q_region ?_)
  refine ql_call (β := Nat) tabOk [] _ M0 rfl rfl rfl rfl (Sp.refl _) (fun _ h => h.elim) (fun w' hs => short_ca w' 500) ?_
  rintro d3 _ rfl
  refine ql_call (β := Value) tabOk [] _ M0 rfl rfl rfl rfl (Sp.refl _) (fun _ h => h.elim) (fun w' hs => ranges_ok w' 0 w'.heap.size (shortW 500) (some ⟨d3, 0, none⟩) 3 (hD 500 w' d3 (hs.blk (by repeat first | exact .head _ | refine .tail _ ?_))) aw_right) ?_
  rintro vx _ rfl
  rw [aw_ranges]
  dsimp only [List.cons_append, List.nil_append]
  refine ql_fact (fun w hs => hs.slice (v := vx) (by repeat first | exact .head _ | refine .tail _ ?_)) ?_
  rintro ⟨vx1, vx2, vx3, rfl⟩
  (refine ql_pure tabOk rfl rfl ?_; (iterate 2 refine ql_ext tabOk rfl rfl rfl ?_); (iterate 2 refine ql_pure tabOk rfl rfl ?_); refine q_nil ?_; (iterate 2 refine q_seq ?_); refine q_region ?_; refine ql_pure tabOk rfl rfl ?_; refine ql_neqF tabOk rfl rfl rfl (by omega) ?_; refine ql_pure tabOk rfl rfl ?_; refine ql_gyes rfl ?_; refine ql_pure tabOk rfl rfl ?_; refine ql_gyes rfl ?_; refine ql_neqF tabOk rfl rfl rfl (by omega) ?_; (iterate 2 refine ql_pure tabOk rfl rfl ?_); refine ql_gyes rfl ?_; refine ql_pure tabOk rfl rfl ?_; refine ql_gyes rfl ?_; refine ql_neqF tabOk rfl rfl rfl (by omega) ?_; (iterate 2 refine ql_pure tabOk rfl rfl ?_); refine ql_gyes rfl ?_; refine ql_pure tabOk rfl rfl ?_; refine ql_gyes rfl ?_; refine ql_neqF tabOk rfl rfl rfl (by omega) ?_; (iterate 2 refine ql_pure tabOk rfl rfl ?_); refine ql_gyes rfl ?_; refine ql_pure tabOk rfl rfl ?_; refine ql_gyes rfl ?_)
  refine ql_mkS 88 (ints [0]) rfl (by kernel_rfl) rfl (fun c7 => ?_)
  refine ql_gyes rfl ?_
  refine ql_callv (val := .bool true) tabOk rfl rfl rfl rfl (fun w hs => ?_) ?_; exact eqR_ca w 0 w.heap.size 0 w.heap.size _ _ [0] (hs.rdI (v := .slice vy1 vy2 vy3) (l := [0]) (by repeat first | exact .head _ | refine .tail _ ?_) rfl) (Blk.rdI (l := [0]) (c := 1) (hs.blk (b := c7) (by repeat first | exact .head _ | refine .tail _ ?_))) (by decide)
  (refine ql_gyes rfl ?_; (iterate 3 refine ql_pure tabOk rfl rfl ?_); refine ql_gyes rfl ?_; refine ql_pure tabOk rfl rfl ?_; refine ql_gyes rfl ?_)
  refine ql_mkS 3 (ints [0, 1, 2]) rfl (by kernel_rfl) rfl (fun c8 => ?_)
  refine ql_gyes rfl ?_
  refine ql_callv (val := .bool true) tabOk rfl rfl rfl rfl (fun w hs => ?_) ?_; exact eqI_ca w 0 w.heap.size 0 w.heap.size _ _ [0, 1, 2] (hs.rdI (v := .slice vz1 vz2 vz3) (l := [0, 1, 2]) (by repeat first | exact .head _ | refine .tail _ ?_) rfl) (Blk.rdI (l := [0, 1, 2]) (c := 3) (hs.blk (b := c8) (by repeat first | exact .head _ | refine .tail _ ?_))) (by decide)
  (refine ql_gyes rfl ?_; (iterate 3 refine ql_pure tabOk rfl rfl ?_); refine ql_gyes rfl ?_; refine ql_pure tabOk rfl rfl ?_; refine ql_gyes rfl ?_; refine ql_neqF tabOk rfl rfl rfl (by omega) ?_; (iterate 2 refine ql_pure tabOk rfl rfl ?_); refine ql_gyes rfl ?_; refine ql_pure tabOk rfl rfl ?_; refine ql_gyes rfl ?_; refine ql_neqF tabOk rfl rfl rfl (by omega) ?_; (iterate 2 refine ql_pure tabOk rfl rfl ?_); refine ql_gyes rfl ?_; refine ql_pure tabOk rfl rfl ?_; refine ql_gyes rfl ?_)
  refine ql_mk #[.int .i64 280, .int .i64 390] rfl (by kernel_rfl) rfl ?_
  refine ql_gyes rfl ?_
  refine ql_mk #[.int .i64 160, .int .i64 600] rfl (by kernel_rfl) rfl ?_
  refine ql_gyes rfl ?_
  refine ql_mkS 24 (spC [(280, 390), (160, 600)]) rfl (by kernel_rfl) rfl (fun c9 => ?_)
  refine ql_gyes rfl ?_
  refine ql_callv (val := .bool true) tabOk rfl rfl rfl rfl (fun w hs => ?_) ?_; exact eqS_ca w 0 w.heap.size 0 w.heap.size _ _ [(280, 390), (160, 600)] (own_rdS (t := 24) (hs.mem (c := .ow (.slice vx1 vx2 vx3) 24 2 2 (spC [(280, 390), (160, 600)])) (by repeat first | exact .head _ | refine .tail _ ?_)) rfl) (Blk.rdS (l := [(280, 390), (160, 600)]) (c := 2) (hs.blk (b := c9) (by repeat first | exact .head _ | refine .tail _ ?_)) rfl) (by decide)
  (refine ql_gyes rfl ?_; (iterate 2 refine ql_pure tabOk rfl rfl ?_); refine q_nil ?_; refine q_cond_false rfl ?_; refine q_skip ?_; refine q_seq ?_; refine q_region ?_)
  refine ql_call (β := Nat) tabOk [] _ M0 rfl rfl rfl rfl (Sp.refl _) (fun _ h => h.elim) (fun w' hs => short_ca w' 100) ?_
  rintro d4 _ rfl
  refine ql_callv (val := .tuple #[.int .i64 460, .int .i64 0]) tabOk rfl rfl rfl rfl (fun w hs => ?_) ?_; exact by have := least_ca w 0 w.heap.size (shortW 100) (some ⟨d4, 0, none⟩) 3 (hD 100 w d4 (hs.blk (by repeat first | exact .head _ | refine .tail _ ?_))) (by decide); rw [aw_least] at this; exact this
  (refine ql_pure tabOk rfl rfl ?_; (iterate 2 refine ql_ext tabOk rfl rfl rfl ?_); (iterate 2 refine ql_pure tabOk rfl rfl ?_); refine q_nil ?_; refine q_seq ?_; refine q_region ?_)
  refine ql_call (β := Nat) tabOk [] _ M0 rfl rfl rfl rfl (Sp.refl _) (fun _ h => h.elim) (fun w' hs => short_ca w' 100) ?_
  rintro d5 _ rfl
  refine ql_callv (val := .tuple #[.int .i64 540, .int .i64 0]) tabOk rfl rfl rfl rfl (fun w hs => ?_) ?_; exact by have := room_ca w 0 w.heap.size (shortW 100) (some ⟨d5, 0, none⟩) 3 (hD 100 w d5 (hs.blk (by repeat first | exact .head _ | refine .tail _ ?_))) (by decide); rw [aw_room] at this; exact this
  (refine ql_pure tabOk rfl rfl ?_; (iterate 2 refine ql_ext tabOk rfl rfl rfl ?_); (iterate 2 refine ql_pure tabOk rfl rfl ?_); refine q_nil ?_; refine q_seq ?_; refine q_region ?_; refine ql_pure tabOk rfl rfl ?_; refine ql_eqlT tabOk rfl rfl rfl (by omega) ?_; refine ql_pure tabOk rfl rfl ?_; refine ql_gyes rfl ?_; refine ql_pure tabOk rfl rfl ?_; refine ql_gyes rfl ?_; refine ql_eqlT tabOk rfl rfl rfl (by omega) ?_; (iterate 2 refine ql_pure tabOk rfl rfl ?_); refine ql_gyes rfl ?_; refine ql_pure tabOk rfl rfl ?_; refine ql_gyes rfl ?_; refine ql_eqlT tabOk rfl rfl rfl (by omega) ?_; (iterate 2 refine ql_pure tabOk rfl rfl ?_); refine ql_gyes rfl ?_; refine ql_pure tabOk rfl rfl ?_; refine ql_gyes rfl ?_; refine ql_eqlT tabOk rfl rfl rfl (by omega) ?_; (iterate 2 refine ql_pure tabOk rfl rfl ?_); refine q_nil ?_; refine q_ret ?_)
  refine q_fin tabOk rfl (by repeat (first | exact RVs.nil | apply RVs.tmp rfl | apply RVs.cellA rfl rfl (by repeat first | exact .head _ | refine .tail _ ?_) (by rfl) | apply RVs.cell1 rfl rfl (by repeat first | exact .head _ | refine .tail _ ?_))) fun w hs => ?_
  exact ⟨rfl, hs.chg0⟩
end Go.Proofs.Ytgeajgmefokifaa

/- Walks: klisterkit's deck. Only the ranges of what it deals are told. -/
namespace Go.Proofs.Ytgeajgmefokifaa
open Go Go.Eng

section
attribute [local irreducible] IntKind.wrap Int.tmod Int.tdiv

/-- The deck's own variable, after at most K cards. -/
def DkS (w : World) (b : Nat) (bs : Value) (K : Nat) : Prop :=
  ∃ next st, Blk w b [bs, .int .i64 next, .int .u32 st] 165 ∧ 0 ≤ next ∧ next ≤ K ∧ 0 ≤ st ∧ st < 4294967296
/-- Its bytes. -/
def DkB (w : World) (lo hi : Nat) (bs : Value) : Prop := ∃ nb cs, Rd w lo hi bs 1 nb cs ∧ (∀ c ∈ cs, ∃ x, c = .int .u8 x ∧ 0 ≤ x ∧ x < 256)
theorem DkB.keep {w w' : World} {lo hi : Nat} {bs : Value} (h : DkB w lo hi bs) (c : Chg [] w w') : DkB w' lo hi bs := by
  obtain ⟨nb, cs, h1, h2⟩ := h
  exact ⟨nb, cs, h1.keep c, h2⟩

set_option maxHeartbeats 1000000 in
theorem draw_ca (n : Int) (K : Nat) (hK : K < 4611686018427387904) (w : World) (b lo hi : Nat) (bs : Value) (hby : DkB w lo hi bs) (hlh : hi ≤ b) (hd : DkS w b bs K) :
    Ca Try.prog 39 [.pointer (some ⟨b, 0, none⟩), .int .i64 n] w fun v w' => ∃ r, v = .int .i64 r ∧ 0 ≤ r ∧ (r < n ∨ r = 0) ∧ Chg [b] w w' ∧ w'.heap.size = w.heap.size ∧ DkS w' b bs (K + 1) := by
  obtain ⟨nb, cs, hrd, hcs⟩ := hby
  obtain ⟨next, st, hb, hn0, hnK, hs0, hs1⟩ := hd
  have hd : DkS w b bs (K + 1) := ⟨next, st, hb, hn0, by omega, hs0, hs1⟩
  obtain ⟨a, cap, rfl, hsl⟩ := hrd.out
  refine ca_of Try.func39 rfl (by simp [Try.ntmps39]) ?_
  (refine y_seq ?_; refine y_region ?_; refine yl_pure tabOk rfl rfl ?_; (iterate 2 refine y_seq ?_); refine y_region ?_; (iterate 3 refine yl_pure tabOk rfl rfl ?_))
  refine yl_split rfl rfl (fun hc => ?_) (fun hc => ?_)
  · ((iterate 6 refine yl_guard_no rfl rfl rfl ?_); refine yl_pure tabOk rfl rfl ?_; refine y_cond_true rfl ?_; refine y_seq ?_; refine y_region ?_; refine yl_pure tabOk rfl rfl ?_; refine y_ret ?_)
    exact y_fin1 rfl rfl ⟨0, rfl, by omega, .inr rfl, Chg.refl _ _, rfl, hd⟩
  (refine yl_guard_yes rfl ?_; refine yl_pure tabOk rfl rfl ?_; refine yl_guard_yes rfl ?_; refine yl_pure tabOk rfl rfl ?_; refine yl_guard_yes rfl ?_; refine yl_pure tabOk rfl rfl ?_; refine yl_guard_yes rfl ?_; refine yl_loadB tabOk rfl rfl rfl (by assumption) (by rfl) ?_; refine yl_guard_yes rfl ?_; refine yl_pure tabOk rfl rfl ?_; refine yl_guard_yes rfl ?_; (iterate 2 refine yl_pure tabOk rfl rfl ?_); refine yl_nil ?_)
  have hn := of_decide_eq_false hc
  refine y_if rfl (fun hc => ?_) (fun hc => ?_)
  · (refine y_seq ?_; refine y_region ?_; refine yl_pure tabOk rfl rfl ?_; refine y_ret ?_)
    exact y_fin1 rfl rfl ⟨0, rfl, by omega, .inr rfl, Chg.refl _ _, rfl, hd⟩
  have hnb : 0 < nb := by omega
  obtain ⟨bb, off, rfl, hcell⟩ := hsl hnb
  (refine y_skip ?_; refine y_seq ?_)
  refine y_draw [] (by kernel_rfl) (by kernel_rfl) (fun w1 hc1 hs1 => ?_)
  have hb1 := hb.keep hc1
  ((iterate 3 refine yf_pure tabOk rfl rfl rfl ?_); refine yf_loadB tabOk rfl rfl rfl (by assumption) (by first | assumption | simp) (by rfl) ?_; (iterate 3 refine yf_pure tabOk rfl rfl rfl ?_); refine yf_loadB tabOk rfl rfl rfl (by assumption) (by first | assumption | simp) (by rfl) ?_; (iterate 3 refine yf_pure tabOk rfl rfl rfl ?_); refine yf_loadB tabOk rfl rfl rfl (by assumption) (by first | assumption | simp) (by rfl) ?_; refine yf_pure tabOk rfl rfl rfl ?_)
  have hlen : cs.length = nb := by have := hrd.1; omega
  have hm := tmod_pos hn0 (by omega : (0 : Int) < nb)
  refine yf_rem rfl rfl (by omega) rfl ?_
  refine yf_index tabOk rfl rfl rfl rfl rfl hm.1 hm.2 ?_
  obtain ⟨x, hx, hx0, hx1⟩ := hcs (cs[(next.tmod nb).toNat]'(by omega)) (List.getElem_mem _)
  refine yf_load1 tabOk rfl rfl rfl (fun w' hw' => ?_) (v := .int .u8 x) ?_
  · have h1 := ((hrd.keep hc1).keep hw').cell rfl (next.tmod nb).toNat (by omega)
    rw [Nat.mul_one, h1, List.getElem?_eq_getElem (by omega), hx]
  ((iterate 4 refine yf_pure tabOk rfl rfl rfl ?_); refine yf_loadB tabOk rfl rfl rfl (by assumption) (by first | assumption | simp) (by rfl) ?_; (iterate 3 refine yf_pure tabOk rfl rfl rfl ?_); refine yf_loadB tabOk rfl rfl rfl (by assumption) (by first | assumption | simp) (by rfl) ?_; refine yf_pure tabOk rfl rfl rfl ?_)
  refine yf_quo rfl rfl (by omega) rfl ?_
  ((iterate 3 refine yf_pure tabOk rfl rfl rfl ?_); refine y_seq ?_; refine y_region ?_; (iterate 3 refine yl_pure tabOk rfl rfl ?_); refine yl_loadB tabOk rfl rfl rfl (by assumption) (by rfl) ?_; (iterate 3 refine yl_pure tabOk rfl rfl ?_))
  refine yl_store1 tabOk rfl rfl rfl rfl (by assumption) (by simp) (fun w2 hc2 hs2 hb2 => ?_)
  (refine y_seq ?_; refine y_region ?_; (iterate 4 refine yl_pure tabOk rfl rfl ?_); refine yl_loadB tabOk rfl rfl rfl (by assumption) (by rfl) ?_; (iterate 7 refine yl_pure tabOk rfl rfl ?_))
  refine yl_rem rfl rfl (by omega) rfl ?_
  ((iterate 2 refine yl_pure tabOk rfl rfl ?_))
  refine yl_store1 tabOk rfl rfl rfl rfl (by assumption) (by simp) (fun w3 hc3 hs3 hb3 => ?_)
  have hc03 : Chg [b] w w3 := (hc1.nil.trans hc2).trans hc3
  generalize hq : IntKind.u32.wrap (IntKind.i64.wrap (next.tdiv nb)) = q at *
  clear hq
  generalize hz : Int.tmod _ 65519 = z at *
  have hz0 : 0 ≤ z ∧ z < 65519 := by rw [← hz]; exact tmod_pos (wu32_range _).1 (by omega)
  clear hz
  have hd3 : DkS w3 b (.slice (some ⟨bb, off, none⟩) nb cap) (K + 1) := by
    refine ⟨next + 1, z, ?_, by omega, by omega, hz0.1, by omega⟩
    rw [w64 (by omega) (by omega)] at hb3
    exact hb3
  have hfin : ∀ y : Int, ∃ r, Value.int .i64 ((IntKind.i64.wrap (IntKind.u32.wrap y)).tmod n) = .int .i64 r ∧ 0 ≤ r ∧ (r < n ∨ r = 0) ∧ Chg [b] w w3 ∧ w3.heap.size = w.heap.size ∧ DkS w3 b (.slice (some ⟨bb, off, none⟩) nb cap) (K + 1) := by
    intro y
    have h1 := wu32_range y
    have h2 : IntKind.i64.wrap (IntKind.u32.wrap y) = IntKind.u32.wrap y := w64 (by omega) (by omega)
    rw [h2]
    have h3 := tmod_pos h1.1 (by omega : (0 : Int) < n)
    exact ⟨_, rfl, h3.1, .inl h3.2, hc03, by omega, hd3⟩
  ((iterate 2 refine y_seq ?_); refine y_region ?_; (iterate 3 refine yl_pure tabOk rfl rfl ?_))
  refine yl_split rfl rfl (fun hc => ?_) (fun hc => ?_)
  · (refine yl_guard_yes rfl ?_; refine yl_pure tabOk rfl rfl ?_; refine yl_guard_yes rfl ?_; (iterate 2 refine yl_pure tabOk rfl rfl ?_); refine yl_nil ?_)
    refine y_if rfl (fun hc => ?_) (fun hc => ?_)
    · (refine y_seq ?_; refine y_region ?_; (iterate 3 refine yl_pure tabOk rfl rfl ?_))
      refine yl_rem rfl rfl (by omega) rfl ?_
      (refine yl_pure tabOk rfl rfl ?_; refine y_ret ?_)
      exact y_fin1 rfl rfl (hfin _)
    · (refine y_skip ?_; refine y_seq ?_; refine y_region ?_; (iterate 3 refine yl_pure tabOk rfl rfl ?_); refine yl_loadB tabOk rfl rfl rfl (by assumption) (by rfl) ?_; (iterate 5 refine yl_pure tabOk rfl rfl ?_))
      refine yl_rem rfl rfl (by omega) rfl ?_
      (refine yl_pure tabOk rfl rfl ?_; refine y_ret ?_)
      exact y_fin1 rfl rfl (hfin _)
  · ((iterate 2 refine yl_guard_no rfl rfl rfl ?_); refine yl_pure tabOk rfl rfl ?_; refine y_cond_false rfl ?_; refine y_skip ?_; refine y_seq ?_; refine y_region ?_; (iterate 3 refine yl_pure tabOk rfl rfl ?_); refine yl_loadB tabOk rfl rfl rfl (by assumption) (by rfl) ?_; (iterate 5 refine yl_pure tabOk rfl rfl ?_))
    refine yl_rem rfl rfl (by omega) rfl ?_
    (refine yl_pure tabOk rfl rfl ?_; refine y_ret ?_)
    exact y_fin1 rfl rfl (hfin _)


end
/-- A deck, after at most K cards. -/
def dkP (bs : Value) (b K : Nat) : Ck := .gn (fun x => x = b) (fun w => DkS w b bs K) (fun w w' N h hc hN => by
  obtain ⟨next, st, h1, h2⟩ := h
  exact ⟨next, st, (hc.block b h1.lt (hN b rfl)).trans h1, h2⟩)

theorem drawP_ca (n : Int) (K : Nat) (hK : K < 4611686018427387904) (w : World) (b lo hi : Nat) (bs : Value) (hby : DkB w lo hi bs) (hlh : hi ≤ b) (hd : DkS w b bs K) :
    Ca Try.prog 39 [.pointer (some ⟨b, 0, none⟩), .int .i64 n] w fun v w' => ∃ x : Int, (v = .int .i64 x ∧ 0 ≤ x ∧ (x < n ∨ x = 0)) ∧ Sat w (fun x => x = b) [dkP bs b (K + 1)] w' :=
  (draw_ca n K hK w b lo hi bs hby hlh hd).mono fun v w' ⟨r, h1, h2, h3, h4, h5, h6⟩ =>
    ⟨r, ⟨h1, h2, h3⟩, ⟨h4.os, h4.tape, h4.output, h4.size, fun k hk hkb => h4.block k hk (by simpa using hkb)⟩, by simpa [dkP, Ck.p] using h6, .cons (by simp) .nil, fun c hc x hx => by
      obtain rfl : c = dkP bs b (K + 1) := by simpa using hc
      obtain rfl : x = b := hx
      obtain ⟨_, _, h7, _⟩ := h6
      exact ⟨h7.lt, .inl rfl⟩⟩



theorem dk_sat {w : World} {b K : Nat} {bs : Value} (hd : DkS w b bs K) : Sat w (fun x => x = b) [dkP bs b K] w :=
  ⟨ChgP.refl _ _, by simpa [dkP, Ck.p] using hd, .cons (by simp) .nil, fun c hc x hx => by
    obtain rfl : c = dkP bs b K := by simpa using hc
    obtain rfl : x = b := hx
    obtain ⟨_, _, h7, _⟩ := hd
    exact ⟨h7.lt, .inl rfl⟩⟩

theorem between_ca (l h : Int) (hl : -1000000 ≤ l) (hh : h ≤ 1000000) (hlh2 : l ≤ h) (K : Nat) (hK : K < 4611686018427387904) (w : World) (b lo hi : Nat) (bs : Value) (hby : DkB w lo hi bs) (hlh : hi ≤ b) (hd : DkS w b bs K) :
    Ca Try.prog 38 [.pointer (some ⟨b, 0, none⟩), .int .i64 l, .int .i64 h] w fun v w' => ∃ x : Int, (v = .int .i64 x ∧ l ≤ x ∧ x ≤ h) ∧ Sat w (fun x => x = b) [dkP bs b (K + 1)] w' := by
  refine q_of (dk_sat hd) Try.func38 rfl (by simp [Try.ntmps38]) ?_
  (refine q_seq ?_; refine q_region ?_; refine ql_pure tabOk rfl rfl ?_; refine q_nil ?_; refine q_seq ?_; refine q_region ?_; (iterate 4 refine ql_pure tabOk rfl rfl ?_); (iterate 2 refine ql_ar tabOk rfl rfl rfl rfl (by omega) (by omega) ?_))
  refine ql_call (β := Int) (ψ := fun x v => v = .int .i64 x ∧ 0 ≤ x ∧ (x < h - l + 1 ∨ x = 0)) (L' := fun _ => [dkP bs b (K + 1)]) tabOk [dkP bs b K] [] (fun x => x = b) rfl rfl rfl rfl (Sp.refl _) (fun x hx => ⟨_, .head _, hx⟩) (fun w' hs => drawP_ca (h - l + 1) K hK w' b lo hi bs (by
    obtain ⟨nb, cs, h1, h2⟩ := hby
    exact ⟨nb, cs, h1.chg (N := [b]) ⟨hs.chg.os, hs.chg.tape, hs.chg.output, hs.chg.size, fun k hk hkb => hs.chg.block k hk (by simpa using hkb)⟩ (fun k hk => .inr (by simp at hk; omega)), h2⟩) hlh (hs.all _ (.head _))) ?_
  rintro x _ ⟨rfl, hx0, hx1⟩
  (refine ql_ar tabOk rfl rfl rfl rfl (by omega) (by omega) ?_; refine ql_pure tabOk rfl rfl ?_; refine q_nil ?_; refine q_ret ?_)
  refine q_fin tabOk rfl (by repeat (first | exact RVs.nil | apply RVs.tmp rfl | apply RVs.cellA rfl rfl (by repeat first | exact .head _ | refine .tail _ ?_) (by rfl) | apply RVs.cell1 rfl rfl (by repeat first | exact .head _ | refine .tail _ ?_))) fun w hs => ?_
  exact ⟨_, ⟨rfl, by omega, by omega⟩, hs⟩



theorem of_ca (w : World) (a : Option Addr) (n c : Nat) : Ca Try.prog 36 [.slice a n c] w fun v w' => ∃ b : Nat, v = .pointer (some ⟨b, 0, none⟩) ∧ Sat w M0 [dkP (.slice a n c) b 0] w' := by
  refine q_of (Sat.nil w M0) Try.func36 rfl (by simp [Try.ntmps36]) ?_
  (refine q_seq ?_; refine q_region ?_; refine ql_pure tabOk rfl rfl ?_; refine q_nil ?_; refine q_seq ?_; refine q_region ?_; refine ql_pure tabOk rfl rfl ?_)
  refine ql_mk #[.slice a n c, .int .i64 0, .int .u32 17] rfl (by kernel_rfl) rfl ?_
  skip
  refine ql_box rfl rfl (fun b1 => ?_)
  (refine ql_pure tabOk rfl rfl ?_; refine q_nil ?_; refine q_ret ?_)
  refine q_fin tabOk rfl (by repeat (first | exact RVs.nil | apply RVs.tmp rfl | apply RVs.cellA rfl rfl (by repeat first | exact .head _ | refine .tail _ ?_) (by rfl) | apply RVs.cell1 rfl rfl (by repeat first | exact .head _ | refine .tail _ ?_))) fun w hs => ?_
  refine ⟨b1, rfl, ⟨hs.chg, fun d hd => ?_, .cons (by simp) .nil, fun d hd x hx => ?_⟩⟩
  · obtain rfl : d = dkP (.slice a n c) b1 0 := by simpa using hd
    exact ⟨0, 17, hs.all _ (.head _), by omega, by omega, by omega, by omega⟩
  · obtain rfl : d = dkP (.slice a n c) b1 0 := by simpa using hd
    obtain rfl : x = b1 := hx
    exact hs.bd _ (.head _) x rfl



theorem DkB.keepP {w w' : World} {lo hi b : Nat} {bs : Value} (h : DkB w lo hi bs) (hlh : hi ≤ b) (hc : ChgP (fun x => x = b) w w') : DkB w' lo hi bs := by
  obtain ⟨nb, cs, h1, h2⟩ := h
  exact ⟨nb, cs, h1.chg (N := [b]) ⟨hc.os, hc.tape, hc.output, hc.size, fun k hk hkb => hc.block k hk (by simpa using hkb)⟩ (fun k hk => .inr (by simp at hk; omega)), h2⟩
theorem DkS.mono {w : World} {b K K' : Nat} {bs : Value} (h : DkS w b bs K) (hk : K ≤ K') : DkS w b bs K' := by
  obtain ⟨next, st, h1, h2, h3, h4⟩ := h
  exact ⟨next, st, h1, h2, by omega, h4⟩
theorem Sat.dk {w0 w : World} {M : Nat → Prop} {R : List Ck} {b K K' : Nat} {bs : Value} (h : Sat w0 M (dkP bs b K :: R) w) (hk : K ≤ K') : Sat w0 M (dkP bs b K' :: R) w := h.turn (fun _ h => h) (fun h => DkS.mono h hk)



section
variable {K b : Nat} {bs : Value} {w0 w : World} {R : List Ck}
theorem dk_new (hs : Sat w0 M0 (dkP bs b K :: R) w) : w0.heap.size ≤ b := (hs.bd _ (.head _) b rfl).2.resolve_left (fun h => h)
end
end Go.Proofs.Ytgeajgmefokifaa

/- Walks: a winter is made of numbers. -/
namespace Go.Proofs.Ytgeajgmefokifaa
open Go Go.Eng

structure DayB (d : Dy) : Prop where
  n : 0 ≤ d.n0 ∧ d.n0 ≤ 29 ∧ d.n0 ≤ d.n1 ∧ d.n1 ≤ d.n0 + 11
  m : 0 ≤ d.m0 ∧ d.m0 ≤ 39 ∧ d.m0 ≤ d.m1 ∧ d.m1 ≤ d.m0 + 19
  l : 0 ≤ d.l0 ∧ d.l0 ≤ 5 ∧ d.l0 ≤ d.l1 ∧ d.l1 ≤ d.l0 + 3
/-- What MadeWinter makes. -/
structure WinB (days : Nat) (x : Wn) : Prop where
  store : 20 ≤ x.store ∧ x.store ≤ 200
  stock : 0 ≤ x.stock ∧ x.stock ≤ x.store
  d1 : 1 ≤ x.days.length
  d2 : x.days.length ≤ days
  days : ∀ d ∈ x.days, DayB d
theorem WinB.right {days : Nat} {x : Wn} (h : WinB days x) (hd : days ≤ 60) : x.Right := by
  have h1 := h.store
  have h2 := h.d2
  refine ⟨by omega, h.stock, h.d1, by omega, fun d hdm => ?_⟩
  have := h.days d hdm
  have a := this.n
  have b := this.m
  have c := this.l
  exact ⟨by omega, by omega, by omega⟩
/-- The spans made so far. -/
structure DayI (i : Nat) (d : Dy) : Prop where
  n : 1 ≤ i → 0 ≤ d.n0 ∧ d.n0 ≤ 29 ∧ d.n0 ≤ d.n1 ∧ d.n1 ≤ d.n0 + 11
  m : 2 ≤ i → 0 ≤ d.m0 ∧ d.m0 ≤ 39 ∧ d.m0 ≤ d.m1 ∧ d.m1 ≤ d.m0 + 19
  l : 3 ≤ i → 0 ≤ d.l0 ∧ d.l0 ≤ 5 ∧ d.l0 ≤ d.l1 ∧ d.l1 ≤ d.l0 + 3

end Go.Proofs.Ytgeajgmefokifaa

/- Walks: a weather is drawn. -/
namespace Go.Proofs.Ytgeajgmefokifaa
open Go Go.Eng

theorem getD_snoc (l : List Int) (x : Int) (i : Nat) : (l ++ [x]).getD i 0 = if i < l.length then l.getD i 0 else if i = l.length then x else 0 := by
  simp only [List.getD_eq_getElem?_getD, List.getElem?_append]
  by_cases h : i < l.length
  · simp [h]
  · rw [if_neg h, if_neg h]
    by_cases h2 : i = l.length
    · subst h2; simp
    · rw [if_neg h2, List.getElem?_eq_none (by simp; omega)]
      rfl
/-- A weather of the first days. -/
structure WtP (days : List Dy) (k : Nat) (t : Wt) : Prop where
  ln : t.need.length = k
  lm : t.make.length = k
  ll : t.loss.length = k
  n : ∀ i, i < k → ∀ (h : i < days.length), days[i].n0 ≤ t.need.getD i 0 ∧ t.need.getD i 0 ≤ days[i].n1
  m : ∀ i, i < k → ∀ (h : i < days.length), days[i].m0 ≤ t.make.getD i 0 ∧ t.make.getD i 0 ≤ days[i].m1
  l : ∀ i, i < k → ∀ (h : i < days.length), days[i].l0 ≤ t.loss.getD i 0 ∧ t.loss.getD i 0 ≤ days[i].l1
theorem WtP.step {days : List Dy} {k : Nat} {t : Wt} (h : WtP days k t) (hk : k < days.length) {x y z : Int} (hx : days[k].n0 ≤ x ∧ x ≤ days[k].n1) (hy : days[k].m0 ≤ y ∧ y ≤ days[k].m1) (hz : days[k].l0 ≤ z ∧ z ≤ days[k].l1) : WtP days (k + 1) ⟨t.need ++ [x], t.make ++ [y], t.loss ++ [z]⟩ := by
  refine ⟨by simp [h.ln], by simp [h.lm], by simp [h.ll], fun i hi hd => ?_, fun i hi hd => ?_, fun i hi hd => ?_⟩
  · rw [getD_snoc, h.ln]
    split
    · exact h.n i (by assumption) hd
    · obtain rfl : i = k := by omega
      simpa using hx
  · rw [getD_snoc, h.lm]
    split
    · exact h.m i (by assumption) hd
    · obtain rfl : i = k := by omega
      simpa using hy
  · rw [getD_snoc, h.ll]
    split
    · exact h.l i (by assumption) hd
    · obtain rfl : i = k := by omega
      simpa using hz
theorem WtP.in {x : Wn} {t : Wt} (h : WtP x.days x.days.length t) : t.In x := ⟨h.ln, h.lm, h.ll, fun i hi => h.n i hi hi, fun i hi => h.m i hi hi, fun i hi => h.l i hi hi⟩
/-- The deck, and the days. -/
abbrev drL (bs : Value) (b K g c : Nat) (l : List Dy) : List Ck := [dkP bs b K, .ow (.slice (some ⟨g, 0, none⟩) l.length c) 73 6 l.length (dyC l)]

end Go.Proofs.Ytgeajgmefokifaa

/- What the laws of winters share. -/
namespace Go.Proofs.Ytgeajgmefokifaa
open Go Go.Eng

section
variable {K b g c : Nat} {bs : Value} {w0 w : World} {R : List Ck}
end
end Go.Proofs.Ytgeajgmefokifaa

/- Walks of the reference: the error of a winter. -/
namespace Go.Proofs.Ytgeajgmefokifaa
open Go Go.Eng

section
variable {w : World} {lo hi b off len cap : Nat} {l : List Dy}
theorem RdD.need (h : RdD w lo hi (.slice (some ⟨b, off, none⟩) len cap) l) (i : Nat) (hi : i < l.length) (j : Nat) (hj : j < 2) : w.cell? ⟨b, off + i * 6 + 0 + j, none⟩ = [Value.int .i64 l[i].n0, Value.int .i64 l[i].n1][j]? := by
  have := RdD.at h i hi (0 + j) (by omega)
  rw [← Nat.add_assoc] at this
  rw [this]
  match j, hj with
  | 0, _ => rfl
  | 1, _ => rfl
theorem RdD.make (h : RdD w lo hi (.slice (some ⟨b, off, none⟩) len cap) l) (i : Nat) (hi : i < l.length) (j : Nat) (hj : j < 2) : w.cell? ⟨b, off + i * 6 + 2 + j, none⟩ = [Value.int .i64 l[i].m0, Value.int .i64 l[i].m1][j]? := by
  have := RdD.at h i hi (2 + j) (by omega)
  rw [← Nat.add_assoc] at this
  rw [this]
  match j, hj with
  | 0, _ => rfl
  | 1, _ => rfl
theorem RdD.loss (h : RdD w lo hi (.slice (some ⟨b, off, none⟩) len cap) l) (i : Nat) (hi : i < l.length) (j : Nat) (hj : j < 2) : w.cell? ⟨b, off + i * 6 + 4 + j, none⟩ = [Value.int .i64 l[i].l0, Value.int .i64 l[i].l1][j]? := by
  have := RdD.at h i hi (4 + j) (by omega)
  rw [← Nat.add_assoc] at this
  rw [this]
  match j, hj with
  | 0, _ => rfl
  | 1, _ => rfl
end
end Go.Proofs.Ytgeajgmefokifaa

/- Walks of the reference: the errors of a stadium, of rules, and of a course. -/
namespace Go.Proofs.Ytgeajgmefokifaa
open Go Go.Eng

section
variable {w : World} {lo hi b off len cap : Nat} {l : List Lp}
theorem RdL.a0 (h : RdL w lo hi (.slice (some ⟨b, off, none⟩) len cap) l) (i : Nat) (hi : i < l.length) : w.cell? ⟨b, off + i * 3 + 0, none⟩ = some (.int .i64 l[i].len) := RdL.at0 h i hi
end
/-- In order, as far as they are looked at. -/
def ordB (c : List Int) (k : Nat) : Bool := (List.range k).all fun i => decide (c.getD i 0 ≤ c.getD (i + 1) 0) && true
theorem ordB_srt : ∀ (c : List Int), srtB c = ordB c (c.length - 1)
  | [] => rfl
  | [_] => rfl
  | a :: b :: l => by
    rw [srtB, ordB_srt (b :: l)]
    simp only [ordB, List.length_cons, Nat.add_sub_cancel]
    rw [List.range_succ_eq_map, List.all_cons, List.all_map]
    simp only [Bool.and_true]
    rfl
end Go.Proofs.Ytgeajgmefokifaa

/- Walks of the reference: how often a loop occurs; which rules a course breaks. -/
namespace Go.Proofs.Ytgeajgmefokifaa
open Go Go.Eng

def oftP (r : Rl) (c : List Int) (k : Nat) : Bool := (c.take k).any fun i => decide (r.uses < cntI c i) && true
end Go.Proofs.Ytgeajgmefokifaa

/- Walk of the reference: all lists of laps. -/
namespace Go.Proofs.Ytgeajgmefokifaa
open Go Go.Eng

/-- The lists that are found among the first numbers. -/
def foundL (n laps m : Nat) : List (List Int) := ((List.range m).map (digL n laps)).filter (fun c => decide (listedV n c = 0))
end Go.Proofs.Ytgeajgmefokifaa

/- Walks of the reference: all right courses. -/
namespace Go.Proofs.Ytgeajgmefokifaa
open Go Go.Eng

section
variable {w0 w : World} {M : Nat → Prop} {H : List Ck} {t t2 : TypeId} {xs : List (Value × List Int)} {u : Value} {c : List Int}
theorem ls_rdII (hs : Sat w0 M H w) {v : Value} {n : Nat} (hu : un (rowsO t xs) ∈ H) (hv : .ow v t2 1 n (xs.map (·.1)) ∈ H) : RdII w 0 w.heap.size v (xs.map (·.2)) := rowsO_rd (hs.mem hu) (hs.mem hv)
end
end Go.Proofs.Ytgeajgmefokifaa

/- The plain laws of courses: their order, the fewest rules, the least snow. -/
namespace Go.Proofs.Ytgeajgmefokifaa

/-! Lexicographic order -/
theorem cmpB_trans : ∀ {a b c : List Int}, cmpB a b = true → cmpB b c = true → cmpB a c = true
  | [], [], _, h, _ => by simp [cmpB] at h
  | [], _ :: _, [], _, h => by simp [cmpB] at h
  | [], _ :: _, _ :: _, _, _ => rfl
  | _ :: _, [], _, h, _ => by simp [cmpB] at h
  | _ :: _, _ :: _, [], _, h => by simp [cmpB] at h
  | x :: a, y :: b, z :: c, h1, h2 => by
    simp only [cmpB] at h1 h2 ⊢
    split at h1 <;> split at h2
    · rename_i e1 e2
      rw [if_pos (e1.trans e2)]
      exact cmpB_trans h1 h2
    · rename_i e1 e2
      subst e1
      rw [if_neg e2]
      exact h2
    · rename_i e1 e2
      subst e2
      rw [if_neg e1]
      exact h1
    · rename_i e1 e2
      simp only [Bool.and_true, decide_eq_true_eq] at h1 h2
      rw [if_neg (by omega)]
      simp
      omega
theorem cmpB_irr : ∀ (a : List Int), cmpB a a = false
  | [] => rfl
  | x :: a => by simp [cmpB, cmpB_irr a]
theorem cmpB_tri : ∀ (a b : List Int), cmpB a b = false → cmpB b a = false → a = b
  | [], [], _, _ => rfl
  | [], _ :: _, h, _ => by simp [cmpB] at h
  | _ :: _, [], _, h => by simp [cmpB] at h
  | x :: a, y :: b, h1, h2 => by
    simp only [cmpB] at h1 h2
    by_cases e : x = y
    · subst e
      simp only [if_true] at h1 h2
      rw [cmpB_tri a b h1 h2]
    · rw [if_neg e] at h1
      rw [if_neg (fun h => e h.symm)] at h2
      simp at h1 h2
      omega
theorem sortL_sorted (n : Nat) : ∀ (k least : Nat), (sortL n k least).Pairwise (fun a b => cmpB a b = true)
  | 0, _ => by simp [sortL]
  | k + 1, least => by
    rw [sortL]
    refine List.pairwise_flatMap.2 ⟨fun i _ => ?_, ?_⟩
    · refine List.pairwise_map.2 ((sortL_sorted n k i).imp fun {a b} h => ?_)
      simpa [cmpB] using h
    · refine List.Pairwise.imp ?_ (List.pairwise_lt_range' (s := least) (n := n - least))
      intro i j hij x hx y hy
      obtain ⟨a, _, rfl⟩ := List.mem_map.1 hx
      obtain ⟨b, _, rfl⟩ := List.mem_map.1 hy
      simp only [cmpB]
      rw [if_neg (by omega)]
      simp
      omega
theorem coursesL_sorted (n laps : Nat) : (coursesL n laps).Pairwise (fun a b => cmpB a b = true) := sortL_sorted n laps 0
theorem allC_sorted (s : List Lp) (r : Rl) : (allC s r).Pairwise (fun a b => cmpB a b = true) := (coursesL_sorted _ _).filter _
theorem coursesL_ne {n laps : Nat} (hn : 0 < n) : coursesL n laps ≠ [] := by
  have : List.replicate laps (0 : Int) ∈ coursesL n laps := coursesL_mem.2 ⟨by simp, fun x hx => by rw [List.eq_of_mem_replicate hx]; omega, by
    induction laps with
    | zero => rfl
    | succ k ih =>
      cases k with
      | zero => rfl
      | succ k => rw [List.replicate_succ, List.replicate_succ, srtB, ← List.replicate_succ, ih]; simp⟩
  intro h
  rw [h] at this
  cases this

/-! The fewest rules -/
theorem fewB_irr (a : List Int) : fewB a a = false := by simp [fewB, cmpB_irr]
theorem fewB_trans {a b c : List Int} (h1 : fewB a b = true) (h2 : fewB b c = true) : fewB a c = true := by
  simp only [fewB, Bool.and_true, Bool.or_eq_true, Bool.and_eq_true, decide_eq_true_eq] at h1 h2 ⊢
  rcases h1 with h1 | ⟨h1, h3⟩ <;> rcases h2 with h2 | ⟨h2, h4⟩
  · left; omega
  · left; omega
  · left; omega
  · right; exact ⟨by omega, cmpB_trans h3 h4⟩
theorem fewB_tri {a b : List Int} (h1 : fewB a b = false) (h2 : fewB b a = false) : a = b := by
  simp only [fewB, Bool.and_true, Bool.or_eq_false_iff, Bool.and_eq_false_imp, decide_eq_true_eq, decide_eq_false_iff_not] at h1 h2
  have : a.length = b.length := by omega
  exact cmpB_tri a b (h1.2 this) (h2.2 this.symm)
/-- The first of the best ones, by a strict order of keys. -/
theorem best_fold {α : Type} (lt : α → α → Bool) (irr : ∀ a, lt a a = false) (tr : ∀ {a b c}, lt a b = true → lt b c = true → lt a c = true) (neg : ∀ {a b c}, lt a b = false → lt b c = false → lt a c = false) :
    ∀ (l : List α) (m : α), ∃ R, l.foldl (bestS lt) (some m) = some R ∧ (R = m ∨ R ∈ l) ∧ lt m R = false ∧ ∀ c ∈ l, lt c R = false
  | [], m => ⟨m, rfl, .inl rfl, irr m, by simp⟩
  | c :: l, m => by
    rw [List.foldl_cons]
    by_cases h : lt c m = true
    · simp only [bestS, h, if_true]
      obtain ⟨R, h1, h2, h3, h4⟩ := best_fold lt irr tr neg l c
      refine ⟨R, h1, .inr (List.mem_cons.2 h2), ?_, fun d hd => ?_⟩
      · cases hm : lt m R with
        | false => rfl
        | true => rw [tr h hm] at h3; cases h3
      · rcases List.mem_cons.1 hd with rfl | hd
        · exact h3
        · exact h4 d hd
    · have h : lt c m = false := by simpa using h
      simp only [bestS, h]
      obtain ⟨R, h1, h2, h3, h4⟩ := best_fold lt irr tr neg l m
      refine ⟨R, h1, h2.imp_right (List.mem_cons_of_mem _), h3, fun d hd => ?_⟩
      rcases List.mem_cons.1 hd with rfl | hd
      · exact neg h h3
      · exact h4 d hd
theorem fewB_neg {a b c : List Int} (h1 : fewB a b = false) (h2 : fewB b c = false) : fewB a c = false := by
  cases h : fewB a c with
  | false => rfl
  | true =>
    cases h3 : fewB b a with
    | true => rw [fewB_trans h3 h] at h2; cases h2
    | false =>
      obtain rfl := fewB_tri h1 h3
      rw [h] at h2; cases h2
theorem yield_best {s : List Lp} (r : Rl) (hs : 0 < s.length) : ∃ R, yieldO s r (coursesL s.length (nL r)) = some R ∧ R ∈ coursesL s.length (nL r) ∧ ∀ c ∈ coursesL s.length (nL r), fewB (brkL s r c) (brkL s r R) = false := by
  have hne := coursesL_ne (laps := nL r) hs
  generalize coursesL s.length (nL r) = l at *
  cases l with
  | nil => exact absurd rfl hne
  | cons m l =>
    obtain ⟨R, h1, h2, h3, h4⟩ := best_fold (fun a b => fewB (brkL s r a) (brkL s r b)) (fun a => fewB_irr _) fewB_trans fewB_neg l m
    refine ⟨R, (by rw [yieldO, List.foldl_cons]; exact h1), List.mem_cons.2 h2, fun c hc => ?_⟩
    rcases List.mem_cons.1 hc with rfl | hc
    · exact h3
    · exact h4 c hc
theorem cheap_filter (s : List Lp) (r : Rl) (depth : Int) : ∀ (l : List (List Int)) (o : Option (List Int)), l.foldl (cheapS s r depth) o = (l.filter (rightB s r)).foldl (bestS fun a b => decide (snowV s a depth < snowV s b depth) && true) o
  | [], _ => rfl
  | c :: l, o => by
    rw [List.foldl_cons, cheap_filter s r depth l, List.filter_cons]
    cases h : rightB s r c with
    | false => simp [cheapS, h]
    | true => simp only [if_true, List.foldl_cons, cheapS, h]
theorem cheap_best (s : List Lp) (r : Rl) (depth : Int) : (cheapO s r depth (coursesL s.length (nL r)) = none ∧ allC s r = []) ∨
    ∃ R, cheapO s r depth (coursesL s.length (nL r)) = some R ∧ R ∈ allC s r ∧ ∀ c ∈ allC s r, snowV s R depth ≤ snowV s c depth := by
  unfold cheapO
  rw [cheap_filter]
  show _ ∨ _
  unfold allC
  generalize (coursesL s.length (nL r)).filter (rightB s r) = l
  cases l with
  | nil => exact .inl ⟨rfl, rfl⟩
  | cons m l =>
    obtain ⟨R, h1, h2, h3, h4⟩ := best_fold (fun a b => decide (snowV s a depth < snowV s b depth) && true) (fun a => by simp) (fun {a b c} h1 h2 => by simp at h1 h2 ⊢; omega) (fun {a b c} h1 h2 => by simp at h1 h2 ⊢; omega) l m
    refine .inr ⟨R, (by rw [List.foldl_cons]; exact h1), List.mem_cons.2 h2, fun c hc => ?_⟩
    rcases List.mem_cons.1 hc with rfl | hc
    · simpa using h3
    · simpa using h4 c hc
end Go.Proofs.Ytgeajgmefokifaa

/- Walks of the reference: Broken, earlier, Yield. -/
namespace Go.Proofs.Ytgeajgmefokifaa
open Go Go.Eng

end Go.Proofs.Ytgeajgmefokifaa

/- Walks of the reference: area, snow, what a volume covers, and the cheapest course. -/
namespace Go.Proofs.Ytgeajgmefokifaa
open Go Go.Eng

def volB (s : List Lp) (depth volume : Int) (c : List Int) : Bool := decide (snowV s c depth ≤ volume) && true
theorem allC_len {s : List Lp} {r : Rl} (hcr : CR s r) {c : List Int} (hc : c ∈ allC s r) : c.length ≤ 6 := by
  have hla := hcr.r.laps
  have hm := coursesL_mem.1 (List.mem_filter.1 hc).1
  rw [hm.1]
  unfold nL
  omega
end Go.Proofs.Ytgeajgmefokifaa

/- Walks of the reference: what a volume covers; the cheapest course. -/
namespace Go.Proofs.Ytgeajgmefokifaa
open Go Go.Eng

def ltS (s : List Lp) (depth : Int) (a b : List Int) : Bool := decide (snowV s a depth < snowV s b depth) && true
end Go.Proofs.Ytgeajgmefokifaa

/- Walks of the reference: the error of a weather. -/
namespace Go.Proofs.Ytgeajgmefokifaa
open Go Go.Eng

end Go.Proofs.Ytgeajgmefokifaa

/- Plain laws of what happens, step by step. -/
namespace Go.Proofs.Ytgeajgmefokifaa
open Go Go.Eng

end Go.Proofs.Ytgeajgmefokifaa

/- Walk of the reference: what happens in a weather. -/
namespace Go.Proofs.Ytgeajgmefokifaa
open Go Go.Eng

end Go.Proofs.Ytgeajgmefokifaa

/- Walk of the reference: the ends of a winter's spans. -/
namespace Go.Proofs.Ytgeajgmefokifaa
open Go Go.Eng

end Go.Proofs.Ytgeajgmefokifaa

/- Walks: winters and weathers compared that are equal. -/
namespace Go.Proofs.Ytgeajgmefokifaa
open Go Go.Eng

end Go.Proofs.Ytgeajgmefokifaa

/- Winters that are copied, and whose days are changed. -/
namespace Go.Proofs.Ytgeajgmefokifaa
open Go Go.Eng

/-! The cells of days -/
def fldD (d : Dy) : Nat → Int
  | 0 => d.n0
  | 1 => d.n1
  | 2 => d.m0
  | 3 => d.m1
  | 4 => d.l0
  | _ => d.l1
def setD (d : Dy) (f : Nat) (v : Int) : Dy :=
  match f with
  | 0 => { d with n0 := v }
  | 1 => { d with n1 := v }
  | 2 => { d with m0 := v }
  | 3 => { d with m1 := v }
  | 4 => { d with l0 := v }
  | _ => { d with l1 := v }
/-- Days in a block, with room behind them. -/
abbrev dyB (g : Nat) (l : List Dy) (sp : List Value) : Ck := .pt g (dyC l ++ sp) 73
section
variable {P : Program} {T : Tab} {ro : Cx} {n : Nat} {F : Fin} {w0 : World} {M : Nat → Prop} {k : List It} {ops : Array Oper} {rest : List Oper} {e : Env} {H Hq : List Ck}
end
/-! Copies -/
end Go.Proofs.Ytgeajgmefokifaa

/- Walks: a weather copied. -/
namespace Go.Proofs.Ytgeajgmefokifaa
open Go Go.Eng

end Go.Proofs.Ytgeajgmefokifaa

/- Walk: a winter of the reference. -/
namespace Go.Proofs.Ytgeajgmefokifaa
open Go Go.Eng

end Go.Proofs.Ytgeajgmefokifaa

/- Walks: whether there are too many days, or numbers. -/
namespace Go.Proofs.Ytgeajgmefokifaa
open Go Go.Eng

def longB (n : Nat) (ll : List (List Int)) : Bool := (ll.any fun l => decide (70 < l.length) && true) || (decide (65 < n) && true)
end Go.Proofs.Ytgeajgmefokifaa

/- Walk of the reference: piles. -/
namespace Go.Proofs.Ytgeajgmefokifaa
open Go Go.Eng

/-- Much is taken from piles, one after the other. -/
structure TkI (much : Int) (l : List Int) (k : Nat) (m : Int) (o : List Int) : Prop where
  kl : k ≤ l.length
  len : o.length = l.length
  mb : 0 ≤ m ∧ m ≤ much
  nn : ∀ x ∈ o, 0 ≤ x ∧ x ≤ 2000000
  eq : rremP much l = o.take k ++ rremP m (o.drop k)
theorem TkI.zero {much : Int} {l : List Int} (h : 0 ≤ much) (hl : ∀ x ∈ l, 0 ≤ x ∧ x ≤ 2000000) : TkI much l 0 much l := ⟨Nat.zero_le _, rfl, ⟨h, Int.le_refl _⟩, hl, by simp⟩
theorem TkI.step {much : Int} {l : List Int} {k : Nat} {m : Int} {o : List Int} (h : TkI much l k m o) (hk : k < o.length) (hm : 0 < m) {n : Int} (hn : n = min o[k] m) : TkI much l (k + 1) (m - n) (o.set k (o[k] - n)) := by
  subst hn
  have h0 := h.nn _ (List.getElem_mem hk)
  refine ⟨by have := h.len; omega, by simp [h.len], by have := h.mb; omega, fun x hx => ?_, ?_⟩
  · rcases List.mem_or_eq_of_mem_set hx with hx | rfl
    · exact h.nn x hx
    · omega
  · rw [h.eq, List.drop_eq_getElem_cons hk, rremP, if_pos (by omega)]
    have e1 : (o.set k (o[k] - min o[k] m)).take (k + 1) = o.take k ++ [o[k] - min o[k] m] := by
      rw [List.take_succ_eq_append_getElem (by simpa using hk), List.take_set_of_le (Nat.le_refl _)]
      simp
    have e2 : (o.set k (o[k] - min o[k] m)).drop (k + 1) = o.drop (k + 1) := by rw [List.drop_set_of_lt (by omega)]
    rw [e1, e2]
    simp
theorem TkI.full {much : Int} {l : List Int} {k : Nat} {m : Int} {o : List Int} (h : TkI much l k m o) (hk : ¬ k < o.length) : o = rremP much l := by
  have h1 := h.len
  have h2 := h.kl
  rw [h.eq, List.drop_eq_nil_of_le (by omega), List.take_of_length_le (by omega)]
  simp [rremP]
theorem TkI.done {much : Int} {l : List Int} {k : Nat} {m : Int} {o : List Int} (h : TkI much l k m o) (hm : ¬ m > 0) : o = rremP much l := by
  obtain rfl : m = 0 := by have := h.mb; omega
  rw [h.eq, rremP_zero, List.take_append_drop]
end Go.Proofs.Ytgeajgmefokifaa

/- Walks of the reference: the first day that can fail; whether a winter is held. -/
namespace Go.Proofs.Ytgeajgmefokifaa
open Go Go.Eng

/-- Whether no day can fail. -/
def heldB (x : Wn) : Bool := decide ((firstV x).2 = 6) && true
end Go.Proofs.Ytgeajgmefokifaa

/- Walk of the reference: proofs. -/
namespace Go.Proofs.Ytgeajgmefokifaa
open Go Go.Eng

/-- What is left, day by day. -/
def lfK (x : Wn) (frm : Int) (i : Nat) : Int := if i ≤ frm.toNat then x.stock else phK x frm (i - 1 - frm.toNat) - (worstW x).need.getD (i - 1) 0
end Go.Proofs.Ytgeajgmefokifaa

/- Plain laws of winters: more stock, more room, more snow made, less need and less loss. -/
namespace Go.Proofs.Ytgeajgmefokifaa
open Go

structure RichD (d d' : Dy) : Prop where
  n : d'.n0 = d.n0 ∧ d.n0 ≤ d'.n1 ∧ d'.n1 ≤ d.n1
  m : d'.m1 = d.m1 ∧ d.m0 ≤ d'.m0 ∧ d'.m0 ≤ d.m1
  l : d'.l0 = d.l0 ∧ d.l0 ≤ d'.l1 ∧ d'.l1 ≤ d.l1
structure RichL (l l' : List Dy) : Prop where
  len : l'.length = l.length
  all : ∀ i (h : i < l.length) (h' : i < l'.length), RichD l[i] l'[i]
end Go.Proofs.Ytgeajgmefokifaa

/- Walks of the reference: the least stock and the least store. -/
namespace Go.Proofs.Ytgeajgmefokifaa
open Go Go.Eng

end Go.Proofs.Ytgeajgmefokifaa

/- Walk of the reference: the ranges of stocks. -/
namespace Go.Proofs.Ytgeajgmefokifaa
open Go Go.Eng

end Go.Proofs.Ytgeajgmefokifaa

/- The walk of CourseOpens. -/
namespace Go.Proofs.Ytgeajgmefokifaa
open Go Go.Eng

end Go.Proofs.Ytgeajgmefokifaa

/- What a function is told of its arguments: slices and structs that came in can be read. -/
namespace Go.Proofs.Ytgeajgmefokifaa
open Go Go.Eng

section
variable {H : Type} {enc : TypeId × Value → H} {P : Program} {w : World} {sp : Nat → Bool} {held : Bool}
theorem flat_get {sz : Nat} (hsz : 0 < sz) : ∀ (css : List (List Value)), (∀ c ∈ css, c.length = sz) → ∀ j, css.flatten[j]? = (css[j / sz]?).bind (fun c => c[j % sz]?)
  | [], _, j => by simp
  | c :: css, h, j => by
    have hc := h c List.mem_cons_self
    rw [List.flatten_cons]
    by_cases hj : j < sz
    · rw [List.getElem?_append_left (by omega), Nat.div_eq_of_lt hj, Nat.mod_eq_of_lt hj]
      rfl
    · obtain ⟨k, rfl⟩ : ∃ k, j = k + sz := ⟨j - sz, by omega⟩
      rw [List.getElem?_append_right (by omega), hc, Nat.add_sub_cancel, flat_get hsz css (fun d hd => h d (List.mem_cons_of_mem _ hd)), Nat.add_div_right _ hsz, Nat.add_mod_right]
      rfl
end
/-- A number that fits into 64 bits. -/
def I64 (n : Int) : Prop := -9223372036854775808 ≤ n ∧ n < 9223372036854775808
section
variable {H : Type} {enc : TypeId × Value → H} {P : Program} {w : World} {sp : Nat → Bool} {held : Bool}
theorem RdI.one {v : Value} {l : List Int} {lo hi : Nat} (h : RdI w lo hi v l) : oneV v = true := by
  obtain ⟨a, c, rfl, _⟩ := RdI.outI h
  rfl
end
end Go.Proofs.Ytgeajgmefokifaa

/- What a function of the chapter is told of its arguments. -/
namespace Go.Proofs.Ytgeajgmefokifaa
open Go Go.Eng

section
variable {H : Type} {enc : TypeId × Value → H} {P : Program} {w : World} {sp : Nat → Bool} {held : Bool}
end

section
variable {H : Type} {enc : TypeId × Value → H} {w : World} {sp : Nat → Bool} {held : Bool} {rc : Reach} {base : Nat} {v : Value} {d : DataW H} {ps : List MemPlace}
/-- The numbers of rules fit into 64 bits. -/
structure Rl.Big (r : Rl) : Prop where
  laps : I64 r.laps
  g0 : I64 r.g0
  g1 : I64 r.g1
  c0 : I64 r.c0
  c1 : I64 r.c1
  p0 : I64 r.p0
  p1 : I64 r.p1
  wide : I64 r.wide
  uses : I64 r.uses
end
end Go.Proofs.Ytgeajgmefokifaa

/- The walk of CourseWinters. -/
namespace Go.Proofs.Ytgeajgmefokifaa
open Go Go.Eng

end Go.Proofs.Ytgeajgmefokifaa

/- Walks: loops copied and turned, rules as numbers, whether there are too many lists; contracts in one piece. -/
namespace Go.Proofs.Ytgeajgmefokifaa
open Go Go.Eng

theorem slLp : SlT Try.prog 22 31 3 24 (.agg #[.int .i64 0, .int .i64 0, .int .i64 0]) := ⟨by kernel_rfl, by kernel_rfl, by kernel_rfl, by decide⟩
theorem lpC_snoc (l : List Lp) (d : Lp) : lpC (l ++ [d]) = lpC l ++ lpC [d] := by simp [lpC]
theorem lpC_one (l : List Lp) : ∀ c ∈ lpC l, oneV c = true := fun c hc => by obtain ⟨y, _, hy⟩ := List.mem_flatMap.1 hc; simp at hy; rcases hy with rfl | rfl | rfl <;> rfl
theorem Blk.rdLp {w : World} {b : Nat} {d : Lp} {t : TypeId} (h : Blk w b (lpC [d]) t) : Rd w b (b + 1) (.slice (some ⟨b, 0, none⟩) 1 1) 3 1 (lpC [d]) :=
  ⟨rfl, .inr ⟨b, 0, 1, rfl, fun _ => ⟨Nat.le_refl _, Nat.lt_succ_self _, h.lt⟩, fun j _ => by rw [Nat.zero_add]; exact Blk.cell h j⟩⟩
theorem sat_rdL {w0 w : World} {M : Nat → Prop} {H : List Ck} {v : Value} {t n : Nat} {l : List Lp} (hs : Sat w0 M H w) (hm : .ow v t 3 n (lpC l) ∈ H) (hn : n = l.length) : RdL w 0 w.heap.size v l := own_rdL (hs.mem hm) hn
/-! Contracts in one piece -/
theorem cheapV_cases (s : List Lp) (r : Rl) (depth : Int) : (∃ b, (cheapV s r depth) = (b, snowV s b depth, 0) ∧ CR s r ∧ (1 ≤ depth ∧ depth ≤ 200) ∧ cheapO s r depth (coursesL s.length (nL r)) = some b) ∨ ((cheapV s r depth).2.2 ≠ 0 ∧ (cheapV s r depth).1 = [] ∧ (cheapV s r depth).2.1 = 0) := by
  unfold cheapV
  split
  · rename_i h
    exact .inr ⟨h, rfl, rfl⟩
  rename_i h0
  split
  · exact .inr ⟨by simp, rfl, rfl⟩
  rename_i h1
  split
  · exact .inr ⟨by simp, rfl, rfl⟩
  · rename_i b hb
    exact .inl ⟨b, rfl, checkS_iff.1 (by omega), wiB_iff.1 (by simpa using h1), hb⟩
theorem sat_ownil {w w' : World} (t sz : Nat) (h : Chg [] w w') : Sat w M0 [.ow (.slice none 0 0) t sz 0 []] w' := Sat.ownil ((Sat.nil w M0).keep h) t sz
section
variable (w : World) (lo hi : Nat) (a : Option Addr) (cp : Nat) (s : List Lp) (r : Rl) (h : RdL w lo hi (.slice a s.length cp) s) (hlen : s.length ≤ 1000000)
include h hlen
end
/-- The fewest rules, with the first course. -/
def yldV (s : List Lp) (r : Rl) : (List Int × List Int) × Int := if checkS s r ≠ 0 then (([], []), checkS s r) else ((brkL s r ((yieldO s r (coursesL s.length (nL r))).getD []), (yieldO s r (coursesL s.length (nL r))).getD []), 0)
section
variable (w : World) (lo hi : Nat) (a : Option Addr) (cp : Nat) (s : List Lp) (r : Rl) (h : RdL w lo hi (.slice a s.length cp) s) (hlen : s.length ≤ 1000000)
include h hlen
theorem cheap_u (depth : Int) : Ca Try.prog 48 [.slice a s.length cp, .agg (rlC r).toArray, .int .i64 depth] w fun x w' => ∃ v : Value, x = .tuple #[v, .int .i64 (cheapV s r depth).2.1, .int .i64 (cheapV s r depth).2.2] ∧ Sat w M0 [.ow v 3 1 (cheapV s r depth).1.length (ints (cheapV s r depth).1)] w' := by
  rcases cheapV_cases s r depth with ⟨b, e, hcr, hd, ho⟩ | ⟨e, e2, e3⟩
  · rw [e]
    exact cheap_ok w lo hi a cp s r depth b h hcr hd ho
  · rw [e2, e3]
    exact (cheap_no w lo hi a cp s r depth h hlen e).mono fun x w' ⟨h1, h2⟩ => ⟨_, h1, sat_ownil _ _ h2⟩
end
end Go.Proofs.Ytgeajgmefokifaa

/- Walk: a stadium and rules are made. -/
namespace Go.Proofs.Ytgeajgmefokifaa
open Go Go.Eng

structure LpM (l : Lp) : Prop where
  len : 1500 ≤ l.len ∧ l.len ≤ 3400
  climb : 0 ≤ l.climb ∧ l.climb ≤ 110
  wide : 4 ≤ l.wide ∧ l.wide ≤ 8
structure MadeS (most laps : Nat) (s : List Lp) (r : Rl) : Prop where
  n1 : 1 ≤ s.length
  n2 : s.length ≤ most
  all : ∀ l ∈ s, LpM l
  lp : 1 ≤ r.laps ∧ r.laps ≤ laps
  g : 0 ≤ r.g0 ∧ r.g0 ≤ r.g1 ∧ r.g1 ≤ 20000
  c : 0 ≤ r.c0 ∧ r.c0 ≤ r.c1 ∧ r.c1 ≤ 1000
  p : 1500 ≤ r.p0 ∧ r.p0 ≤ 1800 ∧ 2500 ≤ r.p1 ∧ r.p1 ≤ 3400
  wide : 3 ≤ r.wide ∧ r.wide ≤ 5
  uses : 1 ≤ r.uses ∧ r.uses ≤ laps
theorem MadeS.cr {most laps : Nat} {s : List Lp} {r : Rl} (h : MadeS most laps s r) (hm : most ≤ 12) (hl : laps ≤ 6) : CR s r := by
  have h1 := h.n1; have h2 := h.n2; have h3 := h.lp; have h4 := h.g; have h5 := h.c; have h6 := h.p; have h7 := h.wide; have h8 := h.uses
  exact ⟨⟨h1, by omega, fun l hl => by have h := h.all l hl; have := h.len; have := h.climb; have := h.wide; exact ⟨by omega, by omega, by omega⟩⟩, ⟨by omega, by omega, by omega, by omega, by omega, by omega⟩⟩
theorem mul_bd {a b A B : Int} (h1 : 0 ≤ a) (h2 : a ≤ A) (h3 : 0 ≤ b) (h4 : b ≤ B) : 0 ≤ a * b ∧ a * b ≤ A * B := ⟨Int.mul_nonneg h1 h3, Int.mul_le_mul h2 h4 h3 (by omega)⟩
set_option maxHeartbeats 4000000 in
theorem madeS_ca (most laps : Nat) (h1 : 1 ≤ most) (h2 : most ≤ 12) (h3 : 1 ≤ laps) (h4 : laps ≤ 6) (K : Nat) (hK : K < 100000) (w : World) (b lo hi : Nat) (bs : Value) (hby : DkB w lo hi bs) (hlh : hi ≤ b) (hd : DkS w b bs K) :
    Ca Try.prog 46 [.pointer (some ⟨b, 0, none⟩), .int .i64 most, .int .i64 laps] w fun v w' => ∃ y : Nat × Nat × List Lp × Rl, (v = .tuple #[.slice (some ⟨y.1, 0, none⟩) y.2.2.1.length y.2.1, .agg (rlC y.2.2.2).toArray] ∧ MadeS most laps y.2.2.1 y.2.2.2) ∧ Sat w (fun x => x = b) [.ow (.slice (some ⟨y.1, 0, none⟩) y.2.2.1.length y.2.1) 31 3 y.2.2.1.length (lpC y.2.2.1), dkP bs b (K + 100)] w' := by
  refine q_of (dk_sat hd) Try.func46 rfl (by simp [Try.ntmps46]) ?_
  (refine q_seq ?_; refine q_region ?_; refine ql_pure tabOk rfl rfl ?_)
  refine ql_alloc zero26 rfl (fun b7 => ?_)
  (refine q_nil ?_; refine q_seq ?_; refine q_region ?_; refine ql_pure tabOk rfl rfl ?_; refine q_nil ?_; (iterate 2 refine q_seq ?_); refine q_region ?_; (iterate 2 refine ql_pure tabOk rfl rfl ?_))
  refine ql_call (β := Int) (ψ := fun zq v => v = .int .i64 zq ∧ 1 ≤ zq ∧ zq ≤ most) (L' := fun _ => [dkP bs b (K + 1)]) tabOk [dkP bs b (K)] _ (fun x => x = b) rfl rfl rfl rfl (Sp.cons (by repeat constructor) (Sp.refl _)) (fun x hx => ⟨_, .head _, hx⟩) (fun w' hs => between_ca (1) (most) (by omega) (by omega) (by omega) (K) (by omega) w' b lo hi bs (hby.keepP hlh hs.chg) hlh (hs.all _ (.head _))) ?_; rintro cnt _ ⟨rfl, hcnt⟩
  (refine ql_pure tabOk rfl rfl ?_; refine q_nil ?_; refine q_block ?_)
  obtain ⟨cn, rfl⟩ := Int.eq_ofNat_of_zero_le (show 0 ≤ cnt by omega)
  have hcn : 1 ≤ cn ∧ cn ≤ most := by omega
  clear hcnt
  refine q_conv (H' := [.ow (.slice none 0 0) 31 3 0 (lpC []), dkP bs b (K + 1 + 3 * 0), .pt b7 [.int .i64 0, .int .i64 0, .int .i64 0, .int .i64 0, .int .i64 0, .int .i64 0, .int .i64 0, .int .i64 0, .int .i64 0] 26])
    (fun w' hs => (Sat.ownil hs 31 3).sp (by repeat (first | exact Sp.nil | exact Sp.refl _ | refine Sp.cons (by repeat constructor) ?_))) ?_
  refine q_loop (σ := Value × List Lp) (fun s => s.2.length ≤ cn ∧ ∀ l ∈ s.2, LpM l) (fun s => cn - s.2.length) (fun s => [(0, .pointer (some ⟨b, 0, none⟩)), (2, .int .i64 laps), (7, .pointer (some ⟨b7, 0, none⟩)), (8, s.1), (14, .int .i64 cn), (15, .int .i64 s.2.length)])
    (fun s => [.ow s.1 31 3 s.2.length (lpC s.2), dkP bs b (K + 1 + 3 * s.2.length), .pt b7 [.int .i64 0, .int .i64 0, .int .i64 0, .int .i64 0, .int .i64 0, .int .i64 0, .int .i64 0, .int .i64 0, .int .i64 0] 26]) (.slice none 0 0, []) (by simp) ⟨rfl, rfl, rfl, rfl, rfl, rfl, trivial⟩ (by repeat (first | exact Sp.nil | exact Sp.refl _ | refine Sp.cons (by repeat constructor) ?_)) ?_
  rintro ⟨v, l⟩ ⟨hl, hB⟩ K1 hK1
  simp only at hl hB
  dsimp only
  (refine q_seq ?_; refine q_region ?_; refine ql_pure tabOk rfl rfl ?_; refine q_nil ?_; refine q_seq ?_)
  refine q_if rfl (fun hc => ?_) (fun hc => ?_)
  · have hl2 : l.length < cn := by omega
    clear hc
    obtain ⟨k, hk⟩ : ∃ k, k = l.length := ⟨_, rfl⟩
    rw [← hk]
    (refine q_skip ?_; refine q_seq ?_; refine q_block ?_; refine q_region ?_; (iterate 2 refine ql_pure tabOk rfl rfl ?_))
    refine ql_call (β := Int) (ψ := fun zq v => v = .int .i64 zq ∧ 0 ≤ zq ∧ (zq < 20 ∨ zq = 0)) (L' := fun _ => [dkP bs b (K + 1 + 3 * k + 1)]) tabOk [dkP bs b (K + 1 + 3 * k)] _ (fun x => x = b) rfl rfl rfl rfl (Sp.cons (by repeat constructor) (Sp.refl _)) (fun x hx => ⟨_, .head _, hx⟩) (fun w' hs => drawP_ca (20) (K + 1 + 3 * k) (by omega) w' b lo hi bs (hby.keepP hlh hs.chg) hlh (hs.all _ (.head _))) ?_; rintro x1 _ ⟨rfl, hx1⟩
    ((iterate 2 refine ql_ar tabOk rfl rfl rfl rfl (by omega) (by omega) ?_); refine ql_pure tabOk rfl rfl ?_)
    refine ql_call (β := Int) (ψ := fun zq v => v = .int .i64 zq ∧ 0 ≤ zq ∧ (zq < 12 ∨ zq = 0)) (L' := fun _ => [dkP bs b (K + 1 + 3 * k + 1 + 1)]) tabOk [dkP bs b (K + 1 + 3 * k + 1)] _ (fun x => x = b) rfl rfl rfl rfl (Sp.cons (by repeat constructor) (Sp.refl _)) (fun x hx => ⟨_, .head _, hx⟩) (fun w' hs => drawP_ca (12) (K + 1 + 3 * k + 1) (by omega) w' b lo hi bs (hby.keepP hlh hs.chg) hlh (hs.all _ (.head _))) ?_; rintro x2 _ ⟨rfl, hx2⟩
    (refine ql_ar tabOk rfl rfl rfl rfl (by omega) (by omega) ?_; refine ql_pure tabOk rfl rfl ?_)
    refine ql_call (β := Int) (ψ := fun zq v => v = .int .i64 zq ∧ 4 ≤ zq ∧ zq ≤ 8) (L' := fun _ => [dkP bs b (K + 1 + 3 * k + 1 + 1 + 1)]) tabOk [dkP bs b (K + 1 + 3 * k + 1 + 1)] _ (fun x => x = b) rfl rfl rfl rfl (Sp.cons (by repeat constructor) (Sp.refl _)) (fun x hx => ⟨_, .head _, hx⟩) (fun w' hs => between_ca (4) (8) (by omega) (by omega) (by omega) (K + 1 + 3 * k + 1 + 1) (by omega) w' b lo hi bs (hby.keepP hlh hs.chg) hlh (hs.all _ (.head _))) ?_; rintro x3 _ ⟨rfl, hx3⟩
    skip
    refine ql_mk #[.int .i64 (1500 + 100 * x1), .int .i64 (10 * x2), .int .i64 x3] rfl (by kernel_rfl) rfl ?_
    refine ql_mkS 31 (lpC [⟨1500 + 100 * x1, 10 * x2, x3⟩]) rfl (by kernel_rfl) rfl (fun bn => ?_)
    refine ql_append (q := 1) slLp rfl rfl rfl (fun v' => by repeat constructor) (fun w' hs => ⟨_, _, Blk.rdLp (hs.blk (b := bn) (by repeat first | exact .head _ | refine .tail _ ?_))⟩) (lpC_one _) (by omega) (by omega) (fun u => ?_)
    (refine ql_pure tabOk rfl rfl ?_; refine q_nil ?_; refine q_blk ?_; refine q_region ?_; refine ql_ar tabOk rfl rfl rfl rfl (by omega) (by omega) ?_; refine ql_pure tabOk rfl rfl ?_; refine q_nil ?_)
    have e := lpC_snoc l ⟨1500 + 100 * x1, 10 * x2, x3⟩
    exact hK1 (u, l ++ [⟨1500 + 100 * x1, 10 * x2, x3⟩]) _ _ ⟨by simp only [List.length_append, List.length_cons, List.length_nil]; omega, fun d hd => by
      rcases List.mem_append.1 hd with hd | hd
      · exact hB d hd
      · obtain rfl := List.mem_singleton.1 hd
        exact ⟨by simp only; omega, by simp only; omega, hx3⟩⟩ (by simp only [List.length_append, List.length_cons, List.length_nil]; omega) ⟨rfl, rfl, rfl, rfl, rfl, lookI rfl (by simp; omega), trivial⟩ (by dsimp only; rw [e, List.length_append, ← hk]; repeat (first | exact Sp.nil | exact Sp.refl _ | refine Sp.cons (by repeat constructor) ?_))
  · have hle : l.length = cn := by omega
    clear hc hK1
    rw [hle]
    refine q_fact (fun w hs => hs.ownSome (v := v) (by repeat first | exact .head _ | refine .tail _ ?_) (by omega)) ?_
    rintro ⟨g, cd, rfl⟩
    (refine q_exit _ rfl ?_; refine q_seq ?_; refine q_region ?_; (iterate 2 refine ql_pure tabOk rfl rfl ?_))
    refine ql_call (β := Int) (ψ := fun zq v => v = .int .i64 zq ∧ 1 ≤ zq ∧ zq ≤ laps) (L' := fun _ => [dkP bs b (K + 1 + 3 * cn + 1)]) tabOk [dkP bs b (K + 1 + 3 * cn)] _ (fun x => x = b) rfl rfl rfl rfl (Sp.cons (by repeat constructor) (Sp.refl _)) (fun x hx => ⟨_, .head _, hx⟩) (fun w' hs => between_ca (1) (laps) (by omega) (by omega) (by omega) (K + 1 + 3 * cn) (by omega) w' b lo hi bs (hby.keepP hlh hs.chg) hlh (hs.all _ (.head _))) ?_; rintro la _ ⟨rfl, hla⟩
    (refine ql_pure tabOk rfl rfl ?_)
    refine ql_call (β := Int) (ψ := fun zq v => v = .int .i64 zq ∧ 3 ≤ zq ∧ zq ≤ 5) (L' := fun _ => [dkP bs b (K + 1 + 3 * cn + 1 + 1)]) tabOk [dkP bs b (K + 1 + 3 * cn + 1)] _ (fun x => x = b) rfl rfl rfl rfl (Sp.cons (by repeat constructor) (Sp.refl _)) (fun x hx => ⟨_, .head _, hx⟩) (fun w' hs => between_ca (3) (5) (by omega) (by omega) (by omega) (K + 1 + 3 * cn + 1) (by omega) w' b lo hi bs (hby.keepP hlh hs.chg) hlh (hs.all _ (.head _))) ?_; rintro wd _ ⟨rfl, hwd⟩
    ((iterate 2 refine ql_pure tabOk rfl rfl ?_))
    refine ql_call (β := Int) (ψ := fun zq v => v = .int .i64 zq ∧ 1 ≤ zq ∧ zq ≤ laps) (L' := fun _ => [dkP bs b (K + 1 + 3 * cn + 1 + 1 + 1)]) tabOk [dkP bs b (K + 1 + 3 * cn + 1 + 1)] _ (fun x => x = b) rfl rfl rfl rfl (Sp.cons (by repeat constructor) (Sp.refl _)) (fun x hx => ⟨_, .head _, hx⟩) (fun w' hs => between_ca (1) (laps) (by omega) (by omega) (by omega) (K + 1 + 3 * cn + 1 + 1) (by omega) w' b lo hi bs (hby.keepP hlh hs.chg) hlh (hs.all _ (.head _))) ?_; rintro us _ ⟨rfl, hus⟩
    refine ql_mk #[.int .i64 la, .int .i64 0, .int .i64 0, .int .i64 0, .int .i64 0, .int .i64 0, .int .i64 0, .int .i64 wd, .int .i64 us] rfl (by kernel_rfl) rfl ?_
    refine ql_alloc zero26 rfl (fun b9 => ?_)
    (refine ql_setA tabOk rfl rfl rfl rfl rfl (by repeat constructor) rfl ?_; refine q_nil ?_; refine q_seq ?_)
    refine q_draw _ [dkP bs b (K + 1 + 3 * cn + 1 + 1 + 1)] (Sp.cons (by repeat constructor) (Sp.refl _)) (by kernel_rfl) (by kernel_rfl) ?_
    (refine qf_pure tabOk rfl rfl rfl ?_; refine qf_loadB tabOk rfl rfl rfl (by repeat first | exact .head _ | refine .tail _ ?_) (by rfl) ?_; refine qf_pure tabOk rfl rfl rfl ?_)
    refine qf_call (β := Int) (ψ := fun zq v => v = .int .i64 zq ∧ 0 ≤ zq ∧ (zq < 12 ∨ zq = 0)) (L' := fun _ => [dkP bs b (K + 1 + 3 * cn + 1 + 1 + 1 + 1)]) tabOk [dkP bs b (K + 1 + 3 * cn + 1 + 1 + 1)] _ (fun x => x = b) rfl rfl rfl rfl (Sp.cons (by repeat constructor) (Sp.refl _)) (fun x hx => ⟨_, .head _, hx⟩) (fun w' hs => drawP_ca (12) (K + 1 + 3 * cn + 1 + 1 + 1) (by omega) w' b lo hi bs (hby.keepP hlh hs.chg) hlh (hs.all _ (.head _))) ?_; rintro y1 _ ⟨rfl, hy1⟩
    have hm1 := mul_bd (a := la) (b := 1500 + 100 * y1) (A := 6) (B := 2600) (by omega) (by omega) (by omega) (by omega)
    ((iterate 3 refine qf_ar tabOk rfl rfl rfl rfl (by omega) (by omega) ?_); refine qf_pure tabOk rfl rfl rfl ?_)
    refine qf_call (β := Int) (ψ := fun zq v => v = .int .i64 zq ∧ 0 ≤ zq ∧ (zq < 8 ∨ zq = 0)) (L' := fun _ => [dkP bs b (K + 1 + 3 * cn + 1 + 1 + 1 + 1 + 1)]) tabOk [dkP bs b (K + 1 + 3 * cn + 1 + 1 + 1 + 1)] _ (fun x => x = b) rfl rfl rfl rfl (Sp.cons (by repeat constructor) (Sp.refl _)) (fun x hx => ⟨_, .head _, hx⟩) (fun w' hs => drawP_ca (8) (K + 1 + 3 * cn + 1 + 1 + 1 + 1) (by omega) w' b lo hi bs (hby.keepP hlh hs.chg) hlh (hs.all _ (.head _))) ?_; rintro y2 _ ⟨rfl, hy2⟩
    have hm2 := mul_bd (a := 10 * y2) (b := la) (A := 70) (B := 6) (by omega) (by omega) (by omega) (by omega)
    (refine qf_ar tabOk rfl rfl rfl rfl (by omega) (by omega) ?_; refine qf_pure tabOk rfl rfl rfl ?_; refine qf_loadB tabOk rfl rfl rfl (by repeat first | exact .head _ | refine .tail _ ?_) (by rfl) ?_; refine qf_ar tabOk rfl rfl rfl rfl (by omega) (by omega) ?_; (iterate 2 refine qf_pure tabOk rfl rfl rfl ?_); refine qf_nil ?_; refine q_seq ?_; refine q_region ?_; (iterate 3 refine ql_pure tabOk rfl rfl ?_))
    generalize la * (1500 + 100 * y1) = q1 at *
    generalize 10 * y2 * la = q2 at *
    refine ql_call (β := Int) (ψ := fun zq v => v = .int .i64 zq ∧ 0 ≤ zq ∧ (zq < 30 ∨ zq = 0)) (L' := fun _ => [dkP bs b (K + 1 + 3 * cn + 1 + 1 + 1 + 1 + 1 + 1)]) tabOk [dkP bs b (K + 1 + 3 * cn + 1 + 1 + 1 + 1 + 1)] _ (fun x => x = b) rfl rfl rfl rfl (Sp.cons (by repeat constructor) (Sp.refl _)) (fun x hx => ⟨_, .head _, hx⟩) (fun w' hs => drawP_ca (30) (K + 1 + 3 * cn + 1 + 1 + 1 + 1 + 1) (by omega) w' b lo hi bs (hby.keepP hlh hs.chg) hlh (hs.all _ (.head _))) ?_; rintro z1 _ ⟨rfl, hz1⟩
    ((iterate 2 refine ql_ar tabOk rfl rfl rfl rfl (by omega) (by omega) ?_))
    refine ql_callv tabOk rfl rfl rfl rfl (fun w hs => spanM_ca _ _ w) ?_
    ((iterate 3 refine ql_pure tabOk rfl rfl ?_))
    refine ql_call (β := Int) (ψ := fun zq v => v = .int .i64 zq ∧ 0 ≤ zq ∧ (zq < 40 ∨ zq = 0)) (L' := fun _ => [dkP bs b (K + 1 + 3 * cn + 1 + 1 + 1 + 1 + 1 + 1 + 1)]) tabOk [dkP bs b (K + 1 + 3 * cn + 1 + 1 + 1 + 1 + 1 + 1)] _ (fun x => x = b) rfl rfl rfl rfl (Sp.cons (by repeat constructor) (Sp.refl _)) (fun x hx => ⟨_, .head _, hx⟩) (fun w' hs => drawP_ca (40) (K + 1 + 3 * cn + 1 + 1 + 1 + 1 + 1 + 1) (by omega) w' b lo hi bs (hby.keepP hlh hs.chg) hlh (hs.all _ (.head _))) ?_; rintro z2 _ ⟨rfl, hz2⟩
    ((iterate 2 refine ql_ar tabOk rfl rfl rfl rfl (by omega) (by omega) ?_))
    refine ql_callv tabOk rfl rfl rfl rfl (fun w hs => spanM_ca _ _ w) ?_
    (refine ql_pure tabOk rfl rfl ?_)
    refine ql_call (β := Int) (ψ := fun zq v => v = .int .i64 zq ∧ 0 ≤ zq ∧ (zq < 4 ∨ zq = 0)) (L' := fun _ => [dkP bs b (K + 1 + 3 * cn + 1 + 1 + 1 + 1 + 1 + 1 + 1 + 1)]) tabOk [dkP bs b (K + 1 + 3 * cn + 1 + 1 + 1 + 1 + 1 + 1 + 1)] _ (fun x => x = b) rfl rfl rfl rfl (Sp.cons (by repeat constructor) (Sp.refl _)) (fun x hx => ⟨_, .head _, hx⟩) (fun w' hs => drawP_ca (4) (K + 1 + 3 * cn + 1 + 1 + 1 + 1 + 1 + 1 + 1) (by omega) w' b lo hi bs (hby.keepP hlh hs.chg) hlh (hs.all _ (.head _))) ?_; rintro z3 _ ⟨rfl, hz3⟩
    ((iterate 2 refine ql_ar tabOk rfl rfl rfl rfl (by omega) (by omega) ?_); refine ql_pure tabOk rfl rfl ?_)
    refine ql_call (β := Int) (ψ := fun zq v => v = .int .i64 zq ∧ 0 ≤ zq ∧ (zq < 10 ∨ zq = 0)) (L' := fun _ => [dkP bs b (K + 1 + 3 * cn + 1 + 1 + 1 + 1 + 1 + 1 + 1 + 1 + 1)]) tabOk [dkP bs b (K + 1 + 3 * cn + 1 + 1 + 1 + 1 + 1 + 1 + 1 + 1)] _ (fun x => x = b) rfl rfl rfl rfl (Sp.cons (by repeat constructor) (Sp.refl _)) (fun x hx => ⟨_, .head _, hx⟩) (fun w' hs => drawP_ca (10) (K + 1 + 3 * cn + 1 + 1 + 1 + 1 + 1 + 1 + 1 + 1) (by omega) w' b lo hi bs (hby.keepP hlh hs.chg) hlh (hs.all _ (.head _))) ?_; rintro z4 _ ⟨rfl, hz4⟩
    ((iterate 2 refine ql_ar tabOk rfl rfl rfl rfl (by omega) (by omega) ?_))
    refine ql_callv tabOk rfl rfl rfl rfl (fun w hs => spanM_ca _ _ w) ?_
    (refine ql_pure tabOk rfl rfl ?_)
    refine ql_stA [.int .i64 la, .int .i64 q1, .int .i64 (q1 + 100 * z1), .int .i64 0, .int .i64 0, .int .i64 0, .int .i64 0, .int .i64 wd, .int .i64 us] tabOk rfl rfl rfl rfl rfl (by repeat constructor) rfl rfl ?_
    (refine ql_pure tabOk rfl rfl ?_)
    refine ql_stA [.int .i64 la, .int .i64 q1, .int .i64 (q1 + 100 * z1), .int .i64 q2, .int .i64 (q2 + 10 * z2), .int .i64 0, .int .i64 0, .int .i64 wd, .int .i64 us] tabOk rfl rfl rfl rfl rfl (by repeat constructor) rfl rfl ?_
    (refine ql_pure tabOk rfl rfl ?_)
    refine ql_stA [.int .i64 la, .int .i64 q1, .int .i64 (q1 + 100 * z1), .int .i64 q2, .int .i64 (q2 + 10 * z2), .int .i64 (1500 + 100 * z3), .int .i64 (2500 + 100 * z4), .int .i64 wd, .int .i64 us] tabOk rfl rfl rfl rfl rfl (by repeat constructor) rfl rfl ?_
    (refine q_nil ?_; refine q_seq ?_)
    refine q_draw _ [.pt b7 _ _] (Sp.cons (by repeat constructor) (Sp.refl _)) (by kernel_rfl) (by kernel_rfl) ?_
    (refine qf_pure tabOk rfl rfl rfl ?_; refine qf_loadAB tabOk rfl rfl rfl (by repeat first | exact .head _ | refine .tail _ ?_) (by rfl) (by rfl) ?_; refine qf_pure tabOk rfl rfl rfl ?_; refine qf_setA tabOk rfl rfl rfl rfl rfl (by repeat constructor) rfl ?_; refine qf_nil ?_; refine q_ret ?_)
    refine q_fin tabOk rfl (by repeat (first | exact RVs.nil | apply RVs.tmp rfl | apply RVs.cellA rfl rfl (by repeat first | exact .head _ | refine .tail _ ?_) (by rfl) | apply RVs.cell1 rfl rfl (by repeat first | exact .head _ | refine .tail _ ?_))) fun w hs => ?_
    exact ⟨(g, cd, l, ⟨la, q1, q1 + 100 * z1, q2, q2 + 10 * z2, 1500 + 100 * z3, 2500 + 100 * z4, wd, us⟩), ⟨by rw [hle]; rfl, ⟨by simp only; omega, by simp only; omega, hB, by simp only; omega, by simp only; omega, by simp only; omega, by simp only; omega, by simp only; omega, by simp only; omega⟩⟩, by
      dsimp only
      rw [hle]
      exact (Sat.dk (K' := K + 100) (R := [.ow (.slice (some ⟨g, 0, none⟩) cn cd) 31 3 cn (lpC l)]) (hs.sp (by repeat (first | exact Sp.nil | exact Sp.refl _ | refine Sp.cons (by repeat constructor) ?_))) (by omega)).sp (by repeat (first | exact Sp.nil | exact Sp.refl _ | refine Sp.cons (by repeat constructor) ?_))⟩
end Go.Proofs.Ytgeajgmefokifaa

/- Walks: a list is sorted; a course is dealt. -/
namespace Go.Proofs.Ytgeajgmefokifaa
open Go Go.Eng

theorem getD_set (L : List Int) (i p : Nat) (v : Int) (hi : i < L.length) : (L.set i v).getD p 0 = if p = i then v else L.getD p 0 := by
  simp only [List.getD_eq_getElem?_getD, List.getElem?_set]
  by_cases h : i = p
  · rw [if_pos h, if_pos h.symm, if_pos hi]
    rfl
  · rw [if_neg h, if_neg (fun hh => h hh.symm)]
structure InsI (l L : List Int) (i : Nat) : Prop where
  perm : L.Perm l
  srt : ∀ p q, p < q → q < i → L.getD p 0 ≤ L.getD q 0
structure InsJ (l L : List Int) (i j : Nat) : Prop where
  perm : L.Perm l
  ji : j ≤ i
  srt : ∀ p q, p < q → q ≤ i → p ≠ j → q ≠ j → L.getD p 0 ≤ L.getD q 0
  low : ∀ q, j < q → q ≤ i → L.getD j 0 ≤ L.getD q 0
theorem InsI.open {l L : List Int} {i : Nat} (h : InsI l L i) : InsJ l L i i := ⟨h.perm, Nat.le_refl _, fun p q h1 h2 _ h3 => h.srt p q h1 (by omega), fun q h1 h2 => by omega⟩
theorem InsJ.swap {l L : List Int} {i j : Nat} (h : InsJ l L i j) (hj : 0 < j) (hi : i < L.length) (hlt : L.getD j 0 < L.getD (j - 1) 0) {x y : Int} (hx : L.getD (j - 1) 0 = x) (hy : L.getD j 0 = y) : InsJ l ((L.set j x).set (j - 1) y) i (j - 1) := by
  have hji := h.ji
  have e : ∀ p, ((L.set j x).set (j - 1) y).getD p 0 = if p = j - 1 then y else if p = j then x else L.getD p 0 := fun p => by
    rw [getD_set _ _ _ _ (by simp; omega), getD_set _ _ _ _ (by omega)]
  refine ⟨List.Perm.trans ?_ h.perm, by omega, fun p q h1 h2 h3 h4 => ?_, fun q h1 h2 => ?_⟩
  · have h1 : j < L.length := by omega
    have h2 : j - 1 < L.length := by omega
    have ex : x = L[j - 1] := by rw [← hx, getD_at h2]
    have ey : y = L[j] := by rw [← hy, getD_at h1]
    subst ex ey
    exact List.set_set_perm h1 h2
  · rw [e, e, if_neg h3, if_neg h4]
    by_cases hp : p = j
    · rw [if_pos hp, if_neg (by omega), ← hx]
      exact h.srt (j - 1) q (by omega) h2 (by omega) (by omega)
    · rw [if_neg hp]
      by_cases hq : q = j
      · rw [if_pos hq, ← hx]
        exact h.srt p (j - 1) (by omega) (by omega) hp (by omega)
      · rw [if_neg hq]
        exact h.srt p q h1 h2 hp hq
  · rw [e, e, if_pos rfl, if_neg (by omega), ← hy]
    by_cases hq : q = j
    · rw [if_pos hq]
      omega
    · rw [if_neg hq]
      exact h.low q (by omega) h2
theorem InsI.all {l L : List Int} (h : InsI l L L.length) : srtB L = true := by
  rw [ordB_srt]
  refine List.all_eq_true.2 fun i hi => ?_
  have hi := List.mem_range.1 hi
  have := h.srt i (i + 1) (by omega) (by omega)
  simpa using this
end Go.Proofs.Ytgeajgmefokifaa

/- The engine, part B28: a byte of a string. -/
namespace Go.Eng
open Go Go.RowKit

section
variable {P : Program} {T : Tab}
variable {ro : Cx} {n : Nat} {F : Fin} {w0 : World} {M : Nat → Prop} {k : List It} {ops : Array Oper} {rest : List Oper} {e : Env} {H Hq : List Ck}
end
end Go.Eng

/- Walks: short lists are sorted; a course is dealt. -/
namespace Go.Proofs.Ytgeajgmefokifaa
open Go Go.Eng

end Go.Proofs.Ytgeajgmefokifaa

/- Walk: numbers are shuffled. -/
namespace Go.Proofs.Ytgeajgmefokifaa
open Go Go.Eng

theorem swap_perm {l : List Nat} {i j : Nat} (hi : i < l.length) (hj : j < l.length) : ((l.set i l[j]).set j l[i]).Perm l := List.set_set_perm hi hj
abbrev upN (l : List Nat) : List Int := l.map fun (s : Nat) => (s : Int)
set_option maxHeartbeats 4000000 in
theorem shuf_ca (m : Nat) (hm1 : 1 ≤ m) (hm2 : m ≤ 1000) (K : Nat) (hK : K < 1000000) (w : World) (b lo hi : Nat) (bs : Value) (hby : DkB w lo hi bs) (hlh : hi ≤ b) (hd : DkS w b bs K) :
    Ca Try.prog 47 [.pointer (some ⟨b, 0, none⟩), .int .i64 m] w fun v w' => ∃ x : Nat × Nat × List Nat × List Value, (v = .slice (some ⟨x.1, 0, none⟩) m x.2.1 ∧ x.2.2.1.Perm (List.range m)) ∧ Sat w (fun x => x = b) [.pt x.1 (ints (upN x.2.2.1) ++ x.2.2.2) 3, dkP bs b (K + (m - 1))] w' := by
  refine q_of (dk_sat hd) Try.func47 rfl (by simp [Try.ntmps47]) ?_
  (refine q_seq ?_; refine q_region ?_; refine ql_pure tabOk rfl rfl ?_; refine q_nil ?_; refine q_seq ?_; refine q_region ?_; refine ql_pure tabOk rfl rfl ?_; refine q_nil ?_; (iterate 2 refine q_seq ?_); refine q_region ?_; (iterate 3 refine ql_pure tabOk rfl rfl ?_); refine q_nil ?_; refine q_block ?_)
  refine q_conv (H' := [.ow (.slice none 0 0) 3 1 0 (ints (upN (List.range 0))), dkP bs b K]) (fun w' hs => Sat.ownil (hs.sp (by repeat (first | exact Sp.nil | exact Sp.refl _ | refine Sp.cons (by repeat constructor) ?_))) _ _) ?_
  refine q_loop (σ := Nat × Value) (fun s => s.1 ≤ m) (fun s => m - s.1) (fun s => [(0, .pointer (some ⟨b, 0, none⟩)), (5, s.2), (10, .int .i64 m), (11, .int .i64 s.1)])
    (fun s => [.ow s.2 3 1 s.1 (ints (upN (List.range s.1))), dkP bs b K]) (0, .slice none 0 0) (by simp) ⟨rfl, rfl, lookI rfl (by omega), rfl, trivial⟩ (Sp.refl _) ?_
  rintro ⟨k, v⟩ hk K1 hK1
  simp only at hk
  dsimp only
  (refine q_seq ?_; refine q_region ?_; refine ql_pure tabOk rfl rfl ?_; refine q_nil ?_; refine q_seq ?_)
  refine q_if rfl (fun hc => ?_) (fun hc => ?_)
  · have hk2 : k < m := by omega
    clear hc
    have eup : ints (upN (List.range (k + 1))) = ints (upN (List.range k)) ++ [.int .i64 (k : Int)] := by rw [List.range_succ]; simp [ints]
    (refine q_skip ?_; refine q_seq ?_; refine q_block ?_; refine q_seq ?_; refine q_region ?_; (iterate 2 refine ql_pure tabOk rfl rfl ?_); refine q_nil ?_; refine q_region ?_; (iterate 2 refine ql_pure tabOk rfl rfl ?_))
    refine ql_mkS 3 [.int .i64 (k : Int)] rfl (by kernel_rfl) rfl (fun bn => ?_)
    refine ql_append (q := 1) slI rfl rfl rfl (fun v' => by repeat constructor) (fun w' hs => ⟨_, _, Blk.rd (hs.blk (b := bn) (by repeat first | exact .head _ | refine .tail _ ?_)) rfl 1⟩) (by simp [oneV]) (by omega) (by omega) (fun v' => ?_)
    (refine ql_pure tabOk rfl rfl ?_; refine q_nil ?_; refine q_blk ?_; refine q_region ?_; refine ql_ar tabOk rfl rfl rfl rfl (by omega) (by omega) ?_; refine ql_pure tabOk rfl rfl ?_; refine q_nil ?_)
    exact hK1 (k + 1, v') _ _ (by simp only; omega) (by simp only; omega) ⟨rfl, rfl, rfl, rfl, trivial⟩ (by simp only [eup]; repeat (first | exact Sp.nil | exact Sp.refl _ | refine Sp.cons (by repeat constructor) ?_))
  obtain rfl : k = m := by omega
  clear hc hK1
  refine q_ow (by omega) (fun g cap sp hv => ?_)
  subst hv
  (refine q_exit _ rfl ?_; (iterate 2 refine q_seq ?_); refine q_region ?_; (iterate 2 refine ql_pure tabOk rfl rfl ?_); refine ql_ar tabOk rfl rfl rfl rfl (by omega) (by omega) ?_; refine ql_pure tabOk rfl rfl ?_; refine q_nil ?_; refine q_block ?_)
  refine q_loop (σ := Nat × List Nat) (fun s => s.1 ≤ k - 1 ∧ s.2.Perm (List.range k)) (fun s => s.1) (fun s => [(0, .pointer (some ⟨b, 0, none⟩)), (5, .slice (some ⟨g, 0, none⟩) k cap), (7, .int .i64 s.1)])
    (fun s => [.pt g (ints (upN s.2) ++ sp) 3, dkP bs b (K + (k - 1 - s.1))]) (k - 1, List.range k) ⟨Nat.le_refl _, .refl _⟩ ⟨rfl, rfl, lookI rfl (by omega), trivial⟩ (by rw [show K + (k - 1 - (k - 1)) = K by omega]; repeat (first | exact Sp.nil | exact Sp.refl _ | refine Sp.cons (by repeat constructor) ?_)) ?_
  rintro ⟨i, l⟩ ⟨hi1, hp⟩ K2 hK2
  simp only at hi1 hp
  dsimp only
  have hl : l.length = k := by rw [hp.length_eq, List.length_range]
  ((iterate 2 refine q_seq ?_); refine q_region ?_; (iterate 2 refine ql_pure tabOk rfl rfl ?_); refine q_nil ?_)
  refine q_if rfl (fun hc => ?_) (fun hc => ?_)
  · have hi2 : 0 < i := by omega
    clear hc
    (refine q_skip ?_; refine q_seq ?_; refine q_block ?_; refine q_seq ?_; refine q_region ?_; (iterate 2 refine ql_pure tabOk rfl rfl ?_); refine ql_ar tabOk rfl rfl rfl rfl (by omega) (by omega) ?_)
    refine ql_call (β := Int) (ψ := fun y v => v = .int .i64 y ∧ 0 ≤ y ∧ (y < (i : Int) + 1 ∨ y = 0)) (L' := fun _ => [dkP bs b (K + (k - 1 - i) + 1)]) tabOk [dkP bs b (K + (k - 1 - i))] [.pt g (ints (upN l) ++ sp) 3] (fun x => x = b) rfl rfl rfl rfl (by repeat (first | exact Sp.nil | exact Sp.refl _ | refine Sp.cons (by repeat constructor) ?_)) (fun x hx => ⟨_, .head _, hx⟩) (fun w' hs => drawP_ca ((i : Int) + 1) (K + (k - 1 - i)) (by omega) w' b lo hi bs (hby.keepP hlh hs.chg) hlh (hs.all _ (.head _))) ?_
    rintro y _ ⟨rfl, hy0, hy1⟩
    obtain ⟨j, rfl⟩ := Int.eq_ofNat_of_zero_le hy0
    have h1 : i < l.length := by omega
    have h2 : j < l.length := by omega
    have g1 : i < (upN l).length := by simpa using h1
    have g2 : j < (upN l).length := by simpa using h2
    have e : ((upN l).set i (upN l)[j]).set j (upN l)[i] = upN ((l.set i l[j]).set j l[i]) := by simp [upN, List.map_set]
    rw [show K + (k - 1 - i) + 1 = K + (k - 1 - (i - 1)) by omega]
    (refine ql_pure tabOk rfl rfl ?_; refine q_nil ?_)
    refine q_drawB [true, true, false, false, true, true, true, true, true, true, true, true, false, false, false, false] [dkP bs b (K + (k - 1 - (i - 1)))] [.pt g (ints (upN l) ++ sp) 3] (by repeat (first | exact Sp.nil | exact Sp.refl _ | refine Sp.cons (by repeat constructor) ?_)) (by kernel_rfl) (by kernel_rfl) (by kernel_rfl) ?_
    refine qb_T 2 rfl rfl (Sp.refl _) fun K1 hK1 => ?_
    ((iterate 2 refine qf_pure tabOk rfl rfl rfl ?_); refine qf_nil ?_)
    refine hK1 _ _ (qb_F 2 [.pt g (ints (upN l) ++ sp) 3] rfl rfl (by repeat (first | exact Sp.nil | exact Sp.refl _ | refine Sp.cons (by repeat constructor) ?_)) fun K1 hK1 => ?_)
    ((iterate 2 refine qf_pure tabOk rfl rfl rfl ?_); refine qf_nil ?_)
    refine hK1 _ _ (qb_T 8 rfl rfl (by repeat (first | exact Sp.nil | exact Sp.refl _ | refine Sp.cons (by repeat constructor) ?_)) fun K1 hK1 => ?_)
    ((iterate 2 refine qf_pure tabOk rfl rfl rfl ?_))
    refine qf_index tabOk rfl rfl rfl rfl rfl (by omega) (by omega) ?_
    refine qf_loadQ (l := upN l) tabOk j rfl rfl rfl (by repeat first | exact .head _ | refine .tail _ ?_) (by omega) g2 ?_
    ((iterate 2 refine qf_pure tabOk rfl rfl rfl ?_))
    refine qf_index tabOk rfl rfl rfl rfl rfl (by omega) (by omega) ?_
    refine qf_loadQ (l := upN l) tabOk i rfl rfl rfl (by repeat first | exact .head _ | refine .tail _ ?_) (by omega) g1 ?_
    (refine qf_nil ?_)
    refine hK1 _ _ (qb_F 4 [.pt g (ints (upN l) ++ sp) 3] rfl rfl (by repeat (first | exact Sp.nil | exact Sp.refl _ | refine Sp.cons (by repeat constructor) ?_)) fun K1 hK1 => ?_)
    skip
    refine qf_index tabOk rfl rfl rfl rfl rfl (by omega) (by omega) ?_
    refine qf_storeQ (l := upN l) tabOk i rfl rfl rfl (by repeat constructor) (by omega) g1 ?_
    skip
    refine qf_index tabOk rfl rfl rfl rfl rfl (by omega) (by omega) ?_
    refine qf_storeQ tabOk j rfl rfl rfl (by repeat constructor) (by omega) (by rw [List.length_set]; exact g2) ?_
    (refine qf_nil ?_)
    refine hK1 _ _ (qb_nil ?_)
    (refine q_blk ?_; refine q_region ?_; refine ql_pure tabOk rfl rfl ?_; refine ql_ar tabOk rfl rfl rfl rfl (by omega) (by omega) ?_; refine ql_pure tabOk rfl rfl ?_; refine q_nil ?_)
    rw [e]
    exact hK2 (i - 1, _) _ _ ⟨by simp only; omega, (swap_perm h1 h2).trans hp⟩ (by simp only; omega) ⟨rfl, rfl, lookI rfl (by omega), trivial⟩ (by repeat (first | exact Sp.nil | exact Sp.refl _ | refine Sp.cons (by repeat constructor) ?_))
  · obtain rfl : i = 0 := by omega
    (refine q_exit _ rfl ?_; refine q_seq ?_; refine q_region ?_; (iterate 2 refine ql_pure tabOk rfl rfl ?_); refine q_nil ?_; refine q_ret ?_)
    refine q_fin tabOk rfl (by repeat (first | exact RVs.nil | apply RVs.tmp rfl | apply RVs.cellA rfl rfl (by repeat first | exact .head _ | refine .tail _ ?_) (by rfl) | apply RVs.cell1 rfl rfl (by repeat first | exact .head _ | refine .tail _ ?_))) fun w hs => ?_
    exact ⟨(g, cap, l, sp), ⟨rfl, hp⟩, hs.sp (by repeat (first | exact Sp.nil | exact Sp.refl _ | refine Sp.cons (by repeat constructor) ?_))⟩
end Go.Proofs.Ytgeajgmefokifaa

/- The plain laws of CourseYielded: rules that are made wider. -/
namespace Go.Proofs.Ytgeajgmefokifaa

/-- Which rule is broken. -/
def mkJ (s : List Lp) (r : Rl) (c : List Int) (j : Nat) : Bool := (marksV s r c).getD j false
/-- A rule is made as wide as it can be. -/
def wdn (r : Rl) (x : Int) : Rl := if x = 0 then { r with g0 := 0, g1 := 200000 } else if x = 1 then { r with c0 := 0, c1 := 200000 } else if x = 2 then { r with p0 := 0, p1 := 200000 } else if x = 3 then { r with wide := 1 } else { r with uses := 6 }
/-- .. all but one of the first rules. -/
def wdP (r : Rl) (l : List Int) (skip : Int) : Nat → Rl
  | 0 => r
  | t + 1 => if (t : Int) = skip then wdP r l skip t else wdn (wdP r l skip t) (l.getD t 0)
def Wd (l : List Int) (skip : Int) (t : Nat) (j : Nat) : Prop := ∃ i : Nat, i < t ∧ (i : Int) ≠ skip ∧ l.getD i 0 = (j : Int)
structure WdI (s : List Lp) (r R : Rl) (W : Nat → Prop) : Prop where
  laps : R.laps = r.laps
  g : (W 0 ∧ R.g0 = 0 ∧ R.g1 = 200000) ∨ (¬ W 0 ∧ R.g0 = r.g0 ∧ R.g1 = r.g1)
  c : (W 1 ∧ R.c0 = 0 ∧ R.c1 = 200000) ∨ (¬ W 1 ∧ R.c0 = r.c0 ∧ R.c1 = r.c1)
  p : (W 2 ∧ R.p0 = 0 ∧ R.p1 = 200000) ∨ (¬ W 2 ∧ R.p0 = r.p0 ∧ R.p1 = r.p1)
  w : (W 3 ∧ R.wide = 1) ∨ (¬ W 3 ∧ R.wide = r.wide)
  u : (W 4 ∧ R.uses = 6) ∨ (¬ W 4 ∧ R.uses = r.uses)
/-- There are no more courses than may be listed. -/
theorem count_ok : ((List.range 7).all fun n => (List.range 6).all fun k => decide ((sortL n k 0).length ≤ 300)) = true := by decide +kernel
theorem courses_300 {n k : Nat} (hn : n ≤ 6) (hk : k ≤ 5) : (coursesL n k).length ≤ 300 := by
  have h := List.all_eq_true.1 (List.all_eq_true.1 count_ok n (List.mem_range.2 (by omega))) k (List.mem_range.2 (by omega))
  simpa [coursesL] using h
theorem allC_300 {s : List Lp} {r : Rl} (hn : s.length ≤ 6) (hk : nL r ≤ 5) : (allC s r).length ≤ 300 := Nat.le_trans (List.length_filter_le _ _) (courses_300 hn hk)
end Go.Proofs.Ytgeajgmefokifaa

/- The plain laws of CourseNamed: loops in another order, and all twice as great. -/
namespace Go.Proofs.Ytgeajgmefokifaa

theorem perm_sum {l l' : List Int} (h : l.Perm l') : l.sum = l'.sum := by
  induction h with
  | nil => rfl
  | cons x _ ih => simp [ih]
  | swap x y l => simp only [List.sum_cons]; omega
  | trans _ _ ih1 ih2 => exact ih1.trans ih2
theorem nodup_len {A : List (List Int)} : ∀ {B : List (List Int)}, A.Nodup → (∀ x ∈ A, x ∈ B) → A.length ≤ B.length := by
  induction A with
  | nil => intro B _ _; simp
  | cons a l ih =>
    intro B h hs
    have ha := hs a List.mem_cons_self
    obtain ⟨h1, h2⟩ := List.nodup_cons.1 h
    have := ih (B := B.erase a) h2 (fun x hx => (List.mem_erase_of_ne (by rintro rfl; exact h1 hx)).2 (hs x (List.mem_cons_of_mem _ hx)))
    rw [List.length_erase_of_mem ha] at this
    have h3 : 0 < B.length := List.length_pos_of_mem ha
    simp only [List.length_cons]
    omega
/-- The loops of s' are those of s, by other numbers. -/
structure Sh (s s' : List Lp) (f : Int → Int) : Prop where
  len : s'.length = s.length
  perm : ((List.range s.length).map fun (i : Nat) => f i).Perm ((List.range s.length).map fun (i : Nat) => (i : Int))
  at_ : ∀ i : Int, 0 ≤ i ∧ i < s.length → lpAt s' i = lpAt s (f i)
theorem mem_rng {n : Nat} {x : Int} : x ∈ (List.range n).map (fun (i : Nat) => (i : Int)) ↔ 0 ≤ x ∧ x < n := by
  simp only [List.mem_map, List.mem_range]
  constructor
  · rintro ⟨i, h, rfl⟩; omega
  · rintro ⟨h1, h2⟩; exact ⟨x.toNat, by omega, by omega⟩
theorem Sh.rng {s s' : List Lp} {f : Int → Int} (h : Sh s s' f) {i : Int} (hi : 0 ≤ i ∧ i < s.length) : 0 ≤ f i ∧ f i < s.length := by
  refine mem_rng.1 (h.perm.mem_iff.1 (List.mem_map.2 ⟨i.toNat, List.mem_range.2 (by omega), ?_⟩))
  show f (i.toNat : Int) = f i
  rw [Int.toNat_of_nonneg hi.1]
theorem Sh.inj {s s' : List Lp} {f : Int → Int} (h : Sh s s' f) {i j : Int} (hi : 0 ≤ i ∧ i < s.length) (hj : 0 ≤ j ∧ j < s.length) (he : f i = f j) : i = j := by
  have hnd : ((List.range s.length).map fun (i : Nat) => f i).Nodup := h.perm.nodup_iff.2 (by
    rw [List.nodup_iff_pairwise_ne, List.pairwise_map]
    exact (List.nodup_iff_pairwise_ne.1 List.nodup_range).imp (fun hne he => hne (by omega)))
  rw [List.nodup_iff_pairwise_ne, List.pairwise_map, List.pairwise_iff_getElem] at hnd
  refine Classical.byContradiction fun hne => ?_
  rcases Int.lt_or_gt_of_ne hne with hlt | hgt
  · have := hnd i.toNat j.toNat (by simp; omega) (by simp; omega) (by omega)
    simp only [List.getElem_range] at this
    rw [Int.toNat_of_nonneg hi.1, Int.toNat_of_nonneg hj.1] at this
    exact this he
  · have := hnd j.toNat i.toNat (by simp; omega) (by simp; omega) (by omega)
    simp only [List.getElem_range] at this
    rw [Int.toNat_of_nonneg hi.1, Int.toNat_of_nonneg hj.1] at this
    exact this he.symm
/-- A list in order. -/
def srt (c : List Int) : List Int := c.mergeSort (fun a b => decide (a ≤ b))
theorem srt_perm (c : List Int) : (srt c).Perm c := List.mergeSort_perm c _
theorem srt_ord (c : List Int) : (srt c).Pairwise (fun a b => a ≤ b) := by
  have h := List.pairwise_mergeSort (le := fun a b : Int => decide (a ≤ b)) (fun a b c h1 h2 => by simp at h1 h2 ⊢; omega) (fun a b => by simp; omega) c
  exact h.imp (fun h => by simpa using h)
theorem srtB_pw : ∀ (c : List Int), srtB c = true ↔ c.Pairwise (fun a b => a ≤ b)
  | [] => by simp [srtB]
  | [_] => by simp [srtB]
  | a :: b :: l => by
    rw [srtB, Bool.and_eq_true, srtB_pw (b :: l), List.pairwise_cons (a := a) (l := b :: l)]
    simp only [decide_eq_true_eq]
    constructor
    · rintro ⟨h1, h2⟩
      refine ⟨fun x hx => ?_, h2⟩
      rcases List.mem_cons.1 hx with rfl | hx
      · exact h1
      · have := (List.pairwise_cons.1 h2).1 x hx; omega
    · rintro ⟨h1, h2⟩
      exact ⟨h1 b List.mem_cons_self, h2⟩
theorem srt_unique {c d : List Int} (h1 : c.Pairwise (fun a b => a ≤ b)) (h2 : d.Pairwise (fun a b => a ≤ b)) (h : c.Perm d) : c = d :=
  h.eq_of_pairwise (le := fun a b => a ≤ b) (fun a b _ _ h1 h2 => by omega) h1 h2
/-- A course by the other numbers. -/
def phi (f : Int → Int) (c : List Int) : List Int := srt (c.map f)
section
variable {s s' : List Lp} {f : Int → Int} {L : Nat}
theorem phi_mem (h : Sh s s' f) {c : List Int} (hc : c ∈ coursesL s.length L) : phi f c ∈ coursesL s.length L := by
  obtain ⟨h1, h2, h3⟩ := coursesL_mem.1 hc
  have hp := srt_perm (c.map f)
  refine coursesL_mem.2 ⟨by rw [phi, hp.length_eq, List.length_map, h1], fun x hx => ?_, (srtB_pw _).2 (srt_ord _)⟩
  obtain ⟨i, hi, rfl⟩ := List.mem_map.1 (hp.mem_iff.1 hx)
  exact h.rng (h2 i hi)
theorem perm_of_map (h : Sh s s' f) : ∀ {c d : List Int}, (∀ x ∈ c, 0 ≤ x ∧ x < s.length) → (∀ x ∈ d, 0 ≤ x ∧ x < s.length) → (c.map f).Perm (d.map f) → c.Perm d := fun {c d} hc hd hp => by
  refine List.perm_iff_count.2 fun x => ?_
  have key : ∀ e : List Int, (∀ y ∈ e, 0 ≤ y ∧ y < s.length) → (0 ≤ x ∧ x < s.length) → e.count x = (e.map f).count (f x) := fun e he hx => by
    rw [List.count, List.count, List.countP_map]
    refine List.countP_congr fun y hy => ?_
    simp only [Function.comp, beq_iff_eq]
    exact ⟨fun h => by rw [h], fun hh => h.inj (he y hy) hx hh⟩
  by_cases hx : 0 ≤ x ∧ x < s.length
  · rw [key c hc hx, key d hd hx, List.perm_iff_count.1 hp]
  · rw [List.count_eq_zero.2 (fun hm => hx (hc x hm)), List.count_eq_zero.2 (fun hm => hx (hd x hm))]
theorem phi_inj (h : Sh s s' f) {c d : List Int} (hc : c ∈ coursesL s.length L) (hd : d ∈ coursesL s.length L) (he : phi f c = phi f d) : c = d := by
  obtain ⟨_, h2, h3⟩ := coursesL_mem.1 hc
  obtain ⟨_, g2, g3⟩ := coursesL_mem.1 hd
  refine srt_unique ((srtB_pw c).1 h3) ((srtB_pw d).1 g3) (perm_of_map h h2 g2 ?_)
  exact (srt_perm (c.map f)).symm.trans ((he ▸ srt_perm (d.map f) : (phi f c).Perm (d.map f)))
theorem any_perm {p : Int → Bool} {c d : List Int} (h : c.Perm d) : c.any p = d.any p := by
  rw [Bool.eq_iff_iff, List.any_eq_true, List.any_eq_true]
  exact ⟨fun ⟨x, h1, h2⟩ => ⟨x, h.mem_iff.1 h1, h2⟩, fun ⟨x, h1, h2⟩ => ⟨x, h.mem_iff.2 h1, h2⟩⟩
theorem any_congr {p q : Int → Bool} {c : List Int} (h : ∀ x ∈ c, p x = q x) : c.any p = c.any q := by
  rw [Bool.eq_iff_iff, List.any_eq_true, List.any_eq_true]
  exact ⟨fun ⟨x, h1, h2⟩ => ⟨x, h1, by rwa [← h x h1]⟩, fun ⟨x, h1, h2⟩ => ⟨x, h1, by rwa [h x h1]⟩⟩
theorem marks_phi (h : Sh s s' f) (r : Rl) (hu : 0 ≤ r.uses) {c : List Int} (hc : ∀ x ∈ c, 0 ≤ x ∧ x < s.length) : marksV s r (phi f c) = marksV s' r c := by
  have hp := srt_perm (c.map f)
  have e1 : lenS s (phi f c) = lenS s' c := by
    unfold lenS phi
    rw [perm_sum (hp.map _), List.map_map]
    congr 1
    exact List.map_congr_left fun x hx => by simp only [Function.comp, h.at_ x (hc x hx)]
  have e2 : clbS s (phi f c) = clbS s' c := by
    unfold clbS phi
    rw [perm_sum (hp.map _), List.map_map]
    congr 1
    exact List.map_congr_left fun x hx => by simp only [Function.comp, h.at_ x (hc x hx)]
  have e3 : lapB s r (phi f c) = lapB s' r c := by
    unfold lapB phi
    rw [any_perm hp, List.any_map]
    exact any_congr fun x hx => by simp only [Function.comp, h.at_ x (hc x hx)]
  have e4 : widB s r (phi f c) = widB s' r c := by
    unfold widB phi
    rw [any_perm hp, List.any_map]
    exact any_congr fun x hx => by simp only [Function.comp, h.at_ x (hc x hx)]
  have e5 : oftB r (phi f c) = oftB r c := by
    rw [oftB_eq r _ hu, oftB_eq r _ hu]
    unfold phi
    rw [any_perm hp, List.any_map]
    refine any_congr fun x hx => ?_
    have : cntI (srt (c.map f)) (f x) = cntI c x := by
      unfold cntI
      rw [hp.countP_eq, List.countP_map]
      refine List.countP_congr fun y hy => ?_
      simp only [Function.comp, decide_eq_true_eq]
      exact ⟨fun hh => h.inj (hc y hy) (hc x hx) hh, fun hh => by rw [hh]⟩
    simp only [Function.comp, this]
  unfold marksV
  rw [e1, e2, e3, e4, e5]
theorem area_phi (h : Sh s s' f) {c : List Int} (hc : ∀ x ∈ c, 0 ≤ x ∧ x < s.length) : areaV s (phi f c) = areaV s' c := by
  unfold areaV areaP
  rw [h.len]
  have e : ((List.range s.length).map fun (i : Nat) => if (phi f c).any (fun x => decide (x = (i : Int)) && true) = true then (lpAt s i).len * (lpAt s i).wide else 0) = (((List.range s.length).map fun (i : Nat) => (i : Int)).map fun (i : Int) => if (phi f c).any (fun x => decide (x = i) && true) = true then (lpAt s i).len * (lpAt s i).wide else 0) := by
    rw [List.map_map]
    rfl
  rw [e, ← perm_sum (h.perm.map _), List.map_map]
  congr 1
  refine List.map_congr_left fun i hi => ?_
  have hi := List.mem_range.1 hi
  have hi2 : (0 : Int) ≤ (i : Int) ∧ (i : Int) < s.length := by omega
  simp only [Function.comp, h.at_ (i : Int) hi2]
  have : (phi f c).any (fun x => decide (x = f i) && true) = c.any (fun x => decide (x = (i : Int)) && true) := by
    unfold phi
    rw [any_perm (srt_perm _), List.any_map]
    refine any_congr fun x hx => ?_
    simp only [Function.comp, Bool.and_true]
    rw [Bool.eq_iff_iff]
    simp only [decide_eq_true_eq]
    exact ⟨fun hh => h.inj (hc x hx) hi2 hh, fun hh => by rw [hh]⟩
  rw [this]
end
theorem allC_nodup (s : List Lp) (r : Rl) : (allC s r).Nodup := List.nodup_iff_pairwise_ne.2 ((allC_sorted s r).imp fun h he => by rw [he, cmpB_irr] at h; cases h)
theorem map_nodup {A : List (List Int)} {g : List Int → List Int} (h : A.Nodup) (hg : ∀ x ∈ A, ∀ y ∈ A, g x = g y → x = y) : (A.map g).Nodup := by
  rw [List.nodup_iff_pairwise_ne, List.pairwise_map]
  exact (List.nodup_iff_pairwise_ne.1 h).imp_of_mem (fun ha hb hne he => hne (hg _ ha _ hb he))
/-- One way. -/
theorem sh_le {s s' : List Lp} {f : Int → Int} (h : Sh s s' f) (r : Rl) (hu : 0 ≤ r.uses) : (allC s' r).length ≤ (allC s r).length := by
  have h0 : ∀ c ∈ allC s' r, c ∈ coursesL s.length (nL r) := fun c hc => by have := (List.mem_filter.1 hc).1; rwa [h.len] at this
  have hm : ∀ c ∈ allC s' r, phi f c ∈ allC s r := fun c hc => by
    have h1 := h0 c hc
    refine List.mem_filter.2 ⟨phi_mem h h1, ?_⟩
    have h2 := (List.mem_filter.1 hc).2
    unfold rightB at h2 ⊢
    rwa [marks_phi h r hu (coursesL_mem.1 h1).2.1]
  have := nodup_len (B := allC s r) (map_nodup (allC_nodup s' r) (fun x hx y hy he => phi_inj h (h0 x hx) (h0 y hy) he)) (fun x hx => by
    obtain ⟨c, hc, rfl⟩ := List.mem_map.1 hx
    exact hm c hc)
  simpa using this
theorem sh_yield {s s' : List Lp} {f : Int → Int} (h : Sh s s' f) (r : Rl) (hu : 0 ≤ r.uses) {R R' : List Int} (hbest : ∀ c ∈ coursesL s.length (nL r), fewB (brkL s r c) (brkL s r R) = false) (hR' : R' ∈ coursesL s'.length (nL r)) : fewB (brkL s' r R') (brkL s r R) = false := by
  rw [h.len] at hR'
  have := hbest _ (phi_mem h hR')
  unfold brkL at this ⊢
  rwa [marks_phi h r hu (coursesL_mem.1 hR').2.1] at this
theorem sh_snow {s s' : List Lp} {f : Int → Int} (h : Sh s s' f) (r : Rl) (hu : 0 ≤ r.uses) (depth : Int) {c : List Int} (hc : c ∈ allC s' r) : phi f c ∈ allC s r ∧ snowV s (phi f c) depth = snowV s' c depth := by
  have h1 : c ∈ coursesL s.length (nL r) := by have := (List.mem_filter.1 hc).1; rwa [h.len] at this
  have h2 := (coursesL_mem.1 h1).2.1
  refine ⟨List.mem_filter.2 ⟨phi_mem h h1, ?_⟩, ?_⟩
  · have h2' := (List.mem_filter.1 hc).2
    unfold rightB at h2' ⊢
    rwa [marks_phi h r hu h2]
  · unfold snowV
    rw [area_phi h h2]
theorem cheapV_eq {s : List Lp} {r : Rl} {depth : Int} (h : checkS s r = 0) : cheapV s r depth = if wiB depth 1 200 = false then (([], 0, 3) : List Int × Int × Int) else match cheapO s r depth (coursesL s.length (nL r)) with
    | none => ([], 0, 6)
    | some b => (b, snowV s b depth, 0) := by
  unfold cheapV
  rw [if_neg (by omega)]
  rfl
/-- What is told of loops in another order. -/
theorem named_law {s s' : List Lp} {f g : Int → Int} (h : Sh s s' f) (h' : Sh s' s g) (r : Rl) (hu : 0 ≤ r.uses) : (allC s' r).length = (allC s r).length ∧
    (∀ R R', R ∈ coursesL s.length (nL r) → (∀ c ∈ coursesL s.length (nL r), fewB (brkL s r c) (brkL s r R) = false) → R' ∈ coursesL s'.length (nL r) → (∀ c ∈ coursesL s'.length (nL r), fewB (brkL s' r c) (brkL s' r R') = false) → brkL s r R = brkL s' r R') ∧
    ∀ depth, (cheapV s r depth).2.1 = (cheapV s' r depth).2.1 ∨ checkS s r ≠ 0 ∨ checkS s' r ≠ 0 := by
  refine ⟨Nat.le_antisymm (sh_le h r hu) (sh_le h' r hu), fun R R' h1 h2 h3 h4 => fewB_tri (sh_yield h' r hu h4 h1) (sh_yield h r hu h2 h3), fun depth => ?_⟩
  by_cases c1 : checkS s r ≠ 0
  · exact .inr (.inl c1)
  by_cases c2 : checkS s' r ≠ 0
  · exact .inr (.inr c2)
  left
  rw [cheapV_eq (by omega), cheapV_eq (by omega)]
  split
  · rfl
  rcases cheap_best s r depth with ⟨e1, e2⟩ | ⟨A, a1, a2, a3⟩
  · rcases cheap_best s' r depth with ⟨e1', e2'⟩ | ⟨B, b1, b2, b3⟩
    · rw [e1, e1']
    · have := (sh_snow h r hu depth b2).1
      rw [e2] at this
      cases this
  · rcases cheap_best s' r depth with ⟨e1', e2'⟩ | ⟨B, b1, b2, b3⟩
    · have := (sh_snow h' r hu depth a2).1
      rw [e2'] at this
      cases this
    · rw [a1, b1]
      have x1 := sh_snow h r hu depth b2
      have x2 := sh_snow h' r hu depth a2
      have := a3 _ x1.1
      have := b3 _ x2.1
      show snowV s A depth = snowV s' B depth
      omega
theorem named_err {s s' : List Lp} {f g : Int → Int} (h : Sh s s' f) (h' : Sh s' s g) (r : Rl) (hu : 0 ≤ r.uses) (depth : Int) (c1 : checkS s r = 0) (c2 : checkS s' r = 0) : (cheapV s r depth).2.2 = (cheapV s' r depth).2.2 := by
  rw [cheapV_eq c1, cheapV_eq c2]
  split
  · rfl
  rcases cheap_best s r depth with ⟨e1, e2⟩ | ⟨A, a1, a2, a3⟩
  · rcases cheap_best s' r depth with ⟨e1', e2'⟩ | ⟨B, b1, b2, b3⟩
    · rw [e1, e1']
    · have := (sh_snow h r hu depth b2).1
      rw [e2] at this
      cases this
  · rcases cheap_best s' r depth with ⟨e1', e2'⟩ | ⟨B, b1, b2, b3⟩
    · have := (sh_snow h' r hu depth a2).1
      rw [e2'] at this
      cases this
    · rw [a1, b1]
/-! All twice as great -/
def dblP (l : Lp) : Lp := ⟨2 * l.len, 2 * l.climb, l.wide⟩
def dblR (r : Rl) : Rl := { r with g0 := 2 * r.g0, g1 := 2 * r.g1, c0 := 2 * r.c0, c1 := 2 * r.c1, p0 := 2 * r.p0, p1 := 2 * r.p1 }
theorem lpAt_dbl (s : List Lp) (i : Int) : lpAt (s.map dblP) i = dblP (lpAt s i) := by
  unfold lpAt
  simp only [List.getD_eq_getElem?_getD, List.getElem?_map]
  cases s[i.toNat]? <;> rfl
theorem sum_dbl (g : Int → Int) (c : List Int) : (c.map fun i => 2 * g i).sum = 2 * (c.map g).sum := by
  induction c with
  | nil => rfl
  | cons x l ih => simp only [List.map_cons, List.sum_cons, ih]; omega
theorem wiB_dbl (a lo hi : Int) : wiB (2 * a) (2 * lo) (2 * hi) = wiB a lo hi := by
  rw [Bool.eq_iff_iff, wiB_iff, wiB_iff]
  omega
theorem marks_dbl (s : List Lp) (r : Rl) (c : List Int) : marksV (s.map dblP) (dblR r) c = marksV s r c := by
  have e1 : lenS (s.map dblP) c = 2 * lenS s c := by unfold lenS; rw [← sum_dbl]; simp only [lpAt_dbl, dblP]
  have e2 : clbS (s.map dblP) c = 2 * clbS s c := by unfold clbS; rw [← sum_dbl]; simp only [lpAt_dbl, dblP]
  unfold marksV
  rw [e1, e2]
  simp only [dblR, wiB_dbl, lapB, widB, lpAt_dbl, dblP, oftB]
  rfl
theorem allC_dbl (s : List Lp) (r : Rl) : allC (s.map dblP) (dblR r) = allC s r := by
  unfold allC
  rw [List.length_map]
  refine List.filter_congr fun c _ => ?_
  unfold rightB
  rw [marks_dbl]
/-- From a list of all numbers. -/
theorem sh_of {s : List Lp} {l : List Nat} (hl : l.Perm (List.range s.length)) : ∃ f g, Sh s (l.map fun (i : Nat) => lpAt s (i : Int)) f ∧ Sh (l.map fun (i : Nat) => lpAt s (i : Int)) s g := by
  have hlen : l.length = s.length := by rw [hl.length_eq, List.length_range]
  have hnd : l.Nodup := hl.nodup_iff.2 List.nodup_range
  have hmem : ∀ i, i ∈ l ↔ i < s.length := fun i => by rw [hl.mem_iff, List.mem_range]
  have ef : ((List.range s.length).map fun (i : Nat) => ((l.getD ((i : Int).toNat) 0 : Nat) : Int)) = l.map fun (i : Nat) => (i : Int) := by
    refine List.ext_getElem (by simp [hlen]) fun i h1 h2 => ?_
    simp only [List.length_map, List.length_range] at h1
    simp [List.getD_eq_getElem?_getD, List.getElem?_eq_getElem (show i < l.length by omega)]
  refine ⟨fun i => ((l.getD i.toNat 0 : Nat) : Int), fun i => ((l.idxOf i.toNat : Nat) : Int), ⟨by simp [hlen], ?_, fun i hi => ?_⟩, ⟨by simp [hlen], ?_, fun i hi => ?_⟩⟩
  · rw [ef]
    exact hl.map _
  · have hi2 : i.toNat < l.length := by omega
    unfold lpAt
    simp [List.getD_eq_getElem?_getD, List.getElem?_eq_getElem hi2]
  · simp only [List.length_map, hlen]
    have hp : ((List.range s.length).map fun i => l.idxOf i).Perm (List.range s.length) := by
      have h1 : (l.map fun i => l.idxOf i) = List.range s.length := by
        refine List.ext_getElem (by simp [hlen]) fun i h1 h2 => ?_
        simp only [List.length_map] at h1
        simp [hnd.idxOf_getElem i h1]
      exact (hl.symm.map _).trans (by rw [h1])
    have := hp.map (fun (i : Nat) => (i : Int))
    rw [List.map_map] at this
    exact this
  · simp only [List.length_map, hlen] at hi
    have hm : i.toNat ∈ l := (hmem _).2 (by omega)
    have hlt := List.idxOf_lt_length_of_mem hm
    unfold lpAt
    simp only [List.getD_eq_getElem?_getD, Int.toNat_natCast, List.getElem?_map, List.getElem?_eq_getElem hlt, Option.map_some, Option.getD_some, List.getElem_idxOf hlt]
end Go.Proofs.Ytgeajgmefokifaa

/- The walk of CourseYielded. -/
namespace Go.Proofs.Ytgeajgmefokifaa
open Go Go.Eng

section
variable {K b : Nat} {bs : Value} {w0 w : World} {R : List Ck}
theorem madeS0 {most laps : Nat} (h1 : 1 ≤ most) (h2 : most ≤ 12) (h3 : 1 ≤ laps) (h4 : laps ≤ 6) (hby : DkB w0 0 w0.heap.size bs) (hs : Sat w0 M0 (dkP bs b K :: R) w) (hK : K < 100000) :
    Ca Try.prog 46 [.pointer (some ⟨b, 0, none⟩), .int .i64 most, .int .i64 laps] w fun v w' => ∃ y : Nat × Nat × List Lp × Rl, (v = .tuple #[.slice (some ⟨y.1, 0, none⟩) y.2.2.1.length y.2.1, .agg (rlC y.2.2.2).toArray] ∧ MadeS most laps y.2.2.1 y.2.2.2) ∧ Sat w (fun x => x = b) [.ow (.slice (some ⟨y.1, 0, none⟩) y.2.2.1.length y.2.1) 31 3 y.2.2.1.length (lpC y.2.2.1), dkP bs b (K + 100)] w' :=
  madeS_ca most laps h1 h2 h3 h4 K hK w b 0 w0.heap.size bs (hby.keep hs.chg0) (dk_new hs) (hs.all _ (.head _))
end
end Go.Proofs.Ytgeajgmefokifaa

/- The walk of CourseNamed. -/
namespace Go.Proofs.Ytgeajgmefokifaa
open Go Go.Eng

theorem shuf0 {m K b : Nat} {bs : Value} {w0 w : World} {R : List Ck} (h1 : 1 ≤ m) (h2 : m ≤ 1000) (hby : DkB w0 0 w0.heap.size bs) (hs : Sat w0 M0 (dkP bs b K :: R) w) (hK : K < 100000) :
    Ca Try.prog 47 [.pointer (some ⟨b, 0, none⟩), .int .i64 m] w fun v w' => ∃ x : Nat × Nat × List Nat × List Value, (v = .slice (some ⟨x.1, 0, none⟩) m x.2.1 ∧ x.2.2.1.Perm (List.range m)) ∧ Sat w (fun x => x = b) [.pt x.1 (ints (upN x.2.2.1) ++ x.2.2.2) 3, dkP bs b (K + (m - 1))] w' :=
  shuf_ca m h1 h2 K (by omega) w b 0 w0.heap.size bs (hby.keep hs.chg0) (dk_new hs) (hs.all _ (.head _))
/-- The spans that are twice as great so far. -/
def dblP3 (r : Rl) : Nat → Rl
  | 0 => r
  | 1 => { r with g0 := 2 * r.g0, g1 := 2 * r.g1 }
  | 2 => { r with g0 := 2 * r.g0, g1 := 2 * r.g1, c0 := 2 * r.c0, c1 := 2 * r.c1 }
  | _ => dblR r
theorem map_takeN {α β : Type} (l : List α) (f : α → β) {k : Nat} (h : k < l.length) : (l.take (k + 1)).map f = (l.take k).map f ++ [f l[k]] := by
  rw [List.take_succ_eq_append_getElem h, List.map_append]
  rfl
set_option maxRecDepth 20000 in
set_option maxHeartbeats 16000000 in
theorem courseNamed_ca (w : World) (a : Option Addr) (n c : Nat) (a2 : Option Addr) (n2 c2 : Nat) (wh : Int) (hwh : 0 ≤ wh ∧ wh < 256) (hbyb1 : DkB w 0 w.heap.size (.slice a n c)) (hbyb2 : DkB w 0 w.heap.size (.slice a2 n2 c2)) :
    Ca Try.prog 8 [.slice a n c, .slice a2 n2 c2, .int .u8 wh] w fun r w' => r = .bool true ∧ Chg [] w w' := by
  refine q_of (Sat.nil w M0) Try.func8 rfl (by simp [Try.ntmps8]) ?_
  (refine q_seq ?_; refine q_region ?_; refine ql_pure tabOk rfl rfl ?_; refine q_nil ?_; refine q_seq ?_; refine q_region ?_; refine ql_pure tabOk rfl rfl ?_)
  refine ql_call (β := Nat) tabOk [] _ M0 rfl rfl rfl rfl (Sp.refl _) (fun _ h => h.elim) (fun w' hs => of_ca w' a n c) ?_
  rintro b1 _ rfl
  skip
  refine ql_call (β := Nat × Nat × List Lp × Rl) (ψ := fun y v => v = .tuple #[.slice (some ⟨y.1, 0, none⟩) y.2.2.1.length y.2.1, .agg (rlC y.2.2.2).toArray] ∧ MadeS 6 4 y.2.2.1 y.2.2.2) (L' := fun y => [.ow (.slice (some ⟨y.1, 0, none⟩) y.2.2.1.length y.2.1) 31 3 y.2.2.1.length (lpC y.2.2.1), dkP (.slice a n c) b1 (0 + 100)]) tabOk [dkP (.slice a n c) b1 0] _ (fun x => x = b1) rfl rfl rfl rfl (Sp.cons (by repeat constructor) (Sp.refl _)) (fun x hx => ⟨_, .head _, hx⟩) (fun w' hs => madeS0 (most := 6) (laps := 4) (by omega) (by omega) (by omega) (by omega) hbyb1 hs (by omega)) ?_
  rintro ⟨g, cd, s, r⟩ _ ⟨rfl, hm⟩
  dsimp only [List.cons_append, List.nil_append] at hm ⊢
  have hcr := hm.cr (by omega) (by omega)
  have hn1 := hm.n1
  have hn2 := hm.n2
  have hlp := hm.lp
  (refine ql_pure tabOk rfl rfl ?_; (iterate 2 refine ql_ext tabOk rfl rfl rfl ?_))
  refine ql_alloc zero26 rfl (fun b8 => ?_)
  (refine ql_pure tabOk rfl rfl ?_; refine ql_setA tabOk rfl rfl rfl rfl rfl (by repeat constructor) rfl ?_; refine q_nil ?_; refine q_seq ?_; refine q_region ?_; (iterate 2 refine ql_pure tabOk rfl rfl ?_))
  have hww : IntKind.i64.wrap wh = wh := by
    simp only [IntKind.wrap, IntKind.signed, IntKind.bits]
    simp [Int.bmod]
    omega
  rw [hww]
  (refine ql_remN rfl rfl rfl (by omega) (by omega) ?_; refine ql_ar tabOk rfl rfl rfl rfl (by omega) (by omega) ?_; refine ql_pure tabOk rfl rfl ?_; refine q_nil ?_; refine q_seq ?_; refine q_region ?_; (iterate 2 refine ql_pure tabOk rfl rfl ?_); refine q_nil ?_; (iterate 2 refine q_seq ?_); refine q_region ?_; refine ql_pure tabOk rfl rfl ?_)
  obtain ⟨dp, hdp, hdp2⟩ : ∃ dp : Int, dp = 1 + wh % 200 ∧ 1 ≤ dp ∧ dp ≤ 200 := ⟨_, rfl, by omega, by omega⟩
  rw [← hdp]
  clear hdp hww
  refine ql_call (β := Nat) tabOk [] _ M0 rfl rfl rfl rfl (Sp.refl _) (fun _ h => h.elim) (fun w' hs => of_ca w' a2 n2 c2) ?_
  rintro b2 _ rfl
  ((iterate 2 refine ql_pure tabOk rfl rfl ?_))
  refine ql_call (β := Nat × Nat × List Nat × List Value) (ψ := fun x v => v = .slice (some ⟨x.1, 0, none⟩) s.length x.2.1 ∧ x.2.2.1.Perm (List.range s.length)) (L' := fun x => [.pt x.1 (ints (upN x.2.2.1) ++ x.2.2.2) 3, dkP (.slice a2 n2 c2) b2 (0 + (s.length - 1))]) tabOk [dkP (.slice a2 n2 c2) b2 0] _ (fun x => x = b2) rfl rfl rfl rfl (Sp.cons (by repeat constructor) (Sp.refl _)) (fun x hx => ⟨_, .head _, hx⟩) (fun w' hs => shuf0 (m := s.length) hn1 (by omega) hbyb2 hs (by omega)) ?_
  rintro ⟨sg, sc, l, sp⟩ _ ⟨rfl, hl⟩
  dsimp only [List.cons_append, List.nil_append] at hl ⊢
  have hll : l.length = s.length := by rw [hl.length_eq, List.length_range]
  have hin : ∀ k, (hk : k < l.length) → l[k] < s.length := fun k hk => List.mem_range.1 (hl.mem_iff.1 (List.getElem_mem hk))
  ((iterate 2 refine ql_pure tabOk rfl rfl ?_); refine q_nil ?_; refine q_block ?_)
  refine q_conv (H' := [.ow (.slice none 0 0) 31 3 0 (lpC []), .pt sg (ints (upN l) ++ sp) 3, .ow (.slice (some ⟨g, 0, none⟩) s.length cd) 31 3 s.length (lpC s), .pt b8 (rlC r) 26]) (fun w' hs => (Sat.ownil hs 31 3).sp (by repeat (first | exact Sp.nil | exact Sp.refl _ | refine Sp.cons (by repeat constructor) ?_))) ?_
  refine q_loop (σ := Nat × Value) (fun q => q.1 ≤ s.length) (fun q => s.length - q.1) (fun q => [(7, .slice (some ⟨g, 0, none⟩) s.length cd), (8, .pointer (some ⟨b8, 0, none⟩)), (9, .int .i64 dp), (10, q.2), (11, .slice none 0 0), (48, .slice (some ⟨sg, 0, none⟩) s.length sc), (49, .int .i64 s.length), (50, .int .i64 q.1)])
    (fun q => [.ow q.2 31 3 q.1 (lpC ((l.take q.1).map fun (i : Nat) => lpAt s (i : Int))), .pt sg (ints (upN l) ++ sp) 3, .ow (.slice (some ⟨g, 0, none⟩) s.length cd) 31 3 s.length (lpC s), .pt b8 (rlC r) 26]) (0, .slice none 0 0) (by simp) ⟨rfl, rfl, rfl, rfl, rfl, rfl, rfl, rfl, trivial⟩ (by repeat (first | exact Sp.nil | exact Sp.refl _ | refine Sp.cons (by repeat constructor) ?_)) ?_
  rintro ⟨k, v⟩ hk K hK
  simp only at hk
  dsimp only
  (refine q_seq ?_; refine q_region ?_; refine ql_pure tabOk rfl rfl ?_; refine q_nil ?_; refine q_seq ?_)
  refine q_if rfl (fun hc => ?_) (fun hc => ?_)
  · have hk2 : k < s.length := by first | omega | (simp at hc; omega)
    have hk3 : k < l.length := by omega
    have hk4 : k < (upN l).length := by simpa using hk3
    clear hc
    have hi := hin k hk3
    have eT := map_takeN l (fun (i : Nat) => lpAt s (i : Int)) hk3
    have eu : (upN l)[k] = (l[k] : Int) := by simp [upN]
    have eat : lpAt s (l[k] : Int) = s[l[k]] := lpAt_at (by omega)
    rw [eat] at eT
    (refine q_skip ?_; refine q_seq ?_; refine q_block ?_; refine q_seq ?_; refine q_region ?_)
    refine ql_index tabOk rfl rfl rfl rfl rfl (by omega) (by omega) ?_
    refine ql_loadQ (l := upN l) tabOk k rfl rfl rfl (by repeat first | exact .head _ | refine .tail _ ?_) (by omega) hk4 ?_
    rw [eu]
    generalize l[k] = i at *
    (refine ql_pure tabOk rfl rfl ?_; refine q_nil ?_; refine q_region ?_; (iterate 3 refine ql_pure tabOk rfl rfl ?_))
    refine ql_index tabOk rfl rfl rfl rfl rfl (by omega) (by omega) ?_
    skip
    refine ql_loadA tabOk rfl rfl rfl rfl (fun w hs => RdL.at (sat_rdL (v := .slice (some ⟨g, 0, none⟩) s.length cd) (t := 31) hs (by repeat first | exact .head _ | refine .tail _ ?_) rfl) i hi) ?_
    generalize s[i] = d at *
    obtain ⟨d0, d1, d2⟩ := d
    skip
    refine ql_mkS 31 (lpC [⟨d0, d1, d2⟩]) rfl (by kernel_rfl) rfl (fun bn => ?_)
    refine ql_append (q := 1) slLp rfl rfl rfl (fun v' => by repeat constructor) (fun w' hs => ⟨_, _, Blk.rdLp (hs.blk (b := bn) (by repeat first | exact .head _ | refine .tail _ ?_))⟩) (lpC_one _) (by omega) (by omega) (fun u => ?_)
    (refine ql_pure tabOk rfl rfl ?_; refine q_nil ?_; refine q_blk ?_; refine q_region ?_; refine ql_ar tabOk rfl rfl rfl rfl (by omega) (by omega) ?_; refine ql_pure tabOk rfl rfl ?_; refine q_nil ?_)
    exact hK (k + 1, u) _ _ (by simp only; omega) (by simp only; omega) ⟨rfl, rfl, rfl, rfl, rfl, rfl, rfl, rfl, trivial⟩ (by dsimp only; rw [eT, lpC_snoc]; repeat (first | exact Sp.nil | exact Sp.refl _ | refine Sp.cons (by repeat constructor) ?_))
  obtain rfl : k = s.length := by first | omega | (simp at hc; omega)
  clear hc hK
  rw [List.take_of_length_le (by omega)]
  obtain ⟨f1, f2, sh1, sh2⟩ := sh_of hl
  have hmx : ∀ x ∈ l.map (fun (i : Nat) => lpAt s (i : Int)), x ∈ s := fun x hx => by
    obtain ⟨i, hi, rfl⟩ := List.mem_map.1 hx
    have hi2 : i < s.length := List.mem_range.1 (hl.mem_iff.1 hi)
    rw [lpAt_at (by omega)]
    exact List.getElem_mem _
  have hmlen : (l.map fun (i : Nat) => lpAt s (i : Int)).length = s.length := by simp [hll]
  generalize (l.map fun (i : Nat) => lpAt s (i : Int)) = s2 at *
  have hcr2 : CR s2 r := ⟨⟨by omega, by omega, fun x hx => hcr.s.all x (hmx x hx)⟩, hcr.r⟩
  refine q_fact (fun w hs => hs.slice2 (v := v) (by repeat first | exact .head _ | refine .tail _ ?_)) ?_
  rintro ⟨ma, mc, rfl⟩
  (refine q_exit _ rfl ?_; (iterate 2 refine q_seq ?_); refine q_region ?_; (iterate 3 refine ql_pure tabOk rfl rfl ?_); refine q_nil ?_; refine q_block ?_)
  refine q_conv (H' := [.ow (.slice none 0 0) 31 3 0 (lpC []), .ow (.slice ma s.length mc) 31 3 s.length (lpC s2), .ow (.slice (some ⟨g, 0, none⟩) s.length cd) 31 3 s.length (lpC s), .pt b8 (rlC r) 26]) (fun w' hs => (Sat.ownil hs 31 3).sp (by repeat (first | exact Sp.nil | exact Sp.refl _ | refine Sp.cons (by repeat constructor) ?_))) ?_
  refine q_loop (σ := Nat × Value) (fun q => q.1 ≤ s.length) (fun q => s.length - q.1) (fun q => [(7, .slice (some ⟨g, 0, none⟩) s.length cd), (8, .pointer (some ⟨b8, 0, none⟩)), (9, .int .i64 dp), (10, .slice ma s.length mc), (11, q.2), (62, .slice (some ⟨g, 0, none⟩) s.length cd), (63, .int .i64 s.length), (64, .int .i64 q.1)])
    (fun q => [.ow q.2 31 3 q.1 (lpC ((s.take q.1).map dblP)), .ow (.slice ma s.length mc) 31 3 s.length (lpC s2), .ow (.slice (some ⟨g, 0, none⟩) s.length cd) 31 3 s.length (lpC s), .pt b8 (rlC r) 26]) (0, .slice none 0 0) (by simp) ⟨rfl, rfl, rfl, rfl, rfl, rfl, rfl, rfl, trivial⟩ (by repeat (first | exact Sp.nil | exact Sp.refl _ | refine Sp.cons (by repeat constructor) ?_)) ?_
  rintro ⟨k, v⟩ hk K hK
  simp only at hk
  dsimp only
  (refine q_seq ?_; refine q_region ?_; refine ql_pure tabOk rfl rfl ?_; refine q_nil ?_; refine q_seq ?_)
  refine q_if rfl (fun hc => ?_) (fun hc => ?_)
  · have hk2 : k < s.length := by first | omega | (simp at hc; omega)
    clear hc
    have eT := map_takeN s dblP hk2
    have hR := hcr.s.all _ (List.getElem_mem hk2)
    have hR1 := hR.len
    have hR2 := hR.climb
    (refine q_skip ?_; refine q_seq ?_; refine q_block ?_; refine q_seq ?_; refine q_region ?_)
    refine ql_index tabOk rfl rfl rfl rfl rfl (by omega) (by omega) ?_
    skip
    refine ql_loadA tabOk rfl rfl rfl rfl (fun w hs => RdL.at (sat_rdL (v := .slice (some ⟨g, 0, none⟩) s.length cd) (t := 31) hs (by repeat first | exact .head _ | refine .tail _ ?_) rfl) k hk2) ?_
    skip
    refine ql_alloc zero31 rfl (fun b15 => ?_)
    (refine ql_setA tabOk rfl rfl rfl rfl rfl (by repeat constructor) rfl ?_; refine q_nil ?_; refine q_region ?_; (iterate 2 refine ql_pure tabOk rfl rfl ?_); refine ql_loadB tabOk rfl rfl rfl (by repeat first | exact .head _ | refine .tail _ ?_) (by rfl) ?_; refine ql_ar tabOk rfl rfl rfl rfl (by omega) (by omega) ?_; refine ql_pure tabOk rfl rfl ?_; refine ql_loadB tabOk rfl rfl rfl (by repeat first | exact .head _ | refine .tail _ ?_) (by rfl) ?_; refine ql_ar tabOk rfl rfl rfl rfl (by omega) (by omega) ?_; refine ql_pure tabOk rfl rfl ?_; refine ql_loadB tabOk rfl rfl rfl (by repeat first | exact .head _ | refine .tail _ ?_) (by rfl) ?_)
    clear hR
    generalize s[k] = d at *
    obtain ⟨d0, d1, d2⟩ := d
    dsimp only at hR1 hR2
    skip
    refine ql_mk #[.int .i64 (2 * d0), .int .i64 (2 * d1), .int .i64 d2] rfl (by kernel_rfl) rfl ?_
    refine ql_mkS 31 (lpC [dblP ⟨d0, d1, d2⟩]) rfl (by kernel_rfl) rfl (fun bn => ?_)
    refine ql_append (q := 1) slLp rfl rfl rfl (fun v' => by repeat constructor) (fun w' hs => ⟨_, _, Blk.rdLp (hs.blk (b := bn) (by repeat first | exact .head _ | refine .tail _ ?_))⟩) (lpC_one _) (by omega) (by omega) (fun u => ?_)
    (refine ql_pure tabOk rfl rfl ?_; refine q_nil ?_; refine q_blk ?_; refine q_region ?_; refine ql_ar tabOk rfl rfl rfl rfl (by omega) (by omega) ?_; refine ql_pure tabOk rfl rfl ?_; refine q_nil ?_)
    exact hK (k + 1, u) _ _ (by simp only; omega) (by simp only; omega) ⟨rfl, rfl, rfl, rfl, rfl, rfl, rfl, rfl, trivial⟩ (by dsimp only; rw [eT, lpC_snoc]; repeat (first | exact Sp.nil | exact Sp.refl _ | refine Sp.cons (by repeat constructor) ?_))
  obtain rfl : k = s.length := by first | omega | (simp at hc; omega)
  clear hc hK
  rw [List.take_length]
  have hdl : (s.map dblP).length = s.length := by simp
  have hcr3 : CR (s.map dblP) (dblR r) := by
    have h4 := hm.g; have h5 := hm.c; have h6 := hm.p
    refine ⟨⟨by omega, by omega, fun x hx => ?_⟩, ⟨hcr.r.laps, by simp only [dblR]; omega, by simp only [dblR]; omega, by simp only [dblR]; omega, hcr.r.wide, hcr.r.uses⟩⟩
    obtain ⟨y, hy, rfl⟩ := List.mem_map.1 hx
    have hy := hm.all y hy
    have y1 := hy.len; have y2 := hy.climb; have y3 := hy.wide
    exact ⟨by simp only [dblP]; omega, by simp only [dblP]; omega, by simp only [dblP]; omega⟩
  have e3 := allC_dbl s r
  generalize s.map dblP = s3 at *
  refine q_fact (fun w hs => hs.slice2 (v := v) (by repeat first | exact .head _ | refine .tail _ ?_)) ?_
  rintro ⟨ta, tc, rfl⟩
  (refine q_exit _ rfl ?_; refine q_seq ?_; refine q_region ?_; refine ql_loadAB tabOk rfl rfl rfl (by repeat first | exact .head _ | refine .tail _ ?_) (by rfl) (by rfl) ?_)
  refine ql_alloc zero26 rfl (fun b16 => ?_)
  (refine ql_setA tabOk rfl rfl rfl rfl rfl (by repeat constructor) rfl ?_; refine q_nil ?_; (iterate 2 refine q_seq ?_); refine q_region ?_; (iterate 3 refine ql_pure tabOk rfl rfl ?_))
  refine ql_mkS 83 [.pointer (some ⟨b16, 1, none⟩), .pointer (some ⟨b16, 3, none⟩), .pointer (some ⟨b16, 5, none⟩)] rfl (by kernel_rfl) rfl (fun bp => ?_)
  ((iterate 2 refine ql_pure tabOk rfl rfl ?_); refine q_nil ?_; refine q_block ?_)
  refine q_loop (σ := Nat) (fun i => i ≤ 3) (fun i => 3 - i) (fun i => [(7, .slice (some ⟨g, 0, none⟩) s.length cd), (8, .pointer (some ⟨b8, 0, none⟩)), (9, .int .i64 dp), (10, .slice ma s.length mc), (11, .slice ta s.length tc), (16, .pointer (some ⟨b16, 0, none⟩)), (85, .slice (some ⟨bp, 0, none⟩) 3 3), (86, .int .i64 3), (87, .int .i64 i)])
    (fun i => [.pt bp [.pointer (some ⟨b16, 1, none⟩), .pointer (some ⟨b16, 3, none⟩), .pointer (some ⟨b16, 5, none⟩)] 83, .pt b16 (rlC (dblP3 r i)) 26, .ow (.slice ta s.length tc) 31 3 s.length (lpC s3), .ow (.slice ma s.length mc) 31 3 s.length (lpC s2), .ow (.slice (some ⟨g, 0, none⟩) s.length cd) 31 3 s.length (lpC s), .pt b8 (rlC r) 26]) 0 (by omega) ⟨rfl, rfl, rfl, rfl, rfl, rfl, rfl, rfl, rfl, trivial⟩ (by repeat (first | exact Sp.nil | exact Sp.refl _ | refine Sp.cons (by repeat constructor) ?_)) ?_
  rintro i hi K hK
  have h4 := hm.g
  have h5 := hm.c
  have h6 := hm.p
  obtain rfl | rfl | rfl | rfl : i = 0 ∨ i = 1 ∨ i = 2 ∨ i = 3 := by omega
  · skip
    rw [show rlC (dblP3 r 0) = [.int .i64 (r.laps), .int .i64 (r.g0), .int .i64 (r.g1), .int .i64 (r.c0), .int .i64 (r.c1), .int .i64 (r.p0), .int .i64 (r.p1), .int .i64 (r.wide), .int .i64 (r.uses)] from rfl]
    (refine q_seq ?_; refine q_region ?_; refine ql_lssT tabOk rfl rfl rfl (by omega) ?_; refine q_nil ?_; refine q_seq ?_; refine q_cond_true rfl ?_; refine q_skip ?_; refine q_seq ?_; refine q_block ?_; refine q_seq ?_; refine q_region ?_)
    refine ql_index tabOk rfl rfl rfl rfl rfl (by decide) (by decide) ?_
    (refine ql_loadB tabOk rfl rfl rfl (by repeat first | exact .head _ | refine .tail _ ?_) (by rfl) ?_; refine ql_pure tabOk rfl rfl ?_; refine q_nil ?_)
    refine q_drawB [true, false, true, true, true, true, true, true, true, true, true, false, false, false, false, false, false, false] [.pt bp [.pointer (some ⟨b16, 1, none⟩), .pointer (some ⟨b16, 3, none⟩), .pointer (some ⟨b16, 5, none⟩)] 83, .ow (.slice ta s.length tc) 31 3 s.length (lpC s3), .ow (.slice ma s.length mc) 31 3 s.length (lpC s2), .ow (.slice (some ⟨g, 0, none⟩) s.length cd) 31 3 s.length (lpC s), .pt b8 (rlC r) 26] [.pt b16 _ 26] (by repeat (first | exact Sp.nil | exact Sp.refl _ | refine Sp.cons (by repeat constructor) ?_)) (by kernel_rfl) (by kernel_rfl) (by kernel_rfl) ?_
    refine qb_T 1 rfl rfl (Sp.refl _) fun K1 hK1 => ?_
    (refine qf_pure tabOk rfl rfl rfl ?_; refine qf_nil ?_)
    refine hK1 _ _ (qb_F 1 [.pt b16 _ 26] rfl rfl (by repeat (first | exact Sp.nil | exact Sp.refl _ | refine Sp.cons (by repeat constructor) ?_)) fun K1 hK1 => ?_)
    (refine qf_pure tabOk rfl rfl rfl ?_; refine qf_nil ?_)
    refine hK1 _ _ (qb_T 9 rfl rfl (by repeat (first | exact Sp.nil | exact Sp.refl _ | refine Sp.cons (by repeat constructor) ?_)) fun K1 hK1 => ?_)
    ((iterate 3 refine qf_pure tabOk rfl rfl rfl ?_); refine qf_loadB tabOk rfl rfl rfl (by repeat first | exact .head _ | refine .tail _ ?_) (by rfl) ?_; refine qf_ar tabOk rfl rfl rfl rfl (by omega) (by omega) ?_; (iterate 3 refine qf_pure tabOk rfl rfl rfl ?_); refine qf_loadB tabOk rfl rfl rfl (by repeat first | exact .head _ | refine .tail _ ?_) (by rfl) ?_; refine qf_nil ?_)
    refine hK1 _ _ (qb_F 7 [.pt b16 _ 26] rfl rfl (by repeat (first | exact Sp.nil | exact Sp.refl _ | refine Sp.cons (by repeat constructor) ?_)) fun K1 hK1 => ?_)
    (refine qf_ar tabOk rfl rfl rfl rfl (by omega) (by omega) ?_; (iterate 2 refine qf_pure tabOk rfl rfl rfl ?_); refine qf_st1 tabOk rfl rfl rfl rfl (by repeat constructor) ?_; (iterate 2 refine qf_pure tabOk rfl rfl rfl ?_); refine qf_st2 tabOk rfl rfl rfl rfl (by repeat constructor) ?_; refine qf_nil ?_)
    refine hK1 _ _ (qb_nil ?_)
    (refine q_blk ?_; refine q_region ?_; refine ql_ar tabOk rfl rfl rfl rfl (by omega) (by omega) ?_; refine ql_pure tabOk rfl rfl ?_; refine q_nil ?_)
    exact hK 1 _ _ (by omega) (by omega) ⟨rfl, rfl, rfl, rfl, rfl, rfl, rfl, rfl, rfl, trivial⟩ (by repeat (first | exact Sp.nil | exact Sp.refl _ | refine Sp.cons (by repeat constructor) ?_))
  · skip
    rw [show rlC (dblP3 r 1) = [.int .i64 (r.laps), .int .i64 (2 * r.g0), .int .i64 (2 * r.g1), .int .i64 (r.c0), .int .i64 (r.c1), .int .i64 (r.p0), .int .i64 (r.p1), .int .i64 (r.wide), .int .i64 (r.uses)] from rfl]
    (refine q_seq ?_; refine q_region ?_; refine ql_lssT tabOk rfl rfl rfl (by omega) ?_; refine q_nil ?_; refine q_seq ?_; refine q_cond_true rfl ?_; refine q_skip ?_; refine q_seq ?_; refine q_block ?_; refine q_seq ?_; refine q_region ?_)
    refine ql_index tabOk rfl rfl rfl rfl rfl (by decide) (by decide) ?_
    (refine ql_loadB tabOk rfl rfl rfl (by repeat first | exact .head _ | refine .tail _ ?_) (by rfl) ?_; refine ql_pure tabOk rfl rfl ?_; refine q_nil ?_)
    refine q_drawB [true, false, true, true, true, true, true, true, true, true, true, false, false, false, false, false, false, false] [.pt bp [.pointer (some ⟨b16, 1, none⟩), .pointer (some ⟨b16, 3, none⟩), .pointer (some ⟨b16, 5, none⟩)] 83, .ow (.slice ta s.length tc) 31 3 s.length (lpC s3), .ow (.slice ma s.length mc) 31 3 s.length (lpC s2), .ow (.slice (some ⟨g, 0, none⟩) s.length cd) 31 3 s.length (lpC s), .pt b8 (rlC r) 26] [.pt b16 _ 26] (by repeat (first | exact Sp.nil | exact Sp.refl _ | refine Sp.cons (by repeat constructor) ?_)) (by kernel_rfl) (by kernel_rfl) (by kernel_rfl) ?_
    refine qb_T 1 rfl rfl (Sp.refl _) fun K1 hK1 => ?_
    (refine qf_pure tabOk rfl rfl rfl ?_; refine qf_nil ?_)
    refine hK1 _ _ (qb_F 1 [.pt b16 _ 26] rfl rfl (by repeat (first | exact Sp.nil | exact Sp.refl _ | refine Sp.cons (by repeat constructor) ?_)) fun K1 hK1 => ?_)
    (refine qf_pure tabOk rfl rfl rfl ?_; refine qf_nil ?_)
    refine hK1 _ _ (qb_T 9 rfl rfl (by repeat (first | exact Sp.nil | exact Sp.refl _ | refine Sp.cons (by repeat constructor) ?_)) fun K1 hK1 => ?_)
    ((iterate 3 refine qf_pure tabOk rfl rfl rfl ?_); refine qf_loadB tabOk rfl rfl rfl (by repeat first | exact .head _ | refine .tail _ ?_) (by rfl) ?_; refine qf_ar tabOk rfl rfl rfl rfl (by omega) (by omega) ?_; (iterate 3 refine qf_pure tabOk rfl rfl rfl ?_); refine qf_loadB tabOk rfl rfl rfl (by repeat first | exact .head _ | refine .tail _ ?_) (by rfl) ?_; refine qf_nil ?_)
    refine hK1 _ _ (qb_F 7 [.pt b16 _ 26] rfl rfl (by repeat (first | exact Sp.nil | exact Sp.refl _ | refine Sp.cons (by repeat constructor) ?_)) fun K1 hK1 => ?_)
    (refine qf_ar tabOk rfl rfl rfl rfl (by omega) (by omega) ?_; (iterate 2 refine qf_pure tabOk rfl rfl rfl ?_); refine qf_st3 tabOk rfl rfl rfl rfl (by repeat constructor) ?_; (iterate 2 refine qf_pure tabOk rfl rfl rfl ?_); refine qf_st4 tabOk rfl rfl rfl rfl (by repeat constructor) ?_; refine qf_nil ?_)
    refine hK1 _ _ (qb_nil ?_)
    (refine q_blk ?_; refine q_region ?_; refine ql_ar tabOk rfl rfl rfl rfl (by omega) (by omega) ?_; refine ql_pure tabOk rfl rfl ?_; refine q_nil ?_)
    exact hK 2 _ _ (by omega) (by omega) ⟨rfl, rfl, rfl, rfl, rfl, rfl, rfl, rfl, rfl, trivial⟩ (by repeat (first | exact Sp.nil | exact Sp.refl _ | refine Sp.cons (by repeat constructor) ?_))
  · skip
    rw [show rlC (dblP3 r 2) = [.int .i64 (r.laps), .int .i64 (2 * r.g0), .int .i64 (2 * r.g1), .int .i64 (2 * r.c0), .int .i64 (2 * r.c1), .int .i64 (r.p0), .int .i64 (r.p1), .int .i64 (r.wide), .int .i64 (r.uses)] from rfl]
    (refine q_seq ?_; refine q_region ?_; refine ql_lssT tabOk rfl rfl rfl (by omega) ?_; refine q_nil ?_; refine q_seq ?_; refine q_cond_true rfl ?_; refine q_skip ?_; refine q_seq ?_; refine q_block ?_; refine q_seq ?_; refine q_region ?_)
    refine ql_index tabOk rfl rfl rfl rfl rfl (by decide) (by decide) ?_
    (refine ql_loadB tabOk rfl rfl rfl (by repeat first | exact .head _ | refine .tail _ ?_) (by rfl) ?_; refine ql_pure tabOk rfl rfl ?_; refine q_nil ?_)
    refine q_drawB [true, false, true, true, true, true, true, true, true, true, true, false, false, false, false, false, false, false] [.pt bp [.pointer (some ⟨b16, 1, none⟩), .pointer (some ⟨b16, 3, none⟩), .pointer (some ⟨b16, 5, none⟩)] 83, .ow (.slice ta s.length tc) 31 3 s.length (lpC s3), .ow (.slice ma s.length mc) 31 3 s.length (lpC s2), .ow (.slice (some ⟨g, 0, none⟩) s.length cd) 31 3 s.length (lpC s), .pt b8 (rlC r) 26] [.pt b16 _ 26] (by repeat (first | exact Sp.nil | exact Sp.refl _ | refine Sp.cons (by repeat constructor) ?_)) (by kernel_rfl) (by kernel_rfl) (by kernel_rfl) ?_
    refine qb_T 1 rfl rfl (Sp.refl _) fun K1 hK1 => ?_
    (refine qf_pure tabOk rfl rfl rfl ?_; refine qf_nil ?_)
    refine hK1 _ _ (qb_F 1 [.pt b16 _ 26] rfl rfl (by repeat (first | exact Sp.nil | exact Sp.refl _ | refine Sp.cons (by repeat constructor) ?_)) fun K1 hK1 => ?_)
    (refine qf_pure tabOk rfl rfl rfl ?_; refine qf_nil ?_)
    refine hK1 _ _ (qb_T 9 rfl rfl (by repeat (first | exact Sp.nil | exact Sp.refl _ | refine Sp.cons (by repeat constructor) ?_)) fun K1 hK1 => ?_)
    ((iterate 3 refine qf_pure tabOk rfl rfl rfl ?_); refine qf_loadB tabOk rfl rfl rfl (by repeat first | exact .head _ | refine .tail _ ?_) (by rfl) ?_; refine qf_ar tabOk rfl rfl rfl rfl (by omega) (by omega) ?_; (iterate 3 refine qf_pure tabOk rfl rfl rfl ?_); refine qf_loadB tabOk rfl rfl rfl (by repeat first | exact .head _ | refine .tail _ ?_) (by rfl) ?_; refine qf_nil ?_)
    refine hK1 _ _ (qb_F 7 [.pt b16 _ 26] rfl rfl (by repeat (first | exact Sp.nil | exact Sp.refl _ | refine Sp.cons (by repeat constructor) ?_)) fun K1 hK1 => ?_)
    (refine qf_ar tabOk rfl rfl rfl rfl (by omega) (by omega) ?_; (iterate 2 refine qf_pure tabOk rfl rfl rfl ?_); refine qf_st5 tabOk rfl rfl rfl rfl (by repeat constructor) ?_; (iterate 2 refine qf_pure tabOk rfl rfl rfl ?_); refine qf_st6 tabOk rfl rfl rfl rfl (by repeat constructor) ?_; refine qf_nil ?_)
    refine hK1 _ _ (qb_nil ?_)
    (refine q_blk ?_; refine q_region ?_; refine ql_ar tabOk rfl rfl rfl rfl (by omega) (by omega) ?_; refine ql_pure tabOk rfl rfl ?_; refine q_nil ?_)
    exact hK 3 _ _ (by omega) (by omega) ⟨rfl, rfl, rfl, rfl, rfl, rfl, rfl, rfl, rfl, trivial⟩ (by repeat (first | exact Sp.nil | exact Sp.refl _ | refine Sp.cons (by repeat constructor) ?_))
  · clear hK
    have e16 : rlC (dblP3 r 3) = rlC (dblR r) := rfl
    rw [e16]
    have hu : 0 ≤ r.uses := by have := hcr.r.uses; omega
    have hlaw := named_law sh1 sh2 r hu
    have herr := named_err sh1 sh2 r hu dp (checkS_iff.2 hcr) (checkS_iff.2 hcr2)
    have hcs := (hlaw.2.2 dp).resolve_right (fun h => h.elim (fun h => h (checkS_iff.2 hcr)) (fun h => h (checkS_iff.2 hcr2)))
    obtain ⟨R, hR, hRm, hbest⟩ := yield_best (s := s) r (by omega)
    obtain ⟨R', hR', hRm', hbest'⟩ := yield_best (s := s2) r (by omega)
    have hbk := hlaw.2.1 R R' hRm hbest hRm' hbest'
    have hnl : nL r ≤ 4 := by unfold nL; omega
    have hA1 : (allC s r).length ≤ 300 := allC_300 (by omega) (by omega)
    have hA2 : (allC s2 r).length ≤ 300 := allC_300 (by omega) (by omega)
    have hrows : ∀ c ∈ allC s r, c.length ≤ 1000000 := fun c hc => by have := allC_len hcr hc; omega
    have hlR := brk_len s r R
    (refine q_seq ?_; refine q_region ?_; refine ql_lssF tabOk rfl rfl rfl (by omega) ?_; refine q_nil ?_; refine q_seq ?_; refine q_cond_false rfl ?_; refine q_exit _ rfl ?_; refine q_seq ?_; refine q_region ?_; refine ql_pure tabOk rfl rfl ?_; refine ql_loadAB tabOk rfl rfl rfl (by repeat first | exact .head _ | refine .tail _ ?_) (by rfl) (by rfl) ?_)
    refine ql_call (β := Value × List (Value × List Int)) tabOk [] _ M0 rfl rfl rfl rfl (Sp.refl _) (fun _ h => h.elim) (fun w' hs => all_ok w' 0 w'.heap.size (some ⟨g, 0, none⟩) cd s r (sat_rdL (t := 31) hs (by repeat first | exact .head _ | refine .tail _ ?_) rfl) hcr hA1) ?_
    rintro ⟨z1, xs⟩ _ ⟨rfl, hx⟩
    dsimp only [lsK, List.cons_append, List.nil_append] at hx ⊢
    (refine ql_pure tabOk rfl rfl ?_; (iterate 2 refine ql_ext tabOk rfl rfl rfl ?_); (iterate 2 refine ql_pure tabOk rfl rfl ?_); refine q_nil ?_; refine q_seq ?_; refine q_region ?_; refine ql_pure tabOk rfl rfl ?_; refine ql_loadAB tabOk rfl rfl rfl (by repeat first | exact .head _ | refine .tail _ ?_) (by rfl) (by rfl) ?_)
    refine ql_call (β := Value × List (Value × List Int)) tabOk [] _ M0 rfl rfl rfl rfl (Sp.refl _) (fun _ h => h.elim) (fun w' hs => by
      have := all_ok w' 0 w'.heap.size ma mc s2 r (by rw [hmlen]; exact sat_rdL (t := 31) (n := s.length) hs (by repeat first | exact .head _ | refine .tail _ ?_) hmlen.symm) hcr2 hA2
      rw [hmlen] at this
      exact this) ?_
    rintro ⟨z2, ys⟩ _ ⟨rfl, hy⟩
    dsimp only [lsK, List.cons_append, List.nil_append] at hy ⊢
    (refine ql_pure tabOk rfl rfl ?_; (iterate 2 refine ql_ext tabOk rfl rfl rfl ?_); (iterate 2 refine ql_pure tabOk rfl rfl ?_); refine q_nil ?_; refine q_seq ?_; refine q_region ?_; refine ql_pure tabOk rfl rfl ?_; refine ql_loadAB tabOk rfl rfl rfl (by repeat first | exact .head _ | refine .tail _ ?_) (by rfl) (by rfl) ?_)
    refine ql_call (β := Value × List (Value × List Int)) tabOk [] _ M0 rfl rfl rfl rfl (Sp.refl _) (fun _ h => h.elim) (fun w' hs => by
      have := all_ok w' 0 w'.heap.size ta tc s3 (dblR r) (by rw [hdl]; exact sat_rdL (t := 31) (n := s.length) hs (by repeat first | exact .head _ | refine .tail _ ?_) hdl.symm) hcr3 (by rw [e3]; exact hA1)
      rw [hdl, e3] at this
      exact this) ?_
    rintro ⟨z3, zs⟩ _ ⟨rfl, hz⟩
    dsimp only [lsK, List.cons_append, List.nil_append] at hz ⊢
    have l1 := congrArg List.length hx
    have l2 := congrArg List.length hy
    rw [List.length_map] at l1 l2
    rw [hlaw.1] at l2
    refine ql_fact (fun w hs => hs.slice2 (v := z1) (by repeat first | exact .head _ | refine .tail _ ?_)) ?_
    rintro ⟨va, vc, rfl⟩
    refine ql_fact (fun w hs => hs.slice2 (v := z2) (by repeat first | exact .head _ | refine .tail _ ?_)) ?_
    rintro ⟨ua, uc, rfl⟩
    (refine ql_pure tabOk rfl rfl ?_; (iterate 2 refine ql_ext tabOk rfl rfl rfl ?_); (iterate 2 refine ql_pure tabOk rfl rfl ?_); refine q_nil ?_; (iterate 2 refine q_seq ?_); refine q_region ?_; refine ql_pure tabOk rfl rfl ?_; refine ql_neqF tabOk rfl rfl rfl (by omega) ?_; refine ql_pure tabOk rfl rfl ?_; refine ql_gyes rfl ?_; refine ql_pure tabOk rfl rfl ?_; refine ql_gyes rfl ?_; refine ql_neqF tabOk rfl rfl rfl (by omega) ?_; (iterate 2 refine ql_pure tabOk rfl rfl ?_); refine ql_gyes rfl ?_; refine ql_pure tabOk rfl rfl ?_; refine ql_gyes rfl ?_; refine ql_neqF tabOk rfl rfl rfl (by omega) ?_; (iterate 2 refine ql_pure tabOk rfl rfl ?_); refine ql_gyes rfl ?_; refine ql_pure tabOk rfl rfl ?_; refine ql_gyes rfl ?_; refine ql_pure tabOk rfl rfl ?_; refine ql_gyes rfl ?_; refine ql_pure tabOk rfl rfl ?_; refine ql_gyes rfl ?_; refine ql_pure tabOk rfl rfl ?_; refine ql_gyes rfl ?_; refine ql_neqF tabOk rfl rfl rfl (by omega) ?_; (iterate 2 refine ql_pure tabOk rfl rfl ?_); refine ql_gyes rfl ?_; refine ql_pure tabOk rfl rfl ?_; refine ql_gyes rfl ?_; refine ql_pure tabOk rfl rfl ?_; refine ql_gyes rfl ?_)
    refine ql_callv (val := .bool true) tabOk rfl rfl rfl rfl (fun w hs => ?_) ?_; exact eqII_ca w 0 w.heap.size 0 w.heap.size _ z3 (allC s r) (hx ▸ ls_rdII hs (xs := xs) (t := 3) (t2 := 27) (n := xs.length) (by repeat first | exact .head _ | refine .tail _ ?_) (by repeat first | exact .head _ | refine .tail _ ?_)) (hz ▸ ls_rdII hs (xs := zs) (t := 3) (t2 := 27) (n := zs.length) (by repeat first | exact .head _ | refine .tail _ ?_) (by repeat first | exact .head _ | refine .tail _ ?_)) (by omega) hrows
    (refine ql_gyes rfl ?_; (iterate 2 refine ql_pure tabOk rfl rfl ?_); refine q_nil ?_; refine q_cond_false rfl ?_; refine q_skip ?_; refine q_seq ?_; refine q_region ?_; refine ql_pure tabOk rfl rfl ?_; refine ql_loadAB tabOk rfl rfl rfl (by repeat first | exact .head _ | refine .tail _ ?_) (by rfl) (by rfl) ?_)
    refine ql_call (β := Value × Value) tabOk [] _ M0 rfl rfl rfl rfl (Sp.refl _) (fun _ h => h.elim) (fun w' hs => yield_ok w' 0 w'.heap.size (some ⟨g, 0, none⟩) cd s r R (sat_rdL (t := 31) hs (by repeat first | exact .head _ | refine .tail _ ?_) rfl) hcr hR) ?_
    rintro ⟨p1, p2⟩ _ rfl
    dsimp only [List.cons_append, List.nil_append]
    (refine ql_pure tabOk rfl rfl ?_; (iterate 3 refine ql_ext tabOk rfl rfl rfl ?_); (iterate 3 refine ql_pure tabOk rfl rfl ?_); refine q_nil ?_; refine q_seq ?_; refine q_region ?_; refine ql_pure tabOk rfl rfl ?_; refine ql_loadAB tabOk rfl rfl rfl (by repeat first | exact .head _ | refine .tail _ ?_) (by rfl) (by rfl) ?_)
    refine ql_call (β := Value × Value) tabOk [] _ M0 rfl rfl rfl rfl (Sp.refl _) (fun _ h => h.elim) (fun w' hs => by
      have := yield_ok w' 0 w'.heap.size ma mc s2 r R' (by rw [hmlen]; exact sat_rdL (t := 31) (n := s.length) hs (by repeat first | exact .head _ | refine .tail _ ?_) hmlen.symm) hcr2 hR'
      rw [hmlen, ← hbk] at this
      exact this) ?_
    rintro ⟨p3, p4⟩ _ rfl
    dsimp only [List.cons_append, List.nil_append]
    (refine ql_pure tabOk rfl rfl ?_; (iterate 3 refine ql_ext tabOk rfl rfl rfl ?_); (iterate 3 refine ql_pure tabOk rfl rfl ?_); refine q_nil ?_; refine q_seq ?_; refine q_region ?_; refine ql_pure tabOk rfl rfl ?_; refine ql_loadAB tabOk rfl rfl rfl (by repeat first | exact .head _ | refine .tail _ ?_) (by rfl) (by rfl) ?_; refine ql_pure tabOk rfl rfl ?_)
    refine ql_call (β := Value) tabOk [] _ M0 rfl rfl rfl rfl (Sp.refl _) (fun _ h => h.elim) (fun w' hs => cheap_u w' 0 w'.heap.size (some ⟨g, 0, none⟩) cd s r (sat_rdL (t := 31) hs (by repeat first | exact .head _ | refine .tail _ ?_) rfl) (by omega) dp) ?_
    rintro p5 _ rfl
    dsimp only [List.cons_append, List.nil_append]
    (refine ql_pure tabOk rfl rfl ?_; (iterate 3 refine ql_ext tabOk rfl rfl rfl ?_); (iterate 3 refine ql_pure tabOk rfl rfl ?_); refine q_nil ?_; refine q_seq ?_; refine q_region ?_; refine ql_pure tabOk rfl rfl ?_; refine ql_loadAB tabOk rfl rfl rfl (by repeat first | exact .head _ | refine .tail _ ?_) (by rfl) (by rfl) ?_; refine ql_pure tabOk rfl rfl ?_)
    refine ql_call (β := Value) tabOk [] _ M0 rfl rfl rfl rfl (Sp.refl _) (fun _ h => h.elim) (fun w' hs => by
      have := cheap_u w' 0 w'.heap.size ma mc s2 r (by rw [hmlen]; exact sat_rdL (t := 31) (n := s.length) hs (by repeat first | exact .head _ | refine .tail _ ?_) hmlen.symm) (by omega) dp
      rw [hmlen] at this
      exact this) ?_
    rintro p6 _ rfl
    dsimp only [List.cons_append, List.nil_append]
    (refine ql_pure tabOk rfl rfl ?_; (iterate 3 refine ql_ext tabOk rfl rfl rfl ?_); (iterate 3 refine ql_pure tabOk rfl rfl ?_); refine q_nil ?_; refine q_seq ?_; refine q_region ?_; refine ql_pure tabOk rfl rfl ?_; refine ql_eqlT tabOk rfl rfl rfl (by omega) ?_; refine ql_pure tabOk rfl rfl ?_; refine ql_gyes rfl ?_; refine ql_pure tabOk rfl rfl ?_; refine ql_gyes rfl ?_; refine ql_eqlT tabOk rfl rfl rfl (by omega) ?_; (iterate 2 refine ql_pure tabOk rfl rfl ?_); refine ql_gyes rfl ?_; refine ql_pure tabOk rfl rfl ?_; refine ql_gyes rfl ?_; refine ql_pure tabOk rfl rfl ?_; refine ql_gyes rfl ?_)
    refine ql_callv (val := .bool true) tabOk rfl rfl rfl rfl (fun w hs => ?_) ?_; exact eqR_ca w 0 w.heap.size 0 w.heap.size p1 p3 (brkL s r R) (hs.rdI (t := 88) (by repeat first | exact .head _ | refine .tail _ ?_) rfl) (hs.rdI (t := 88) (by repeat first | exact .head _ | refine .tail _ ?_) rfl) (by omega)
    ((iterate 2 refine ql_pure tabOk rfl rfl ?_); refine ql_gyes rfl ?_; refine ql_pure tabOk rfl rfl ?_; refine ql_gyes rfl ?_; refine ql_pure tabOk rfl rfl ?_; refine ql_gyes rfl ?_; refine ql_eqlT tabOk rfl rfl rfl (by omega) ?_; (iterate 2 refine ql_pure tabOk rfl rfl ?_); refine ql_gyes rfl ?_; refine ql_pure tabOk rfl rfl ?_; refine ql_gyes rfl ?_; refine ql_pure tabOk rfl rfl ?_; refine ql_gyes rfl ?_; refine ql_eqlT tabOk rfl rfl rfl (by omega) ?_; (iterate 2 refine ql_pure tabOk rfl rfl ?_); refine ql_gyes rfl ?_)
    refine ql_callv (val := .bool true) tabOk rfl rfl rfl rfl (fun w hs => ?_) ?_; exact awake_ca w
    ((iterate 2 refine ql_pure tabOk rfl rfl ?_); refine q_nil ?_; refine q_ret ?_)
    refine q_fin tabOk rfl (by repeat (first | exact RVs.nil | apply RVs.tmp rfl | apply RVs.cellA rfl rfl (by repeat first | exact .head _ | refine .tail _ ?_) (by rfl) | apply RVs.cell1 rfl rfl (by repeat first | exact .head _ | refine .tail _ ?_))) fun w hs => ?_
    exact ⟨rfl, hs.chg0⟩
end Go.Proofs.Ytgeajgmefokifaa
