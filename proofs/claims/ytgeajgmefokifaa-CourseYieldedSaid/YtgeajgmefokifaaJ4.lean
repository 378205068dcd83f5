/- My texts K25, K1, K26, K27, L0, E0, E16, E17, E18, E19, C2, E20, E21, E22, E1, E2, E3, E4, E5, L7, E6, E7, E8, E9, E10, E11, W5, E12, E13, E14, T0, T1, E15, E23, K28, K29, B28, K30, W8, L12, joined: a claim takes at most 60 files. -/
import Derived.Test.YtgeajgmefokifaaJ3
import Derived.ChangeSlices
import Derived.ChangeArms
import Derived.ChangeShapes

/- Walks: awake. -/
namespace Go.Proofs.Ytgeajgmefokifaa
open Go Go.Eng

theorem blk_II {w : World} {c1 c2 c3 c4 : Nat} {t1 t2 t3 t4 : TypeId} {l1 l2 l3 : List Int} (h1 : Blk w c1 (ints l1) t1) (h2 : Blk w c2 (ints l2) t2) (h3 : Blk w c3 (ints l3) t3)
    (h4 : Blk w c4 [.slice (some ⟨c1, 0, none⟩) l1.length l1.length, .slice (some ⟨c2, 0, none⟩) l2.length l2.length, .slice (some ⟨c3, 0, none⟩) l3.length l3.length] t4) : RdII w 0 w.heap.size (.slice (some ⟨c4, 0, none⟩) 3 3) [l1, l2, l3] := by
  refine RdII.of (vs := [.slice (some ⟨c1, 0, none⟩) l1.length l1.length, .slice (some ⟨c2, 0, none⟩) l2.length l2.length, .slice (some ⟨c3, 0, none⟩) l3.length l3.length]) ((Blk.rd h4 (by simp [oneV]) 3).wide (Nat.zero_le _) h4.lt) rfl (fun i hi hi' => ?_) (by simp [oneV])
  obtain rfl | rfl | rfl : i = 0 ∨ i = 1 ∨ i = 2 := by simp at hi; omega
  · exact Blk.rdI h1
  · exact Blk.rdI h2
  · exact Blk.rdI h3

theorem lsK_rd {w0 w : World} {M : Nat → Prop} {H : List Ck} {v : Value} {xs : List (Value × List Int)} (h : Sat w0 M H w) (h1 : Ck.ow v 27 1 xs.length (xs.map (·.1)) ∈ H) (h2 : un (rowsO 3 xs) ∈ H) : RdII w 0 w.heap.size v (xs.map (·.2)) :=
  rowsO_rd (h.mem h2) (h.mem h1)
set_option maxHeartbeats 4000000 in
set_option maxRecDepth 4000 in
theorem awake_ca (w : World) : Ca Try.prog 18 [] w fun v w' => v = .bool true ∧ Chg [] w w' := by
  refine q_of (Sat.nil w M0) Try.func18 rfl (by simp [Try.ntmps18]) ?_
  (refine q_seq ?_; refine q_region ?_; refine ql_pure tabOk rfl rfl ?_; refine q_nil ?_; refine q_seq ?_; refine q_region ?_)
  refine ql_call (β := Nat) tabOk [] _ M0 rfl rfl rfl rfl (Sp.refl _) (fun _ h => h.elim) (fun w' hs => three_ca w') ?_
  rintro bs _ rfl
  (refine ql_pure tabOk rfl rfl ?_; (iterate 2 refine ql_ext tabOk rfl rfl rfl ?_))
  refine ql_alloc zero26 rfl (fun b2 => ?_)
  (refine ql_pure tabOk rfl rfl ?_; refine ql_setA tabOk rfl rfl rfl rfl rfl (by repeat constructor) rfl ?_; refine q_nil ?_; refine q_seq ?_; refine q_region ?_; refine ql_pure tabOk rfl rfl ?_; refine ql_loadAB tabOk rfl rfl rfl (by repeat first | exact .head _ | refine .tail _ ?_) (by rfl) (by rfl) ?_)
  have hS : ∀ w', Blk w' bs (lpC threeS) 31 → RdL w' 0 w'.heap.size (.slice (some ⟨bs, 0, none⟩) threeS.length 3) threeS := fun w' hb => Blk.rdL hb rfl
  refine ql_call (β := Value × List (Value × List Int)) (ψ := fun y x => x = .tuple #[y.1, .int .i64 0] ∧ y.2.map (·.2) = allC threeS threeR) tabOk [] _ M0 rfl rfl rfl rfl (Sp.refl _) (fun _ h => h.elim) (fun w' hs => all_ok w' 0 w'.heap.size (some ⟨bs, 0, none⟩) 3 threeS threeR (hS w' (hs.blk (by repeat first | exact .head _ | refine .tail _ ?_))) aw_cr (by rw [aw_all]; decide)) ?_
  rintro ⟨va, xs⟩ _ ⟨rfl, hxs⟩
  rw [aw_all] at hxs
  dsimp only at hxs
  dsimp only [lsK, List.cons_append, List.nil_append]
  refine ql_fact (fun w hs => hs.slice (v := va) (by repeat first | exact .head _ | refine .tail _ ?_)) ?_
  rintro ⟨va1, va2, va3, rfl⟩
  (refine ql_pure tabOk rfl rfl ?_; (iterate 2 refine ql_ext tabOk rfl rfl rfl ?_); (iterate 2 refine ql_pure tabOk rfl rfl ?_); refine q_nil ?_; refine q_seq ?_; refine q_region ?_; refine ql_pure tabOk rfl rfl ?_; refine ql_loadAB tabOk rfl rfl rfl (by repeat first | exact .head _ | refine .tail _ ?_) (by rfl) (by rfl) ?_)
  refine ql_mkS 3 (ints [1, 1, 1]) rfl (by kernel_rfl) rfl (fun b3 => ?_)
  refine ql_call (β := Value) tabOk [] _ M0 rfl rfl rfl rfl (Sp.refl _) (fun _ h => h.elim) (fun w' hs => brok_ok w' 0 w'.heap.size 0 w'.heap.size (some ⟨bs, 0, none⟩) 3 _ threeS threeR [1, 1, 1] (hS w' (hs.blk (by repeat first | exact .head _ | refine .tail _ ?_))) (by decide) (Blk.rdI (l := [1, 1, 1]) (c := 3) (hs.blk (b := b3) (by repeat first | exact .head _ | refine .tail _ ?_))) (by decide) aw_brk) ?_
  rintro vb _ rfl
  rw [aw_brk2]
  dsimp only [List.cons_append, List.nil_append]
  refine ql_fact (fun w hs => hs.slice (v := vb) (by repeat first | exact .head _ | refine .tail _ ?_)) ?_
  rintro ⟨vb1, vb2, vb3, rfl⟩
  (refine ql_pure tabOk rfl rfl ?_; (iterate 2 refine ql_ext tabOk rfl rfl rfl ?_); (iterate 2 refine ql_pure tabOk rfl rfl ?_); refine q_nil ?_; refine q_seq ?_; refine q_region ?_; refine ql_pure tabOk rfl rfl ?_; refine ql_loadAB tabOk rfl rfl rfl (by repeat first | exact .head _ | refine .tail _ ?_) (by rfl) (by rfl) ?_)
  refine ql_call (β := Value) tabOk [] _ M0 rfl rfl rfl rfl (Sp.refl _) (fun _ h => h.elim) (fun w' hs => cheap_ok w' 0 w'.heap.size (some ⟨bs, 0, none⟩) 3 threeS threeR 40 [0, 1, 1] (hS w' (hs.blk (by repeat first | exact .head _ | refine .tail _ ?_))) aw_cr (by decide) aw_cheap) ?_
  rintro vc _ rfl
  rw [aw_snow]
  dsimp only [List.cons_append, List.nil_append]
  refine ql_fact (fun w hs => hs.slice (v := vc) (by repeat first | exact .head _ | refine .tail _ ?_)) ?_
  rintro ⟨vc1, vc2, vc3, rfl⟩
  (refine ql_pure tabOk rfl rfl ?_; (iterate 3 refine ql_ext tabOk rfl rfl rfl ?_); (iterate 3 refine ql_pure tabOk rfl rfl ?_); refine q_nil ?_; (iterate 2 refine q_seq ?_); refine q_region ?_; refine ql_pure tabOk rfl rfl ?_; refine ql_neqF tabOk rfl rfl rfl (by omega) ?_; refine ql_pure tabOk rfl rfl ?_; refine ql_gyes rfl ?_; refine ql_pure tabOk rfl rfl ?_; refine ql_gyes rfl ?_; refine ql_neqF tabOk rfl rfl rfl (by omega) ?_; (iterate 2 refine ql_pure tabOk rfl rfl ?_); refine ql_gyes rfl ?_; refine ql_pure tabOk rfl rfl ?_; refine ql_gyes rfl ?_; refine ql_neqF tabOk rfl rfl rfl (by omega) ?_; (iterate 2 refine ql_pure tabOk rfl rfl ?_); refine ql_gyes rfl ?_; refine ql_pure tabOk rfl rfl ?_; refine ql_gyes rfl ?_)
  refine ql_mkS 3 (ints [0, 0, 2]) rfl (by kernel_rfl) rfl (fun c1 => ?_)
  refine ql_gyes rfl ?_
  refine ql_mkS 3 (ints [0, 1, 1]) rfl (by kernel_rfl) rfl (fun c2 => ?_)
  refine ql_gyes rfl ?_
  refine ql_mkS 3 (ints [0, 1, 2]) rfl (by kernel_rfl) rfl (fun c3 => ?_)
  refine ql_gyes rfl ?_
  refine ql_mkS 27 [.slice (some ⟨c1, 0, none⟩) 3 3, .slice (some ⟨c2, 0, none⟩) 3 3, .slice (some ⟨c3, 0, none⟩) 3 3] rfl (by kernel_rfl) rfl (fun c4 => ?_)
  (refine ql_gyes rfl ?_)
  refine ql_callv (val := .bool true) tabOk rfl rfl rfl rfl (fun w hs => ?_) ?_; exact eqII_ca w 0 w.heap.size 0 w.heap.size _ _ [[0, 0, 2], [0, 1, 1], [0, 1, 2]] (hxs ▸ lsK_rd (v := .slice va1 va2 va3) (xs := xs) hs (by repeat first | exact .head _ | refine .tail _ ?_) (by repeat first | exact .head _ | refine .tail _ ?_)) (blk_II (l1 := [0, 0, 2]) (l2 := [0, 1, 1]) (l3 := [0, 1, 2]) (hs.blk (b := c1) (by repeat first | exact .head _ | refine .tail _ ?_)) (hs.blk (b := c2) (by repeat first | exact .head _ | refine .tail _ ?_)) (hs.blk (b := c3) (by repeat first | exact .head _ | refine .tail _ ?_)) (hs.blk (b := c4) (by repeat first | exact .head _ | refine .tail _ ?_))) (by decide) (by decide)
  (refine ql_gyes rfl ?_; (iterate 3 refine ql_pure tabOk rfl rfl ?_); refine ql_gyes rfl ?_; refine ql_pure tabOk rfl rfl ?_; refine ql_gyes rfl ?_)
  refine ql_mkS 88 (ints [4]) rfl (by kernel_rfl) rfl (fun c5 => ?_)
  refine ql_gyes rfl ?_
  refine ql_callv (val := .bool true) tabOk rfl rfl rfl rfl (fun w hs => ?_) ?_; exact eqR_ca w 0 w.heap.size 0 w.heap.size _ _ [4] (hs.rdI (v := .slice vb1 vb2 vb3) (l := [4]) (by repeat first | exact .head _ | refine .tail _ ?_) rfl) (Blk.rdI (l := [4]) (c := 1) (hs.blk (b := c5) (by repeat first | exact .head _ | refine .tail _ ?_))) (by decide)
  (refine ql_gyes rfl ?_; (iterate 3 refine ql_pure tabOk rfl rfl ?_); refine ql_gyes rfl ?_; refine ql_pure tabOk rfl rfl ?_; refine ql_gyes rfl ?_)
  refine ql_mkS 3 (ints [0, 1, 1]) rfl (by kernel_rfl) rfl (fun c6 => ?_)
  refine ql_gyes rfl ?_
  refine ql_callv (val := .bool true) tabOk rfl rfl rfl rfl (fun w hs => ?_) ?_; exact eqI_ca w 0 w.heap.size 0 w.heap.size _ _ [0, 1, 1] (hs.rdI (v := .slice vc1 vc2 vc3) (l := [0, 1, 1]) (by repeat first | exact .head _ | refine .tail _ ?_) rfl) (Blk.rdI (l := [0, 1, 1]) (c := 3) (hs.blk (b := c6) (by repeat first | exact .head _ | refine .tail _ ?_))) (by decide)
  (refine ql_gyes rfl ?_; (iterate 3 refine ql_pure tabOk rfl rfl ?_); refine ql_gyes rfl ?_; refine ql_pure tabOk rfl rfl ?_; refine ql_gyes rfl ?_; refine ql_neqF tabOk rfl rfl rfl (by omega) ?_; refine ql_pure tabOk rfl rfl ?_; refine q_nil ?_; refine q_cond_false rfl ?_; refine q_skip ?_; refine q_seq ?_; refine q_region ?_)
  refine ql_callv tabOk rfl rfl rfl rfl (fun w hs => spanM_ca _ _ w) ?_
  (refine ql_pure tabOk rfl rfl ?_; refine ql_st8 tabOk rfl rfl rfl rfl (by repeat constructor) ?_; refine ql_pure tabOk rfl rfl ?_)
  refine ql_stA (rlC threeQ) tabOk rfl rfl rfl rfl rfl (by repeat constructor) rfl rfl ?_
  (refine q_nil ?_; refine q_seq ?_; refine q_region ?_; refine ql_pure tabOk rfl rfl ?_; refine ql_loadAB tabOk rfl rfl rfl (by repeat first | exact .head _ | refine .tail _ ?_) (by rfl) (by rfl) ?_)
  refine ql_call (β := Value × Value) tabOk [] _ M0 rfl rfl rfl rfl (Sp.refl _) (fun _ h => h.elim) (fun w' hs => yield_ok w' 0 w'.heap.size (some ⟨bs, 0, none⟩) 3 threeS threeQ [0, 1, 2] (hS w' (hs.blk (by repeat first | exact .head _ | refine .tail _ ?_))) aw_cr2 aw_yield) ?_
  rintro ⟨vy, vz⟩ _ rfl
  rw [aw_yield2]
  dsimp only [List.cons_append, List.nil_append]
  refine ql_fact (fun w hs => hs.slice (v := vy) (by repeat first | exact .head _ | refine .tail _ ?_)) ?_
  rintro ⟨vy1, vy2, vy3, rfl⟩
  refine ql_fact (fun w hs => hs.slice (v := vz) (by repeat first | exact .head _ | refine .tail _ ?_)) ?_
  rintro ⟨vz1, vz2, vz3, rfl⟩
  (refine ql_pure tabOk rfl rfl ?_; (iterate 3 refine ql_ext tabOk rfl rfl rfl ?_); (iterate 3 refine ql_pure tabOk rfl rfl ?_); refine q_nil ?_; refine q_seq ?_; refine q_region ?_)
  have hD : ∀ n w' b, Blk w' b (dyC (shortW n).days) 73 → RdD w' 0 w'.heap.size (.slice (some ⟨b, 0, none⟩) (shortW n).days.length 3) (shortW n).days := fun n w' b hb => Blk.rdD hb rfl
  refine ql_call (β := Nat) tabOk [] _ M0 rfl rfl rfl rfl (Sp.refl _) (fun _ h => h.elim) (fun w' hs => short_ca w' 500) ?_
  rintro d1 _ rfl
  refine ql_callv (val := .tuple #[.int .i64 2, .int .i64 0]) tabOk rfl rfl rfl rfl (fun w hs => ?_) ?_; exact by have := first_ca w 0 w.heap.size (shortW 500) (some ⟨d1, 0, none⟩) 3 (hD 500 w d1 (hs.blk (by repeat first | exact .head _ | refine .tail _ ?_))) (by decide); rw [aw_first] at this; exact this
  (refine ql_pure tabOk rfl rfl ?_; (iterate 2 refine ql_ext tabOk rfl rfl rfl ?_); (iterate 2 refine ql_pure tabOk rfl rfl ?_); refine q_nil ?_; refine q_seq ?_; refine q_region ?_)
  refine ql_call (β := Nat) tabOk [] _ M0 rfl rfl rfl rfl (Sp.refl _) (fun _ h => h.elim) (fun w' hs => short_ca w' 500) ?_
  rintro d2 _ rfl
  refine ql_mk #[.int .i64 (-1), .int .i64 2] rfl (by kernel_rfl) rfl ?_
  refine ql_callv (val := .tuple #[.int .i64 360, .int .i64 0]) tabOk rfl rfl rfl rfl (fun w hs => ?_) ?_; exact by have := proves_ca w 0 w.heap.size (shortW 500) (some ⟨d2, 0, none⟩) 3 (-1) 2 (hD 500 w d2 (hs.blk (by repeat first | exact .head _ | refine .tail _ ?_))) (by decide); rw [aw_proves] at this; exact this
  (refine ql_pure tabOk rfl rfl ?_; (iterate 2 refine ql_ext tabOk rfl rfl rfl ?_); (iterate 2 refine ql_pure tabOk rfl rfl ?_); refine q_nil ?_; refine q_seq ?_; refine q_region ?_)
  refine ql_call (β := Nat) tabOk [] _ M0 rfl rfl rfl rfl (Sp.refl _) (fun _ h => h.elim) (fun w' hs => short_ca w' 500) ?_
  rintro d3 _ rfl
  refine ql_call (β := Value) tabOk [] _ M0 rfl rfl rfl rfl (Sp.refl _) (fun _ h => h.elim) (fun w' hs => ranges_ok w' 0 w'.heap.size (shortW 500) (some ⟨d3, 0, none⟩) 3 (hD 500 w' d3 (hs.blk (by repeat first | exact .head _ | refine .tail _ ?_))) aw_right) ?_
  rintro vx _ rfl
  rw [aw_ranges]
  dsimp only [List.cons_append, List.nil_append]
  refine ql_fact (fun w hs => hs.slice (v := vx) (by repeat first | exact .head _ | refine .tail _ ?_)) ?_
  rintro ⟨vx1, vx2, vx3, rfl⟩
  (refine ql_pure tabOk rfl rfl ?_; (iterate 2 refine ql_ext tabOk rfl rfl rfl ?_); (iterate 2 refine ql_pure tabOk rfl rfl ?_); refine q_nil ?_; (iterate 2 refine q_seq ?_); refine q_region ?_; refine ql_pure tabOk rfl rfl ?_; refine ql_neqF tabOk rfl rfl rfl (by omega) ?_; refine ql_pure tabOk rfl rfl ?_; refine ql_gyes rfl ?_; refine ql_pure tabOk rfl rfl ?_; refine ql_gyes rfl ?_; refine ql_neqF tabOk rfl rfl rfl (by omega) ?_; (iterate 2 refine ql_pure tabOk rfl rfl ?_); refine ql_gyes rfl ?_; refine ql_pure tabOk rfl rfl ?_; refine ql_gyes rfl ?_; refine ql_neqF tabOk rfl rfl rfl (by omega) ?_; (iterate 2 refine ql_pure tabOk rfl rfl ?_); refine ql_gyes rfl ?_; refine ql_pure tabOk rfl rfl ?_; refine ql_gyes rfl ?_; refine ql_neqF tabOk rfl rfl rfl (by omega) ?_; (iterate 2 refine ql_pure tabOk rfl rfl ?_); refine ql_gyes rfl ?_; refine ql_pure tabOk rfl rfl ?_; refine ql_gyes rfl ?_)
  refine ql_mkS 88 (ints [0]) rfl (by kernel_rfl) rfl (fun c7 => ?_)
  refine ql_gyes rfl ?_
  refine ql_callv (val := .bool true) tabOk rfl rfl rfl rfl (fun w hs => ?_) ?_; exact eqR_ca w 0 w.heap.size 0 w.heap.size _ _ [0] (hs.rdI (v := .slice vy1 vy2 vy3) (l := [0]) (by repeat first | exact .head _ | refine .tail _ ?_) rfl) (Blk.rdI (l := [0]) (c := 1) (hs.blk (b := c7) (by repeat first | exact .head _ | refine .tail _ ?_))) (by decide)
  (refine ql_gyes rfl ?_; (iterate 3 refine ql_pure tabOk rfl rfl ?_); refine ql_gyes rfl ?_; refine ql_pure tabOk rfl rfl ?_; refine ql_gyes rfl ?_)
  refine ql_mkS 3 (ints [0, 1, 2]) rfl (by kernel_rfl) rfl (fun c8 => ?_)
  refine ql_gyes rfl ?_
  refine ql_callv (val := .bool true) tabOk rfl rfl rfl rfl (fun w hs => ?_) ?_; exact eqI_ca w 0 w.heap.size 0 w.heap.size _ _ [0, 1, 2] (hs.rdI (v := .slice vz1 vz2 vz3) (l := [0, 1, 2]) (by repeat first | exact .head _ | refine .tail _ ?_) rfl) (Blk.rdI (l := [0, 1, 2]) (c := 3) (hs.blk (b := c8) (by repeat first | exact .head _ | refine .tail _ ?_))) (by decide)
  (refine ql_gyes rfl ?_; (iterate 3 refine ql_pure tabOk rfl rfl ?_); refine ql_gyes rfl ?_; refine ql_pure tabOk rfl rfl ?_; refine ql_gyes rfl ?_; refine ql_neqF tabOk rfl rfl rfl (by omega) ?_; (iterate 2 refine ql_pure tabOk rfl rfl ?_); refine ql_gyes rfl ?_; refine ql_pure tabOk rfl rfl ?_; refine ql_gyes rfl ?_; refine ql_neqF tabOk rfl rfl rfl (by omega) ?_; (iterate 2 refine ql_pure tabOk rfl rfl ?_); refine ql_gyes rfl ?_; refine ql_pure tabOk rfl rfl ?_; refine ql_gyes rfl ?_)
  refine ql_mk #[.int .i64 280, .int .i64 390] rfl (by kernel_rfl) rfl ?_
  refine ql_gyes rfl ?_
  refine ql_mk #[.int .i64 160, .int .i64 600] rfl (by kernel_rfl) rfl ?_
  refine ql_gyes rfl ?_
  refine ql_mkS 24 (spC [(280, 390), (160, 600)]) rfl (by kernel_rfl) rfl (fun c9 => ?_)
  refine ql_gyes rfl ?_
  refine ql_callv (val := .bool true) tabOk rfl rfl rfl rfl (fun w hs => ?_) ?_; exact eqS_ca w 0 w.heap.size 0 w.heap.size _ _ [(280, 390), (160, 600)] (own_rdS (t := 24) (hs.mem (c := .ow (.slice vx1 vx2 vx3) 24 2 2 (spC [(280, 390), (160, 600)])) (by repeat first | exact .head _ | refine .tail _ ?_)) rfl) (Blk.rdS (l := [(280, 390), (160, 600)]) (c := 2) (hs.blk (b := c9) (by repeat first | exact .head _ | refine .tail _ ?_)) rfl) (by decide)
  (refine ql_gyes rfl ?_; (iterate 2 refine ql_pure tabOk rfl rfl ?_); refine q_nil ?_; refine q_cond_false rfl ?_; refine q_skip ?_; refine q_seq ?_; refine q_region ?_)
  refine ql_call (β := Nat) tabOk [] _ M0 rfl rfl rfl rfl (Sp.refl _) (fun _ h => h.elim) (fun w' hs => short_ca w' 100) ?_
  rintro d4 _ rfl
  refine ql_callv (val := .tuple #[.int .i64 460, .int .i64 0]) tabOk rfl rfl rfl rfl (fun w hs => ?_) ?_; exact by have := least_ca w 0 w.heap.size (shortW 100) (some ⟨d4, 0, none⟩) 3 (hD 100 w d4 (hs.blk (by repeat first | exact .head _ | refine .tail _ ?_))) (by decide); rw [aw_least] at this; exact this
  (refine ql_pure tabOk rfl rfl ?_; (iterate 2 refine ql_ext tabOk rfl rfl rfl ?_); (iterate 2 refine ql_pure tabOk rfl rfl ?_); refine q_nil ?_; refine q_seq ?_; refine q_region ?_)
  refine ql_call (β := Nat) tabOk [] _ M0 rfl rfl rfl rfl (Sp.refl _) (fun _ h => h.elim) (fun w' hs => short_ca w' 100) ?_
  rintro d5 _ rfl
  refine ql_callv (val := .tuple #[.int .i64 540, .int .i64 0]) tabOk rfl rfl rfl rfl (fun w hs => ?_) ?_; exact by have := room_ca w 0 w.heap.size (shortW 100) (some ⟨d5, 0, none⟩) 3 (hD 100 w d5 (hs.blk (by repeat first | exact .head _ | refine .tail _ ?_))) (by decide); rw [aw_room] at this; exact this
  (refine ql_pure tabOk rfl rfl ?_; (iterate 2 refine ql_ext tabOk rfl rfl rfl ?_); (iterate 2 refine ql_pure tabOk rfl rfl ?_); refine q_nil ?_; refine q_seq ?_; refine q_region ?_; refine ql_pure tabOk rfl rfl ?_; refine ql_eqlT tabOk rfl rfl rfl (by omega) ?_; refine ql_pure tabOk rfl rfl ?_; refine ql_gyes rfl ?_; refine ql_pure tabOk rfl rfl ?_; refine ql_gyes rfl ?_; refine ql_eqlT tabOk rfl rfl rfl (by omega) ?_; (iterate 2 refine ql_pure tabOk rfl rfl ?_); refine ql_gyes rfl ?_; refine ql_pure tabOk rfl rfl ?_; refine ql_gyes rfl ?_; refine ql_eqlT tabOk rfl rfl rfl (by omega) ?_; (iterate 2 refine ql_pure tabOk rfl rfl ?_); refine ql_gyes rfl ?_; refine ql_pure tabOk rfl rfl ?_; refine ql_gyes rfl ?_; refine ql_eqlT tabOk rfl rfl rfl (by omega) ?_; (iterate 2 refine ql_pure tabOk rfl rfl ?_); refine q_nil ?_; refine q_ret ?_)
  refine q_fin tabOk rfl (by repeat (first | exact RVs.nil | apply RVs.tmp rfl | apply RVs.cellA rfl rfl (by repeat first | exact .head _ | refine .tail _ ?_) (by rfl) | apply RVs.cell1 rfl rfl (by repeat first | exact .head _ | refine .tail _ ?_))) fun w hs => ?_
  exact ⟨rfl, hs.chg0⟩
end Go.Proofs.Ytgeajgmefokifaa

/- Walks: klisterkit's deck. Only the ranges of what it deals are told. -/
namespace Go.Proofs.Ytgeajgmefokifaa
open Go Go.Eng

section
attribute [local irreducible] IntKind.wrap Int.tmod Int.tdiv

/-- The deck's own variable, after at most K cards. -/
def DkS (w : World) (b : Nat) (bs : Value) (K : Nat) : Prop :=
  ∃ next st, Blk w b [bs, .int .i64 next, .int .u32 st] 165 ∧ 0 ≤ next ∧ next ≤ K ∧ 0 ≤ st ∧ st < 4294967296
/-- Its bytes. -/
def DkB (w : World) (lo hi : Nat) (bs : Value) : Prop := ∃ nb cs, Rd w lo hi bs 1 nb cs ∧ (∀ c ∈ cs, ∃ x, c = .int .u8 x ∧ 0 ≤ x ∧ x < 256)
theorem DkB.keep {w w' : World} {lo hi : Nat} {bs : Value} (h : DkB w lo hi bs) (c : Chg [] w w') : DkB w' lo hi bs := by
  obtain ⟨nb, cs, h1, h2⟩ := h
  exact ⟨nb, cs, h1.keep c, h2⟩

set_option maxHeartbeats 1000000 in
theorem draw_ca (n : Int) (K : Nat) (hK : K < 4611686018427387904) (w : World) (b lo hi : Nat) (bs : Value) (hby : DkB w lo hi bs) (hlh : hi ≤ b) (hd : DkS w b bs K) :
    Ca Try.prog 39 [.pointer (some ⟨b, 0, none⟩), .int .i64 n] w fun v w' => ∃ r, v = .int .i64 r ∧ 0 ≤ r ∧ (r < n ∨ r = 0) ∧ Chg [b] w w' ∧ w'.heap.size = w.heap.size ∧ DkS w' b bs (K + 1) := by
  obtain ⟨nb, cs, hrd, hcs⟩ := hby
  obtain ⟨next, st, hb, hn0, hnK, hs0, hs1⟩ := hd
  have hd : DkS w b bs (K + 1) := ⟨next, st, hb, hn0, by omega, hs0, hs1⟩
  obtain ⟨a, cap, rfl, hsl⟩ := hrd.out
  refine ca_of Try.func39 rfl (by simp [Try.ntmps39]) ?_
  (refine y_seq ?_; refine y_region ?_; refine yl_pure tabOk rfl rfl ?_; (iterate 2 refine y_seq ?_); refine y_region ?_; (iterate 3 refine yl_pure tabOk rfl rfl ?_))
  refine yl_split rfl rfl (fun hc => ?_) (fun hc => ?_)
  · ((iterate 6 refine yl_guard_no rfl rfl rfl ?_); refine yl_pure tabOk rfl rfl ?_; refine y_cond_true rfl ?_; refine y_seq ?_; refine y_region ?_; refine yl_pure tabOk rfl rfl ?_; refine y_ret ?_)
    exact y_fin1 rfl rfl ⟨0, rfl, by omega, .inr rfl, Chg.refl _ _, rfl, hd⟩
  (refine yl_guard_yes rfl ?_; refine yl_pure tabOk rfl rfl ?_; refine yl_guard_yes rfl ?_; refine yl_pure tabOk rfl rfl ?_; refine yl_guard_yes rfl ?_; refine yl_pure tabOk rfl rfl ?_; refine yl_guard_yes rfl ?_; refine yl_loadB tabOk rfl rfl rfl (by assumption) (by rfl) ?_; refine yl_guard_yes rfl ?_; refine yl_pure tabOk rfl rfl ?_; refine yl_guard_yes rfl ?_; (iterate 2 refine yl_pure tabOk rfl rfl ?_); refine yl_nil ?_)
  have hn := of_decide_eq_false hc
  refine y_if rfl (fun hc => ?_) (fun hc => ?_)
  · (refine y_seq ?_; refine y_region ?_; refine yl_pure tabOk rfl rfl ?_; refine y_ret ?_)
    exact y_fin1 rfl rfl ⟨0, rfl, by omega, .inr rfl, Chg.refl _ _, rfl, hd⟩
  have hnb : 0 < nb := by omega
  obtain ⟨bb, off, rfl, hcell⟩ := hsl hnb
  (refine y_skip ?_; refine y_seq ?_)
  refine y_draw [] (by kernel_rfl) (by kernel_rfl) (fun w1 hc1 hs1 => ?_)
  have hb1 := hb.keep hc1
  ((iterate 3 refine yf_pure tabOk rfl rfl rfl ?_); refine yf_loadB tabOk rfl rfl rfl (by assumption) (by first | assumption | simp) (by rfl) ?_; (iterate 3 refine yf_pure tabOk rfl rfl rfl ?_); refine yf_loadB tabOk rfl rfl rfl (by assumption) (by first | assumption | simp) (by rfl) ?_; (iterate 3 refine yf_pure tabOk rfl rfl rfl ?_); refine yf_loadB tabOk rfl rfl rfl (by assumption) (by first | assumption | simp) (by rfl) ?_; refine yf_pure tabOk rfl rfl rfl ?_)
  have hlen : cs.length = nb := by have := hrd.1; omega
  have hm := tmod_pos hn0 (by omega : (0 : Int) < nb)
  refine yf_rem rfl rfl (by omega) rfl ?_
  refine yf_index tabOk rfl rfl rfl rfl rfl hm.1 hm.2 ?_
  obtain ⟨x, hx, hx0, hx1⟩ := hcs (cs[(next.tmod nb).toNat]'(by omega)) (List.getElem_mem _)
  refine yf_load1 tabOk rfl rfl rfl (fun w' hw' => ?_) (v := .int .u8 x) ?_
  · have h1 := ((hrd.keep hc1).keep hw').cell rfl (next.tmod nb).toNat (by omega)
    rw [Nat.mul_one, h1, List.getElem?_eq_getElem (by omega), hx]
  ((iterate 4 refine yf_pure tabOk rfl rfl rfl ?_); refine yf_loadB tabOk rfl rfl rfl (by assumption) (by first | assumption | simp) (by rfl) ?_; (iterate 3 refine yf_pure tabOk rfl rfl rfl ?_); refine yf_loadB tabOk rfl rfl rfl (by assumption) (by first | assumption | simp) (by rfl) ?_; refine yf_pure tabOk rfl rfl rfl ?_)
  refine yf_quo rfl rfl (by omega) rfl ?_
  ((iterate 3 refine yf_pure tabOk rfl rfl rfl ?_); refine y_seq ?_; refine y_region ?_; (iterate 3 refine yl_pure tabOk rfl rfl ?_); refine yl_loadB tabOk rfl rfl rfl (by assumption) (by rfl) ?_; (iterate 3 refine yl_pure tabOk rfl rfl ?_))
  refine yl_store1 tabOk rfl rfl rfl rfl (by assumption) (by simp) (fun w2 hc2 hs2 hb2 => ?_)
  (refine y_seq ?_; refine y_region ?_; (iterate 4 refine yl_pure tabOk rfl rfl ?_); refine yl_loadB tabOk rfl rfl rfl (by assumption) (by rfl) ?_; (iterate 7 refine yl_pure tabOk rfl rfl ?_))
  refine yl_rem rfl rfl (by omega) rfl ?_
  ((iterate 2 refine yl_pure tabOk rfl rfl ?_))
  refine yl_store1 tabOk rfl rfl rfl rfl (by assumption) (by simp) (fun w3 hc3 hs3 hb3 => ?_)
  have hc03 : Chg [b] w w3 := (hc1.nil.trans hc2).trans hc3
  generalize hq : IntKind.u32.wrap (IntKind.i64.wrap (next.tdiv nb)) = q at *
  clear hq
  generalize hz : Int.tmod _ 65519 = z at *
  have hz0 : 0 ≤ z ∧ z < 65519 := by rw [← hz]; exact tmod_pos (wu32_range _).1 (by omega)
  clear hz
  have hd3 : DkS w3 b (.slice (some ⟨bb, off, none⟩) nb cap) (K + 1) := by
    refine ⟨next + 1, z, ?_, by omega, by omega, hz0.1, by omega⟩
    rw [w64 (by omega) (by omega)] at hb3
    exact hb3
  have hfin : ∀ y : Int, ∃ r, Value.int .i64 ((IntKind.i64.wrap (IntKind.u32.wrap y)).tmod n) = .int .i64 r ∧ 0 ≤ r ∧ (r < n ∨ r = 0) ∧ Chg [b] w w3 ∧ w3.heap.size = w.heap.size ∧ DkS w3 b (.slice (some ⟨bb, off, none⟩) nb cap) (K + 1) := by
    intro y
    have h1 := wu32_range y
    have h2 : IntKind.i64.wrap (IntKind.u32.wrap y) = IntKind.u32.wrap y := w64 (by omega) (by omega)
    rw [h2]
    have h3 := tmod_pos h1.1 (by omega : (0 : Int) < n)
    exact ⟨_, rfl, h3.1, .inl h3.2, hc03, by omega, hd3⟩
  ((iterate 2 refine y_seq ?_); refine y_region ?_; (iterate 3 refine yl_pure tabOk rfl rfl ?_))
  refine yl_split rfl rfl (fun hc => ?_) (fun hc => ?_)
  · (refine yl_guard_yes rfl ?_; refine yl_pure tabOk rfl rfl ?_; refine yl_guard_yes rfl ?_; (iterate 2 refine yl_pure tabOk rfl rfl ?_); refine yl_nil ?_)
    refine y_if rfl (fun hc => ?_) (fun hc => ?_)
    · (refine y_seq ?_; refine y_region ?_; (iterate 3 refine yl_pure tabOk rfl rfl ?_))
      refine yl_rem rfl rfl (by omega) rfl ?_
      (refine yl_pure tabOk rfl rfl ?_; refine y_ret ?_)
      exact y_fin1 rfl rfl (hfin _)
    · (refine y_skip ?_; refine y_seq ?_; refine y_region ?_; (iterate 3 refine yl_pure tabOk rfl rfl ?_); refine yl_loadB tabOk rfl rfl rfl (by assumption) (by rfl) ?_; (iterate 5 refine yl_pure tabOk rfl rfl ?_))
      refine yl_rem rfl rfl (by omega) rfl ?_
      (refine yl_pure tabOk rfl rfl ?_; refine y_ret ?_)
      exact y_fin1 rfl rfl (hfin _)
  · ((iterate 2 refine yl_guard_no rfl rfl rfl ?_); refine yl_pure tabOk rfl rfl ?_; refine y_cond_false rfl ?_; refine y_skip ?_; refine y_seq ?_; refine y_region ?_; (iterate 3 refine yl_pure tabOk rfl rfl ?_); refine yl_loadB tabOk rfl rfl rfl (by assumption) (by rfl) ?_; (iterate 5 refine yl_pure tabOk rfl rfl ?_))
    refine yl_rem rfl rfl (by omega) rfl ?_
    (refine yl_pure tabOk rfl rfl ?_; refine y_ret ?_)
    exact y_fin1 rfl rfl (hfin _)


end
/-- A deck, after at most K cards. -/
def dkP (bs : Value) (b K : Nat) : Ck := .gn (fun x => x = b) (fun w => DkS w b bs K) (fun w w' N h hc hN => by
  obtain ⟨next, st, h1, h2⟩ := h
  exact ⟨next, st, (hc.block b h1.lt (hN b rfl)).trans h1, h2⟩)

theorem drawP_ca (n : Int) (K : Nat) (hK : K < 4611686018427387904) (w : World) (b lo hi : Nat) (bs : Value) (hby : DkB w lo hi bs) (hlh : hi ≤ b) (hd : DkS w b bs K) :
    Ca Try.prog 39 [.pointer (some ⟨b, 0, none⟩), .int .i64 n] w fun v w' => ∃ x : Int, (v = .int .i64 x ∧ 0 ≤ x ∧ (x < n ∨ x = 0)) ∧ Sat w (fun x => x = b) [dkP bs b (K + 1)] w' :=
  (draw_ca n K hK w b lo hi bs hby hlh hd).mono fun v w' ⟨r, h1, h2, h3, h4, h5, h6⟩ =>
    ⟨r, ⟨h1, h2, h3⟩, ⟨h4.os, h4.tape, h4.output, h4.size, fun k hk hkb => h4.block k hk (by simpa using hkb)⟩, by simpa [dkP, Ck.p] using h6, .cons (by simp) .nil, fun c hc x hx => by
      obtain rfl : c = dkP bs b (K + 1) := by simpa using hc
      obtain rfl : x = b := hx
      obtain ⟨_, _, h7, _⟩ := h6
      exact ⟨h7.lt, .inl rfl⟩⟩



theorem dk_sat {w : World} {b K : Nat} {bs : Value} (hd : DkS w b bs K) : Sat w (fun x => x = b) [dkP bs b K] w :=
  ⟨ChgP.refl _ _, by simpa [dkP, Ck.p] using hd, .cons (by simp) .nil, fun c hc x hx => by
    obtain rfl : c = dkP bs b K := by simpa using hc
    obtain rfl : x = b := hx
    obtain ⟨_, _, h7, _⟩ := hd
    exact ⟨h7.lt, .inl rfl⟩⟩

theorem between_ca (l h : Int) (hl : -1000000 ≤ l) (hh : h ≤ 1000000) (hlh2 : l ≤ h) (K : Nat) (hK : K < 4611686018427387904) (w : World) (b lo hi : Nat) (bs : Value) (hby : DkB w lo hi bs) (hlh : hi ≤ b) (hd : DkS w b bs K) :
    Ca Try.prog 38 [.pointer (some ⟨b, 0, none⟩), .int .i64 l, .int .i64 h] w fun v w' => ∃ x : Int, (v = .int .i64 x ∧ l ≤ x ∧ x ≤ h) ∧ Sat w (fun x => x = b) [dkP bs b (K + 1)] w' := by
  refine q_of (dk_sat hd) Try.func38 rfl (by simp [Try.ntmps38]) ?_
  (refine q_seq ?_; refine q_region ?_; refine ql_pure tabOk rfl rfl ?_; refine q_nil ?_; refine q_seq ?_; refine q_region ?_; (iterate 4 refine ql_pure tabOk rfl rfl ?_); (iterate 2 refine ql_ar tabOk rfl rfl rfl rfl (by omega) (by omega) ?_))
  refine ql_call (β := Int) (ψ := fun x v => v = .int .i64 x ∧ 0 ≤ x ∧ (x < h - l + 1 ∨ x = 0)) (L' := fun _ => [dkP bs b (K + 1)]) tabOk [dkP bs b K] [] (fun x => x = b) rfl rfl rfl rfl (Sp.refl _) (fun x hx => ⟨_, .head _, hx⟩) (fun w' hs => drawP_ca (h - l + 1) K hK w' b lo hi bs (by
    obtain ⟨nb, cs, h1, h2⟩ := hby
    exact ⟨nb, cs, h1.chg (N := [b]) ⟨hs.chg.os, hs.chg.tape, hs.chg.output, hs.chg.size, fun k hk hkb => hs.chg.block k hk (by simpa using hkb)⟩ (fun k hk => .inr (by simp at hk; omega)), h2⟩) hlh (hs.all _ (.head _))) ?_
  rintro x _ ⟨rfl, hx0, hx1⟩
  (refine ql_ar tabOk rfl rfl rfl rfl (by omega) (by omega) ?_; refine ql_pure tabOk rfl rfl ?_; refine q_nil ?_; refine q_ret ?_)
  refine q_fin tabOk rfl (by repeat (first | exact RVs.nil | apply RVs.tmp rfl | apply RVs.cellA rfl rfl (by repeat first | exact .head _ | refine .tail _ ?_) (by rfl) | apply RVs.cell1 rfl rfl (by repeat first | exact .head _ | refine .tail _ ?_))) fun w hs => ?_
  exact ⟨_, ⟨rfl, by omega, by omega⟩, hs⟩



theorem of_ca (w : World) (a : Option Addr) (n c : Nat) : Ca Try.prog 36 [.slice a n c] w fun v w' => ∃ b : Nat, v = .pointer (some ⟨b, 0, none⟩) ∧ Sat w M0 [dkP (.slice a n c) b 0] w' := by
  refine q_of (Sat.nil w M0) Try.func36 rfl (by simp [Try.ntmps36]) ?_
  (refine q_seq ?_; refine q_region ?_; refine ql_pure tabOk rfl rfl ?_; refine q_nil ?_; refine q_seq ?_; refine q_region ?_; refine ql_pure tabOk rfl rfl ?_)
  refine ql_mk #[.slice a n c, .int .i64 0, .int .u32 17] rfl (by kernel_rfl) rfl ?_
  skip
  refine ql_box rfl rfl (fun b1 => ?_)
  (refine ql_pure tabOk rfl rfl ?_; refine q_nil ?_; refine q_ret ?_)
  refine q_fin tabOk rfl (by repeat (first | exact RVs.nil | apply RVs.tmp rfl | apply RVs.cellA rfl rfl (by repeat first | exact .head _ | refine .tail _ ?_) (by rfl) | apply RVs.cell1 rfl rfl (by repeat first | exact .head _ | refine .tail _ ?_))) fun w hs => ?_
  refine ⟨b1, rfl, ⟨hs.chg, fun d hd => ?_, .cons (by simp) .nil, fun d hd x hx => ?_⟩⟩
  · obtain rfl : d = dkP (.slice a n c) b1 0 := by simpa using hd
    exact ⟨0, 17, hs.all _ (.head _), by omega, by omega, by omega, by omega⟩
  · obtain rfl : d = dkP (.slice a n c) b1 0 := by simpa using hd
    obtain rfl : x = b1 := hx
    exact hs.bd _ (.head _) x rfl



theorem DkB.keepP {w w' : World} {lo hi b : Nat} {bs : Value} (h : DkB w lo hi bs) (hlh : hi ≤ b) (hc : ChgP (fun x => x = b) w w') : DkB w' lo hi bs := by
  obtain ⟨nb, cs, h1, h2⟩ := h
  exact ⟨nb, cs, h1.chg (N := [b]) ⟨hc.os, hc.tape, hc.output, hc.size, fun k hk hkb => hc.block k hk (by simpa using hkb)⟩ (fun k hk => .inr (by simp at hk; omega)), h2⟩
theorem DkS.mono {w : World} {b K K' : Nat} {bs : Value} (h : DkS w b bs K) (hk : K ≤ K') : DkS w b bs K' := by
  obtain ⟨next, st, h1, h2, h3, h4⟩ := h
  exact ⟨next, st, h1, h2, by omega, h4⟩
theorem Sat.dk {w0 w : World} {M : Nat → Prop} {R : List Ck} {b K K' : Nat} {bs : Value} (h : Sat w0 M (dkP bs b K :: R) w) (hk : K ≤ K') : Sat w0 M (dkP bs b K' :: R) w := h.turn (fun _ h => h) (fun h => DkS.mono h hk)



section
variable {K b : Nat} {bs : Value} {w0 w : World} {R : List Ck}
theorem dk_new (hs : Sat w0 M0 (dkP bs b K :: R) w) : w0.heap.size ≤ b := (hs.bd _ (.head _) b rfl).2.resolve_left (fun h => h)
end
end Go.Proofs.Ytgeajgmefokifaa

/- Walks: a winter is made of numbers. -/
namespace Go.Proofs.Ytgeajgmefokifaa
open Go Go.Eng

structure DayB (d : Dy) : Prop where
  n : 0 ≤ d.n0 ∧ d.n0 ≤ 29 ∧ d.n0 ≤ d.n1 ∧ d.n1 ≤ d.n0 + 11
  m : 0 ≤ d.m0 ∧ d.m0 ≤ 39 ∧ d.m0 ≤ d.m1 ∧ d.m1 ≤ d.m0 + 19
  l : 0 ≤ d.l0 ∧ d.l0 ≤ 5 ∧ d.l0 ≤ d.l1 ∧ d.l1 ≤ d.l0 + 3
/-- What MadeWinter makes. -/
structure WinB (days : Nat) (x : Wn) : Prop where
  store : 20 ≤ x.store ∧ x.store ≤ 200
  stock : 0 ≤ x.stock ∧ x.stock ≤ x.store
  d1 : 1 ≤ x.days.length
  d2 : x.days.length ≤ days
  days : ∀ d ∈ x.days, DayB d
theorem WinB.right {days : Nat} {x : Wn} (h : WinB days x) (hd : days ≤ 60) : x.Right := by
  have h1 := h.store
  have h2 := h.d2
  refine ⟨by omega, h.stock, h.d1, by omega, fun d hdm => ?_⟩
  have := h.days d hdm
  have a := this.n
  have b := this.m
  have c := this.l
  exact ⟨by omega, by omega, by omega⟩
/-- The spans made so far. -/
structure DayI (i : Nat) (d : Dy) : Prop where
  n : 1 ≤ i → 0 ≤ d.n0 ∧ d.n0 ≤ 29 ∧ d.n0 ≤ d.n1 ∧ d.n1 ≤ d.n0 + 11
  m : 2 ≤ i → 0 ≤ d.m0 ∧ d.m0 ≤ 39 ∧ d.m0 ≤ d.m1 ∧ d.m1 ≤ d.m0 + 19
  l : 3 ≤ i → 0 ≤ d.l0 ∧ d.l0 ≤ 5 ∧ d.l0 ≤ d.l1 ∧ d.l1 ≤ d.l0 + 3

end Go.Proofs.Ytgeajgmefokifaa

/- Walks: a weather is drawn. -/
namespace Go.Proofs.Ytgeajgmefokifaa
open Go Go.Eng

theorem getD_snoc (l : List Int) (x : Int) (i : Nat) : (l ++ [x]).getD i 0 = if i < l.length then l.getD i 0 else if i = l.length then x else 0 := by
  simp only [List.getD_eq_getElem?_getD, List.getElem?_append]
  by_cases h : i < l.length
  · simp [h]
  · rw [if_neg h, if_neg h]
    by_cases h2 : i = l.length
    · subst h2; simp
    · rw [if_neg h2, List.getElem?_eq_none (by simp; omega)]
      rfl
/-- A weather of the first days. -/
structure WtP (days : List Dy) (k : Nat) (t : Wt) : Prop where
  ln : t.need.length = k
  lm : t.make.length = k
  ll : t.loss.length = k
  n : ∀ i, i < k → ∀ (h : i < days.length), days[i].n0 ≤ t.need.getD i 0 ∧ t.need.getD i 0 ≤ days[i].n1
  m : ∀ i, i < k → ∀ (h : i < days.length), days[i].m0 ≤ t.make.getD i 0 ∧ t.make.getD i 0 ≤ days[i].m1
  l : ∀ i, i < k → ∀ (h : i < days.length), days[i].l0 ≤ t.loss.getD i 0 ∧ t.loss.getD i 0 ≤ days[i].l1
theorem WtP.step {days : List Dy} {k : Nat} {t : Wt} (h : WtP days k t) (hk : k < days.length) {x y z : Int} (hx : days[k].n0 ≤ x ∧ x ≤ days[k].n1) (hy : days[k].m0 ≤ y ∧ y ≤ days[k].m1) (hz : days[k].l0 ≤ z ∧ z ≤ days[k].l1) : WtP days (k + 1) ⟨t.need ++ [x], t.make ++ [y], t.loss ++ [z]⟩ := by
  refine ⟨by simp [h.ln], by simp [h.lm], by simp [h.ll], fun i hi hd => ?_, fun i hi hd => ?_, fun i hi hd => ?_⟩
  · rw [getD_snoc, h.ln]
    split
    · exact h.n i (by assumption) hd
    · obtain rfl : i = k := by omega
      simpa using hx
  · rw [getD_snoc, h.lm]
    split
    · exact h.m i (by assumption) hd
    · obtain rfl : i = k := by omega
      simpa using hy
  · rw [getD_snoc, h.ll]
    split
    · exact h.l i (by assumption) hd
    · obtain rfl : i = k := by omega
      simpa using hz
theorem WtP.in {x : Wn} {t : Wt} (h : WtP x.days x.days.length t) : t.In x := ⟨h.ln, h.lm, h.ll, fun i hi => h.n i hi hi, fun i hi => h.m i hi hi, fun i hi => h.l i hi hi⟩
/-- The deck, and the days. -/
abbrev drL (bs : Value) (b K g c : Nat) (l : List Dy) : List Ck := [dkP bs b K, .ow (.slice (some ⟨g, 0, none⟩) l.length c) 73 6 l.length (dyC l)]

end Go.Proofs.Ytgeajgmefokifaa

/- What the laws of winters share. -/
namespace Go.Proofs.Ytgeajgmefokifaa
open Go Go.Eng

section
variable {K b g c : Nat} {bs : Value} {w0 w : World} {R : List Ck}
end
theorem bool_b : boolB Try.prog 4 = true := by kernel_rfl
end Go.Proofs.Ytgeajgmefokifaa

/- Walks of the reference: the error of a winter. -/
namespace Go.Proofs.Ytgeajgmefokifaa
open Go Go.Eng

section
variable {w : World} {lo hi b off len cap : Nat} {l : List Dy}
theorem RdD.need (h : RdD w lo hi (.slice (some ⟨b, off, none⟩) len cap) l) (i : Nat) (hi : i < l.length) (j : Nat) (hj : j < 2) : w.cell? ⟨b, off + i * 6 + 0 + j, none⟩ = [Value.int .i64 l[i].n0, Value.int .i64 l[i].n1][j]? := by
  have := RdD.at h i hi (0 + j) (by omega)
  rw [← Nat.add_assoc] at this
  rw [this]
  match j, hj with
  | 0, _ => rfl
  | 1, _ => rfl
theorem RdD.make (h : RdD w lo hi (.slice (some ⟨b, off, none⟩) len cap) l) (i : Nat) (hi : i < l.length) (j : Nat) (hj : j < 2) : w.cell? ⟨b, off + i * 6 + 2 + j, none⟩ = [Value.int .i64 l[i].m0, Value.int .i64 l[i].m1][j]? := by
  have := RdD.at h i hi (2 + j) (by omega)
  rw [← Nat.add_assoc] at this
  rw [this]
  match j, hj with
  | 0, _ => rfl
  | 1, _ => rfl
theorem RdD.loss (h : RdD w lo hi (.slice (some ⟨b, off, none⟩) len cap) l) (i : Nat) (hi : i < l.length) (j : Nat) (hj : j < 2) : w.cell? ⟨b, off + i * 6 + 4 + j, none⟩ = [Value.int .i64 l[i].l0, Value.int .i64 l[i].l1][j]? := by
  have := RdD.at h i hi (4 + j) (by omega)
  rw [← Nat.add_assoc] at this
  rw [this]
  match j, hj with
  | 0, _ => rfl
  | 1, _ => rfl
end
end Go.Proofs.Ytgeajgmefokifaa

/- Walks of the reference: the errors of a stadium, of rules, and of a course. -/
namespace Go.Proofs.Ytgeajgmefokifaa
open Go Go.Eng

section
variable {w : World} {lo hi b off len cap : Nat} {l : List Lp}
theorem RdL.a0 (h : RdL w lo hi (.slice (some ⟨b, off, none⟩) len cap) l) (i : Nat) (hi : i < l.length) : w.cell? ⟨b, off + i * 3 + 0, none⟩ = some (.int .i64 l[i].len) := RdL.at0 h i hi
end
/-- In order, as far as they are looked at. -/
def ordB (c : List Int) (k : Nat) : Bool := (List.range k).all fun i => decide (c.getD i 0 ≤ c.getD (i + 1) 0) && true
theorem ordB_srt : ∀ (c : List Int), srtB c = ordB c (c.length - 1)
  | [] => rfl
  | [_] => rfl
  | a :: b :: l => by
    rw [srtB, ordB_srt (b :: l)]
    simp only [ordB, List.length_cons, Nat.add_sub_cancel]
    rw [List.range_succ_eq_map, List.all_cons, List.all_map]
    simp only [Bool.and_true]
    rfl
end Go.Proofs.Ytgeajgmefokifaa

/- Walks of the reference: how often a loop occurs; which rules a course breaks. -/
namespace Go.Proofs.Ytgeajgmefokifaa
open Go Go.Eng

def oftP (r : Rl) (c : List Int) (k : Nat) : Bool := (c.take k).any fun i => decide (r.uses < cntI c i) && true
end Go.Proofs.Ytgeajgmefokifaa

/- Walk of the reference: all lists of laps. -/
namespace Go.Proofs.Ytgeajgmefokifaa
open Go Go.Eng

/-- The lists that are found among the first numbers. -/
def foundL (n laps m : Nat) : List (List Int) := ((List.range m).map (digL n laps)).filter (fun c => decide (listedV n c = 0))
end Go.Proofs.Ytgeajgmefokifaa

/- Walks of the reference: all right courses. -/
namespace Go.Proofs.Ytgeajgmefokifaa
open Go Go.Eng

section
variable {w0 w : World} {M : Nat → Prop} {H : List Ck} {t t2 : TypeId} {xs : List (Value × List Int)} {u : Value} {c : List Int}
end
end Go.Proofs.Ytgeajgmefokifaa

/- The plain laws of courses: their order, the fewest rules, the least snow. -/
namespace Go.Proofs.Ytgeajgmefokifaa

/-! Lexicographic order -/
theorem cmpB_trans : ∀ {a b c : List Int}, cmpB a b = true → cmpB b c = true → cmpB a c = true
  | [], [], _, h, _ => by simp [cmpB] at h
  | [], _ :: _, [], _, h => by simp [cmpB] at h
  | [], _ :: _, _ :: _, _, _ => rfl
  | _ :: _, [], _, h, _ => by simp [cmpB] at h
  | _ :: _, _ :: _, [], _, h => by simp [cmpB] at h
  | x :: a, y :: b, z :: c, h1, h2 => by
    simp only [cmpB] at h1 h2 ⊢
    split at h1 <;> split at h2
    · rename_i e1 e2
      rw [if_pos (e1.trans e2)]
      exact cmpB_trans h1 h2
    · rename_i e1 e2
      subst e1
      rw [if_neg e2]
      exact h2
    · rename_i e1 e2
      subst e2
      rw [if_neg e1]
      exact h1
    · rename_i e1 e2
      simp only [Bool.and_true, decide_eq_true_eq] at h1 h2
      rw [if_neg (by omega)]
      simp
      omega
theorem cmpB_irr : ∀ (a : List Int), cmpB a a = false
  | [] => rfl
  | x :: a => by simp [cmpB, cmpB_irr a]
theorem cmpB_tri : ∀ (a b : List Int), cmpB a b = false → cmpB b a = false → a = b
  | [], [], _, _ => rfl
  | [], _ :: _, h, _ => by simp [cmpB] at h
  | _ :: _, [], _, h => by simp [cmpB] at h
  | x :: a, y :: b, h1, h2 => by
    simp only [cmpB] at h1 h2
    by_cases e : x = y
    · subst e
      simp only [if_true] at h1 h2
      rw [cmpB_tri a b h1 h2]
    · rw [if_neg e] at h1
      rw [if_neg (fun h => e h.symm)] at h2
      simp at h1 h2
      omega
theorem coursesL_ne {n laps : Nat} (hn : 0 < n) : coursesL n laps ≠ [] := by
  have : List.replicate laps (0 : Int) ∈ coursesL n laps := coursesL_mem.2 ⟨by simp, fun x hx => by rw [List.eq_of_mem_replicate hx]; omega, by
    induction laps with
    | zero => rfl
    | succ k ih =>
      cases k with
      | zero => rfl
      | succ k => rw [List.replicate_succ, List.replicate_succ, srtB, ← List.replicate_succ, ih]; simp⟩
  intro h
  rw [h] at this
  cases this

/-! The fewest rules -/
theorem fewB_irr (a : List Int) : fewB a a = false := by simp [fewB, cmpB_irr]
theorem fewB_trans {a b c : List Int} (h1 : fewB a b = true) (h2 : fewB b c = true) : fewB a c = true := by
  simp only [fewB, Bool.and_true, Bool.or_eq_true, Bool.and_eq_true, decide_eq_true_eq] at h1 h2 ⊢
  rcases h1 with h1 | ⟨h1, h3⟩ <;> rcases h2 with h2 | ⟨h2, h4⟩
  · left; omega
  · left; omega
  · left; omega
  · right; exact ⟨by omega, cmpB_trans h3 h4⟩
theorem fewB_tri {a b : List Int} (h1 : fewB a b = false) (h2 : fewB b a = false) : a = b := by
  simp only [fewB, Bool.and_true, Bool.or_eq_false_iff, Bool.and_eq_false_imp, decide_eq_true_eq, decide_eq_false_iff_not] at h1 h2
  have : a.length = b.length := by omega
  exact cmpB_tri a b (h1.2 this) (h2.2 this.symm)
/-- The first of the best ones, by a strict order of keys. -/
theorem best_fold {α : Type} (lt : α → α → Bool) (irr : ∀ a, lt a a = false) (tr : ∀ {a b c}, lt a b = true → lt b c = true → lt a c = true) (neg : ∀ {a b c}, lt a b = false → lt b c = false → lt a c = false) :
    ∀ (l : List α) (m : α), ∃ R, l.foldl (bestS lt) (some m) = some R ∧ (R = m ∨ R ∈ l) ∧ lt m R = false ∧ ∀ c ∈ l, lt c R = false
  | [], m => ⟨m, rfl, .inl rfl, irr m, by simp⟩
  | c :: l, m => by
    rw [List.foldl_cons]
    by_cases h : lt c m = true
    · simp only [bestS, h, if_true]
      obtain ⟨R, h1, h2, h3, h4⟩ := best_fold lt irr tr neg l c
      refine ⟨R, h1, .inr (List.mem_cons.2 h2), ?_, fun d hd => ?_⟩
      · cases hm : lt m R with
        | false => rfl
        | true => rw [tr h hm] at h3; cases h3
      · rcases List.mem_cons.1 hd with rfl | hd
        · exact h3
        · exact h4 d hd
    · have h : lt c m = false := by simpa using h
      simp only [bestS, h]
      obtain ⟨R, h1, h2, h3, h4⟩ := best_fold lt irr tr neg l m
      refine ⟨R, h1, h2.imp_right (List.mem_cons_of_mem _), h3, fun d hd => ?_⟩
      rcases List.mem_cons.1 hd with rfl | hd
      · exact neg h h3
      · exact h4 d hd
theorem fewB_neg {a b c : List Int} (h1 : fewB a b = false) (h2 : fewB b c = false) : fewB a c = false := by
  cases h : fewB a c with
  | false => rfl
  | true =>
    cases h3 : fewB b a with
    | true => rw [fewB_trans h3 h] at h2; cases h2
    | false =>
      obtain rfl := fewB_tri h1 h3
      rw [h] at h2; cases h2
theorem yield_best {s : List Lp} (r : Rl) (hs : 0 < s.length) : ∃ R, yieldO s r (coursesL s.length (nL r)) = some R ∧ R ∈ coursesL s.length (nL r) ∧ ∀ c ∈ coursesL s.length (nL r), fewB (brkL s r c) (brkL s r R) = false := by
  have hne := coursesL_ne (laps := nL r) hs
  generalize coursesL s.length (nL r) = l at *
  cases l with
  | nil => exact absurd rfl hne
  | cons m l =>
    obtain ⟨R, h1, h2, h3, h4⟩ := best_fold (fun a b => fewB (brkL s r a) (brkL s r b)) (fun a => fewB_irr _) fewB_trans fewB_neg l m
    refine ⟨R, (by rw [yieldO, List.foldl_cons]; exact h1), List.mem_cons.2 h2, fun c hc => ?_⟩
    rcases List.mem_cons.1 hc with rfl | hc
    · exact h3
    · exact h4 c hc
end Go.Proofs.Ytgeajgmefokifaa

/- Walks of the reference: Broken, earlier, Yield. -/
namespace Go.Proofs.Ytgeajgmefokifaa
open Go Go.Eng

end Go.Proofs.Ytgeajgmefokifaa

/- Walks of the reference: area, snow, what a volume covers, and the cheapest course. -/
namespace Go.Proofs.Ytgeajgmefokifaa
open Go Go.Eng

def volB (s : List Lp) (depth volume : Int) (c : List Int) : Bool := decide (snowV s c depth ≤ volume) && true
end Go.Proofs.Ytgeajgmefokifaa

/- Walks of the reference: what a volume covers; the cheapest course. -/
namespace Go.Proofs.Ytgeajgmefokifaa
open Go Go.Eng

def ltS (s : List Lp) (depth : Int) (a b : List Int) : Bool := decide (snowV s a depth < snowV s b depth) && true
end Go.Proofs.Ytgeajgmefokifaa

/- Walks of the reference: the error of a weather. -/
namespace Go.Proofs.Ytgeajgmefokifaa
open Go Go.Eng

end Go.Proofs.Ytgeajgmefokifaa

/- Plain laws of what happens, step by step. -/
namespace Go.Proofs.Ytgeajgmefokifaa
open Go Go.Eng

end Go.Proofs.Ytgeajgmefokifaa

/- Walk of the reference: what happens in a weather. -/
namespace Go.Proofs.Ytgeajgmefokifaa
open Go Go.Eng

end Go.Proofs.Ytgeajgmefokifaa

/- Walk of the reference: the ends of a winter's spans. -/
namespace Go.Proofs.Ytgeajgmefokifaa
open Go Go.Eng

end Go.Proofs.Ytgeajgmefokifaa

/- Walks: winters and weathers compared that are equal. -/
namespace Go.Proofs.Ytgeajgmefokifaa
open Go Go.Eng

end Go.Proofs.Ytgeajgmefokifaa

/- Winters that are copied, and whose days are changed. -/
namespace Go.Proofs.Ytgeajgmefokifaa
open Go Go.Eng

/-! The cells of days -/
def fldD (d : Dy) : Nat → Int
  | 0 => d.n0
  | 1 => d.n1
  | 2 => d.m0
  | 3 => d.m1
  | 4 => d.l0
  | _ => d.l1
def setD (d : Dy) (f : Nat) (v : Int) : Dy :=
  match f with
  | 0 => { d with n0 := v }
  | 1 => { d with n1 := v }
  | 2 => { d with m0 := v }
  | 3 => { d with m1 := v }
  | 4 => { d with l0 := v }
  | _ => { d with l1 := v }
/-- Days in a block, with room behind them. -/
abbrev dyB (g : Nat) (l : List Dy) (sp : List Value) : Ck := .pt g (dyC l ++ sp) 73
section
variable {P : Program} {T : Tab} {ro : Cx} {n : Nat} {F : Fin} {w0 : World} {M : Nat → Prop} {k : List It} {ops : Array Oper} {rest : List Oper} {e : Env} {H Hq : List Ck}
end
/-! Copies -/
end Go.Proofs.Ytgeajgmefokifaa

/- Walks: a weather copied. -/
namespace Go.Proofs.Ytgeajgmefokifaa
open Go Go.Eng

end Go.Proofs.Ytgeajgmefokifaa

/- Walk: a winter of the reference. -/
namespace Go.Proofs.Ytgeajgmefokifaa
open Go Go.Eng

end Go.Proofs.Ytgeajgmefokifaa

/- Walks: whether there are too many days, or numbers. -/
namespace Go.Proofs.Ytgeajgmefokifaa
open Go Go.Eng

def longB (n : Nat) (ll : List (List Int)) : Bool := (ll.any fun l => decide (70 < l.length) && true) || (decide (65 < n) && true)
end Go.Proofs.Ytgeajgmefokifaa

/- Walk of the reference: piles. -/
namespace Go.Proofs.Ytgeajgmefokifaa
open Go Go.Eng

/-- Much is taken from piles, one after the other. -/
structure TkI (much : Int) (l : List Int) (k : Nat) (m : Int) (o : List Int) : Prop where
  kl : k ≤ l.length
  len : o.length = l.length
  mb : 0 ≤ m ∧ m ≤ much
  nn : ∀ x ∈ o, 0 ≤ x ∧ x ≤ 2000000
  eq : rremP much l = o.take k ++ rremP m (o.drop k)
theorem TkI.zero {much : Int} {l : List Int} (h : 0 ≤ much) (hl : ∀ x ∈ l, 0 ≤ x ∧ x ≤ 2000000) : TkI much l 0 much l := ⟨Nat.zero_le _, rfl, ⟨h, Int.le_refl _⟩, hl, by simp⟩
theorem TkI.step {much : Int} {l : List Int} {k : Nat} {m : Int} {o : List Int} (h : TkI much l k m o) (hk : k < o.length) (hm : 0 < m) {n : Int} (hn : n = min o[k] m) : TkI much l (k + 1) (m - n) (o.set k (o[k] - n)) := by
  subst hn
  have h0 := h.nn _ (List.getElem_mem hk)
  refine ⟨by have := h.len; omega, by simp [h.len], by have := h.mb; omega, fun x hx => ?_, ?_⟩
  · rcases List.mem_or_eq_of_mem_set hx with hx | rfl
    · exact h.nn x hx
    · omega
  · rw [h.eq, List.drop_eq_getElem_cons hk, rremP, if_pos (by omega)]
    have e1 : (o.set k (o[k] - min o[k] m)).take (k + 1) = o.take k ++ [o[k] - min o[k] m] := by
      rw [List.take_succ_eq_append_getElem (by simpa using hk), List.take_set_of_le (Nat.le_refl _)]
      simp
    have e2 : (o.set k (o[k] - min o[k] m)).drop (k + 1) = o.drop (k + 1) := by rw [List.drop_set_of_lt (by omega)]
    rw [e1, e2]
    simp
theorem TkI.full {much : Int} {l : List Int} {k : Nat} {m : Int} {o : List Int} (h : TkI much l k m o) (hk : ¬ k < o.length) : o = rremP much l := by
  have h1 := h.len
  have h2 := h.kl
  rw [h.eq, List.drop_eq_nil_of_le (by omega), List.take_of_length_le (by omega)]
  simp [rremP]
theorem TkI.done {much : Int} {l : List Int} {k : Nat} {m : Int} {o : List Int} (h : TkI much l k m o) (hm : ¬ m > 0) : o = rremP much l := by
  obtain rfl : m = 0 := by have := h.mb; omega
  rw [h.eq, rremP_zero, List.take_append_drop]
theorem set_ints (l : List Int) (k : Nat) (v : Int) : (ints l).set k (.int .i64 v) = ints (l.set k v) := by simp [ints, List.map_set]

end Go.Proofs.Ytgeajgmefokifaa

/- Walks of the reference: the first day that can fail; whether a winter is held. -/
namespace Go.Proofs.Ytgeajgmefokifaa
open Go Go.Eng

/-- Whether no day can fail. -/
def heldB (x : Wn) : Bool := decide ((firstV x).2 = 6) && true
end Go.Proofs.Ytgeajgmefokifaa

/- Walk of the reference: proofs. -/
namespace Go.Proofs.Ytgeajgmefokifaa
open Go Go.Eng

/-- What is left, day by day. -/
def lfK (x : Wn) (frm : Int) (i : Nat) : Int := if i ≤ frm.toNat then x.stock else phK x frm (i - 1 - frm.toNat) - (worstW x).need.getD (i - 1) 0
end Go.Proofs.Ytgeajgmefokifaa

/- Plain laws of winters: more stock, more room, more snow made, less need and less loss. -/
namespace Go.Proofs.Ytgeajgmefokifaa
open Go

structure RichD (d d' : Dy) : Prop where
  n : d'.n0 = d.n0 ∧ d.n0 ≤ d'.n1 ∧ d'.n1 ≤ d.n1
  m : d'.m1 = d.m1 ∧ d.m0 ≤ d'.m0 ∧ d'.m0 ≤ d.m1
  l : d'.l0 = d.l0 ∧ d.l0 ≤ d'.l1 ∧ d'.l1 ≤ d.l1
structure RichL (l l' : List Dy) : Prop where
  len : l'.length = l.length
  all : ∀ i (h : i < l.length) (h' : i < l'.length), RichD l[i] l'[i]
end Go.Proofs.Ytgeajgmefokifaa

/- Walks of the reference: the least stock and the least store. -/
namespace Go.Proofs.Ytgeajgmefokifaa
open Go Go.Eng

end Go.Proofs.Ytgeajgmefokifaa

/- Walk of the reference: the ranges of stocks. -/
namespace Go.Proofs.Ytgeajgmefokifaa
open Go Go.Eng

end Go.Proofs.Ytgeajgmefokifaa

/- The walk of CourseOpens. -/
namespace Go.Proofs.Ytgeajgmefokifaa
open Go Go.Eng

end Go.Proofs.Ytgeajgmefokifaa

/- What a function is told of its arguments: slices and structs that came in can be read. -/
namespace Go.Proofs.Ytgeajgmefokifaa
open Go Go.Eng

section
variable {H : Type} {enc : TypeId × Value → H} {P : Program} {w : World} {sp : Nat → Bool} {held : Bool}
theorem flat_get {sz : Nat} (hsz : 0 < sz) : ∀ (css : List (List Value)), (∀ c ∈ css, c.length = sz) → ∀ j, css.flatten[j]? = (css[j / sz]?).bind (fun c => c[j % sz]?)
  | [], _, j => by simp
  | c :: css, h, j => by
    have hc := h c List.mem_cons_self
    rw [List.flatten_cons]
    by_cases hj : j < sz
    · rw [List.getElem?_append_left (by omega), Nat.div_eq_of_lt hj, Nat.mod_eq_of_lt hj]
      rfl
    · obtain ⟨k, rfl⟩ : ∃ k, j = k + sz := ⟨j - sz, by omega⟩
      rw [List.getElem?_append_right (by omega), hc, Nat.add_sub_cancel, flat_get hsz css (fun d hd => h d (List.mem_cons_of_mem _ hd)), Nat.add_div_right _ hsz, Nat.add_mod_right]
      rfl
end
/-- A number that fits into 64 bits. -/
def I64 (n : Int) : Prop := -9223372036854775808 ≤ n ∧ n < 9223372036854775808
section
variable {H : Type} {enc : TypeId × Value → H} {P : Program} {w : World} {sp : Nat → Bool} {held : Bool}
theorem RdI.one {v : Value} {l : List Int} {lo hi : Nat} (h : RdI w lo hi v l) : oneV v = true := by
  obtain ⟨a, c, rfl, _⟩ := RdI.outI h
  rfl
end
end Go.Proofs.Ytgeajgmefokifaa

/- What a function of the chapter is told of its arguments. -/
namespace Go.Proofs.Ytgeajgmefokifaa
open Go Go.Eng

section
variable {H : Type} {enc : TypeId × Value → H} {P : Program} {w : World} {sp : Nat → Bool} {held : Bool}
end

section
variable {H : Type} {enc : TypeId × Value → H} {w : World} {sp : Nat → Bool} {held : Bool} {rc : Reach} {base : Nat} {v : Value} {d : DataW H} {ps : List MemPlace}
/-- The numbers of rules fit into 64 bits. -/
structure Rl.Big (r : Rl) : Prop where
  laps : I64 r.laps
  g0 : I64 r.g0
  g1 : I64 r.g1
  c0 : I64 r.c0
  c1 : I64 r.c1
  p0 : I64 r.p0
  p1 : I64 r.p1
  wide : I64 r.wide
  uses : I64 r.uses
end
end Go.Proofs.Ytgeajgmefokifaa

/- The walk of CourseWinters. -/
namespace Go.Proofs.Ytgeajgmefokifaa
open Go Go.Eng

end Go.Proofs.Ytgeajgmefokifaa

/- Walks: loops copied and turned, rules as numbers, whether there are too many lists; contracts in one piece. -/
namespace Go.Proofs.Ytgeajgmefokifaa
open Go Go.Eng

theorem slLp : SlT Try.prog 22 31 3 24 (.agg #[.int .i64 0, .int .i64 0, .int .i64 0]) := ⟨by kernel_rfl, by kernel_rfl, by kernel_rfl, by decide⟩
theorem lpC_snoc (l : List Lp) (d : Lp) : lpC (l ++ [d]) = lpC l ++ lpC [d] := by simp [lpC]
theorem lpC_one (l : List Lp) : ∀ c ∈ lpC l, oneV c = true := fun c hc => by obtain ⟨y, _, hy⟩ := List.mem_flatMap.1 hc; simp at hy; rcases hy with rfl | rfl | rfl <;> rfl
theorem Blk.rdLp {w : World} {b : Nat} {d : Lp} {t : TypeId} (h : Blk w b (lpC [d]) t) : Rd w b (b + 1) (.slice (some ⟨b, 0, none⟩) 1 1) 3 1 (lpC [d]) :=
  ⟨rfl, .inr ⟨b, 0, 1, rfl, fun _ => ⟨Nat.le_refl _, Nat.lt_succ_self _, h.lt⟩, fun j _ => by rw [Nat.zero_add]; exact Blk.cell h j⟩⟩
theorem sat_rdL {w0 w : World} {M : Nat → Prop} {H : List Ck} {v : Value} {t n : Nat} {l : List Lp} (hs : Sat w0 M H w) (hm : .ow v t 3 n (lpC l) ∈ H) (hn : n = l.length) : RdL w 0 w.heap.size v l := own_rdL (hs.mem hm) hn
/-! Contracts in one piece -/
theorem brok_fst {s : List Lp} {r : Rl} {c : List Int} : (brokenV s r c).1 = if (brokenV s r c).2 = 0 then brkL s r c else [] := by
  unfold brokenV
  split
  · rename_i h
    simp [h]
  split
  · rename_i h
    simp [h]
  split <;> simp
theorem sat_ownil {w w' : World} (t sz : Nat) (h : Chg [] w w') : Sat w M0 [.ow (.slice none 0 0) t sz 0 []] w' := Sat.ownil ((Sat.nil w M0).keep h) t sz
section
variable (w : World) (lo hi : Nat) (a : Option Addr) (cp : Nat) (s : List Lp) (r : Rl) (h : RdL w lo hi (.slice a s.length cp) s) (hlen : s.length ≤ 1000000)
include h hlen
theorem brok_u (lo2 hi9 : Nat) (v : Value) (c : List Int) (hv : RdI w lo2 hi9 v c) (hlc : c.length ≤ 1000000) :
    Ca Try.prog 24 [.slice a s.length cp, .agg (rlC r).toArray, v] w fun x w' => ∃ u : Value, x = .tuple #[u, .int .i64 (brokenV s r c).2] ∧ Sat w M0 [.ow u 88 1 (brokenV s r c).1.length (ints (brokenV s r c).1)] w' := by
  rw [brok_fst]
  by_cases e : (brokenV s r c).2 = 0
  · rw [if_pos e, e]
    exact brok_ok w lo hi lo2 hi9 a cp v s r c h hlen hv hlc e
  · rw [if_neg e]
    exact (brok_no w lo hi lo2 hi9 a cp v s r c h hlen hv hlc e).mono fun x w' ⟨h1, h2⟩ => ⟨_, h1, sat_ownil _ _ h2⟩
end
/-- The fewest rules, with the first course. -/
def yldV (s : List Lp) (r : Rl) : (List Int × List Int) × Int := if checkS s r ≠ 0 then (([], []), checkS s r) else ((brkL s r ((yieldO s r (coursesL s.length (nL r))).getD []), (yieldO s r (coursesL s.length (nL r))).getD []), 0)
section
variable (w : World) (lo hi : Nat) (a : Option Addr) (cp : Nat) (s : List Lp) (r : Rl) (h : RdL w lo hi (.slice a s.length cp) s) (hlen : s.length ≤ 1000000)
include h hlen
end
end Go.Proofs.Ytgeajgmefokifaa

/- Walk: a stadium and rules are made. -/
namespace Go.Proofs.Ytgeajgmefokifaa
open Go Go.Eng

structure LpM (l : Lp) : Prop where
  len : 1500 ≤ l.len ∧ l.len ≤ 3400
  climb : 0 ≤ l.climb ∧ l.climb ≤ 110
  wide : 4 ≤ l.wide ∧ l.wide ≤ 8
structure MadeS (most laps : Nat) (s : List Lp) (r : Rl) : Prop where
  n1 : 1 ≤ s.length
  n2 : s.length ≤ most
  all : ∀ l ∈ s, LpM l
  lp : 1 ≤ r.laps ∧ r.laps ≤ laps
  g : 0 ≤ r.g0 ∧ r.g0 ≤ r.g1 ∧ r.g1 ≤ 20000
  c : 0 ≤ r.c0 ∧ r.c0 ≤ r.c1 ∧ r.c1 ≤ 1000
  p : 1500 ≤ r.p0 ∧ r.p0 ≤ 1800 ∧ 2500 ≤ r.p1 ∧ r.p1 ≤ 3400
  wide : 3 ≤ r.wide ∧ r.wide ≤ 5
  uses : 1 ≤ r.uses ∧ r.uses ≤ laps
theorem MadeS.cr {most laps : Nat} {s : List Lp} {r : Rl} (h : MadeS most laps s r) (hm : most ≤ 12) (hl : laps ≤ 6) : CR s r := by
  have h1 := h.n1; have h2 := h.n2; have h3 := h.lp; have h4 := h.g; have h5 := h.c; have h6 := h.p; have h7 := h.wide; have h8 := h.uses
  exact ⟨⟨h1, by omega, fun l hl => by have h := h.all l hl; have := h.len; have := h.climb; have := h.wide; exact ⟨by omega, by omega, by omega⟩⟩, ⟨by omega, by omega, by omega, by omega, by omega, by omega⟩⟩
theorem mul_bd {a b A B : Int} (h1 : 0 ≤ a) (h2 : a ≤ A) (h3 : 0 ≤ b) (h4 : b ≤ B) : 0 ≤ a * b ∧ a * b ≤ A * B := ⟨Int.mul_nonneg h1 h3, Int.mul_le_mul h2 h4 h3 (by omega)⟩
set_option maxHeartbeats 4000000 in
theorem madeS_ca (most laps : Nat) (h1 : 1 ≤ most) (h2 : most ≤ 12) (h3 : 1 ≤ laps) (h4 : laps ≤ 6) (K : Nat) (hK : K < 100000) (w : World) (b lo hi : Nat) (bs : Value) (hby : DkB w lo hi bs) (hlh : hi ≤ b) (hd : DkS w b bs K) :
    Ca Try.prog 46 [.pointer (some ⟨b, 0, none⟩), .int .i64 most, .int .i64 laps] w fun v w' => ∃ y : Nat × Nat × List Lp × Rl, (v = .tuple #[.slice (some ⟨y.1, 0, none⟩) y.2.2.1.length y.2.1, .agg (rlC y.2.2.2).toArray] ∧ MadeS most laps y.2.2.1 y.2.2.2) ∧ Sat w (fun x => x = b) [.ow (.slice (some ⟨y.1, 0, none⟩) y.2.2.1.length y.2.1) 31 3 y.2.2.1.length (lpC y.2.2.1), dkP bs b (K + 100)] w' := by
  refine q_of (dk_sat hd) Try.func46 rfl (by simp [Try.ntmps46]) ?_
  (refine q_seq ?_; refine q_region ?_; refine ql_pure tabOk rfl rfl ?_)
  refine ql_alloc zero26 rfl (fun b7 => ?_)
  (refine q_nil ?_; refine q_seq ?_; refine q_region ?_; refine ql_pure tabOk rfl rfl ?_; refine q_nil ?_; (iterate 2 refine q_seq ?_); refine q_region ?_; (iterate 2 refine ql_pure tabOk rfl rfl ?_))
  refine ql_call (β := Int) (ψ := fun zq v => v = .int .i64 zq ∧ 1 ≤ zq ∧ zq ≤ most) (L' := fun _ => [dkP bs b (K + 1)]) tabOk [dkP bs b (K)] _ (fun x => x = b) rfl rfl rfl rfl (Sp.cons (by repeat constructor) (Sp.refl _)) (fun x hx => ⟨_, .head _, hx⟩) (fun w' hs => between_ca (1) (most) (by omega) (by omega) (by omega) (K) (by omega) w' b lo hi bs (hby.keepP hlh hs.chg) hlh (hs.all _ (.head _))) ?_; rintro cnt _ ⟨rfl, hcnt⟩
  (refine ql_pure tabOk rfl rfl ?_; refine q_nil ?_; refine q_block ?_)
  obtain ⟨cn, rfl⟩ := Int.eq_ofNat_of_zero_le (show 0 ≤ cnt by omega)
  have hcn : 1 ≤ cn ∧ cn ≤ most := by omega
  clear hcnt
  refine q_conv (H' := [.ow (.slice none 0 0) 31 3 0 (lpC []), dkP bs b (K + 1 + 3 * 0), .pt b7 [.int .i64 0, .int .i64 0, .int .i64 0, .int .i64 0, .int .i64 0, .int .i64 0, .int .i64 0, .int .i64 0, .int .i64 0] 26])
    (fun w' hs => (Sat.ownil hs 31 3).sp (by repeat (first | exact Sp.nil | exact Sp.refl _ | refine Sp.cons (by repeat constructor) ?_))) ?_
  refine q_loop (σ := Value × List Lp) (fun s => s.2.length ≤ cn ∧ ∀ l ∈ s.2, LpM l) (fun s => cn - s.2.length) (fun s => [(0, .pointer (some ⟨b, 0, none⟩)), (2, .int .i64 laps), (7, .pointer (some ⟨b7, 0, none⟩)), (8, s.1), (14, .int .i64 cn), (15, .int .i64 s.2.length)])
    (fun s => [.ow s.1 31 3 s.2.length (lpC s.2), dkP bs b (K + 1 + 3 * s.2.length), .pt b7 [.int .i64 0, .int .i64 0, .int .i64 0, .int .i64 0, .int .i64 0, .int .i64 0, .int .i64 0, .int .i64 0, .int .i64 0] 26]) (.slice none 0 0, []) (by simp) ⟨rfl, rfl, rfl, rfl, rfl, rfl, trivial⟩ (by repeat (first | exact Sp.nil | exact Sp.refl _ | refine Sp.cons (by repeat constructor) ?_)) ?_
  rintro ⟨v, l⟩ ⟨hl, hB⟩ K1 hK1
  simp only at hl hB
  dsimp only
  (refine q_seq ?_; refine q_region ?_; refine ql_pure tabOk rfl rfl ?_; refine q_nil ?_; refine q_seq ?_)
  refine q_if rfl (fun hc => ?_) (fun hc => ?_)
  · have hl2 : l.length < cn := by omega
    clear hc
    obtain ⟨k, hk⟩ : ∃ k, k = l.length := ⟨_, rfl⟩
    rw [← hk]
    (refine q_skip ?_; refine q_seq ?_; refine q_block ?_; refine q_region ?_; (iterate 2 refine ql_pure tabOk rfl rfl ?_))
    refine ql_call (β := Int) (ψ := fun zq v => v = .int .i64 zq ∧ 0 ≤ zq ∧ (zq < 20 ∨ zq = 0)) (L' := fun _ => [dkP bs b (K + 1 + 3 * k + 1)]) tabOk [dkP bs b (K + 1 + 3 * k)] _ (fun x => x = b) rfl rfl rfl rfl (Sp.cons (by repeat constructor) (Sp.refl _)) (fun x hx => ⟨_, .head _, hx⟩) (fun w' hs => drawP_ca (20) (K + 1 + 3 * k) (by omega) w' b lo hi bs (hby.keepP hlh hs.chg) hlh (hs.all _ (.head _))) ?_; rintro x1 _ ⟨rfl, hx1⟩
    ((iterate 2 refine ql_ar tabOk rfl rfl rfl rfl (by omega) (by omega) ?_); refine ql_pure tabOk rfl rfl ?_)
    refine ql_call (β := Int) (ψ := fun zq v => v = .int .i64 zq ∧ 0 ≤ zq ∧ (zq < 12 ∨ zq = 0)) (L' := fun _ => [dkP bs b (K + 1 + 3 * k + 1 + 1)]) tabOk [dkP bs b (K + 1 + 3 * k + 1)] _ (fun x => x = b) rfl rfl rfl rfl (Sp.cons (by repeat constructor) (Sp.refl _)) (fun x hx => ⟨_, .head _, hx⟩) (fun w' hs => drawP_ca (12) (K + 1 + 3 * k + 1) (by omega) w' b lo hi bs (hby.keepP hlh hs.chg) hlh (hs.all _ (.head _))) ?_; rintro x2 _ ⟨rfl, hx2⟩
    (refine ql_ar tabOk rfl rfl rfl rfl (by omega) (by omega) ?_; refine ql_pure tabOk rfl rfl ?_)
    refine ql_call (β := Int) (ψ := fun zq v => v = .int .i64 zq ∧ 4 ≤ zq ∧ zq ≤ 8) (L' := fun _ => [dkP bs b (K + 1 + 3 * k + 1 + 1 + 1)]) tabOk [dkP bs b (K + 1 + 3 * k + 1 + 1)] _ (fun x => x = b) rfl rfl rfl rfl (Sp.cons (by repeat constructor) (Sp.refl _)) (fun x hx => ⟨_, .head _, hx⟩) (fun w' hs => between_ca (4) (8) (by omega) (by omega) (by omega) (K + 1 + 3 * k + 1 + 1) (by omega) w' b lo hi bs (hby.keepP hlh hs.chg) hlh (hs.all _ (.head _))) ?_; rintro x3 _ ⟨rfl, hx3⟩
    skip
    refine ql_mk #[.int .i64 (1500 + 100 * x1), .int .i64 (10 * x2), .int .i64 x3] rfl (by kernel_rfl) rfl ?_
    refine ql_mkS 31 (lpC [⟨1500 + 100 * x1, 10 * x2, x3⟩]) rfl (by kernel_rfl) rfl (fun bn => ?_)
    refine ql_append (q := 1) slLp rfl rfl rfl (fun v' => by repeat constructor) (fun w' hs => ⟨_, _, Blk.rdLp (hs.blk (b := bn) (by repeat first | exact .head _ | refine .tail _ ?_))⟩) (lpC_one _) (by omega) (by omega) (fun u => ?_)
    (refine ql_pure tabOk rfl rfl ?_; refine q_nil ?_; refine q_blk ?_; refine q_region ?_; refine ql_ar tabOk rfl rfl rfl rfl (by omega) (by omega) ?_; refine ql_pure tabOk rfl rfl ?_; refine q_nil ?_)
    have e := lpC_snoc l ⟨1500 + 100 * x1, 10 * x2, x3⟩
    exact hK1 (u, l ++ [⟨1500 + 100 * x1, 10 * x2, x3⟩]) _ _ ⟨by simp only [List.length_append, List.length_cons, List.length_nil]; omega, fun d hd => by
      rcases List.mem_append.1 hd with hd | hd
      · exact hB d hd
      · obtain rfl := List.mem_singleton.1 hd
        exact ⟨by simp only; omega, by simp only; omega, hx3⟩⟩ (by simp only [List.length_append, List.length_cons, List.length_nil]; omega) ⟨rfl, rfl, rfl, rfl, rfl, lookI rfl (by simp; omega), trivial⟩ (by dsimp only; rw [e, List.length_append, ← hk]; repeat (first | exact Sp.nil | exact Sp.refl _ | refine Sp.cons (by repeat constructor) ?_))
  · have hle : l.length = cn := by omega
    clear hc hK1
    rw [hle]
    refine q_fact (fun w hs => hs.ownSome (v := v) (by repeat first | exact .head _ | refine .tail _ ?_) (by omega)) ?_
    rintro ⟨g, cd, rfl⟩
    (refine q_exit _ rfl ?_; refine q_seq ?_; refine q_region ?_; (iterate 2 refine ql_pure tabOk rfl rfl ?_))
    refine ql_call (β := Int) (ψ := fun zq v => v = .int .i64 zq ∧ 1 ≤ zq ∧ zq ≤ laps) (L' := fun _ => [dkP bs b (K + 1 + 3 * cn + 1)]) tabOk [dkP bs b (K + 1 + 3 * cn)] _ (fun x => x = b) rfl rfl rfl rfl (Sp.cons (by repeat constructor) (Sp.refl _)) (fun x hx => ⟨_, .head _, hx⟩) (fun w' hs => between_ca (1) (laps) (by omega) (by omega) (by omega) (K + 1 + 3 * cn) (by omega) w' b lo hi bs (hby.keepP hlh hs.chg) hlh (hs.all _ (.head _))) ?_; rintro la _ ⟨rfl, hla⟩
    (refine ql_pure tabOk rfl rfl ?_)
    refine ql_call (β := Int) (ψ := fun zq v => v = .int .i64 zq ∧ 3 ≤ zq ∧ zq ≤ 5) (L' := fun _ => [dkP bs b (K + 1 + 3 * cn + 1 + 1)]) tabOk [dkP bs b (K + 1 + 3 * cn + 1)] _ (fun x => x = b) rfl rfl rfl rfl (Sp.cons (by repeat constructor) (Sp.refl _)) (fun x hx => ⟨_, .head _, hx⟩) (fun w' hs => between_ca (3) (5) (by omega) (by omega) (by omega) (K + 1 + 3 * cn + 1) (by omega) w' b lo hi bs (hby.keepP hlh hs.chg) hlh (hs.all _ (.head _))) ?_; rintro wd _ ⟨rfl, hwd⟩
    ((iterate 2 refine ql_pure tabOk rfl rfl ?_))
    refine ql_call (β := Int) (ψ := fun zq v => v = .int .i64 zq ∧ 1 ≤ zq ∧ zq ≤ laps) (L' := fun _ => [dkP bs b (K + 1 + 3 * cn + 1 + 1 + 1)]) tabOk [dkP bs b (K + 1 + 3 * cn + 1 + 1)] _ (fun x => x = b) rfl rfl rfl rfl (Sp.cons (by repeat constructor) (Sp.refl _)) (fun x hx => ⟨_, .head _, hx⟩) (fun w' hs => between_ca (1) (laps) (by omega) (by omega) (by omega) (K + 1 + 3 * cn + 1 + 1) (by omega) w' b lo hi bs (hby.keepP hlh hs.chg) hlh (hs.all _ (.head _))) ?_; rintro us _ ⟨rfl, hus⟩
    refine ql_mk #[.int .i64 la, .int .i64 0, .int .i64 0, .int .i64 0, .int .i64 0, .int .i64 0, .int .i64 0, .int .i64 wd, .int .i64 us] rfl (by kernel_rfl) rfl ?_
    refine ql_alloc zero26 rfl (fun b9 => ?_)
    (refine ql_setA tabOk rfl rfl rfl rfl rfl (by repeat constructor) rfl ?_; refine q_nil ?_; refine q_seq ?_)
    refine q_draw _ [dkP bs b (K + 1 + 3 * cn + 1 + 1 + 1)] (Sp.cons (by repeat constructor) (Sp.refl _)) (by kernel_rfl) (by kernel_rfl) ?_
    (refine qf_pure tabOk rfl rfl rfl ?_; refine qf_loadB tabOk rfl rfl rfl (by repeat first | exact .head _ | refine .tail _ ?_) (by rfl) ?_; refine qf_pure tabOk rfl rfl rfl ?_)
    refine qf_call (β := Int) (ψ := fun zq v => v = .int .i64 zq ∧ 0 ≤ zq ∧ (zq < 12 ∨ zq = 0)) (L' := fun _ => [dkP bs b (K + 1 + 3 * cn + 1 + 1 + 1 + 1)]) tabOk [dkP bs b (K + 1 + 3 * cn + 1 + 1 + 1)] _ (fun x => x = b) rfl rfl rfl rfl (Sp.cons (by repeat constructor) (Sp.refl _)) (fun x hx => ⟨_, .head _, hx⟩) (fun w' hs => drawP_ca (12) (K + 1 + 3 * cn + 1 + 1 + 1) (by omega) w' b lo hi bs (hby.keepP hlh hs.chg) hlh (hs.all _ (.head _))) ?_; rintro y1 _ ⟨rfl, hy1⟩
    have hm1 := mul_bd (a := la) (b := 1500 + 100 * y1) (A := 6) (B := 2600) (by omega) (by omega) (by omega) (by omega)
    ((iterate 3 refine qf_ar tabOk rfl rfl rfl rfl (by omega) (by omega) ?_); refine qf_pure tabOk rfl rfl rfl ?_)
    refine qf_call (β := Int) (ψ := fun zq v => v = .int .i64 zq ∧ 0 ≤ zq ∧ (zq < 8 ∨ zq = 0)) (L' := fun _ => [dkP bs b (K + 1 + 3 * cn + 1 + 1 + 1 + 1 + 1)]) tabOk [dkP bs b (K + 1 + 3 * cn + 1 + 1 + 1 + 1)] _ (fun x => x = b) rfl rfl rfl rfl (Sp.cons (by repeat constructor) (Sp.refl _)) (fun x hx => ⟨_, .head _, hx⟩) (fun w' hs => drawP_ca (8) (K + 1 + 3 * cn + 1 + 1 + 1 + 1) (by omega) w' b lo hi bs (hby.keepP hlh hs.chg) hlh (hs.all _ (.head _))) ?_; rintro y2 _ ⟨rfl, hy2⟩
    have hm2 := mul_bd (a := 10 * y2) (b := la) (A := 70) (B := 6) (by omega) (by omega) (by omega) (by omega)
    (refine qf_ar tabOk rfl rfl rfl rfl (by omega) (by omega) ?_; refine qf_pure tabOk rfl rfl rfl ?_; refine qf_loadB tabOk rfl rfl rfl (by repeat first | exact .head _ | refine .tail _ ?_) (by rfl) ?_; refine qf_ar tabOk rfl rfl rfl rfl (by omega) (by omega) ?_; (iterate 2 refine qf_pure tabOk rfl rfl rfl ?_); refine qf_nil ?_; refine q_seq ?_; refine q_region ?_; (iterate 3 refine ql_pure tabOk rfl rfl ?_))
    generalize la * (1500 + 100 * y1) = q1 at *
    generalize 10 * y2 * la = q2 at *
    refine ql_call (β := Int) (ψ := fun zq v => v = .int .i64 zq ∧ 0 ≤ zq ∧ (zq < 30 ∨ zq = 0)) (L' := fun _ => [dkP bs b (K + 1 + 3 * cn + 1 + 1 + 1 + 1 + 1 + 1)]) tabOk [dkP bs b (K + 1 + 3 * cn + 1 + 1 + 1 + 1 + 1)] _ (fun x => x = b) rfl rfl rfl rfl (Sp.cons (by repeat constructor) (Sp.refl _)) (fun x hx => ⟨_, .head _, hx⟩) (fun w' hs => drawP_ca (30) (K + 1 + 3 * cn + 1 + 1 + 1 + 1 + 1) (by omega) w' b lo hi bs (hby.keepP hlh hs.chg) hlh (hs.all _ (.head _))) ?_; rintro z1 _ ⟨rfl, hz1⟩
    ((iterate 2 refine ql_ar tabOk rfl rfl rfl rfl (by omega) (by omega) ?_))
    refine ql_callv tabOk rfl rfl rfl rfl (fun w hs => spanM_ca _ _ w) ?_
    ((iterate 3 refine ql_pure tabOk rfl rfl ?_))
    refine ql_call (β := Int) (ψ := fun zq v => v = .int .i64 zq ∧ 0 ≤ zq ∧ (zq < 40 ∨ zq = 0)) (L' := fun _ => [dkP bs b (K + 1 + 3 * cn + 1 + 1 + 1 + 1 + 1 + 1 + 1)]) tabOk [dkP bs b (K + 1 + 3 * cn + 1 + 1 + 1 + 1 + 1 + 1)] _ (fun x => x = b) rfl rfl rfl rfl (Sp.cons (by repeat constructor) (Sp.refl _)) (fun x hx => ⟨_, .head _, hx⟩) (fun w' hs => drawP_ca (40) (K + 1 + 3 * cn + 1 + 1 + 1 + 1 + 1 + 1) (by omega) w' b lo hi bs (hby.keepP hlh hs.chg) hlh (hs.all _ (.head _))) ?_; rintro z2 _ ⟨rfl, hz2⟩
    ((iterate 2 refine ql_ar tabOk rfl rfl rfl rfl (by omega) (by omega) ?_))
    refine ql_callv tabOk rfl rfl rfl rfl (fun w hs => spanM_ca _ _ w) ?_
    (refine ql_pure tabOk rfl rfl ?_)
    refine ql_call (β := Int) (ψ := fun zq v => v = .int .i64 zq ∧ 0 ≤ zq ∧ (zq < 4 ∨ zq = 0)) (L' := fun _ => [dkP bs b (K + 1 + 3 * cn + 1 + 1 + 1 + 1 + 1 + 1 + 1 + 1)]) tabOk [dkP bs b (K + 1 + 3 * cn + 1 + 1 + 1 + 1 + 1 + 1 + 1)] _ (fun x => x = b) rfl rfl rfl rfl (Sp.cons (by repeat constructor) (Sp.refl _)) (fun x hx => ⟨_, .head _, hx⟩) (fun w' hs => drawP_ca (4) (K + 1 + 3 * cn + 1 + 1 + 1 + 1 + 1 + 1 + 1) (by omega) w' b lo hi bs (hby.keepP hlh hs.chg) hlh (hs.all _ (.head _))) ?_; rintro z3 _ ⟨rfl, hz3⟩
    ((iterate 2 refine ql_ar tabOk rfl rfl rfl rfl (by omega) (by omega) ?_); refine ql_pure tabOk rfl rfl ?_)
    refine ql_call (β := Int) (ψ := fun zq v => v = .int .i64 zq ∧ 0 ≤ zq ∧ (zq < 10 ∨ zq = 0)) (L' := fun _ => [dkP bs b (K + 1 + 3 * cn + 1 + 1 + 1 + 1 + 1 + 1 + 1 + 1 + 1)]) tabOk [dkP bs b (K + 1 + 3 * cn + 1 + 1 + 1 + 1 + 1 + 1 + 1 + 1)] _ (fun x => x = b) rfl rfl rfl rfl (Sp.cons (by repeat constructor) (Sp.refl _)) (fun x hx => ⟨_, .head _, hx⟩) (fun w' hs => drawP_ca (10) (K + 1 + 3 * cn + 1 + 1 + 1 + 1 + 1 + 1 + 1 + 1) (by omega) w' b lo hi bs (hby.keepP hlh hs.chg) hlh (hs.all _ (.head _))) ?_; rintro z4 _ ⟨rfl, hz4⟩
    ((iterate 2 refine ql_ar tabOk rfl rfl rfl rfl (by omega) (by omega) ?_))
    refine ql_callv tabOk rfl rfl rfl rfl (fun w hs => spanM_ca _ _ w) ?_
    (refine ql_pure tabOk rfl rfl ?_)
    refine ql_stA [.int .i64 la, .int .i64 q1, .int .i64 (q1 + 100 * z1), .int .i64 0, .int .i64 0, .int .i64 0, .int .i64 0, .int .i64 wd, .int .i64 us] tabOk rfl rfl rfl rfl rfl (by repeat constructor) rfl rfl ?_
    (refine ql_pure tabOk rfl rfl ?_)
    refine ql_stA [.int .i64 la, .int .i64 q1, .int .i64 (q1 + 100 * z1), .int .i64 q2, .int .i64 (q2 + 10 * z2), .int .i64 0, .int .i64 0, .int .i64 wd, .int .i64 us] tabOk rfl rfl rfl rfl rfl (by repeat constructor) rfl rfl ?_
    (refine ql_pure tabOk rfl rfl ?_)
    refine ql_stA [.int .i64 la, .int .i64 q1, .int .i64 (q1 + 100 * z1), .int .i64 q2, .int .i64 (q2 + 10 * z2), .int .i64 (1500 + 100 * z3), .int .i64 (2500 + 100 * z4), .int .i64 wd, .int .i64 us] tabOk rfl rfl rfl rfl rfl (by repeat constructor) rfl rfl ?_
    (refine q_nil ?_; refine q_seq ?_)
    refine q_draw _ [.pt b7 _ _] (Sp.cons (by repeat constructor) (Sp.refl _)) (by kernel_rfl) (by kernel_rfl) ?_
    (refine qf_pure tabOk rfl rfl rfl ?_; refine qf_loadAB tabOk rfl rfl rfl (by repeat first | exact .head _ | refine .tail _ ?_) (by rfl) (by rfl) ?_; refine qf_pure tabOk rfl rfl rfl ?_; refine qf_setA tabOk rfl rfl rfl rfl rfl (by repeat constructor) rfl ?_; refine qf_nil ?_; refine q_ret ?_)
    refine q_fin tabOk rfl (by repeat (first | exact RVs.nil | apply RVs.tmp rfl | apply RVs.cellA rfl rfl (by repeat first | exact .head _ | refine .tail _ ?_) (by rfl) | apply RVs.cell1 rfl rfl (by repeat first | exact .head _ | refine .tail _ ?_))) fun w hs => ?_
    exact ⟨(g, cd, l, ⟨la, q1, q1 + 100 * z1, q2, q2 + 10 * z2, 1500 + 100 * z3, 2500 + 100 * z4, wd, us⟩), ⟨by rw [hle]; rfl, ⟨by simp only; omega, by simp only; omega, hB, by simp only; omega, by simp only; omega, by simp only; omega, by simp only; omega, by simp only; omega, by simp only; omega⟩⟩, by
      dsimp only
      rw [hle]
      exact (Sat.dk (K' := K + 100) (R := [.ow (.slice (some ⟨g, 0, none⟩) cn cd) 31 3 cn (lpC l)]) (hs.sp (by repeat (first | exact Sp.nil | exact Sp.refl _ | refine Sp.cons (by repeat constructor) ?_))) (by omega)).sp (by repeat (first | exact Sp.nil | exact Sp.refl _ | refine Sp.cons (by repeat constructor) ?_))⟩
end Go.Proofs.Ytgeajgmefokifaa

/- Walks: a list is sorted; a course is dealt. -/
namespace Go.Proofs.Ytgeajgmefokifaa
open Go Go.Eng

theorem getD_set (L : List Int) (i p : Nat) (v : Int) (hi : i < L.length) : (L.set i v).getD p 0 = if p = i then v else L.getD p 0 := by
  simp only [List.getD_eq_getElem?_getD, List.getElem?_set]
  by_cases h : i = p
  · rw [if_pos h, if_pos h.symm, if_pos hi]
    rfl
  · rw [if_neg h, if_neg (fun hh => h hh.symm)]
structure InsI (l L : List Int) (i : Nat) : Prop where
  perm : L.Perm l
  srt : ∀ p q, p < q → q < i → L.getD p 0 ≤ L.getD q 0
structure InsJ (l L : List Int) (i j : Nat) : Prop where
  perm : L.Perm l
  ji : j ≤ i
  srt : ∀ p q, p < q → q ≤ i → p ≠ j → q ≠ j → L.getD p 0 ≤ L.getD q 0
  low : ∀ q, j < q → q ≤ i → L.getD j 0 ≤ L.getD q 0
theorem InsI.open {l L : List Int} {i : Nat} (h : InsI l L i) : InsJ l L i i := ⟨h.perm, Nat.le_refl _, fun p q h1 h2 _ h3 => h.srt p q h1 (by omega), fun q h1 h2 => by omega⟩
theorem InsJ.close {l L : List Int} {i j : Nat} (h : InsJ l L i j) (hj : j = 0 ∨ L.getD (j - 1) 0 ≤ L.getD j 0) : InsI l L (i + 1) := by
  refine ⟨h.perm, fun p q h1 h2 => ?_⟩
  by_cases hp : p = j
  · subst hp
    exact h.low q h1 (by omega)
  by_cases hq : q = j
  · subst hq
    rcases hj with hj | hj
    · omega
    · by_cases hp2 : p = q - 1
      · subst hp2; exact hj
      · have := h.srt p (q - 1) (by omega) (by have := h.ji; omega) hp (by omega)
        omega
  · exact h.srt p q h1 (by omega) hp hq
theorem InsJ.swap {l L : List Int} {i j : Nat} (h : InsJ l L i j) (hj : 0 < j) (hi : i < L.length) (hlt : L.getD j 0 < L.getD (j - 1) 0) {x y : Int} (hx : L.getD (j - 1) 0 = x) (hy : L.getD j 0 = y) : InsJ l ((L.set j x).set (j - 1) y) i (j - 1) := by
  have hji := h.ji
  have e : ∀ p, ((L.set j x).set (j - 1) y).getD p 0 = if p = j - 1 then y else if p = j then x else L.getD p 0 := fun p => by
    rw [getD_set _ _ _ _ (by simp; omega), getD_set _ _ _ _ (by omega)]
  refine ⟨List.Perm.trans ?_ h.perm, by omega, fun p q h1 h2 h3 h4 => ?_, fun q h1 h2 => ?_⟩
  · have h1 : j < L.length := by omega
    have h2 : j - 1 < L.length := by omega
    have ex : x = L[j - 1] := by rw [← hx, getD_at h2]
    have ey : y = L[j] := by rw [← hy, getD_at h1]
    subst ex ey
    exact List.set_set_perm h1 h2
  · rw [e, e, if_neg h3, if_neg h4]
    by_cases hp : p = j
    · rw [if_pos hp, if_neg (by omega), ← hx]
      exact h.srt (j - 1) q (by omega) h2 (by omega) (by omega)
    · rw [if_neg hp]
      by_cases hq : q = j
      · rw [if_pos hq, ← hx]
        exact h.srt p (j - 1) (by omega) (by omega) hp (by omega)
      · rw [if_neg hq]
        exact h.srt p q h1 h2 hp hq
  · rw [e, e, if_pos rfl, if_neg (by omega), ← hy]
    by_cases hq : q = j
    · rw [if_pos hq]
      omega
    · rw [if_neg hq]
      exact h.low q (by omega) h2
theorem InsI.all {l L : List Int} (h : InsI l L L.length) : srtB L = true := by
  rw [ordB_srt]
  refine List.all_eq_true.2 fun i hi => ?_
  have hi := List.mem_range.1 hi
  have := h.srt i (i + 1) (by omega) (by omega)
  simpa using this
set_option maxHeartbeats 4000000 in
theorem ins_ca (w : World) (g c : Nat) (l : List Int) (h1 : 1 ≤ l.length) (hl : l.length ≤ 12) (hb : w.ownsRow 0 3 1 (.slice (some ⟨g, 0, none⟩) l.length c) l.length (ints l)) :
    Ca Try.prog 153 [.slice (some ⟨g, 0, none⟩) l.length c, .int .i64 0, .int .i64 l.length] w fun v w' => ∃ L : List Int, (v = .tuple #[] ∧ L.Perm l ∧ srtB L = true) ∧ Sat w (fun x => x = g) [.ow (.slice (some ⟨g, 0, none⟩) l.length c) 3 1 l.length (ints L)] w' := by
  refine q_of (Sat.own0 hb) Try.func153 rfl (by simp [Try.ntmps153]) ?_
  (refine q_seq ?_; refine q_region ?_; refine ql_pure tabOk rfl rfl ?_; refine ql_ar tabOk rfl rfl rfl rfl (by omega) (by omega) ?_; refine ql_pure tabOk rfl rfl ?_; refine q_nil ?_; refine q_block ?_)
  refine q_loop (σ := Nat × List Int) (fun s => 1 ≤ s.1 ∧ s.1 ≤ l.length ∧ InsI l s.2 s.1) (fun s => l.length - s.1) (fun s => [(0, .slice (some ⟨g, 0, none⟩) l.length c), (1, .int .i64 0), (2, .int .i64 l.length), (6, .int .i64 s.1)])
    (fun s => [.ow (.slice (some ⟨g, 0, none⟩) l.length c) 3 1 l.length (ints s.2)]) (1, l) ⟨by simp, h1, .refl _, fun p q h1 h2 => by simp only at h2; omega⟩ ⟨rfl, rfl, rfl, rfl, trivial⟩ (by repeat (first | exact Sp.nil | exact Sp.refl _ | refine Sp.cons (by repeat constructor) ?_)) ?_
  rintro ⟨i, L⟩ ⟨hi1, hi2, hI⟩ K hK
  simp only at hi1 hi2 hI
  dsimp only
  ((iterate 2 refine q_seq ?_); refine q_region ?_; (iterate 3 refine ql_pure tabOk rfl rfl ?_); refine q_nil ?_)
  refine q_if rfl (fun hc => ?_) (fun hc => ?_)
  · have hi3 : i < l.length := by omega
    clear hc
    (refine q_skip ?_; refine q_seq ?_; refine q_block ?_; refine q_seq ?_; refine q_region ?_; (iterate 2 refine ql_pure tabOk rfl rfl ?_); refine q_nil ?_; refine q_block ?_)
    refine q_loop (σ := Nat × List Int) (fun s => InsJ l s.2 i s.1) (fun s => s.1) (fun s => [(0, .slice (some ⟨g, 0, none⟩) l.length c), (1, .int .i64 0), (2, .int .i64 l.length), (6, .int .i64 i), (7, .int .i64 s.1)])
      (fun s => [.ow (.slice (some ⟨g, 0, none⟩) l.length c) 3 1 l.length (ints s.2)]) (i, L) hI.open ⟨rfl, rfl, rfl, rfl, rfl, trivial⟩ (by repeat (first | exact Sp.nil | exact Sp.refl _ | refine Sp.cons (by repeat constructor) ?_)) ?_
    rintro ⟨j, L2⟩ hJ K2 hK2
    simp only at hJ
    dsimp only
    have hji := hJ.ji
    have hlen : L2.length = l.length := hJ.perm.length_eq
    by_cases hj0 : 0 < j
    · have y1 : j < L2.length := by omega
      have y2 : j - 1 < L2.length := by omega
      have g1 := getD_at y1
      have g2 := getD_at y2
      obtain ⟨q, hq⟩ : ∃ q : Nat, (q : Int) = (j : Int) - 1 := ⟨j - 1, by omega⟩
      have hq2 : j - 1 = q := by omega
      simp only [hq2] at y2 g2
      have hclose := hJ.close
      have hswap := hJ.swap hj0 (by omega)
      simp only [hq2] at hclose hswap
      ((iterate 2 refine q_seq ?_))
      refine q_draw _ [] (Sp.refl _) (by kernel_rfl) (by kernel_rfl) ?_
      ((iterate 2 refine qf_pure tabOk rfl rfl rfl ?_); refine qf_gtrT tabOk rfl rfl rfl (by omega) ?_; refine qf_pure tabOk rfl rfl rfl ?_; refine qf_gyes rfl ?_; refine qf_pure tabOk rfl rfl rfl ?_; refine qf_gyes rfl ?_; refine qf_pure tabOk rfl rfl rfl ?_; refine qf_gyes rfl ?_)
      refine qf_index tabOk rfl rfl rfl rfl rfl (by omega) (by omega) ?_
      (refine qf_gyes rfl ?_)
      refine qf_load1 (v := .int .i64 L2[j]) tabOk rfl rfl rfl (fun w hs => RdI.at (hs.rdI (v := .slice (some ⟨g, 0, none⟩) l.length c) (l := L2) (t := 3) (n := l.length) (by repeat first | exact .head _ | refine .tail _ ?_) hlen.symm) j y1) ?_
      (refine qf_gyes rfl ?_; refine qf_pure tabOk rfl rfl rfl ?_; refine qf_gyes rfl ?_; refine qf_pure tabOk rfl rfl rfl ?_; refine qf_gyes rfl ?_; refine qf_ar tabOk rfl rfl rfl rfl (by omega) (by omega) ?_; refine qf_gyes rfl ?_)
      rw [← hq]
      refine qf_index tabOk rfl rfl rfl rfl rfl (by omega) (by omega) ?_
      (refine qf_gyes rfl ?_)
      refine qf_load1 (v := .int .i64 L2[q]) tabOk rfl rfl rfl (fun w hs => RdI.at (hs.rdI (v := .slice (some ⟨g, 0, none⟩) l.length c) (l := L2) (t := 3) (n := l.length) (by repeat first | exact .head _ | refine .tail _ ?_) hlen.symm) q y2) ?_
      (refine qf_gyes rfl ?_)
      refine qf_callv (val := .bool (decide (L2[j] < L2[q]))) tabOk rfl rfl rfl rfl (fun w hs => ?_) ?_; exact lessI_ca L2[j] L2[q] w
      by_cases hlt : L2[j] < L2[q]
      · have hs2 := hswap (by omega) g2 g1
        rw [decide_eq_true hlt]
        (refine qf_pure tabOk rfl rfl rfl ?_; refine qf_nil ?_; refine q_cond_true rfl ?_; refine q_skip ?_; refine q_seq ?_; refine q_block ?_)
        refine q_drawB [true, true, false, false, false, true, true, true, true, true, true, true, true, true, false, false, false, false] [] [.ow (.slice (some ⟨g, 0, none⟩) l.length c) 3 1 l.length (ints L2)] (by repeat (first | exact Sp.nil | exact Sp.refl _ | refine Sp.cons (by repeat constructor) ?_)) (by kernel_rfl) (by kernel_rfl) (by kernel_rfl) ?_
        refine qb_T 2 rfl rfl (Sp.refl _) fun K1 hK1 => ?_
        ((iterate 2 refine qf_pure tabOk rfl rfl rfl ?_); refine qf_nil ?_)
        refine hK1 _ _ (qb_F 3 [.ow (.slice (some ⟨g, 0, none⟩) l.length c) 3 1 l.length (ints L2)] rfl rfl (by repeat (first | exact Sp.nil | exact Sp.refl _ | refine Sp.cons (by repeat constructor) ?_)) fun K1 hK1 => ?_)
        ((iterate 2 refine qf_pure tabOk rfl rfl rfl ?_); refine qf_ar tabOk rfl rfl rfl rfl (by omega) (by omega) ?_; refine qf_nil ?_)
        refine hK1 _ _ (qb_T 9 rfl rfl (by repeat (first | exact Sp.nil | exact Sp.refl _ | refine Sp.cons (by repeat constructor) ?_)) fun K1 hK1 => ?_)
        ((iterate 2 refine qf_pure tabOk rfl rfl rfl ?_); refine qf_ar tabOk rfl rfl rfl rfl (by omega) (by omega) ?_)
        rw [← hq]
        (refine qf_index tabOk rfl rfl rfl rfl rfl (by omega) (by omega) ?_; refine qf_load1 tabOk rfl rfl rfl (fun w hs => RdI.at (hs.rdI (l := L2) (t := 3) (n := l.length) (by repeat first | exact .head _ | refine .tail _ ?_) hlen.symm) q y2) ?_)
        ((iterate 2 refine qf_pure tabOk rfl rfl rfl ?_))
        (refine qf_index tabOk rfl rfl rfl rfl rfl (by omega) (by omega) ?_; refine qf_load1 tabOk rfl rfl rfl (fun w hs => RdI.at (hs.rdI (l := L2) (t := 3) (n := l.length) (by repeat first | exact .head _ | refine .tail _ ?_) hlen.symm) j y1) ?_)
        (refine qf_nil ?_)
        refine hK1 _ _ (qb_F 4 [.ow (.slice (some ⟨g, 0, none⟩) l.length c) 3 1 l.length (ints L2)] rfl rfl (by repeat (first | exact Sp.nil | exact Sp.refl _ | refine Sp.cons (by repeat constructor) ?_)) fun K1 hK1 => ?_)
        skip
        refine qf_index tabOk rfl rfl rfl rfl rfl (by omega) (by omega) ?_
        refine qf_storeW tabOk j rfl rfl rfl rfl (by repeat constructor) (by omega) (by simpa using y1) ?_
        skip
        refine qf_index tabOk rfl rfl rfl rfl rfl (by omega) (by omega) ?_
        refine qf_storeW tabOk q rfl rfl rfl rfl (by repeat constructor) (by omega) (by simpa using y2) ?_
        rw [set_ints, set_ints]
        (refine qf_nil ?_)
        refine hK1 _ _ (qb_nil ?_)
        (refine q_blk ?_; refine q_region ?_; refine ql_pure tabOk rfl rfl ?_; refine ql_ar tabOk rfl rfl rfl rfl (by omega) (by omega) ?_; refine ql_pure tabOk rfl rfl ?_; refine q_nil ?_)
        exact hK2 (q, _) _ _ hs2 (by simp only; omega) ⟨rfl, rfl, rfl, rfl, lookI rfl (by omega), trivial⟩ (by repeat (first | exact Sp.nil | exact Sp.refl _ | refine Sp.cons (by repeat constructor) ?_))
      · have hI2 := hclose (.inr (by omega))
        rw [decide_eq_false hlt]
        (refine qf_pure tabOk rfl rfl rfl ?_; refine qf_nil ?_; refine q_cond_false rfl ?_; refine q_exit _ rfl ?_; refine q_blk ?_; refine q_region ?_; refine ql_pure tabOk rfl rfl ?_; refine ql_ar tabOk rfl rfl rfl rfl (by omega) (by omega) ?_; refine ql_pure tabOk rfl rfl ?_; refine q_nil ?_)
        exact hK (i + 1, L2) _ _ ⟨by simp only; omega, by simp only; omega, hI2⟩ (by simp only; omega) ⟨rfl, rfl, rfl, rfl, trivial⟩ (by repeat (first | exact Sp.nil | exact Sp.refl _ | refine Sp.cons (by repeat constructor) ?_))
    · have hI2 := hJ.close (.inl (by omega))
      obtain rfl : j = 0 := by omega
      ((iterate 2 refine q_seq ?_))
      refine q_draw _ [] (Sp.refl _) (by kernel_rfl) (by kernel_rfl) ?_
      ((iterate 2 refine qf_pure tabOk rfl rfl rfl ?_); refine qf_gtrF tabOk rfl rfl rfl (by omega) ?_; refine qf_pure tabOk rfl rfl rfl ?_; (iterate 10 refine qf_gno rfl rfl rfl ?_); refine qf_pure tabOk rfl rfl rfl ?_; refine qf_nil ?_; refine q_cond_false rfl ?_; refine q_exit _ rfl ?_; refine q_blk ?_; refine q_region ?_; refine ql_pure tabOk rfl rfl ?_; refine ql_ar tabOk rfl rfl rfl rfl (by omega) (by omega) ?_; refine ql_pure tabOk rfl rfl ?_; refine q_nil ?_)
      exact hK (i + 1, L2) _ _ ⟨by simp only; omega, by simp only; omega, hI2⟩ (by simp only; omega) ⟨rfl, rfl, rfl, rfl, trivial⟩ (by repeat (first | exact Sp.nil | exact Sp.refl _ | refine Sp.cons (by repeat constructor) ?_))
  · obtain rfl : i = l.length := by omega
    have hlen : L.length = l.length := hI.perm.length_eq
    (refine q_exit _ rfl ?_)
    refine q_end tabOk rfl (by repeat (first | exact RVs.nil | apply RVs.tmp rfl | apply RVs.cellA rfl rfl (by repeat first | exact .head _ | refine .tail _ ?_) (by rfl) | apply RVs.cell1 rfl rfl (by repeat first | exact .head _ | refine .tail _ ?_))) fun w hs => ?_
    exact ⟨L, ⟨rfl, hI.perm, InsI.all (by rw [hlen]; exact hI)⟩, hs⟩
end Go.Proofs.Ytgeajgmefokifaa

/- The engine, part B28: a byte of a string. -/
namespace Go.Eng
open Go Go.RowKit

section
variable {P : Program} {T : Tab}
variable {ro : Cx} {n : Nat} {F : Fin} {w0 : World} {M : Nat → Prop} {k : List It} {ops : Array Oper} {rest : List Oper} {e : Env} {H Hq : List Ck}
theorem ql_strAt {d xt : Nat} {x ix : Operand} (s : ByteArray) (ik : IntKind) (i : Nat) (c : UInt8) {ty : TypeId} {pos : String} {af : Array Edge} (hu : P.underlying xt = some .string)
    (hx : opv e x = some (.string s)) (hi : opv e ix = some (.int ik i)) (hc : s[i]? = some c) (hd : Nat.blt d n = true)
    (h : QL P ro n F w0 M k ops rest ((d, .int .u8 c.toNat) :: e) H) : QL P ro n F w0 M k ops (⟨some d, .index xt x ix, ty, pos, af, none⟩ :: rest) e H := .mk fun w hs => by
  refine yl_val (by simp) hd (fun a hf => ?_) (h.h w hs)
  have e1 := hf.op hx
  have e2 := hf.op hi
  simp only [execOp, e1, e2]
  simp [Instr.index, asIntOf, run_underlying hu, hc]
end
end Go.Eng

/- Walks: short lists are sorted; a course is dealt. -/
namespace Go.Proofs.Ytgeajgmefokifaa
open Go Go.Eng

theorem und_str : Try.prog.underlying 9 = some .string := by kernel_rfl
set_option maxHeartbeats 4000000 in
theorem len64_ca (n : Nat) (hn : n ≤ 12) (w : World) : Ca Try.prog 162 [.int .u64 n] w fun v w' => ∃ x : Int, v = .int .i64 x ∧ Sat w M0 [] w' := by
  refine q_of (Sat.nil w M0) Try.func162 rfl (by simp [Try.ntmps162]) ?_
  obtain rfl | rfl | rfl | rfl | rfl | rfl | rfl | rfl | rfl | rfl | rfl | rfl | rfl : n = 0 ∨ n = 1 ∨ n = 2 ∨ n = 3 ∨ n = 4 ∨ n = 5 ∨ n = 6 ∨ n = 7 ∨ n = 8 ∨ n = 9 ∨ n = 10 ∨ n = 11 ∨ n = 12 := by omega
  · (refine q_seq ?_; refine q_region ?_; refine ql_pure tabOk rfl rfl ?_; refine q_nil ?_; (iterate 2 refine q_seq ?_); refine q_region ?_; (iterate 2 refine ql_pure tabOk rfl rfl ?_); refine q_nil ?_; refine q_cond_false rfl ?_; refine q_skip ?_; (iterate 2 refine q_seq ?_); refine q_region ?_; (iterate 2 refine ql_pure tabOk rfl rfl ?_); refine q_nil ?_; refine q_cond_false rfl ?_; refine q_skip ?_; (iterate 2 refine q_seq ?_); refine q_region ?_; (iterate 2 refine ql_pure tabOk rfl rfl ?_); refine q_nil ?_; refine q_cond_false rfl ?_; refine q_skip ?_; refine q_seq ?_; refine q_region ?_; (iterate 3 refine ql_pure tabOk rfl rfl ?_))
    refine ql_strAt _ .u8 0 0 und_str rfl rfl (by kernel_rfl) rfl ?_
    ((iterate 3 refine ql_pure tabOk rfl rfl ?_); refine q_nil ?_; refine q_ret ?_)
    refine q_fin tabOk rfl (by repeat (first | exact RVs.nil | apply RVs.tmp rfl | apply RVs.cellA rfl rfl (by repeat first | exact .head _ | refine .tail _ ?_) (by rfl) | apply RVs.cell1 rfl rfl (by repeat first | exact .head _ | refine .tail _ ?_))) fun w hs => ?_
    exact ⟨_, rfl, hs⟩
  · (refine q_seq ?_; refine q_region ?_; refine ql_pure tabOk rfl rfl ?_; refine q_nil ?_; (iterate 2 refine q_seq ?_); refine q_region ?_; (iterate 2 refine ql_pure tabOk rfl rfl ?_); refine q_nil ?_; refine q_cond_false rfl ?_; refine q_skip ?_; (iterate 2 refine q_seq ?_); refine q_region ?_; (iterate 2 refine ql_pure tabOk rfl rfl ?_); refine q_nil ?_; refine q_cond_false rfl ?_; refine q_skip ?_; (iterate 2 refine q_seq ?_); refine q_region ?_; (iterate 2 refine ql_pure tabOk rfl rfl ?_); refine q_nil ?_; refine q_cond_false rfl ?_; refine q_skip ?_; refine q_seq ?_; refine q_region ?_; (iterate 3 refine ql_pure tabOk rfl rfl ?_))
    refine ql_strAt _ .u8 1 1 und_str rfl rfl (by kernel_rfl) rfl ?_
    ((iterate 3 refine ql_pure tabOk rfl rfl ?_); refine q_nil ?_; refine q_ret ?_)
    refine q_fin tabOk rfl (by repeat (first | exact RVs.nil | apply RVs.tmp rfl | apply RVs.cellA rfl rfl (by repeat first | exact .head _ | refine .tail _ ?_) (by rfl) | apply RVs.cell1 rfl rfl (by repeat first | exact .head _ | refine .tail _ ?_))) fun w hs => ?_
    exact ⟨_, rfl, hs⟩
  · (refine q_seq ?_; refine q_region ?_; refine ql_pure tabOk rfl rfl ?_; refine q_nil ?_; (iterate 2 refine q_seq ?_); refine q_region ?_; (iterate 2 refine ql_pure tabOk rfl rfl ?_); refine q_nil ?_; refine q_cond_false rfl ?_; refine q_skip ?_; (iterate 2 refine q_seq ?_); refine q_region ?_; (iterate 2 refine ql_pure tabOk rfl rfl ?_); refine q_nil ?_; refine q_cond_false rfl ?_; refine q_skip ?_; (iterate 2 refine q_seq ?_); refine q_region ?_; (iterate 2 refine ql_pure tabOk rfl rfl ?_); refine q_nil ?_; refine q_cond_false rfl ?_; refine q_skip ?_; refine q_seq ?_; refine q_region ?_; (iterate 3 refine ql_pure tabOk rfl rfl ?_))
    refine ql_strAt _ .u8 2 2 und_str rfl rfl (by kernel_rfl) rfl ?_
    ((iterate 3 refine ql_pure tabOk rfl rfl ?_); refine q_nil ?_; refine q_ret ?_)
    refine q_fin tabOk rfl (by repeat (first | exact RVs.nil | apply RVs.tmp rfl | apply RVs.cellA rfl rfl (by repeat first | exact .head _ | refine .tail _ ?_) (by rfl) | apply RVs.cell1 rfl rfl (by repeat first | exact .head _ | refine .tail _ ?_))) fun w hs => ?_
    exact ⟨_, rfl, hs⟩
  · (refine q_seq ?_; refine q_region ?_; refine ql_pure tabOk rfl rfl ?_; refine q_nil ?_; (iterate 2 refine q_seq ?_); refine q_region ?_; (iterate 2 refine ql_pure tabOk rfl rfl ?_); refine q_nil ?_; refine q_cond_false rfl ?_; refine q_skip ?_; (iterate 2 refine q_seq ?_); refine q_region ?_; (iterate 2 refine ql_pure tabOk rfl rfl ?_); refine q_nil ?_; refine q_cond_false rfl ?_; refine q_skip ?_; (iterate 2 refine q_seq ?_); refine q_region ?_; (iterate 2 refine ql_pure tabOk rfl rfl ?_); refine q_nil ?_; refine q_cond_false rfl ?_; refine q_skip ?_; refine q_seq ?_; refine q_region ?_; (iterate 3 refine ql_pure tabOk rfl rfl ?_))
    refine ql_strAt _ .u8 3 2 und_str rfl rfl (by kernel_rfl) rfl ?_
    ((iterate 3 refine ql_pure tabOk rfl rfl ?_); refine q_nil ?_; refine q_ret ?_)
    refine q_fin tabOk rfl (by repeat (first | exact RVs.nil | apply RVs.tmp rfl | apply RVs.cellA rfl rfl (by repeat first | exact .head _ | refine .tail _ ?_) (by rfl) | apply RVs.cell1 rfl rfl (by repeat first | exact .head _ | refine .tail _ ?_))) fun w hs => ?_
    exact ⟨_, rfl, hs⟩
  · (refine q_seq ?_; refine q_region ?_; refine ql_pure tabOk rfl rfl ?_; refine q_nil ?_; (iterate 2 refine q_seq ?_); refine q_region ?_; (iterate 2 refine ql_pure tabOk rfl rfl ?_); refine q_nil ?_; refine q_cond_false rfl ?_; refine q_skip ?_; (iterate 2 refine q_seq ?_); refine q_region ?_; (iterate 2 refine ql_pure tabOk rfl rfl ?_); refine q_nil ?_; refine q_cond_false rfl ?_; refine q_skip ?_; (iterate 2 refine q_seq ?_); refine q_region ?_; (iterate 2 refine ql_pure tabOk rfl rfl ?_); refine q_nil ?_; refine q_cond_false rfl ?_; refine q_skip ?_; refine q_seq ?_; refine q_region ?_; (iterate 3 refine ql_pure tabOk rfl rfl ?_))
    refine ql_strAt _ .u8 4 3 und_str rfl rfl (by kernel_rfl) rfl ?_
    ((iterate 3 refine ql_pure tabOk rfl rfl ?_); refine q_nil ?_; refine q_ret ?_)
    refine q_fin tabOk rfl (by repeat (first | exact RVs.nil | apply RVs.tmp rfl | apply RVs.cellA rfl rfl (by repeat first | exact .head _ | refine .tail _ ?_) (by rfl) | apply RVs.cell1 rfl rfl (by repeat first | exact .head _ | refine .tail _ ?_))) fun w hs => ?_
    exact ⟨_, rfl, hs⟩
  · (refine q_seq ?_; refine q_region ?_; refine ql_pure tabOk rfl rfl ?_; refine q_nil ?_; (iterate 2 refine q_seq ?_); refine q_region ?_; (iterate 2 refine ql_pure tabOk rfl rfl ?_); refine q_nil ?_; refine q_cond_false rfl ?_; refine q_skip ?_; (iterate 2 refine q_seq ?_); refine q_region ?_; (iterate 2 refine ql_pure tabOk rfl rfl ?_); refine q_nil ?_; refine q_cond_false rfl ?_; refine q_skip ?_; (iterate 2 refine q_seq ?_); refine q_region ?_; (iterate 2 refine ql_pure tabOk rfl rfl ?_); refine q_nil ?_; refine q_cond_false rfl ?_; refine q_skip ?_; refine q_seq ?_; refine q_region ?_; (iterate 3 refine ql_pure tabOk rfl rfl ?_))
    refine ql_strAt _ .u8 5 3 und_str rfl rfl (by kernel_rfl) rfl ?_
    ((iterate 3 refine ql_pure tabOk rfl rfl ?_); refine q_nil ?_; refine q_ret ?_)
    refine q_fin tabOk rfl (by repeat (first | exact RVs.nil | apply RVs.tmp rfl | apply RVs.cellA rfl rfl (by repeat first | exact .head _ | refine .tail _ ?_) (by rfl) | apply RVs.cell1 rfl rfl (by repeat first | exact .head _ | refine .tail _ ?_))) fun w hs => ?_
    exact ⟨_, rfl, hs⟩
  · (refine q_seq ?_; refine q_region ?_; refine ql_pure tabOk rfl rfl ?_; refine q_nil ?_; (iterate 2 refine q_seq ?_); refine q_region ?_; (iterate 2 refine ql_pure tabOk rfl rfl ?_); refine q_nil ?_; refine q_cond_false rfl ?_; refine q_skip ?_; (iterate 2 refine q_seq ?_); refine q_region ?_; (iterate 2 refine ql_pure tabOk rfl rfl ?_); refine q_nil ?_; refine q_cond_false rfl ?_; refine q_skip ?_; (iterate 2 refine q_seq ?_); refine q_region ?_; (iterate 2 refine ql_pure tabOk rfl rfl ?_); refine q_nil ?_; refine q_cond_false rfl ?_; refine q_skip ?_; refine q_seq ?_; refine q_region ?_; (iterate 3 refine ql_pure tabOk rfl rfl ?_))
    refine ql_strAt _ .u8 6 3 und_str rfl rfl (by kernel_rfl) rfl ?_
    ((iterate 3 refine ql_pure tabOk rfl rfl ?_); refine q_nil ?_; refine q_ret ?_)
    refine q_fin tabOk rfl (by repeat (first | exact RVs.nil | apply RVs.tmp rfl | apply RVs.cellA rfl rfl (by repeat first | exact .head _ | refine .tail _ ?_) (by rfl) | apply RVs.cell1 rfl rfl (by repeat first | exact .head _ | refine .tail _ ?_))) fun w hs => ?_
    exact ⟨_, rfl, hs⟩
  · (refine q_seq ?_; refine q_region ?_; refine ql_pure tabOk rfl rfl ?_; refine q_nil ?_; (iterate 2 refine q_seq ?_); refine q_region ?_; (iterate 2 refine ql_pure tabOk rfl rfl ?_); refine q_nil ?_; refine q_cond_false rfl ?_; refine q_skip ?_; (iterate 2 refine q_seq ?_); refine q_region ?_; (iterate 2 refine ql_pure tabOk rfl rfl ?_); refine q_nil ?_; refine q_cond_false rfl ?_; refine q_skip ?_; (iterate 2 refine q_seq ?_); refine q_region ?_; (iterate 2 refine ql_pure tabOk rfl rfl ?_); refine q_nil ?_; refine q_cond_false rfl ?_; refine q_skip ?_; refine q_seq ?_; refine q_region ?_; (iterate 3 refine ql_pure tabOk rfl rfl ?_))
    refine ql_strAt _ .u8 7 3 und_str rfl rfl (by kernel_rfl) rfl ?_
    ((iterate 3 refine ql_pure tabOk rfl rfl ?_); refine q_nil ?_; refine q_ret ?_)
    refine q_fin tabOk rfl (by repeat (first | exact RVs.nil | apply RVs.tmp rfl | apply RVs.cellA rfl rfl (by repeat first | exact .head _ | refine .tail _ ?_) (by rfl) | apply RVs.cell1 rfl rfl (by repeat first | exact .head _ | refine .tail _ ?_))) fun w hs => ?_
    exact ⟨_, rfl, hs⟩
  · (refine q_seq ?_; refine q_region ?_; refine ql_pure tabOk rfl rfl ?_; refine q_nil ?_; (iterate 2 refine q_seq ?_); refine q_region ?_; (iterate 2 refine ql_pure tabOk rfl rfl ?_); refine q_nil ?_; refine q_cond_false rfl ?_; refine q_skip ?_; (iterate 2 refine q_seq ?_); refine q_region ?_; (iterate 2 refine ql_pure tabOk rfl rfl ?_); refine q_nil ?_; refine q_cond_false rfl ?_; refine q_skip ?_; (iterate 2 refine q_seq ?_); refine q_region ?_; (iterate 2 refine ql_pure tabOk rfl rfl ?_); refine q_nil ?_; refine q_cond_false rfl ?_; refine q_skip ?_; refine q_seq ?_; refine q_region ?_; (iterate 3 refine ql_pure tabOk rfl rfl ?_))
    refine ql_strAt _ .u8 8 4 und_str rfl rfl (by kernel_rfl) rfl ?_
    ((iterate 3 refine ql_pure tabOk rfl rfl ?_); refine q_nil ?_; refine q_ret ?_)
    refine q_fin tabOk rfl (by repeat (first | exact RVs.nil | apply RVs.tmp rfl | apply RVs.cellA rfl rfl (by repeat first | exact .head _ | refine .tail _ ?_) (by rfl) | apply RVs.cell1 rfl rfl (by repeat first | exact .head _ | refine .tail _ ?_))) fun w hs => ?_
    exact ⟨_, rfl, hs⟩
  · (refine q_seq ?_; refine q_region ?_; refine ql_pure tabOk rfl rfl ?_; refine q_nil ?_; (iterate 2 refine q_seq ?_); refine q_region ?_; (iterate 2 refine ql_pure tabOk rfl rfl ?_); refine q_nil ?_; refine q_cond_false rfl ?_; refine q_skip ?_; (iterate 2 refine q_seq ?_); refine q_region ?_; (iterate 2 refine ql_pure tabOk rfl rfl ?_); refine q_nil ?_; refine q_cond_false rfl ?_; refine q_skip ?_; (iterate 2 refine q_seq ?_); refine q_region ?_; (iterate 2 refine ql_pure tabOk rfl rfl ?_); refine q_nil ?_; refine q_cond_false rfl ?_; refine q_skip ?_; refine q_seq ?_; refine q_region ?_; (iterate 3 refine ql_pure tabOk rfl rfl ?_))
    refine ql_strAt _ .u8 9 4 und_str rfl rfl (by kernel_rfl) rfl ?_
    ((iterate 3 refine ql_pure tabOk rfl rfl ?_); refine q_nil ?_; refine q_ret ?_)
    refine q_fin tabOk rfl (by repeat (first | exact RVs.nil | apply RVs.tmp rfl | apply RVs.cellA rfl rfl (by repeat first | exact .head _ | refine .tail _ ?_) (by rfl) | apply RVs.cell1 rfl rfl (by repeat first | exact .head _ | refine .tail _ ?_))) fun w hs => ?_
    exact ⟨_, rfl, hs⟩
  · (refine q_seq ?_; refine q_region ?_; refine ql_pure tabOk rfl rfl ?_; refine q_nil ?_; (iterate 2 refine q_seq ?_); refine q_region ?_; (iterate 2 refine ql_pure tabOk rfl rfl ?_); refine q_nil ?_; refine q_cond_false rfl ?_; refine q_skip ?_; (iterate 2 refine q_seq ?_); refine q_region ?_; (iterate 2 refine ql_pure tabOk rfl rfl ?_); refine q_nil ?_; refine q_cond_false rfl ?_; refine q_skip ?_; (iterate 2 refine q_seq ?_); refine q_region ?_; (iterate 2 refine ql_pure tabOk rfl rfl ?_); refine q_nil ?_; refine q_cond_false rfl ?_; refine q_skip ?_; refine q_seq ?_; refine q_region ?_; (iterate 3 refine ql_pure tabOk rfl rfl ?_))
    refine ql_strAt _ .u8 10 4 und_str rfl rfl (by kernel_rfl) rfl ?_
    ((iterate 3 refine ql_pure tabOk rfl rfl ?_); refine q_nil ?_; refine q_ret ?_)
    refine q_fin tabOk rfl (by repeat (first | exact RVs.nil | apply RVs.tmp rfl | apply RVs.cellA rfl rfl (by repeat first | exact .head _ | refine .tail _ ?_) (by rfl) | apply RVs.cell1 rfl rfl (by repeat first | exact .head _ | refine .tail _ ?_))) fun w hs => ?_
    exact ⟨_, rfl, hs⟩
  · (refine q_seq ?_; refine q_region ?_; refine ql_pure tabOk rfl rfl ?_; refine q_nil ?_; (iterate 2 refine q_seq ?_); refine q_region ?_; (iterate 2 refine ql_pure tabOk rfl rfl ?_); refine q_nil ?_; refine q_cond_false rfl ?_; refine q_skip ?_; (iterate 2 refine q_seq ?_); refine q_region ?_; (iterate 2 refine ql_pure tabOk rfl rfl ?_); refine q_nil ?_; refine q_cond_false rfl ?_; refine q_skip ?_; (iterate 2 refine q_seq ?_); refine q_region ?_; (iterate 2 refine ql_pure tabOk rfl rfl ?_); refine q_nil ?_; refine q_cond_false rfl ?_; refine q_skip ?_; refine q_seq ?_; refine q_region ?_; (iterate 3 refine ql_pure tabOk rfl rfl ?_))
    refine ql_strAt _ .u8 11 4 und_str rfl rfl (by kernel_rfl) rfl ?_
    ((iterate 3 refine ql_pure tabOk rfl rfl ?_); refine q_nil ?_; refine q_ret ?_)
    refine q_fin tabOk rfl (by repeat (first | exact RVs.nil | apply RVs.tmp rfl | apply RVs.cellA rfl rfl (by repeat first | exact .head _ | refine .tail _ ?_) (by rfl) | apply RVs.cell1 rfl rfl (by repeat first | exact .head _ | refine .tail _ ?_))) fun w hs => ?_
    exact ⟨_, rfl, hs⟩
  · (refine q_seq ?_; refine q_region ?_; refine ql_pure tabOk rfl rfl ?_; refine q_nil ?_; (iterate 2 refine q_seq ?_); refine q_region ?_; (iterate 2 refine ql_pure tabOk rfl rfl ?_); refine q_nil ?_; refine q_cond_false rfl ?_; refine q_skip ?_; (iterate 2 refine q_seq ?_); refine q_region ?_; (iterate 2 refine ql_pure tabOk rfl rfl ?_); refine q_nil ?_; refine q_cond_false rfl ?_; refine q_skip ?_; (iterate 2 refine q_seq ?_); refine q_region ?_; (iterate 2 refine ql_pure tabOk rfl rfl ?_); refine q_nil ?_; refine q_cond_false rfl ?_; refine q_skip ?_; refine q_seq ?_; refine q_region ?_; (iterate 3 refine ql_pure tabOk rfl rfl ?_))
    refine ql_strAt _ .u8 12 4 und_str rfl rfl (by kernel_rfl) rfl ?_
    ((iterate 3 refine ql_pure tabOk rfl rfl ?_); refine q_nil ?_; refine q_ret ?_)
    refine q_fin tabOk rfl (by repeat (first | exact RVs.nil | apply RVs.tmp rfl | apply RVs.cellA rfl rfl (by repeat first | exact .head _ | refine .tail _ ?_) (by rfl) | apply RVs.cell1 rfl rfl (by repeat first | exact .head _ | refine .tail _ ?_))) fun w hs => ?_
    exact ⟨_, rfl, hs⟩
theorem len_ca (n : Nat) (hn : n ≤ 12) (w : World) : Ca Try.prog 141 [.int .u64 n] w fun v w' => ∃ x : Int, v = .int .i64 x ∧ Sat w M0 [] w' := by
  refine q_of (Sat.nil w M0) Try.func141 rfl (by simp [Try.ntmps141]) ?_
  (refine q_seq ?_; refine q_region ?_; refine ql_pure tabOk rfl rfl ?_; refine q_nil ?_; refine q_seq ?_; refine q_cond_false rfl ?_; refine q_skip ?_; refine q_seq ?_; refine q_region ?_; refine ql_pure tabOk rfl rfl ?_)
  refine ql_call (β := Int) tabOk [] _ M0 rfl rfl rfl rfl (Sp.refl _) (fun _ h => h.elim) (fun w' hs => len64_ca n hn w') ?_
  rintro x _ rfl
  dsimp only [List.cons_append, List.nil_append]
  (refine ql_pure tabOk rfl rfl ?_; refine q_nil ?_; refine q_ret ?_)
  refine q_fin tabOk rfl (by repeat (first | exact RVs.nil | apply RVs.tmp rfl | apply RVs.cellA rfl rfl (by repeat first | exact .head _ | refine .tail _ ?_) (by rfl) | apply RVs.cell1 rfl rfl (by repeat first | exact .head _ | refine .tail _ ?_))) fun w hs => ?_
  exact ⟨_, rfl, hs⟩
set_option maxHeartbeats 4000000 in
theorem pdq_ca (w : World) (g c : Nat) (l : List Int) (lim : Int) (h1 : 1 ≤ l.length) (hl : l.length ≤ 12) (hb : w.ownsRow 0 3 1 (.slice (some ⟨g, 0, none⟩) l.length c) l.length (ints l)) :
    Ca Try.prog 140 [.slice (some ⟨g, 0, none⟩) l.length c, .int .i64 0, .int .i64 l.length, .int .i64 lim] w fun v w' => ∃ L : List Int, (v = .tuple #[] ∧ L.Perm l ∧ srtB L = true) ∧ Sat w (fun x => x = g) [.ow (.slice (some ⟨g, 0, none⟩) l.length c) 3 1 l.length (ints L)] w' := by
  refine q_of (Sat.own0 hb) Try.func140 rfl (by simp [Try.ntmps140]) ?_
  (refine q_seq ?_; refine q_region ?_; refine ql_pure tabOk rfl rfl ?_; refine q_nil ?_; refine q_seq ?_; refine q_region ?_; refine ql_pure tabOk rfl rfl ?_; refine q_nil ?_; refine q_block ?_)
  refine q_loop (σ := Unit) (fun _ => True) (fun _ => 0) (fun _ => [(0, .slice (some ⟨g, 0, none⟩) l.length c), (1, .int .i64 0), (2, .int .i64 l.length)])
    (fun _ => [.ow (.slice (some ⟨g, 0, none⟩) l.length c) 3 1 l.length (ints l)]) () trivial ⟨rfl, rfl, rfl, trivial⟩ (by repeat (first | exact Sp.nil | exact Sp.refl _ | refine Sp.cons (by repeat constructor) ?_)) ?_
  rintro _ _ K hK
  clear hK
  (refine q_block ?_; refine q_seq ?_; refine q_region ?_; (iterate 2 refine ql_pure tabOk rfl rfl ?_); refine ql_ar tabOk rfl rfl rfl rfl (by omega) (by omega) ?_; refine ql_pure tabOk rfl rfl ?_; refine q_nil ?_; (iterate 2 refine q_seq ?_); refine q_region ?_; refine ql_pure tabOk rfl rfl ?_; refine ql_leqT tabOk rfl rfl rfl (by omega) ?_; refine q_nil ?_; refine q_cond_true rfl ?_; refine q_seq ?_; refine q_region ?_; (iterate 3 refine ql_pure tabOk rfl rfl ?_))
  refine ql_call (β := List Int) (ψ := fun L v => v = .tuple #[] ∧ L.Perm l ∧ srtB L = true) (L' := fun L => [.ow (.slice (some ⟨g, 0, none⟩) l.length c) 3 1 l.length (ints L)]) tabOk [.ow (.slice (some ⟨g, 0, none⟩) l.length c) 3 1 l.length (ints l)] _ (fun x => x = g) rfl rfl rfl rfl (Sp.cons (by repeat constructor) (Sp.refl _)) (fun x hx => ⟨_, .head _, by subst hx; rfl⟩) (fun w' hs => ins_ca w' g c l h1 hl (hs.all _ (.head _))) ?_
  rintro L _ ⟨rfl, hp, hso⟩
  dsimp only [List.cons_append, List.nil_append]
  (refine q_nil ?_; refine q_ret ?_)
  refine q_fin tabOk rfl (by repeat (first | exact RVs.nil | apply RVs.tmp rfl | apply RVs.cellA rfl rfl (by repeat first | exact .head _ | refine .tail _ ?_) (by rfl) | apply RVs.cell1 rfl rfl (by repeat first | exact .head _ | refine .tail _ ?_))) fun w hs => ?_
  exact ⟨L, ⟨rfl, hp, hso⟩, hs⟩
set_option maxHeartbeats 4000000 in
theorem sort_ca (w : World) (g c : Nat) (l : List Int) (h1 : 1 ≤ l.length) (hl : l.length ≤ 12) (hb : w.ownsRow 0 3 1 (.slice (some ⟨g, 0, none⟩) l.length c) l.length (ints l)) :
    Ca Try.prog 120 [.slice (some ⟨g, 0, none⟩) l.length c] w fun v w' => ∃ L : List Int, (v = .tuple #[] ∧ L.Perm l ∧ srtB L = true) ∧ Sat w (fun x => x = g) [.ow (.slice (some ⟨g, 0, none⟩) l.length c) 3 1 l.length (ints L)] w' := by
  refine q_of (Sat.own0 hb) Try.func120 rfl (by simp [Try.ntmps120]) ?_
  (refine q_seq ?_; refine q_region ?_; (iterate 3 refine ql_pure tabOk rfl rfl ?_); refine q_nil ?_; refine q_region ?_; (iterate 4 refine ql_pure tabOk rfl rfl ?_))
  have ew : IntKind.u64.wrap (l.length : Int) = l.length := by
    simp only [IntKind.wrap, IntKind.signed, IntKind.bits]
    simp
    omega
  refine ql_call (β := Int) tabOk [] _ M0 rfl rfl rfl rfl (Sp.refl _) (fun _ h => h.elim) (fun w' hs => by
    have := len_ca l.length hl w'
    rw [← ew] at this
    exact this) ?_
  rintro x _ rfl
  dsimp only [List.cons_append, List.nil_append]
  skip
  refine ql_call (β := List Int) (ψ := fun L v => v = .tuple #[] ∧ L.Perm l ∧ srtB L = true) (L' := fun L => [.ow (.slice (some ⟨g, 0, none⟩) l.length c) 3 1 l.length (ints L)]) tabOk [.ow (.slice (some ⟨g, 0, none⟩) l.length c) 3 1 l.length (ints l)] _ (fun x => x = g) rfl rfl rfl rfl (Sp.cons (by repeat constructor) (Sp.refl _)) (fun x hx => ⟨_, .head _, by subst hx; rfl⟩) (fun w' hs => pdq_ca w' g c l x h1 hl (hs.all _ (.head _))) ?_
  rintro L _ ⟨rfl, hp, hso⟩
  dsimp only [List.cons_append, List.nil_append]
  (refine q_nil ?_)
  refine q_end tabOk rfl (by repeat (first | exact RVs.nil | apply RVs.tmp rfl | apply RVs.cellA rfl rfl (by repeat first | exact .head _ | refine .tail _ ?_) (by rfl) | apply RVs.cell1 rfl rfl (by repeat first | exact .head _ | refine .tail _ ?_))) fun w hs => ?_
  exact ⟨L, ⟨rfl, hp, hso⟩, hs⟩
set_option maxHeartbeats 4000000 in
theorem picked_ca (loops laps : Nat) (h1 : 1 ≤ loops) (h2 : loops ≤ 12) (h3 : 1 ≤ laps) (h4 : laps ≤ 6) (K : Nat) (hK : K < 100000) (w : World) (b lo hi : Nat) (bs : Value) (hby : DkB w lo hi bs) (hlh : hi ≤ b) (hd : DkS w b bs K) :
    Ca Try.prog 84 [.pointer (some ⟨b, 0, none⟩), .int .i64 loops, .int .i64 laps] w fun v w' => ∃ y : Nat × Nat × List Int, (v = .slice (some ⟨y.1, 0, none⟩) y.2.2.length y.2.1 ∧ y.2.2.length = laps ∧ (∀ x ∈ y.2.2, 0 ≤ x ∧ x < loops) ∧ srtB y.2.2 = true) ∧ Sat w (fun x => x = b) [.ow (.slice (some ⟨y.1, 0, none⟩) y.2.2.length y.2.1) 3 1 y.2.2.length (ints y.2.2), dkP bs b (K + 6)] w' := by
  refine q_of (dk_sat hd) Try.func84 rfl (by simp [Try.ntmps84]) ?_
  (refine q_seq ?_; refine q_region ?_; refine ql_pure tabOk rfl rfl ?_; refine q_nil ?_; refine q_seq ?_; refine q_region ?_; refine ql_pure tabOk rfl rfl ?_; refine q_nil ?_; (iterate 2 refine q_seq ?_); refine q_region ?_; (iterate 2 refine ql_pure tabOk rfl rfl ?_); refine q_nil ?_; refine q_block ?_)
  refine q_conv (H' := [.ow (.slice none 0 0) 3 1 0 (ints []), dkP bs b (K + 0)]) (fun w' hs => (Sat.ownil hs 3 1).sp (by repeat (first | exact Sp.nil | exact Sp.refl _ | refine Sp.cons (by repeat constructor) ?_))) ?_
  refine q_loop (σ := Value × List Int) (fun s => s.2.length ≤ laps ∧ ∀ x ∈ s.2, 0 ≤ x ∧ x < loops) (fun s => laps - s.2.length) (fun s => [(0, .pointer (some ⟨b, 0, none⟩)), (1, .int .i64 loops), (7, s.1), (8, .int .i64 laps), (9, .int .i64 s.2.length)])
    (fun s => [.ow s.1 3 1 s.2.length (ints s.2), dkP bs b (K + s.2.length)]) (.slice none 0 0, []) (by simp) ⟨rfl, rfl, rfl, rfl, rfl, trivial⟩ (by repeat (first | exact Sp.nil | exact Sp.refl _ | refine Sp.cons (by repeat constructor) ?_)) ?_
  rintro ⟨v, l⟩ ⟨hl, hB⟩ K1 hK1
  simp only at hl hB
  dsimp only
  (refine q_seq ?_; refine q_region ?_; refine ql_pure tabOk rfl rfl ?_; refine q_nil ?_; refine q_seq ?_)
  refine q_if rfl (fun hc => ?_) (fun hc => ?_)
  · have hl2 : l.length < laps := by omega
    clear hc
    obtain ⟨k, hk⟩ : ∃ k, k = l.length := ⟨_, rfl⟩
    rw [← hk]
    (refine q_skip ?_; refine q_seq ?_; refine q_block ?_; refine q_region ?_; (iterate 3 refine ql_pure tabOk rfl rfl ?_))
    refine ql_call (β := Int) (ψ := fun zq v => v = .int .i64 zq ∧ 0 ≤ zq ∧ (zq < (loops : Int) ∨ zq = 0)) (L' := fun _ => [dkP bs b (K + k + 1)]) tabOk [dkP bs b (K + k)] _ (fun x => x = b) rfl rfl rfl rfl (Sp.cons (by repeat constructor) (Sp.refl _)) (fun x hx => ⟨_, .head _, hx⟩) (fun w' hs => drawP_ca ((loops : Int)) (K + k) (by omega) w' b lo hi bs (hby.keepP hlh hs.chg) hlh (hs.all _ (.head _))) ?_; rintro x1 _ ⟨rfl, hx1⟩
    skip
    refine ql_mkS 3 [.int .i64 x1] rfl (by kernel_rfl) rfl (fun bn => ?_)
    refine ql_append (q := 1) slI rfl rfl rfl (fun v' => by repeat constructor) (fun w' hs => ⟨_, _, Blk.rd (hs.blk (b := bn) (by repeat first | exact .head _ | refine .tail _ ?_)) rfl 1⟩) (by simp [oneV]) (by omega) (by omega) (fun u => ?_)
    (refine ql_pure tabOk rfl rfl ?_; refine q_nil ?_; refine q_blk ?_; refine q_region ?_; refine ql_ar tabOk rfl rfl rfl rfl (by omega) (by omega) ?_; refine ql_pure tabOk rfl rfl ?_; refine q_nil ?_)
    exact hK1 (u, l ++ [x1]) _ _ ⟨by simp only [List.length_append, List.length_cons, List.length_nil]; omega, fun d hd => by
      rcases List.mem_append.1 hd with hd | hd
      · exact hB d hd
      · obtain rfl := List.mem_singleton.1 hd
        omega⟩ (by simp only [List.length_append, List.length_cons, List.length_nil]; omega) ⟨rfl, rfl, rfl, rfl, lookI rfl (by simp; omega), trivial⟩ (by dsimp only; rw [show ints (l ++ [x1]) = ints l ++ [.int .i64 x1] by simp [ints], List.length_append, ← hk]; repeat (first | exact Sp.nil | exact Sp.refl _ | refine Sp.cons (by repeat constructor) ?_))
  · have hle : l.length = laps := by omega
    clear hc hK1
    refine q_fact (fun w hs => hs.ownSome (v := v) (by repeat first | exact .head _ | refine .tail _ ?_) (by omega)) ?_
    rintro ⟨g, cd, rfl⟩
    (refine q_exit _ rfl ?_; refine q_seq ?_; refine q_region ?_; refine ql_pure tabOk rfl rfl ?_)
    refine ql_call (β := List Int) (ψ := fun L v => v = .tuple #[] ∧ L.Perm l ∧ srtB L = true) (L' := fun L => [.ow (.slice (some ⟨g, 0, none⟩) l.length cd) 3 1 l.length (ints L)]) tabOk [.ow (.slice (some ⟨g, 0, none⟩) l.length cd) 3 1 l.length (ints l)] _ (fun x => x = g) rfl rfl rfl rfl (Sp.cons (by repeat constructor) (Sp.refl _)) (fun x hx => ⟨_, .head _, by subst hx; rfl⟩) (fun w' hs => sort_ca w' g cd l (by omega) (by omega) (hs.all _ (.head _))) ?_
    rintro L _ ⟨rfl, hp, hso⟩
    dsimp only [List.cons_append, List.nil_append]
    have hLl := hp.length_eq
    rw [← hLl]
    (refine q_nil ?_; refine q_seq ?_; refine q_region ?_; (iterate 2 refine ql_pure tabOk rfl rfl ?_); refine q_nil ?_; refine q_ret ?_)
    refine q_fin tabOk rfl (by repeat (first | exact RVs.nil | apply RVs.tmp rfl | apply RVs.cellA rfl rfl (by repeat first | exact .head _ | refine .tail _ ?_) (by rfl) | apply RVs.cell1 rfl rfl (by repeat first | exact .head _ | refine .tail _ ?_))) fun w hs => ?_
    exact ⟨(g, cd, L), ⟨rfl, by simp only; omega, fun x hx => hB x (hp.mem_iff.1 hx), hso⟩, (Sat.dk (K' := K + 6) (R := [.ow (.slice (some ⟨g, 0, none⟩) L.length cd) 3 1 L.length (ints L)]) (hs.sp (by repeat (first | exact Sp.nil | exact Sp.refl _ | refine Sp.cons (by repeat constructor) ?_))) (by omega)).sp (by repeat (first | exact Sp.nil | exact Sp.refl _ | refine Sp.cons (by repeat constructor) ?_))⟩
end Go.Proofs.Ytgeajgmefokifaa

/- The plain laws of CourseYielded: rules that are made wider. -/
namespace Go.Proofs.Ytgeajgmefokifaa

/-- Which rule is broken. -/
def mkJ (s : List Lp) (r : Rl) (c : List Int) (j : Nat) : Bool := (marksV s r c).getD j false
theorem mem_markI : ∀ (m : List Bool) (i j : Int), j ∈ markI m i ↔ ∃ k : Nat, k < m.length ∧ j = i + k ∧ m.getD k false = true
  | [], i, j => by simp [markI]
  | b :: m, i, j => by
    rw [markI, List.mem_append, mem_markI m (i + 1) j]
    constructor
    · rintro (h | ⟨k, h1, h2, h3⟩)
      · cases b with
        | false => simp at h
        | true =>
          simp at h
          exact ⟨0, by simp, by omega, by simp⟩
      · exact ⟨k + 1, by simp; omega, by omega, by simpa using h3⟩
    · rintro ⟨k, h1, h2, h3⟩
      cases k with
      | zero =>
        simp at h3
        subst h3
        left
        simp
        omega
      | succ k => exact .inr ⟨k, by simpa using h1, by omega, by simpa using h3⟩
theorem mem_brk {s : List Lp} {r : Rl} {c : List Int} {j : Int} : j ∈ brkL s r c ↔ ∃ k : Nat, k < 5 ∧ j = k ∧ mkJ s r c k = true := by
  unfold brkL mkJ
  rw [mem_markI]
  constructor
  · rintro ⟨k, h1, h2, h3⟩
    exact ⟨k, by simpa [marksV] using h1, by omega, h3⟩
  · rintro ⟨k, h1, h2, h3⟩
    exact ⟨k, by simpa [marksV] using h1, by omega, h3⟩
theorem markI_sorted : ∀ (m : List Bool) (i : Int), (markI m i).Pairwise (· < ·)
  | [], _ => by simp [markI]
  | b :: m, i => by
    rw [markI, List.pairwise_append]
    refine ⟨by cases b <;> simp, markI_sorted m (i + 1), fun x hx y hy => ?_⟩
    obtain ⟨k, _, h2, _⟩ := (mem_markI m (i + 1) y).1 hy
    cases b with
    | false => simp at hx
    | true => simp at hx; omega
theorem markI_le : ∀ (a b : List Bool) (i i' : Int), a.length = b.length → (∀ k, a.getD k false = true → b.getD k false = true) → (markI a i).length ≤ (markI b i').length
  | [], _, _, _, _, _ => by simp [markI]
  | x :: a, [], _, _, h, _ => by simp at h
  | x :: a, y :: b, i, i', h, hk => by
    have ih := markI_le a b (i + 1) (i' + 1) (by simpa using h) (fun k hh => by simpa using hk (k + 1) (by simpa using hh))
    have h0 := hk 0
    simp only [List.getD_cons_zero] at h0
    simp only [markI, List.length_append]
    cases x <;> cases y <;> simp_all
    omega
theorem markI_lt : ∀ (a b : List Bool) (i i' : Int), a.length = b.length → (∀ k, a.getD k false = true → b.getD k false = true) → (∃ k, b.getD k false = true ∧ a.getD k false = false) → (markI a i).length < (markI b i').length
  | [], b, _, _, h, _, ⟨k, h1, _⟩ => by
    obtain rfl : b = [] := List.eq_nil_of_length_eq_zero h.symm
    simp at h1
  | x :: a, [], _, _, h, _, _ => by simp at h
  | x :: a, y :: b, i, i', h, hk, ⟨k, h1, h2⟩ => by
    have h0 := hk 0
    simp only [List.getD_cons_zero] at h0
    have hk' : ∀ k, a.getD k false = true → b.getD k false = true := fun k hh => by simpa using hk (k + 1) (by simpa using hh)
    simp only [markI, List.length_append]
    cases k with
    | zero =>
      simp at h1 h2
      subst h1 h2
      have := markI_le a b (i + 1) (i' + 1) (by simpa using h) hk'
      simp
      omega
    | succ k =>
      have := markI_lt a b (i + 1) (i' + 1) (by simpa using h) hk' ⟨k, by simpa using h1, by simpa using h2⟩
      cases x <;> cases y <;> simp_all <;> omega
/-- A rule is made as wide as it can be. -/
def wdn (r : Rl) (x : Int) : Rl := if x = 0 then { r with g0 := 0, g1 := 200000 } else if x = 1 then { r with c0 := 0, c1 := 200000 } else if x = 2 then { r with p0 := 0, p1 := 200000 } else if x = 3 then { r with wide := 1 } else { r with uses := 6 }
/-- .. all but one of the first rules. -/
def wdP (r : Rl) (l : List Int) (skip : Int) : Nat → Rl
  | 0 => r
  | t + 1 => if (t : Int) = skip then wdP r l skip t else wdn (wdP r l skip t) (l.getD t 0)
def Wd (l : List Int) (skip : Int) (t : Nat) (j : Nat) : Prop := ∃ i : Nat, i < t ∧ (i : Int) ≠ skip ∧ l.getD i 0 = (j : Int)
structure WdI (s : List Lp) (r R : Rl) (W : Nat → Prop) : Prop where
  laps : R.laps = r.laps
  g : (W 0 ∧ R.g0 = 0 ∧ R.g1 = 200000) ∨ (¬ W 0 ∧ R.g0 = r.g0 ∧ R.g1 = r.g1)
  c : (W 1 ∧ R.c0 = 0 ∧ R.c1 = 200000) ∨ (¬ W 1 ∧ R.c0 = r.c0 ∧ R.c1 = r.c1)
  p : (W 2 ∧ R.p0 = 0 ∧ R.p1 = 200000) ∨ (¬ W 2 ∧ R.p0 = r.p0 ∧ R.p1 = r.p1)
  w : (W 3 ∧ R.wide = 1) ∨ (¬ W 3 ∧ R.wide = r.wide)
  u : (W 4 ∧ R.uses = 6) ∨ (¬ W 4 ∧ R.uses = r.uses)
theorem Wd_succ {l : List Int} {skip : Int} {t j : Nat} : Wd l skip (t + 1) j ↔ Wd l skip t j ∨ ((t : Int) ≠ skip ∧ l.getD t 0 = (j : Int)) := by
  constructor
  · rintro ⟨i, h1, h2, h3⟩
    by_cases hi : i = t
    · subst hi; exact .inr ⟨h2, h3⟩
    · exact .inl ⟨i, by omega, h2, h3⟩
  · rintro (⟨i, h1, h2, h3⟩ | ⟨h1, h2⟩)
    · exact ⟨i, by omega, h2, h3⟩
    · exact ⟨t, by omega, h1, h2⟩
theorem wd_inv (s : List Lp) (r : Rl) (l : List Int) (skip : Int) : ∀ t, (∀ i, i < t → 0 ≤ l.getD i 0 ∧ l.getD i 0 < 5) → WdI s r (wdP r l skip t) (Wd l skip t)
  | 0, _ => by
    have h : ∀ j, ¬ Wd l skip 0 j := fun j ⟨i, hi, _⟩ => by omega
    exact ⟨rfl, .inr ⟨h _, rfl, rfl⟩, .inr ⟨h _, rfl, rfl⟩, .inr ⟨h _, rfl, rfl⟩, .inr ⟨h _, rfl⟩, .inr ⟨h _, rfl⟩⟩
  | t + 1, hl => by
    have ih := wd_inv s r l skip t (fun i hi => hl i (by omega))
    have hx := hl t (by omega)
    rw [wdP]
    by_cases hs : (t : Int) = skip
    · rw [if_pos hs]
      have e : ∀ j, Wd l skip (t + 1) j ↔ Wd l skip t j := fun j => by rw [Wd_succ]; constructor <;> intro h <;> first | exact .inl h | (rcases h with h | h; exact h; exact absurd hs h.1)
      obtain ⟨h1, h2, h3, h4, h5, h6⟩ := ih
      exact ⟨h1, by rwa [e], by rwa [e], by rwa [e], by rwa [e], by rwa [e]⟩
    · rw [if_neg hs]
      have e : ∀ j : Nat, Wd l skip (t + 1) j ↔ Wd l skip t j ∨ l.getD t 0 = (j : Int) := fun j => by rw [Wd_succ]; simp [hs]
      obtain ⟨h1, h2, h3, h4, h5, h6⟩ := ih
      generalize l.getD t 0 = x at *
      have hx5 : x = 0 ∨ x = 1 ∨ x = 2 ∨ x = 3 ∨ x = 4 := by omega
      rcases hx5 with rfl | rfl | rfl | rfl | rfl <;> refine ⟨h1, ?_, ?_, ?_, ?_, ?_⟩ <;> rw [e] <;> simp [wdn] <;> assumption
theorem sorted_get {l : List Int} (h : l.Pairwise (· < ·)) {i j : Nat} (hi : i < l.length) (hj : j < l.length) (he : l.getD i 0 = l.getD j 0) : i = j := by
  rw [List.pairwise_iff_getElem] at h
  simp only [List.getD_eq_getElem?_getD, List.getElem?_eq_getElem hi, List.getElem?_eq_getElem hj, Option.getD_some] at he
  rcases Nat.lt_trichotomy i j with hlt | heq | hgt
  · have := h i j hi hj hlt; omega
  · exact heq
  · have := h j i hj hi hgt; omega
/-- What is broken by the wider rules. -/
theorem mk_wide {s : List Lp} {r R : Rl} {W : Nat → Prop} (hs : StadR s) {c : List Int} (hc : ∀ x ∈ c, 0 ≤ x ∧ x < s.length) (h6 : c.length ≤ 6) (h : WdI s r R W) (j : Nat) (hj : j < 5) : (W j → mkJ s R c j = false) ∧ (¬ W j → mkJ s R c j = mkJ s r c j) := by
  have hb := lenS_bd hs hc
  have hm := mostP_bd c c.length
  have hR : ∀ x ∈ c, (lpAt s x).Right := fun x hx => lpAt_right hs (hc x hx)
  obtain ⟨h1, h2, h3, h4, h5, h7⟩ := h
  have hj5 : j = 0 ∨ j = 1 ∨ j = 2 ∨ j = 3 ∨ j = 4 := by omega
  rcases hj5 with rfl | rfl | rfl | rfl | rfl
  · refine ⟨fun hw => ?_, fun hw => ?_⟩
    · rcases h2 with ⟨_, a, b⟩ | ⟨a, _⟩
      · show (!wiB (lenS s c) R.g0 R.g1) = false
        rw [a, b, wiB_iff.2 (by omega)]
        rfl
      · exact absurd hw a
    · rcases h2 with ⟨a, _⟩ | ⟨_, a, b⟩
      · exact absurd a hw
      · show (!wiB (lenS s c) R.g0 R.g1) = (!wiB (lenS s c) r.g0 r.g1)
        rw [a, b]
  · refine ⟨fun hw => ?_, fun hw => ?_⟩
    · rcases h3 with ⟨_, a, b⟩ | ⟨a, _⟩
      · show (!wiB (clbS s c) R.c0 R.c1) = false
        rw [a, b, wiB_iff.2 (by omega)]
        rfl
      · exact absurd hw a
    · rcases h3 with ⟨a, _⟩ | ⟨_, a, b⟩
      · exact absurd a hw
      · show (!wiB (clbS s c) R.c0 R.c1) = (!wiB (clbS s c) r.c0 r.c1)
        rw [a, b]
  · refine ⟨fun hw => ?_, fun hw => ?_⟩
    · rcases h4 with ⟨_, a, b⟩ | ⟨a, _⟩
      · show lapB s R c = false
        unfold lapB
        rw [List.any_eq_false]
        intro x hx
        have := (hR x hx).len
        rw [a, b, wiB_iff.2 (by omega)]
        simp
      · exact absurd hw a
    · rcases h4 with ⟨a, _⟩ | ⟨_, a, b⟩
      · exact absurd a hw
      · show lapB s R c = lapB s r c
        unfold lapB
        rw [a, b]
  · refine ⟨fun hw => ?_, fun hw => ?_⟩
    · rcases h5 with ⟨_, a⟩ | ⟨a, _⟩
      · show widB s R c = false
        unfold widB
        rw [List.any_eq_false]
        intro x hx
        have := (hR x hx).wide
        rw [a]
        simp
        omega
      · exact absurd hw a
    · rcases h5 with ⟨a, _⟩ | ⟨_, a⟩
      · exact absurd a hw
      · show widB s R c = widB s r c
        unfold widB
        rw [a]
  · refine ⟨fun hw => ?_, fun hw => ?_⟩
    · rcases h7 with ⟨_, a⟩ | ⟨a, _⟩
      · show oftB R c = false
        unfold oftB
        rw [a]
        simp
        omega
      · exact absurd hw a
    · rcases h7 with ⟨a, _⟩ | ⟨_, a⟩
      · exact absurd a hw
      · show oftB R c = oftB r c
        unfold oftB
        rw [a]
theorem right_iff (s : List Lp) (r : Rl) (c : List Int) : rightB s r c = true ↔ ∀ j, j < 5 → mkJ s r c j = false := by
  unfold rightB mkJ marksV
  constructor
  · intro h j hj
    have h := List.all_eq_true.1 h
    simp only [List.mem_cons, List.not_mem_nil, or_false, forall_eq_or_imp, forall_eq, Bool.not_eq_true'] at h
    have hj5 : j = 0 ∨ j = 1 ∨ j = 2 ∨ j = 3 ∨ j = 4 := by omega
    rcases hj5 with rfl | rfl | rfl | rfl | rfl
    · exact h.1
    · exact h.2.1
    · exact h.2.2.1
    · exact h.2.2.2.1
    · exact h.2.2.2.2
  · intro h
    have h0 := h 0 (by omega); have h1 := h 1 (by omega); have h2 := h 2 (by omega); have h3 := h 3 (by omega); have h4 := h 4 (by omega)
    simp only [List.getD_cons_zero, List.getD_cons_succ] at h0 h1 h2 h3 h4
    simp [h0, h1, h2, h3, h4]
theorem wd_rules (r : Rl) (hr : r.Right) (l : List Int) (skip : Int) : ∀ t, (wdP r l skip t).Right
  | 0 => hr
  | t + 1 => by
    have ih := wd_rules r hr l skip t
    obtain ⟨h1, h2, h3, h4, h5, h6⟩ := ih
    rw [wdP]
    split
    · exact ⟨h1, h2, h3, h4, h5, h6⟩
    · unfold wdn
      split
      · exact ⟨h1, by simp, h3, h4, h5, h6⟩
      split
      · exact ⟨h1, h2, by simp, h4, h5, h6⟩
      split
      · exact ⟨h1, h2, h3, by simp, h5, h6⟩
      split
      · exact ⟨h1, h2, h3, h4, by simp, h6⟩
      · exact ⟨h1, h2, h3, h4, h5, by simp⟩
/-- The rules that are given up are enough, and none of them is too much. -/
theorem yielded_law {s : List Lp} {r : Rl} (hcr : CR s r) {R : List Int} (hR : R ∈ coursesL s.length (nL r)) (hbest : ∀ c ∈ coursesL s.length (nL r), fewB (brkL s r c) (brkL s r R) = false) (skip : Int) (hs : -1 ≤ skip ∧ skip < (brkL s r R).length) :
    (allC s (wdP r (brkL s r R) skip (brkL s r R).length) ≠ [] ↔ skip < 0) := by
  have hla := hcr.r.laps
  have hin : ∀ i, i < (brkL s r R).length → 0 ≤ (brkL s r R).getD i 0 ∧ (brkL s r R).getD i 0 < 5 := fun i hi => by
    have hm : (brkL s r R).getD i 0 ∈ brkL s r R := by
      rw [List.getD_eq_getElem?_getD, List.getElem?_eq_getElem hi]
      exact List.getElem_mem hi
    obtain ⟨k, h1, h2, _⟩ := mem_brk.1 hm
    omega
  have hI := wd_inv s r (brkL s r R) skip (brkL s r R).length hin
  have hnl : nL (wdP r (brkL s r R) skip (brkL s r R).length) = nL r := by unfold nL; rw [hI.laps]
  have hso : (brkL s r R).Pairwise (· < ·) := markI_sorted _ _
  have hcc : ∀ c ∈ coursesL s.length (nL r), (∀ x ∈ c, 0 ≤ x ∧ x < s.length) ∧ c.length ≤ 6 := fun c hc => by
    obtain ⟨h1, h2, _⟩ := coursesL_mem.1 hc
    exact ⟨h2, by unfold nL at h1; omega⟩
  constructor
  · intro hne
    obtain ⟨c, hc⟩ := List.exists_mem_of_ne_nil _ hne
    obtain ⟨hc1, hc2⟩ := List.mem_filter.1 hc
    rw [hnl] at hc1
    obtain ⟨m1, m2⟩ := hcc c hc1
    refine Classical.byContradiction fun hsk => ?_
    have hf := hbest c hc1
    obtain ⟨k, rfl⟩ : ∃ k : Nat, skip = k := ⟨skip.toNat, by omega⟩
    have hk : k < (brkL s r R).length := by omega
    have hr := (right_iff _ _ _).1 hc2
    have hsub : ∀ j, mkJ s r c j = true → ∃ i : Nat, i < (brkL s r R).length ∧ i ≠ k ∧ (brkL s r R).getD i 0 = (j : Int) := fun j hj => by
      have hj5 : j < 5 := by
        refine Classical.byContradiction fun hh => ?_
        unfold mkJ at hj
        rw [List.getD_eq_getElem?_getD, List.getElem?_eq_none (by simp [marksV]; omega)] at hj
        cases hj
      have hm := mk_wide hcr.s m1 m2 hI j hj5
      by_cases hw : Wd (brkL s r R) k (brkL s r R).length j
      · obtain ⟨i, h1, h2, h3⟩ := hw
        exact ⟨i, h1, by omega, h3⟩
      · rw [← hm.2 hw, hr j hj5] at hj
        cases hj
    have hlt : (brkL s r c).length < (brkL s r R).length := by
      have hm : (brkL s r R).getD k 0 ∈ brkL s r R := by
        rw [List.getD_eq_getElem?_getD, List.getElem?_eq_getElem hk]
        exact List.getElem_mem hk
      obtain ⟨j0, h1, h2, h3⟩ := mem_brk.1 hm
      refine markI_lt _ _ _ _ (by simp [marksV]) (fun j hj => ?_) ⟨j0, h3, ?_⟩
      · obtain ⟨i, g1, g2, g3⟩ := hsub j hj
        have hm2 : (brkL s r R).getD i 0 ∈ brkL s r R := by
          rw [List.getD_eq_getElem?_getD, List.getElem?_eq_getElem g1]
          exact List.getElem_mem g1
        obtain ⟨j1, e1, e2, e3⟩ := mem_brk.1 hm2
        obtain rfl : j = j1 := by omega
        exact e3
      · cases hz : (marksV s r c).getD j0 false with
        | false => rfl
        | true =>
          obtain ⟨i, g1, g2, g3⟩ := hsub j0 hz
          exact absurd (sorted_get hso g1 hk (by omega)) g2
    unfold fewB at hf
    rw [decide_eq_true hlt] at hf
    simp at hf
  · intro hsk
    obtain rfl : skip = -1 := by omega
    obtain ⟨m1, m2⟩ := hcc R hR
    have hmem : R ∈ allC s (wdP r (brkL s r R) (-1) (brkL s r R).length) := by
      refine List.mem_filter.2 ⟨by rw [hnl]; exact hR, (right_iff _ _ _).2 fun j hj => ?_⟩
      have hm := mk_wide hcr.s m1 m2 hI j hj
      by_cases hw : Wd (brkL s r R) (-1) (brkL s r R).length j
      · exact hm.1 hw
      · rw [hm.2 hw]
        cases hz : mkJ s r R j with
        | false => rfl
        | true =>
          refine absurd ?_ hw
          have hmj : (j : Int) ∈ brkL s r R := mem_brk.2 ⟨j, hj, rfl, hz⟩
          obtain ⟨i, hi, he⟩ := List.getElem_of_mem hmj
          exact ⟨i, hi, by omega, by rw [List.getD_eq_getElem?_getD, List.getElem?_eq_getElem hi, ← he]; rfl⟩
    intro hnil
    rw [hnil] at hmem
    cases hmem
/-- There are no more courses than may be listed. -/
theorem count_ok : ((List.range 7).all fun n => (List.range 6).all fun k => decide ((sortL n k 0).length ≤ 300)) = true := by decide +kernel
theorem courses_300 {n k : Nat} (hn : n ≤ 6) (hk : k ≤ 5) : (coursesL n k).length ≤ 300 := by
  have h := List.all_eq_true.1 (List.all_eq_true.1 count_ok n (List.mem_range.2 (by omega))) k (List.mem_range.2 (by omega))
  simpa [coursesL] using h
theorem allC_300 {s : List Lp} {r : Rl} (hn : s.length ≤ 6) (hk : nL r ≤ 5) : (allC s r).length ≤ 300 := Nat.le_trans (List.length_filter_le _ _) (courses_300 hn hk)
end Go.Proofs.Ytgeajgmefokifaa

/- The walk of CourseYielded. -/
namespace Go.Proofs.Ytgeajgmefokifaa
open Go Go.Eng

section
variable {K b : Nat} {bs : Value} {w0 w : World} {R : List Ck}
theorem madeS0 {most laps : Nat} (h1 : 1 ≤ most) (h2 : most ≤ 12) (h3 : 1 ≤ laps) (h4 : laps ≤ 6) (hby : DkB w0 0 w0.heap.size bs) (hs : Sat w0 M0 (dkP bs b K :: R) w) (hK : K < 100000) :
    Ca Try.prog 46 [.pointer (some ⟨b, 0, none⟩), .int .i64 most, .int .i64 laps] w fun v w' => ∃ y : Nat × Nat × List Lp × Rl, (v = .tuple #[.slice (some ⟨y.1, 0, none⟩) y.2.2.1.length y.2.1, .agg (rlC y.2.2.2).toArray] ∧ MadeS most laps y.2.2.1 y.2.2.2) ∧ Sat w (fun x => x = b) [.ow (.slice (some ⟨y.1, 0, none⟩) y.2.2.1.length y.2.1) 31 3 y.2.2.1.length (lpC y.2.2.1), dkP bs b (K + 100)] w' :=
  madeS_ca most laps h1 h2 h3 h4 K hK w b 0 w0.heap.size bs (hby.keep hs.chg0) (dk_new hs) (hs.all _ (.head _))
theorem picked0 {loops laps : Nat} (h1 : 1 ≤ loops) (h2 : loops ≤ 12) (h3 : 1 ≤ laps) (h4 : laps ≤ 6) (hby : DkB w0 0 w0.heap.size bs) (hs : Sat w0 M0 (dkP bs b K :: R) w) (hK : K < 100000) :
    Ca Try.prog 84 [.pointer (some ⟨b, 0, none⟩), .int .i64 loops, .int .i64 laps] w fun v w' => ∃ y : Nat × Nat × List Int, (v = .slice (some ⟨y.1, 0, none⟩) y.2.2.length y.2.1 ∧ y.2.2.length = laps ∧ (∀ x ∈ y.2.2, 0 ≤ x ∧ x < loops) ∧ srtB y.2.2 = true) ∧ Sat w (fun x => x = b) [.ow (.slice (some ⟨y.1, 0, none⟩) y.2.2.length y.2.1) 3 1 y.2.2.length (ints y.2.2), dkP bs b (K + 6)] w' :=
  picked_ca loops laps h1 h2 h3 h4 K hK w b 0 w0.heap.size bs (hby.keep hs.chg0) (dk_new hs) (hs.all _ (.head _))
end
theorem brok_in {s : List Lp} {r : Rl} {c : List Int} (hcr : CR s r) (h1 : (c.length : Int) = r.laps) (h2 : ∀ x ∈ c, 0 ≤ x ∧ x < s.length) (h3 : srtB c = true) : brokenV s r c = (brkL s r c, 0) := by
  have hla := hcr.r.laps
  have h0 := checkS_iff.2 hcr
  have h4 := listedV_iff.2 ⟨⟨by omega, by omega⟩, h2, h3⟩
  unfold brokenV
  rw [if_neg (by omega), if_neg (by omega), if_neg (by omega)]
set_option maxRecDepth 20000 in
set_option maxHeartbeats 16000000 in
theorem courseYielded_ca (w : World) (a : Option Addr) (n c : Nat) (a2 : Option Addr) (n2 c2 : Nat) (hbyb1 : DkB w 0 w.heap.size (.slice a n c)) (hbyb2 : DkB w 0 w.heap.size (.slice a2 n2 c2)) :
    Ca Try.prog 17 [.slice a n c, .slice a2 n2 c2] w fun r w' => r = .bool true ∧ Chg [] w w' := by
  refine q_of (Sat.nil w M0) Try.func17 rfl (by simp [Try.ntmps17]) ?_
  (refine q_seq ?_; refine q_region ?_; refine ql_pure tabOk rfl rfl ?_; refine q_nil ?_; refine q_seq ?_; refine q_region ?_; refine ql_pure tabOk rfl rfl ?_)
  refine ql_call (β := Nat) tabOk [] _ M0 rfl rfl rfl rfl (Sp.refl _) (fun _ h => h.elim) (fun w' hs => of_ca w' a n c) ?_
  rintro b1 _ rfl
  skip
  refine ql_call (β := Nat × Nat × List Lp × Rl) (ψ := fun y v => v = .tuple #[.slice (some ⟨y.1, 0, none⟩) y.2.2.1.length y.2.1, .agg (rlC y.2.2.2).toArray] ∧ MadeS 5 4 y.2.2.1 y.2.2.2) (L' := fun y => [.ow (.slice (some ⟨y.1, 0, none⟩) y.2.2.1.length y.2.1) 31 3 y.2.2.1.length (lpC y.2.2.1), dkP (.slice a n c) b1 (0 + 100)]) tabOk [dkP (.slice a n c) b1 0] _ (fun x => x = b1) rfl rfl rfl rfl (Sp.cons (by repeat constructor) (Sp.refl _)) (fun x hx => ⟨_, .head _, hx⟩) (fun w' hs => madeS0 (most := 5) (laps := 4) (by omega) (by omega) (by omega) (by omega) hbyb1 hs (by omega)) ?_
  rintro ⟨g, cd, s, r⟩ _ ⟨rfl, hm⟩
  dsimp only [List.cons_append, List.nil_append] at hm ⊢
  have hcr := hm.cr (by omega) (by omega)
  have hn1 := hm.n1
  have hn2 := hm.n2
  have hlp := hm.lp
  obtain ⟨R, hR, hRm, hbest⟩ := yield_best (s := s) r (by omega)
  obtain ⟨R1, R2, R3⟩ := coursesL_mem.1 hRm
  have hRb := brok_in hcr (c := R) (by rw [R1]; unfold nL; omega) R2 R3
  have hRl : R.length ≤ 6 := by rw [R1]; unfold nL; omega
  have hlR := brk_len s r R
  (refine ql_pure tabOk rfl rfl ?_; (iterate 2 refine ql_ext tabOk rfl rfl rfl ?_))
  refine ql_alloc zero26 rfl (fun b6 => ?_)
  (refine ql_pure tabOk rfl rfl ?_; refine ql_setA tabOk rfl rfl rfl rfl rfl (by repeat constructor) rfl ?_; refine q_nil ?_; refine q_seq ?_; refine q_region ?_; refine ql_pure tabOk rfl rfl ?_)
  refine ql_call (β := Nat) tabOk [] _ M0 rfl rfl rfl rfl (Sp.refl _) (fun _ h => h.elim) (fun w' hs => of_ca w' a2 n2 c2) ?_
  rintro b2 _ rfl
  (refine ql_pure tabOk rfl rfl ?_; refine q_nil ?_; refine q_seq ?_; refine q_region ?_; refine ql_pure tabOk rfl rfl ?_; refine ql_loadAB tabOk rfl rfl rfl (by repeat first | exact .head _ | refine .tail _ ?_) (by rfl) (by rfl) ?_)
  refine ql_call (β := Value × Value) tabOk [] _ M0 rfl rfl rfl rfl (Sp.refl _) (fun _ h => h.elim) (fun w' hs => yield_ok w' 0 w'.heap.size (some ⟨g, 0, none⟩) cd s r R (sat_rdL (t := 31) hs (by repeat first | exact .head _ | refine .tail _ ?_) rfl) hcr hR) ?_
  rintro ⟨z1, z2⟩ _ rfl
  dsimp only [List.cons_append, List.nil_append]
  (refine ql_pure tabOk rfl rfl ?_; (iterate 3 refine ql_ext tabOk rfl rfl rfl ?_); (iterate 3 refine ql_pure tabOk rfl rfl ?_); refine q_nil ?_; refine q_seq ?_; refine q_region ?_; refine ql_pure tabOk rfl rfl ?_; refine ql_loadAB tabOk rfl rfl rfl (by repeat first | exact .head _ | refine .tail _ ?_) (by rfl) (by rfl) ?_; refine ql_pure tabOk rfl rfl ?_)
  refine ql_call (β := Value) tabOk [] _ M0 rfl rfl rfl rfl (Sp.refl _) (fun _ h => h.elim) (fun w' hs => by
    have := brok_u w' 0 w'.heap.size (some ⟨g, 0, none⟩) cd s r (sat_rdL (t := 31) hs (by repeat first | exact .head _ | refine .tail _ ?_) rfl) (by omega) 0 w'.heap.size z2 R (hs.rdI (t := 3) (by repeat first | exact .head _ | refine .tail _ ?_) rfl) (by omega)
    rw [hRb] at this
    exact this) ?_
  rintro z3 _ rfl
  dsimp only [List.cons_append, List.nil_append]
  refine ql_fact (fun w hs => hs.slice2 (v := z1) (by repeat first | exact .head _ | refine .tail _ ?_)) ?_
  rintro ⟨za, zc, rfl⟩
  (refine ql_pure tabOk rfl rfl ?_; (iterate 2 refine ql_ext tabOk rfl rfl rfl ?_); (iterate 2 refine ql_pure tabOk rfl rfl ?_); refine q_nil ?_; (iterate 2 refine q_seq ?_); refine q_region ?_; refine ql_pure tabOk rfl rfl ?_; refine ql_neqF tabOk rfl rfl rfl (by omega) ?_; refine ql_pure tabOk rfl rfl ?_; refine ql_gyes rfl ?_; refine ql_pure tabOk rfl rfl ?_; refine ql_gyes rfl ?_; refine ql_neqF tabOk rfl rfl rfl (by omega) ?_; (iterate 2 refine ql_pure tabOk rfl rfl ?_); refine ql_gyes rfl ?_; refine ql_pure tabOk rfl rfl ?_; refine ql_gyes rfl ?_; refine ql_pure tabOk rfl rfl ?_; refine ql_gyes rfl ?_)
  refine ql_callv (val := .bool true) tabOk rfl rfl rfl rfl (fun w hs => ?_) ?_; exact eqR_ca w 0 w.heap.size 0 w.heap.size _ z3 (brkL s r R) (hs.rdI (t := 88) (by repeat first | exact .head _ | refine .tail _ ?_) rfl) (hs.rdI (t := 88) (by repeat first | exact .head _ | refine .tail _ ?_) rfl) (by omega)
  (refine ql_gyes rfl ?_; (iterate 2 refine ql_pure tabOk rfl rfl ?_); refine q_nil ?_; refine q_cond_false rfl ?_; refine q_skip ?_; (iterate 2 refine q_seq ?_); refine q_region ?_; refine ql_pure tabOk rfl rfl ?_; refine q_nil ?_; refine q_block ?_)
  refine q_loop (σ := Nat) (fun k => k ≤ 8) (fun k => 8 - k) (fun k => [(5, .slice (some ⟨g, 0, none⟩) s.length cd), (6, .pointer (some ⟨b6, 0, none⟩)), (7, .pointer (some ⟨b2, 0, none⟩)), (8, .slice za (brkL s r R).length zc), (55, .int .i64 k)])
    (fun k => [dkP (.slice a2 n2 c2) b2 (0 + 6 * k), .ow (.slice (some ⟨g, 0, none⟩) s.length cd) 31 3 s.length (lpC s), .pt b6 (rlC r) 26, .ow (.slice za (brkL s r R).length zc) 88 1 (brkL s r R).length (ints (brkL s r R))]) 0 (by omega) ⟨rfl, rfl, rfl, rfl, rfl, trivial⟩ (by repeat (first | exact Sp.nil | exact Sp.refl _ | refine Sp.cons (by repeat constructor) ?_)) ?_
  rintro k hk KK hKK
  (refine q_seq ?_; refine q_region ?_; refine ql_pure tabOk rfl rfl ?_; refine q_nil ?_; refine q_seq ?_)
  refine q_if rfl (fun hc => ?_) (fun hc => ?_)
  · have hk2 : k < 8 := by first | omega | (simp at hc; omega)
    clear hc
    (refine q_skip ?_; refine q_seq ?_; refine q_block ?_; refine q_seq ?_)
    refine q_draw _ [dkP (.slice a2 n2 c2) b2 (0 + 6 * k)] (Sp.cons (by repeat constructor) (Sp.refl _)) (by kernel_rfl) (by kernel_rfl) ?_
    (refine qf_pure tabOk rfl rfl rfl ?_; refine qf_loadAB tabOk rfl rfl rfl (by repeat first | exact .head _ | refine .tail _ ?_) (by rfl) (by rfl) ?_; (iterate 4 refine qf_pure tabOk rfl rfl rfl ?_); refine qf_loadB tabOk rfl rfl rfl (by repeat first | exact .head _ | refine .tail _ ?_) (by rfl) ?_)
    obtain ⟨lp, hlpe⟩ : ∃ lp : Nat, (lp : Int) = r.laps := ⟨r.laps.toNat, by omega⟩
    refine qf_call (β := Nat × Nat × List Int) (ψ := fun y v => v = .slice (some ⟨y.1, 0, none⟩) y.2.2.length y.2.1 ∧ y.2.2.length = lp ∧ (∀ x ∈ y.2.2, 0 ≤ x ∧ x < s.length) ∧ srtB y.2.2 = true) (L' := fun y => [.ow (.slice (some ⟨y.1, 0, none⟩) y.2.2.length y.2.1) 3 1 y.2.2.length (ints y.2.2), dkP (.slice a2 n2 c2) b2 (0 + 6 * k + 6)]) tabOk [dkP (.slice a2 n2 c2) b2 (0 + 6 * k)] _ (fun x => x = b2) rfl rfl rfl rfl (Sp.cons (by repeat constructor) (Sp.refl _)) (fun x hx => ⟨_, .head _, hx⟩) (fun w' hs => by rw [← hlpe]; exact picked0 (loops := s.length) (laps := lp) (by omega) (by omega) (by omega) (by omega) hbyb2 hs (by omega)) ?_
    rintro ⟨pg, pc, q⟩ _ ⟨rfl, q1, q2, q3⟩
    dsimp only [List.cons_append, List.nil_append] at q1 q2 q3 ⊢
    have hqb := brok_in hcr (c := q) (by omega) q2 q3
    have hqm : q ∈ coursesL s.length (nL r) := coursesL_mem.2 ⟨by unfold nL; omega, q2, q3⟩
    have hqf := hbest q hqm
    have hlq := brk_len s r q
    skip
    refine qf_call (β := Value) tabOk [] _ M0 rfl rfl rfl rfl (Sp.refl _) (fun _ h => h.elim) (fun w' hs => by
      have := brok_u w' 0 w'.heap.size (some ⟨g, 0, none⟩) cd s r (sat_rdL (t := 31) hs (by repeat first | exact .head _ | refine .tail _ ?_) rfl) (by omega) 0 w'.heap.size (.slice (some ⟨pg, 0, none⟩) q.length pc) q (hs.rdI (t := 3) (by repeat first | exact .head _ | refine .tail _ ?_) rfl) (by omega)
      rw [hqb] at this
      exact this) ?_
    rintro z4 _ rfl
    dsimp only [List.cons_append, List.nil_append]
    refine qf_fact (fun w hs => hs.slice2 (v := z4) (by repeat first | exact .head _ | refine .tail _ ?_)) ?_
    rintro ⟨ya, yc, rfl⟩
    unfold fewB at hqf
    simp only [Bool.and_true, Bool.or_eq_false_iff, decide_eq_false_iff_not] at hqf
    obtain ⟨f1, f2⟩ := hqf
    by_cases heq : (brkL s r q).length = (brkL s r R).length
    · rw [decide_eq_true heq, Bool.true_and] at f2
      (refine qf_pure tabOk rfl rfl rfl ?_; (iterate 2 refine qf_ext tabOk rfl rfl rfl ?_); (iterate 2 refine qf_pure tabOk rfl rfl rfl ?_); refine qf_nil ?_; refine q_seq ?_; refine q_region ?_; refine ql_pure tabOk rfl rfl ?_; refine ql_neqF tabOk rfl rfl rfl (by omega) ?_; refine ql_pure tabOk rfl rfl ?_; refine ql_gyes rfl ?_; refine ql_pure tabOk rfl rfl ?_; refine ql_gyes rfl ?_; refine ql_pure tabOk rfl rfl ?_; refine ql_gyes rfl ?_; refine ql_pure tabOk rfl rfl ?_; refine ql_gyes rfl ?_; refine ql_pure tabOk rfl rfl ?_; refine ql_gyes rfl ?_; refine ql_lssF tabOk rfl rfl rfl (by omega) ?_; (iterate 2 refine ql_pure tabOk rfl rfl ?_); refine ql_gyes rfl ?_; refine ql_pure tabOk rfl rfl ?_; refine ql_gyes rfl ?_; refine ql_pure tabOk rfl rfl ?_; refine ql_gyes rfl ?_; refine ql_pure tabOk rfl rfl ?_; refine ql_gyes rfl ?_; refine ql_pure tabOk rfl rfl ?_; refine ql_gyes rfl ?_; refine ql_eqlT tabOk rfl rfl rfl (by omega) ?_; refine ql_gyes rfl ?_; refine ql_pure tabOk rfl rfl ?_; refine ql_gyes rfl ?_; refine ql_pure tabOk rfl rfl ?_; refine ql_gyes rfl ?_; refine ql_pure tabOk rfl rfl ?_; refine ql_gyes rfl ?_)
      refine ql_call (β := Int) (ψ := fun z v => v = .int .i64 z ∧ -1 ≤ z ∧ z ≤ 1 ∧ (z < 0 ↔ cmpB (brkL s r q) (brkL s r R) = true)) (L' := fun _ => []) tabOk [] _ M0 rfl rfl rfl rfl (Sp.refl _) (fun _ h => h.elim) (fun w' hs => compR_ca w' 0 w'.heap.size 0 w'.heap.size _ _ (brkL s r q) (brkL s r R) (hs.rdI (t := 88) (by repeat first | exact .head _ | refine .tail _ ?_) rfl) (hs.rdI (t := 88) (by repeat first | exact .head _ | refine .tail _ ?_) rfl) (by omega) (by omega)) ?_
      rintro z _ ⟨rfl, y1, y2, y3⟩
      dsimp only [List.cons_append, List.nil_append]
      have hz : 0 ≤ z := by
        refine Classical.byContradiction fun hh => ?_
        rw [y3.1 (by omega)] at f2
        cases f2
      clear y3
      (refine ql_gyes rfl ?_; refine ql_lssF tabOk rfl rfl rfl (by omega) ?_; refine ql_gyes rfl ?_; (iterate 2 refine ql_pure tabOk rfl rfl ?_); refine q_nil ?_; refine q_cond_false rfl ?_; refine q_skip ?_; refine q_blk ?_; refine q_region ?_; refine ql_ar tabOk rfl rfl rfl rfl (by omega) (by omega) ?_; refine ql_pure tabOk rfl rfl ?_; refine q_nil ?_)
      exact hKK (k + 1) _ _ (by omega) (by omega) ⟨rfl, rfl, rfl, rfl, rfl, trivial⟩ (by repeat (first | exact Sp.nil | exact Sp.refl _ | refine Sp.cons (by repeat constructor) ?_))
    · (refine qf_pure tabOk rfl rfl rfl ?_; (iterate 2 refine qf_ext tabOk rfl rfl rfl ?_); (iterate 2 refine qf_pure tabOk rfl rfl rfl ?_); refine qf_nil ?_; refine q_seq ?_; refine q_region ?_; refine ql_pure tabOk rfl rfl ?_; refine ql_neqF tabOk rfl rfl rfl (by omega) ?_; refine ql_pure tabOk rfl rfl ?_; refine ql_gyes rfl ?_; refine ql_pure tabOk rfl rfl ?_; refine ql_gyes rfl ?_; refine ql_pure tabOk rfl rfl ?_; refine ql_gyes rfl ?_; refine ql_pure tabOk rfl rfl ?_; refine ql_gyes rfl ?_; refine ql_pure tabOk rfl rfl ?_; refine ql_gyes rfl ?_; refine ql_lssF tabOk rfl rfl rfl (by omega) ?_; (iterate 2 refine ql_pure tabOk rfl rfl ?_); refine ql_gyes rfl ?_; refine ql_pure tabOk rfl rfl ?_; refine ql_gyes rfl ?_; refine ql_pure tabOk rfl rfl ?_; refine ql_gyes rfl ?_; refine ql_pure tabOk rfl rfl ?_; refine ql_gyes rfl ?_; refine ql_pure tabOk rfl rfl ?_; refine ql_gyes rfl ?_; refine ql_eqlF tabOk rfl rfl rfl (by omega) ?_; refine ql_gyes rfl ?_; refine ql_pure tabOk rfl rfl ?_; (iterate 4 refine ql_gno rfl rfl rfl ?_); refine ql_gyes rfl ?_; (iterate 2 refine ql_pure tabOk rfl rfl ?_); refine q_nil ?_; refine q_cond_false rfl ?_; refine q_skip ?_; refine q_blk ?_; refine q_region ?_; refine ql_ar tabOk rfl rfl rfl rfl (by omega) (by omega) ?_; refine ql_pure tabOk rfl rfl ?_; refine q_nil ?_)
      exact hKK (k + 1) _ _ (by omega) (by omega) ⟨rfl, rfl, rfl, rfl, rfl, trivial⟩ (by repeat (first | exact Sp.nil | exact Sp.refl _ | refine Sp.cons (by repeat constructor) ?_))
  · clear hc hKK
    have hin : ∀ i, (hi : i < (brkL s r R).length) → 0 ≤ (brkL s r R)[i] ∧ (brkL s r R)[i] < 5 := fun i hi => by
      obtain ⟨k, h1, h2, _⟩ := mem_brk.1 (List.getElem_mem hi)
      omega
    have hlaw := yielded_law hcr hRm hbest
    have hwr := wd_rules r hcr.r (brkL s r R)
    have hwl := fun (skip : Int) => (wd_inv s r (brkL s r R) skip (brkL s r R).length (fun i hi => by
      have := hin i hi
      rw [getD_at hi]
      exact this)).laps
    generalize brkL s r R = l at *
    (refine q_exit _ rfl ?_; (iterate 2 refine q_seq ?_); refine q_region ?_; refine ql_pure tabOk rfl rfl ?_; refine q_nil ?_; refine q_block ?_)
    refine q_loop (σ := Nat) (fun t => t ≤ l.length + 1) (fun t => l.length + 1 - t) (fun t => [(5, .slice (some ⟨g, 0, none⟩) s.length cd), (6, .pointer (some ⟨b6, 0, none⟩)), (8, .slice za l.length zc), (15, .int .i64 ((t : Int) - 1))])
      (fun t => [.ow (.slice (some ⟨g, 0, none⟩) s.length cd) 31 3 s.length (lpC s), .pt b6 (rlC r) 26, .ow (.slice za l.length zc) 88 1 l.length (ints l)]) 0 (by omega) ⟨rfl, rfl, rfl, rfl, trivial⟩ (by repeat (first | exact Sp.nil | exact Sp.refl _ | refine Sp.cons (by repeat constructor) ?_)) ?_
    rintro t ht K2 hK2
    by_cases hgo : (t : Int) - 1 < l.length
    · obtain ⟨sk, hsk⟩ : ∃ sk : Int, sk = (t : Int) - 1 := ⟨_, rfl⟩
      rw [← hsk]
      ((iterate 2 refine q_seq ?_); refine q_region ?_; (iterate 3 refine ql_pure tabOk rfl rfl ?_); refine ql_lssT tabOk rfl rfl rfl (by omega) ?_; refine q_nil ?_; refine q_cond_true rfl ?_; refine q_skip ?_; refine q_seq ?_; refine q_block ?_; refine q_seq ?_; refine q_region ?_; refine ql_loadAB tabOk rfl rfl rfl (by repeat first | exact .head _ | refine .tail _ ?_) (by rfl) (by rfl) ?_)
      refine ql_alloc zero26 rfl (fun b16 => ?_)
      (refine ql_setA tabOk rfl rfl rfl rfl rfl (by repeat constructor) rfl ?_; refine q_nil ?_; (iterate 2 refine q_seq ?_); refine q_region ?_; (iterate 3 refine ql_pure tabOk rfl rfl ?_); refine q_nil ?_; refine q_block ?_)
      refine q_loop (σ := Nat) (fun i => i ≤ l.length) (fun i => l.length - i) (fun i => [(5, .slice (some ⟨g, 0, none⟩) s.length cd), (6, .pointer (some ⟨b6, 0, none⟩)), (8, .slice za l.length zc), (15, .int .i64 sk), (16, .pointer (some ⟨b16, 0, none⟩)), (99, .slice za l.length zc), (100, .int .i64 l.length), (101, .int .i64 i)])
        (fun i => [.pt b16 (rlC (wdP r l sk i)) 26, .ow (.slice (some ⟨g, 0, none⟩) s.length cd) 31 3 s.length (lpC s), .pt b6 (rlC r) 26, .ow (.slice za l.length zc) 88 1 l.length (ints l)]) 0 (by omega) ⟨rfl, rfl, rfl, rfl, rfl, rfl, rfl, rfl, trivial⟩ (by repeat (first | exact Sp.nil | exact Sp.refl _ | refine Sp.cons (by repeat constructor) ?_)) ?_
      rintro i hi K3 hK3
      (refine q_seq ?_; refine q_region ?_; refine ql_pure tabOk rfl rfl ?_; refine q_nil ?_; refine q_seq ?_)
      refine q_if rfl (fun hc => ?_) (fun hc => ?_)
      · have hi2 : i < l.length := by first | omega | (simp at hc; omega)
        clear hc
        refine q_fact (fun w hs => hs.ownSome (v := .slice za l.length zc) (by repeat first | exact .head _ | refine .tail _ ?_) (by omega)) ?_
        rintro ⟨e1, f1, e⟩
        cases e
        have hxi := hin i hi2
        have eP : wdP r l sk (i + 1) = if (i : Int) = sk then wdP r l sk i else wdn (wdP r l sk i) l[i] := by rw [wdP, getD_at hi2]
        (refine q_skip ?_; refine q_seq ?_; refine q_block ?_; refine q_seq ?_; refine q_region ?_; refine ql_pure tabOk rfl rfl ?_)
        (refine ql_index tabOk rfl rfl rfl rfl rfl (by omega) (by omega) ?_; refine ql_load1 tabOk rfl rfl rfl (fun w hs => RdI.at (hs.rdI (v := .slice (some ⟨e1, 0, none⟩) l.length zc) (l := l) (t := 88) (by repeat first | exact .head _ | refine .tail _ ?_) rfl) i hi2) ?_)
        generalize l[i] = x at *
        generalize wdP r l sk i = P at *
        by_cases his : (i : Int) = sk
        · rw [if_pos his] at eP
          ((iterate 2 refine ql_pure tabOk rfl rfl ?_); refine q_nil ?_; (iterate 2 refine q_seq ?_); refine q_region ?_; (iterate 2 refine ql_pure tabOk rfl rfl ?_); refine ql_eqlT tabOk rfl rfl rfl (by omega) ?_; refine q_nil ?_; refine q_cond_true rfl ?_; refine q_exit _ rfl ?_; refine q_region ?_; refine ql_ar tabOk rfl rfl rfl rfl (by omega) (by omega) ?_; refine ql_pure tabOk rfl rfl ?_; refine q_nil ?_)
          exact hK3 (i + 1) _ _ (by omega) (by omega) ⟨rfl, rfl, rfl, rfl, rfl, rfl, rfl, rfl, trivial⟩ (by rw [eP]; repeat (first | exact Sp.nil | exact Sp.refl _ | refine Sp.cons (by repeat constructor) ?_))
        · rw [if_neg his] at eP
          have hx5 : x = 0 ∨ x = 1 ∨ x = 2 ∨ x = 3 ∨ x = 4 := by omega
          clear hxi
          rcases hx5 with rfl | rfl | rfl | rfl | rfl
          · ((iterate 2 refine ql_pure tabOk rfl rfl ?_); refine q_nil ?_; (iterate 2 refine q_seq ?_); refine q_region ?_; (iterate 2 refine ql_pure tabOk rfl rfl ?_); refine ql_eqlF tabOk rfl rfl rfl (by omega) ?_; refine q_nil ?_; refine q_cond_false rfl ?_; refine q_skip ?_; refine q_seq ?_; refine q_region ?_; refine ql_pure tabOk rfl rfl ?_; refine q_nil ?_; refine q_block ?_; refine q_seq ?_; refine q_region ?_; refine ql_eqlT tabOk rfl rfl rfl (by omega) ?_; refine ql_pure tabOk rfl rfl ?_; refine q_nil ?_; refine q_cond_true rfl ?_; refine q_region ?_)
            refine ql_callv tabOk rfl rfl rfl rfl (fun w hs => spanM_ca _ _ w) ?_
            (refine ql_pure tabOk rfl rfl ?_)
            refine ql_stA (rlC (wdn P 0)) tabOk rfl rfl rfl rfl rfl (by repeat constructor) rfl rfl ?_
            (refine q_nil ?_; (iterate 2 refine q_blk ?_); refine q_region ?_; refine ql_ar tabOk rfl rfl rfl rfl (by omega) (by omega) ?_; refine ql_pure tabOk rfl rfl ?_; refine q_nil ?_)
            exact hK3 (i + 1) _ _ (by omega) (by omega) ⟨rfl, rfl, rfl, rfl, rfl, rfl, rfl, rfl, trivial⟩ (by rw [eP]; repeat (first | exact Sp.nil | exact Sp.refl _ | refine Sp.cons (by repeat constructor) ?_))
          · ((iterate 2 refine ql_pure tabOk rfl rfl ?_); refine q_nil ?_; (iterate 2 refine q_seq ?_); refine q_region ?_; (iterate 2 refine ql_pure tabOk rfl rfl ?_); refine ql_eqlF tabOk rfl rfl rfl (by omega) ?_; refine q_nil ?_; refine q_cond_false rfl ?_; refine q_skip ?_; refine q_seq ?_; refine q_region ?_; refine ql_pure tabOk rfl rfl ?_; refine q_nil ?_; refine q_block ?_; refine q_seq ?_; refine q_region ?_; refine ql_eqlF tabOk rfl rfl rfl (by omega) ?_; refine ql_pure tabOk rfl rfl ?_; refine q_nil ?_; refine q_cond_false rfl ?_; refine q_seq ?_; refine q_region ?_; refine ql_eqlT tabOk rfl rfl rfl (by omega) ?_; refine ql_pure tabOk rfl rfl ?_; refine q_nil ?_; refine q_cond_true rfl ?_; refine q_region ?_)
            refine ql_callv tabOk rfl rfl rfl rfl (fun w hs => spanM_ca _ _ w) ?_
            (refine ql_pure tabOk rfl rfl ?_)
            refine ql_stA (rlC (wdn P 1)) tabOk rfl rfl rfl rfl rfl (by repeat constructor) rfl rfl ?_
            (refine q_nil ?_; (iterate 2 refine q_blk ?_); refine q_region ?_; refine ql_ar tabOk rfl rfl rfl rfl (by omega) (by omega) ?_; refine ql_pure tabOk rfl rfl ?_; refine q_nil ?_)
            exact hK3 (i + 1) _ _ (by omega) (by omega) ⟨rfl, rfl, rfl, rfl, rfl, rfl, rfl, rfl, trivial⟩ (by rw [eP]; repeat (first | exact Sp.nil | exact Sp.refl _ | refine Sp.cons (by repeat constructor) ?_))
          · ((iterate 2 refine ql_pure tabOk rfl rfl ?_); refine q_nil ?_; (iterate 2 refine q_seq ?_); refine q_region ?_; (iterate 2 refine ql_pure tabOk rfl rfl ?_); refine ql_eqlF tabOk rfl rfl rfl (by omega) ?_; refine q_nil ?_; refine q_cond_false rfl ?_; refine q_skip ?_; refine q_seq ?_; refine q_region ?_; refine ql_pure tabOk rfl rfl ?_; refine q_nil ?_; refine q_block ?_; refine q_seq ?_; refine q_region ?_; refine ql_eqlF tabOk rfl rfl rfl (by omega) ?_; refine ql_pure tabOk rfl rfl ?_; refine q_nil ?_; refine q_cond_false rfl ?_; refine q_seq ?_; refine q_region ?_; refine ql_eqlF tabOk rfl rfl rfl (by omega) ?_; refine ql_pure tabOk rfl rfl ?_; refine q_nil ?_; refine q_cond_false rfl ?_; refine q_seq ?_; refine q_region ?_; refine ql_eqlT tabOk rfl rfl rfl (by omega) ?_; refine ql_pure tabOk rfl rfl ?_; refine q_nil ?_; refine q_cond_true rfl ?_; refine q_region ?_)
            refine ql_callv tabOk rfl rfl rfl rfl (fun w hs => spanM_ca _ _ w) ?_
            (refine ql_pure tabOk rfl rfl ?_)
            refine ql_stA (rlC (wdn P 2)) tabOk rfl rfl rfl rfl rfl (by repeat constructor) rfl rfl ?_
            (refine q_nil ?_; (iterate 2 refine q_blk ?_); refine q_region ?_; refine ql_ar tabOk rfl rfl rfl rfl (by omega) (by omega) ?_; refine ql_pure tabOk rfl rfl ?_; refine q_nil ?_)
            exact hK3 (i + 1) _ _ (by omega) (by omega) ⟨rfl, rfl, rfl, rfl, rfl, rfl, rfl, rfl, trivial⟩ (by rw [eP]; repeat (first | exact Sp.nil | exact Sp.refl _ | refine Sp.cons (by repeat constructor) ?_))
          · have e3 : rlC (wdn P 3) = [.int .i64 P.laps, .int .i64 P.g0, .int .i64 P.g1, .int .i64 P.c0, .int .i64 P.c1, .int .i64 P.p0, .int .i64 P.p1, .int .i64 1, .int .i64 P.uses] := rfl
            ((iterate 2 refine ql_pure tabOk rfl rfl ?_); refine q_nil ?_; (iterate 2 refine q_seq ?_); refine q_region ?_; (iterate 2 refine ql_pure tabOk rfl rfl ?_); refine ql_eqlF tabOk rfl rfl rfl (by omega) ?_; refine q_nil ?_; refine q_cond_false rfl ?_; refine q_skip ?_; refine q_seq ?_; refine q_region ?_; refine ql_pure tabOk rfl rfl ?_; refine q_nil ?_; refine q_block ?_; refine q_seq ?_; refine q_region ?_; refine ql_eqlF tabOk rfl rfl rfl (by omega) ?_; refine ql_pure tabOk rfl rfl ?_; refine q_nil ?_; refine q_cond_false rfl ?_; refine q_seq ?_; refine q_region ?_; refine ql_eqlF tabOk rfl rfl rfl (by omega) ?_; refine ql_pure tabOk rfl rfl ?_; refine q_nil ?_; refine q_cond_false rfl ?_; refine q_seq ?_; refine q_region ?_; refine ql_eqlF tabOk rfl rfl rfl (by omega) ?_; refine ql_pure tabOk rfl rfl ?_; refine q_nil ?_; refine q_cond_false rfl ?_; refine q_seq ?_; refine q_region ?_; refine ql_eqlT tabOk rfl rfl rfl (by omega) ?_; refine ql_pure tabOk rfl rfl ?_; refine q_nil ?_; refine q_cond_true rfl ?_; refine q_region ?_; refine ql_pure tabOk rfl rfl ?_; refine ql_st7 tabOk rfl rfl rfl rfl (by repeat constructor) ?_; refine q_nil ?_; (iterate 2 refine q_blk ?_); refine q_region ?_; refine ql_ar tabOk rfl rfl rfl rfl (by omega) (by omega) ?_; refine ql_pure tabOk rfl rfl ?_; refine q_nil ?_)
            exact hK3 (i + 1) _ _ (by omega) (by omega) ⟨rfl, rfl, rfl, rfl, rfl, rfl, rfl, rfl, trivial⟩ (by rw [eP, e3]; repeat (first | exact Sp.nil | exact Sp.refl _ | refine Sp.cons (by repeat constructor) ?_))
          · have e3 : rlC (wdn P 4) = [.int .i64 P.laps, .int .i64 P.g0, .int .i64 P.g1, .int .i64 P.c0, .int .i64 P.c1, .int .i64 P.p0, .int .i64 P.p1, .int .i64 P.wide, .int .i64 6] := rfl
            ((iterate 2 refine ql_pure tabOk rfl rfl ?_); refine q_nil ?_; (iterate 2 refine q_seq ?_); refine q_region ?_; (iterate 2 refine ql_pure tabOk rfl rfl ?_); refine ql_eqlF tabOk rfl rfl rfl (by omega) ?_; refine q_nil ?_; refine q_cond_false rfl ?_; refine q_skip ?_; refine q_seq ?_; refine q_region ?_; refine ql_pure tabOk rfl rfl ?_; refine q_nil ?_; refine q_block ?_; refine q_seq ?_; refine q_region ?_; refine ql_eqlF tabOk rfl rfl rfl (by omega) ?_; refine ql_pure tabOk rfl rfl ?_; refine q_nil ?_; refine q_cond_false rfl ?_; refine q_seq ?_; refine q_region ?_; refine ql_eqlF tabOk rfl rfl rfl (by omega) ?_; refine ql_pure tabOk rfl rfl ?_; refine q_nil ?_; refine q_cond_false rfl ?_; refine q_seq ?_; refine q_region ?_; refine ql_eqlF tabOk rfl rfl rfl (by omega) ?_; refine ql_pure tabOk rfl rfl ?_; refine q_nil ?_; refine q_cond_false rfl ?_; refine q_seq ?_; refine q_region ?_; refine ql_eqlF tabOk rfl rfl rfl (by omega) ?_; refine ql_pure tabOk rfl rfl ?_; refine q_nil ?_; refine q_cond_false rfl ?_; refine q_region ?_; refine ql_pure tabOk rfl rfl ?_; refine ql_st8 tabOk rfl rfl rfl rfl (by repeat constructor) ?_; refine q_nil ?_; (iterate 2 refine q_blk ?_); refine q_region ?_; refine ql_ar tabOk rfl rfl rfl rfl (by omega) (by omega) ?_; refine ql_pure tabOk rfl rfl ?_; refine q_nil ?_)
            exact hK3 (i + 1) _ _ (by omega) (by omega) ⟨rfl, rfl, rfl, rfl, rfl, rfl, rfl, rfl, trivial⟩ (by rw [eP, e3]; repeat (first | exact Sp.nil | exact Sp.refl _ | refine Sp.cons (by repeat constructor) ?_))
      · obtain rfl : i = l.length := by first | omega | (simp at hc; omega)
        clear hc hK3
        have hlw := hlaw sk ⟨by omega, by omega⟩
        have hPr := hwr sk l.length
        have hPl := hwl sk
        generalize wdP r l sk l.length = P at *
        have hPc : CR s P := ⟨hcr.s, hPr⟩
        have h300 : (allC s P).length ≤ 300 := allC_300 (by omega) (by unfold nL; omega)
        (refine q_exit _ rfl ?_; refine q_seq ?_; refine q_region ?_; refine ql_pure tabOk rfl rfl ?_; refine ql_loadAB tabOk rfl rfl rfl (by repeat first | exact .head _ | refine .tail _ ?_) (by rfl) (by rfl) ?_)
        refine ql_call (β := Value × List (Value × List Int)) tabOk [] _ M0 rfl rfl rfl rfl (Sp.refl _) (fun _ h => h.elim) (fun w' hs => all_ok w' 0 w'.heap.size (some ⟨g, 0, none⟩) cd s P (sat_rdL (t := 31) hs (by repeat first | exact .head _ | refine .tail _ ?_) rfl) hPc h300) ?_
        rintro ⟨z5, xs⟩ _ ⟨rfl, hx⟩
        dsimp only [lsK, List.cons_append, List.nil_append] at hx ⊢
        have hxl := congrArg List.length hx
        rw [List.length_map] at hxl
        refine ql_fact (fun w hs => hs.slice2 (v := z5) (by repeat first | exact .head _ | refine .tail _ ?_)) ?_
        rintro ⟨va, vc, rfl⟩
        by_cases hneg : sk < 0
        · have hpos : 0 < xs.length := by have := List.length_pos_iff.2 (hlw.2 hneg); omega
          (refine ql_pure tabOk rfl rfl ?_; (iterate 2 refine ql_ext tabOk rfl rfl rfl ?_); (iterate 2 refine ql_pure tabOk rfl rfl ?_); refine q_nil ?_; refine q_seq ?_; refine q_region ?_; refine ql_pure tabOk rfl rfl ?_; refine ql_neqF tabOk rfl rfl rfl (by omega) ?_; refine ql_pure tabOk rfl rfl ?_; refine ql_gyes rfl ?_; refine ql_pure tabOk rfl rfl ?_; refine ql_gyes rfl ?_; refine ql_pure tabOk rfl rfl ?_; refine ql_gyes rfl ?_; refine ql_gtrT tabOk rfl rfl rfl (by omega) ?_; refine ql_gyes rfl ?_; refine ql_pure tabOk rfl rfl ?_; refine ql_gyes rfl ?_; refine ql_lssT tabOk rfl rfl rfl (by omega) ?_; refine ql_gyes rfl ?_)
          refine ql_neb bool_b rfl rfl rfl ?_
          (refine ql_pure tabOk rfl rfl ?_; refine q_nil ?_; refine q_cond_false rfl ?_; refine q_skip ?_; refine q_blk ?_; refine q_region ?_; refine ql_pure tabOk rfl rfl ?_; refine ql_ar tabOk rfl rfl rfl rfl (by omega) (by omega) ?_; refine ql_pure tabOk rfl rfl ?_; refine q_nil ?_)
          exact hK2 (t + 1) _ _ (by omega) (by omega) ⟨rfl, rfl, rfl, lookI rfl (by omega), trivial⟩ (by repeat (first | exact Sp.nil | exact Sp.refl _ | refine Sp.cons (by repeat constructor) ?_))
        · have hpos : xs.length = 0 := by
            refine Classical.byContradiction fun hh => ?_
            exact hneg (hlw.1 (fun h0 => by rw [h0, List.length_nil] at hxl; omega))
          (refine ql_pure tabOk rfl rfl ?_; (iterate 2 refine ql_ext tabOk rfl rfl rfl ?_); (iterate 2 refine ql_pure tabOk rfl rfl ?_); refine q_nil ?_; refine q_seq ?_; refine q_region ?_; refine ql_pure tabOk rfl rfl ?_; refine ql_neqF tabOk rfl rfl rfl (by omega) ?_; refine ql_pure tabOk rfl rfl ?_; refine ql_gyes rfl ?_; refine ql_pure tabOk rfl rfl ?_; refine ql_gyes rfl ?_; refine ql_pure tabOk rfl rfl ?_; refine ql_gyes rfl ?_; refine ql_gtrF tabOk rfl rfl rfl (by omega) ?_; refine ql_gyes rfl ?_; refine ql_pure tabOk rfl rfl ?_; refine ql_gyes rfl ?_; refine ql_lssF tabOk rfl rfl rfl (by omega) ?_; refine ql_gyes rfl ?_)
          refine ql_neb bool_b rfl rfl rfl ?_
          (refine ql_pure tabOk rfl rfl ?_; refine q_nil ?_; refine q_cond_false rfl ?_; refine q_skip ?_; refine q_blk ?_; refine q_region ?_; refine ql_pure tabOk rfl rfl ?_; refine ql_ar tabOk rfl rfl rfl rfl (by omega) (by omega) ?_; refine ql_pure tabOk rfl rfl ?_; refine q_nil ?_)
          exact hK2 (t + 1) _ _ (by omega) (by omega) ⟨rfl, rfl, rfl, lookI rfl (by omega), trivial⟩ (by repeat (first | exact Sp.nil | exact Sp.refl _ | refine Sp.cons (by repeat constructor) ?_))
    · clear hK2
      ((iterate 2 refine q_seq ?_); refine q_region ?_; (iterate 3 refine ql_pure tabOk rfl rfl ?_); refine ql_lssF tabOk rfl rfl rfl (by omega) ?_; refine q_nil ?_; refine q_cond_false rfl ?_; refine q_exit _ rfl ?_; refine q_seq ?_; refine q_region ?_)
      refine ql_callv (val := .bool true) tabOk rfl rfl rfl rfl (fun w hs => ?_) ?_; exact awake_ca w
      (refine ql_pure tabOk rfl rfl ?_; refine q_nil ?_; refine q_ret ?_)
      refine q_fin tabOk rfl (by repeat (first | exact RVs.nil | apply RVs.tmp rfl | apply RVs.cellA rfl rfl (by repeat first | exact .head _ | refine .tail _ ?_) (by rfl) | apply RVs.cell1 rfl rfl (by repeat first | exact .head _ | refine .tail _ ?_))) fun w hs => ?_
      exact ⟨rfl, hs.chg0⟩
end Go.Proofs.Ytgeajgmefokifaa
