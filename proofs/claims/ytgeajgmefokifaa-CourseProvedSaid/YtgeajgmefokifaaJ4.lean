/- My texts K25, K1, K26, K27, L0, L7, W5, L8, W6, L9, L10, joined: a claim takes at most 60 files. -/
import Derived.Test.YtgeajgmefokifaaJ3

/- Walks: awake. -/
namespace Go.Proofs.Ytgeajgmefokifaa
open Go Go.Eng

theorem blk_II {w : World} {c1 c2 c3 c4 : Nat} {t1 t2 t3 t4 : TypeId} {l1 l2 l3 : List Int} (h1 : Blk w c1 (ints l1) t1) (h2 : Blk w c2 (ints l2) t2) (h3 : Blk w c3 (ints l3) t3)
    (h4 : Blk w c4 [.slice (some ⟨c1, 0, none⟩) l1.length l1.length, .slice (some ⟨c2, 0, none⟩) l2.length l2.length, .slice (some ⟨c3, 0, none⟩) l3.length l3.length] t4) : RdII w 0 w.heap.size (.slice (some ⟨c4, 0, none⟩) 3 3) [l1, l2, l3] := by
  refine RdII.of (vs := [.slice (some ⟨c1, 0, none⟩) l1.length l1.length, .slice (some ⟨c2, 0, none⟩) l2.length l2.length, .slice (some ⟨c3, 0, none⟩) l3.length l3.length]) ((Blk.rd h4 (by simp [oneV]) 3).wide (Nat.zero_le _) h4.lt) rfl (fun i hi hi' => ?_) (by simp [oneV])
  obtain rfl | rfl | rfl : i = 0 ∨ i = 1 ∨ i = 2 := by simp at hi; omega
  · exact Blk.rdI h1
  · exact Blk.rdI h2
  · exact Blk.rdI h3

theorem lsK_rd {w0 w : World} {M : Nat → Prop} {H : List Ck} {v : Value} {xs : List (Value × List Int)} (h : Sat w0 M H w) (h1 : Ck.ow v 27 1 xs.length (xs.map (·.1)) ∈ H) (h2 : un (rowsO 3 xs) ∈ H) : RdII w 0 w.heap.size v (xs.map (·.2)) :=
  rowsO_rd (h.mem h2) (h.mem h1)
set_option maxHeartbeats 4000000 in
set_option maxRecDepth 4000 in
theorem awake_ca (w : World) : Ca Try.prog 18 [] w fun v w' => v = .bool true ∧ Chg [] w w' := by
  refine q_of (Sat.nil w M0) Try.func18 rfl (by simp [Try.ntmps18]) ?_
  (refine q_seq ?_; refine q_region ?_; refine ql_pure tabOk rfl rfl ?_; refine q_nil ?_; refine q_seq ?_; refine q_region ?_)
  refine ql_call (β := Nat) tabOk [] _ M0 rfl rfl rfl rfl (Sp.refl _) (fun _ h => h.elim) (fun w' hs => three_ca w') ?_
  rintro bs _ rfl
  (refine ql_pure tabOk rfl rfl ?_; (iterate 2 refine ql_ext tabOk rfl rfl rfl ?_))
  refine ql_alloc zero26 rfl (fun b2 => ?_)
  (refine ql_pure tabOk rfl rfl ?_; refine ql_setA tabOk rfl rfl rfl rfl rfl (by repeat constructor) rfl ?_; refine q_nil ?_; refine q_seq ?_; refine q_region ?_; refine ql_pure tabOk rfl rfl ?_; refine ql_loadAB tabOk rfl rfl rfl (by repeat first | exact .head _ | refine .tail _ ?_) (by rfl) (by rfl) ?_)
  have hS : ∀ w', Blk w' bs (lpC threeS) 31 → RdL w' 0 w'.heap.size (.slice (some ⟨bs, 0, none⟩) threeS.length 3) threeS := fun w' hb => Blk.rdL hb rfl
  refine ql_call (β := Value × List (Value × List Int)) (ψ := fun y x => x = .tuple #[y.1, .int .i64 0] ∧ y.2.map (·.2) = allC threeS threeR) tabOk [] _ M0 rfl rfl rfl rfl (Sp.refl _) (fun _ h => h.elim) (fun w' hs => all_ok w' 0 w'.heap.size (some ⟨bs, 0, none⟩) 3 threeS threeR (hS w' (hs.blk (by repeat first | exact .head _ | refine .tail _ ?_))) aw_cr (by rw [aw_all]; decide)) ?_
  rintro ⟨va, xs⟩ _ ⟨rfl, hxs⟩
  rw [aw_all] at hxs
  dsimp only at hxs
  dsimp only [lsK, List.cons_append, List.nil_append]
  refine ql_fact (fun w hs => hs.slice (v := va) (by repeat first | exact .head _ | refine .tail _ ?_)) ?_
  rintro ⟨va1, va2, va3, rfl⟩
  (refine ql_pure tabOk rfl rfl ?_; (iterate 2 refine ql_ext tabOk rfl rfl rfl ?_); (iterate 2 refine ql_pure tabOk rfl rfl ?_); refine q_nil ?_; refine q_seq ?_; refine q_region ?_; refine ql_pure tabOk rfl rfl ?_; refine ql_loadAB tabOk rfl rfl rfl (by repeat first | exact .head _ | refine .tail _ ?_) (by rfl) (by rfl) ?_)
  refine ql_mkS 3 (ints [1, 1, 1]) rfl (by kernel_rfl) rfl (fun b3 => ?_)
  refine ql_call (β := Value) tabOk [] _ M0 rfl rfl rfl rfl (Sp.refl _) (fun _ h => h.elim) (fun w' hs => brok_ok w' 0 w'.heap.size 0 w'.heap.size (some ⟨bs, 0, none⟩) 3 _ threeS threeR [1, 1, 1] (hS w' (hs.blk (by repeat first | exact .head _ | refine .tail _ ?_))) (by decide) (Blk.rdI (l := [1, 1, 1]) (c := 3) (hs.blk (b := b3) (by repeat first | exact .head _ | refine .tail _ ?_))) (by decide) aw_brk) ?_
  rintro vb _ rfl
  rw [aw_brk2]
  dsimp only [List.cons_append, List.nil_append]
  refine ql_fact (fun w hs => hs.slice (v := vb) (by repeat first | exact .head _ | refine .tail _ ?_)) ?_
  rintro ⟨vb1, vb2, vb3, rfl⟩
  (refine ql_pure tabOk rfl rfl ?_; (iterate 2 refine ql_ext tabOk rfl rfl rfl ?_); (iterate 2 refine ql_pure tabOk rfl rfl ?_); refine q_nil ?_; refine q_seq ?_; refine q_region ?_; refine ql_pure tabOk rfl rfl ?_; refine ql_loadAB tabOk rfl rfl rfl (by repeat first | exact .head _ | refine .tail _ ?_) (by rfl) (by rfl) ?_)
  refine ql_call (β := Value) tabOk [] _ M0 rfl rfl rfl rfl (Sp.refl _) (fun _ h => h.elim) (fun w' hs => cheap_ok w' 0 w'.heap.size (some ⟨bs, 0, none⟩) 3 threeS threeR 40 [0, 1, 1] (hS w' (hs.blk (by repeat first | exact .head _ | refine .tail _ ?_))) aw_cr (by decide) aw_cheap) ?_
  rintro vc _ rfl
  rw [aw_snow]
  dsimp only [List.cons_append, List.nil_append]
  refine ql_fact (fun w hs => hs.slice (v := vc) (by repeat first | exact .head _ | refine .tail _ ?_)) ?_
  rintro ⟨vc1, vc2, vc3, rfl⟩
  (refine ql_pure tabOk rfl rfl ?_; (iterate 3 refine ql_ext tabOk rfl rfl rfl ?_); (iterate 3 refine ql_pure tabOk rfl rfl ?_); refine q_nil ?_; (iterate 2 refine q_seq ?_); refine q_region ?_; refine ql_pure tabOk rfl rfl ?_; refine ql_neqF tabOk rfl rfl rfl (by omega) ?_; refine ql_pure tabOk rfl rfl ?_; refine ql_gyes rfl ?_; refine ql_pure tabOk rfl rfl ?_; refine ql_gyes rfl ?_; refine ql_neqF tabOk rfl rfl rfl (by omega) ?_; (iterate 2 refine ql_pure tabOk rfl rfl ?_); refine ql_gyes rfl ?_; refine ql_pure tabOk rfl rfl ?_; refine ql_gyes rfl ?_; refine ql_neqF tabOk rfl rfl rfl (by omega) ?_; (iterate 2 refine ql_pure tabOk rfl rfl ?_); refine ql_gyes rfl ?_; refine ql_pure tabOk rfl rfl ?_; refine ql_gyes rfl ?_)
  refine ql_mkS 3 (ints [0, 0, 2]) rfl (by kernel_rfl) rfl (fun c1 => ?_)
  refine ql_gyes rfl ?_
  refine ql_mkS 3 (ints [0, 1, 1]) rfl (by kernel_rfl) rfl (fun c2 => ?_)
  refine ql_gyes rfl ?_
  refine ql_mkS 3 (ints [0, 1, 2]) rfl (by kernel_rfl) rfl (fun c3 => ?_)
  refine ql_gyes rfl ?_
  refine ql_mkS 27 [.slice (some ⟨c1, 0, none⟩) 3 3, .slice (some ⟨c2, 0, none⟩) 3 3, .slice (some ⟨c3, 0, none⟩) 3 3] rfl (by kernel_rfl) rfl (fun c4 => ?_)
  (refine ql_gyes rfl ?_)
  refine ql_callv (val := .bool true) tabOk rfl rfl rfl rfl (fun w hs => ?_) ?_; exact eqII_ca w 0 w.heap.size 0 w.heap.size _ _ [[0, 0, 2], [0, 1, 1], [0, 1, 2]] (hxs ▸ lsK_rd (v := .slice va1 va2 va3) (xs := xs) hs (by repeat first | exact .head _ | refine .tail _ ?_) (by repeat first | exact .head _ | refine .tail _ ?_)) (blk_II (l1 := [0, 0, 2]) (l2 := [0, 1, 1]) (l3 := [0, 1, 2]) (hs.blk (b := c1) (by repeat first | exact .head _ | refine .tail _ ?_)) (hs.blk (b := c2) (by repeat first | exact .head _ | refine .tail _ ?_)) (hs.blk (b := c3) (by repeat first | exact .head _ | refine .tail _ ?_)) (hs.blk (b := c4) (by repeat first | exact .head _ | refine .tail _ ?_))) (by decide) (by decide)
  (refine ql_gyes rfl ?_; (iterate 3 refine ql_pure tabOk rfl rfl ?_); refine ql_gyes rfl ?_; refine ql_pure tabOk rfl rfl ?_; refine ql_gyes rfl ?_)
  refine ql_mkS 88 (ints [4]) rfl (by kernel_rfl) rfl (fun c5 => ?_)
  refine ql_gyes rfl ?_
  refine ql_callv (val := .bool true) tabOk rfl rfl rfl rfl (fun w hs => ?_) ?_; exact eqR_ca w 0 w.heap.size 0 w.heap.size _ _ [4] (hs.rdI (v := .slice vb1 vb2 vb3) (l := [4]) (by repeat first | exact .head _ | refine .tail _ ?_) rfl) (Blk.rdI (l := [4]) (c := 1) (hs.blk (b := c5) (by repeat first | exact .head _ | refine .tail _ ?_))) (by decide)
  (refine ql_gyes rfl ?_; (iterate 3 refine ql_pure tabOk rfl rfl ?_); refine ql_gyes rfl ?_; refine ql_pure tabOk rfl rfl ?_; refine ql_gyes rfl ?_)
  refine ql_mkS 3 (ints [0, 1, 1]) rfl (by kernel_rfl) rfl (fun c6 => ?_)
  refine ql_gyes rfl ?_
  refine ql_callv (val := .bool true) tabOk rfl rfl rfl rfl (fun w hs => ?_) ?_; exact eqI_ca w 0 w.heap.size 0 w.heap.size _ _ [0, 1, 1] (hs.rdI (v := .slice vc1 vc2 vc3) (l := [0, 1, 1]) (by repeat first | exact .head _ | refine .tail _ ?_) rfl) (Blk.rdI (l := [0, 1, 1]) (c := 3) (hs.blk (b := c6) (by repeat first | exact .head _ | refine .tail _ ?_))) (by decide)
  (refine ql_gyes rfl ?_; (iterate 3 refine ql_pure tabOk rfl rfl ?_); refine ql_gyes rfl ?_; refine ql_pure tabOk rfl rfl ?_; refine ql_gyes rfl ?_; refine ql_neqF tabOk rfl rfl rfl (by omega) ?_; refine ql_pure tabOk rfl rfl ?_; refine q_nil ?_; refine q_cond_false rfl ?_; refine q_skip ?_; refine q_seq ?_; refine q_region ?_)
  refine ql_callv tabOk rfl rfl rfl rfl (fun w hs => spanM_ca _ _ w) ?_
  (refine ql_pure tabOk rfl rfl ?_; refine ql_st8 tabOk rfl rfl rfl rfl (by repeat constructor) ?_; refine ql_pure tabOk rfl rfl ?_)
  refine ql_stA (rlC threeQ) tabOk rfl rfl rfl rfl rfl (by repeat constructor) rfl rfl ?_
  (refine q_nil ?_; refine q_seq ?_; refine q_region ?_; refine ql_pure tabOk rfl rfl ?_; refine ql_loadAB tabOk rfl rfl rfl (by repeat first | exact .head _ | refine .tail _ ?_) (by rfl) (by rfl) ?_)
  refine ql_call (β := Value × Value) tabOk [] _ M0 rfl rfl rfl rfl (Sp.refl _) (fun _ h => h.elim) (fun w' hs => yield_ok w' 0 w'.heap.size (some ⟨bs, 0, none⟩) 3 threeS threeQ [0, 1, 2] (hS w' (hs.blk (by repeat first | exact .head _ | refine .tail _ ?_))) aw_cr2 aw_yield) ?_
  rintro ⟨vy, vz⟩ _ rfl
  rw [aw_yield2]
  dsimp only [List.cons_append, List.nil_append]
  refine ql_fact (fun w hs => hs.slice (v := vy) (by repeat first | exact .head _ | refine .tail _ ?_)) ?_
  rintro ⟨vy1, vy2, vy3, rfl⟩
  refine ql_fact (fun w hs => hs.slice (v := vz) (by repeat first | exact .head _ | refine .tail _ ?_)) ?_
  rintro ⟨vz1, vz2, vz3, rfl⟩
  (refine ql_pure tabOk rfl rfl ?_; (iterate 3 refine ql_ext tabOk rfl rfl rfl ?_); (iterate 3 refine ql_pure tabOk rfl rfl ?_); refine q_nil ?_; refine q_seq ?_; refine q_region ?_)
  have hD : ∀ n w' b, Blk w' b (dyC (shortW n).days) 73 → RdD w' 0 w'.heap.size (.slice (some ⟨b, 0, none⟩) (shortW n).days.length 3) (shortW n).days := fun n w' b hb => Blk.rdD hb rfl
  refine ql_call (β := Nat) tabOk [] _ M0 rfl rfl rfl rfl (Sp.refl _) (fun _ h => h.elim) (fun w' hs => short_ca w' 500) ?_
  rintro d1 _ rfl
  refine ql_callv (val := .tuple #[.int .i64 2, .int .i64 0]) tabOk rfl rfl rfl rfl (fun w hs => ?_) ?_; exact by have := first_ca w 0 w.heap.size (shortW 500) (some ⟨d1, 0, none⟩) 3 (hD 500 w d1 (hs.blk (by repeat first | exact .head _ | refine .tail _ ?_))) (by decide); rw [aw_first] at this; exact this
  (refine ql_pure tabOk rfl rfl ?_; (iterate 2 refine ql_ext tabOk rfl rfl rfl ?_); (iterate 2 refine ql_pure tabOk rfl rfl ?_); refine q_nil ?_; refine q_seq ?_; refine q_region ?_)
  refine ql_call (β := Nat) tabOk [] _ M0 rfl rfl rfl rfl (Sp.refl _) (fun _ h => h.elim) (fun w' hs => short_ca w' 500) ?_
  rintro d2 _ rfl
  refine ql_mk #[.int .i64 (-1), .int .i64 2] rfl (by kernel_rfl) rfl ?_
  refine ql_callv (val := .tuple #[.int .i64 360, .int .i64 0]) tabOk rfl rfl rfl rfl (fun w hs => ?_) ?_; exact by have := proves_ca w 0 w.heap.size (shortW 500) (some ⟨d2, 0, none⟩) 3 (-1) 2 (hD 500 w d2 (hs.blk (by repeat first | exact .head _ | refine .tail _ ?_))) (by decide); rw [aw_proves] at this; exact this
  (refine ql_pure tabOk rfl rfl ?_; (iterate 2 refine ql_ext tabOk rfl rfl rfl ?_); (iterate 2 refine ql_pure tabOk rfl rfl ?_); refine q_nil ?_; refine q_seq ?_; refine q_region ?_)
  refine ql_call (β := Nat) tabOk [] _ M0 rfl rfl rfl rfl (Sp.refl _) (fun _ h => h.elim) (fun w' hs => short_ca w' 500) ?_
  rintro d3 _ rfl
  refine ql_call (β := Value) tabOk [] _ M0 rfl rfl rfl rfl (Sp.refl _) (fun _ h => h.elim) (fun w' hs => ranges_ok w' 0 w'.heap.size (shortW 500) (some ⟨d3, 0, none⟩) 3 (hD 500 w' d3 (hs.blk (by repeat first | exact .head _ | refine .tail _ ?_))) aw_right) ?_
  rintro vx _ rfl
  rw [aw_ranges]
  dsimp only [List.cons_append, List.nil_append]
  refine ql_fact (fun w hs => hs.slice (v := vx) (by repeat first | exact .head _ | refine .tail _ ?_)) ?_
  rintro ⟨vx1, vx2, vx3, rfl⟩
  (refine ql_pure tabOk rfl rfl ?_; (iterate 2 refine ql_ext tabOk rfl rfl rfl ?_); (iterate 2 refine ql_pure tabOk rfl rfl ?_); refine q_nil ?_; (iterate 2 refine q_seq ?_); refine q_region ?_; refine ql_pure tabOk rfl rfl ?_; refine ql_neqF tabOk rfl rfl rfl (by omega) ?_; refine ql_pure tabOk rfl rfl ?_; refine ql_gyes rfl ?_; refine ql_pure tabOk rfl rfl ?_; refine ql_gyes rfl ?_; refine ql_neqF tabOk rfl rfl rfl (by omega) ?_; (iterate 2 refine ql_pure tabOk rfl rfl ?_); refine ql_gyes rfl ?_; refine ql_pure tabOk rfl rfl ?_; refine ql_gyes rfl ?_; refine ql_neqF tabOk rfl rfl rfl (by omega) ?_; (iterate 2 refine ql_pure tabOk rfl rfl ?_); refine ql_gyes rfl ?_; refine ql_pure tabOk rfl rfl ?_; refine ql_gyes rfl ?_; refine ql_neqF tabOk rfl rfl rfl (by omega) ?_; (iterate 2 refine ql_pure tabOk rfl rfl ?_); refine ql_gyes rfl ?_; refine ql_pure tabOk rfl rfl ?_; refine ql_gyes rfl ?_)
  refine ql_mkS 88 (ints [0]) rfl (by kernel_rfl) rfl (fun c7 => ?_)
  refine ql_gyes rfl ?_
  refine ql_callv (val := .bool true) tabOk rfl rfl rfl rfl (fun w hs => ?_) ?_; exact eqR_ca w 0 w.heap.size 0 w.heap.size _ _ [0] (hs.rdI (v := .slice vy1 vy2 vy3) (l := [0]) (by repeat first | exact .head _ | refine .tail _ ?_) rfl) (Blk.rdI (l := [0]) (c := 1) (hs.blk (b := c7) (by repeat first | exact .head _ | refine .tail _ ?_))) (by decide)
  (refine ql_gyes rfl ?_; (iterate 3 refine ql_pure tabOk rfl rfl ?_); refine ql_gyes rfl ?_; refine ql_pure tabOk rfl rfl ?_; refine ql_gyes rfl ?_)
  refine ql_mkS 3 (ints [0, 1, 2]) rfl (by kernel_rfl) rfl (fun c8 => ?_)
  refine ql_gyes rfl ?_
  refine ql_callv (val := .bool true) tabOk rfl rfl rfl rfl (fun w hs => ?_) ?_; exact eqI_ca w 0 w.heap.size 0 w.heap.size _ _ [0, 1, 2] (hs.rdI (v := .slice vz1 vz2 vz3) (l := [0, 1, 2]) (by repeat first | exact .head _ | refine .tail _ ?_) rfl) (Blk.rdI (l := [0, 1, 2]) (c := 3) (hs.blk (b := c8) (by repeat first | exact .head _ | refine .tail _ ?_))) (by decide)
  (refine ql_gyes rfl ?_; (iterate 3 refine ql_pure tabOk rfl rfl ?_); refine ql_gyes rfl ?_; refine ql_pure tabOk rfl rfl ?_; refine ql_gyes rfl ?_; refine ql_neqF tabOk rfl rfl rfl (by omega) ?_; (iterate 2 refine ql_pure tabOk rfl rfl ?_); refine ql_gyes rfl ?_; refine ql_pure tabOk rfl rfl ?_; refine ql_gyes rfl ?_; refine ql_neqF tabOk rfl rfl rfl (by omega) ?_; (iterate 2 refine ql_pure tabOk rfl rfl ?_); refine ql_gyes rfl ?_; refine ql_pure tabOk rfl rfl ?_; refine ql_gyes rfl ?_)
  refine ql_mk #[.int .i64 280, .int .i64 390] rfl (by kernel_rfl) rfl ?_
  refine ql_gyes rfl ?_
  refine ql_mk #[.int .i64 160, .int .i64 600] rfl (by kernel_rfl) rfl ?_
  refine ql_gyes rfl ?_
  refine ql_mkS 24 (spC [(280, 390), (160, 600)]) rfl (by kernel_rfl) rfl (fun c9 => ?_)
  refine ql_gyes rfl ?_
  refine ql_callv (val := .bool true) tabOk rfl rfl rfl rfl (fun w hs => ?_) ?_; exact eqS_ca w 0 w.heap.size 0 w.heap.size _ _ [(280, 390), (160, 600)] (own_rdS (t := 24) (hs.mem (c := .ow (.slice vx1 vx2 vx3) 24 2 2 (spC [(280, 390), (160, 600)])) (by repeat first | exact .head _ | refine .tail _ ?_)) rfl) (Blk.rdS (l := [(280, 390), (160, 600)]) (c := 2) (hs.blk (b := c9) (by repeat first | exact .head _ | refine .tail _ ?_)) rfl) (by decide)
  (refine ql_gyes rfl ?_; (iterate 2 refine ql_pure tabOk rfl rfl ?_); refine q_nil ?_; refine q_cond_false rfl ?_; refine q_skip ?_; refine q_seq ?_; refine q_region ?_)
  refine ql_call (β := Nat) tabOk [] _ M0 rfl rfl rfl rfl (Sp.refl _) (fun _ h => h.elim) (fun w' hs => short_ca w' 100) ?_
  rintro d4 _ rfl
  refine ql_callv (val := .tuple #[.int .i64 460, .int .i64 0]) tabOk rfl rfl rfl rfl (fun w hs => ?_) ?_; exact by have := least_ca w 0 w.heap.size (shortW 100) (some ⟨d4, 0, none⟩) 3 (hD 100 w d4 (hs.blk (by repeat first | exact .head _ | refine .tail _ ?_))) (by decide); rw [aw_least] at this; exact this
  (refine ql_pure tabOk rfl rfl ?_; (iterate 2 refine ql_ext tabOk rfl rfl rfl ?_); (iterate 2 refine ql_pure tabOk rfl rfl ?_); refine q_nil ?_; refine q_seq ?_; refine q_region ?_)
  refine ql_call (β := Nat) tabOk [] _ M0 rfl rfl rfl rfl (Sp.refl _) (fun _ h => h.elim) (fun w' hs => short_ca w' 100) ?_
  rintro d5 _ rfl
  refine ql_callv (val := .tuple #[.int .i64 540, .int .i64 0]) tabOk rfl rfl rfl rfl (fun w hs => ?_) ?_; exact by have := room_ca w 0 w.heap.size (shortW 100) (some ⟨d5, 0, none⟩) 3 (hD 100 w d5 (hs.blk (by repeat first | exact .head _ | refine .tail _ ?_))) (by decide); rw [aw_room] at this; exact this
  (refine ql_pure tabOk rfl rfl ?_; (iterate 2 refine ql_ext tabOk rfl rfl rfl ?_); (iterate 2 refine ql_pure tabOk rfl rfl ?_); refine q_nil ?_; refine q_seq ?_; refine q_region ?_; refine ql_pure tabOk rfl rfl ?_; refine ql_eqlT tabOk rfl rfl rfl (by omega) ?_; refine ql_pure tabOk rfl rfl ?_; refine ql_gyes rfl ?_; refine ql_pure tabOk rfl rfl ?_; refine ql_gyes rfl ?_; refine ql_eqlT tabOk rfl rfl rfl (by omega) ?_; (iterate 2 refine ql_pure tabOk rfl rfl ?_); refine ql_gyes rfl ?_; refine ql_pure tabOk rfl rfl ?_; refine ql_gyes rfl ?_; refine ql_eqlT tabOk rfl rfl rfl (by omega) ?_; (iterate 2 refine ql_pure tabOk rfl rfl ?_); refine ql_gyes rfl ?_; refine ql_pure tabOk rfl rfl ?_; refine ql_gyes rfl ?_; refine ql_eqlT tabOk rfl rfl rfl (by omega) ?_; (iterate 2 refine ql_pure tabOk rfl rfl ?_); refine q_nil ?_; refine q_ret ?_)
  refine q_fin tabOk rfl (by repeat (first | exact RVs.nil | apply RVs.tmp rfl | apply RVs.cellA rfl rfl (by repeat first | exact .head _ | refine .tail _ ?_) (by rfl) | apply RVs.cell1 rfl rfl (by repeat first | exact .head _ | refine .tail _ ?_))) fun w hs => ?_
  exact ⟨rfl, hs.chg0⟩
end Go.Proofs.Ytgeajgmefokifaa

/- Walks: klisterkit's deck. Only the ranges of what it deals are told. -/
namespace Go.Proofs.Ytgeajgmefokifaa
open Go Go.Eng

section
attribute [local irreducible] IntKind.wrap Int.tmod Int.tdiv

/-- The deck's own variable, after at most K cards. -/
def DkS (w : World) (b : Nat) (bs : Value) (K : Nat) : Prop :=
  ∃ next st, Blk w b [bs, .int .i64 next, .int .u32 st] 165 ∧ 0 ≤ next ∧ next ≤ K ∧ 0 ≤ st ∧ st < 4294967296
/-- Its bytes. -/
def DkB (w : World) (lo hi : Nat) (bs : Value) : Prop := ∃ nb cs, Rd w lo hi bs 1 nb cs ∧ (∀ c ∈ cs, ∃ x, c = .int .u8 x ∧ 0 ≤ x ∧ x < 256)
theorem DkB.keep {w w' : World} {lo hi : Nat} {bs : Value} (h : DkB w lo hi bs) (c : Chg [] w w') : DkB w' lo hi bs := by
  obtain ⟨nb, cs, h1, h2⟩ := h
  exact ⟨nb, cs, h1.keep c, h2⟩

set_option maxHeartbeats 1000000 in
theorem draw_ca (n : Int) (K : Nat) (hK : K < 4611686018427387904) (w : World) (b lo hi : Nat) (bs : Value) (hby : DkB w lo hi bs) (hlh : hi ≤ b) (hd : DkS w b bs K) :
    Ca Try.prog 39 [.pointer (some ⟨b, 0, none⟩), .int .i64 n] w fun v w' => ∃ r, v = .int .i64 r ∧ 0 ≤ r ∧ (r < n ∨ r = 0) ∧ Chg [b] w w' ∧ w'.heap.size = w.heap.size ∧ DkS w' b bs (K + 1) := by
  obtain ⟨nb, cs, hrd, hcs⟩ := hby
  obtain ⟨next, st, hb, hn0, hnK, hs0, hs1⟩ := hd
  have hd : DkS w b bs (K + 1) := ⟨next, st, hb, hn0, by omega, hs0, hs1⟩
  obtain ⟨a, cap, rfl, hsl⟩ := hrd.out
  refine ca_of Try.func39 rfl (by simp [Try.ntmps39]) ?_
  (refine y_seq ?_; refine y_region ?_; refine yl_pure tabOk rfl rfl ?_; (iterate 2 refine y_seq ?_); refine y_region ?_; (iterate 3 refine yl_pure tabOk rfl rfl ?_))
  refine yl_split rfl rfl (fun hc => ?_) (fun hc => ?_)
  · ((iterate 6 refine yl_guard_no rfl rfl rfl ?_); refine yl_pure tabOk rfl rfl ?_; refine y_cond_true rfl ?_; refine y_seq ?_; refine y_region ?_; refine yl_pure tabOk rfl rfl ?_; refine y_ret ?_)
    exact y_fin1 rfl rfl ⟨0, rfl, by omega, .inr rfl, Chg.refl _ _, rfl, hd⟩
  (refine yl_guard_yes rfl ?_; refine yl_pure tabOk rfl rfl ?_; refine yl_guard_yes rfl ?_; refine yl_pure tabOk rfl rfl ?_; refine yl_guard_yes rfl ?_; refine yl_pure tabOk rfl rfl ?_; refine yl_guard_yes rfl ?_; refine yl_loadB tabOk rfl rfl rfl (by assumption) (by rfl) ?_; refine yl_guard_yes rfl ?_; refine yl_pure tabOk rfl rfl ?_; refine yl_guard_yes rfl ?_; (iterate 2 refine yl_pure tabOk rfl rfl ?_); refine yl_nil ?_)
  have hn := of_decide_eq_false hc
  refine y_if rfl (fun hc => ?_) (fun hc => ?_)
  · (refine y_seq ?_; refine y_region ?_; refine yl_pure tabOk rfl rfl ?_; refine y_ret ?_)
    exact y_fin1 rfl rfl ⟨0, rfl, by omega, .inr rfl, Chg.refl _ _, rfl, hd⟩
  have hnb : 0 < nb := by omega
  obtain ⟨bb, off, rfl, hcell⟩ := hsl hnb
  (refine y_skip ?_; refine y_seq ?_)
  refine y_draw [] (by kernel_rfl) (by kernel_rfl) (fun w1 hc1 hs1 => ?_)
  have hb1 := hb.keep hc1
  ((iterate 3 refine yf_pure tabOk rfl rfl rfl ?_); refine yf_loadB tabOk rfl rfl rfl (by assumption) (by first | assumption | simp) (by rfl) ?_; (iterate 3 refine yf_pure tabOk rfl rfl rfl ?_); refine yf_loadB tabOk rfl rfl rfl (by assumption) (by first | assumption | simp) (by rfl) ?_; (iterate 3 refine yf_pure tabOk rfl rfl rfl ?_); refine yf_loadB tabOk rfl rfl rfl (by assumption) (by first | assumption | simp) (by rfl) ?_; refine yf_pure tabOk rfl rfl rfl ?_)
  have hlen : cs.length = nb := by have := hrd.1; omega
  have hm := tmod_pos hn0 (by omega : (0 : Int) < nb)
  refine yf_rem rfl rfl (by omega) rfl ?_
  refine yf_index tabOk rfl rfl rfl rfl rfl hm.1 hm.2 ?_
  obtain ⟨x, hx, hx0, hx1⟩ := hcs (cs[(next.tmod nb).toNat]'(by omega)) (List.getElem_mem _)
  refine yf_load1 tabOk rfl rfl rfl (fun w' hw' => ?_) (v := .int .u8 x) ?_
  · have h1 := ((hrd.keep hc1).keep hw').cell rfl (next.tmod nb).toNat (by omega)
    rw [Nat.mul_one, h1, List.getElem?_eq_getElem (by omega), hx]
  ((iterate 4 refine yf_pure tabOk rfl rfl rfl ?_); refine yf_loadB tabOk rfl rfl rfl (by assumption) (by first | assumption | simp) (by rfl) ?_; (iterate 3 refine yf_pure tabOk rfl rfl rfl ?_); refine yf_loadB tabOk rfl rfl rfl (by assumption) (by first | assumption | simp) (by rfl) ?_; refine yf_pure tabOk rfl rfl rfl ?_)
  refine yf_quo rfl rfl (by omega) rfl ?_
  ((iterate 3 refine yf_pure tabOk rfl rfl rfl ?_); refine y_seq ?_; refine y_region ?_; (iterate 3 refine yl_pure tabOk rfl rfl ?_); refine yl_loadB tabOk rfl rfl rfl (by assumption) (by rfl) ?_; (iterate 3 refine yl_pure tabOk rfl rfl ?_))
  refine yl_store1 tabOk rfl rfl rfl rfl (by assumption) (by simp) (fun w2 hc2 hs2 hb2 => ?_)
  (refine y_seq ?_; refine y_region ?_; (iterate 4 refine yl_pure tabOk rfl rfl ?_); refine yl_loadB tabOk rfl rfl rfl (by assumption) (by rfl) ?_; (iterate 7 refine yl_pure tabOk rfl rfl ?_))
  refine yl_rem rfl rfl (by omega) rfl ?_
  ((iterate 2 refine yl_pure tabOk rfl rfl ?_))
  refine yl_store1 tabOk rfl rfl rfl rfl (by assumption) (by simp) (fun w3 hc3 hs3 hb3 => ?_)
  have hc03 : Chg [b] w w3 := (hc1.nil.trans hc2).trans hc3
  generalize hq : IntKind.u32.wrap (IntKind.i64.wrap (next.tdiv nb)) = q at *
  clear hq
  generalize hz : Int.tmod _ 65519 = z at *
  have hz0 : 0 ≤ z ∧ z < 65519 := by rw [← hz]; exact tmod_pos (wu32_range _).1 (by omega)
  clear hz
  have hd3 : DkS w3 b (.slice (some ⟨bb, off, none⟩) nb cap) (K + 1) := by
    refine ⟨next + 1, z, ?_, by omega, by omega, hz0.1, by omega⟩
    rw [w64 (by omega) (by omega)] at hb3
    exact hb3
  have hfin : ∀ y : Int, ∃ r, Value.int .i64 ((IntKind.i64.wrap (IntKind.u32.wrap y)).tmod n) = .int .i64 r ∧ 0 ≤ r ∧ (r < n ∨ r = 0) ∧ Chg [b] w w3 ∧ w3.heap.size = w.heap.size ∧ DkS w3 b (.slice (some ⟨bb, off, none⟩) nb cap) (K + 1) := by
    intro y
    have h1 := wu32_range y
    have h2 : IntKind.i64.wrap (IntKind.u32.wrap y) = IntKind.u32.wrap y := w64 (by omega) (by omega)
    rw [h2]
    have h3 := tmod_pos h1.1 (by omega : (0 : Int) < n)
    exact ⟨_, rfl, h3.1, .inl h3.2, hc03, by omega, hd3⟩
  ((iterate 2 refine y_seq ?_); refine y_region ?_; (iterate 3 refine yl_pure tabOk rfl rfl ?_))
  refine yl_split rfl rfl (fun hc => ?_) (fun hc => ?_)
  · (refine yl_guard_yes rfl ?_; refine yl_pure tabOk rfl rfl ?_; refine yl_guard_yes rfl ?_; (iterate 2 refine yl_pure tabOk rfl rfl ?_); refine yl_nil ?_)
    refine y_if rfl (fun hc => ?_) (fun hc => ?_)
    · (refine y_seq ?_; refine y_region ?_; (iterate 3 refine yl_pure tabOk rfl rfl ?_))
      refine yl_rem rfl rfl (by omega) rfl ?_
      (refine yl_pure tabOk rfl rfl ?_; refine y_ret ?_)
      exact y_fin1 rfl rfl (hfin _)
    · (refine y_skip ?_; refine y_seq ?_; refine y_region ?_; (iterate 3 refine yl_pure tabOk rfl rfl ?_); refine yl_loadB tabOk rfl rfl rfl (by assumption) (by rfl) ?_; (iterate 5 refine yl_pure tabOk rfl rfl ?_))
      refine yl_rem rfl rfl (by omega) rfl ?_
      (refine yl_pure tabOk rfl rfl ?_; refine y_ret ?_)
      exact y_fin1 rfl rfl (hfin _)
  · ((iterate 2 refine yl_guard_no rfl rfl rfl ?_); refine yl_pure tabOk rfl rfl ?_; refine y_cond_false rfl ?_; refine y_skip ?_; refine y_seq ?_; refine y_region ?_; (iterate 3 refine yl_pure tabOk rfl rfl ?_); refine yl_loadB tabOk rfl rfl rfl (by assumption) (by rfl) ?_; (iterate 5 refine yl_pure tabOk rfl rfl ?_))
    refine yl_rem rfl rfl (by omega) rfl ?_
    (refine yl_pure tabOk rfl rfl ?_; refine y_ret ?_)
    exact y_fin1 rfl rfl (hfin _)


end
/-- A deck, after at most K cards. -/
def dkP (bs : Value) (b K : Nat) : Ck := .gn (fun x => x = b) (fun w => DkS w b bs K) (fun w w' N h hc hN => by
  obtain ⟨next, st, h1, h2⟩ := h
  exact ⟨next, st, (hc.block b h1.lt (hN b rfl)).trans h1, h2⟩)

theorem drawP_ca (n : Int) (K : Nat) (hK : K < 4611686018427387904) (w : World) (b lo hi : Nat) (bs : Value) (hby : DkB w lo hi bs) (hlh : hi ≤ b) (hd : DkS w b bs K) :
    Ca Try.prog 39 [.pointer (some ⟨b, 0, none⟩), .int .i64 n] w fun v w' => ∃ x : Int, (v = .int .i64 x ∧ 0 ≤ x ∧ (x < n ∨ x = 0)) ∧ Sat w (fun x => x = b) [dkP bs b (K + 1)] w' :=
  (draw_ca n K hK w b lo hi bs hby hlh hd).mono fun v w' ⟨r, h1, h2, h3, h4, h5, h6⟩ =>
    ⟨r, ⟨h1, h2, h3⟩, ⟨h4.os, h4.tape, h4.output, h4.size, fun k hk hkb => h4.block k hk (by simpa using hkb)⟩, by simpa [dkP, Ck.p] using h6, .cons (by simp) .nil, fun c hc x hx => by
      obtain rfl : c = dkP bs b (K + 1) := by simpa using hc
      obtain rfl : x = b := hx
      obtain ⟨_, _, h7, _⟩ := h6
      exact ⟨h7.lt, .inl rfl⟩⟩



theorem dk_sat {w : World} {b K : Nat} {bs : Value} (hd : DkS w b bs K) : Sat w (fun x => x = b) [dkP bs b K] w :=
  ⟨ChgP.refl _ _, by simpa [dkP, Ck.p] using hd, .cons (by simp) .nil, fun c hc x hx => by
    obtain rfl : c = dkP bs b K := by simpa using hc
    obtain rfl : x = b := hx
    obtain ⟨_, _, h7, _⟩ := hd
    exact ⟨h7.lt, .inl rfl⟩⟩

theorem between_ca (l h : Int) (hl : -1000000 ≤ l) (hh : h ≤ 1000000) (hlh2 : l ≤ h) (K : Nat) (hK : K < 4611686018427387904) (w : World) (b lo hi : Nat) (bs : Value) (hby : DkB w lo hi bs) (hlh : hi ≤ b) (hd : DkS w b bs K) :
    Ca Try.prog 38 [.pointer (some ⟨b, 0, none⟩), .int .i64 l, .int .i64 h] w fun v w' => ∃ x : Int, (v = .int .i64 x ∧ l ≤ x ∧ x ≤ h) ∧ Sat w (fun x => x = b) [dkP bs b (K + 1)] w' := by
  refine q_of (dk_sat hd) Try.func38 rfl (by simp [Try.ntmps38]) ?_
  (refine q_seq ?_; refine q_region ?_; refine ql_pure tabOk rfl rfl ?_; refine q_nil ?_; refine q_seq ?_; refine q_region ?_; (iterate 4 refine ql_pure tabOk rfl rfl ?_); (iterate 2 refine ql_ar tabOk rfl rfl rfl rfl (by omega) (by omega) ?_))
  refine ql_call (β := Int) (ψ := fun x v => v = .int .i64 x ∧ 0 ≤ x ∧ (x < h - l + 1 ∨ x = 0)) (L' := fun _ => [dkP bs b (K + 1)]) tabOk [dkP bs b K] [] (fun x => x = b) rfl rfl rfl rfl (Sp.refl _) (fun x hx => ⟨_, .head _, hx⟩) (fun w' hs => drawP_ca (h - l + 1) K hK w' b lo hi bs (by
    obtain ⟨nb, cs, h1, h2⟩ := hby
    exact ⟨nb, cs, h1.chg (N := [b]) ⟨hs.chg.os, hs.chg.tape, hs.chg.output, hs.chg.size, fun k hk hkb => hs.chg.block k hk (by simpa using hkb)⟩ (fun k hk => .inr (by simp at hk; omega)), h2⟩) hlh (hs.all _ (.head _))) ?_
  rintro x _ ⟨rfl, hx0, hx1⟩
  (refine ql_ar tabOk rfl rfl rfl rfl (by omega) (by omega) ?_; refine ql_pure tabOk rfl rfl ?_; refine q_nil ?_; refine q_ret ?_)
  refine q_fin tabOk rfl (by repeat (first | exact RVs.nil | apply RVs.tmp rfl | apply RVs.cellA rfl rfl (by repeat first | exact .head _ | refine .tail _ ?_) (by rfl) | apply RVs.cell1 rfl rfl (by repeat first | exact .head _ | refine .tail _ ?_))) fun w hs => ?_
  exact ⟨_, ⟨rfl, by omega, by omega⟩, hs⟩



theorem of_ca (w : World) (a : Option Addr) (n c : Nat) : Ca Try.prog 36 [.slice a n c] w fun v w' => ∃ b : Nat, v = .pointer (some ⟨b, 0, none⟩) ∧ Sat w M0 [dkP (.slice a n c) b 0] w' := by
  refine q_of (Sat.nil w M0) Try.func36 rfl (by simp [Try.ntmps36]) ?_
  (refine q_seq ?_; refine q_region ?_; refine ql_pure tabOk rfl rfl ?_; refine q_nil ?_; refine q_seq ?_; refine q_region ?_; refine ql_pure tabOk rfl rfl ?_)
  refine ql_mk #[.slice a n c, .int .i64 0, .int .u32 17] rfl (by kernel_rfl) rfl ?_
  skip
  refine ql_box rfl rfl (fun b1 => ?_)
  (refine ql_pure tabOk rfl rfl ?_; refine q_nil ?_; refine q_ret ?_)
  refine q_fin tabOk rfl (by repeat (first | exact RVs.nil | apply RVs.tmp rfl | apply RVs.cellA rfl rfl (by repeat first | exact .head _ | refine .tail _ ?_) (by rfl) | apply RVs.cell1 rfl rfl (by repeat first | exact .head _ | refine .tail _ ?_))) fun w hs => ?_
  refine ⟨b1, rfl, ⟨hs.chg, fun d hd => ?_, .cons (by simp) .nil, fun d hd x hx => ?_⟩⟩
  · obtain rfl : d = dkP (.slice a n c) b1 0 := by simpa using hd
    exact ⟨0, 17, hs.all _ (.head _), by omega, by omega, by omega, by omega⟩
  · obtain rfl : d = dkP (.slice a n c) b1 0 := by simpa using hd
    obtain rfl : x = b1 := hx
    exact hs.bd _ (.head _) x rfl



theorem DkB.keepP {w w' : World} {lo hi b : Nat} {bs : Value} (h : DkB w lo hi bs) (hlh : hi ≤ b) (hc : ChgP (fun x => x = b) w w') : DkB w' lo hi bs := by
  obtain ⟨nb, cs, h1, h2⟩ := h
  exact ⟨nb, cs, h1.chg (N := [b]) ⟨hc.os, hc.tape, hc.output, hc.size, fun k hk hkb => hc.block k hk (by simpa using hkb)⟩ (fun k hk => .inr (by simp at hk; omega)), h2⟩
theorem DkS.mono {w : World} {b K K' : Nat} {bs : Value} (h : DkS w b bs K) (hk : K ≤ K') : DkS w b bs K' := by
  obtain ⟨next, st, h1, h2, h3, h4⟩ := h
  exact ⟨next, st, h1, h2, by omega, h4⟩
theorem Sat.dk {w0 w : World} {M : Nat → Prop} {R : List Ck} {b K K' : Nat} {bs : Value} (h : Sat w0 M (dkP bs b K :: R) w) (hk : K ≤ K') : Sat w0 M (dkP bs b K' :: R) w := h.turn (fun _ h => h) (fun h => DkS.mono h hk)



section
variable {K b : Nat} {bs : Value} {w0 w : World} {R : List Ck}
theorem dk_new (hs : Sat w0 M0 (dkP bs b K :: R) w) : w0.heap.size ≤ b := (hs.bd _ (.head _) b rfl).2.resolve_left (fun h => h)
theorem btw0 {l h : Int} (hby : DkB w0 0 w0.heap.size bs) (hs : Sat w0 M0 (dkP bs b K :: R) w) (hl : -1000000 ≤ l) (hh : h ≤ 1000000) (hlh : l ≤ h) (hK : K < 1000000) :
    Ca Try.prog 38 [.pointer (some ⟨b, 0, none⟩), .int .i64 l, .int .i64 h] w fun v w' => ∃ x : Int, (v = .int .i64 x ∧ l ≤ x ∧ x ≤ h) ∧ Sat w (fun x => x = b) [dkP bs b (K + 1)] w' :=
  between_ca l h hl hh hlh K (by omega) w b 0 w0.heap.size _ (hby.keep hs.chg0) (dk_new hs) (hs.all _ (.head _))
theorem drw0 {n : Int} (hby : DkB w0 0 w0.heap.size bs) (hs : Sat w0 M0 (dkP bs b K :: R) w) (hn : 1 ≤ n) (hK : K < 1000000) :
    Ca Try.prog 39 [.pointer (some ⟨b, 0, none⟩), .int .i64 n] w fun v w' => ∃ x : Int, (v = .int .i64 x ∧ 0 ≤ x ∧ x ≤ n - 1) ∧ Sat w (fun x => x = b) [dkP bs b (K + 1)] w' :=
  (drawP_ca n K (by omega) w b 0 w0.heap.size _ (hby.keep hs.chg0) (dk_new hs) (hs.all _ (.head _))).mono fun v w' ⟨x, ⟨h1, h2, h3⟩, h4⟩ => ⟨x, ⟨h1, h2, by omega⟩, h4⟩
end
end Go.Proofs.Ytgeajgmefokifaa

/- Walks: a winter is made of numbers. -/
namespace Go.Proofs.Ytgeajgmefokifaa
open Go Go.Eng

structure DayB (d : Dy) : Prop where
  n : 0 ≤ d.n0 ∧ d.n0 ≤ 29 ∧ d.n0 ≤ d.n1 ∧ d.n1 ≤ d.n0 + 11
  m : 0 ≤ d.m0 ∧ d.m0 ≤ 39 ∧ d.m0 ≤ d.m1 ∧ d.m1 ≤ d.m0 + 19
  l : 0 ≤ d.l0 ∧ d.l0 ≤ 5 ∧ d.l0 ≤ d.l1 ∧ d.l1 ≤ d.l0 + 3
/-- What MadeWinter makes. -/
structure WinB (days : Nat) (x : Wn) : Prop where
  store : 20 ≤ x.store ∧ x.store ≤ 200
  stock : 0 ≤ x.stock ∧ x.stock ≤ x.store
  d1 : 1 ≤ x.days.length
  d2 : x.days.length ≤ days
  days : ∀ d ∈ x.days, DayB d
theorem WinB.right {days : Nat} {x : Wn} (h : WinB days x) (hd : days ≤ 60) : x.Right := by
  have h1 := h.store
  have h2 := h.d2
  refine ⟨by omega, h.stock, h.d1, by omega, fun d hdm => ?_⟩
  have := h.days d hdm
  have a := this.n
  have b := this.m
  have c := this.l
  exact ⟨by omega, by omega, by omega⟩
theorem coin_ca (n : Int) (hn : 1 ≤ n) (K : Nat) (hK : K < 1000000) (w : World) (b lo hi : Nat) (bs : Value) (hby : DkB w lo hi bs) (hlh : hi ≤ b) (hd : DkS w b bs K) :
    Ca Try.prog 103 [.pointer (some ⟨b, 0, none⟩), .int .i64 n] w fun v w' => ∃ x : Bool, v = .bool x ∧ Sat w (fun x => x = b) [dkP bs b (K + 1)] w' := by
  refine q_of (dk_sat hd) Try.func103 rfl (by simp [Try.ntmps103]) ?_
  (refine q_seq ?_; refine q_region ?_; refine ql_pure tabOk rfl rfl ?_; refine q_nil ?_; refine q_seq ?_; refine q_region ?_; (iterate 2 refine ql_pure tabOk rfl rfl ?_))
  refine ql_call (β := Int) (ψ := fun x v => v = .int .i64 x ∧ 0 ≤ x ∧ (x < n ∨ x = 0)) (L' := fun _ => [dkP bs b (K + 1)]) tabOk [dkP bs b (K)] _ (fun x => x = b) rfl rfl rfl rfl (Sp.cons (by repeat constructor) (Sp.refl _)) (fun x hx => ⟨_, .head _, hx⟩) (fun w' hs => drawP_ca (n) (K) (by omega) w' b lo hi bs (hby.keepP hlh hs.chg) hlh (hs.all _ (.head _))) ?_; rintro x _ ⟨rfl, hx⟩
  ((iterate 2 refine ql_pure tabOk rfl rfl ?_); refine q_nil ?_; refine q_ret ?_)
  refine q_fin tabOk rfl (by repeat (first | exact RVs.nil | apply RVs.tmp rfl | apply RVs.cellA rfl rfl (by repeat first | exact .head _ | refine .tail _ ?_) (by rfl) | apply RVs.cell1 rfl rfl (by repeat first | exact .head _ | refine .tail _ ?_))) fun w hs => ?_
  exact ⟨_, rfl, hs⟩

theorem dyC_snoc (l : List Dy) (d : Dy) : dyC (l ++ [d]) = dyC l ++ dyC [d] := by simp [dyC]
theorem dyC_one (l : List Dy) : ∀ c ∈ dyC l, oneV c = true := fun c hc => by obtain ⟨y, _, hy⟩ := List.mem_flatMap.1 hc; simp at hy; rcases hy with rfl | rfl | rfl | rfl | rfl | rfl <;> rfl
theorem slD : SlT Try.prog 59 73 6 48 (.agg #[.int .i64 0, .int .i64 0, .int .i64 0, .int .i64 0, .int .i64 0, .int .i64 0]) := ⟨by kernel_rfl, by kernel_rfl, by kernel_rfl, by decide⟩
theorem Blk.rdDy {w : World} {b : Nat} {d : Dy} {t : TypeId} (h : Blk w b (dyC [d]) t) : Rd w b (b + 1) (.slice (some ⟨b, 0, none⟩) 1 1) 6 1 (dyC [d]) :=
  ⟨rfl, .inr ⟨b, 0, 1, rfl, fun _ => ⟨Nat.le_refl _, Nat.lt_succ_self _, h.lt⟩, fun j _ => by rw [Blk.cell h]; simp⟩⟩
/-- The spans made so far. -/
structure DayI (i : Nat) (d : Dy) : Prop where
  n : 1 ≤ i → 0 ≤ d.n0 ∧ d.n0 ≤ 29 ∧ d.n0 ≤ d.n1 ∧ d.n1 ≤ d.n0 + 11
  m : 2 ≤ i → 0 ≤ d.m0 ∧ d.m0 ≤ 39 ∧ d.m0 ≤ d.m1 ∧ d.m1 ≤ d.m0 + 19
  l : 3 ≤ i → 0 ≤ d.l0 ∧ d.l0 ≤ 5 ∧ d.l0 ≤ d.l1 ∧ d.l1 ≤ d.l0 + 3

set_option maxHeartbeats 4000000 in
theorem madeW_ca (days : Nat) (h1 : 1 ≤ days) (h2 : days ≤ 60) (K : Nat) (hK : K < 100000) (w : World) (b lo hi : Nat) (bs : Value) (hby : DkB w lo hi bs) (hlh : hi ≤ b) (hd : DkS w b bs K) :
    Ca Try.prog 35 [.pointer (some ⟨b, 0, none⟩), .int .i64 days] w fun v w' => ∃ y : Nat × Nat × Wn, (v = .agg (wnC y.2.2 (some ⟨y.1, 0, none⟩) y.2.1).toArray ∧ WinB days y.2.2) ∧ Sat w (fun x => x = b) [.ow (.slice (some ⟨y.1, 0, none⟩) y.2.2.days.length y.2.1) 73 6 y.2.2.days.length (dyC y.2.2.days), dkP bs b (K + 1000)] w' := by
  refine q_of (dk_sat hd) Try.func35 rfl (by simp [Try.ntmps35]) ?_
  (refine q_seq ?_; refine q_region ?_)
  refine ql_alloc zero61 rfl (fun b4 => ?_)
  (refine q_nil ?_; refine q_seq ?_; refine q_region ?_; refine ql_pure tabOk rfl rfl ?_)
  refine ql_call (β := Int) (ψ := fun x v => v = .int .i64 x ∧ 20 ≤ x ∧ x ≤ 200) (L' := fun _ => [dkP bs b (K + 1)]) tabOk [dkP bs b (K)] _ (fun x => x = b) rfl rfl rfl rfl (Sp.cons (by repeat constructor) (Sp.refl _)) (fun x hx => ⟨_, .head _, hx⟩) (fun w' hs => between_ca (20) (200) (by omega) (by omega) (by omega) (K) (by omega) w' b lo hi bs (hby.keepP hlh hs.chg) hlh (hs.all _ (.head _))) ?_; rintro sto _ ⟨rfl, hsto⟩
  refine ql_mk #[.int .i64 0, .int .i64 sto, .slice none 0 0] rfl (by kernel_rfl) rfl ?_
  refine ql_alloc zero61 rfl (fun b5 => ?_)
  (refine ql_setA tabOk rfl rfl rfl rfl rfl (by repeat constructor) rfl ?_; refine q_nil ?_; refine q_seq ?_; refine q_region ?_; (iterate 2 refine ql_pure tabOk rfl rfl ?_); refine ql_loadB tabOk rfl rfl rfl (by repeat first | exact .head _ | refine .tail _ ?_) (by rfl) ?_; refine ql_ar tabOk rfl rfl rfl rfl (by omega) (by omega) ?_)
  refine ql_call (β := Int) (ψ := fun x v => v = .int .i64 x ∧ 0 ≤ x ∧ (x < sto + 1 ∨ x = 0)) (L' := fun _ => [dkP bs b (K + 1 + 1)]) tabOk [dkP bs b (K + 1)] _ (fun x => x = b) rfl rfl rfl rfl (Sp.cons (by repeat constructor) (Sp.refl _)) (fun x hx => ⟨_, .head _, hx⟩) (fun w' hs => drawP_ca (sto + 1) (K + 1) (by omega) w' b lo hi bs (hby.keepP hlh hs.chg) hlh (hs.all _ (.head _))) ?_; rintro stk _ ⟨rfl, hstk⟩
  (refine ql_pure tabOk rfl rfl ?_; refine ql_st0 tabOk rfl rfl rfl rfl (by repeat constructor) ?_; refine q_nil ?_; (iterate 2 refine q_seq ?_); refine q_region ?_; (iterate 2 refine ql_pure tabOk rfl rfl ?_))
  refine ql_call (β := Int) (ψ := fun x v => v = .int .i64 x ∧ 1 ≤ x ∧ x ≤ days) (L' := fun _ => [dkP bs b (K + 2 + 1)]) tabOk [dkP bs b (K + 2)] _ (fun x => x = b) rfl rfl rfl rfl (Sp.cons (by repeat constructor) (Sp.refl _)) (fun x hx => ⟨_, .head _, hx⟩) (fun w' hs => between_ca (1) (days) (by omega) (by omega) (by omega) (K + 2) (by omega) w' b lo hi bs (hby.keepP hlh hs.chg) hlh (hs.all _ (.head _))) ?_; rintro cnt _ ⟨rfl, hcnt⟩
  (refine ql_pure tabOk rfl rfl ?_; refine q_nil ?_; refine q_block ?_)
  obtain ⟨cn, rfl⟩ := Int.eq_ofNat_of_zero_le (show 0 ≤ cnt by omega)
  have hcn : 1 ≤ cn ∧ cn ≤ days := by omega
  clear hcnt
  refine q_conv (H' := [.pt b5 [.int .i64 stk, .int .i64 sto, .slice none 0 0] 61, .ow (.slice none 0 0) 73 6 0 (dyC []), dkP bs b (K + 3 + 8 * 0), .pt b4 [.int .i64 0, .int .i64 0, .slice none 0 0] 61])
    (fun w' hs => (Sat.ownil hs 73 6).sp (by repeat (first | exact Sp.nil | exact Sp.refl _ | refine Sp.cons (by repeat constructor) ?_))) ?_
  refine q_loop (σ := Value × List Dy) (fun s => s.2.length ≤ cn ∧ ∀ d ∈ s.2, DayB d) (fun s => cn - s.2.length) (fun s => [(0, .pointer (some ⟨b, 0, none⟩)), (4, .pointer (some ⟨b4, 0, none⟩)), (5, .pointer (some ⟨b5, 0, none⟩)), (21, .int .i64 cn), (22, .int .i64 s.2.length)])
    (fun s => [.pt b5 [.int .i64 stk, .int .i64 sto, s.1] 61, .ow s.1 73 6 s.2.length (dyC s.2), dkP bs b (K + 3 + 8 * s.2.length), .pt b4 [.int .i64 0, .int .i64 0, .slice none 0 0] 61]) (.slice none 0 0, []) (by simp) ⟨rfl, rfl, rfl, rfl, rfl, trivial⟩ (by repeat (first | exact Sp.nil | exact Sp.refl _ | refine Sp.cons (by repeat constructor) ?_)) ?_
  rintro ⟨v, l⟩ ⟨hl, hB⟩ K1 hK1
  simp only at hl hB
  dsimp only
  (refine q_seq ?_; refine q_region ?_; refine ql_pure tabOk rfl rfl ?_; refine q_nil ?_; refine q_seq ?_)
  refine q_if rfl (fun hc => ?_) (fun hc => ?_)
  · have hl2 : l.length < cn := by omega
    clear hc
    obtain ⟨k, hk⟩ : ∃ k, k = l.length := ⟨_, rfl⟩
    rw [← hk]
    (refine q_skip ?_; refine q_seq ?_; refine q_block ?_; refine q_seq ?_; refine q_region ?_)
    refine ql_alloc zero73 rfl (fun b6 => ?_)
    (refine q_nil ?_; (iterate 2 refine q_seq ?_); refine q_region ?_; (iterate 3 refine ql_pure tabOk rfl rfl ?_))
    refine ql_mkS 83 [.pointer (some ⟨b6, 0, none⟩), .pointer (some ⟨b6, 2, none⟩), .pointer (some ⟨b6, 4, none⟩)] rfl (by kernel_rfl) rfl (fun bp => ?_)
    ((iterate 2 refine ql_pure tabOk rfl rfl ?_); refine q_nil ?_)
    refine q_cut (σ := {d : Dy // DayB d}) (fun d => [(0, .pointer (some ⟨b, 0, none⟩)), (4, .pointer (some ⟨b4, 0, none⟩)), (5, .pointer (some ⟨b5, 0, none⟩)), (6, .pointer (some ⟨b6, 0, none⟩)), (21, .int .i64 cn), (22, .int .i64 k)])
      (fun d => [.pt b6 (dyC [d.1]) 73, dkP bs b (K + 3 + 8 * k + 6), .pt b5 [.int .i64 stk, .int .i64 sto, v] 61, .ow v 73 6 k (dyC l), .pt b4 [.int .i64 0, .int .i64 0, .slice none 0 0] 61]) ?_ (fun KK hKK => ?_)
    rotate_left
    · skip
      (refine q_block ?_)
      refine q_loop (σ := Nat × Dy) (fun s => s.1 ≤ 3 ∧ DayI s.1 s.2) (fun s => 3 - s.1) (fun s => [(0, .pointer (some ⟨b, 0, none⟩)), (4, .pointer (some ⟨b4, 0, none⟩)), (5, .pointer (some ⟨b5, 0, none⟩)), (6, .pointer (some ⟨b6, 0, none⟩)), (21, .int .i64 cn), (22, .int .i64 k), (27, .slice (some ⟨bp, 0, none⟩) 3 3), (28, .int .i64 3), (29, .int .i64 s.1)])
        (fun s => [.pt bp [.pointer (some ⟨b6, 0, none⟩), .pointer (some ⟨b6, 2, none⟩), .pointer (some ⟨b6, 4, none⟩)] 83, .pt b6 (dyC [s.2]) 73, dkP bs b (K + 3 + 8 * k + 2 * s.1), .pt b5 [.int .i64 stk, .int .i64 sto, v] 61, .ow v 73 6 k (dyC l), .pt b4 [.int .i64 0, .int .i64 0, .slice none 0 0] 61]) (0, ⟨0, 0, 0, 0, 0, 0⟩) ⟨by decide, ⟨by omega, by omega, by omega⟩⟩ ⟨rfl, rfl, rfl, rfl, rfl, rfl, rfl, rfl, rfl, trivial⟩ (by repeat (first | exact Sp.nil | exact Sp.refl _ | refine Sp.cons (by repeat constructor) ?_)) ?_
      rintro ⟨i, d⟩ ⟨hi3, hdI⟩ K2 hK2
      simp only at hi3 hdI
      dsimp only
      obtain rfl | rfl | rfl | rfl : i = 0 ∨ i = 1 ∨ i = 2 ∨ i = 3 := by omega
      · skip
        (refine q_seq ?_; refine q_region ?_; refine ql_lssT tabOk rfl rfl rfl (by omega) ?_; refine q_nil ?_; refine q_seq ?_; refine q_cond_true rfl ?_; refine q_skip ?_; refine q_seq ?_; refine q_block ?_; refine q_seq ?_; refine q_region ?_; refine ql_pure tabOk rfl rfl ?_)
        refine ql_index tabOk rfl rfl rfl rfl rfl (by decide) (by decide) ?_
        (refine ql_loadB tabOk rfl rfl rfl (by repeat first | exact .head _ | refine .tail _ ?_) (by rfl) ?_; (iterate 2 refine ql_pure tabOk rfl rfl ?_); refine q_nil ?_; refine q_seq ?_; refine q_region ?_; refine ql_pure tabOk rfl rfl ?_)
        refine ql_mkS 3 [.int .i64 30, .int .i64 40, .int .i64 6] rfl (by kernel_rfl) rfl (fun c1 => ?_)
        (refine ql_pure tabOk rfl rfl ?_)
        refine ql_index tabOk rfl rfl rfl rfl rfl (by decide) (by decide) ?_
        (refine ql_loadB tabOk rfl rfl rfl (by repeat first | exact .head _ | refine .tail _ ?_) (by rfl) ?_)
        refine ql_call (β := Int) (ψ := fun x v => v = .int .i64 x ∧ 0 ≤ x ∧ (x < 30 ∨ x = 0)) (L' := fun _ => [dkP bs b (K + 3 + 8 * k + 2 * 0 + 1)]) tabOk [dkP bs b (K + 3 + 8 * k + 2 * 0)] _ (fun x => x = b) rfl rfl rfl rfl (Sp.cons (by repeat constructor) (Sp.refl _)) (fun x hx => ⟨_, .head _, hx⟩) (fun w' hs => drawP_ca (30) (K + 3 + 8 * k + 2 * 0) (by omega) w' b lo hi bs (hby.keepP hlh hs.chg) hlh (hs.all _ (.head _))) ?_; rintro x _ ⟨rfl, hx⟩
        (refine ql_pure tabOk rfl rfl ?_; refine q_nil ?_; refine q_region ?_; (iterate 4 refine ql_pure tabOk rfl rfl ?_))
        refine ql_mkS 3 [.int .i64 12, .int .i64 20, .int .i64 4] rfl (by kernel_rfl) rfl (fun c2 => ?_)
        (refine ql_pure tabOk rfl rfl ?_)
        refine ql_index tabOk rfl rfl rfl rfl rfl (by decide) (by decide) ?_
        (refine ql_loadB tabOk rfl rfl rfl (by repeat first | exact .head _ | refine .tail _ ?_) (by rfl) ?_)
        refine ql_call (β := Int) (ψ := fun x v => v = .int .i64 x ∧ 0 ≤ x ∧ (x < 12 ∨ x = 0)) (L' := fun _ => [dkP bs b (K + 3 + 8 * k + 2 * 0 + 1 + 1)]) tabOk [dkP bs b (K + 3 + 8 * k + 2 * 0 + 1)] _ (fun x => x = b) rfl rfl rfl rfl (Sp.cons (by repeat constructor) (Sp.refl _)) (fun x hx => ⟨_, .head _, hx⟩) (fun w' hs => drawP_ca (12) (K + 3 + 8 * k + 2 * 0 + 1) (by omega) w' b lo hi bs (hby.keepP hlh hs.chg) hlh (hs.all _ (.head _))) ?_; rintro y _ ⟨rfl, hy⟩
        (refine ql_ar tabOk rfl rfl rfl rfl (by omega) (by omega) ?_)
        refine ql_callv tabOk rfl rfl rfl rfl (fun w hs => spanM_ca _ _ w) ?_
        (refine ql_pure tabOk rfl rfl ?_)
        refine ql_stA [.int .i64 x, .int .i64 (x + y), .int .i64 d.m0, .int .i64 d.m1, .int .i64 d.l0, .int .i64 d.l1] tabOk rfl rfl rfl rfl rfl (by repeat constructor) rfl rfl ?_
        (refine q_nil ?_; refine q_blk ?_; refine q_region ?_; refine ql_ar tabOk rfl rfl rfl rfl (by omega) (by omega) ?_; refine ql_pure tabOk rfl rfl ?_; refine q_nil ?_)
        exact hK2 (1, ⟨x, (x + y), d.m0, d.m1, d.l0, d.l1⟩) _ _ ⟨by dsimp only; omega, fun h => ⟨by dsimp only; omega, by dsimp only; omega, by dsimp only; omega, by dsimp only; omega⟩, fun h => by dsimp only at h; omega, fun h => by dsimp only at h; omega⟩ (by dsimp only; omega) ⟨rfl, rfl, rfl, rfl, rfl, rfl, rfl, rfl, rfl, trivial⟩ (by repeat (first | exact Sp.nil | exact Sp.refl _ | refine Sp.cons (by repeat constructor) ?_))
      · skip
        (refine q_seq ?_; refine q_region ?_; refine ql_lssT tabOk rfl rfl rfl (by omega) ?_; refine q_nil ?_; refine q_seq ?_; refine q_cond_true rfl ?_; refine q_skip ?_; refine q_seq ?_; refine q_block ?_; refine q_seq ?_; refine q_region ?_; refine ql_pure tabOk rfl rfl ?_)
        refine ql_index tabOk rfl rfl rfl rfl rfl (by decide) (by decide) ?_
        (refine ql_loadB tabOk rfl rfl rfl (by repeat first | exact .head _ | refine .tail _ ?_) (by rfl) ?_; (iterate 2 refine ql_pure tabOk rfl rfl ?_); refine q_nil ?_; refine q_seq ?_; refine q_region ?_; refine ql_pure tabOk rfl rfl ?_)
        refine ql_mkS 3 [.int .i64 30, .int .i64 40, .int .i64 6] rfl (by kernel_rfl) rfl (fun c1 => ?_)
        (refine ql_pure tabOk rfl rfl ?_)
        refine ql_index tabOk rfl rfl rfl rfl rfl (by decide) (by decide) ?_
        (refine ql_loadB tabOk rfl rfl rfl (by repeat first | exact .head _ | refine .tail _ ?_) (by rfl) ?_)
        refine ql_call (β := Int) (ψ := fun x v => v = .int .i64 x ∧ 0 ≤ x ∧ (x < 40 ∨ x = 0)) (L' := fun _ => [dkP bs b (K + 3 + 8 * k + 2 * 1 + 1)]) tabOk [dkP bs b (K + 3 + 8 * k + 2 * 1)] _ (fun x => x = b) rfl rfl rfl rfl (Sp.cons (by repeat constructor) (Sp.refl _)) (fun x hx => ⟨_, .head _, hx⟩) (fun w' hs => drawP_ca (40) (K + 3 + 8 * k + 2 * 1) (by omega) w' b lo hi bs (hby.keepP hlh hs.chg) hlh (hs.all _ (.head _))) ?_; rintro x _ ⟨rfl, hx⟩
        (refine ql_pure tabOk rfl rfl ?_; refine q_nil ?_; refine q_region ?_; (iterate 4 refine ql_pure tabOk rfl rfl ?_))
        refine ql_mkS 3 [.int .i64 12, .int .i64 20, .int .i64 4] rfl (by kernel_rfl) rfl (fun c2 => ?_)
        (refine ql_pure tabOk rfl rfl ?_)
        refine ql_index tabOk rfl rfl rfl rfl rfl (by decide) (by decide) ?_
        (refine ql_loadB tabOk rfl rfl rfl (by repeat first | exact .head _ | refine .tail _ ?_) (by rfl) ?_)
        refine ql_call (β := Int) (ψ := fun x v => v = .int .i64 x ∧ 0 ≤ x ∧ (x < 20 ∨ x = 0)) (L' := fun _ => [dkP bs b (K + 3 + 8 * k + 2 * 1 + 1 + 1)]) tabOk [dkP bs b (K + 3 + 8 * k + 2 * 1 + 1)] _ (fun x => x = b) rfl rfl rfl rfl (Sp.cons (by repeat constructor) (Sp.refl _)) (fun x hx => ⟨_, .head _, hx⟩) (fun w' hs => drawP_ca (20) (K + 3 + 8 * k + 2 * 1 + 1) (by omega) w' b lo hi bs (hby.keepP hlh hs.chg) hlh (hs.all _ (.head _))) ?_; rintro y _ ⟨rfl, hy⟩
        (refine ql_ar tabOk rfl rfl rfl rfl (by omega) (by omega) ?_)
        refine ql_callv tabOk rfl rfl rfl rfl (fun w hs => spanM_ca _ _ w) ?_
        (refine ql_pure tabOk rfl rfl ?_)
        refine ql_stA [.int .i64 d.n0, .int .i64 d.n1, .int .i64 x, .int .i64 (x + y), .int .i64 d.l0, .int .i64 d.l1] tabOk rfl rfl rfl rfl rfl (by repeat constructor) rfl rfl ?_
        (refine q_nil ?_; refine q_blk ?_; refine q_region ?_; refine ql_ar tabOk rfl rfl rfl rfl (by omega) (by omega) ?_; refine ql_pure tabOk rfl rfl ?_; refine q_nil ?_)
        exact hK2 (2, ⟨d.n0, d.n1, x, (x + y), d.l0, d.l1⟩) _ _ ⟨by dsimp only; omega, fun h => hdI.n (by omega), fun h => ⟨by dsimp only; omega, by dsimp only; omega, by dsimp only; omega, by dsimp only; omega⟩, fun h => by dsimp only at h; omega⟩ (by dsimp only; omega) ⟨rfl, rfl, rfl, rfl, rfl, rfl, rfl, rfl, rfl, trivial⟩ (by repeat (first | exact Sp.nil | exact Sp.refl _ | refine Sp.cons (by repeat constructor) ?_))
      · skip
        (refine q_seq ?_; refine q_region ?_; refine ql_lssT tabOk rfl rfl rfl (by omega) ?_; refine q_nil ?_; refine q_seq ?_; refine q_cond_true rfl ?_; refine q_skip ?_; refine q_seq ?_; refine q_block ?_; refine q_seq ?_; refine q_region ?_; refine ql_pure tabOk rfl rfl ?_)
        refine ql_index tabOk rfl rfl rfl rfl rfl (by decide) (by decide) ?_
        (refine ql_loadB tabOk rfl rfl rfl (by repeat first | exact .head _ | refine .tail _ ?_) (by rfl) ?_; (iterate 2 refine ql_pure tabOk rfl rfl ?_); refine q_nil ?_; refine q_seq ?_; refine q_region ?_; refine ql_pure tabOk rfl rfl ?_)
        refine ql_mkS 3 [.int .i64 30, .int .i64 40, .int .i64 6] rfl (by kernel_rfl) rfl (fun c1 => ?_)
        (refine ql_pure tabOk rfl rfl ?_)
        refine ql_index tabOk rfl rfl rfl rfl rfl (by decide) (by decide) ?_
        (refine ql_loadB tabOk rfl rfl rfl (by repeat first | exact .head _ | refine .tail _ ?_) (by rfl) ?_)
        refine ql_call (β := Int) (ψ := fun x v => v = .int .i64 x ∧ 0 ≤ x ∧ (x < 6 ∨ x = 0)) (L' := fun _ => [dkP bs b (K + 3 + 8 * k + 2 * 2 + 1)]) tabOk [dkP bs b (K + 3 + 8 * k + 2 * 2)] _ (fun x => x = b) rfl rfl rfl rfl (Sp.cons (by repeat constructor) (Sp.refl _)) (fun x hx => ⟨_, .head _, hx⟩) (fun w' hs => drawP_ca (6) (K + 3 + 8 * k + 2 * 2) (by omega) w' b lo hi bs (hby.keepP hlh hs.chg) hlh (hs.all _ (.head _))) ?_; rintro x _ ⟨rfl, hx⟩
        (refine ql_pure tabOk rfl rfl ?_; refine q_nil ?_; refine q_region ?_; (iterate 4 refine ql_pure tabOk rfl rfl ?_))
        refine ql_mkS 3 [.int .i64 12, .int .i64 20, .int .i64 4] rfl (by kernel_rfl) rfl (fun c2 => ?_)
        (refine ql_pure tabOk rfl rfl ?_)
        refine ql_index tabOk rfl rfl rfl rfl rfl (by decide) (by decide) ?_
        (refine ql_loadB tabOk rfl rfl rfl (by repeat first | exact .head _ | refine .tail _ ?_) (by rfl) ?_)
        refine ql_call (β := Int) (ψ := fun x v => v = .int .i64 x ∧ 0 ≤ x ∧ (x < 4 ∨ x = 0)) (L' := fun _ => [dkP bs b (K + 3 + 8 * k + 2 * 2 + 1 + 1)]) tabOk [dkP bs b (K + 3 + 8 * k + 2 * 2 + 1)] _ (fun x => x = b) rfl rfl rfl rfl (Sp.cons (by repeat constructor) (Sp.refl _)) (fun x hx => ⟨_, .head _, hx⟩) (fun w' hs => drawP_ca (4) (K + 3 + 8 * k + 2 * 2 + 1) (by omega) w' b lo hi bs (hby.keepP hlh hs.chg) hlh (hs.all _ (.head _))) ?_; rintro y _ ⟨rfl, hy⟩
        (refine ql_ar tabOk rfl rfl rfl rfl (by omega) (by omega) ?_)
        refine ql_callv tabOk rfl rfl rfl rfl (fun w hs => spanM_ca _ _ w) ?_
        (refine ql_pure tabOk rfl rfl ?_)
        refine ql_stA [.int .i64 d.n0, .int .i64 d.n1, .int .i64 d.m0, .int .i64 d.m1, .int .i64 x, .int .i64 (x + y)] tabOk rfl rfl rfl rfl rfl (by repeat constructor) rfl rfl ?_
        (refine q_nil ?_; refine q_blk ?_; refine q_region ?_; refine ql_ar tabOk rfl rfl rfl rfl (by omega) (by omega) ?_; refine ql_pure tabOk rfl rfl ?_; refine q_nil ?_)
        exact hK2 (3, ⟨d.n0, d.n1, d.m0, d.m1, x, (x + y)⟩) _ _ ⟨by dsimp only; omega, fun h => hdI.n (by omega), fun h => hdI.m (by omega), fun h => ⟨by dsimp only; omega, by dsimp only; omega, by dsimp only; omega, by dsimp only; omega⟩⟩ (by dsimp only; omega) ⟨rfl, rfl, rfl, rfl, rfl, rfl, rfl, rfl, rfl, trivial⟩ (by repeat (first | exact Sp.nil | exact Sp.refl _ | refine Sp.cons (by repeat constructor) ?_))
      · (refine q_seq ?_; refine q_region ?_; refine ql_lssF tabOk rfl rfl rfl (by omega) ?_; refine q_nil ?_; refine q_seq ?_; refine q_cond_false rfl ?_; refine q_exit _ rfl ?_)
        exact hKK ⟨d, hdI.n (by omega), hdI.m (by omega), hdI.l (by omega)⟩ _ _ ⟨rfl, rfl, rfl, rfl, rfl, rfl, trivial⟩ (by repeat (first | exact Sp.nil | exact Sp.refl _ | refine Sp.cons (by repeat constructor) ?_))
    rintro ⟨d, hdB⟩
    dsimp only
    ((iterate 2 refine q_seq ?_); refine q_region ?_; refine ql_pure tabOk rfl rfl ?_)
    refine ql_call (β := Bool) (L' := fun _ => [dkP bs b (K + 3 + 8 * k + 6 + 1)]) tabOk [dkP bs b (K + 3 + 8 * k + 6)] _ (fun x => x = b) rfl rfl rfl rfl (Sp.cons (by repeat constructor) (Sp.refl _)) (fun x hx => ⟨_, .head _, hx⟩) (fun w' hs => coin_ca 4 (by omega) (K + 3 + 8 * k + 6) (by omega) w' b lo hi bs (hby.keepP hlh hs.chg) hlh (hs.all _ (.head _))) ?_
    rintro co _ rfl
    dsimp only [List.cons_append, List.nil_append]
    (refine q_nil ?_)
    refine q_cut (σ := {d : Dy // DayB d}) (fun d => [(0, .pointer (some ⟨b, 0, none⟩)), (4, .pointer (some ⟨b4, 0, none⟩)), (5, .pointer (some ⟨b5, 0, none⟩)), (6, .pointer (some ⟨b6, 0, none⟩)), (21, .int .i64 cn), (22, .int .i64 k)])
      (fun d => [.pt b6 (dyC [d.1]) 73, dkP bs b (K + 3 + 8 * k + 8), .pt b5 [.int .i64 stk, .int .i64 sto, v] 61, .ow v 73 6 k (dyC l), .pt b4 [.int .i64 0, .int .i64 0, .slice none 0 0] 61]) ?_ (fun KK hKK => ?_)
    rotate_left
    · cases co
      · (refine q_cond_false rfl ?_; refine q_skip ?_)
        refine q_conv (H' := [dkP bs b (K + 3 + 8 * k + 8), .pt b6 (dyC [d]) 73, .pt b5 [.int .i64 stk, .int .i64 sto, v] 61, .ow v 73 6 k (dyC l), .pt b4 [.int .i64 0, .int .i64 0, .slice none 0 0] 61]) (fun w' hs => Sat.dk (K := K + 3 + 8 * k + 6 + 1) (hs.sp (by repeat (first | exact Sp.nil | exact Sp.refl _ | refine Sp.cons (by repeat constructor) ?_))) (by omega)) ?_
        exact hKK ⟨d, hdB⟩ _ _ ⟨rfl, rfl, rfl, rfl, rfl, rfl, trivial⟩ (by repeat (first | exact Sp.nil | exact Sp.refl _ | refine Sp.cons (by repeat constructor) ?_))
      · (refine q_cond_true rfl ?_; refine q_region ?_; refine ql_pure tabOk rfl rfl ?_)
        refine ql_call (β := Int) (ψ := fun x v => v = .int .i64 x ∧ 0 ≤ x ∧ (x < 3 ∨ x = 0)) (L' := fun _ => [dkP bs b (K + 3 + 8 * k + 6 + 1 + 1)]) tabOk [dkP bs b (K + 3 + 8 * k + 6 + 1)] _ (fun x => x = b) rfl rfl rfl rfl (Sp.cons (by repeat constructor) (Sp.refl _)) (fun x hx => ⟨_, .head _, hx⟩) (fun w' hs => drawP_ca (3) (K + 3 + 8 * k + 6 + 1) (by omega) w' b lo hi bs (hby.keepP hlh hs.chg) hlh (hs.all _ (.head _))) ?_; rintro x _ ⟨rfl, hx⟩
        refine ql_callv tabOk rfl rfl rfl rfl (fun w hs => spanM_ca _ _ w) ?_
        (refine ql_pure tabOk rfl rfl ?_)
        refine ql_stA [.int .i64 d.n0, .int .i64 d.n1, .int .i64 0, .int .i64 x, .int .i64 d.l0, .int .i64 d.l1] tabOk rfl rfl rfl rfl rfl (by repeat constructor) rfl rfl ?_
        (refine q_nil ?_)
        exact hKK ⟨⟨d.n0, d.n1, 0, x, d.l0, d.l1⟩, hdB.n, by dsimp only; omega, hdB.l⟩ _ _ ⟨rfl, rfl, rfl, rfl, rfl, rfl, trivial⟩ (by repeat (first | exact Sp.nil | exact Sp.refl _ | refine Sp.cons (by repeat constructor) ?_))
    clear hdB
    rintro ⟨d, hdB⟩
    dsimp only
    (refine q_region ?_; refine ql_pure tabOk rfl rfl ?_; refine ql_loadB tabOk rfl rfl rfl (by repeat first | exact .head _ | refine .tail _ ?_) (by rfl) ?_; refine ql_loadAB tabOk rfl rfl rfl (by repeat first | exact .head _ | refine .tail _ ?_) (by rfl) (by rfl) ?_)
    refine ql_mkS 73 (dyC [d]) rfl (by kernel_rfl) rfl (fun bn => ?_)
    refine ql_append (q := 1) slD rfl rfl rfl (fun v' => by repeat constructor) (fun w' hs => ⟨_, _, Blk.rdDy (hs.blk (b := bn) (by repeat first | exact .head _ | refine .tail _ ?_))⟩) (dyC_one _) (by omega) (by omega) (fun u => ?_)
    refine ql_fact (fun w hs => hs.slice (v := u) (by repeat first | exact .head _ | refine .tail _ ?_)) ?_
    rintro ⟨a1, g1, d1, rfl⟩
    (refine ql_pure tabOk rfl rfl ?_; refine ql_st2 tabOk rfl rfl rfl rfl (by repeat constructor) ?_; refine q_nil ?_; refine q_blk ?_; refine q_region ?_; refine ql_ar tabOk rfl rfl rfl rfl (by omega) (by omega) ?_; refine ql_pure tabOk rfl rfl ?_; refine q_nil ?_)
    refine hK1 (.slice a1 g1 d1, l ++ [d]) _ _ ⟨by simp; omega, ?_⟩ (by simp; omega) ⟨rfl, rfl, rfl, rfl, lookI rfl (by simp; omega), trivial⟩ (by dsimp only; rw [dyC_snoc, List.length_append, List.length_singleton, ← hk]; repeat (first | exact Sp.nil | exact Sp.refl _ | refine Sp.cons (by repeat constructor) ?_))
    intro z hz
    rcases List.mem_append.1 hz with hz | hz
    · exact hB z hz
    · obtain rfl : z = d := by simpa using hz
      exact hdB
  · have hk : l.length = cn := by omega
    refine q_fact (fun w hs => hs.ownSome (v := v) (by repeat first | exact .head _ | refine .tail _ ?_) (by omega)) ?_
    rintro ⟨g, c, rfl⟩
    (refine q_exit _ rfl ?_; refine q_seq ?_; refine q_region ?_; refine ql_loadAB tabOk rfl rfl rfl (by repeat first | exact .head _ | refine .tail _ ?_) (by rfl) (by rfl) ?_; refine ql_setA tabOk rfl rfl rfl rfl rfl (by repeat constructor) rfl ?_; refine q_nil ?_; refine q_ret ?_)
    refine q_fin tabOk rfl (by repeat (first | exact RVs.nil | apply RVs.tmp rfl | apply RVs.cellA rfl rfl (by repeat first | exact .head _ | refine .tail _ ?_) (by rfl) | apply RVs.cell1 rfl rfl (by repeat first | exact .head _ | refine .tail _ ?_))) fun w hs => ?_
    refine ⟨(g, c, ⟨stk, sto, l⟩), ⟨rfl, by dsimp only; omega, by dsimp only; omega, by dsimp only; omega, by dsimp only; omega, hB⟩, ?_⟩
    exact (Sat.dk (K := K + 3 + 8 * l.length) (K' := K + 1000) (R := [.ow (.slice (some ⟨g, 0, none⟩) l.length c) 73 6 l.length (dyC l)]) (hs.sp (by repeat (first | exact Sp.nil | exact Sp.refl _ | refine Sp.cons (by repeat constructor) ?_))) (by omega)).sp (by repeat (first | exact Sp.nil | exact Sp.refl _ | refine Sp.cons (by repeat constructor) ?_))
end Go.Proofs.Ytgeajgmefokifaa

/- Walks: a weather is drawn. -/
namespace Go.Proofs.Ytgeajgmefokifaa
open Go Go.Eng

theorem getD_snoc (l : List Int) (x : Int) (i : Nat) : (l ++ [x]).getD i 0 = if i < l.length then l.getD i 0 else if i = l.length then x else 0 := by
  simp only [List.getD_eq_getElem?_getD, List.getElem?_append]
  by_cases h : i < l.length
  · simp [h]
  · rw [if_neg h, if_neg h]
    by_cases h2 : i = l.length
    · subst h2; simp
    · rw [if_neg h2, List.getElem?_eq_none (by simp; omega)]
      rfl
/-- A weather of the first days. -/
structure WtP (days : List Dy) (k : Nat) (t : Wt) : Prop where
  ln : t.need.length = k
  lm : t.make.length = k
  ll : t.loss.length = k
  n : ∀ i, i < k → ∀ (h : i < days.length), days[i].n0 ≤ t.need.getD i 0 ∧ t.need.getD i 0 ≤ days[i].n1
  m : ∀ i, i < k → ∀ (h : i < days.length), days[i].m0 ≤ t.make.getD i 0 ∧ t.make.getD i 0 ≤ days[i].m1
  l : ∀ i, i < k → ∀ (h : i < days.length), days[i].l0 ≤ t.loss.getD i 0 ∧ t.loss.getD i 0 ≤ days[i].l1
theorem WtP.step {days : List Dy} {k : Nat} {t : Wt} (h : WtP days k t) (hk : k < days.length) {x y z : Int} (hx : days[k].n0 ≤ x ∧ x ≤ days[k].n1) (hy : days[k].m0 ≤ y ∧ y ≤ days[k].m1) (hz : days[k].l0 ≤ z ∧ z ≤ days[k].l1) : WtP days (k + 1) ⟨t.need ++ [x], t.make ++ [y], t.loss ++ [z]⟩ := by
  refine ⟨by simp [h.ln], by simp [h.lm], by simp [h.ll], fun i hi hd => ?_, fun i hi hd => ?_, fun i hi hd => ?_⟩
  · rw [getD_snoc, h.ln]
    split
    · exact h.n i (by assumption) hd
    · obtain rfl : i = k := by omega
      simpa using hx
  · rw [getD_snoc, h.lm]
    split
    · exact h.m i (by assumption) hd
    · obtain rfl : i = k := by omega
      simpa using hy
  · rw [getD_snoc, h.ll]
    split
    · exact h.l i (by assumption) hd
    · obtain rfl : i = k := by omega
      simpa using hz
theorem WtP.in {x : Wn} {t : Wt} (h : WtP x.days x.days.length t) : t.In x := ⟨h.ln, h.lm, h.ll, fun i hi => h.n i hi hi, fun i hi => h.m i hi hi, fun i hi => h.l i hi hi⟩
/-- The deck, and the days. -/
abbrev drL (bs : Value) (b K g c : Nat) (l : List Dy) : List Ck := [dkP bs b K, .ow (.slice (some ⟨g, 0, none⟩) l.length c) 73 6 l.length (dyC l)]

end Go.Proofs.Ytgeajgmefokifaa

/- What the laws of winters share. -/
namespace Go.Proofs.Ytgeajgmefokifaa
open Go Go.Eng

section
variable {K b g c : Nat} {bs : Value} {w0 w : World} {R : List Ck}
theorem madeW0 {days : Nat} (hby : DkB w0 0 w0.heap.size bs) (hs : Sat w0 M0 (dkP bs b K :: R) w) (h1 : 1 ≤ days) (h2 : days ≤ 60) (hK : K < 100000) :
    Ca Try.prog 35 [.pointer (some ⟨b, 0, none⟩), .int .i64 days] w fun v w' => ∃ y : Nat × Nat × Wn, (v = .agg (wnC y.2.2 (some ⟨y.1, 0, none⟩) y.2.1).toArray ∧ WinB days y.2.2) ∧ Sat w (fun x => x = b) [.ow (.slice (some ⟨y.1, 0, none⟩) y.2.2.days.length y.2.1) 73 6 y.2.2.days.length (dyC y.2.2.days), dkP bs b (K + 1000)] w' :=
  madeW_ca days h1 h2 K hK w b 0 w0.heap.size bs (hby.keep hs.chg0) (dk_new hs) (hs.all _ (.head _))
/-- Days that are owned can be read. -/
theorem days_rd {M : Nat → Prop} {H : List Ck} {x : Wn} (hs : Sat w0 M H w) (hm : .ow (.slice (some ⟨g, 0, none⟩) x.days.length c) 73 6 x.days.length (dyC x.days) ∈ H) : RdD w 0 w.heap.size (.slice (some ⟨g, 0, none⟩) x.days.length c) x.days :=
  own_rdD (t := 73) (hs.mem hm) rfl
end
theorem first_cases {x : Wn} (hx : x.Right) : (firstV x = (0, 6) ∧ whyV x = ((0, 0), 6) ∧ (hapV x (worstW x)).fails = -1) ∨ ∃ f : Nat, f < x.days.length ∧ (hapV x (worstW x)).fails = f ∧ firstV x = ((f : Int), 0) ∧ whyV x = (((hapV x (worstW x)).full, (f : Int)), 0) := by
  have h0 := checkW_iff.2 hx
  rcases hap_fails_bd x (worstW x) hx.stock (worst_fine hx).need0 x.days.length with h | ⟨f, hf, h⟩
  · left
    have h : (hapV x (worstW x)).fails = -1 := h
    refine ⟨?_, ?_, h⟩
    · unfold firstV; rw [if_neg (by omega), if_pos h]
    · unfold whyV; rw [if_neg (by omega), if_pos h]
  · right
    have h' : (hapV x (worstW x)).fails = f := h
    refine ⟨f, hf, h, ?_, ?_⟩
    · unfold firstV; rw [if_neg (by omega), if_neg (by omega), h']
    · unfold whyV; rw [if_neg (by omega), if_neg (by omega), h']
end Go.Proofs.Ytgeajgmefokifaa

/- Winters that are copied, and whose days are changed. -/
namespace Go.Proofs.Ytgeajgmefokifaa
open Go Go.Eng

/-! The cells of days -/
def fldD (d : Dy) : Nat → Int
  | 0 => d.n0
  | 1 => d.n1
  | 2 => d.m0
  | 3 => d.m1
  | 4 => d.l0
  | _ => d.l1
def setD (d : Dy) (f : Nat) (v : Int) : Dy :=
  match f with
  | 0 => { d with n0 := v }
  | 1 => { d with n1 := v }
  | 2 => { d with m0 := v }
  | 3 => { d with m1 := v }
  | 4 => { d with l0 := v }
  | _ => { d with l1 := v }
theorem dyC_cons (d : Dy) (l : List Dy) : dyC (d :: l) = [.int .i64 d.n0, .int .i64 d.n1, .int .i64 d.m0, .int .i64 d.m1, .int .i64 d.l0, .int .i64 d.l1] ++ dyC l := rfl
theorem dyC_get : ∀ (l : List Dy) (sp : List Value) (k f : Nat) (hk : k < l.length), f < 6 → (dyC l ++ sp)[k * 6 + f]? = some (.int .i64 (fldD l[k] f))
  | d :: l, sp, 0, f, _, hf => by
    rw [dyC_cons, List.append_assoc, List.getElem?_append_left (by simp; omega)]
    obtain rfl | rfl | rfl | rfl | rfl | rfl : f = 0 ∨ f = 1 ∨ f = 2 ∨ f = 3 ∨ f = 4 ∨ f = 5 := by omega
    all_goals simp [fldD]
  | d :: l, sp, k + 1, f, hk, hf => by
    have ih := dyC_get l sp k f (by simpa using hk) hf
    rw [dyC_cons, List.append_assoc, List.getElem?_append_right (by simp; omega)]
    simp only [List.length_cons, List.length_nil, List.getElem_cons_succ]
    rw [← ih]
    congr 1
    omega
theorem dyC_set : ∀ (l : List Dy) (sp : List Value) (k f : Nat) (hk : k < l.length) (v : Int), f < 6 → (dyC l ++ sp).set (k * 6 + f) (.int .i64 v) = dyC (l.set k (setD l[k] f v)) ++ sp
  | d :: l, sp, 0, f, _, v, hf => by
    obtain rfl | rfl | rfl | rfl | rfl | rfl : f = 0 ∨ f = 1 ∨ f = 2 ∨ f = 3 ∨ f = 4 ∨ f = 5 := by omega
    all_goals simp [dyC, setD]
  | d :: l, sp, k + 1, f, hk, v, hf => by
    have ih := dyC_set l sp k f (by simpa using hk) v hf
    rw [dyC_cons, List.append_assoc, List.set_append_right _ _ (by simp; omega)]
    simp only [List.length_cons, List.length_nil, List.set_cons_succ, List.getElem_cons_succ, dyC_cons, List.append_assoc]
    rw [← ih]
    congr 2
    omega
/-- Days in a block, with room behind them. -/
abbrev dyB (g : Nat) (l : List Dy) (sp : List Value) : Ck := .pt g (dyC l ++ sp) 73
theorem dy_cell {w : World} {g : Nat} {t : TypeId} {l : List Dy} {sp : List Value} (h : Blk w g (dyC l ++ sp) t) (k f : Nat) (hk : k < l.length) (hf : f < 6) : w.cell? ⟨g, k * 6 + f, none⟩ = some (.int .i64 (fldD l[k] f)) := by
  rw [Blk.cell h]
  exact dyC_get l sp k f hk hf
section
variable {P : Program} {T : Tab} {ro : Cx} {n : Nat} {F : Fin} {w0 : World} {M : Nat → Prop} {k : List It} {ops : Array Oper} {rest : List Oper} {e : Env} {H Hq : List Ck}
theorem ql_dyS (hT : T.Ok P) {t : Nat} {x y : Operand} {g off : Nat} {l : List Dy} {sp : List Value} {v : Int} {H' : List Ck} {ty bt : TypeId} {pos : String} {af : Array Edge} (i f : Nat) (d' : Dy)
    (hx : opv e x = some (.pointer (some ⟨g, off, none⟩))) (hy : opv e y = some (.int .i64 v)) (h1 : has T.one t = true) (ho : off = i * 6 + f) (hf : f < 6) (hi : i < l.length) (hd : setD l[i] f v = d') (hr : Rp H (.pt g (dyC l ++ sp) bt) (.pt g (dyC (l.set i d') ++ sp) bt) H')
    (h : QL P ro n F w0 M k ops rest e H') : QL P ro n F w0 M k ops (⟨none, .store t x y, ty, pos, af, none⟩ :: rest) e H := by
  subst ho
  subst hd
  refine ql_store1 (i := i * 6 + f) (cs := dyC l ++ sp) hT hx hy h1 rfl (by rw [dyC_set l sp i f hi v hf]; exact hr) ?_ h
  rw [List.length_append, dyC_length]
  omega
theorem qf_dyS (hT : T.Ok P) {t : Nat} {x y : Operand} {g off : Nat} {l : List Dy} {sp : List Value} {v : Int} {H' : List Ck} {ty bt : TypeId} {pos : String} {af : Array Edge} (i f : Nat) (d' : Dy)
    (hx : opv e x = some (.pointer (some ⟨g, off, none⟩))) (hy : opv e y = some (.int .i64 v)) (h1 : has T.one t = true) (ho : off = i * 6 + f) (hf : f < 6) (hi : i < l.length) (hd : setD l[i] f v = d') (hr : Rp H (.pt g (dyC l ++ sp) bt) (.pt g (dyC (l.set i d') ++ sp) bt) H')
    (h : QF P ro n F w0 M k ops Hq rest e H') : QF P ro n F w0 M k ops Hq (⟨none, .store t x y, ty, pos, af, none⟩ :: rest) e H := by
  subst ho
  subst hd
  refine qf_store1 (i := i * 6 + f) (cs := dyC l ++ sp) hT hx hy h1 rfl (by rw [dyC_set l sp i f hi v hf]; exact hr) ?_ h
  rw [List.length_append, dyC_length]
  omega
end
theorem dyB_rd {w0 w : World} {M : Nat → Prop} {H : List Ck} {g c : Nat} {l : List Dy} {sp : List Value} (hs : Sat w0 M H w) (hm : dyB g l sp ∈ H) : RdD w 0 w.heap.size (.slice (some ⟨g, 0, none⟩) l.length c) l := by
  have hb : Blk w g (dyC l ++ sp) 73 := hs.blk hm
  refine RdD.of ⟨dyC_length l, .inr ⟨g, 0, c, rfl, fun _ => ⟨Nat.zero_le _, hb.lt, hb.lt⟩, fun j hj => ?_⟩⟩
  rw [Blk.cell hb, Nat.zero_add, List.getElem?_append_left hj]

/-! Copies -/
theorem cloneD_ca (w : World) (lo hi : Nat) (v : Value) (l : List Dy) (h : RdD w lo hi v l) (hlen : l.length ≤ 1000000) : Ca Try.prog 106 [v] w fun r w' => ∃ u : Value, r = u ∧ Sat w M0 [.ow u 73 6 l.length (dyC l)] w' := by
  obtain ⟨a, ca, rfl, _⟩ := RdD.outI h
  refine q_of (Sat.nil w M0) Try.func106 rfl (by simp [Try.ntmps106]) ?_
  (refine q_seq ?_; refine q_region ?_; refine ql_pure tabOk rfl rfl ?_; refine q_nil ?_; refine q_seq ?_; refine q_region ?_; refine ql_pure tabOk rfl rfl ?_)
  refine ql_conv (H' := [.ow (.slice none 0 0) 73 6 0 []]) (fun w' hs => Sat.ownil hs 73 6) ?_
  refine ql_append (q := l.length) slD rfl rfl rfl (fun v' => by repeat constructor) (fun w' hs => ⟨lo, hi, RdD.row (RdE.keep h hs.chg0)⟩) (dyC_one l) (by omega) (by omega) (fun u => ?_)
  (refine ql_pure tabOk rfl rfl ?_; refine q_nil ?_; refine q_ret ?_)
  refine q_fin tabOk rfl (by repeat (first | exact RVs.nil | apply RVs.tmp rfl | apply RVs.cellA rfl rfl (by repeat first | exact .head _ | refine .tail _ ?_) (by rfl) | apply RVs.cell1 rfl rfl (by repeat first | exact .head _ | refine .tail _ ?_))) fun w hs => ?_
  exact ⟨u, rfl, by simpa using hs⟩
theorem cloneW_ca (w : World) (lo hi : Nat) (x : Wn) (a : Option Addr) (c : Nat) (h : RdD w lo hi (.slice a x.days.length c) x.days) (hlen : x.days.length ≤ 1000000) :
    Ca Try.prog 41 [.agg (wnC x a c).toArray] w fun r w' => ∃ y : Option Addr × Nat, r = .agg (wnC x y.1 y.2).toArray ∧ Sat w M0 [.ow (.slice y.1 x.days.length y.2) 73 6 x.days.length (dyC x.days)] w' := by
  refine q_of (Sat.nil w M0) Try.func41 rfl (by simp [Try.ntmps41]) ?_
  (refine q_seq ?_; refine q_region ?_)
  refine ql_box rfl rfl (fun b1 => ?_)
  refine ql_alloc zero61 rfl (fun b2 => ?_)
  (refine q_nil ?_; refine q_seq ?_)
  refine q_draw _ [.pt b2 _ _] (Sp.cons (by repeat constructor) (Sp.refl _)) (by kernel_rfl) (by kernel_rfl) ?_
  (refine qf_pure tabOk rfl rfl rfl ?_; refine qf_loadB tabOk rfl rfl rfl (by repeat first | exact .head _ | refine .tail _ ?_) (by rfl) ?_; refine qf_pure tabOk rfl rfl rfl ?_; refine qf_loadB tabOk rfl rfl rfl (by repeat first | exact .head _ | refine .tail _ ?_) (by rfl) ?_; refine qf_pure tabOk rfl rfl rfl ?_; refine qf_loadB tabOk rfl rfl rfl (by repeat first | exact .head _ | refine .tail _ ?_) (by rfl) ?_)
  refine qf_call (β := Value) tabOk [] _ M0 rfl rfl rfl rfl (Sp.refl _) (fun _ h => h.elim) (fun w' hs => cloneD_ca w' lo hi _ x.days (RdE.keep h hs.chg0) hlen) ?_
  rintro _ u rfl
  dsimp only [List.cons_append, List.nil_append]
  refine qf_fact (fun w hs => hs.slice2 (v := u) (by repeat first | exact .head _ | refine .tail _ ?_)) ?_
  rintro ⟨ua, uc, rfl⟩
  skip
  refine qf_mk #[.int .i64 x.stock, .int .i64 x.store, .slice ua x.days.length uc] rfl (by kernel_rfl) rfl ?_
  (refine qf_setA tabOk rfl rfl rfl rfl rfl (by repeat constructor) rfl ?_; refine qf_nil ?_; refine q_ret ?_)
  refine q_fin tabOk rfl (by repeat (first | exact RVs.nil | apply RVs.tmp rfl | apply RVs.cellA rfl rfl (by repeat first | exact .head _ | refine .tail _ ?_) (by rfl) | apply RVs.cell1 rfl rfl (by repeat first | exact .head _ | refine .tail _ ?_))) fun w hs => ?_
  exact ⟨(ua, uc), rfl, hs.sp (by repeat (first | exact Sp.nil | exact Sp.refl _ | refine Sp.cons (by repeat constructor) ?_))⟩
end Go.Proofs.Ytgeajgmefokifaa

/- Plain laws of winters: more stock, more room, more snow made, less need and less loss. -/
namespace Go.Proofs.Ytgeajgmefokifaa
open Go

structure RichD (d d' : Dy) : Prop where
  n : d'.n0 = d.n0 ∧ d.n0 ≤ d'.n1 ∧ d'.n1 ≤ d.n1
  m : d'.m1 = d.m1 ∧ d.m0 ≤ d'.m0 ∧ d'.m0 ≤ d.m1
  l : d'.l0 = d.l0 ∧ d.l0 ≤ d'.l1 ∧ d'.l1 ≤ d.l1
structure RichL (l l' : List Dy) : Prop where
  len : l'.length = l.length
  all : ∀ i (h : i < l.length) (h' : i < l'.length), RichD l[i] l'[i]
end Go.Proofs.Ytgeajgmefokifaa

/- The walk of CourseMore. -/
namespace Go.Proofs.Ytgeajgmefokifaa
open Go Go.Eng

theorem dy_cellS {w : World} {g off i : Nat} {t : TypeId} {l : List Dy} {d : Dy} {sp : List Value} (h : Blk w g (dyC (l.set i d) ++ sp) t) (hi : i < l.length) (f : Nat) (hf : f < 6) (ho : off = i * 6 + f) : w.cell? ⟨g, off, none⟩ = some (.int .i64 (fldD d f)) := by
  subst ho
  have := dy_cell h i f (by simpa using hi) hf
  simpa using this
theorem dy_cell2 {w : World} {g i : Nat} {t : TypeId} {l : List Dy} {d : Dy} {sp : List Value} (h : Blk w g (dyC (l.set i d) ++ sp) t) (hi : i < l.length) (a b : Nat) (hf : a + b < 6) : w.cell? ⟨g, 0 + (i : Int).toNat * 6 + a + b, none⟩ = some (.int .i64 (fldD d (a + b))) :=
  dy_cellS h hi (a + b) hf (by simp; omega)
section
variable {P : Program} {T : Tab} {ro : Cx} {n : Nat} {F : Fin} {w0 : World} {M : Nat → Prop} {k : List It} {ops : Array Oper} {rest : List Oper} {e : Env} {H Hq : List Ck}
theorem qf_dyT (hT : T.Ok P) {t : Nat} {x y : Operand} {g off : Nat} {l : List Dy} {d : Dy} {sp : List Value} {v : Int} {H' : List Ck} {ty bt : TypeId} {pos : String} {af : Array Edge} (i f : Nat) (d' : Dy)
    (hx : opv e x = some (.pointer (some ⟨g, off, none⟩))) (hy : opv e y = some (.int .i64 v)) (h1 : has T.one t = true) (ho : off = i * 6 + f) (hf : f < 6) (hi : i < l.length) (hd : setD d f v = d') (hr : Rp H (.pt g (dyC (l.set i d) ++ sp) bt) (.pt g (dyC (l.set i d') ++ sp) bt) H')
    (h : QF P ro n F w0 M k ops Hq rest e H') : QF P ro n F w0 M k ops Hq (⟨none, .store t x y, ty, pos, af, none⟩ :: rest) e H := by
  refine qf_dyS (l := l.set i d) (sp := sp) hT i f d' hx hy h1 ho hf (by simpa using hi) (by simpa using hd) (by rw [List.set_set]; exact hr) h
end
/-- The days made richer so far. -/
structure RichI (l0 : List Dy) (k : Nat) (l : List Dy) : Prop where
  len : l.length = l0.length
  done : ∀ i, i < k → ∀ (h : i < l0.length) (h' : i < l.length), RichD l0[i] l[i]
  rest : ∀ i, k ≤ i → ∀ (h : i < l0.length) (h' : i < l.length), l[i] = l0[i]
theorem RichI.step {l0 l : List Dy} {k : Nat} (h : RichI l0 k l) (hk : k < l0.length) {d : Dy} (hd : RichD l0[k] d) : RichI l0 (k + 1) (l.set k d) := by
  refine ⟨by simp [h.len], fun i hi h1 h2 => ?_, fun i hi h1 h2 => ?_⟩
  · by_cases hik : i = k
    · subst hik
      simpa using hd
    · rw [List.getElem_set_ne (by omega)]
      exact h.done i (by omega) h1 (by simpa using h2)
  · rw [List.getElem_set_ne (by omega)]
    exact h.rest i (by omega) h1 (by simpa using h2)
theorem RichD.right {d d' : Dy} (h : RichD d d') (hd : d.Right) : d'.Right := by
  have a := h.n
  have b := h.m
  have c := h.l
  have a' := hd.n
  have b' := hd.m
  have c' := hd.l
  exact ⟨by omega, by omega, by omega⟩

end Go.Proofs.Ytgeajgmefokifaa

/- Plain laws of proofs: a day that needs less, and a day on which more is made. -/
namespace Go.Proofs.Ytgeajgmefokifaa
open Go

theorem ph_congr {w w' : Wn} {frm : Int} (hs : w'.stock = w.stock) (hr : w'.store = w.store) : ∀ k, (∀ j, j < frm.toNat + k → (worstW w').need.getD j 0 = (worstW w).need.getD j 0) → (∀ j, j ≤ frm.toNat + k → (worstW w').make.getD j 0 = (worstW w).make.getD j 0) → (∀ j, j ≤ frm.toNat + k → (worstW w').loss.getD j 0 = (worstW w).loss.getD j 0) →
    phK w' frm k = phK w frm k
  | 0, hn, hm, hl => by
    unfold phK
    by_cases h : frm = -1
    · rw [if_pos h, if_pos h, hs, hm 0 (by omega), hl 0 (by omega)]
    · rw [if_neg h, if_neg h, hr]
  | k + 1, hn, hm, hl => by
    have ih := ph_congr (frm := frm) hs hr k (fun j hj => hn j (by omega)) (fun j hj => hm j (by omega)) (fun j hj => hl j (by omega))
    simp only [phK]
    rw [ih, hn (frm.toNat + k) (by omega), hl (frm.toNat + k + 1) (by omega), hm (frm.toNat + k + 1) (by omega)]
theorem map_getD (l : List Dy) (f : Dy → Int) (k : Nat) : (l.map f).getD k 0 = if h : k < l.length then f l[k] else 0 := by
  by_cases h : k < l.length
  · simp [List.getD_eq_getElem?_getD, h]
  · rw [dif_neg h, List.getD_eq_getElem?_getD, List.getElem?_eq_none (by simp; omega)]
    rfl
theorem set_getD (l : List Dy) (f : Dy → Int) (i j : Nat) (d : Dy) (h : j ≠ i ∨ ∀ h : i < l.length, f d = f l[i]) : ((l.set i d).map f).getD j 0 = (l.map f).getD j 0 := by
  rw [map_getD, map_getD]
  by_cases hj : j < l.length
  · rw [dif_pos (by simpa using hj), dif_pos hj, List.getElem_set]
    split
    · rename_i e
      subst e
      rcases h with h | h
      · exact absurd rfl h
      · exact h hj
    · rfl
  · rw [dif_neg (by simpa using hj), dif_neg hj]
theorem set_getD_self (l : List Dy) (f : Dy → Int) (i : Nat) (d : Dy) (hi : i < l.length) : ((l.set i d).map f).getD i 0 = f d := by
  rw [map_getD, dif_pos (by simpa using hi)]
  simp
/-- A winter with one day changed. -/
def putD (w : Wn) (i : Nat) (d : Dy) : Wn := ⟨w.stock, w.store, w.days.set i d⟩
theorem putD_right {w : Wn} (hw : w.Right) (i : Nat) {d : Dy} (hd : d.Right) : (putD w i d).Right := by
  refine ⟨hw.store, hw.stock, by simpa [putD] using hw.d1, by simpa [putD] using hw.d2, fun e he => ?_⟩
  rcases List.mem_or_eq_of_mem_set he with h | h
  · exact hw.days e h
  · rw [h]; exact hd
theorem proves_less {w : Wn} (hw : w.Right) {frm : Int} {day : Nat} (hday : day < w.days.length) (hf : -1 ≤ frm ∧ frm ≤ day) (h : (provesV w frm day).2 = 0) {n0 : Int} (hn : 0 ≤ n0 ∧ n0 ≤ w.days[day].n1 - (provesV w frm day).1) :
    provesV (putD w day { w.days[day] with n0 := n0, n1 := w.days[day].n1 - (provesV w frm day).1 }) frm day = (0, 8) := by
  obtain ⟨_, _, h3, h4⟩ := proves_spec hw h
  have ht := proves_true hw h
  have hwd := hw.days _ (List.getElem_mem hday)
  have e0 := (worst_get w day hday).1
  rw [Int.toNat_natCast] at h3 h4 ht
  rw [e0] at h3 h4 ht
  have hd : ({ w.days[day] with n0 := n0, n1 := w.days[day].n1 - (provesV w frm day).1 } : Dy).Right := ⟨by have := hwd.n; dsimp only; omega, hwd.m, hwd.l⟩
  refine proves_wrong (putD_right hw day hd) ⟨by omega, by simp [putD]; omega, hf.1, hf.2⟩ ?_
  rw [Int.toNat_natCast]
  have hc := ph_congr (w := w) (w' := putD w day { w.days[day] with n0 := n0, n1 := w.days[day].n1 - (provesV w frm day).1 }) (frm := frm) rfl rfl (day - frm.toNat)
    (fun j hj => set_getD w.days (·.n1) day j _ (.inl (by omega))) (fun j hj => set_getD w.days (·.m0) day j _ (.inr fun _ => rfl)) (fun j hj => set_getD w.days (·.l1) day j _ (.inr fun _ => rfl))
  have e1 : (worstW (putD w day { w.days[day] with n0 := n0, n1 := w.days[day].n1 - (provesV w frm day).1 })).need.getD day 0 = w.days[day].n1 - (provesV w frm day).1 := set_getD_self w.days (·.n1) day _ hday
  rw [hc, e1]
  omega
theorem proves_more {w : Wn} (hw : w.Right) {frm : Int} {day : Nat} (hday : day < w.days.length) (hf : -1 ≤ frm ∧ frm < day) (h : (provesV w frm day).2 = 0) (hn : w.days[day].m1 + (provesV w frm day).1 ≤ 100000) :
    provesV (putD w day { w.days[day] with m0 := w.days[day].m0 + (provesV w frm day).1, m1 := w.days[day].m1 + (provesV w frm day).1 }) frm day = (0, 8) := by
  obtain ⟨_, _, h3, h4⟩ := proves_spec hw h
  have ht := proves_true hw h
  have hwd := hw.days _ (List.getElem_mem hday)
  have e0 := (worst_get w day hday).1
  rw [Int.toNat_natCast] at h3 h4 ht
  rw [e0] at h3 h4 ht
  generalize hv : (provesV w frm day).1 = v at *
  have hd : ({ w.days[day] with m0 := w.days[day].m0 + v, m1 := w.days[day].m1 + v } : Dy).Right := ⟨hwd.n, by have := hwd.m; dsimp only; omega, hwd.l⟩
  refine proves_wrong (putD_right hw day hd) ⟨by omega, by simp [putD]; omega, hf.1, by omega⟩ ?_
  rw [Int.toNat_natCast]
  have e1 : (worstW (putD w day { w.days[day] with m0 := w.days[day].m0 + v, m1 := w.days[day].m1 + v })).need.getD day 0 = w.days[day].n1 := set_getD_self w.days (·.n1) day _ hday
  have e2 : (worstW (putD w day { w.days[day] with m0 := w.days[day].m0 + v, m1 := w.days[day].m1 + v })).make.getD day 0 = w.days[day].m0 + v := set_getD_self w.days (·.m0) day _ hday
  have e3 : (worstW w).make.getD day 0 = w.days[day].m0 := (worst_get w day hday).2.1
  have e4 : ∀ j, (worstW (putD w day { w.days[day] with m0 := w.days[day].m0 + v, m1 := w.days[day].m1 + v })).loss.getD j 0 = (worstW w).loss.getD j 0 := fun j => set_getD w.days (·.l1) day j _ (.inr fun _ => rfl)
  have e5 : ∀ j, (worstW (putD w day { w.days[day] with m0 := w.days[day].m0 + v, m1 := w.days[day].m1 + v })).need.getD j 0 = (worstW w).need.getD j 0 := fun j => set_getD w.days (·.n1) day j _ (.inr fun _ => rfl)
  have e6 : ∀ j, j ≠ day → (worstW (putD w day { w.days[day] with m0 := w.days[day].m0 + v, m1 := w.days[day].m1 + v })).make.getD j 0 = (worstW w).make.getD j 0 := fun j hj => set_getD w.days (·.m0) day j _ (.inl hj)
  rw [e1]
  generalize hw' : putD w day { w.days[day] with m0 := w.days[day].m0 + v, m1 := w.days[day].m1 + v } = w' at *
  have hs : w'.stock = w.stock := by rw [← hw']; rfl
  have hr : w'.store = w.store := by rw [← hw']; rfl
  have key : phK w' frm (day - frm.toNat) = phK w frm (day - frm.toNat) + v := by
    cases hk : day - frm.toNat with
    | zero =>
      have hfr : frm = -1 ∧ day = 0 := by omega
      obtain ⟨rfl, rfl⟩ := hfr
      simp only [phK, if_true]
      rw [hs, e2, e3, e4]
      omega
    | succ k =>
      have hc := ph_congr (w := w) (w' := w') (frm := frm) hs hr k (fun j hj => e5 j) (fun j hj => e6 j (by omega)) (fun j hj => e4 j)
      have hd : frm.toNat + k + 1 = day := by omega
      simp only [phK]
      rw [hc, e5, e4, hd, e2, e3]
      omega
  rw [key]
  omega
end Go.Proofs.Ytgeajgmefokifaa

/- The walk of CourseProved. -/
namespace Go.Proofs.Ytgeajgmefokifaa
open Go Go.Eng

theorem day_cell2 {w : World} {lo hi g n c : Nat} {l : List Dy} (h : RdD w lo hi (.slice (some ⟨g, 0, none⟩) n c) l) (i : Nat) (hi' : i < l.length) (a b : Nat) (hf : a + b < 6) : w.cell? ⟨g, 0 + (i : Int).toNat * 6 + a + b, none⟩ = some (.int .i64 (fldD l[i] (a + b))) := by
  have h1 := RdD.at h i hi' (a + b) hf
  rw [show 0 + (i : Int).toNat * 6 + a + b = 0 + i * 6 + (a + b) by simp; omega, h1]
  generalize a + b = f at hf
  obtain rfl | rfl | rfl | rfl | rfl | rfl : f = 0 ∨ f = 1 ∨ f = 2 ∨ f = 3 ∨ f = 4 ∨ f = 5 := by omega
  all_goals rfl
theorem first_le {x : Wn} (hx : x.Right) {d : Nat} (hd : d < x.days.length) (h : sq x (worstW x) (d + 1) < 0) : ∃ f : Nat, f ≤ d ∧ firstV x = ((f : Int), 0) := by
  rcases first_cases hx with ⟨_, _, hF⟩ | ⟨f, hfl, hF, hf, _⟩
  · have h1 := (hap_none_iff x (worstW x) hx.stock (worst_fine hx).need0 x.days.length).1 hF (d + 1) (by omega)
    omega
  · refine ⟨f, ?_, hf⟩
    have h1 := (hap_fail_iff x (worstW x) hx.stock (worst_fine hx).need0 x.days.length f).1 hF
    refine Nat.le_of_not_lt fun hlt => ?_
    have := h1.2.2 (d + 1) (by omega)
    omega
theorem proves_caN (w : World) (lo hi : Nat) (x : Wn) (a : Option Addr) (c N : Nat) (frm day : Int) (h : RdD w lo hi (.slice a x.days.length c) x.days) (hlen : x.days.length ≤ 1000000) (hN : x.days.length = N) :
    Ca Try.prog 40 [.agg #[.int .i64 x.stock, .int .i64 x.store, .slice a N c], .agg #[.int .i64 frm, .int .i64 day]] w fun r w' => r = .tuple #[.int .i64 (provesV x frm day).1, .int .i64 (provesV x frm day).2] ∧ Chg [] w w' := by
  subst hN
  exact proves_ca w lo hi x a c frm day h hlen
section
variable {P : Program} {T : Tab} {ro : Cx} {n : Nat} {F : Fin} {w0 : World} {M : Nat → Prop} {k : List It} {ops : Array Oper} {rest : List Oper} {e : Env} {H Hq : List Ck}
theorem ql_dyT (hT : T.Ok P) {t : Nat} {x y : Operand} {g off : Nat} {l : List Dy} {d : Dy} {sp : List Value} {v : Int} {H' : List Ck} {ty bt : TypeId} {pos : String} {af : Array Edge} (i f : Nat) (d' : Dy)
    (hx : opv e x = some (.pointer (some ⟨g, off, none⟩))) (hy : opv e y = some (.int .i64 v)) (h1 : has T.one t = true) (ho : off = i * 6 + f) (hf : f < 6) (hi : i < l.length) (hd : setD d f v = d') (hr : Rp H (.pt g (dyC (l.set i d) ++ sp) bt) (.pt g (dyC (l.set i d') ++ sp) bt) H')
    (h : QL P ro n F w0 M k ops rest e H') : QL P ro n F w0 M k ops (⟨none, .store t x y, ty, pos, af, none⟩ :: rest) e H := by
  refine ql_dyS (l := l.set i d) (sp := sp) hT i f d' hx hy h1 ho hf (by simpa using hi) (by simpa using hd) (by rw [List.set_set]; exact hr) h
/-- A span stored into a day. -/
theorem dyC_setM (l : List Dy) (sp : List Value) (i : Nat) (hi : i < l.length) (d : Dy) (a b : Int) : setL (dyC (l.set i d) ++ sp) (i * 6 + 2) [.int .i64 a, .int .i64 b] = dyC (l.set i { d with m0 := a, m1 := b }) ++ sp := by
  have e1 := dyC_set (l.set i d) sp i 2 (by simpa using hi) a (by omega)
  have e2 := dyC_set (l.set i (setD d 2 a)) sp i 3 (by simpa using hi) b (by omega)
  simp only [List.getElem_set_self, List.set_set] at e1 e2
  show ((dyC (l.set i d) ++ sp).set (i * 6 + 2) (.int .i64 a)).set (i * 6 + 2 + 1) (.int .i64 b) = _
  rw [e1, show i * 6 + 2 + 1 = i * 6 + 3 by omega, e2]
  rfl
end
end Go.Proofs.Ytgeajgmefokifaa

/- The walk of CourseProved. -/
namespace Go.Proofs.Ytgeajgmefokifaa
open Go Go.Eng

section
variable {P : Program} {ro : Cx} {n : Nat} {F : Fin} {w0 : World} {M : Nat → Prop} {k : List It} {ops : Array Oper} {rest : List Oper} {e : Env} {R : List Ck}
end

set_option maxRecDepth 20000 in
set_option maxHeartbeats 8000000 in
theorem courseProved_ca (w : World) (a : Option Addr) (n c : Nat) (a2 : Option Addr) (n2 c2 : Nat) (hbyb1 : DkB w 0 w.heap.size (.slice a n c)) (hbyb2 : DkB w 0 w.heap.size (.slice a2 n2 c2)) :
    Ca Try.prog 5 [.slice a n c, .slice a2 n2 c2] w fun r w' => r = .bool true ∧ Chg [] w w' := by
  refine q_of (Sat.nil w M0) Try.func5 rfl (by simp [Try.ntmps5]) ?_
  (refine q_seq ?_; refine q_region ?_; refine ql_pure tabOk rfl rfl ?_; refine q_nil ?_; refine q_seq ?_; refine q_region ?_; refine ql_pure tabOk rfl rfl ?_)
  refine ql_call (β := Nat) tabOk [] _ M0 rfl rfl rfl rfl (Sp.refl _) (fun _ h => h.elim) (fun w' hs => of_ca w' a n c) ?_
  rintro b1 _ rfl
  skip
  refine ql_call (β := Nat × Nat × Wn) (ψ := fun y v => v = .agg (wnC y.2.2 (some ⟨y.1, 0, none⟩) y.2.1).toArray ∧ WinB 12 y.2.2) (L' := fun y => [.ow (.slice (some ⟨y.1, 0, none⟩) y.2.2.days.length y.2.1) 73 6 y.2.2.days.length (dyC y.2.2.days), dkP (.slice a n c) b1 (0 + 1000)]) tabOk [dkP (.slice a n c) b1 (0)] _ (fun x => x = b1) rfl rfl rfl rfl (Sp.cons (by repeat constructor) (Sp.refl _)) (fun x hx => ⟨_, .head _, hx⟩) (fun w' hs => madeW0 (days := 12) hbyb1 hs (by omega) (by omega) (by omega)) ?_; rintro ⟨g, cd, x⟩ _ ⟨rfl, hwx⟩; dsimp only [List.cons_append, List.nil_append] at hwx ⊢
  have hrx := hwx.right (by omega)
  have hlen := hrx.d2
  have hl1 := hrx.d1
  have hst := hwx.store
  have hsk := hwx.stock
  skip
  refine ql_alloc zero61 rfl (fun b5 => ?_)
  (refine ql_setA tabOk rfl rfl rfl rfl rfl (by repeat constructor) rfl ?_; refine q_nil ?_; refine q_seq ?_; refine q_region ?_; refine ql_pure tabOk rfl rfl ?_)
  refine ql_call (β := Nat) tabOk [] _ M0 rfl rfl rfl rfl (Sp.refl _) (fun _ h => h.elim) (fun w' hs => of_ca w' a2 n2 c2) ?_
  rintro b2 _ rfl
  (refine ql_pure tabOk rfl rfl ?_; refine q_nil ?_; refine q_seq ?_; refine q_region ?_; refine ql_loadAB tabOk rfl rfl rfl (by repeat first | exact .head _ | refine .tail _ ?_) (by rfl) (by rfl) ?_)
  refine ql_callv (val := .tuple #[.int .i64 (firstV x).1, .int .i64 (firstV x).2]) tabOk rfl rfl rfl rfl (fun w hs => ?_) ?_; exact first_ca w 0 w.heap.size x (some ⟨g, 0, none⟩) cd (days_rd hs (by repeat first | exact .head _ | refine .tail _ ?_)) (by omega)
  (refine ql_pure tabOk rfl rfl ?_; (iterate 2 refine ql_ext tabOk rfl rfl rfl ?_); (iterate 2 refine ql_pure tabOk rfl rfl ?_); refine q_nil ?_; (iterate 2 refine q_seq ?_); refine q_region ?_; refine ql_pure tabOk rfl rfl ?_; refine q_nil ?_; refine q_block ?_)
  refine q_loop (σ := Nat) (fun k => k ≤ 8) (fun k => 8 - k) (fun k => [(5, .pointer (some ⟨b5, 0, none⟩)), (6, .pointer (some ⟨b2, 0, none⟩)), (7, .int .i64 (firstV x).1), (8, .int .i64 (firstV x).2), (28, .int .i64 k)])
    (fun k => [dkP (.slice a2 n2 c2) b2 (0 + 2 * k), .ow (.slice (some ⟨g, 0, none⟩) x.days.length cd) 73 6 x.days.length (dyC x.days), .pt b5 (wnC x (some ⟨g, 0, none⟩) cd) 61]) 0 (by omega) ⟨rfl, rfl, rfl, rfl, rfl, trivial⟩ (by repeat (first | exact Sp.nil | exact Sp.refl _ | refine Sp.cons (by repeat constructor) ?_)) ?_
  rintro k hk K hK
  (refine q_seq ?_; refine q_region ?_; refine ql_pure tabOk rfl rfl ?_; refine q_nil ?_; refine q_seq ?_)
  refine q_if rfl (fun hc => ?_) (fun hc => ?_)
  · have hk2 : k < 8 := by first | omega | (simp at hc; omega)
    clear hc
    (refine q_skip ?_; refine q_seq ?_; refine q_block ?_; refine q_seq ?_)
    refine q_cut (σ := {p : Nat × Int × Int // (-1 ≤ p.2.1 ∧ p.2.1 ≤ (x.days.length : Int) - 1) ∧ 0 ≤ p.2.2 ∧ p.2.2 ≤ (x.days.length : Int) - 1}) (fun p => [(5, .pointer (some ⟨b5, 0, none⟩)), (6, .pointer (some ⟨b2, 0, none⟩)), (7, .int .i64 (firstV x).1), (8, .int .i64 (firstV x).2), (9, .pointer (some ⟨p.1.1, 0, none⟩)), (28, .int .i64 k)])
      (fun p => [.pt p.1.1 [.int .i64 p.1.2.1, .int .i64 p.1.2.2] 70, dkP (.slice a2 n2 c2) b2 (0 + 2 * k + 1 + 1), .ow (.slice (some ⟨g, 0, none⟩) x.days.length cd) 73 6 x.days.length (dyC x.days), .pt b5 (wnC x (some ⟨g, 0, none⟩) cd) 61]) ?_ (fun K2 hK2 => ?_)
    rotate_left
    · skip
      refine q_drawT (.alt (chainT [0, 1, 2, 3, 4, 5] (.alt (chainT [6, 7, 8, 9, 10, 12, 11, 13] (.nil)) (chainT [12, 6, 7, 8, 9, 10, 11, 13] (.nil)))) (chainT [12, 0, 1, 2, 3, 4, 5, 6, 7, 8, 9, 10, 11, 13] (.nil))) _ [dkP (.slice a2 n2 c2) b2 (0 + 2 * k)] (Sp.cons (by repeat constructor) (Sp.refl _)) (by kernel_rfl) (by kernel_rfl) ?_
      refine qt_alt ?_ ?_
      · skip
        refine qt_seg (by repeat (first | exact PickL.nil | (apply PickL.cons; rfl))) fun K1 hK1 => ?_
        ((iterate 2 refine qf_pure tabOk rfl rfl rfl ?_); refine qf_loadB tabOk rfl rfl rfl (by repeat first | exact .head _ | refine .tail _ ?_) (by rfl) ?_; refine qf_pure tabOk rfl rfl rfl ?_; refine qf_ar tabOk rfl rfl rfl rfl (by omega) (by omega) ?_)
        refine qf_call (β := Int) (ψ := fun zq v => v = .int .i64 zq ∧ -1 ≤ zq ∧ zq ≤ (x.days.length : Int) - 1) (L' := fun _ => [dkP (.slice a2 n2 c2) b2 (0 + 2 * k + 1)]) tabOk [dkP (.slice a2 n2 c2) b2 (0 + 2 * k)] _ (fun x => x = b2) rfl rfl rfl rfl (Sp.cons (by repeat constructor) (Sp.refl _)) (fun x hx => ⟨_, .head _, hx⟩) (fun w' hs => btw0 hbyb2 hs (by omega) (by omega) (by omega) (by omega)) ?_; rintro f _ ⟨rfl, hf⟩
        (refine qf_nil ?_)
        refine hK1 _ _ ?_
        refine qt_alt ?_ ?_
        · skip
          refine qt_seg (by repeat (first | exact PickL.nil | (apply PickL.cons; rfl))) fun K1 hK1 => ?_
          ((iterate 2 refine qf_pure tabOk rfl rfl rfl ?_); refine qf_loadB tabOk rfl rfl rfl (by repeat first | exact .head _ | refine .tail _ ?_) (by rfl) ?_; refine qf_pure tabOk rfl rfl rfl ?_)
          refine qf_call (β := Int) (ψ := fun zq v => v = .int .i64 zq ∧ 0 ≤ zq ∧ zq ≤ (x.days.length : Int) - 1) (L' := fun _ => [dkP (.slice a2 n2 c2) b2 (0 + 2 * k + 1 + 1)]) tabOk [dkP (.slice a2 n2 c2) b2 (0 + 2 * k + 1)] _ (fun x => x = b2) rfl rfl rfl rfl (Sp.cons (by repeat constructor) (Sp.refl _)) (fun x hx => ⟨_, .head _, hx⟩) (fun w' hs => drw0 hbyb2 hs (by omega) (by omega)) ?_; rintro d _ ⟨rfl, hd⟩
          skip
          refine qf_alloc zero70 rfl (fun b9 => ?_)
          skip
          refine qf_mk #[.int .i64 f, .int .i64 d] rfl (by kernel_rfl) rfl ?_
          (refine qf_setA tabOk rfl rfl rfl rfl rfl (by repeat constructor) rfl ?_; refine qf_nil ?_)
          exact hK1 _ _ (qt_nil (hK2 ⟨(b9, f, d), hf, hd⟩ _ _ ⟨rfl, rfl, rfl, rfl, rfl, rfl, trivial⟩ (by repeat (first | exact Sp.nil | exact Sp.refl _ | refine Sp.cons (by repeat constructor) ?_))))
        · skip
          refine qt_seg (by repeat (first | exact PickL.nil | (apply PickL.cons; rfl))) fun K1 hK1 => ?_
          skip
          refine qf_alloc zero70 rfl (fun b9 => ?_)
          ((iterate 2 refine qf_pure tabOk rfl rfl rfl ?_); refine qf_loadB tabOk rfl rfl rfl (by repeat first | exact .head _ | refine .tail _ ?_) (by rfl) ?_; refine qf_pure tabOk rfl rfl rfl ?_)
          refine qf_call (β := Int) (ψ := fun zq v => v = .int .i64 zq ∧ 0 ≤ zq ∧ zq ≤ (x.days.length : Int) - 1) (L' := fun _ => [dkP (.slice a2 n2 c2) b2 (0 + 2 * k + 1 + 1)]) tabOk [dkP (.slice a2 n2 c2) b2 (0 + 2 * k + 1)] _ (fun x => x = b2) rfl rfl rfl rfl (Sp.cons (by repeat constructor) (Sp.refl _)) (fun x hx => ⟨_, .head _, hx⟩) (fun w' hs => drw0 hbyb2 hs (by omega) (by omega)) ?_; rintro d _ ⟨rfl, hd⟩
          skip
          refine qf_mk #[.int .i64 f, .int .i64 d] rfl (by kernel_rfl) rfl ?_
          (refine qf_setA tabOk rfl rfl rfl rfl rfl (by repeat constructor) rfl ?_; refine qf_nil ?_)
          exact hK1 _ _ (qt_nil (hK2 ⟨(b9, f, d), hf, hd⟩ _ _ ⟨rfl, rfl, rfl, rfl, rfl, rfl, trivial⟩ (by repeat (first | exact Sp.nil | exact Sp.refl _ | refine Sp.cons (by repeat constructor) ?_))))
      · skip
        refine qt_seg (by repeat (first | exact PickL.nil | (apply PickL.cons; rfl))) fun K1 hK1 => ?_
        skip
        refine qf_alloc zero70 rfl (fun b9 => ?_)
        ((iterate 2 refine qf_pure tabOk rfl rfl rfl ?_); refine qf_loadB tabOk rfl rfl rfl (by repeat first | exact .head _ | refine .tail _ ?_) (by rfl) ?_; refine qf_pure tabOk rfl rfl rfl ?_; refine qf_ar tabOk rfl rfl rfl rfl (by omega) (by omega) ?_)
        refine qf_call (β := Int) (ψ := fun zq v => v = .int .i64 zq ∧ -1 ≤ zq ∧ zq ≤ (x.days.length : Int) - 1) (L' := fun _ => [dkP (.slice a2 n2 c2) b2 (0 + 2 * k + 1)]) tabOk [dkP (.slice a2 n2 c2) b2 (0 + 2 * k)] _ (fun x => x = b2) rfl rfl rfl rfl (Sp.cons (by repeat constructor) (Sp.refl _)) (fun x hx => ⟨_, .head _, hx⟩) (fun w' hs => btw0 hbyb2 hs (by omega) (by omega) (by omega) (by omega)) ?_; rintro f _ ⟨rfl, hf⟩
        ((iterate 2 refine qf_pure tabOk rfl rfl rfl ?_); refine qf_loadB tabOk rfl rfl rfl (by repeat first | exact .head _ | refine .tail _ ?_) (by rfl) ?_; refine qf_pure tabOk rfl rfl rfl ?_)
        refine qf_call (β := Int) (ψ := fun zq v => v = .int .i64 zq ∧ 0 ≤ zq ∧ zq ≤ (x.days.length : Int) - 1) (L' := fun _ => [dkP (.slice a2 n2 c2) b2 (0 + 2 * k + 1 + 1)]) tabOk [dkP (.slice a2 n2 c2) b2 (0 + 2 * k + 1)] _ (fun x => x = b2) rfl rfl rfl rfl (Sp.cons (by repeat constructor) (Sp.refl _)) (fun x hx => ⟨_, .head _, hx⟩) (fun w' hs => drw0 hbyb2 hs (by omega) (by omega)) ?_; rintro d _ ⟨rfl, hd⟩
        skip
        refine qf_mk #[.int .i64 f, .int .i64 d] rfl (by kernel_rfl) rfl ?_
        (refine qf_setA tabOk rfl rfl rfl rfl rfl (by repeat constructor) rfl ?_; refine qf_nil ?_)
        exact hK1 _ _ (qt_nil (hK2 ⟨(b9, f, d), hf, hd⟩ _ _ ⟨rfl, rfl, rfl, rfl, rfl, rfl, trivial⟩ (by repeat (first | exact Sp.nil | exact Sp.refl _ | refine Sp.cons (by repeat constructor) ?_))))
    rintro ⟨⟨b9, f, d⟩, hf, hd⟩
    dsimp only at hf hd ⊢
    obtain ⟨D, rfl⟩ := Int.eq_ofNat_of_zero_le hd.1
    have hD : D < x.days.length := by omega
    (refine q_seq ?_; refine q_region ?_; (iterate 2 refine ql_loadAB tabOk rfl rfl rfl (by repeat first | exact .head _ | refine .tail _ ?_) (by rfl) (by rfl) ?_))
    refine ql_callv (val := .tuple #[.int .i64 (provesV x f D).1, .int .i64 (provesV x f D).2]) tabOk rfl rfl rfl rfl (fun w hs => ?_) ?_; exact proves_ca w 0 w.heap.size x (some ⟨g, 0, none⟩) cd f D (days_rd hs (by repeat first | exact .head _ | refine .tail _ ?_)) (by omega)
    have hun := proves_unknown hrx (frm := f) (day := (D : Int))
    by_cases hfd : (D : Int) < f
    · have e : provesV x f D = (0, 1) := by
        rcases proves_or hrx f D with h | h | h
        · have := (proves_spec hrx h).1
          omega
        · exact h
        · rw [h] at hun
          exact absurd (hun.2 (by omega)) (by simp)
      rw [e]
      dsimp only
      (refine ql_pure tabOk rfl rfl ?_; (iterate 2 refine ql_ext tabOk rfl rfl rfl ?_); (iterate 2 refine ql_pure tabOk rfl rfl ?_); refine q_nil ?_; refine q_block ?_; refine q_seq ?_; refine q_region ?_; refine ql_pure tabOk rfl rfl ?_; refine ql_loadB tabOk rfl rfl rfl (by repeat first | exact .head _ | refine .tail _ ?_) (by rfl) ?_; refine ql_pure tabOk rfl rfl ?_; refine ql_loadB tabOk rfl rfl rfl (by repeat first | exact .head _ | refine .tail _ ?_) (by rfl) ?_; refine ql_gtrT tabOk rfl rfl rfl (by omega) ?_; refine ql_pure tabOk rfl rfl ?_; refine q_nil ?_; refine q_cond_true rfl ?_; refine q_seq ?_; refine q_region ?_; refine ql_pure tabOk rfl rfl ?_; refine ql_neqF tabOk rfl rfl rfl (by omega) ?_; refine q_nil ?_; refine q_cond_false rfl ?_; refine q_skip ?_; (iterate 2 refine q_blk ?_); refine q_region ?_; refine ql_ar tabOk rfl rfl rfl rfl (by omega) (by omega) ?_; refine ql_pure tabOk rfl rfl ?_; refine q_nil ?_)
      exact hK (k + 1) _ _ (by omega) (by omega) ⟨rfl, rfl, rfl, rfl, rfl, trivial⟩ (by repeat (first | exact Sp.nil | exact Sp.refl _ | refine Sp.cons (by repeat constructor) ?_))
    · rcases proves_or hrx f D with h | h | h
      · have hpt := proves_true hrx h
        obtain ⟨f0, hf0, hff⟩ := first_le hrx hD hpt.2.2
        have hless := proves_less hrx hD ⟨hf.1, by omega⟩ h (n0 := min x.days[D].n0 (x.days[D].n1 - (provesV x f D).1))
        have hmore := fun hfd2 => proves_more hrx hD ⟨hf.1, hfd2⟩ h
        have hn1 := (worst_get x D hD).1
        rw [Int.toNat_natCast, hn1] at hpt
        have hdB := hwx.days _ (List.getElem_mem hD)
        have hBn := hdB.n
        have hBm := hdB.m
        rw [h, hff]
        rw [hff] at hK
        clear hun h
        generalize (provesV x f D).1 = nn at *
        dsimp only
        replace hless := hless (by omega)
        replace hmore := fun hfd2 => hmore hfd2 (by omega)
        (refine ql_pure tabOk rfl rfl ?_; (iterate 2 refine ql_ext tabOk rfl rfl rfl ?_); (iterate 2 refine ql_pure tabOk rfl rfl ?_); refine q_nil ?_; refine q_block ?_; refine q_seq ?_; refine q_region ?_; refine ql_pure tabOk rfl rfl ?_; refine ql_loadB tabOk rfl rfl rfl (by repeat first | exact .head _ | refine .tail _ ?_) (by rfl) ?_; refine ql_pure tabOk rfl rfl ?_; refine ql_loadB tabOk rfl rfl rfl (by repeat first | exact .head _ | refine .tail _ ?_) (by rfl) ?_; refine ql_gtrF tabOk rfl rfl rfl (by omega) ?_; refine ql_pure tabOk rfl rfl ?_; refine q_nil ?_; refine q_cond_false rfl ?_; refine q_seq ?_; refine q_region ?_; refine ql_pure tabOk rfl rfl ?_; refine ql_eqlT tabOk rfl rfl rfl (by omega) ?_; refine ql_pure tabOk rfl rfl ?_; refine q_nil ?_; refine q_cond_true rfl ?_; (iterate 2 refine q_seq ?_); refine q_region ?_; refine ql_pure tabOk rfl rfl ?_; refine ql_neqF tabOk rfl rfl rfl (by omega) ?_; refine ql_pure tabOk rfl rfl ?_; refine ql_gyes rfl ?_; refine ql_pure tabOk rfl rfl ?_; refine ql_gyes rfl ?_; refine ql_pure tabOk rfl rfl ?_; refine ql_gyes rfl ?_; refine ql_loadB tabOk rfl rfl rfl (by repeat first | exact .head _ | refine .tail _ ?_) (by rfl) ?_; refine ql_gyes rfl ?_; refine ql_gtrF tabOk rfl rfl rfl (by omega) ?_; (iterate 2 refine ql_pure tabOk rfl rfl ?_); refine ql_gyes rfl ?_; refine ql_pure tabOk rfl rfl ?_; refine ql_gyes rfl ?_; refine ql_lssF tabOk rfl rfl rfl (by omega) ?_; (iterate 2 refine ql_pure tabOk rfl rfl ?_); refine ql_gyes rfl ?_; refine ql_pure tabOk rfl rfl ?_; refine ql_gyes rfl ?_; refine ql_pure tabOk rfl rfl ?_; refine ql_gyes rfl ?_; refine ql_loadB tabOk rfl rfl rfl (by repeat first | exact .head _ | refine .tail _ ?_) (by rfl) ?_; refine ql_gyes rfl ?_; refine ql_pure tabOk rfl rfl ?_; refine ql_gyes rfl ?_; refine ql_loadB tabOk rfl rfl rfl (by repeat first | exact .head _ | refine .tail _ ?_) (by rfl) ?_; refine ql_gyes rfl ?_)
        refine ql_index tabOk rfl rfl rfl rfl rfl (by omega) (by omega) ?_
        (refine ql_gyes rfl ?_; refine ql_pure tabOk rfl rfl ?_; refine ql_gyes rfl ?_; refine ql_pure tabOk rfl rfl ?_; refine ql_gyes rfl ?_)
        refine ql_load1 (v := .int .i64 x.days[D].n1) tabOk rfl rfl rfl (fun w hs => day_cell2 (days_rd (x := x) hs (by repeat first | exact .head _ | refine .tail _ ?_)) D hD 0 1 (by decide)) ?_
        (refine ql_gyes rfl ?_; refine ql_gtrF tabOk rfl rfl rfl (by omega) ?_; refine ql_pure tabOk rfl rfl ?_; refine q_nil ?_; refine q_cond_false rfl ?_; refine q_skip ?_; refine q_seq ?_; refine q_region ?_; refine ql_loadAB tabOk rfl rfl rfl (by repeat first | exact .head _ | refine .tail _ ?_) (by rfl) (by rfl) ?_)
        have e0 : x.days.set D x.days[D] = x.days := List.set_getElem_self hD
        refine ql_call (β := Option Addr × Nat) tabOk [] _ M0 rfl rfl rfl rfl (Sp.refl _) (fun _ h => h.elim) (fun w' hs => cloneW_ca w' 0 w'.heap.size x (some ⟨g, 0, none⟩) cd (days_rd hs (by repeat first | exact .head _ | refine .tail _ ?_)) (by omega)) ?_
        rintro ⟨ra, rc⟩ _ rfl
        dsimp only [List.cons_append, List.nil_append]
        refine ql_alloc zero61 rfl (fun b12 => ?_)
        (refine ql_setA tabOk rfl rfl rfl rfl rfl (by repeat constructor) rfl ?_; refine q_nil ?_; refine q_seq ?_)
        refine q_conv (H' := .ow (.slice ra x.days.length rc) 73 6 x.days.length (dyC x.days) :: [.pt b12 [.int .i64 x.stock, .int .i64 x.store, .slice ra x.days.length rc] 61, .pt b9 [.int .i64 f, .int .i64 D] 70, dkP (.slice a2 n2 c2) b2 (0 + 2 * k + 1 + 1), .ow (.slice (some ⟨g, 0, none⟩) x.days.length cd) 73 6 x.days.length (dyC x.days), .pt b5 (wnC x (some ⟨g, 0, none⟩) cd) 61]) (fun w' hs => hs.sp (by repeat (first | exact Sp.nil | exact Sp.refl _ | refine Sp.cons (by repeat constructor) ?_))) ?_
        refine q_ow (by omega) ?_
        rintro g2 c3 sp zz
        cases zz
        refine q_conv (H' := [.pt g2 (dyC (x.days.set D x.days[D]) ++ sp) 73, .pt b12 [.int .i64 x.stock, .int .i64 x.store, .slice (some ⟨g2, 0, none⟩) x.days.length rc] 61, .pt b9 [.int .i64 f, .int .i64 D] 70, dkP (.slice a2 n2 c2) b2 (0 + 2 * k + 1 + 1), .ow (.slice (some ⟨g, 0, none⟩) x.days.length cd) 73 6 x.days.length (dyC x.days), .pt b5 (wnC x (some ⟨g, 0, none⟩) cd) 61]) (fun w' hs => by rw [e0]; exact hs.sp (by repeat (first | exact Sp.nil | exact Sp.refl _ | refine Sp.cons (by repeat constructor) ?_))) ?_
        (refine q_region ?_; refine ql_pure tabOk rfl rfl ?_; refine ql_loadB tabOk rfl rfl rfl (by repeat first | exact .head _ | refine .tail _ ?_) (by rfl) ?_; refine ql_pure tabOk rfl rfl ?_; refine ql_loadB tabOk rfl rfl rfl (by repeat first | exact .head _ | refine .tail _ ?_) (by rfl) ?_)
        refine ql_index tabOk rfl rfl rfl rfl rfl (by omega) (by omega) ?_
        ((iterate 2 refine ql_pure tabOk rfl rfl ?_))
        refine ql_load1 (v := .int .i64 (x.days[D].n1)) tabOk rfl rfl rfl (fun w hs => dy_cell2 (hs.blk (by repeat first | exact .head _ | refine .tail _ ?_)) hD 0 1 (by decide)) ?_
        (refine ql_pure tabOk rfl rfl ?_; refine ql_ar tabOk rfl rfl rfl rfl (by omega) (by omega) ?_)
        refine ql_index tabOk rfl rfl rfl rfl rfl (by omega) (by omega) ?_
        ((iterate 2 refine ql_pure tabOk rfl rfl ?_))
        refine ql_dyT (l := x.days) tabOk D 1 { x.days[D] with n1 := x.days[D].n1 - nn } rfl rfl rfl (by simp) (by decide) hD rfl (by repeat constructor) ?_
        (refine q_nil ?_; refine q_seq ?_)
        refine q_drawS 21 _ [.pt g2 (dyC (x.days.set D { x.days[D] with n1 := x.days[D].n1 - nn }) ++ sp) 73] (Sp.cons (by repeat constructor) (Sp.refl _)) (by kernel_rfl) (by kernel_rfl) (by kernel_rfl) fun K1 hK1 => ?_
        (refine qf_pure tabOk rfl rfl rfl ?_; refine qf_loadB tabOk rfl rfl rfl (by repeat first | exact .head _ | refine .tail _ ?_) (by rfl) ?_; refine qf_pure tabOk rfl rfl rfl ?_; refine qf_loadB tabOk rfl rfl rfl (by repeat first | exact .head _ | refine .tail _ ?_) (by rfl) ?_; refine qf_pure tabOk rfl rfl rfl ?_; refine qf_loadB tabOk rfl rfl rfl (by repeat first | exact .head _ | refine .tail _ ?_) (by rfl) ?_; refine qf_pure tabOk rfl rfl rfl ?_; refine qf_loadB tabOk rfl rfl rfl (by repeat first | exact .head _ | refine .tail _ ?_) (by rfl) ?_)
        refine qf_index tabOk rfl rfl rfl rfl rfl (by omega) (by omega) ?_
        ((iterate 2 refine qf_pure tabOk rfl rfl rfl ?_))
        refine qf_load1 (v := .int .i64 (x.days[D].n0)) tabOk rfl rfl rfl (fun w hs => dy_cell2 (l := x.days) (d := { x.days[D] with n1 := x.days[D].n1 - nn }) (hs.blk (by repeat first | exact .head _ | refine .tail _ ?_)) hD 0 0 (by decide)) ?_
        (refine qf_pure tabOk rfl rfl rfl ?_; refine qf_loadB tabOk rfl rfl rfl (by repeat first | exact .head _ | refine .tail _ ?_) (by rfl) ?_; refine qf_pure tabOk rfl rfl rfl ?_; refine qf_loadB tabOk rfl rfl rfl (by repeat first | exact .head _ | refine .tail _ ?_) (by rfl) ?_)
        refine qf_index tabOk rfl rfl rfl rfl rfl (by omega) (by omega) ?_
        ((iterate 2 refine qf_pure tabOk rfl rfl rfl ?_))
        refine qf_load1 (v := .int .i64 (x.days[D].n1 - nn)) tabOk rfl rfl rfl (fun w hs => dy_cell2 (l := x.days) (d := { x.days[D] with n1 := x.days[D].n1 - nn }) (hs.blk (by repeat first | exact .head _ | refine .tail _ ?_)) hD 0 1 (by decide)) ?_
        (refine qf_pure tabOk rfl rfl rfl ?_; refine qf_nil ?_)
        refine hK1 _ _ [.pt g2 (dyC (x.days.set D { x.days[D] with n1 := x.days[D].n1 - nn }) ++ sp) 73] (by repeat (first | exact Sp.nil | exact Sp.refl _ | refine Sp.cons (by repeat constructor) ?_)) ?_
        skip
        refine qf_index tabOk rfl rfl rfl rfl rfl (by omega) (by omega) ?_
        ((iterate 2 refine qf_pure tabOk rfl rfl rfl ?_))
        refine qf_dyT (l := x.days) tabOk D 0 { x.days[D] with n0 := min x.days[D].n0 (x.days[D].n1 - nn), n1 := x.days[D].n1 - nn } rfl rfl rfl (by simp) (by decide) hD rfl (by repeat constructor) ?_
        (refine qf_nil ?_; (iterate 2 refine q_seq ?_); refine q_region ?_; (iterate 2 refine ql_loadAB tabOk rfl rfl rfl (by repeat first | exact .head _ | refine .tail _ ?_) (by rfl) (by rfl) ?_))
        refine ql_callv (val := .tuple #[.int .i64 0, .int .i64 8]) tabOk rfl rfl rfl rfl (fun w hs => ?_) ?_; exact by have := proves_caN w 0 w.heap.size (putD x D { x.days[D] with n0 := min x.days[D].n0 (x.days[D].n1 - nn), n1 := x.days[D].n1 - nn }) (some ⟨g2, 0, none⟩) rc x.days.length f D (dyB_rd (g := g2) (l := x.days.set D { x.days[D] with n0 := min x.days[D].n0 (x.days[D].n1 - nn), n1 := x.days[D].n1 - nn }) (sp := sp) hs (by repeat first | exact .head _ | refine .tail _ ?_)) (by simp [putD]; omega) (by simp [putD]); rw [hless] at this; exact this
        (refine ql_pure tabOk rfl rfl ?_; (iterate 2 refine ql_ext tabOk rfl rfl rfl ?_); (iterate 2 refine ql_pure tabOk rfl rfl ?_); refine q_nil ?_; refine q_seq ?_; refine q_region ?_; refine ql_pure tabOk rfl rfl ?_; refine ql_neqF tabOk rfl rfl rfl (by omega) ?_; refine q_nil ?_; refine q_cond_false rfl ?_; refine q_skip ?_; refine q_seq ?_; refine q_region ?_; refine ql_pure tabOk rfl rfl ?_; refine ql_loadB tabOk rfl rfl rfl (by repeat first | exact .head _ | refine .tail _ ?_) (by rfl) ?_; refine ql_pure tabOk rfl rfl ?_; refine ql_loadB tabOk rfl rfl rfl (by repeat first | exact .head _ | refine .tail _ ?_) (by rfl) ?_; refine ql_pure tabOk rfl rfl ?_; refine q_nil ?_)
        refine q_if rfl (fun hc => ?_) (fun hc => ?_)
        · have hfd2 : f < (D : Int) := by first | assumption | (simpa using hc)
          clear hc
          replace hmore := hmore hfd2
          (refine q_seq ?_; refine q_region ?_; refine ql_loadAB tabOk rfl rfl rfl (by repeat first | exact .head _ | refine .tail _ ?_) (by rfl) (by rfl) ?_)
          refine ql_call (β := Option Addr × Nat) tabOk [] _ M0 rfl rfl rfl rfl (Sp.refl _) (fun _ h => h.elim) (fun w' hs => cloneW_ca w' 0 w'.heap.size x (some ⟨g, 0, none⟩) cd (days_rd hs (by repeat first | exact .head _ | refine .tail _ ?_)) (by omega)) ?_
          rintro ⟨ra, rc⟩ _ rfl
          dsimp only [List.cons_append, List.nil_append]
          refine ql_alloc zero61 rfl (fun b15 => ?_)
          (refine ql_setA tabOk rfl rfl rfl rfl rfl (by repeat constructor) rfl ?_; refine q_nil ?_; refine q_seq ?_)
          refine q_conv (H' := .ow (.slice ra x.days.length rc) 73 6 x.days.length (dyC x.days) :: [.pt b15 [.int .i64 x.stock, .int .i64 x.store, .slice ra x.days.length rc] 61, .pt b9 [.int .i64 f, .int .i64 D] 70, dkP (.slice a2 n2 c2) b2 (0 + 2 * k + 1 + 1), .ow (.slice (some ⟨g, 0, none⟩) x.days.length cd) 73 6 x.days.length (dyC x.days), .pt b5 (wnC x (some ⟨g, 0, none⟩) cd) 61]) (fun w' hs => hs.sp (by repeat (first | exact Sp.nil | exact Sp.refl _ | refine Sp.cons (by repeat constructor) ?_))) ?_
          refine q_ow (by omega) ?_
          rintro g3 c3 sp2 zz
          cases zz
          refine q_conv (H' := [.pt g3 (dyC (x.days.set D x.days[D]) ++ sp2) 73, .pt b15 [.int .i64 x.stock, .int .i64 x.store, .slice (some ⟨g3, 0, none⟩) x.days.length rc] 61, .pt b9 [.int .i64 f, .int .i64 D] 70, dkP (.slice a2 n2 c2) b2 (0 + 2 * k + 1 + 1), .ow (.slice (some ⟨g, 0, none⟩) x.days.length cd) 73 6 x.days.length (dyC x.days), .pt b5 (wnC x (some ⟨g, 0, none⟩) cd) 61]) (fun w' hs => by rw [e0]; exact hs.sp (by repeat (first | exact Sp.nil | exact Sp.refl _ | refine Sp.cons (by repeat constructor) ?_))) ?_
          refine q_drawS 25 _ [.pt g3 (dyC (x.days.set D x.days[D]) ++ sp2) 73] (Sp.cons (by repeat constructor) (Sp.refl _)) (by kernel_rfl) (by kernel_rfl) (by kernel_rfl) fun K1 hK1 => ?_
          (refine qf_pure tabOk rfl rfl rfl ?_; refine qf_loadB tabOk rfl rfl rfl (by repeat first | exact .head _ | refine .tail _ ?_) (by rfl) ?_; refine qf_pure tabOk rfl rfl rfl ?_; refine qf_loadB tabOk rfl rfl rfl (by repeat first | exact .head _ | refine .tail _ ?_) (by rfl) ?_; refine qf_pure tabOk rfl rfl rfl ?_; refine qf_loadB tabOk rfl rfl rfl (by repeat first | exact .head _ | refine .tail _ ?_) (by rfl) ?_; refine qf_pure tabOk rfl rfl rfl ?_; refine qf_loadB tabOk rfl rfl rfl (by repeat first | exact .head _ | refine .tail _ ?_) (by rfl) ?_)
          refine qf_index tabOk rfl rfl rfl rfl rfl (by omega) (by omega) ?_
          ((iterate 2 refine qf_pure tabOk rfl rfl rfl ?_))
          refine qf_load1 (v := .int .i64 x.days[D].m0) tabOk rfl rfl rfl (fun w hs => day_cell2 (days_rd (x := x) hs (by repeat first | exact .head _ | refine .tail _ ?_)) D hD 2 0 (by decide)) ?_
          (refine qf_pure tabOk rfl rfl rfl ?_; refine qf_ar tabOk rfl rfl rfl rfl (by omega) (by omega) ?_; refine qf_pure tabOk rfl rfl rfl ?_; refine qf_loadB tabOk rfl rfl rfl (by repeat first | exact .head _ | refine .tail _ ?_) (by rfl) ?_; refine qf_pure tabOk rfl rfl rfl ?_; refine qf_loadB tabOk rfl rfl rfl (by repeat first | exact .head _ | refine .tail _ ?_) (by rfl) ?_)
          refine qf_index tabOk rfl rfl rfl rfl rfl (by omega) (by omega) ?_
          ((iterate 2 refine qf_pure tabOk rfl rfl rfl ?_))
          refine qf_load1 (v := .int .i64 x.days[D].m1) tabOk rfl rfl rfl (fun w hs => day_cell2 (days_rd (x := x) hs (by repeat first | exact .head _ | refine .tail _ ?_)) D hD 2 1 (by decide)) ?_
          (refine qf_pure tabOk rfl rfl rfl ?_; refine qf_ar tabOk rfl rfl rfl rfl (by omega) (by omega) ?_)
          refine qf_callv tabOk rfl rfl rfl rfl (fun w hs => spanM_ca _ _ w) ?_
          (refine qf_nil ?_)
          refine hK1 _ _ [.pt g3 (dyC (x.days.set D x.days[D]) ++ sp2) 73] (by repeat (first | exact Sp.nil | exact Sp.refl _ | refine Sp.cons (by repeat constructor) ?_)) ?_
          skip
          refine qf_index tabOk rfl rfl rfl rfl rfl (by omega) (by omega) ?_
          (refine qf_pure tabOk rfl rfl rfl ?_)
          refine qf_stA (dyC (x.days.set D { x.days[D] with m0 := x.days[D].m0 + nn, m1 := x.days[D].m1 + nn }) ++ sp2) tabOk rfl rfl rfl rfl rfl (by repeat constructor) (by rw [show 0 + (D : Int).toNat * 6 + 2 = D * 6 + 2 by simp]; exact dyC_setM x.days sp2 D hD x.days[D] _ _) (Nat.ble_eq_true_of_le (by rw [List.length_append, dyC_length, List.length_set]; simp; omega)) ?_
          (refine qf_nil ?_; refine q_seq ?_; refine q_region ?_; (iterate 2 refine ql_loadAB tabOk rfl rfl rfl (by repeat first | exact .head _ | refine .tail _ ?_) (by rfl) (by rfl) ?_))
          refine ql_callv (val := .tuple #[.int .i64 0, .int .i64 8]) tabOk rfl rfl rfl rfl (fun w hs => ?_) ?_; exact by have := proves_caN w 0 w.heap.size (putD x D { x.days[D] with m0 := x.days[D].m0 + nn, m1 := x.days[D].m1 + nn }) (some ⟨g3, 0, none⟩) rc x.days.length f D (dyB_rd (g := g3) (l := x.days.set D { x.days[D] with m0 := x.days[D].m0 + nn, m1 := x.days[D].m1 + nn }) (sp := sp2) hs (by repeat first | exact .head _ | refine .tail _ ?_)) (by simp [putD]; omega) (by simp [putD]); rw [hmore] at this; exact this
          (refine ql_pure tabOk rfl rfl ?_; (iterate 2 refine ql_ext tabOk rfl rfl rfl ?_); (iterate 2 refine ql_pure tabOk rfl rfl ?_); refine q_nil ?_; refine q_seq ?_; refine q_region ?_; refine ql_pure tabOk rfl rfl ?_; refine ql_neqF tabOk rfl rfl rfl (by omega) ?_; refine q_nil ?_; refine q_cond_false rfl ?_; refine q_skip ?_; (iterate 2 refine q_blk ?_); refine q_region ?_; refine ql_ar tabOk rfl rfl rfl rfl (by omega) (by omega) ?_; refine ql_pure tabOk rfl rfl ?_; refine q_nil ?_)
          exact hK (k + 1) _ _ (by omega) (by omega) ⟨rfl, rfl, rfl, rfl, rfl, trivial⟩ (by repeat (first | exact Sp.nil | exact Sp.refl _ | refine Sp.cons (by repeat constructor) ?_))
        · (refine q_skip ?_; (iterate 2 refine q_blk ?_); refine q_region ?_; refine ql_ar tabOk rfl rfl rfl rfl (by omega) (by omega) ?_; refine ql_pure tabOk rfl rfl ?_; refine q_nil ?_)
          exact hK (k + 1) _ _ (by omega) (by omega) ⟨rfl, rfl, rfl, rfl, rfl, trivial⟩ (by repeat (first | exact Sp.nil | exact Sp.refl _ | refine Sp.cons (by repeat constructor) ?_))
      · rw [h] at hun
        exact absurd (hun.1 rfl) (by omega)
      · rw [h]
        dsimp only
        (refine ql_pure tabOk rfl rfl ?_; (iterate 2 refine ql_ext tabOk rfl rfl rfl ?_); (iterate 2 refine ql_pure tabOk rfl rfl ?_); refine q_nil ?_; refine q_block ?_; refine q_seq ?_; refine q_region ?_; refine ql_pure tabOk rfl rfl ?_; refine ql_loadB tabOk rfl rfl rfl (by repeat first | exact .head _ | refine .tail _ ?_) (by rfl) ?_; refine ql_pure tabOk rfl rfl ?_; refine ql_loadB tabOk rfl rfl rfl (by repeat first | exact .head _ | refine .tail _ ?_) (by rfl) ?_; refine ql_gtrF tabOk rfl rfl rfl (by omega) ?_; refine ql_pure tabOk rfl rfl ?_; refine q_nil ?_; refine q_cond_false rfl ?_; refine q_seq ?_; refine q_region ?_; refine ql_pure tabOk rfl rfl ?_; refine ql_eqlF tabOk rfl rfl rfl (by omega) ?_; refine ql_pure tabOk rfl rfl ?_; refine q_nil ?_; refine q_cond_false rfl ?_; refine q_seq ?_; refine q_region ?_; refine ql_pure tabOk rfl rfl ?_; refine ql_neqF tabOk rfl rfl rfl (by omega) ?_; refine ql_pure tabOk rfl rfl ?_; refine q_nil ?_; refine q_cond_false rfl ?_; refine q_skip ?_; (iterate 2 refine q_blk ?_); refine q_region ?_; refine ql_ar tabOk rfl rfl rfl rfl (by omega) (by omega) ?_; refine ql_pure tabOk rfl rfl ?_; refine q_nil ?_)
        exact hK (k + 1) _ _ (by omega) (by omega) ⟨rfl, rfl, rfl, rfl, rfl, trivial⟩ (by repeat (first | exact Sp.nil | exact Sp.refl _ | refine Sp.cons (by repeat constructor) ?_))
  · (refine q_exit _ rfl ?_; refine q_seq ?_; refine q_region ?_)
    refine ql_callv (val := .bool true) tabOk rfl rfl rfl rfl (fun w hs => ?_) ?_; exact awake_ca w
    (refine ql_pure tabOk rfl rfl ?_; refine q_nil ?_; refine q_ret ?_)
    refine q_fin tabOk rfl (by repeat (first | exact RVs.nil | apply RVs.tmp rfl | apply RVs.cellA rfl rfl (by repeat first | exact .head _ | refine .tail _ ?_) (by rfl) | apply RVs.cell1 rfl rfl (by repeat first | exact .head _ | refine .tail _ ?_))) fun w hs => ?_
    exact ⟨rfl, hs.chg0⟩
end Go.Proofs.Ytgeajgmefokifaa
