/- My texts K24, K25, K1, K26, K27, L0, E0, E16, E17, E18, E19, C2, E20, E21, E22, E1, E2, E3, E4, E5, L7, E6, E7, E8, E9, E10, E11, W5, E12, E13, E14, E15, E23, E24, joined: a claim takes at most 60 files. -/
import Derived.Test.YtgeajgmefokifaaJ3

/- Walks: the examples; awake. -/
namespace Go.Proofs.Ytgeajgmefokifaa
open Go Go.Eng

theorem Blk.rdS {w : World} {b : Nat} {l : List (Int × Int)} {cs : List Value} {t : TypeId} {c : Nat} (h : Blk w b cs t) (hc : cs = spC l) : RdS w 0 w.heap.size (.slice (some ⟨b, 0, none⟩) l.length c) l := by
  subst hc
  exact RdS.of ⟨spC_length l, .inr ⟨b, 0, c, rfl, fun _ => ⟨Nat.zero_le _, h.lt, h.lt⟩, fun j _ => by rw [Blk.cell h]; simp⟩⟩
theorem Blk.rdL {w : World} {b : Nat} {l : List Lp} {cs : List Value} {t : TypeId} {c : Nat} (h : Blk w b cs t) (hc : cs = lpC l) : RdL w 0 w.heap.size (.slice (some ⟨b, 0, none⟩) l.length c) l := by
  subst hc
  exact RdL.of ⟨lpC_length l, .inr ⟨b, 0, c, rfl, fun _ => ⟨Nat.zero_le _, h.lt, h.lt⟩, fun j _ => by rw [Blk.cell h]; simp⟩⟩
theorem Blk.rdD {w : World} {b : Nat} {l : List Dy} {cs : List Value} {t : TypeId} {c : Nat} (h : Blk w b cs t) (hc : cs = dyC l) : RdD w 0 w.heap.size (.slice (some ⟨b, 0, none⟩) l.length c) l := by
  subst hc
  exact RdD.of ⟨dyC_length l, .inr ⟨b, 0, c, rfl, fun _ => ⟨Nat.zero_le _, h.lt, h.lt⟩, fun j _ => by rw [Blk.cell h]; simp⟩⟩
theorem RdII.of {w : World} {lo hi : Nat} {v : Value} {ll : List (List Int)} {vs : List Value} (h : Rd w lo hi v 1 vs.length vs) (h1 : vs.length = ll.length) (h2 : ∀ i (h : i < vs.length) (h' : i < ll.length), RdI w lo hi vs[i] ll[i]) (h3 : ∀ e ∈ vs, oneV e = true) : RdII w lo hi v ll :=
  ⟨vs, RdE.one h h3, h1, h2⟩
theorem spanM_ca (a b : Int) (w : World) : Ca Try.prog 42 [.int .i64 a, .int .i64 b] w fun v w' => v = .agg #[.int .i64 a, .int .i64 b] ∧ Chg [] w w' := by
  refine q_of (Sat.nil w M0) Try.func42 rfl (by simp [Try.ntmps42]) ?_
  (refine q_seq ?_; refine q_region ?_)
  refine ql_alloc zero24 rfl (fun b2 => ?_)
  (refine q_nil ?_; refine q_seq ?_; refine q_region ?_; (iterate 2 refine ql_pure tabOk rfl rfl ?_))
  refine ql_mk #[.int .i64 a, .int .i64 b] rfl (by kernel_rfl) rfl ?_
  (refine ql_setA tabOk rfl rfl rfl rfl rfl (by repeat constructor) rfl ?_; refine q_nil ?_; refine q_ret ?_)
  refine q_fin tabOk rfl (by repeat (first | exact RVs.nil | apply RVs.tmp rfl | apply RVs.cellA rfl rfl (by repeat first | exact .head _ | refine .tail _ ?_) (by rfl) | apply RVs.cell1 rfl rfl (by repeat first | exact .head _ | refine .tail _ ?_))) fun w hs => ?_
  exact ⟨rfl, hs.chg0⟩
def threeS : List Lp := [⟨2000, 60, 6⟩, ⟨2500, 90, 6⟩, ⟨3000, 100, 6⟩]
def threeR : Rl := ⟨3, 7000, 7500, 200, 270, 2000, 3000, 6, 2⟩
def threeQ : Rl := ⟨3, 7000, 7000, 200, 270, 2000, 3000, 6, 1⟩
def shortW (n : Int) : Wn := ⟨500, 800, [⟨300, 300, 100, 200, 10, 20⟩, ⟨200, 400, 300, 600, 10, 20⟩, ⟨min n 500, n, 0, 100, 10, 20⟩]⟩
theorem three_ca (w : World) : Ca Try.prog 86 [] w fun v w' => ∃ b : Nat, v = .tuple #[.slice (some ⟨b, 0, none⟩) 3 3, .agg (rlC threeR).toArray] ∧ Sat w M0 [.pt b (lpC threeS) 31] w' := by
  refine q_of (Sat.nil w M0) Try.func86 rfl (by simp [Try.ntmps86]) ?_
  (refine q_seq ?_; refine q_region ?_; refine ql_pure tabOk rfl rfl ?_)
  refine ql_alloc zero26 rfl (fun b1 => ?_)
  (refine q_nil ?_; refine q_seq ?_; refine q_region ?_)
  refine ql_mk #[.int .i64 2000, .int .i64 60, .int .i64 6] rfl (by kernel_rfl) rfl ?_
  refine ql_mk #[.int .i64 2500, .int .i64 90, .int .i64 6] rfl (by kernel_rfl) rfl ?_
  refine ql_mk #[.int .i64 3000, .int .i64 100, .int .i64 6] rfl (by kernel_rfl) rfl ?_
  refine ql_mkS 31 (lpC threeS) rfl (by kernel_rfl) rfl (fun bn => ?_)
  refine ql_callv tabOk rfl rfl rfl rfl (fun w hs => spanM_ca _ _ w) ?_
  refine ql_callv tabOk rfl rfl rfl rfl (fun w hs => spanM_ca _ _ w) ?_
  refine ql_callv tabOk rfl rfl rfl rfl (fun w hs => spanM_ca _ _ w) ?_
  refine ql_mk #[.int .i64 3, .int .i64 7000, .int .i64 7500, .int .i64 200, .int .i64 270, .int .i64 2000, .int .i64 3000, .int .i64 6, .int .i64 2] rfl (by kernel_rfl) rfl ?_
  (refine ql_pure tabOk rfl rfl ?_; refine ql_setA tabOk rfl rfl rfl rfl rfl (by repeat constructor) rfl ?_; refine q_nil ?_; refine q_ret ?_)
  refine q_fin tabOk rfl (by repeat (first | exact RVs.nil | apply RVs.tmp rfl | apply RVs.cellA rfl rfl (by repeat first | exact .head _ | refine .tail _ ?_) (by rfl) | apply RVs.cell1 rfl rfl (by repeat first | exact .head _ | refine .tail _ ?_))) fun w hs => ?_
  exact ⟨bn, rfl, hs.sp (by repeat (first | exact Sp.nil | exact Sp.refl _ | refine Sp.cons (by repeat constructor) ?_))⟩
theorem short_ca (w : World) (n : Int) : Ca Try.prog 87 [.int .i64 n] w fun v w' => ∃ b : Nat, v = .agg #[.int .i64 500, .int .i64 800, .slice (some ⟨b, 0, none⟩) 3 3] ∧ Sat w M0 [.pt b (dyC (shortW n).days) 73] w' := by
  refine q_of (Sat.nil w M0) Try.func87 rfl (by simp [Try.ntmps87]) ?_
  (refine q_seq ?_; refine q_region ?_)
  refine ql_alloc zero61 rfl (fun b2 => ?_)
  (refine q_nil ?_; refine q_seq ?_; refine q_region ?_)
  refine ql_callv tabOk rfl rfl rfl rfl (fun w hs => spanM_ca _ _ w) ?_
  refine ql_callv tabOk rfl rfl rfl rfl (fun w hs => spanM_ca _ _ w) ?_
  refine ql_callv tabOk rfl rfl rfl rfl (fun w hs => spanM_ca _ _ w) ?_
  refine ql_mk #[.int .i64 300, .int .i64 300, .int .i64 100, .int .i64 200, .int .i64 10, .int .i64 20] rfl (by kernel_rfl) rfl ?_
  refine ql_callv tabOk rfl rfl rfl rfl (fun w hs => spanM_ca _ _ w) ?_
  refine ql_callv tabOk rfl rfl rfl rfl (fun w hs => spanM_ca _ _ w) ?_
  refine ql_callv tabOk rfl rfl rfl rfl (fun w hs => spanM_ca _ _ w) ?_
  refine ql_mk #[.int .i64 200, .int .i64 400, .int .i64 300, .int .i64 600, .int .i64 10, .int .i64 20] rfl (by kernel_rfl) rfl ?_
  ((iterate 3 refine ql_pure tabOk rfl rfl ?_))
  refine ql_callv tabOk rfl rfl rfl rfl (fun w hs => spanM_ca _ _ w) ?_
  refine ql_callv tabOk rfl rfl rfl rfl (fun w hs => spanM_ca _ _ w) ?_
  refine ql_callv tabOk rfl rfl rfl rfl (fun w hs => spanM_ca _ _ w) ?_
  refine ql_mk #[.int .i64 (min n 500), .int .i64 n, .int .i64 0, .int .i64 100, .int .i64 10, .int .i64 20] rfl (by kernel_rfl) rfl ?_
  refine ql_mkS 73 (dyC (shortW n).days) rfl (by kernel_rfl) rfl (fun bn => ?_)
  refine ql_mk #[.int .i64 500, .int .i64 800, .slice (some ⟨bn, 0, none⟩) 3 3] rfl (by kernel_rfl) rfl ?_
  (refine ql_setA tabOk rfl rfl rfl rfl rfl (by repeat constructor) rfl ?_; refine q_nil ?_; refine q_ret ?_)
  refine q_fin tabOk rfl (by repeat (first | exact RVs.nil | apply RVs.tmp rfl | apply RVs.cellA rfl rfl (by repeat first | exact .head _ | refine .tail _ ?_) (by rfl) | apply RVs.cell1 rfl rfl (by repeat first | exact .head _ | refine .tail _ ?_))) fun w hs => ?_
  exact ⟨bn, rfl, hs.sp (by repeat (first | exact Sp.nil | exact Sp.refl _ | refine Sp.cons (by repeat constructor) ?_))⟩
theorem aw_all : allC threeS threeR = [[0, 0, 2], [0, 1, 1], [0, 1, 2]] := by decide +kernel
theorem aw_cr : CR threeS threeR := checkS_iff.1 (by decide +kernel)
theorem aw_cr2 : CR threeS threeQ := checkS_iff.1 (by decide +kernel)
theorem aw_brk : (brokenV threeS threeR [1, 1, 1]).2 = 0 := by decide +kernel
theorem aw_brk2 : brkL threeS threeR [1, 1, 1] = [4] := by decide +kernel
theorem aw_cheap : cheapO threeS threeR 40 (coursesL threeS.length (nL threeR)) = some [0, 1, 1] := by decide +kernel
theorem aw_snow : snowV threeS [0, 1, 1] 40 = 10800 := by decide +kernel
theorem aw_yield : yieldO threeS threeQ (coursesL threeS.length (nL threeQ)) = some [0, 1, 2] := by decide +kernel
theorem aw_yield2 : brkL threeS threeQ [0, 1, 2] = [0] := by decide +kernel
theorem aw_first : firstV (shortW 500) = (2, 0) := by decide +kernel
theorem aw_proves : provesV (shortW 500) (-1) 2 = (360, 0) := by decide +kernel
theorem aw_ranges : rangesV (shortW 500) = [(280, 390), (160, 600)] := by decide +kernel
theorem aw_right : (shortW 500).Right := checkW_iff.1 (by decide +kernel)
theorem aw_least : leastV (shortW 100) = (460, 0) := by decide +kernel
theorem aw_room : roomV (shortW 100) = (540, 0) := by decide +kernel
end Go.Proofs.Ytgeajgmefokifaa

/- Walks: awake. -/
namespace Go.Proofs.Ytgeajgmefokifaa
open Go Go.Eng

theorem blk_II {w : World} {c1 c2 c3 c4 : Nat} {t1 t2 t3 t4 : TypeId} {l1 l2 l3 : List Int} (h1 : Blk w c1 (ints l1) t1) (h2 : Blk w c2 (ints l2) t2) (h3 : Blk w c3 (ints l3) t3)
    (h4 : Blk w c4 [.slice (some ⟨c1, 0, none⟩) l1.length l1.length, .slice (some ⟨c2, 0, none⟩) l2.length l2.length, .slice (some ⟨c3, 0, none⟩) l3.length l3.length] t4) : RdII w 0 w.heap.size (.slice (some ⟨c4, 0, none⟩) 3 3) [l1, l2, l3] := by
  refine RdII.of (vs := [.slice (some ⟨c1, 0, none⟩) l1.length l1.length, .slice (some ⟨c2, 0, none⟩) l2.length l2.length, .slice (some ⟨c3, 0, none⟩) l3.length l3.length]) ((Blk.rd h4 (by simp [oneV]) 3).wide (Nat.zero_le _) h4.lt) rfl (fun i hi hi' => ?_) (by simp [oneV])
  obtain rfl | rfl | rfl : i = 0 ∨ i = 1 ∨ i = 2 := by simp at hi; omega
  · exact Blk.rdI h1
  · exact Blk.rdI h2
  · exact Blk.rdI h3

theorem lsK_rd {w0 w : World} {M : Nat → Prop} {H : List Ck} {v : Value} {xs : List (Value × List Int)} (h : Sat w0 M H w) (h1 : Ck.ow v 27 1 xs.length (xs.map (·.1)) ∈ H) (h2 : un (rowsO 3 xs) ∈ H) : RdII w 0 w.heap.size v (xs.map (·.2)) :=
  rowsO_rd (h.mem h2) (h.mem h1)
set_option maxHeartbeats 4000000 in
set_option maxRecDepth 4000 in
theorem awake_ca (w : World) : Ca Try.prog 18 [] w fun v w' => v = .bool true ∧ Chg [] w w' := by
  refine q_of (Sat.nil w M0) Try.func18 rfl (by simp [Try.ntmps18]) ?_
  (refine q_seq ?_; refine q_region ?_; refine ql_pure tabOk rfl rfl ?_; refine q_nil ?_; refine q_seq ?_; refine q_region ?_)
  refine ql_call (β := Nat) tabOk [] _ M0 rfl rfl rfl rfl (Sp.refl _) (fun _ h => h.elim) (fun w' hs => three_ca w') ?_
  rintro bs _ rfl
  (refine ql_pure tabOk rfl rfl ?_; (iterate 2 refine ql_ext tabOk rfl rfl rfl ?_))
  refine ql_alloc zero26 rfl (fun b2 => ?_)
  (refine ql_pure tabOk rfl rfl ?_; refine ql_setA tabOk rfl rfl rfl rfl rfl (by repeat constructor) rfl ?_; refine q_nil ?_; refine q_seq ?_; refine q_region ?_; refine ql_pure tabOk rfl rfl ?_; refine ql_loadAB tabOk rfl rfl rfl (by repeat first | exact .head _ | refine .tail _ ?_) (by rfl) (by rfl) ?_)
  have hS : ∀ w', Blk w' bs (lpC threeS) 31 → RdL w' 0 w'.heap.size (.slice (some ⟨bs, 0, none⟩) threeS.length 3) threeS := fun w' hb => Blk.rdL hb rfl
  refine ql_call (β := Value × List (Value × List Int)) (ψ := fun y x => x = .tuple #[y.1, .int .i64 0] ∧ y.2.map (·.2) = allC threeS threeR) tabOk [] _ M0 rfl rfl rfl rfl (Sp.refl _) (fun _ h => h.elim) (fun w' hs => all_ok w' 0 w'.heap.size (some ⟨bs, 0, none⟩) 3 threeS threeR (hS w' (hs.blk (by repeat first | exact .head _ | refine .tail _ ?_))) aw_cr (by rw [aw_all]; decide)) ?_
  rintro ⟨va, xs⟩ _ ⟨rfl, hxs⟩
  rw [aw_all] at hxs
  dsimp only at hxs
  dsimp only [lsK, List.cons_append, List.nil_append]
  refine ql_fact (fun w hs => hs.slice (v := va) (by repeat first | exact .head _ | refine .tail _ ?_)) ?_
  rintro ⟨va1, va2, va3, rfl⟩
  (refine ql_pure tabOk rfl rfl ?_; (iterate 2 refine ql_ext tabOk rfl rfl rfl ?_); (iterate 2 refine ql_pure tabOk rfl rfl ?_); refine q_nil ?_; refine q_seq ?_; refine q_region ?_; refine ql_pure tabOk rfl rfl ?_; refine ql_loadAB tabOk rfl rfl rfl (by repeat first | exact .head _ | refine .tail _ ?_) (by rfl) (by rfl) ?_)
  refine ql_mkS 3 (ints [1, 1, 1]) rfl (by kernel_rfl) rfl (fun b3 => ?_)
  refine ql_call (β := Value) tabOk [] _ M0 rfl rfl rfl rfl (Sp.refl _) (fun _ h => h.elim) (fun w' hs => brok_ok w' 0 w'.heap.size 0 w'.heap.size (some ⟨bs, 0, none⟩) 3 _ threeS threeR [1, 1, 1] (hS w' (hs.blk (by repeat first | exact .head _ | refine .tail _ ?_))) (by decide) (Blk.rdI (l := [1, 1, 1]) (c := 3) (hs.blk (b := b3) (by repeat first | exact .head _ | refine .tail _ ?_))) (by decide) aw_brk) ?_
  rintro vb _ rfl
  rw [aw_brk2]
  dsimp only [List.cons_append, List.nil_append]
  refine ql_fact (fun w hs => hs.slice (v := vb) (by repeat first | exact .head _ | refine .tail _ ?_)) ?_
  rintro ⟨vb1, vb2, vb3, rfl⟩
  (refine ql_pure tabOk rfl rfl ?_; (iterate 2 refine ql_ext tabOk rfl rfl rfl ?_); (iterate 2 refine ql_pure tabOk rfl rfl ?_); refine q_nil ?_; refine q_seq ?_; refine q_region ?_; refine ql_pure tabOk rfl rfl ?_; refine ql_loadAB tabOk rfl rfl rfl (by repeat first | exact .head _ | refine .tail _ ?_) (by rfl) (by rfl) ?_)
  refine ql_call (β := Value) tabOk [] _ M0 rfl rfl rfl rfl (Sp.refl _) (fun _ h => h.elim) (fun w' hs => cheap_ok w' 0 w'.heap.size (some ⟨bs, 0, none⟩) 3 threeS threeR 40 [0, 1, 1] (hS w' (hs.blk (by repeat first | exact .head _ | refine .tail _ ?_))) aw_cr (by decide) aw_cheap) ?_
  rintro vc _ rfl
  rw [aw_snow]
  dsimp only [List.cons_append, List.nil_append]
  refine ql_fact (fun w hs => hs.slice (v := vc) (by repeat first | exact .head _ | refine .tail _ ?_)) ?_
  rintro ⟨vc1, vc2, vc3, rfl⟩
  (refine ql_pure tabOk rfl rfl ?_; (iterate 3 refine ql_ext tabOk rfl rfl rfl ?_); (iterate 3 refine ql_pure tabOk rfl rfl ?_); refine q_nil ?_; (iterate 2 refine q_seq ?_); refine q_region ?_; refine ql_pure tabOk rfl rfl ?_; refine ql_neqF tabOk rfl rfl rfl (by omega) ?_; refine ql_pure tabOk rfl rfl ?_; refine ql_gyes rfl ?_; refine ql_pure tabOk rfl rfl ?_; refine ql_gyes rfl ?_; refine ql_neqF tabOk rfl rfl rfl (by omega) ?_; (iterate 2 refine ql_pure tabOk rfl rfl ?_); refine ql_gyes rfl ?_; refine ql_pure tabOk rfl rfl ?_; refine ql_gyes rfl ?_; refine ql_neqF tabOk rfl rfl rfl (by omega) ?_; (iterate 2 refine ql_pure tabOk rfl rfl ?_); refine ql_gyes rfl ?_; refine ql_pure tabOk rfl rfl ?_; refine ql_gyes rfl ?_)
  refine ql_mkS 3 (ints [0, 0, 2]) rfl (by kernel_rfl) rfl (fun c1 => ?_)
  refine ql_gyes rfl ?_
  refine ql_mkS 3 (ints [0, 1, 1]) rfl (by kernel_rfl) rfl (fun c2 => ?_)
  refine ql_gyes rfl ?_
  refine ql_mkS 3 (ints [0, 1, 2]) rfl (by kernel_rfl) rfl (fun c3 => ?_)
  refine ql_gyes rfl ?_
  refine ql_mkS 27 [.slice (some ⟨c1, 0, none⟩) 3 3, .slice (some ⟨c2, 0, none⟩) 3 3, .slice (some ⟨c3, 0, none⟩) 3 3] rfl (by kernel_rfl) rfl (fun c4 => ?_)
  (refine ql_gyes rfl ?_)
  refine ql_callv (val := .bool true) tabOk rfl rfl rfl rfl (fun w hs => ?_) ?_; exact eqII_ca w 0 w.heap.size 0 w.heap.size _ _ [[0, 0, 2], [0, 1, 1], [0, 1, 2]] (hxs ▸ lsK_rd (v := .slice va1 va2 va3) (xs := xs) hs (by repeat first | exact .head _ | refine .tail _ ?_) (by repeat first | exact .head _ | refine .tail _ ?_)) (blk_II (l1 := [0, 0, 2]) (l2 := [0, 1, 1]) (l3 := [0, 1, 2]) (hs.blk (b := c1) (by repeat first | exact .head _ | refine .tail _ ?_)) (hs.blk (b := c2) (by repeat first | exact .head _ | refine .tail _ ?_)) (hs.blk (b := c3) (by repeat first | exact .head _ | refine .tail _ ?_)) (hs.blk (b := c4) (by repeat first | exact .head _ | refine .tail _ ?_))) (by decide) (by decide)
  (refine ql_gyes rfl ?_; (iterate 3 refine ql_pure tabOk rfl rfl ?_); refine ql_gyes rfl ?_; refine ql_pure tabOk rfl rfl ?_; refine ql_gyes rfl ?_)
  refine ql_mkS 88 (ints [4]) rfl (by kernel_rfl) rfl (fun c5 => ?_)
  refine ql_gyes rfl ?_
  refine ql_callv (val := .bool true) tabOk rfl rfl rfl rfl (fun w hs => ?_) ?_; exact eqR_ca w 0 w.heap.size 0 w.heap.size _ _ [4] (hs.rdI (v := .slice vb1 vb2 vb3) (l := [4]) (by repeat first | exact .head _ | refine .tail _ ?_) rfl) (Blk.rdI (l := [4]) (c := 1) (hs.blk (b := c5) (by repeat first | exact .head _ | refine .tail _ ?_))) (by decide)
  (refine ql_gyes rfl ?_; (iterate 3 refine ql_pure tabOk rfl rfl ?_); refine ql_gyes rfl ?_; refine ql_pure tabOk rfl rfl ?_; refine ql_gyes rfl ?_)
  refine ql_mkS 3 (ints [0, 1, 1]) rfl (by kernel_rfl) rfl (fun c6 => ?_)
  refine ql_gyes rfl ?_
  refine ql_callv (val := .bool true) tabOk rfl rfl rfl rfl (fun w hs => ?_) ?_; exact eqI_ca w 0 w.heap.size 0 w.heap.size _ _ [0, 1, 1] (hs.rdI (v := .slice vc1 vc2 vc3) (l := [0, 1, 1]) (by repeat first | exact .head _ | refine .tail _ ?_) rfl) (Blk.rdI (l := [0, 1, 1]) (c := 3) (hs.blk (b := c6) (by repeat first | exact .head _ | refine .tail _ ?_))) (by decide)
  (refine ql_gyes rfl ?_; (iterate 3 refine ql_pure tabOk rfl rfl ?_); refine ql_gyes rfl ?_; refine ql_pure tabOk rfl rfl ?_; refine ql_gyes rfl ?_; refine ql_neqF tabOk rfl rfl rfl (by omega) ?_; refine ql_pure tabOk rfl rfl ?_; refine q_nil ?_; refine q_cond_false rfl ?_; refine q_skip ?_; refine q_seq ?_; refine q_region ?_)
  refine ql_callv tabOk rfl rfl rfl rfl (fun w hs => spanM_ca _ _ w) ?_
  (refine ql_pure tabOk rfl rfl ?_; refine ql_st8 tabOk rfl rfl rfl rfl (by repeat constructor) ?_; refine ql_pure tabOk rfl rfl ?_)
  refine ql_stA (rlC threeQ) tabOk rfl rfl rfl rfl rfl (by repeat constructor) rfl rfl ?_
  (refine q_nil ?_; refine q_seq ?_; refine q_region ?_; refine ql_pure tabOk rfl rfl ?_; refine ql_loadAB tabOk rfl rfl rfl (by repeat first | exact .head _ | refine .tail _ ?_) (by rfl) (by rfl) ?_)
  refine ql_call (β := Value × Value) tabOk [] _ M0 rfl rfl rfl rfl (Sp.refl _) (fun _ h => h.elim) (fun w' hs => yield_ok w' 0 w'.heap.size (some ⟨bs, 0, none⟩) 3 threeS threeQ [0, 1, 2] (hS w' (hs.blk (by repeat first | exact .head _ | refine .tail _ ?_))) aw_cr2 aw_yield) ?_
  rintro ⟨vy, vz⟩ _ rfl
  rw [aw_yield2]
  dsimp only [List.cons_append, List.nil_append]
  refine ql_fact (fun w hs => hs.slice (v := vy) (by repeat first | exact .head _ | refine .tail _ ?_)) ?_
  rintro ⟨vy1, vy2, vy3, rfl⟩
  refine ql_fact (fun w hs => hs.slice (v := vz) (by repeat first | exact .head _ | refine .tail _ ?_)) ?_
  rintro ⟨vz1, vz2, vz3, rfl⟩
  (refine ql_pure tabOk rfl rfl ?_; (iterate 3 refine ql_ext tabOk rfl rfl rfl ?_); (iterate 3 refine ql_pure tabOk rfl rfl ?_); refine q_nil ?_; refine q_seq ?_; refine q_region ?_)
  have hD : ∀ n w' b, Blk w' b (dyC (shortW n).days) 73 → RdD w' 0 w'.heap.size (.slice (some ⟨b, 0, none⟩) (shortW n).days.length 3) (shortW n).days := fun n w' b hb => Blk.rdD hb rfl
  refine ql_call (β := Nat) tabOk [] _ M0 rfl rfl rfl rfl (Sp.refl _) (fun _ h => h.elim) (fun w' hs => short_ca w' 500) ?_
  rintro d1 _ rfl
  refine ql_callv (val := .tuple #[.int .i64 2, .int .i64 0]) tabOk rfl rfl rfl rfl (fun w hs => ?_) ?_; exact by have := first_ca w 0 w.heap.size (shortW 500) (some ⟨d1, 0, none⟩) 3 (hD 500 w d1 (hs.blk (by repeat first | exact .head _ | refine .tail _ ?_))) (by decide); rw [aw_first] at this; exact this
  (refine ql_pure tabOk rfl rfl ?_; (iterate 2 refine ql_ext tabOk rfl rfl rfl ?_); (iterate 2 refine ql_pure tabOk rfl rfl ?_); refine q_nil ?_; refine q_seq ?_; refine q_region ?_)
  refine ql_call (β := Nat) tabOk [] _ M0 rfl rfl rfl rfl (Sp.refl _) (fun _ h => h.elim) (fun w' hs => short_ca w' 500) ?_
  rintro d2 _ rfl
  refine ql_mk #[.int .i64 (-1), .int .i64 2] rfl (by kernel_rfl) rfl ?_
  refine ql_callv (val := .tuple #[.int .i64 360, .int .i64 0]) tabOk rfl rfl rfl rfl (fun w hs => ?_) ?_; exact by have := proves_ca w 0 w.heap.size (shortW 500) (some ⟨d2, 0, none⟩) 3 (-1) 2 (hD 500 w d2 (hs.blk (by repeat first | exact .head _ | refine .tail _ ?_))) (by decide); rw [aw_proves] at this; exact this
  (refine ql_pure tabOk rfl rfl ?_; (iterate 2 refine ql_ext tabOk rfl rfl rfl ?_); (iterate 2 refine ql_pure tabOk rfl rfl ?_); refine q_nil ?_; refine q_seq ?_; refine q_region ?_)
  refine ql_call (β := Nat) tabOk [] _ M0 rfl rfl rfl rfl (Sp.refl _) (fun _ h => h.elim) (fun w' hs => short_ca w' 500) ?_
  rintro d3 _ rfl
  refine ql_call (β := Value) tabOk [] _ M0 rfl rfl rfl rfl (Sp.refl _) (fun _ h => h.elim) (fun w' hs => ranges_ok w' 0 w'.heap.size (shortW 500) (some ⟨d3, 0, none⟩) 3 (hD 500 w' d3 (hs.blk (by repeat first | exact .head _ | refine .tail _ ?_))) aw_right) ?_
  rintro vx _ rfl
  rw [aw_ranges]
  dsimp only [List.cons_append, List.nil_append]
  refine ql_fact (fun w hs => hs.slice (v := vx) (by repeat first | exact .head _ | refine .tail _ ?_)) ?_
  rintro ⟨vx1, vx2, vx3, rfl⟩
  (refine ql_pure tabOk rfl rfl ?_; (iterate 2 refine ql_ext tabOk rfl rfl rfl ?_); (iterate 2 refine ql_pure tabOk rfl rfl ?_); refine q_nil ?_; (iterate 2 refine q_seq ?_); refine q_region ?_; refine ql_pure tabOk rfl rfl ?_; refine ql_neqF tabOk rfl rfl rfl (by omega) ?_; refine ql_pure tabOk rfl rfl ?_; refine ql_gyes rfl ?_; refine ql_pure tabOk rfl rfl ?_; refine ql_gyes rfl ?_; refine ql_neqF tabOk rfl rfl rfl (by omega) ?_; (iterate 2 refine ql_pure tabOk rfl rfl ?_); refine ql_gyes rfl ?_; refine ql_pure tabOk rfl rfl ?_; refine ql_gyes rfl ?_; refine ql_neqF tabOk rfl rfl rfl (by omega) ?_; (iterate 2 refine ql_pure tabOk rfl rfl ?_); refine ql_gyes rfl ?_; refine ql_pure tabOk rfl rfl ?_; refine ql_gyes rfl ?_; refine ql_neqF tabOk rfl rfl rfl (by omega) ?_; (iterate 2 refine ql_pure tabOk rfl rfl ?_); refine ql_gyes rfl ?_; refine ql_pure tabOk rfl rfl ?_; refine ql_gyes rfl ?_)
  refine ql_mkS 88 (ints [0]) rfl (by kernel_rfl) rfl (fun c7 => ?_)
  refine ql_gyes rfl ?_
  refine ql_callv (val := .bool true) tabOk rfl rfl rfl rfl (fun w hs => ?_) ?_; exact eqR_ca w 0 w.heap.size 0 w.heap.size _ _ [0] (hs.rdI (v := .slice vy1 vy2 vy3) (l := [0]) (by repeat first | exact .head _ | refine .tail _ ?_) rfl) (Blk.rdI (l := [0]) (c := 1) (hs.blk (b := c7) (by repeat first | exact .head _ | refine .tail _ ?_))) (by decide)
  (refine ql_gyes rfl ?_; (iterate 3 refine ql_pure tabOk rfl rfl ?_); refine ql_gyes rfl ?_; refine ql_pure tabOk rfl rfl ?_; refine ql_gyes rfl ?_)
  refine ql_mkS 3 (ints [0, 1, 2]) rfl (by kernel_rfl) rfl (fun c8 => ?_)
  refine ql_gyes rfl ?_
  refine ql_callv (val := .bool true) tabOk rfl rfl rfl rfl (fun w hs => ?_) ?_; exact eqI_ca w 0 w.heap.size 0 w.heap.size _ _ [0, 1, 2] (hs.rdI (v := .slice vz1 vz2 vz3) (l := [0, 1, 2]) (by repeat first | exact .head _ | refine .tail _ ?_) rfl) (Blk.rdI (l := [0, 1, 2]) (c := 3) (hs.blk (b := c8) (by repeat first | exact .head _ | refine .tail _ ?_))) (by decide)
  (refine ql_gyes rfl ?_; (iterate 3 refine ql_pure tabOk rfl rfl ?_); refine ql_gyes rfl ?_; refine ql_pure tabOk rfl rfl ?_; refine ql_gyes rfl ?_; refine ql_neqF tabOk rfl rfl rfl (by omega) ?_; (iterate 2 refine ql_pure tabOk rfl rfl ?_); refine ql_gyes rfl ?_; refine ql_pure tabOk rfl rfl ?_; refine ql_gyes rfl ?_; refine ql_neqF tabOk rfl rfl rfl (by omega) ?_; (iterate 2 refine ql_pure tabOk rfl rfl ?_); refine ql_gyes rfl ?_; refine ql_pure tabOk rfl rfl ?_; refine ql_gyes rfl ?_)
  refine ql_mk #[.int .i64 280, .int .i64 390] rfl (by kernel_rfl) rfl ?_
  refine ql_gyes rfl ?_
  refine ql_mk #[.int .i64 160, .int .i64 600] rfl (by kernel_rfl) rfl ?_
  refine ql_gyes rfl ?_
  refine ql_mkS 24 (spC [(280, 390), (160, 600)]) rfl (by kernel_rfl) rfl (fun c9 => ?_)
  refine ql_gyes rfl ?_
  refine ql_callv (val := .bool true) tabOk rfl rfl rfl rfl (fun w hs => ?_) ?_; exact eqS_ca w 0 w.heap.size 0 w.heap.size _ _ [(280, 390), (160, 600)] (own_rdS (t := 24) (hs.mem (c := .ow (.slice vx1 vx2 vx3) 24 2 2 (spC [(280, 390), (160, 600)])) (by repeat first | exact .head _ | refine .tail _ ?_)) rfl) (Blk.rdS (l := [(280, 390), (160, 600)]) (c := 2) (hs.blk (b := c9) (by repeat first | exact .head _ | refine .tail _ ?_)) rfl) (by decide)
  (refine ql_gyes rfl ?_; (iterate 2 refine ql_pure tabOk rfl rfl ?_); refine q_nil ?_; refine q_cond_false rfl ?_; refine q_skip ?_; refine q_seq ?_; refine q_region ?_)
  refine ql_call (β := Nat) tabOk [] _ M0 rfl rfl rfl rfl (Sp.refl _) (fun _ h => h.elim) (fun w' hs => short_ca w' 100) ?_
  rintro d4 _ rfl
  refine ql_callv (val := .tuple #[.int .i64 460, .int .i64 0]) tabOk rfl rfl rfl rfl (fun w hs => ?_) ?_; exact by have := least_ca w 0 w.heap.size (shortW 100) (some ⟨d4, 0, none⟩) 3 (hD 100 w d4 (hs.blk (by repeat first | exact .head _ | refine .tail _ ?_))) (by decide); rw [aw_least] at this; exact this
  (refine ql_pure tabOk rfl rfl ?_; (iterate 2 refine ql_ext tabOk rfl rfl rfl ?_); (iterate 2 refine ql_pure tabOk rfl rfl ?_); refine q_nil ?_; refine q_seq ?_; refine q_region ?_)
  refine ql_call (β := Nat) tabOk [] _ M0 rfl rfl rfl rfl (Sp.refl _) (fun _ h => h.elim) (fun w' hs => short_ca w' 100) ?_
  rintro d5 _ rfl
  refine ql_callv (val := .tuple #[.int .i64 540, .int .i64 0]) tabOk rfl rfl rfl rfl (fun w hs => ?_) ?_; exact by have := room_ca w 0 w.heap.size (shortW 100) (some ⟨d5, 0, none⟩) 3 (hD 100 w d5 (hs.blk (by repeat first | exact .head _ | refine .tail _ ?_))) (by decide); rw [aw_room] at this; exact this
  (refine ql_pure tabOk rfl rfl ?_; (iterate 2 refine ql_ext tabOk rfl rfl rfl ?_); (iterate 2 refine ql_pure tabOk rfl rfl ?_); refine q_nil ?_; refine q_seq ?_; refine q_region ?_; refine ql_pure tabOk rfl rfl ?_; refine ql_eqlT tabOk rfl rfl rfl (by omega) ?_; refine ql_pure tabOk rfl rfl ?_; refine ql_gyes rfl ?_; refine ql_pure tabOk rfl rfl ?_; refine ql_gyes rfl ?_; refine ql_eqlT tabOk rfl rfl rfl (by omega) ?_; (iterate 2 refine ql_pure tabOk rfl rfl ?_); refine ql_gyes rfl ?_; refine ql_pure tabOk rfl rfl ?_; refine ql_gyes rfl ?_; refine ql_eqlT tabOk rfl rfl rfl (by omega) ?_; (iterate 2 refine ql_pure tabOk rfl rfl ?_); refine ql_gyes rfl ?_; refine ql_pure tabOk rfl rfl ?_; refine ql_gyes rfl ?_; refine ql_eqlT tabOk rfl rfl rfl (by omega) ?_; (iterate 2 refine ql_pure tabOk rfl rfl ?_); refine q_nil ?_; refine q_ret ?_)
  refine q_fin tabOk rfl (by repeat (first | exact RVs.nil | apply RVs.tmp rfl | apply RVs.cellA rfl rfl (by repeat first | exact .head _ | refine .tail _ ?_) (by rfl) | apply RVs.cell1 rfl rfl (by repeat first | exact .head _ | refine .tail _ ?_))) fun w hs => ?_
  exact ⟨rfl, hs.chg0⟩
end Go.Proofs.Ytgeajgmefokifaa

/- Walks: klisterkit's deck. Only the ranges of what it deals are told. -/
namespace Go.Proofs.Ytgeajgmefokifaa
open Go Go.Eng

section
attribute [local irreducible] IntKind.wrap Int.tmod Int.tdiv

/-- The deck's own variable, after at most K cards. -/
def DkS (w : World) (b : Nat) (bs : Value) (K : Nat) : Prop :=
  ∃ next st, Blk w b [bs, .int .i64 next, .int .u32 st] 165 ∧ 0 ≤ next ∧ next ≤ K ∧ 0 ≤ st ∧ st < 4294967296
/-- Its bytes. -/
def DkB (w : World) (lo hi : Nat) (bs : Value) : Prop := ∃ nb cs, Rd w lo hi bs 1 nb cs ∧ (∀ c ∈ cs, ∃ x, c = .int .u8 x ∧ 0 ≤ x ∧ x < 256)
theorem DkB.keep {w w' : World} {lo hi : Nat} {bs : Value} (h : DkB w lo hi bs) (c : Chg [] w w') : DkB w' lo hi bs := by
  obtain ⟨nb, cs, h1, h2⟩ := h
  exact ⟨nb, cs, h1.keep c, h2⟩

end
/-- A deck, after at most K cards. -/
def dkP (bs : Value) (b K : Nat) : Ck := .gn (fun x => x = b) (fun w => DkS w b bs K) (fun w w' N h hc hN => by
  obtain ⟨next, st, h1, h2⟩ := h
  exact ⟨next, st, (hc.block b h1.lt (hN b rfl)).trans h1, h2⟩)

theorem DkS.mono {w : World} {b K K' : Nat} {bs : Value} (h : DkS w b bs K) (hk : K ≤ K') : DkS w b bs K' := by
  obtain ⟨next, st, h1, h2, h3, h4⟩ := h
  exact ⟨next, st, h1, h2, by omega, h4⟩
section
variable {K b : Nat} {bs : Value} {w0 w : World} {R : List Ck}
end
end Go.Proofs.Ytgeajgmefokifaa

/- Walks: a winter is made of numbers. -/
namespace Go.Proofs.Ytgeajgmefokifaa
open Go Go.Eng

structure DayB (d : Dy) : Prop where
  n : 0 ≤ d.n0 ∧ d.n0 ≤ 29 ∧ d.n0 ≤ d.n1 ∧ d.n1 ≤ d.n0 + 11
  m : 0 ≤ d.m0 ∧ d.m0 ≤ 39 ∧ d.m0 ≤ d.m1 ∧ d.m1 ≤ d.m0 + 19
  l : 0 ≤ d.l0 ∧ d.l0 ≤ 5 ∧ d.l0 ≤ d.l1 ∧ d.l1 ≤ d.l0 + 3
/-- What MadeWinter makes. -/
structure WinB (days : Nat) (x : Wn) : Prop where
  store : 20 ≤ x.store ∧ x.store ≤ 200
  stock : 0 ≤ x.stock ∧ x.stock ≤ x.store
  d1 : 1 ≤ x.days.length
  d2 : x.days.length ≤ days
  days : ∀ d ∈ x.days, DayB d
theorem WinB.right {days : Nat} {x : Wn} (h : WinB days x) (hd : days ≤ 60) : x.Right := by
  have h1 := h.store
  have h2 := h.d2
  refine ⟨by omega, h.stock, h.d1, by omega, fun d hdm => ?_⟩
  have := h.days d hdm
  have a := this.n
  have b := this.m
  have c := this.l
  exact ⟨by omega, by omega, by omega⟩
/-- The spans made so far. -/
structure DayI (i : Nat) (d : Dy) : Prop where
  n : 1 ≤ i → 0 ≤ d.n0 ∧ d.n0 ≤ 29 ∧ d.n0 ≤ d.n1 ∧ d.n1 ≤ d.n0 + 11
  m : 2 ≤ i → 0 ≤ d.m0 ∧ d.m0 ≤ 39 ∧ d.m0 ≤ d.m1 ∧ d.m1 ≤ d.m0 + 19
  l : 3 ≤ i → 0 ≤ d.l0 ∧ d.l0 ≤ 5 ∧ d.l0 ≤ d.l1 ∧ d.l1 ≤ d.l0 + 3

end Go.Proofs.Ytgeajgmefokifaa

/- Walks: a weather is drawn. -/
namespace Go.Proofs.Ytgeajgmefokifaa
open Go Go.Eng

theorem getD_snoc (l : List Int) (x : Int) (i : Nat) : (l ++ [x]).getD i 0 = if i < l.length then l.getD i 0 else if i = l.length then x else 0 := by
  simp only [List.getD_eq_getElem?_getD, List.getElem?_append]
  by_cases h : i < l.length
  · simp [h]
  · rw [if_neg h, if_neg h]
    by_cases h2 : i = l.length
    · subst h2; simp
    · rw [if_neg h2, List.getElem?_eq_none (by simp; omega)]
      rfl
/-- A weather of the first days. -/
structure WtP (days : List Dy) (k : Nat) (t : Wt) : Prop where
  ln : t.need.length = k
  lm : t.make.length = k
  ll : t.loss.length = k
  n : ∀ i, i < k → ∀ (h : i < days.length), days[i].n0 ≤ t.need.getD i 0 ∧ t.need.getD i 0 ≤ days[i].n1
  m : ∀ i, i < k → ∀ (h : i < days.length), days[i].m0 ≤ t.make.getD i 0 ∧ t.make.getD i 0 ≤ days[i].m1
  l : ∀ i, i < k → ∀ (h : i < days.length), days[i].l0 ≤ t.loss.getD i 0 ∧ t.loss.getD i 0 ≤ days[i].l1
theorem WtP.step {days : List Dy} {k : Nat} {t : Wt} (h : WtP days k t) (hk : k < days.length) {x y z : Int} (hx : days[k].n0 ≤ x ∧ x ≤ days[k].n1) (hy : days[k].m0 ≤ y ∧ y ≤ days[k].m1) (hz : days[k].l0 ≤ z ∧ z ≤ days[k].l1) : WtP days (k + 1) ⟨t.need ++ [x], t.make ++ [y], t.loss ++ [z]⟩ := by
  refine ⟨by simp [h.ln], by simp [h.lm], by simp [h.ll], fun i hi hd => ?_, fun i hi hd => ?_, fun i hi hd => ?_⟩
  · rw [getD_snoc, h.ln]
    split
    · exact h.n i (by assumption) hd
    · obtain rfl : i = k := by omega
      simpa using hx
  · rw [getD_snoc, h.lm]
    split
    · exact h.m i (by assumption) hd
    · obtain rfl : i = k := by omega
      simpa using hy
  · rw [getD_snoc, h.ll]
    split
    · exact h.l i (by assumption) hd
    · obtain rfl : i = k := by omega
      simpa using hz
theorem WtP.in {x : Wn} {t : Wt} (h : WtP x.days x.days.length t) : t.In x := ⟨h.ln, h.lm, h.ll, fun i hi => h.n i hi hi, fun i hi => h.m i hi hi, fun i hi => h.l i hi hi⟩
/-- The deck, and the days. -/
abbrev drL (bs : Value) (b K g c : Nat) (l : List Dy) : List Ck := [dkP bs b K, .ow (.slice (some ⟨g, 0, none⟩) l.length c) 73 6 l.length (dyC l)]

end Go.Proofs.Ytgeajgmefokifaa

/- What the laws of winters share. -/
namespace Go.Proofs.Ytgeajgmefokifaa
open Go Go.Eng

section
variable {K b g c : Nat} {bs : Value} {w0 w : World} {R : List Ck}
end
end Go.Proofs.Ytgeajgmefokifaa

/- Walks of the reference: the error of a winter. -/
namespace Go.Proofs.Ytgeajgmefokifaa
open Go Go.Eng

theorem out_ca (n lo hi : Int) (w : World) : Ca Try.prog 92 [.int .i64 n, .int .i64 lo, .int .i64 hi] w fun v w' => v = .bool (!(wiB n lo hi)) ∧ Chg [] w w' := by
  refine q_of (Sat.nil w M0) Try.func92 rfl (by simp [Try.ntmps92]) ?_
  by_cases h1 : n < lo
  · (refine q_seq ?_; refine q_region ?_; refine ql_pure tabOk rfl rfl ?_; refine q_nil ?_; refine q_seq ?_; refine q_region ?_; (iterate 2 refine ql_pure tabOk rfl rfl ?_); refine ql_lssT tabOk rfl rfl rfl (by omega) ?_; refine ql_pure tabOk rfl rfl ?_; (iterate 3 refine ql_gno rfl rfl rfl ?_); (iterate 2 refine ql_pure tabOk rfl rfl ?_); refine q_nil ?_; refine q_ret ?_)
    refine q_fin tabOk rfl (by repeat (first | exact RVs.nil | apply RVs.tmp rfl | apply RVs.cellA rfl rfl (by repeat first | exact .head _ | refine .tail _ ?_) (by rfl) | apply RVs.cell1 rfl rfl (by repeat first | exact .head _ | refine .tail _ ?_))) fun w hs => ?_
    exact ⟨by simp [wiB, retV]; omega, hs.chg0⟩
  · by_cases h2 : n > hi
    · (refine q_seq ?_; refine q_region ?_; refine ql_pure tabOk rfl rfl ?_; refine q_nil ?_; refine q_seq ?_; refine q_region ?_; (iterate 2 refine ql_pure tabOk rfl rfl ?_); refine ql_lssF tabOk rfl rfl rfl (by omega) ?_; refine ql_pure tabOk rfl rfl ?_; refine ql_gyes rfl ?_; refine ql_pure tabOk rfl rfl ?_; refine ql_gyes rfl ?_; refine ql_pure tabOk rfl rfl ?_; refine ql_gyes rfl ?_; refine ql_gtrT tabOk rfl rfl rfl (by omega) ?_; (iterate 2 refine ql_pure tabOk rfl rfl ?_); refine q_nil ?_; refine q_ret ?_)
      refine q_fin tabOk rfl (by repeat (first | exact RVs.nil | apply RVs.tmp rfl | apply RVs.cellA rfl rfl (by repeat first | exact .head _ | refine .tail _ ?_) (by rfl) | apply RVs.cell1 rfl rfl (by repeat first | exact .head _ | refine .tail _ ?_))) fun w hs => ?_
      exact ⟨by simp [wiB, retV]; omega, hs.chg0⟩
    · (refine q_seq ?_; refine q_region ?_; refine ql_pure tabOk rfl rfl ?_; refine q_nil ?_; refine q_seq ?_; refine q_region ?_; (iterate 2 refine ql_pure tabOk rfl rfl ?_); refine ql_lssF tabOk rfl rfl rfl (by omega) ?_; refine ql_pure tabOk rfl rfl ?_; refine ql_gyes rfl ?_; refine ql_pure tabOk rfl rfl ?_; refine ql_gyes rfl ?_; refine ql_pure tabOk rfl rfl ?_; refine ql_gyes rfl ?_; refine ql_gtrF tabOk rfl rfl rfl (by omega) ?_; (iterate 2 refine ql_pure tabOk rfl rfl ?_); refine q_nil ?_; refine q_ret ?_)
      refine q_fin tabOk rfl (by repeat (first | exact RVs.nil | apply RVs.tmp rfl | apply RVs.cellA rfl rfl (by repeat first | exact .head _ | refine .tail _ ?_) (by rfl) | apply RVs.cell1 rfl rfl (by repeat first | exact .head _ | refine .tail _ ?_))) fun w hs => ?_
      exact ⟨by simp [wiB, retV]; omega, hs.chg0⟩
theorem wrong_ca (a b g : Int) (w : World) : Ca Try.prog 93 [.agg #[.int .i64 a, .int .i64 b], .int .i64 g] w fun v w' => v = .bool (!(spnB a b g)) ∧ Chg [] w w' := by
  refine q_of (Sat.nil w M0) Try.func93 rfl (by simp [Try.ntmps93]) ?_
  (refine q_seq ?_; refine q_region ?_)
  refine ql_box rfl rfl (fun b2 => ?_)
  by_cases h1 : a < 0
  · (refine ql_pure tabOk rfl rfl ?_; refine q_nil ?_; refine q_seq ?_; refine q_region ?_; refine ql_pure tabOk rfl rfl ?_; refine ql_loadB tabOk rfl rfl rfl (by repeat first | exact .head _ | refine .tail _ ?_) (by rfl) ?_; refine ql_lssT tabOk rfl rfl rfl (by omega) ?_; refine ql_pure tabOk rfl rfl ?_; (iterate 4 refine ql_gno rfl rfl rfl ?_); (iterate 2 refine ql_pure tabOk rfl rfl ?_); (iterate 5 refine ql_gno rfl rfl rfl ?_); (iterate 2 refine ql_pure tabOk rfl rfl ?_); refine q_nil ?_; refine q_ret ?_)
    refine q_fin tabOk rfl (by repeat (first | exact RVs.nil | apply RVs.tmp rfl | apply RVs.cellA rfl rfl (by repeat first | exact .head _ | refine .tail _ ?_) (by rfl) | apply RVs.cell1 rfl rfl (by repeat first | exact .head _ | refine .tail _ ?_))) fun w hs => ?_
    exact ⟨by simp [spnB, retV]; omega, hs.chg0⟩
  · by_cases h2 : b > g
    · (refine ql_pure tabOk rfl rfl ?_; refine q_nil ?_; refine q_seq ?_; refine q_region ?_; refine ql_pure tabOk rfl rfl ?_; refine ql_loadB tabOk rfl rfl rfl (by repeat first | exact .head _ | refine .tail _ ?_) (by rfl) ?_; refine ql_lssF tabOk rfl rfl rfl (by omega) ?_; refine ql_pure tabOk rfl rfl ?_; refine ql_gyes rfl ?_; refine ql_pure tabOk rfl rfl ?_; refine ql_gyes rfl ?_; refine ql_loadB tabOk rfl rfl rfl (by repeat first | exact .head _ | refine .tail _ ?_) (by rfl) ?_; refine ql_gyes rfl ?_; refine ql_pure tabOk rfl rfl ?_; refine ql_gyes rfl ?_; refine ql_gtrT tabOk rfl rfl rfl (by omega) ?_; (iterate 2 refine ql_pure tabOk rfl rfl ?_); (iterate 5 refine ql_gno rfl rfl rfl ?_); (iterate 2 refine ql_pure tabOk rfl rfl ?_); refine q_nil ?_; refine q_ret ?_)
      refine q_fin tabOk rfl (by repeat (first | exact RVs.nil | apply RVs.tmp rfl | apply RVs.cellA rfl rfl (by repeat first | exact .head _ | refine .tail _ ?_) (by rfl) | apply RVs.cell1 rfl rfl (by repeat first | exact .head _ | refine .tail _ ?_))) fun w hs => ?_
      exact ⟨by simp [spnB, retV]; omega, hs.chg0⟩
    · by_cases h3 : a > b
      · (refine ql_pure tabOk rfl rfl ?_; refine q_nil ?_; refine q_seq ?_; refine q_region ?_; refine ql_pure tabOk rfl rfl ?_; refine ql_loadB tabOk rfl rfl rfl (by repeat first | exact .head _ | refine .tail _ ?_) (by rfl) ?_; refine ql_lssF tabOk rfl rfl rfl (by omega) ?_; refine ql_pure tabOk rfl rfl ?_; refine ql_gyes rfl ?_; refine ql_pure tabOk rfl rfl ?_; refine ql_gyes rfl ?_; refine ql_loadB tabOk rfl rfl rfl (by repeat first | exact .head _ | refine .tail _ ?_) (by rfl) ?_; refine ql_gyes rfl ?_; refine ql_pure tabOk rfl rfl ?_; refine ql_gyes rfl ?_; refine ql_gtrF tabOk rfl rfl rfl (by omega) ?_; (iterate 2 refine ql_pure tabOk rfl rfl ?_); refine ql_gyes rfl ?_; refine ql_pure tabOk rfl rfl ?_; refine ql_gyes rfl ?_; refine ql_loadB tabOk rfl rfl rfl (by repeat first | exact .head _ | refine .tail _ ?_) (by rfl) ?_; refine ql_gyes rfl ?_; refine ql_pure tabOk rfl rfl ?_; refine ql_gyes rfl ?_; refine ql_loadB tabOk rfl rfl rfl (by repeat first | exact .head _ | refine .tail _ ?_) (by rfl) ?_; refine ql_gyes rfl ?_; refine ql_gtrT tabOk rfl rfl rfl (by omega) ?_; (iterate 2 refine ql_pure tabOk rfl rfl ?_); refine q_nil ?_; refine q_ret ?_)
        refine q_fin tabOk rfl (by repeat (first | exact RVs.nil | apply RVs.tmp rfl | apply RVs.cellA rfl rfl (by repeat first | exact .head _ | refine .tail _ ?_) (by rfl) | apply RVs.cell1 rfl rfl (by repeat first | exact .head _ | refine .tail _ ?_))) fun w hs => ?_
        exact ⟨by simp [spnB, retV]; omega, hs.chg0⟩
      · (refine ql_pure tabOk rfl rfl ?_; refine q_nil ?_; refine q_seq ?_; refine q_region ?_; refine ql_pure tabOk rfl rfl ?_; refine ql_loadB tabOk rfl rfl rfl (by repeat first | exact .head _ | refine .tail _ ?_) (by rfl) ?_; refine ql_lssF tabOk rfl rfl rfl (by omega) ?_; refine ql_pure tabOk rfl rfl ?_; refine ql_gyes rfl ?_; refine ql_pure tabOk rfl rfl ?_; refine ql_gyes rfl ?_; refine ql_loadB tabOk rfl rfl rfl (by repeat first | exact .head _ | refine .tail _ ?_) (by rfl) ?_; refine ql_gyes rfl ?_; refine ql_pure tabOk rfl rfl ?_; refine ql_gyes rfl ?_; refine ql_gtrF tabOk rfl rfl rfl (by omega) ?_; (iterate 2 refine ql_pure tabOk rfl rfl ?_); refine ql_gyes rfl ?_; refine ql_pure tabOk rfl rfl ?_; refine ql_gyes rfl ?_; refine ql_loadB tabOk rfl rfl rfl (by repeat first | exact .head _ | refine .tail _ ?_) (by rfl) ?_; refine ql_gyes rfl ?_; refine ql_pure tabOk rfl rfl ?_; refine ql_gyes rfl ?_; refine ql_loadB tabOk rfl rfl rfl (by repeat first | exact .head _ | refine .tail _ ?_) (by rfl) ?_; refine ql_gyes rfl ?_; refine ql_gtrF tabOk rfl rfl rfl (by omega) ?_; (iterate 2 refine ql_pure tabOk rfl rfl ?_); refine q_nil ?_; refine q_ret ?_)
        refine q_fin tabOk rfl (by repeat (first | exact RVs.nil | apply RVs.tmp rfl | apply RVs.cellA rfl rfl (by repeat first | exact .head _ | refine .tail _ ?_) (by rfl) | apply RVs.cell1 rfl rfl (by repeat first | exact .head _ | refine .tail _ ?_))) fun w hs => ?_
        exact ⟨by simp [spnB, retV]; omega, hs.chg0⟩
section
variable {w : World} {lo hi b off len cap : Nat} {l : List Dy}
theorem RdD.need (h : RdD w lo hi (.slice (some ⟨b, off, none⟩) len cap) l) (i : Nat) (hi : i < l.length) (j : Nat) (hj : j < 2) : w.cell? ⟨b, off + i * 6 + 0 + j, none⟩ = [Value.int .i64 l[i].n0, Value.int .i64 l[i].n1][j]? := by
  have := RdD.at h i hi (0 + j) (by omega)
  rw [← Nat.add_assoc] at this
  rw [this]
  match j, hj with
  | 0, _ => rfl
  | 1, _ => rfl
theorem RdD.make (h : RdD w lo hi (.slice (some ⟨b, off, none⟩) len cap) l) (i : Nat) (hi : i < l.length) (j : Nat) (hj : j < 2) : w.cell? ⟨b, off + i * 6 + 2 + j, none⟩ = [Value.int .i64 l[i].m0, Value.int .i64 l[i].m1][j]? := by
  have := RdD.at h i hi (2 + j) (by omega)
  rw [← Nat.add_assoc] at this
  rw [this]
  match j, hj with
  | 0, _ => rfl
  | 1, _ => rfl
theorem RdD.loss (h : RdD w lo hi (.slice (some ⟨b, off, none⟩) len cap) l) (i : Nat) (hi : i < l.length) (j : Nat) (hj : j < 2) : w.cell? ⟨b, off + i * 6 + 4 + j, none⟩ = [Value.int .i64 l[i].l0, Value.int .i64 l[i].l1][j]? := by
  have := RdD.at h i hi (4 + j) (by omega)
  rw [← Nat.add_assoc] at this
  rw [this]
  match j, hj with
  | 0, _ => rfl
  | 1, _ => rfl
end
end Go.Proofs.Ytgeajgmefokifaa

/- Walks of the reference: the errors of a stadium, of rules, and of a course. -/
namespace Go.Proofs.Ytgeajgmefokifaa
open Go Go.Eng

section
variable {w : World} {lo hi b off len cap : Nat} {l : List Lp}
theorem RdL.a0 (h : RdL w lo hi (.slice (some ⟨b, off, none⟩) len cap) l) (i : Nat) (hi : i < l.length) : w.cell? ⟨b, off + i * 3 + 0, none⟩ = some (.int .i64 l[i].len) := RdL.at0 h i hi
end
set_option maxHeartbeats 1000000 in
theorem rstad_ca (w : World) (lo hi : Nat) (a : Option Addr) (c : Nat) (s : List Lp) (h : RdL w lo hi (.slice a s.length c) s) (hlen : s.length ≤ 1000000) :
    Ca Try.prog 91 [.slice a s.length c] w fun r w' => r = .int .i64 (stadV s) ∧ Chg [] w w' := by
  obtain ⟨a', c', he, hsa⟩ := RdL.outI h
  cases he
  refine q_of (Sat.nil w M0) Try.func91 rfl (by simp [Try.ntmps91]) ?_
  by_cases h1 : s.length < 1
  · (refine q_seq ?_; refine q_region ?_; refine ql_pure tabOk rfl rfl ?_; refine q_nil ?_; (iterate 2 refine q_seq ?_); refine q_region ?_; (iterate 2 refine ql_pure tabOk rfl rfl ?_); refine ql_lssT tabOk rfl rfl rfl (by omega) ?_; refine ql_pure tabOk rfl rfl ?_; (iterate 3 refine ql_gno rfl rfl rfl ?_); refine ql_pure tabOk rfl rfl ?_; refine q_nil ?_; refine q_cond_true rfl ?_; refine q_seq ?_; refine q_region ?_; refine ql_pure tabOk rfl rfl ?_; refine q_nil ?_; refine q_ret ?_)
    refine q_fin tabOk rfl (by repeat (first | exact RVs.nil | apply RVs.tmp rfl | apply RVs.cellA rfl rfl (by repeat first | exact .head _ | refine .tail _ ?_) (by rfl) | apply RVs.cell1 rfl rfl (by repeat first | exact .head _ | refine .tail _ ?_))) fun w hs => ?_
    exact ⟨by unfold stadV; rw [if_pos (by omega)]; rfl, hs.chg0⟩
  by_cases h2 : s.length > 12
  · (refine q_seq ?_; refine q_region ?_; refine ql_pure tabOk rfl rfl ?_; refine q_nil ?_; (iterate 2 refine q_seq ?_); refine q_region ?_; (iterate 2 refine ql_pure tabOk rfl rfl ?_); refine ql_lssF tabOk rfl rfl rfl (by omega) ?_; refine ql_pure tabOk rfl rfl ?_; refine ql_gyes rfl ?_; refine ql_pure tabOk rfl rfl ?_; refine ql_gyes rfl ?_; refine ql_pure tabOk rfl rfl ?_; refine ql_gyes rfl ?_; refine ql_gtrT tabOk rfl rfl rfl (by omega) ?_; refine ql_pure tabOk rfl rfl ?_; refine q_nil ?_; refine q_cond_true rfl ?_; refine q_seq ?_; refine q_region ?_; refine ql_pure tabOk rfl rfl ?_; refine q_nil ?_; refine q_ret ?_)
    refine q_fin tabOk rfl (by repeat (first | exact RVs.nil | apply RVs.tmp rfl | apply RVs.cellA rfl rfl (by repeat first | exact .head _ | refine .tail _ ?_) (by rfl) | apply RVs.cell1 rfl rfl (by repeat first | exact .head _ | refine .tail _ ?_))) fun w hs => ?_
    exact ⟨by unfold stadV; rw [if_pos (by omega)]; rfl, hs.chg0⟩
  have eC : stadV s = if s.all loopB = true then 0 else 3 := by
    unfold stadV
    rw [if_neg (by omega)]
  obtain ⟨b, off, rfl⟩ := hsa (by omega)
  (refine q_seq ?_; refine q_region ?_; refine ql_pure tabOk rfl rfl ?_; refine q_nil ?_; (iterate 2 refine q_seq ?_); refine q_region ?_; (iterate 2 refine ql_pure tabOk rfl rfl ?_); refine ql_lssF tabOk rfl rfl rfl (by omega) ?_; refine ql_pure tabOk rfl rfl ?_; refine ql_gyes rfl ?_; refine ql_pure tabOk rfl rfl ?_; refine ql_gyes rfl ?_; refine ql_pure tabOk rfl rfl ?_; refine ql_gyes rfl ?_; refine ql_gtrF tabOk rfl rfl rfl (by omega) ?_; refine ql_pure tabOk rfl rfl ?_; refine q_nil ?_; refine q_cond_false rfl ?_; refine q_skip ?_; (iterate 2 refine q_seq ?_); refine q_region ?_; refine ql_pure tabOk rfl rfl ?_; refine q_nil ?_; refine q_block ?_)
  refine q_loop (σ := Nat) (fun k => k ≤ s.length ∧ (s.take k).all loopB = true) (fun k => s.length - k) (fun k => [(0, .slice (some ⟨b, off, none⟩) s.length c), (3, .int .i64 k)]) (fun _ => []) 0 ⟨by omega, rfl⟩ ⟨rfl, rfl, trivial⟩ (by repeat (first | exact Sp.nil | exact Sp.refl _ | refine Sp.cons (by repeat constructor) ?_)) ?_
  rintro k ⟨hk, hall⟩ K hK
  ((iterate 2 refine q_seq ?_); refine q_region ?_; (iterate 4 refine ql_pure tabOk rfl rfl ?_); refine q_nil ?_)
  refine q_if rfl (fun hc => ?_) (fun hc => ?_)
  · have hk2 : k < s.length := by omega
    clear hc
    have e : (s.take (k + 1)).all loopB = loopB s[k] := by rw [List.take_succ_eq_append_getElem hk2, List.all_append, hall]; simp
    have e2 : loopB s[k] = false → s.all loopB = false := fun hh => List.all_eq_false.2 ⟨s[k], List.getElem_mem hk2, by simp [hh]⟩
    have e3 : loopB s[k] = (wiB s[k].len 1 20000 && wiB s[k].climb 0 2000 && wiB s[k].wide 1 20) := rfl
    (refine q_skip ?_; refine q_seq ?_; refine q_block ?_; refine q_seq ?_; refine q_region ?_; (iterate 2 refine ql_pure tabOk rfl rfl ?_))
    refine ql_index tabOk rfl rfl rfl rfl rfl (by omega) (by omega) ?_
    (refine ql_pure tabOk rfl rfl ?_)
    refine ql_load1 tabOk rfl rfl rfl (fun w hs => RdL.at0 (RdE.keep h hs.chg0) k hk2) ?_
    refine ql_callv (val := .bool (!(wiB s[k].len 1 20000))) tabOk rfl rfl rfl rfl (fun w hs => ?_) ?_; exact out_ca s[k].len 1 20000 w
    cases g1 : wiB s[k].len 1 20000 with
    | false =>
      (refine ql_pure tabOk rfl rfl ?_; (iterate 6 refine ql_gno rfl rfl rfl ?_); (iterate 2 refine ql_pure tabOk rfl rfl ?_); (iterate 6 refine ql_gno rfl rfl rfl ?_); refine ql_pure tabOk rfl rfl ?_; refine q_nil ?_; refine q_cond_true rfl ?_; refine q_seq ?_; refine q_region ?_; refine ql_pure tabOk rfl rfl ?_; refine q_nil ?_; refine q_ret ?_)
      refine q_fin tabOk rfl (by repeat (first | exact RVs.nil | apply RVs.tmp rfl | apply RVs.cellA rfl rfl (by repeat first | exact .head _ | refine .tail _ ?_) (by rfl) | apply RVs.cell1 rfl rfl (by repeat first | exact .head _ | refine .tail _ ?_))) fun w hs => ?_
      exact ⟨by rw [eC, e2 (by rw [e3, g1]; rfl)]; rfl, hs.chg0⟩
    | true =>
    (refine ql_pure tabOk rfl rfl ?_; refine ql_gyes rfl ?_; refine ql_pure tabOk rfl rfl ?_; refine ql_gyes rfl ?_; refine ql_pure tabOk rfl rfl ?_; refine ql_gyes rfl ?_)
    refine ql_index tabOk rfl rfl rfl rfl rfl (by omega) (by omega) ?_
    (refine ql_gyes rfl ?_; refine ql_pure tabOk rfl rfl ?_; refine ql_gyes rfl ?_)
    refine ql_load1 tabOk rfl rfl rfl (fun w hs => RdL.at1 (RdE.keep h hs.chg0) k hk2) ?_
    (refine ql_gyes rfl ?_)
    refine ql_callv (val := .bool (!(wiB s[k].climb 0 2000))) tabOk rfl rfl rfl rfl (fun w hs => ?_) ?_; exact out_ca s[k].climb 0 2000 w
    cases g2 : wiB s[k].climb 0 2000 with
    | false =>
      ((iterate 2 refine ql_pure tabOk rfl rfl ?_); (iterate 6 refine ql_gno rfl rfl rfl ?_); refine ql_pure tabOk rfl rfl ?_; refine q_nil ?_; refine q_cond_true rfl ?_; refine q_seq ?_; refine q_region ?_; refine ql_pure tabOk rfl rfl ?_; refine q_nil ?_; refine q_ret ?_)
      refine q_fin tabOk rfl (by repeat (first | exact RVs.nil | apply RVs.tmp rfl | apply RVs.cellA rfl rfl (by repeat first | exact .head _ | refine .tail _ ?_) (by rfl) | apply RVs.cell1 rfl rfl (by repeat first | exact .head _ | refine .tail _ ?_))) fun w hs => ?_
      exact ⟨by rw [eC, e2 (by rw [e3, g1, g2]; rfl)]; rfl, hs.chg0⟩
    | true =>
    ((iterate 2 refine ql_pure tabOk rfl rfl ?_); refine ql_gyes rfl ?_; refine ql_pure tabOk rfl rfl ?_; refine ql_gyes rfl ?_; refine ql_pure tabOk rfl rfl ?_; refine ql_gyes rfl ?_)
    refine ql_index tabOk rfl rfl rfl rfl rfl (by omega) (by omega) ?_
    (refine ql_gyes rfl ?_; refine ql_pure tabOk rfl rfl ?_; refine ql_gyes rfl ?_)
    refine ql_load1 tabOk rfl rfl rfl (fun w hs => RdL.at2 (RdE.keep h hs.chg0) k hk2) ?_
    (refine ql_gyes rfl ?_)
    refine ql_callv (val := .bool (!(wiB s[k].wide 1 20))) tabOk rfl rfl rfl rfl (fun w hs => ?_) ?_; exact out_ca s[k].wide 1 20 w
    cases g3 : wiB s[k].wide 1 20 with
    | false =>
      (refine ql_pure tabOk rfl rfl ?_; refine q_nil ?_; refine q_cond_true rfl ?_; refine q_seq ?_; refine q_region ?_; refine ql_pure tabOk rfl rfl ?_; refine q_nil ?_; refine q_ret ?_)
      refine q_fin tabOk rfl (by repeat (first | exact RVs.nil | apply RVs.tmp rfl | apply RVs.cellA rfl rfl (by repeat first | exact .head _ | refine .tail _ ?_) (by rfl) | apply RVs.cell1 rfl rfl (by repeat first | exact .head _ | refine .tail _ ?_))) fun w hs => ?_
      exact ⟨by rw [eC, e2 (by rw [e3, g1, g2, g3]; rfl)]; rfl, hs.chg0⟩
    | true =>
    (refine ql_pure tabOk rfl rfl ?_; refine q_nil ?_; refine q_cond_false rfl ?_; refine q_skip ?_; refine q_blk ?_; refine q_region ?_; refine ql_pure tabOk rfl rfl ?_; refine ql_ar tabOk rfl rfl rfl rfl (by omega) (by omega) ?_; refine ql_pure tabOk rfl rfl ?_; refine q_nil ?_)
    exact hK (k + 1) _ _ ⟨by omega, by rw [e, e3, g1, g2, g3]; rfl⟩ (by omega) ⟨rfl, rfl, trivial⟩ (by repeat (first | exact Sp.nil | exact Sp.refl _ | refine Sp.cons (by repeat constructor) ?_))
  · obtain rfl : k = s.length := by omega
    rw [List.take_length] at hall
    (refine q_exit _ rfl ?_; refine q_seq ?_; refine q_region ?_; refine ql_pure tabOk rfl rfl ?_; refine q_nil ?_; refine q_ret ?_)
    refine q_fin tabOk rfl (by repeat (first | exact RVs.nil | apply RVs.tmp rfl | apply RVs.cellA rfl rfl (by repeat first | exact .head _ | refine .tail _ ?_) (by rfl) | apply RVs.cell1 rfl rfl (by repeat first | exact .head _ | refine .tail _ ?_))) fun w hs => ?_
    exact ⟨by rw [eC, hall]; rfl, hs.chg0⟩
theorem stadV_or (s : List Lp) : stadV s = 0 ∨ stadV s = 2 ∨ stadV s = 3 := by
  unfold stadV
  split
  · simp
  · split <;> simp
set_option maxHeartbeats 2000000 in
theorem rcheckS_ca (w : World) (lo hi : Nat) (a : Option Addr) (c : Nat) (s : List Lp) (r : Rl) (h : RdL w lo hi (.slice a s.length c) s) (hlen : s.length ≤ 1000000) :
    Ca Try.prog 22 [.slice a s.length c, .agg (rlC r).toArray] w fun v w' => v = .int .i64 (checkS s r) ∧ Chg [] w w' := by
  refine q_of (Sat.nil w M0) Try.func22 rfl (by simp [Try.ntmps22]) ?_
  (refine q_seq ?_; refine q_region ?_)
  refine ql_box rfl rfl (fun b3 => ?_)
  (refine ql_pure tabOk rfl rfl ?_; refine q_nil ?_; (iterate 2 refine q_seq ?_); refine q_region ?_; refine ql_pure tabOk rfl rfl ?_)
  refine ql_callv (val := .int .i64 (stadV s)) tabOk rfl rfl rfl rfl (fun w hs => ?_) ?_; exact rstad_ca w lo hi a c s (RdE.keep h hs.chg0) hlen
  by_cases h0 : stadV s ≠ 0
  · have e : checkS s r = stadV s := by unfold checkS; rw [if_pos h0]
    rw [e]
    rcases stadV_or s with h1 | h1 | h1
    · exact absurd h1 h0
    all_goals
      rw [h1]
      (refine ql_pure tabOk rfl rfl ?_; refine q_nil ?_; refine q_seq ?_; refine q_region ?_; refine ql_pure tabOk rfl rfl ?_; refine ql_neqT tabOk rfl rfl rfl (by omega) ?_; refine q_nil ?_; refine q_cond_true rfl ?_; refine q_seq ?_; refine q_region ?_; (iterate 2 refine ql_pure tabOk rfl rfl ?_); refine q_nil ?_; refine q_ret ?_)
      refine q_fin tabOk rfl (by repeat (first | exact RVs.nil | apply RVs.tmp rfl | apply RVs.cellA rfl rfl (by repeat first | exact .head _ | refine .tail _ ?_) (by rfl) | apply RVs.cell1 rfl rfl (by repeat first | exact .head _ | refine .tail _ ?_))) fun w hs => ?_
      exact ⟨rfl, hs.chg0⟩
  have h0 : stadV s = 0 := by omega
  have e : checkS s r = if rulesB r = true then 0 else 3 := by unfold checkS; rw [if_neg (by omega)]
  rw [h0]
  have eB : rulesB r = (wiB r.laps 1 6 && spnB r.g0 r.g1 200000 && spnB r.c0 r.c1 200000 && spnB r.p0 r.p1 200000 && wiB r.wide 1 20 && wiB r.uses 1 6) := rfl
  (refine ql_pure tabOk rfl rfl ?_; refine q_nil ?_; refine q_seq ?_; refine q_region ?_; refine ql_pure tabOk rfl rfl ?_; refine ql_neqF tabOk rfl rfl rfl (by omega) ?_; refine q_nil ?_; refine q_cond_false rfl ?_; refine q_skip ?_; (iterate 2 refine q_seq ?_); refine q_region ?_; refine ql_pure tabOk rfl rfl ?_; refine ql_loadB tabOk rfl rfl rfl (by repeat first | exact .head _ | refine .tail _ ?_) (by rfl) ?_)
  refine ql_callv (val := .bool (!(wiB r.laps 1 6))) tabOk rfl rfl rfl rfl (fun w hs => ?_) ?_; exact out_ca r.laps 1 6 w
  cases g1 : wiB r.laps 1 6 with
  | false =>
    (refine ql_pure tabOk rfl rfl ?_; (iterate 3 refine ql_gno rfl rfl rfl ?_); (iterate 2 refine ql_pure tabOk rfl rfl ?_); (iterate 3 refine ql_gno rfl rfl rfl ?_); (iterate 2 refine ql_pure tabOk rfl rfl ?_); (iterate 3 refine ql_gno rfl rfl rfl ?_); (iterate 2 refine ql_pure tabOk rfl rfl ?_); (iterate 3 refine ql_gno rfl rfl rfl ?_); (iterate 2 refine ql_pure tabOk rfl rfl ?_); (iterate 3 refine ql_gno rfl rfl rfl ?_); refine ql_pure tabOk rfl rfl ?_; refine q_nil ?_; refine q_cond_true rfl ?_; refine q_seq ?_; refine q_region ?_; refine ql_pure tabOk rfl rfl ?_; refine q_nil ?_; refine q_ret ?_)
    refine q_fin tabOk rfl (by repeat (first | exact RVs.nil | apply RVs.tmp rfl | apply RVs.cellA rfl rfl (by repeat first | exact .head _ | refine .tail _ ?_) (by rfl) | apply RVs.cell1 rfl rfl (by repeat first | exact .head _ | refine .tail _ ?_))) fun w hs => ?_
    exact ⟨by rw [e, eB]; simp [*, retV], hs.chg0⟩
  | true =>
  (refine ql_pure tabOk rfl rfl ?_; refine ql_gyes rfl ?_; refine ql_pure tabOk rfl rfl ?_; refine ql_gyes rfl ?_; refine ql_loadAB tabOk rfl rfl rfl (by repeat first | exact .head _ | refine .tail _ ?_) (by rfl) (by rfl) ?_; refine ql_gyes rfl ?_)
  refine ql_callv (val := .bool (!(spnB r.g0 r.g1 200000))) tabOk rfl rfl rfl rfl (fun w hs => ?_) ?_; exact wrong_ca r.g0 r.g1 200000 w
  cases g2 : spnB r.g0 r.g1 200000 with
  | false =>
    ((iterate 2 refine ql_pure tabOk rfl rfl ?_); (iterate 3 refine ql_gno rfl rfl rfl ?_); (iterate 2 refine ql_pure tabOk rfl rfl ?_); (iterate 3 refine ql_gno rfl rfl rfl ?_); (iterate 2 refine ql_pure tabOk rfl rfl ?_); (iterate 3 refine ql_gno rfl rfl rfl ?_); (iterate 2 refine ql_pure tabOk rfl rfl ?_); (iterate 3 refine ql_gno rfl rfl rfl ?_); refine ql_pure tabOk rfl rfl ?_; refine q_nil ?_; refine q_cond_true rfl ?_; refine q_seq ?_; refine q_region ?_; refine ql_pure tabOk rfl rfl ?_; refine q_nil ?_; refine q_ret ?_)
    refine q_fin tabOk rfl (by repeat (first | exact RVs.nil | apply RVs.tmp rfl | apply RVs.cellA rfl rfl (by repeat first | exact .head _ | refine .tail _ ?_) (by rfl) | apply RVs.cell1 rfl rfl (by repeat first | exact .head _ | refine .tail _ ?_))) fun w hs => ?_
    exact ⟨by rw [e, eB]; simp [*, retV], hs.chg0⟩
  | true =>
  ((iterate 2 refine ql_pure tabOk rfl rfl ?_); refine ql_gyes rfl ?_; refine ql_pure tabOk rfl rfl ?_; refine ql_gyes rfl ?_; refine ql_loadAB tabOk rfl rfl rfl (by repeat first | exact .head _ | refine .tail _ ?_) (by rfl) (by rfl) ?_; refine ql_gyes rfl ?_)
  refine ql_callv (val := .bool (!(spnB r.c0 r.c1 200000))) tabOk rfl rfl rfl rfl (fun w hs => ?_) ?_; exact wrong_ca r.c0 r.c1 200000 w
  cases g3 : spnB r.c0 r.c1 200000 with
  | false =>
    ((iterate 2 refine ql_pure tabOk rfl rfl ?_); (iterate 3 refine ql_gno rfl rfl rfl ?_); (iterate 2 refine ql_pure tabOk rfl rfl ?_); (iterate 3 refine ql_gno rfl rfl rfl ?_); (iterate 2 refine ql_pure tabOk rfl rfl ?_); (iterate 3 refine ql_gno rfl rfl rfl ?_); refine ql_pure tabOk rfl rfl ?_; refine q_nil ?_; refine q_cond_true rfl ?_; refine q_seq ?_; refine q_region ?_; refine ql_pure tabOk rfl rfl ?_; refine q_nil ?_; refine q_ret ?_)
    refine q_fin tabOk rfl (by repeat (first | exact RVs.nil | apply RVs.tmp rfl | apply RVs.cellA rfl rfl (by repeat first | exact .head _ | refine .tail _ ?_) (by rfl) | apply RVs.cell1 rfl rfl (by repeat first | exact .head _ | refine .tail _ ?_))) fun w hs => ?_
    exact ⟨by rw [e, eB]; simp [*, retV], hs.chg0⟩
  | true =>
  ((iterate 2 refine ql_pure tabOk rfl rfl ?_); refine ql_gyes rfl ?_; refine ql_pure tabOk rfl rfl ?_; refine ql_gyes rfl ?_; refine ql_loadAB tabOk rfl rfl rfl (by repeat first | exact .head _ | refine .tail _ ?_) (by rfl) (by rfl) ?_; refine ql_gyes rfl ?_)
  refine ql_callv (val := .bool (!(spnB r.p0 r.p1 200000))) tabOk rfl rfl rfl rfl (fun w hs => ?_) ?_; exact wrong_ca r.p0 r.p1 200000 w
  cases g4 : spnB r.p0 r.p1 200000 with
  | false =>
    ((iterate 2 refine ql_pure tabOk rfl rfl ?_); (iterate 3 refine ql_gno rfl rfl rfl ?_); (iterate 2 refine ql_pure tabOk rfl rfl ?_); (iterate 3 refine ql_gno rfl rfl rfl ?_); refine ql_pure tabOk rfl rfl ?_; refine q_nil ?_; refine q_cond_true rfl ?_; refine q_seq ?_; refine q_region ?_; refine ql_pure tabOk rfl rfl ?_; refine q_nil ?_; refine q_ret ?_)
    refine q_fin tabOk rfl (by repeat (first | exact RVs.nil | apply RVs.tmp rfl | apply RVs.cellA rfl rfl (by repeat first | exact .head _ | refine .tail _ ?_) (by rfl) | apply RVs.cell1 rfl rfl (by repeat first | exact .head _ | refine .tail _ ?_))) fun w hs => ?_
    exact ⟨by rw [e, eB]; simp [*, retV], hs.chg0⟩
  | true =>
  ((iterate 2 refine ql_pure tabOk rfl rfl ?_); refine ql_gyes rfl ?_; refine ql_pure tabOk rfl rfl ?_; refine ql_gyes rfl ?_; refine ql_loadB tabOk rfl rfl rfl (by repeat first | exact .head _ | refine .tail _ ?_) (by rfl) ?_; refine ql_gyes rfl ?_)
  refine ql_callv (val := .bool (!(wiB r.wide 1 20))) tabOk rfl rfl rfl rfl (fun w hs => ?_) ?_; exact out_ca r.wide 1 20 w
  cases g5 : wiB r.wide 1 20 with
  | false =>
    ((iterate 2 refine ql_pure tabOk rfl rfl ?_); (iterate 3 refine ql_gno rfl rfl rfl ?_); refine ql_pure tabOk rfl rfl ?_; refine q_nil ?_; refine q_cond_true rfl ?_; refine q_seq ?_; refine q_region ?_; refine ql_pure tabOk rfl rfl ?_; refine q_nil ?_; refine q_ret ?_)
    refine q_fin tabOk rfl (by repeat (first | exact RVs.nil | apply RVs.tmp rfl | apply RVs.cellA rfl rfl (by repeat first | exact .head _ | refine .tail _ ?_) (by rfl) | apply RVs.cell1 rfl rfl (by repeat first | exact .head _ | refine .tail _ ?_))) fun w hs => ?_
    exact ⟨by rw [e, eB]; simp [*, retV], hs.chg0⟩
  | true =>
  ((iterate 2 refine ql_pure tabOk rfl rfl ?_); refine ql_gyes rfl ?_; refine ql_pure tabOk rfl rfl ?_; refine ql_gyes rfl ?_; refine ql_loadB tabOk rfl rfl rfl (by repeat first | exact .head _ | refine .tail _ ?_) (by rfl) ?_; refine ql_gyes rfl ?_)
  refine ql_callv (val := .bool (!(wiB r.uses 1 6))) tabOk rfl rfl rfl rfl (fun w hs => ?_) ?_; exact out_ca r.uses 1 6 w
  cases g6 : wiB r.uses 1 6 with
  | false =>
    (refine ql_pure tabOk rfl rfl ?_; refine q_nil ?_; refine q_cond_true rfl ?_; refine q_seq ?_; refine q_region ?_; refine ql_pure tabOk rfl rfl ?_; refine q_nil ?_; refine q_ret ?_)
    refine q_fin tabOk rfl (by repeat (first | exact RVs.nil | apply RVs.tmp rfl | apply RVs.cellA rfl rfl (by repeat first | exact .head _ | refine .tail _ ?_) (by rfl) | apply RVs.cell1 rfl rfl (by repeat first | exact .head _ | refine .tail _ ?_))) fun w hs => ?_
    exact ⟨by rw [e, eB]; simp [*, retV], hs.chg0⟩
  | true =>
  (refine ql_pure tabOk rfl rfl ?_; refine q_nil ?_; refine q_cond_false rfl ?_; refine q_skip ?_; refine q_seq ?_; refine q_region ?_; refine ql_pure tabOk rfl rfl ?_; refine q_nil ?_; refine q_ret ?_)
  refine q_fin tabOk rfl (by repeat (first | exact RVs.nil | apply RVs.tmp rfl | apply RVs.cellA rfl rfl (by repeat first | exact .head _ | refine .tail _ ?_) (by rfl) | apply RVs.cell1 rfl rfl (by repeat first | exact .head _ | refine .tail _ ?_))) fun w hs => ?_
  exact ⟨by rw [e, eB]; simp [*, retV], hs.chg0⟩
/-- In order, as far as they are looked at. -/
def ordB (c : List Int) (k : Nat) : Bool := (List.range k).all fun i => decide (c.getD i 0 ≤ c.getD (i + 1) 0) && true
theorem ordB_srt : ∀ (c : List Int), srtB c = ordB c (c.length - 1)
  | [] => rfl
  | [_] => rfl
  | a :: b :: l => by
    rw [srtB, ordB_srt (b :: l)]
    simp only [ordB, List.length_cons, Nat.add_sub_cancel]
    rw [List.range_succ_eq_map, List.all_cons, List.all_map]
    simp only [Bool.and_true]
    rfl
theorem ordB_succ (c : List Int) (k : Nat) : ordB c (k + 1) = (ordB c k && decide (c.getD k 0 ≤ c.getD (k + 1) 0)) := by simp [ordB, List.range_succ]
theorem ordB_no {c : List Int} {k n : Nat} (hk : k < n) (h : c.getD (k + 1) 0 < c.getD k 0) : ordB c n = false := List.all_eq_false.2 ⟨k, List.mem_range.2 hk, by simp only [Bool.and_true, decide_eq_true_eq]; omega⟩
set_option maxHeartbeats 2000000 in
theorem rlisted_ca (w : World) (lo hi : Nat) (sa : Option Addr) (n sc : Nat) (v : Value) (c : List Int) (h : RdI w lo hi v c) (hlen : c.length ≤ 1000000) (hn : n ≤ 1000000) :
    Ca Try.prog 97 [.slice sa n sc, v] w fun r w' => r = .int .i64 (listedV n c) ∧ Chg [] w w' := by
  obtain ⟨a, cc, rfl, hsa⟩ := RdI.outI h
  refine q_of (Sat.nil w M0) Try.func97 rfl (by simp [Try.ntmps97]) ?_
  by_cases h1 : c.length < 1
  · (refine q_seq ?_; refine q_region ?_; refine ql_pure tabOk rfl rfl ?_; refine q_nil ?_; (iterate 2 refine q_seq ?_); refine q_region ?_; (iterate 2 refine ql_pure tabOk rfl rfl ?_); refine ql_lssT tabOk rfl rfl rfl (by omega) ?_; refine ql_pure tabOk rfl rfl ?_; (iterate 3 refine ql_gno rfl rfl rfl ?_); refine ql_pure tabOk rfl rfl ?_; refine q_nil ?_; refine q_cond_true rfl ?_; refine q_seq ?_; refine q_region ?_; refine ql_pure tabOk rfl rfl ?_; refine q_nil ?_; refine q_ret ?_)
    refine q_fin tabOk rfl (by repeat (first | exact RVs.nil | apply RVs.tmp rfl | apply RVs.cellA rfl rfl (by repeat first | exact .head _ | refine .tail _ ?_) (by rfl) | apply RVs.cell1 rfl rfl (by repeat first | exact .head _ | refine .tail _ ?_))) fun w hs => ?_
    exact ⟨by unfold listedV; rw [if_pos (by omega)]; rfl, hs.chg0⟩
  by_cases h2 : c.length > 6
  · (refine q_seq ?_; refine q_region ?_; refine ql_pure tabOk rfl rfl ?_; refine q_nil ?_; (iterate 2 refine q_seq ?_); refine q_region ?_; (iterate 2 refine ql_pure tabOk rfl rfl ?_); refine ql_lssF tabOk rfl rfl rfl (by omega) ?_; refine ql_pure tabOk rfl rfl ?_; refine ql_gyes rfl ?_; refine ql_pure tabOk rfl rfl ?_; refine ql_gyes rfl ?_; refine ql_pure tabOk rfl rfl ?_; refine ql_gyes rfl ?_; refine ql_gtrT tabOk rfl rfl rfl (by omega) ?_; refine ql_pure tabOk rfl rfl ?_; refine q_nil ?_; refine q_cond_true rfl ?_; refine q_seq ?_; refine q_region ?_; refine ql_pure tabOk rfl rfl ?_; refine q_nil ?_; refine q_ret ?_)
    refine q_fin tabOk rfl (by repeat (first | exact RVs.nil | apply RVs.tmp rfl | apply RVs.cellA rfl rfl (by repeat first | exact .head _ | refine .tail _ ?_) (by rfl) | apply RVs.cell1 rfl rfl (by repeat first | exact .head _ | refine .tail _ ?_))) fun w hs => ?_
    exact ⟨by unfold listedV; rw [if_pos (by omega)]; rfl, hs.chg0⟩
  have eC : listedV n c = if inL n c = false then 1 else if srtB c = true then 0 else 4 := by
    unfold listedV
    rw [if_neg (by omega)]
  obtain ⟨b, off, rfl⟩ := hsa (by omega)
  (refine q_seq ?_; refine q_region ?_; refine ql_pure tabOk rfl rfl ?_; refine q_nil ?_; (iterate 2 refine q_seq ?_); refine q_region ?_; (iterate 2 refine ql_pure tabOk rfl rfl ?_); refine ql_lssF tabOk rfl rfl rfl (by omega) ?_; refine ql_pure tabOk rfl rfl ?_; refine ql_gyes rfl ?_; refine ql_pure tabOk rfl rfl ?_; refine ql_gyes rfl ?_; refine ql_pure tabOk rfl rfl ?_; refine ql_gyes rfl ?_; refine ql_gtrF tabOk rfl rfl rfl (by omega) ?_; refine ql_pure tabOk rfl rfl ?_; refine q_nil ?_; refine q_cond_false rfl ?_; refine q_skip ?_; (iterate 2 refine q_seq ?_); refine q_region ?_; refine ql_pure tabOk rfl rfl ?_; refine q_nil ?_; refine q_block ?_)
  refine q_loop (σ := Nat) (fun k => k ≤ c.length ∧ inL n (c.take k) = true) (fun k => c.length - k) (fun k => [(0, .slice sa n sc), (1, .slice (some ⟨b, off, none⟩) c.length cc), (5, .int .i64 k)]) (fun _ => []) 0 ⟨by omega, rfl⟩ ⟨rfl, rfl, rfl, trivial⟩ (by repeat (first | exact Sp.nil | exact Sp.refl _ | refine Sp.cons (by repeat constructor) ?_)) ?_
  rintro k ⟨hk, hall⟩ K hK
  ((iterate 2 refine q_seq ?_); refine q_region ?_; (iterate 4 refine ql_pure tabOk rfl rfl ?_); refine q_nil ?_)
  refine q_if rfl (fun hc => ?_) (fun hc => ?_)
  · have hk2 : k < c.length := by omega
    clear hc
    have e : inL n (c.take (k + 1)) = wiB c[k] 0 ((n : Int) - 1) := by
      unfold inL at hall ⊢
      rw [List.take_succ_eq_append_getElem hk2, List.all_append, hall]
      simp
    have e2 : wiB c[k] 0 ((n : Int) - 1) = false → inL n c = false := fun hh => List.all_eq_false.2 ⟨c[k], List.getElem_mem hk2, by simp [hh]⟩
    (refine q_skip ?_; refine q_seq ?_; refine q_block ?_; refine q_seq ?_; refine q_region ?_; (iterate 2 refine ql_pure tabOk rfl rfl ?_))
    (refine ql_index tabOk rfl rfl rfl rfl rfl (by omega) (by omega) ?_; refine ql_load1 tabOk rfl rfl rfl (fun w hs => RdI.at (RdE.keep h hs.chg0) k hk2) ?_)
    ((iterate 2 refine ql_pure tabOk rfl rfl ?_); refine ql_ar tabOk rfl rfl rfl rfl (by omega) (by omega) ?_)
    refine ql_callv (val := .bool (!(wiB c[k] 0 ((n : Int) - 1)))) tabOk rfl rfl rfl rfl (fun w hs => ?_) ?_; exact out_ca c[k] 0 ((n : Int) - 1) w
    cases g1 : wiB c[k] 0 ((n : Int) - 1) with
    | false =>
      (refine q_nil ?_; refine q_cond_true rfl ?_; refine q_seq ?_; refine q_region ?_; refine ql_pure tabOk rfl rfl ?_; refine q_nil ?_; refine q_ret ?_)
      refine q_fin tabOk rfl (by repeat (first | exact RVs.nil | apply RVs.tmp rfl | apply RVs.cellA rfl rfl (by repeat first | exact .head _ | refine .tail _ ?_) (by rfl) | apply RVs.cell1 rfl rfl (by repeat first | exact .head _ | refine .tail _ ?_))) fun w hs => ?_
      exact ⟨by rw [eC, e2 g1]; rfl, hs.chg0⟩
    | true =>
    (refine q_nil ?_; refine q_cond_false rfl ?_; refine q_skip ?_; refine q_blk ?_; refine q_region ?_; refine ql_pure tabOk rfl rfl ?_; refine ql_ar tabOk rfl rfl rfl rfl (by omega) (by omega) ?_; refine ql_pure tabOk rfl rfl ?_; refine q_nil ?_)
    exact hK (k + 1) _ _ ⟨by omega, by rw [e, g1]⟩ (by omega) ⟨rfl, rfl, rfl, trivial⟩ (by repeat (first | exact Sp.nil | exact Sp.refl _ | refine Sp.cons (by repeat constructor) ?_))
  · obtain rfl : k = c.length := by omega
    rw [List.take_length] at hall
    clear hc hK
    rw [hall] at eC
    (refine q_exit _ rfl ?_; (iterate 2 refine q_seq ?_); refine q_region ?_; refine ql_pure tabOk rfl rfl ?_; refine q_nil ?_; refine q_block ?_)
    refine q_loop (σ := Nat) (fun k => k + 1 ≤ c.length ∧ ordB c k = true) (fun k => c.length - k) (fun k => [(1, .slice (some ⟨b, off, none⟩) c.length cc), (6, .int .i64 ((k : Int) + 1))]) (fun _ => []) 0 ⟨by omega, rfl⟩ ⟨rfl, rfl, trivial⟩ (by repeat (first | exact Sp.nil | exact Sp.refl _ | refine Sp.cons (by repeat constructor) ?_)) ?_
    rintro k ⟨hk, hall⟩ K hK
    ((iterate 2 refine q_seq ?_); refine q_region ?_; (iterate 4 refine ql_pure tabOk rfl rfl ?_); refine q_nil ?_)
    refine q_if rfl (fun hc => ?_) (fun hc => ?_)
    · have hk2 : k + 1 < c.length := by omega
      have hk3 : k < c.length := by omega
      clear hc
      have es := ordB_succ c k
      have en := ordB_no (c := c) (k := k) (n := c.length - 1) (by omega)
      rw [← ordB_srt] at en
      rw [getD_at hk2, getD_at hk3] at es en
      (refine q_skip ?_; refine q_seq ?_; refine q_block ?_; refine q_seq ?_)
      refine q_draw _ [] (Sp.refl _) (by kernel_rfl) (by kernel_rfl) ?_
      ((iterate 2 refine qf_pure tabOk rfl rfl rfl ?_))
      refine qf_index tabOk rfl rfl rfl rfl rfl (by omega) (by omega) ?_
      refine qf_load1 (v := .int .i64 c[k + 1]) tabOk rfl rfl rfl (fun w hs => RdI.at (RdE.keep h hs.chg0) (k + 1) hk2) ?_
      ((iterate 2 refine qf_pure tabOk rfl rfl rfl ?_); refine qf_ar tabOk rfl rfl rfl rfl (by omega) (by omega) ?_)
      refine qf_index tabOk rfl rfl rfl rfl rfl (by omega) (by omega) ?_
      refine qf_load1 (v := .int .i64 c[k]) tabOk rfl rfl rfl (fun w hs => by have := RdI.at (RdE.keep h hs.chg0) k hk3; rwa [show ((k : Int) + 1 - 1).toNat = (k : Int).toNat by omega]) ?_
      generalize c[k + 1] = p at *
      generalize c[k] = q at *
      by_cases hpq : p < q
      · (refine qf_lssT tabOk rfl rfl rfl (by omega) ?_; refine qf_nil ?_; refine q_cond_true rfl ?_; refine q_seq ?_; refine q_region ?_; refine ql_pure tabOk rfl rfl ?_; refine q_nil ?_; refine q_ret ?_)
        refine q_fin tabOk rfl (by repeat (first | exact RVs.nil | apply RVs.tmp rfl | apply RVs.cellA rfl rfl (by repeat first | exact .head _ | refine .tail _ ?_) (by rfl) | apply RVs.cell1 rfl rfl (by repeat first | exact .head _ | refine .tail _ ?_))) fun w hs => ?_
        exact ⟨by rw [eC, en hpq]; rfl, hs.chg0⟩
      · (refine qf_lssF tabOk rfl rfl rfl (by omega) ?_; refine qf_nil ?_; refine q_cond_false rfl ?_; refine q_skip ?_; refine q_blk ?_; refine q_region ?_; refine ql_pure tabOk rfl rfl ?_; refine ql_ar tabOk rfl rfl rfl rfl (by omega) (by omega) ?_; refine ql_pure tabOk rfl rfl ?_; refine q_nil ?_)
        exact hK (k + 1) _ _ ⟨by omega, by rw [es, hall]; simp; omega⟩ (by omega) ⟨rfl, rfl, trivial⟩ (by repeat (first | exact Sp.nil | exact Sp.refl _ | refine Sp.cons (by repeat constructor) ?_))
    · obtain rfl : k = c.length - 1 := by omega
      rw [← ordB_srt] at hall
      rw [hall] at eC
      (refine q_exit _ rfl ?_; refine q_seq ?_; refine q_region ?_; refine ql_pure tabOk rfl rfl ?_; refine q_nil ?_; refine q_ret ?_)
      refine q_fin tabOk rfl (by repeat (first | exact RVs.nil | apply RVs.tmp rfl | apply RVs.cellA rfl rfl (by repeat first | exact .head _ | refine .tail _ ?_) (by rfl) | apply RVs.cell1 rfl rfl (by repeat first | exact .head _ | refine .tail _ ?_))) fun w hs => ?_
      exact ⟨by rw [eC]; rfl, hs.chg0⟩
end Go.Proofs.Ytgeajgmefokifaa

/- Walks of the reference: how often a loop occurs; which rules a course breaks. -/
namespace Go.Proofs.Ytgeajgmefokifaa
open Go Go.Eng

theorem lookV {e : Env} {t : Nat} {v u : Value} (h : Eng.look e t = some v) (hv : v = u) : Eng.look e t = some u := hv ▸ h
set_option maxHeartbeats 1000000 in
theorem ruses_ca (w : World) (lo hi : Nat) (v : Value) (c : List Int) (x : Int) (h : RdI w lo hi v c) (hlen : c.length ≤ 1000000) :
    Ca Try.prog 117 [v, .int .i64 x] w fun r w' => r = .int .i64 (cntI c x) ∧ Chg [] w w' := by
  obtain ⟨a, cc, rfl, hsa⟩ := RdI.outI h
  refine q_of (Sat.nil w M0) Try.func117 rfl (by simp [Try.ntmps117]) ?_
  (refine q_seq ?_; refine q_region ?_; refine ql_pure tabOk rfl rfl ?_; refine q_nil ?_; refine q_seq ?_; refine q_region ?_; refine ql_pure tabOk rfl rfl ?_; refine q_nil ?_; (iterate 2 refine q_seq ?_); refine q_region ?_; refine ql_pure tabOk rfl rfl ?_; refine q_nil ?_; refine q_block ?_)
  refine q_loop (σ := Nat) (fun k => k ≤ c.length) (fun k => c.length - k) (fun k => [(0, .slice a c.length cc), (1, .int .i64 x), (5, .int .i64 (cntI (c.take k) x)), (6, .int .i64 k)]) (fun _ => []) 0 (by omega) ⟨rfl, rfl, rfl, rfl, trivial⟩ (by repeat (first | exact Sp.nil | exact Sp.refl _ | refine Sp.cons (by repeat constructor) ?_)) ?_
  rintro k hk K hK
  ((iterate 2 refine q_seq ?_); refine q_region ?_; (iterate 4 refine ql_pure tabOk rfl rfl ?_); refine q_nil ?_)
  refine q_if rfl (fun hc => ?_) (fun hc => ?_)
  · have hk2 : k < c.length := by omega
    clear hc
    obtain ⟨b, off, rfl⟩ := hsa (by omega)
    have e := cnt_take_succ c x k hk2
    have hb := cnt_le (c := c.take k) (i := x)
    rw [List.length_take] at hb
    (refine q_skip ?_; refine q_seq ?_; refine q_block ?_; refine q_seq ?_; refine q_region ?_; (iterate 2 refine ql_pure tabOk rfl rfl ?_))
    (refine ql_index tabOk rfl rfl rfl rfl rfl (by omega) (by omega) ?_; refine ql_load1 tabOk rfl rfl rfl (fun w hs => RdI.at (RdE.keep h hs.chg0) k hk2) ?_)
    generalize c[k] = q at *
    by_cases hq : q = x
    · rw [if_pos hq] at e
      (refine ql_pure tabOk rfl rfl ?_; refine ql_eqlT tabOk rfl rfl rfl (by omega) ?_; refine q_nil ?_; refine q_cond_true rfl ?_; refine q_region ?_; refine ql_pure tabOk rfl rfl ?_; refine ql_ar tabOk rfl rfl rfl rfl (by omega) (by omega) ?_; refine ql_pure tabOk rfl rfl ?_; refine q_nil ?_; refine q_blk ?_; refine q_region ?_; refine ql_pure tabOk rfl rfl ?_; refine ql_ar tabOk rfl rfl rfl rfl (by omega) (by omega) ?_; refine ql_pure tabOk rfl rfl ?_; refine q_nil ?_)
      exact hK (k + 1) _ _ (by omega) (by omega) ⟨rfl, rfl, lookI rfl (by omega), rfl, trivial⟩ (by repeat (first | exact Sp.nil | exact Sp.refl _ | refine Sp.cons (by repeat constructor) ?_))
    · rw [if_neg hq] at e
      (refine ql_pure tabOk rfl rfl ?_; refine ql_eqlF tabOk rfl rfl rfl (by omega) ?_; refine q_nil ?_; refine q_cond_false rfl ?_; refine q_skip ?_; refine q_blk ?_; refine q_region ?_; refine ql_pure tabOk rfl rfl ?_; refine ql_ar tabOk rfl rfl rfl rfl (by omega) (by omega) ?_; refine ql_pure tabOk rfl rfl ?_; refine q_nil ?_)
      exact hK (k + 1) _ _ (by omega) (by omega) ⟨rfl, rfl, lookI rfl (by omega), rfl, trivial⟩ (by repeat (first | exact Sp.nil | exact Sp.refl _ | refine Sp.cons (by repeat constructor) ?_))
  · obtain rfl : k = c.length := by omega
    rw [List.take_length]
    (refine q_exit _ rfl ?_; refine q_seq ?_; refine q_region ?_; (iterate 2 refine ql_pure tabOk rfl rfl ?_); refine q_nil ?_; refine q_ret ?_)
    refine q_fin tabOk rfl (by repeat (first | exact RVs.nil | apply RVs.tmp rfl | apply RVs.cellA rfl rfl (by repeat first | exact .head _ | refine .tail _ ?_) (by rfl) | apply RVs.cell1 rfl rfl (by repeat first | exact .head _ | refine .tail _ ?_))) fun w hs => ?_
    exact ⟨rfl, hs.chg0⟩
def oftP (r : Rl) (c : List Int) (k : Nat) : Bool := (c.take k).any fun i => decide (r.uses < cntI c i) && true
set_option maxHeartbeats 8000000 in
theorem rbroken_ca (w : World) (lo hi lo2 hi9 : Nat) (a : Option Addr) (cp : Nat) (v : Value) (s : List Lp) (r : Rl) (c : List Int) (h : RdL w lo hi (.slice a s.length cp) s) (hcr : CR s r) (hv : RdI w lo2 hi9 v c) (hc1 : ∀ x ∈ c, 0 ≤ x ∧ x < s.length) (h6 : c.length ≤ 6) :
    Ca Try.prog 98 [.slice a s.length cp, .agg (rlC r).toArray, v] w fun x w' => ∃ u : Value, x = u ∧ Sat w M0 [.ow u 3 1 (brkL s r c).length (ints (brkL s r c))] w' := by
  obtain ⟨av, cv, rfl, hsv⟩ := RdI.outI hv
  obtain ⟨_, _, e0, hsa⟩ := RdL.outI h
  cases e0
  have hn2 := hcr.s.n2
  have hu := hcr.r.uses
  refine q_of (Sat.nil w M0) Try.func98 rfl (by simp [Try.ntmps98]) ?_
  (refine q_seq ?_; refine q_region ?_)
  refine ql_box rfl rfl (fun b4 => ?_)
  (refine ql_pure tabOk rfl rfl ?_; refine q_nil ?_; refine q_seq ?_; refine q_region ?_; (iterate 2 refine ql_pure tabOk rfl rfl ?_); refine q_nil ?_; refine q_seq ?_; refine q_region ?_; (iterate 3 refine ql_pure tabOk rfl rfl ?_); refine q_nil ?_; (iterate 2 refine q_seq ?_); refine q_region ?_; refine ql_pure tabOk rfl rfl ?_; refine q_nil ?_; refine q_block ?_)
  refine q_loop (σ := Nat) (fun k => k ≤ c.length) (fun k => c.length - k) (fun k => [(0, .slice a s.length cp), (2, .slice av c.length cv), (4, .pointer (some ⟨b4, 0, none⟩)), (7, .int .i64 (lenP s c k)), (8, .int .i64 (clbP s c k)), (9, .bool (lapP s r c k)), (10, .bool (widP s r c k)), (11, .bool (oftP r c k)), (12, .int .i64 k)]) (fun _ => [.pt b4 (rlC r) 38]) 0 (by omega) ⟨rfl, rfl, rfl, rfl, rfl, rfl, rfl, rfl, rfl, trivial⟩ (by repeat (first | exact Sp.nil | exact Sp.refl _ | refine Sp.cons (by repeat constructor) ?_)) ?_
  rintro k hk K hK
  ((iterate 2 refine q_seq ?_); refine q_region ?_; (iterate 4 refine ql_pure tabOk rfl rfl ?_); refine q_nil ?_)
  refine q_if rfl (fun hc => ?_) (fun hc => ?_)
  · have hk2 : k < c.length := by omega
    clear hc
    obtain ⟨bv, ov, rfl⟩ := hsv (by omega)
    have hi := mem_at hc1 hk2
    obtain ⟨ba, oa, rfl⟩ := hsa (by omega)
    have el : lenP s c (k + 1) = lenP s c k + (lpAt s c[k]).len := map_take_sum (fun i => (lpAt s i).len) c k hk2
    have ec : clbP s c (k + 1) = clbP s c k + (lpAt s c[k]).climb := map_take_sum (fun i => (lpAt s i).climb) c k hk2
    have ep : lapP s r c (k + 1) = (lapP s r c k || !wiB (lpAt s c[k]).len r.p0 r.p1) := any_take (fun i => !wiB (lpAt s i).len r.p0 r.p1) c k hk2
    have ew : widP s r c (k + 1) = (widP s r c k || (decide ((lpAt s c[k]).wide < r.wide) && true)) := any_take (fun i => decide ((lpAt s i).wide < r.wide) && true) c k hk2
    have eo : oftP r c (k + 1) = (oftP r c k || (decide (r.uses < cntI c c[k]) && true)) := any_take (fun i => decide (r.uses < cntI c i) && true) c k hk2
    have eat := lpAt_at (s := s) hi
    have hR := lpAt_right hcr.s hi
    have hR1 := hR.len
    have hR2 := hR.climb
    have hR3 := hR.wide
    have hb := lenP_bd hcr.s hc1 k hk h6
    have hcn := cnt_le (c := c) (i := c[k])
    have hca := fun (w' : World) (hc : Chg [] w w') => RdI.at (RdE.keep hv hc) k hk2
    (refine q_skip ?_; refine q_seq ?_; refine q_block ?_; refine q_seq ?_; refine q_region ?_; (iterate 3 refine ql_pure tabOk rfl rfl ?_))
    (refine ql_index tabOk rfl rfl rfl rfl rfl (by omega) (by omega) ?_; refine ql_load1 tabOk rfl rfl rfl (fun w hs => RdI.at (RdE.keep hv hs.chg0) k hk2) ?_)
    generalize c[k] = ck at *
    obtain ⟨i, rfl⟩ := Int.eq_ofNat_of_zero_le hi.1
    have hi2 : i < s.length := by omega
    replace eat : lpAt s (i : Int) = s[i] := eat
    rw [eat] at hR1 hR2 hR3 el ec ep ew
    have hck := fun (w' : World) (hc : Chg [] w w') => ruses_ca w' lo2 hi9 _ c i (RdE.keep hv hc) (by omega)
    clear eat hR
    skip
    refine ql_index tabOk rfl rfl rfl rfl rfl (by omega) (by omega) ?_
    skip
    refine ql_loadA tabOk rfl rfl rfl rfl (fun w hs => RdL.at (RdE.keep h hs.chg0) i hi2) ?_
    skip
    refine ql_alloc zero147 rfl (fun b13 => ?_)
    generalize s[i] = lp at *
    obtain ⟨ln, cl, wd⟩ := lp
    dsimp only at hR1 hR2 hR3 el ec ep ew ⊢
    generalize lenP s c k = LL at *
    generalize clbP s c k = CC at *
    generalize lapP s r c k = pP at *
    cases pP with
    | true =>
      generalize widP s r c k = wP at *
      cases wP with
      | true =>
        generalize oftP r c k = oP at *
        cases oP with
        | true =>
          (refine ql_setA tabOk rfl rfl rfl rfl rfl (by repeat constructor) rfl ?_; refine q_nil ?_; refine q_seq ?_; refine q_region ?_; (iterate 2 refine ql_pure tabOk rfl rfl ?_); refine ql_loadB tabOk rfl rfl rfl (by repeat first | exact .head _ | refine .tail _ ?_) (by rfl) ?_; refine ql_ar tabOk rfl rfl rfl rfl (by omega) (by omega) ?_; refine ql_pure tabOk rfl rfl ?_; refine q_nil ?_; refine q_seq ?_; refine q_region ?_; (iterate 2 refine ql_pure tabOk rfl rfl ?_); refine ql_loadB tabOk rfl rfl rfl (by repeat first | exact .head _ | refine .tail _ ?_) (by rfl) ?_; refine ql_ar tabOk rfl rfl rfl rfl (by omega) (by omega) ?_; refine ql_pure tabOk rfl rfl ?_; refine q_nil ?_; refine q_seq ?_; refine q_region ?_; (iterate 2 refine ql_pure tabOk rfl rfl ?_); (iterate 9 refine ql_gno rfl rfl rfl ?_); (iterate 2 refine ql_pure tabOk rfl rfl ?_); refine q_nil ?_; refine q_seq ?_; refine q_region ?_; (iterate 2 refine ql_pure tabOk rfl rfl ?_); (iterate 5 refine ql_gno rfl rfl rfl ?_); (iterate 2 refine ql_pure tabOk rfl rfl ?_); refine q_nil ?_)
          refine q_draw _ [] (Sp.refl _) (by kernel_rfl) (by kernel_rfl) ?_
          ((iterate 2 refine qf_pure tabOk rfl rfl rfl ?_); (iterate 9 refine qf_gno rfl rfl rfl ?_); (iterate 2 refine qf_pure tabOk rfl rfl rfl ?_); refine qf_nil ?_; refine q_blk ?_; refine q_region ?_; refine ql_pure tabOk rfl rfl ?_; refine ql_ar tabOk rfl rfl rfl rfl (by omega) (by omega) ?_; refine ql_pure tabOk rfl rfl ?_; refine q_nil ?_)
          exact hK (k + 1) _ _ (by omega) (by omega) ⟨rfl, rfl, rfl, lookI rfl (by omega), lookI rfl (by omega), lookV rfl (by rw [ep]; simp), lookV rfl (by rw [ew]; simp), lookV rfl (by rw [eo]; simp), rfl, trivial⟩ (by repeat (first | exact Sp.nil | exact Sp.refl _ | refine Sp.cons (by repeat constructor) ?_))
        | false =>
          (refine ql_setA tabOk rfl rfl rfl rfl rfl (by repeat constructor) rfl ?_; refine q_nil ?_; refine q_seq ?_; refine q_region ?_; (iterate 2 refine ql_pure tabOk rfl rfl ?_); refine ql_loadB tabOk rfl rfl rfl (by repeat first | exact .head _ | refine .tail _ ?_) (by rfl) ?_; refine ql_ar tabOk rfl rfl rfl rfl (by omega) (by omega) ?_; refine ql_pure tabOk rfl rfl ?_; refine q_nil ?_; refine q_seq ?_; refine q_region ?_; (iterate 2 refine ql_pure tabOk rfl rfl ?_); refine ql_loadB tabOk rfl rfl rfl (by repeat first | exact .head _ | refine .tail _ ?_) (by rfl) ?_; refine ql_ar tabOk rfl rfl rfl rfl (by omega) (by omega) ?_; refine ql_pure tabOk rfl rfl ?_; refine q_nil ?_; refine q_seq ?_; refine q_region ?_; (iterate 2 refine ql_pure tabOk rfl rfl ?_); (iterate 9 refine ql_gno rfl rfl rfl ?_); (iterate 2 refine ql_pure tabOk rfl rfl ?_); refine q_nil ?_; refine q_seq ?_; refine q_region ?_; (iterate 2 refine ql_pure tabOk rfl rfl ?_); (iterate 5 refine ql_gno rfl rfl rfl ?_); (iterate 2 refine ql_pure tabOk rfl rfl ?_); refine q_nil ?_)
          refine q_draw _ [] (Sp.refl _) (by kernel_rfl) (by kernel_rfl) ?_
          ((iterate 2 refine qf_pure tabOk rfl rfl rfl ?_); refine qf_gyes rfl ?_; refine qf_pure tabOk rfl rfl rfl ?_; refine qf_gyes rfl ?_; refine qf_pure tabOk rfl rfl rfl ?_; refine qf_gyes rfl ?_; refine qf_pure tabOk rfl rfl rfl ?_; refine qf_gyes rfl ?_)
          refine qf_index tabOk rfl rfl rfl rfl rfl (by omega) (by omega) ?_
          (refine qf_gyes rfl ?_)
          refine qf_load1 (v := .int .i64 i) tabOk rfl rfl rfl (fun w hs => hca w hs.chg0) ?_
          (refine qf_gyes rfl ?_)
          refine qf_callv (val := .int .i64 (cntI c i)) tabOk rfl rfl rfl rfl (fun w hs => ?_) ?_; exact hck w hs.chg0
          (refine qf_gyes rfl ?_; refine qf_pure tabOk rfl rfl rfl ?_; refine qf_gyes rfl ?_; refine qf_loadB tabOk rfl rfl rfl (by repeat first | exact .head _ | refine .tail _ ?_) (by rfl) ?_; refine qf_gyes rfl ?_; (iterate 3 refine qf_pure tabOk rfl rfl rfl ?_); refine qf_nil ?_; refine q_blk ?_; refine q_region ?_; refine ql_pure tabOk rfl rfl ?_; refine ql_ar tabOk rfl rfl rfl rfl (by omega) (by omega) ?_; refine ql_pure tabOk rfl rfl ?_; refine q_nil ?_)
          exact hK (k + 1) _ _ (by omega) (by omega) ⟨rfl, rfl, rfl, lookI rfl (by omega), lookI rfl (by omega), lookV rfl (by rw [ep]; simp), lookV rfl (by rw [ew]; simp), lookV rfl (by rw [eo]; simp), rfl, trivial⟩ (by repeat (first | exact Sp.nil | exact Sp.refl _ | refine Sp.cons (by repeat constructor) ?_))
      | false =>
        generalize oftP r c k = oP at *
        cases oP with
        | true =>
          (refine ql_setA tabOk rfl rfl rfl rfl rfl (by repeat constructor) rfl ?_; refine q_nil ?_; refine q_seq ?_; refine q_region ?_; (iterate 2 refine ql_pure tabOk rfl rfl ?_); refine ql_loadB tabOk rfl rfl rfl (by repeat first | exact .head _ | refine .tail _ ?_) (by rfl) ?_; refine ql_ar tabOk rfl rfl rfl rfl (by omega) (by omega) ?_; refine ql_pure tabOk rfl rfl ?_; refine q_nil ?_; refine q_seq ?_; refine q_region ?_; (iterate 2 refine ql_pure tabOk rfl rfl ?_); refine ql_loadB tabOk rfl rfl rfl (by repeat first | exact .head _ | refine .tail _ ?_) (by rfl) ?_; refine ql_ar tabOk rfl rfl rfl rfl (by omega) (by omega) ?_; refine ql_pure tabOk rfl rfl ?_; refine q_nil ?_; refine q_seq ?_; refine q_region ?_; (iterate 2 refine ql_pure tabOk rfl rfl ?_); (iterate 9 refine ql_gno rfl rfl rfl ?_); (iterate 2 refine ql_pure tabOk rfl rfl ?_); refine q_nil ?_; refine q_seq ?_; refine q_region ?_; (iterate 2 refine ql_pure tabOk rfl rfl ?_); refine ql_gyes rfl ?_; refine ql_pure tabOk rfl rfl ?_; refine ql_gyes rfl ?_; refine ql_loadB tabOk rfl rfl rfl (by repeat first | exact .head _ | refine .tail _ ?_) (by rfl) ?_; refine ql_gyes rfl ?_; refine ql_pure tabOk rfl rfl ?_; refine ql_gyes rfl ?_; refine ql_loadB tabOk rfl rfl rfl (by repeat first | exact .head _ | refine .tail _ ?_) (by rfl) ?_; refine ql_gyes rfl ?_; (iterate 3 refine ql_pure tabOk rfl rfl ?_); refine q_nil ?_)
          refine q_draw _ [] (Sp.refl _) (by kernel_rfl) (by kernel_rfl) ?_
          ((iterate 2 refine qf_pure tabOk rfl rfl rfl ?_); (iterate 9 refine qf_gno rfl rfl rfl ?_); (iterate 2 refine qf_pure tabOk rfl rfl rfl ?_); refine qf_nil ?_; refine q_blk ?_; refine q_region ?_; refine ql_pure tabOk rfl rfl ?_; refine ql_ar tabOk rfl rfl rfl rfl (by omega) (by omega) ?_; refine ql_pure tabOk rfl rfl ?_; refine q_nil ?_)
          exact hK (k + 1) _ _ (by omega) (by omega) ⟨rfl, rfl, rfl, lookI rfl (by omega), lookI rfl (by omega), lookV rfl (by rw [ep]; simp), lookV rfl (by rw [ew]; simp), lookV rfl (by rw [eo]; simp), rfl, trivial⟩ (by repeat (first | exact Sp.nil | exact Sp.refl _ | refine Sp.cons (by repeat constructor) ?_))
        | false =>
          (refine ql_setA tabOk rfl rfl rfl rfl rfl (by repeat constructor) rfl ?_; refine q_nil ?_; refine q_seq ?_; refine q_region ?_; (iterate 2 refine ql_pure tabOk rfl rfl ?_); refine ql_loadB tabOk rfl rfl rfl (by repeat first | exact .head _ | refine .tail _ ?_) (by rfl) ?_; refine ql_ar tabOk rfl rfl rfl rfl (by omega) (by omega) ?_; refine ql_pure tabOk rfl rfl ?_; refine q_nil ?_; refine q_seq ?_; refine q_region ?_; (iterate 2 refine ql_pure tabOk rfl rfl ?_); refine ql_loadB tabOk rfl rfl rfl (by repeat first | exact .head _ | refine .tail _ ?_) (by rfl) ?_; refine ql_ar tabOk rfl rfl rfl rfl (by omega) (by omega) ?_; refine ql_pure tabOk rfl rfl ?_; refine q_nil ?_; refine q_seq ?_; refine q_region ?_; (iterate 2 refine ql_pure tabOk rfl rfl ?_); (iterate 9 refine ql_gno rfl rfl rfl ?_); (iterate 2 refine ql_pure tabOk rfl rfl ?_); refine q_nil ?_; refine q_seq ?_; refine q_region ?_; (iterate 2 refine ql_pure tabOk rfl rfl ?_); refine ql_gyes rfl ?_; refine ql_pure tabOk rfl rfl ?_; refine ql_gyes rfl ?_; refine ql_loadB tabOk rfl rfl rfl (by repeat first | exact .head _ | refine .tail _ ?_) (by rfl) ?_; refine ql_gyes rfl ?_; refine ql_pure tabOk rfl rfl ?_; refine ql_gyes rfl ?_; refine ql_loadB tabOk rfl rfl rfl (by repeat first | exact .head _ | refine .tail _ ?_) (by rfl) ?_; refine ql_gyes rfl ?_; (iterate 3 refine ql_pure tabOk rfl rfl ?_); refine q_nil ?_)
          refine q_draw _ [] (Sp.refl _) (by kernel_rfl) (by kernel_rfl) ?_
          ((iterate 2 refine qf_pure tabOk rfl rfl rfl ?_); refine qf_gyes rfl ?_; refine qf_pure tabOk rfl rfl rfl ?_; refine qf_gyes rfl ?_; refine qf_pure tabOk rfl rfl rfl ?_; refine qf_gyes rfl ?_; refine qf_pure tabOk rfl rfl rfl ?_; refine qf_gyes rfl ?_)
          refine qf_index tabOk rfl rfl rfl rfl rfl (by omega) (by omega) ?_
          (refine qf_gyes rfl ?_)
          refine qf_load1 (v := .int .i64 i) tabOk rfl rfl rfl (fun w hs => hca w hs.chg0) ?_
          (refine qf_gyes rfl ?_)
          refine qf_callv (val := .int .i64 (cntI c i)) tabOk rfl rfl rfl rfl (fun w hs => ?_) ?_; exact hck w hs.chg0
          (refine qf_gyes rfl ?_; refine qf_pure tabOk rfl rfl rfl ?_; refine qf_gyes rfl ?_; refine qf_loadB tabOk rfl rfl rfl (by repeat first | exact .head _ | refine .tail _ ?_) (by rfl) ?_; refine qf_gyes rfl ?_; (iterate 3 refine qf_pure tabOk rfl rfl rfl ?_); refine qf_nil ?_; refine q_blk ?_; refine q_region ?_; refine ql_pure tabOk rfl rfl ?_; refine ql_ar tabOk rfl rfl rfl rfl (by omega) (by omega) ?_; refine ql_pure tabOk rfl rfl ?_; refine q_nil ?_)
          exact hK (k + 1) _ _ (by omega) (by omega) ⟨rfl, rfl, rfl, lookI rfl (by omega), lookI rfl (by omega), lookV rfl (by rw [ep]; simp), lookV rfl (by rw [ew]; simp), lookV rfl (by rw [eo]; simp), rfl, trivial⟩ (by repeat (first | exact Sp.nil | exact Sp.refl _ | refine Sp.cons (by repeat constructor) ?_))
    | false =>
      (refine ql_setA tabOk rfl rfl rfl rfl rfl (by repeat constructor) rfl ?_; refine q_nil ?_; refine q_seq ?_; refine q_region ?_; (iterate 2 refine ql_pure tabOk rfl rfl ?_); refine ql_loadB tabOk rfl rfl rfl (by repeat first | exact .head _ | refine .tail _ ?_) (by rfl) ?_; refine ql_ar tabOk rfl rfl rfl rfl (by omega) (by omega) ?_; refine ql_pure tabOk rfl rfl ?_; refine q_nil ?_; refine q_seq ?_; refine q_region ?_; (iterate 2 refine ql_pure tabOk rfl rfl ?_); refine ql_loadB tabOk rfl rfl rfl (by repeat first | exact .head _ | refine .tail _ ?_) (by rfl) ?_; refine ql_ar tabOk rfl rfl rfl rfl (by omega) (by omega) ?_; refine ql_pure tabOk rfl rfl ?_; refine q_nil ?_; refine q_seq ?_; refine q_region ?_; (iterate 2 refine ql_pure tabOk rfl rfl ?_); refine ql_gyes rfl ?_; refine ql_pure tabOk rfl rfl ?_; refine ql_gyes rfl ?_; refine ql_loadB tabOk rfl rfl rfl (by repeat first | exact .head _ | refine .tail _ ?_) (by rfl) ?_; refine ql_gyes rfl ?_; refine ql_pure tabOk rfl rfl ?_; refine ql_gyes rfl ?_; refine ql_pure tabOk rfl rfl ?_; refine ql_gyes rfl ?_; refine ql_loadB tabOk rfl rfl rfl (by repeat first | exact .head _ | refine .tail _ ?_) (by rfl) ?_; refine ql_gyes rfl ?_; refine ql_pure tabOk rfl rfl ?_; refine ql_gyes rfl ?_; refine ql_pure tabOk rfl rfl ?_; refine ql_gyes rfl ?_; refine ql_loadB tabOk rfl rfl rfl (by repeat first | exact .head _ | refine .tail _ ?_) (by rfl) ?_; refine ql_gyes rfl ?_)
      refine ql_callv (val := .bool (!(wiB ln r.p0 r.p1))) tabOk rfl rfl rfl rfl (fun w hs => ?_) ?_; exact out_ca ln r.p0 r.p1 w
      generalize widP s r c k = wP at *
      cases wP with
      | true =>
        generalize oftP r c k = oP at *
        cases oP with
        | true =>
          ((iterate 2 refine ql_pure tabOk rfl rfl ?_); refine q_nil ?_; refine q_seq ?_; refine q_region ?_; (iterate 2 refine ql_pure tabOk rfl rfl ?_); (iterate 5 refine ql_gno rfl rfl rfl ?_); (iterate 2 refine ql_pure tabOk rfl rfl ?_); refine q_nil ?_)
          refine q_draw _ [] (Sp.refl _) (by kernel_rfl) (by kernel_rfl) ?_
          ((iterate 2 refine qf_pure tabOk rfl rfl rfl ?_); (iterate 9 refine qf_gno rfl rfl rfl ?_); (iterate 2 refine qf_pure tabOk rfl rfl rfl ?_); refine qf_nil ?_; refine q_blk ?_; refine q_region ?_; refine ql_pure tabOk rfl rfl ?_; refine ql_ar tabOk rfl rfl rfl rfl (by omega) (by omega) ?_; refine ql_pure tabOk rfl rfl ?_; refine q_nil ?_)
          exact hK (k + 1) _ _ (by omega) (by omega) ⟨rfl, rfl, rfl, lookI rfl (by omega), lookI rfl (by omega), lookV rfl (by rw [ep]; simp), lookV rfl (by rw [ew]; simp), lookV rfl (by rw [eo]; simp), rfl, trivial⟩ (by repeat (first | exact Sp.nil | exact Sp.refl _ | refine Sp.cons (by repeat constructor) ?_))
        | false =>
          ((iterate 2 refine ql_pure tabOk rfl rfl ?_); refine q_nil ?_; refine q_seq ?_; refine q_region ?_; (iterate 2 refine ql_pure tabOk rfl rfl ?_); (iterate 5 refine ql_gno rfl rfl rfl ?_); (iterate 2 refine ql_pure tabOk rfl rfl ?_); refine q_nil ?_)
          refine q_draw _ [] (Sp.refl _) (by kernel_rfl) (by kernel_rfl) ?_
          ((iterate 2 refine qf_pure tabOk rfl rfl rfl ?_); refine qf_gyes rfl ?_; refine qf_pure tabOk rfl rfl rfl ?_; refine qf_gyes rfl ?_; refine qf_pure tabOk rfl rfl rfl ?_; refine qf_gyes rfl ?_; refine qf_pure tabOk rfl rfl rfl ?_; refine qf_gyes rfl ?_)
          refine qf_index tabOk rfl rfl rfl rfl rfl (by omega) (by omega) ?_
          (refine qf_gyes rfl ?_)
          refine qf_load1 (v := .int .i64 i) tabOk rfl rfl rfl (fun w hs => hca w hs.chg0) ?_
          (refine qf_gyes rfl ?_)
          refine qf_callv (val := .int .i64 (cntI c i)) tabOk rfl rfl rfl rfl (fun w hs => ?_) ?_; exact hck w hs.chg0
          (refine qf_gyes rfl ?_; refine qf_pure tabOk rfl rfl rfl ?_; refine qf_gyes rfl ?_; refine qf_loadB tabOk rfl rfl rfl (by repeat first | exact .head _ | refine .tail _ ?_) (by rfl) ?_; refine qf_gyes rfl ?_; (iterate 3 refine qf_pure tabOk rfl rfl rfl ?_); refine qf_nil ?_; refine q_blk ?_; refine q_region ?_; refine ql_pure tabOk rfl rfl ?_; refine ql_ar tabOk rfl rfl rfl rfl (by omega) (by omega) ?_; refine ql_pure tabOk rfl rfl ?_; refine q_nil ?_)
          exact hK (k + 1) _ _ (by omega) (by omega) ⟨rfl, rfl, rfl, lookI rfl (by omega), lookI rfl (by omega), lookV rfl (by rw [ep]; simp), lookV rfl (by rw [ew]; simp), lookV rfl (by rw [eo]; simp), rfl, trivial⟩ (by repeat (first | exact Sp.nil | exact Sp.refl _ | refine Sp.cons (by repeat constructor) ?_))
      | false =>
        generalize oftP r c k = oP at *
        cases oP with
        | true =>
          ((iterate 2 refine ql_pure tabOk rfl rfl ?_); refine q_nil ?_; refine q_seq ?_; refine q_region ?_; (iterate 2 refine ql_pure tabOk rfl rfl ?_); refine ql_gyes rfl ?_; refine ql_pure tabOk rfl rfl ?_; refine ql_gyes rfl ?_; refine ql_loadB tabOk rfl rfl rfl (by repeat first | exact .head _ | refine .tail _ ?_) (by rfl) ?_; refine ql_gyes rfl ?_; refine ql_pure tabOk rfl rfl ?_; refine ql_gyes rfl ?_; refine ql_loadB tabOk rfl rfl rfl (by repeat first | exact .head _ | refine .tail _ ?_) (by rfl) ?_; refine ql_gyes rfl ?_; (iterate 3 refine ql_pure tabOk rfl rfl ?_); refine q_nil ?_)
          refine q_draw _ [] (Sp.refl _) (by kernel_rfl) (by kernel_rfl) ?_
          ((iterate 2 refine qf_pure tabOk rfl rfl rfl ?_); (iterate 9 refine qf_gno rfl rfl rfl ?_); (iterate 2 refine qf_pure tabOk rfl rfl rfl ?_); refine qf_nil ?_; refine q_blk ?_; refine q_region ?_; refine ql_pure tabOk rfl rfl ?_; refine ql_ar tabOk rfl rfl rfl rfl (by omega) (by omega) ?_; refine ql_pure tabOk rfl rfl ?_; refine q_nil ?_)
          exact hK (k + 1) _ _ (by omega) (by omega) ⟨rfl, rfl, rfl, lookI rfl (by omega), lookI rfl (by omega), lookV rfl (by rw [ep]; simp), lookV rfl (by rw [ew]; simp), lookV rfl (by rw [eo]; simp), rfl, trivial⟩ (by repeat (first | exact Sp.nil | exact Sp.refl _ | refine Sp.cons (by repeat constructor) ?_))
        | false =>
          ((iterate 2 refine ql_pure tabOk rfl rfl ?_); refine q_nil ?_; refine q_seq ?_; refine q_region ?_; (iterate 2 refine ql_pure tabOk rfl rfl ?_); refine ql_gyes rfl ?_; refine ql_pure tabOk rfl rfl ?_; refine ql_gyes rfl ?_; refine ql_loadB tabOk rfl rfl rfl (by repeat first | exact .head _ | refine .tail _ ?_) (by rfl) ?_; refine ql_gyes rfl ?_; refine ql_pure tabOk rfl rfl ?_; refine ql_gyes rfl ?_; refine ql_loadB tabOk rfl rfl rfl (by repeat first | exact .head _ | refine .tail _ ?_) (by rfl) ?_; refine ql_gyes rfl ?_; (iterate 3 refine ql_pure tabOk rfl rfl ?_); refine q_nil ?_)
          refine q_draw _ [] (Sp.refl _) (by kernel_rfl) (by kernel_rfl) ?_
          ((iterate 2 refine qf_pure tabOk rfl rfl rfl ?_); refine qf_gyes rfl ?_; refine qf_pure tabOk rfl rfl rfl ?_; refine qf_gyes rfl ?_; refine qf_pure tabOk rfl rfl rfl ?_; refine qf_gyes rfl ?_; refine qf_pure tabOk rfl rfl rfl ?_; refine qf_gyes rfl ?_)
          refine qf_index tabOk rfl rfl rfl rfl rfl (by omega) (by omega) ?_
          (refine qf_gyes rfl ?_)
          refine qf_load1 (v := .int .i64 i) tabOk rfl rfl rfl (fun w hs => hca w hs.chg0) ?_
          (refine qf_gyes rfl ?_)
          refine qf_callv (val := .int .i64 (cntI c i)) tabOk rfl rfl rfl rfl (fun w hs => ?_) ?_; exact hck w hs.chg0
          (refine qf_gyes rfl ?_; refine qf_pure tabOk rfl rfl rfl ?_; refine qf_gyes rfl ?_; refine qf_loadB tabOk rfl rfl rfl (by repeat first | exact .head _ | refine .tail _ ?_) (by rfl) ?_; refine qf_gyes rfl ?_; (iterate 3 refine qf_pure tabOk rfl rfl rfl ?_); refine qf_nil ?_; refine q_blk ?_; refine q_region ?_; refine ql_pure tabOk rfl rfl ?_; refine ql_ar tabOk rfl rfl rfl rfl (by omega) (by omega) ?_; refine ql_pure tabOk rfl rfl ?_; refine q_nil ?_)
          exact hK (k + 1) _ _ (by omega) (by omega) ⟨rfl, rfl, rfl, lookI rfl (by omega), lookI rfl (by omega), lookV rfl (by rw [ep]; simp), lookV rfl (by rw [ew]; simp), lookV rfl (by rw [eo]; simp), rfl, trivial⟩ (by repeat (first | exact Sp.nil | exact Sp.refl _ | refine Sp.cons (by repeat constructor) ?_))
  · obtain rfl : k = c.length := by omega
    clear hc hK
    have e1 : lenP s c c.length = lenS s c := by unfold lenP; rw [List.take_length]; rfl
    have e2 : clbP s c c.length = clbS s c := by unfold clbP; rw [List.take_length]; rfl
    have e3 : lapP s r c c.length = lapB s r c := by unfold lapP; rw [List.take_length]; rfl
    have e4 : widP s r c c.length = widB s r c := by unfold widP; rw [List.take_length]; rfl
    have e5 : oftP r c c.length = oftB r c := by unfold oftP; rw [List.take_length, oftB_eq r c (by omega)]
    rw [e1, e2, e3, e4, e5]
    have eB : brkL s r c = markI [!wiB (lenS s c) r.g0 r.g1, !wiB (clbS s c) r.c0 r.c1, lapB s r c, widB s r c, oftB r c] 0 := rfl
    rw [eB]
    refine q_conv (H' := [.ow (.slice none 0 0) 3 1 (markI [] 0).length (ints (markI [] 0)), .pt b4 (rlC r) 38]) (fun w' hs => Sat.ownil hs 3 1) ?_
    generalize hB2 : lapB s r c = B2
    generalize hB3 : widB s r c = B3
    generalize hB4 : oftB r c = B4
    clear hB2 hB3 hB4
    (refine q_exit _ rfl ?_; refine q_seq ?_; refine q_region ?_; refine ql_pure tabOk rfl rfl ?_; refine q_nil ?_; (iterate 2 refine q_seq ?_); refine q_region ?_; (iterate 3 refine ql_pure tabOk rfl rfl ?_); refine ql_loadB tabOk rfl rfl rfl (by repeat first | exact .head _ | refine .tail _ ?_) (by rfl) ?_; (iterate 2 refine ql_pure tabOk rfl rfl ?_); refine ql_loadB tabOk rfl rfl rfl (by repeat first | exact .head _ | refine .tail _ ?_) (by rfl) ?_)
    refine ql_callv (val := .bool (!(wiB (lenS s c) r.g0 r.g1))) tabOk rfl rfl rfl rfl (fun w hs => ?_) ?_; exact out_ca (lenS s c) r.g0 r.g1 w
    generalize (!wiB (lenS s c) r.g0 r.g1) = B0
    (refine q_nil ?_)
    refine q_cut (σ := Value) (fun u => [(4, .pointer (some ⟨b4, 0, none⟩)), (7, .int .i64 (lenS s c)), (8, .int .i64 (clbS s c)), (9, .bool B2), (10, .bool B3), (11, .bool B4), (14, u)]) (fun u => [.ow u 3 1 (markI [B0] 0).length (ints (markI [B0] 0)), .pt b4 (rlC r) 38]) ?_ (fun K2 hK2 => ?_)
    rotate_left
    · have hml := markI_len [] 0
      simp only [List.length_cons, List.length_nil] at hml
      cases B0 with
      | true =>
        (refine q_cond_true rfl ?_; refine q_region ?_; refine ql_pure tabOk rfl rfl ?_)
        refine ql_mkS 3 [.int .i64 0] rfl (by kernel_rfl) rfl (fun c0 => ?_)
        refine ql_append (q := 1) slI rfl rfl rfl (fun v' => by repeat constructor) (fun w' hs => ⟨_, _, Blk.rd (hs.blk (b := c0) (by repeat first | exact .head _ | refine .tail _ ?_)) rfl 1⟩) (by simp [oneV]) (by omega) (by omega) (fun u0 => ?_)
        rw [show ints (markI [] 0) ++ [.int .i64 0] = ints (markI [true] 0) by rw [show [true] = [] ++ [true] from rfl, markI_snoc]; simp [ints], show (markI [] 0).length + 1 = (markI [true] 0).length by rw [show [true] = [] ++ [true] from rfl, markI_snoc]; simp]
        (refine ql_pure tabOk rfl rfl ?_; refine q_nil ?_)
        exact hK2 u0 _ _ ⟨rfl, rfl, rfl, rfl, rfl, rfl, rfl, trivial⟩ (by repeat (first | exact Sp.nil | exact Sp.refl _ | refine Sp.cons (by repeat constructor) ?_))
      | false =>
        have e : markI [false] 0 = markI [] 0 := by rw [show [false] = [] ++ [false] from rfl, markI_snoc]; simp
        (refine q_cond_false rfl ?_; refine q_skip ?_)
        exact hK2 (.slice none 0 0) _ _ ⟨rfl, rfl, rfl, rfl, rfl, rfl, rfl, trivial⟩ (by rw [e]; repeat (first | exact Sp.nil | exact Sp.refl _ | refine Sp.cons (by repeat constructor) ?_))
    rintro u0
    ((iterate 2 refine q_seq ?_); refine q_region ?_; (iterate 3 refine ql_pure tabOk rfl rfl ?_); refine ql_loadB tabOk rfl rfl rfl (by repeat first | exact .head _ | refine .tail _ ?_) (by rfl) ?_; (iterate 2 refine ql_pure tabOk rfl rfl ?_); refine ql_loadB tabOk rfl rfl rfl (by repeat first | exact .head _ | refine .tail _ ?_) (by rfl) ?_)
    refine ql_callv (val := .bool (!(wiB (clbS s c) r.c0 r.c1))) tabOk rfl rfl rfl rfl (fun w hs => ?_) ?_; exact out_ca (clbS s c) r.c0 r.c1 w
    generalize (!wiB (clbS s c) r.c0 r.c1) = B1
    (refine q_nil ?_)
    refine q_cut (σ := Value) (fun u => [(4, .pointer (some ⟨b4, 0, none⟩)), (7, .int .i64 (lenS s c)), (8, .int .i64 (clbS s c)), (9, .bool B2), (10, .bool B3), (11, .bool B4), (14, u)]) (fun u => [.ow u 3 1 (markI [B0, B1] 0).length (ints (markI [B0, B1] 0)), .pt b4 (rlC r) 38]) ?_ (fun K2 hK2 => ?_)
    rotate_left
    · have hml := markI_len [B0] 0
      simp only [List.length_cons, List.length_nil] at hml
      cases B1 with
      | true =>
        (refine q_cond_true rfl ?_; refine q_region ?_; refine ql_pure tabOk rfl rfl ?_)
        refine ql_mkS 3 [.int .i64 1] rfl (by kernel_rfl) rfl (fun c0 => ?_)
        refine ql_append (q := 1) slI rfl rfl rfl (fun v' => by repeat constructor) (fun w' hs => ⟨_, _, Blk.rd (hs.blk (b := c0) (by repeat first | exact .head _ | refine .tail _ ?_)) rfl 1⟩) (by simp [oneV]) (by omega) (by omega) (fun u0 => ?_)
        rw [show ints (markI [B0] 0) ++ [.int .i64 1] = ints (markI [B0, true] 0) by rw [show [B0, true] = [B0] ++ [true] from rfl, markI_snoc]; simp [ints], show (markI [B0] 0).length + 1 = (markI [B0, true] 0).length by rw [show [B0, true] = [B0] ++ [true] from rfl, markI_snoc]; simp]
        (refine ql_pure tabOk rfl rfl ?_; refine q_nil ?_)
        exact hK2 u0 _ _ ⟨rfl, rfl, rfl, rfl, rfl, rfl, rfl, trivial⟩ (by repeat (first | exact Sp.nil | exact Sp.refl _ | refine Sp.cons (by repeat constructor) ?_))
      | false =>
        have e : markI [B0, false] 0 = markI [B0] 0 := by rw [show [B0, false] = [B0] ++ [false] from rfl, markI_snoc]; simp
        (refine q_cond_false rfl ?_; refine q_skip ?_)
        exact hK2 (u0) _ _ ⟨rfl, rfl, rfl, rfl, rfl, rfl, rfl, trivial⟩ (by rw [e]; repeat (first | exact Sp.nil | exact Sp.refl _ | refine Sp.cons (by repeat constructor) ?_))
    rintro u1
    ((iterate 2 refine q_seq ?_); refine q_region ?_; refine ql_pure tabOk rfl rfl ?_; refine q_nil ?_)
    refine q_cut (σ := Value) (fun u => [(4, .pointer (some ⟨b4, 0, none⟩)), (7, .int .i64 (lenS s c)), (8, .int .i64 (clbS s c)), (9, .bool B2), (10, .bool B3), (11, .bool B4), (14, u)]) (fun u => [.ow u 3 1 (markI [B0, B1, B2] 0).length (ints (markI [B0, B1, B2] 0)), .pt b4 (rlC r) 38]) ?_ (fun K2 hK2 => ?_)
    rotate_left
    · have hml := markI_len [B0, B1] 0
      simp only [List.length_cons, List.length_nil] at hml
      cases B2 with
      | true =>
        (refine q_cond_true rfl ?_; refine q_region ?_; refine ql_pure tabOk rfl rfl ?_)
        refine ql_mkS 3 [.int .i64 2] rfl (by kernel_rfl) rfl (fun c0 => ?_)
        refine ql_append (q := 1) slI rfl rfl rfl (fun v' => by repeat constructor) (fun w' hs => ⟨_, _, Blk.rd (hs.blk (b := c0) (by repeat first | exact .head _ | refine .tail _ ?_)) rfl 1⟩) (by simp [oneV]) (by omega) (by omega) (fun u0 => ?_)
        rw [show ints (markI [B0, B1] 0) ++ [.int .i64 2] = ints (markI [B0, B1, true] 0) by rw [show [B0, B1, true] = [B0, B1] ++ [true] from rfl, markI_snoc]; simp [ints], show (markI [B0, B1] 0).length + 1 = (markI [B0, B1, true] 0).length by rw [show [B0, B1, true] = [B0, B1] ++ [true] from rfl, markI_snoc]; simp]
        (refine ql_pure tabOk rfl rfl ?_; refine q_nil ?_)
        exact hK2 u0 _ _ ⟨rfl, rfl, rfl, rfl, rfl, rfl, rfl, trivial⟩ (by repeat (first | exact Sp.nil | exact Sp.refl _ | refine Sp.cons (by repeat constructor) ?_))
      | false =>
        have e : markI [B0, B1, false] 0 = markI [B0, B1] 0 := by rw [show [B0, B1, false] = [B0, B1] ++ [false] from rfl, markI_snoc]; simp
        (refine q_cond_false rfl ?_; refine q_skip ?_)
        exact hK2 (u1) _ _ ⟨rfl, rfl, rfl, rfl, rfl, rfl, rfl, trivial⟩ (by rw [e]; repeat (first | exact Sp.nil | exact Sp.refl _ | refine Sp.cons (by repeat constructor) ?_))
    rintro u2
    ((iterate 2 refine q_seq ?_); refine q_region ?_; refine ql_pure tabOk rfl rfl ?_; refine q_nil ?_)
    refine q_cut (σ := Value) (fun u => [(4, .pointer (some ⟨b4, 0, none⟩)), (7, .int .i64 (lenS s c)), (8, .int .i64 (clbS s c)), (9, .bool B2), (10, .bool B3), (11, .bool B4), (14, u)]) (fun u => [.ow u 3 1 (markI [B0, B1, B2, B3] 0).length (ints (markI [B0, B1, B2, B3] 0)), .pt b4 (rlC r) 38]) ?_ (fun K2 hK2 => ?_)
    rotate_left
    · have hml := markI_len [B0, B1, B2] 0
      simp only [List.length_cons, List.length_nil] at hml
      cases B3 with
      | true =>
        (refine q_cond_true rfl ?_; refine q_region ?_; refine ql_pure tabOk rfl rfl ?_)
        refine ql_mkS 3 [.int .i64 3] rfl (by kernel_rfl) rfl (fun c0 => ?_)
        refine ql_append (q := 1) slI rfl rfl rfl (fun v' => by repeat constructor) (fun w' hs => ⟨_, _, Blk.rd (hs.blk (b := c0) (by repeat first | exact .head _ | refine .tail _ ?_)) rfl 1⟩) (by simp [oneV]) (by omega) (by omega) (fun u0 => ?_)
        rw [show ints (markI [B0, B1, B2] 0) ++ [.int .i64 3] = ints (markI [B0, B1, B2, true] 0) by rw [show [B0, B1, B2, true] = [B0, B1, B2] ++ [true] from rfl, markI_snoc]; simp [ints], show (markI [B0, B1, B2] 0).length + 1 = (markI [B0, B1, B2, true] 0).length by rw [show [B0, B1, B2, true] = [B0, B1, B2] ++ [true] from rfl, markI_snoc]; simp]
        (refine ql_pure tabOk rfl rfl ?_; refine q_nil ?_)
        exact hK2 u0 _ _ ⟨rfl, rfl, rfl, rfl, rfl, rfl, rfl, trivial⟩ (by repeat (first | exact Sp.nil | exact Sp.refl _ | refine Sp.cons (by repeat constructor) ?_))
      | false =>
        have e : markI [B0, B1, B2, false] 0 = markI [B0, B1, B2] 0 := by rw [show [B0, B1, B2, false] = [B0, B1, B2] ++ [false] from rfl, markI_snoc]; simp
        (refine q_cond_false rfl ?_; refine q_skip ?_)
        exact hK2 (u2) _ _ ⟨rfl, rfl, rfl, rfl, rfl, rfl, rfl, trivial⟩ (by rw [e]; repeat (first | exact Sp.nil | exact Sp.refl _ | refine Sp.cons (by repeat constructor) ?_))
    rintro u3
    ((iterate 2 refine q_seq ?_); refine q_region ?_; refine ql_pure tabOk rfl rfl ?_; refine q_nil ?_)
    refine q_cut (σ := Value) (fun u => [(4, .pointer (some ⟨b4, 0, none⟩)), (7, .int .i64 (lenS s c)), (8, .int .i64 (clbS s c)), (9, .bool B2), (10, .bool B3), (11, .bool B4), (14, u)]) (fun u => [.ow u 3 1 (markI [B0, B1, B2, B3, B4] 0).length (ints (markI [B0, B1, B2, B3, B4] 0)), .pt b4 (rlC r) 38]) ?_ (fun K2 hK2 => ?_)
    rotate_left
    · have hml := markI_len [B0, B1, B2, B3] 0
      simp only [List.length_cons, List.length_nil] at hml
      cases B4 with
      | true =>
        (refine q_cond_true rfl ?_; refine q_region ?_; refine ql_pure tabOk rfl rfl ?_)
        refine ql_mkS 3 [.int .i64 4] rfl (by kernel_rfl) rfl (fun c0 => ?_)
        refine ql_append (q := 1) slI rfl rfl rfl (fun v' => by repeat constructor) (fun w' hs => ⟨_, _, Blk.rd (hs.blk (b := c0) (by repeat first | exact .head _ | refine .tail _ ?_)) rfl 1⟩) (by simp [oneV]) (by omega) (by omega) (fun u0 => ?_)
        rw [show ints (markI [B0, B1, B2, B3] 0) ++ [.int .i64 4] = ints (markI [B0, B1, B2, B3, true] 0) by rw [show [B0, B1, B2, B3, true] = [B0, B1, B2, B3] ++ [true] from rfl, markI_snoc]; simp [ints], show (markI [B0, B1, B2, B3] 0).length + 1 = (markI [B0, B1, B2, B3, true] 0).length by rw [show [B0, B1, B2, B3, true] = [B0, B1, B2, B3] ++ [true] from rfl, markI_snoc]; simp]
        (refine ql_pure tabOk rfl rfl ?_; refine q_nil ?_)
        exact hK2 u0 _ _ ⟨rfl, rfl, rfl, rfl, rfl, rfl, rfl, trivial⟩ (by repeat (first | exact Sp.nil | exact Sp.refl _ | refine Sp.cons (by repeat constructor) ?_))
      | false =>
        have e : markI [B0, B1, B2, B3, false] 0 = markI [B0, B1, B2, B3] 0 := by rw [show [B0, B1, B2, B3, false] = [B0, B1, B2, B3] ++ [false] from rfl, markI_snoc]; simp
        (refine q_cond_false rfl ?_; refine q_skip ?_)
        exact hK2 (u3) _ _ ⟨rfl, rfl, rfl, rfl, rfl, rfl, rfl, trivial⟩ (by rw [e]; repeat (first | exact Sp.nil | exact Sp.refl _ | refine Sp.cons (by repeat constructor) ?_))
    rintro u4
    (refine q_seq ?_; refine q_region ?_; (iterate 2 refine ql_pure tabOk rfl rfl ?_); refine q_nil ?_; refine q_ret ?_)
    refine q_fin tabOk rfl (by repeat (first | exact RVs.nil | apply RVs.tmp rfl | apply RVs.cellA rfl rfl (by repeat first | exact .head _ | refine .tail _ ?_) (by rfl) | apply RVs.cell1 rfl rfl (by repeat first | exact .head _ | refine .tail _ ?_))) fun w hs => ?_
    exact ⟨_, rfl, hs.sp (by repeat (first | exact Sp.nil | exact Sp.refl _ | refine Sp.cons (by repeat constructor) ?_))⟩
end Go.Proofs.Ytgeajgmefokifaa

/- Walk of the reference: all lists of laps. -/
namespace Go.Proofs.Ytgeajgmefokifaa
open Go Go.Eng

/-- The lists that are found among the first numbers. -/
def foundL (n laps m : Nat) : List (List Int) := ((List.range m).map (digL n laps)).filter (fun c => decide (listedV n c = 0))
end Go.Proofs.Ytgeajgmefokifaa

/- Walks of the reference: all right courses. -/
namespace Go.Proofs.Ytgeajgmefokifaa
open Go Go.Eng

section
variable {w0 w : World} {M : Nat → Prop} {H : List Ck} {t t2 : TypeId} {xs : List (Value × List Int)} {u : Value} {c : List Int}
end
end Go.Proofs.Ytgeajgmefokifaa

/- The plain laws of courses: their order, the fewest rules, the least snow. -/
namespace Go.Proofs.Ytgeajgmefokifaa

/-! Lexicographic order -/
/-! The fewest rules -/
end Go.Proofs.Ytgeajgmefokifaa

/- Walks of the reference: Broken, earlier, Yield. -/
namespace Go.Proofs.Ytgeajgmefokifaa
open Go Go.Eng

set_option maxHeartbeats 4000000 in
theorem rbrok_ok (w : World) (lo hi lo2 hi9 : Nat) (a : Option Addr) (cp : Nat) (v : Value) (s : List Lp) (r : Rl) (c : List Int) (h : RdL w lo hi (.slice a s.length cp) s) (hlen : s.length ≤ 1000000) (hv : RdI w lo2 hi9 v c) (hlc : c.length ≤ 1000000) (e : (brokenV s r c).2 = 0) :
    Ca Try.prog 25 [.slice a s.length cp, .agg (rlC r).toArray, v] w fun x w' => ∃ u : Value, x = .tuple #[u, .int .i64 0] ∧ Sat w M0 [.ow u 3 1 (brkL s r c).length (ints (brkL s r c))] w' := by
  have h1 : checkS s r = 0 ∧ listedV s.length c = 0 ∧ (c.length : Int) = r.laps := by
    unfold brokenV at e
    split at e
    · rename_i hh; exact absurd e hh
    · rename_i hh
      split at e
      · rename_i h2; exact absurd e h2
      · rename_i h2
        split at e
        · cases e
        · rename_i h3
          exact ⟨by omega, by omega, by omega⟩
  obtain ⟨h1, h2, h3⟩ := h1
  have hcr := checkS_iff.1 h1
  have hl := listedV_iff.1 h2
  obtain ⟨av, cv, rfl, hsv⟩ := RdI.outI hv
  refine q_of (Sat.nil w M0) Try.func25 rfl (by simp [Try.ntmps25]) ?_
  (refine q_seq ?_; refine q_region ?_)
  refine ql_box rfl rfl (fun b4 => ?_)
  ((iterate 2 refine ql_pure tabOk rfl rfl ?_); refine q_nil ?_; (iterate 2 refine q_seq ?_); refine q_region ?_; refine ql_pure tabOk rfl rfl ?_; refine ql_loadAB tabOk rfl rfl rfl (by repeat first | exact .head _ | refine .tail _ ?_) (by rfl) (by rfl) ?_)
  refine ql_callv (val := .int .i64 0) tabOk rfl rfl rfl rfl (fun w hs => ?_) ?_; exact by have := rcheckS_ca w lo hi a cp s r (RdE.keep h hs.chg0) hlen; rw [h1] at this; exact this
  (refine ql_pure tabOk rfl rfl ?_; refine q_nil ?_; refine q_seq ?_; refine q_region ?_; refine ql_pure tabOk rfl rfl ?_; refine ql_neqF tabOk rfl rfl rfl (by omega) ?_; refine q_nil ?_; refine q_cond_false rfl ?_; refine q_skip ?_; (iterate 2 refine q_seq ?_); refine q_region ?_; (iterate 2 refine ql_pure tabOk rfl rfl ?_))
  refine ql_callv (val := .int .i64 0) tabOk rfl rfl rfl rfl (fun w hs => ?_) ?_; exact by have := rlisted_ca w lo2 hi9 a s.length cp _ c (hv.keep hs.chg0) hlc hlen; rw [h2] at this; exact this
  (refine ql_pure tabOk rfl rfl ?_; refine q_nil ?_; refine q_seq ?_; refine q_region ?_; refine ql_pure tabOk rfl rfl ?_; refine ql_neqF tabOk rfl rfl rfl (by omega) ?_; refine q_nil ?_; refine q_cond_false rfl ?_; refine q_skip ?_; (iterate 2 refine q_seq ?_); refine q_region ?_; (iterate 3 refine ql_pure tabOk rfl rfl ?_); refine ql_loadB tabOk rfl rfl rfl (by repeat first | exact .head _ | refine .tail _ ?_) (by rfl) ?_; refine ql_neqF tabOk rfl rfl rfl (by omega) ?_; refine q_nil ?_; refine q_cond_false rfl ?_; refine q_skip ?_; refine q_seq ?_; refine q_region ?_; refine ql_pure tabOk rfl rfl ?_; refine ql_loadAB tabOk rfl rfl rfl (by repeat first | exact .head _ | refine .tail _ ?_) (by rfl) (by rfl) ?_; refine ql_pure tabOk rfl rfl ?_)
  refine ql_call (β := Value) tabOk [] _ M0 rfl rfl rfl rfl (Sp.refl _) (fun _ h => h.elim) (fun w' hs => rbroken_ca w' lo hi lo2 hi9 a cp _ s r c (RdE.keep h hs.chg0) hcr (hv.keep hs.chg0) hl.2.1 hl.1.2) ?_
  rintro _ u rfl
  refine ql_fact (fun w hs => hs.slice (v := u) (by repeat first | exact .head _ | refine .tail _ ?_)) ?_
  rintro ⟨a1, g1, d1, rfl⟩
  ((iterate 2 refine ql_pure tabOk rfl rfl ?_); refine q_nil ?_; refine q_ret ?_)
  refine q_fin tabOk rfl (by repeat (first | exact RVs.nil | apply RVs.tmp rfl | apply RVs.cellA rfl rfl (by repeat first | exact .head _ | refine .tail _ ?_) (by rfl) | apply RVs.cell1 rfl rfl (by repeat first | exact .head _ | refine .tail _ ?_))) fun w hs => ?_
  exact ⟨_, rfl, hs.sp (by repeat (first | exact Sp.nil | exact Sp.refl _ | refine Sp.cons (by repeat constructor) ?_))⟩
set_option maxHeartbeats 4000000 in
theorem rbrok_no (w : World) (lo hi lo2 hi9 : Nat) (a : Option Addr) (cp : Nat) (v : Value) (s : List Lp) (r : Rl) (c : List Int) (h : RdL w lo hi (.slice a s.length cp) s) (hlen : s.length ≤ 1000000) (hv : RdI w lo2 hi9 v c) (hlc : c.length ≤ 1000000) (e : (brokenV s r c).2 ≠ 0) :
    Ca Try.prog 25 [.slice a s.length cp, .agg (rlC r).toArray, v] w fun x w' => x = .tuple #[.slice none 0 0, .int .i64 (brokenV s r c).2] ∧ Chg [] w w' := by
  obtain ⟨av, cv, rfl, hsv⟩ := RdI.outI hv
  refine q_of (Sat.nil w M0) Try.func25 rfl (by simp [Try.ntmps25]) ?_
  (refine q_seq ?_; refine q_region ?_)
  refine ql_box rfl rfl (fun b4 => ?_)
  ((iterate 2 refine ql_pure tabOk rfl rfl ?_); refine q_nil ?_; (iterate 2 refine q_seq ?_); refine q_region ?_; refine ql_pure tabOk rfl rfl ?_; refine ql_loadAB tabOk rfl rfl rfl (by repeat first | exact .head _ | refine .tail _ ?_) (by rfl) (by rfl) ?_)
  refine ql_callv (val := .int .i64 (checkS s r)) tabOk rfl rfl rfl rfl (fun w hs => ?_) ?_; exact rcheckS_ca w lo hi a cp s r (RdE.keep h hs.chg0) hlen
  by_cases h1 : checkS s r = 0
  · rw [h1]
    (refine ql_pure tabOk rfl rfl ?_; refine q_nil ?_; refine q_seq ?_; refine q_region ?_; refine ql_pure tabOk rfl rfl ?_; refine ql_neqF tabOk rfl rfl rfl (by omega) ?_; refine q_nil ?_; refine q_cond_false rfl ?_; refine q_skip ?_; (iterate 2 refine q_seq ?_); refine q_region ?_; (iterate 2 refine ql_pure tabOk rfl rfl ?_))
    refine ql_callv (val := .int .i64 (listedV s.length c)) tabOk rfl rfl rfl rfl (fun w hs => ?_) ?_; exact rlisted_ca w lo2 hi9 a s.length cp _ c (hv.keep hs.chg0) hlc hlen
    by_cases h2 : listedV s.length c = 0
    · rw [h2]
      by_cases h3 : (c.length : Int) = r.laps
      · exact absurd (by unfold brokenV; rw [if_neg (by omega), if_neg (by omega), if_neg (by omega)]) e
      · have ev : (brokenV s r c).2 = 2 := by unfold brokenV; rw [if_neg (by omega), if_neg (by omega), if_pos h3]
        rw [ev]
        (refine ql_pure tabOk rfl rfl ?_; refine q_nil ?_; refine q_seq ?_; refine q_region ?_; refine ql_pure tabOk rfl rfl ?_; refine ql_neqF tabOk rfl rfl rfl (by omega) ?_; refine q_nil ?_; refine q_cond_false rfl ?_; refine q_skip ?_; (iterate 2 refine q_seq ?_); refine q_region ?_; (iterate 3 refine ql_pure tabOk rfl rfl ?_); refine ql_loadB tabOk rfl rfl rfl (by repeat first | exact .head _ | refine .tail _ ?_) (by rfl) ?_; refine ql_neqT tabOk rfl rfl rfl (by omega) ?_; refine q_nil ?_; refine q_cond_true rfl ?_; refine q_seq ?_; refine q_region ?_; (iterate 2 refine ql_pure tabOk rfl rfl ?_); refine q_nil ?_; refine q_ret ?_)
        refine q_fin tabOk rfl (by repeat (first | exact RVs.nil | apply RVs.tmp rfl | apply RVs.cellA rfl rfl (by repeat first | exact .head _ | refine .tail _ ?_) (by rfl) | apply RVs.cell1 rfl rfl (by repeat first | exact .head _ | refine .tail _ ?_))) fun w hs => ?_
        exact ⟨rfl, hs.chg0⟩
    · have ev : (brokenV s r c).2 = listedV s.length c := by unfold brokenV; rw [if_neg (by omega), if_pos h2]
      rw [ev]
      generalize listedV s.length c = z at *
      (refine ql_pure tabOk rfl rfl ?_; refine q_nil ?_; refine q_seq ?_; refine q_region ?_; refine ql_pure tabOk rfl rfl ?_; refine ql_neqT tabOk rfl rfl rfl (by omega) ?_; refine q_nil ?_; refine q_cond_true rfl ?_; refine q_seq ?_; refine q_region ?_; (iterate 3 refine ql_pure tabOk rfl rfl ?_); refine q_nil ?_; refine q_ret ?_)
      refine q_fin tabOk rfl (by repeat (first | exact RVs.nil | apply RVs.tmp rfl | apply RVs.cellA rfl rfl (by repeat first | exact .head _ | refine .tail _ ?_) (by rfl) | apply RVs.cell1 rfl rfl (by repeat first | exact .head _ | refine .tail _ ?_))) fun w hs => ?_
      exact ⟨rfl, hs.chg0⟩
  · have ev : (brokenV s r c).2 = checkS s r := by unfold brokenV; rw [if_pos h1]
    rw [ev]
    generalize checkS s r = z at *
    (refine ql_pure tabOk rfl rfl ?_; refine q_nil ?_; refine q_seq ?_; refine q_region ?_; refine ql_pure tabOk rfl rfl ?_; refine ql_neqT tabOk rfl rfl rfl (by omega) ?_; refine q_nil ?_; refine q_cond_true rfl ?_; refine q_seq ?_; refine q_region ?_; (iterate 3 refine ql_pure tabOk rfl rfl ?_); refine q_nil ?_; refine q_ret ?_)
    refine q_fin tabOk rfl (by repeat (first | exact RVs.nil | apply RVs.tmp rfl | apply RVs.cellA rfl rfl (by repeat first | exact .head _ | refine .tail _ ?_) (by rfl) | apply RVs.cell1 rfl rfl (by repeat first | exact .head _ | refine .tail _ ?_))) fun w hs => ?_
    exact ⟨rfl, hs.chg0⟩
end Go.Proofs.Ytgeajgmefokifaa

/- Walks of the reference: area, snow, what a volume covers, and the cheapest course. -/
namespace Go.Proofs.Ytgeajgmefokifaa
open Go Go.Eng

def volB (s : List Lp) (depth volume : Int) (c : List Int) : Bool := decide (snowV s c depth ≤ volume) && true
end Go.Proofs.Ytgeajgmefokifaa

/- Walks of the reference: what a volume covers; the cheapest course. -/
namespace Go.Proofs.Ytgeajgmefokifaa
open Go Go.Eng

def ltS (s : List Lp) (depth : Int) (a b : List Int) : Bool := decide (snowV s a depth < snowV s b depth) && true
end Go.Proofs.Ytgeajgmefokifaa

/- Walks of the reference: the error of a weather. -/
namespace Go.Proofs.Ytgeajgmefokifaa
open Go Go.Eng

end Go.Proofs.Ytgeajgmefokifaa

/- Plain laws of what happens, step by step. -/
namespace Go.Proofs.Ytgeajgmefokifaa
open Go Go.Eng

end Go.Proofs.Ytgeajgmefokifaa

/- Walk of the reference: what happens in a weather. -/
namespace Go.Proofs.Ytgeajgmefokifaa
open Go Go.Eng

end Go.Proofs.Ytgeajgmefokifaa

/- Walk of the reference: the ends of a winter's spans. -/
namespace Go.Proofs.Ytgeajgmefokifaa
open Go Go.Eng

end Go.Proofs.Ytgeajgmefokifaa

/- Walks: winters and weathers compared that are equal. -/
namespace Go.Proofs.Ytgeajgmefokifaa
open Go Go.Eng

end Go.Proofs.Ytgeajgmefokifaa

/- Winters that are copied, and whose days are changed. -/
namespace Go.Proofs.Ytgeajgmefokifaa
open Go Go.Eng

/-! The cells of days -/
def fldD (d : Dy) : Nat → Int
  | 0 => d.n0
  | 1 => d.n1
  | 2 => d.m0
  | 3 => d.m1
  | 4 => d.l0
  | _ => d.l1
def setD (d : Dy) (f : Nat) (v : Int) : Dy :=
  match f with
  | 0 => { d with n0 := v }
  | 1 => { d with n1 := v }
  | 2 => { d with m0 := v }
  | 3 => { d with m1 := v }
  | 4 => { d with l0 := v }
  | _ => { d with l1 := v }
/-- Days in a block, with room behind them. -/
abbrev dyB (g : Nat) (l : List Dy) (sp : List Value) : Ck := .pt g (dyC l ++ sp) 73
section
variable {P : Program} {T : Tab} {ro : Cx} {n : Nat} {F : Fin} {w0 : World} {M : Nat → Prop} {k : List It} {ops : Array Oper} {rest : List Oper} {e : Env} {H Hq : List Ck}
end
/-! Copies -/
end Go.Proofs.Ytgeajgmefokifaa

/- Walks: a weather copied. -/
namespace Go.Proofs.Ytgeajgmefokifaa
open Go Go.Eng

theorem cloneI_ca (w : World) (lo hi : Nat) (v : Value) (l : List Int) (h : RdI w lo hi v l) (hlen : l.length ≤ 1000000) : Ca Try.prog 20 [v] w fun r w' => ∃ u : Value, r = u ∧ Sat w M0 [.ow u 3 1 l.length (ints l)] w' := by
  obtain ⟨a, ca, rfl, _⟩ := RdI.outI h
  have hrow : ∀ w', Chg [] w w' → Rd w' lo hi (.slice a l.length ca) 1 l.length (ints l) := fun w' hc => by
    have := (RdE.keep h hc).rd
    rw [cellsOf_ints] at this
    simpa using this
  refine q_of (Sat.nil w M0) Try.func20 rfl (by simp [Try.ntmps20]) ?_
  (refine q_seq ?_; refine q_region ?_; refine ql_pure tabOk rfl rfl ?_; refine q_nil ?_; refine q_seq ?_; refine q_region ?_; refine ql_pure tabOk rfl rfl ?_)
  refine ql_conv (H' := [.ow (.slice none 0 0) 3 1 0 []]) (fun w' hs => Sat.ownil hs 3 1) ?_
  refine ql_append (q := l.length) slI rfl rfl rfl (fun v' => by repeat constructor) (fun w' hs => ⟨lo, hi, hrow w' hs.chg0⟩) (by simp [oneV]) (by omega) (by omega) (fun u => ?_)
  (refine ql_pure tabOk rfl rfl ?_; refine q_nil ?_; refine q_ret ?_)
  refine q_fin tabOk rfl (by repeat (first | exact RVs.nil | apply RVs.tmp rfl | apply RVs.cellA rfl rfl (by repeat first | exact .head _ | refine .tail _ ?_) (by rfl) | apply RVs.cell1 rfl rfl (by repeat first | exact .head _ | refine .tail _ ?_))) fun w hs => ?_
  exact ⟨u, rfl, by simpa using hs⟩
end Go.Proofs.Ytgeajgmefokifaa

/- Walk: a winter of the reference. -/
namespace Go.Proofs.Ytgeajgmefokifaa
open Go Go.Eng

end Go.Proofs.Ytgeajgmefokifaa

/- Walks: whether there are too many days, or numbers. -/
namespace Go.Proofs.Ytgeajgmefokifaa
open Go Go.Eng

def longB (n : Nat) (ll : List (List Int)) : Bool := (ll.any fun l => decide (70 < l.length) && true) || (decide (65 < n) && true)
end Go.Proofs.Ytgeajgmefokifaa

/- Walk of the reference: piles. -/
namespace Go.Proofs.Ytgeajgmefokifaa
open Go Go.Eng

/-- Much is taken from piles, one after the other. -/
structure TkI (much : Int) (l : List Int) (k : Nat) (m : Int) (o : List Int) : Prop where
  kl : k ≤ l.length
  len : o.length = l.length
  mb : 0 ≤ m ∧ m ≤ much
  nn : ∀ x ∈ o, 0 ≤ x ∧ x ≤ 2000000
  eq : rremP much l = o.take k ++ rremP m (o.drop k)
theorem TkI.zero {much : Int} {l : List Int} (h : 0 ≤ much) (hl : ∀ x ∈ l, 0 ≤ x ∧ x ≤ 2000000) : TkI much l 0 much l := ⟨Nat.zero_le _, rfl, ⟨h, Int.le_refl _⟩, hl, by simp⟩
theorem TkI.step {much : Int} {l : List Int} {k : Nat} {m : Int} {o : List Int} (h : TkI much l k m o) (hk : k < o.length) (hm : 0 < m) {n : Int} (hn : n = min o[k] m) : TkI much l (k + 1) (m - n) (o.set k (o[k] - n)) := by
  subst hn
  have h0 := h.nn _ (List.getElem_mem hk)
  refine ⟨by have := h.len; omega, by simp [h.len], by have := h.mb; omega, fun x hx => ?_, ?_⟩
  · rcases List.mem_or_eq_of_mem_set hx with hx | rfl
    · exact h.nn x hx
    · omega
  · rw [h.eq, List.drop_eq_getElem_cons hk, rremP, if_pos (by omega)]
    have e1 : (o.set k (o[k] - min o[k] m)).take (k + 1) = o.take k ++ [o[k] - min o[k] m] := by
      rw [List.take_succ_eq_append_getElem (by simpa using hk), List.take_set_of_le (Nat.le_refl _)]
      simp
    have e2 : (o.set k (o[k] - min o[k] m)).drop (k + 1) = o.drop (k + 1) := by rw [List.drop_set_of_lt (by omega)]
    rw [e1, e2]
    simp
theorem TkI.full {much : Int} {l : List Int} {k : Nat} {m : Int} {o : List Int} (h : TkI much l k m o) (hk : ¬ k < o.length) : o = rremP much l := by
  have h1 := h.len
  have h2 := h.kl
  rw [h.eq, List.drop_eq_nil_of_le (by omega), List.take_of_length_le (by omega)]
  simp [rremP]
theorem TkI.done {much : Int} {l : List Int} {k : Nat} {m : Int} {o : List Int} (h : TkI much l k m o) (hm : ¬ m > 0) : o = rremP much l := by
  obtain rfl : m = 0 := by have := h.mb; omega
  rw [h.eq, rremP_zero, List.take_append_drop]
end Go.Proofs.Ytgeajgmefokifaa

/- Walks of the reference: the first day that can fail; whether a winter is held. -/
namespace Go.Proofs.Ytgeajgmefokifaa
open Go Go.Eng

/-- Whether no day can fail. -/
def heldB (x : Wn) : Bool := decide ((firstV x).2 = 6) && true
end Go.Proofs.Ytgeajgmefokifaa

/- Walk of the reference: proofs. -/
namespace Go.Proofs.Ytgeajgmefokifaa
open Go Go.Eng

/-- What is left, day by day. -/
def lfK (x : Wn) (frm : Int) (i : Nat) : Int := if i ≤ frm.toNat then x.stock else phK x frm (i - 1 - frm.toNat) - (worstW x).need.getD (i - 1) 0
end Go.Proofs.Ytgeajgmefokifaa

/- Plain laws of winters: more stock, more room, more snow made, less need and less loss. -/
namespace Go.Proofs.Ytgeajgmefokifaa
open Go

structure RichD (d d' : Dy) : Prop where
  n : d'.n0 = d.n0 ∧ d.n0 ≤ d'.n1 ∧ d'.n1 ≤ d.n1
  m : d'.m1 = d.m1 ∧ d.m0 ≤ d'.m0 ∧ d'.m0 ≤ d.m1
  l : d'.l0 = d.l0 ∧ d.l0 ≤ d'.l1 ∧ d'.l1 ≤ d.l1
structure RichL (l l' : List Dy) : Prop where
  len : l'.length = l.length
  all : ∀ i (h : i < l.length) (h' : i < l'.length), RichD l[i] l'[i]
end Go.Proofs.Ytgeajgmefokifaa

/- Walks of the reference: the least stock and the least store. -/
namespace Go.Proofs.Ytgeajgmefokifaa
open Go Go.Eng

end Go.Proofs.Ytgeajgmefokifaa

/- Walk of the reference: the ranges of stocks. -/
namespace Go.Proofs.Ytgeajgmefokifaa
open Go Go.Eng

end Go.Proofs.Ytgeajgmefokifaa

/- The walk of CourseOpens. -/
namespace Go.Proofs.Ytgeajgmefokifaa
open Go Go.Eng

end Go.Proofs.Ytgeajgmefokifaa

/- The walk of CourseWinters. -/
namespace Go.Proofs.Ytgeajgmefokifaa
open Go Go.Eng

end Go.Proofs.Ytgeajgmefokifaa

/- Walks: loops copied and turned, rules as numbers, whether there are too many lists; contracts in one piece. -/
namespace Go.Proofs.Ytgeajgmefokifaa
open Go Go.Eng

theorem slLp : SlT Try.prog 22 31 3 24 (.agg #[.int .i64 0, .int .i64 0, .int .i64 0]) := ⟨by kernel_rfl, by kernel_rfl, by kernel_rfl, by decide⟩
theorem slLr : SlT Try.prog 36 147 3 24 (.agg #[.int .i64 0, .int .i64 0, .int .i64 0]) := ⟨by kernel_rfl, by kernel_rfl, by kernel_rfl, by decide⟩
theorem lpC_snoc (l : List Lp) (d : Lp) : lpC (l ++ [d]) = lpC l ++ lpC [d] := by simp [lpC]
theorem lpC_take (l : List Lp) {k : Nat} (h : k < l.length) : lpC (l.take (k + 1)) = lpC (l.take k) ++ lpC [l[k]] := by
  rw [List.take_succ_eq_append_getElem h]
  exact lpC_snoc _ _
theorem lpC_one (l : List Lp) : ∀ c ∈ lpC l, oneV c = true := fun c hc => by obtain ⟨y, _, hy⟩ := List.mem_flatMap.1 hc; simp at hy; rcases hy with rfl | rfl | rfl <;> rfl
theorem Blk.rdLp {w : World} {b : Nat} {d : Lp} {t : TypeId} (h : Blk w b (lpC [d]) t) : Rd w b (b + 1) (.slice (some ⟨b, 0, none⟩) 1 1) 3 1 (lpC [d]) :=
  ⟨rfl, .inr ⟨b, 0, 1, rfl, fun _ => ⟨Nat.le_refl _, Nat.lt_succ_self _, h.lt⟩, fun j _ => by rw [Nat.zero_add]; exact Blk.cell h j⟩⟩
theorem sat_rdL {w0 w : World} {M : Nat → Prop} {H : List Ck} {v : Value} {t n : Nat} {l : List Lp} (hs : Sat w0 M H w) (hm : .ow v t 3 n (lpC l) ∈ H) (hn : n = l.length) : RdL w 0 w.heap.size v l := own_rdL (hs.mem hm) hn
theorem cloneL_ca (w : World) (lo hi : Nat) (v : Value) (l : List Lp) (h : RdL w lo hi v l) (hlen : l.length ≤ 1000000) : Ca Try.prog 19 [v] w fun r w' => ∃ u : Value, r = u ∧ Sat w M0 [.ow u 31 3 l.length (lpC l)] w' := by
  obtain ⟨a, ca, rfl, _⟩ := RdL.outI h
  refine q_of (Sat.nil w M0) Try.func19 rfl (by simp [Try.ntmps19]) ?_
  (refine q_seq ?_; refine q_region ?_; refine ql_pure tabOk rfl rfl ?_; refine q_nil ?_; refine q_seq ?_; refine q_region ?_; refine ql_pure tabOk rfl rfl ?_)
  refine ql_conv (H' := [.ow (.slice none 0 0) 31 3 0 []]) (fun w' hs => Sat.ownil hs 31 3) ?_
  refine ql_append (q := l.length) slLp rfl rfl rfl (fun v' => by repeat constructor) (fun w' hs => ⟨lo, hi, RdL.row (RdE.keep h hs.chg0)⟩) (lpC_one l) (by omega) (by omega) (fun u => ?_)
  (refine ql_pure tabOk rfl rfl ?_; refine q_nil ?_; refine q_ret ?_)
  refine q_fin tabOk rfl (by repeat (first | exact RVs.nil | apply RVs.tmp rfl | apply RVs.cellA rfl rfl (by repeat first | exact .head _ | refine .tail _ ?_) (by rfl) | apply RVs.cell1 rfl rfl (by repeat first | exact .head _ | refine .tail _ ?_))) fun w hs => ?_
  exact ⟨u, rfl, by simpa using hs⟩
set_option maxHeartbeats 2000000 in
theorem rloops_ca (w : World) (lo hi : Nat) (v : Value) (s : List Lp) (h : RdL w lo hi v s) (hlen : s.length ≤ 1000000) :
    Ca Try.prog 23 [v] w fun r w' => ∃ y : Option Addr × Nat, r = .slice y.1 s.length y.2 ∧ Sat w M0 [.ow (.slice y.1 s.length y.2) 147 3 s.length (lpC s)] w' := by
  obtain ⟨a, c, rfl, hsa⟩ := RdL.outI h
  refine q_of (Sat.nil w M0) Try.func23 rfl (by simp [Try.ntmps23]) ?_
  (refine q_seq ?_; refine q_region ?_; refine ql_pure tabOk rfl rfl ?_; refine q_nil ?_; refine q_seq ?_; refine q_region ?_; refine ql_pure tabOk rfl rfl ?_; refine q_nil ?_; (iterate 2 refine q_seq ?_); refine q_region ?_; (iterate 3 refine ql_pure tabOk rfl rfl ?_); refine q_nil ?_; refine q_block ?_)
  refine q_conv (H' := [.ow (.slice none 0 0) 147 3 0 (lpC [])]) (fun w' hs => (Sat.ownil hs 147 3).sp (by repeat (first | exact Sp.nil | exact Sp.refl _ | refine Sp.cons (by repeat constructor) ?_))) ?_
  refine q_loop (σ := Nat × Value) (fun q => q.1 ≤ s.length) (fun q => s.length - q.1) (fun q => [(3, q.2), (6, .slice a s.length c), (7, .int .i64 s.length), (8, .int .i64 q.1)])
    (fun q => [.ow q.2 147 3 q.1 (lpC (s.take q.1))]) (0, .slice none 0 0) (by simp) ⟨rfl, rfl, rfl, rfl, trivial⟩ (by repeat (first | exact Sp.nil | exact Sp.refl _ | refine Sp.cons (by repeat constructor) ?_)) ?_
  rintro ⟨k, dv⟩ hk K hK
  simp only at hk
  dsimp only
  (refine q_seq ?_; refine q_region ?_; refine ql_pure tabOk rfl rfl ?_; refine q_nil ?_; refine q_seq ?_)
  refine q_if rfl (fun hc => ?_) (fun hc => ?_)
  · have hk2 : k < s.length := by first | omega | (simp at hc; omega)
    clear hc
    obtain ⟨b, off, rfl⟩ := hsa (by omega)
    have e1 := lpC_take s hk2
    (refine q_skip ?_; refine q_seq ?_; refine q_block ?_; refine q_seq ?_; refine q_region ?_)
    refine ql_index tabOk rfl rfl rfl rfl rfl (by omega) (by omega) ?_
    skip
    refine ql_loadA tabOk rfl rfl rfl rfl (fun w hs => RdL.at (RdE.keep h hs.chg0) k hk2) ?_
    skip
    refine ql_alloc zero31 rfl (fun b5 => ?_)
    (refine ql_setA tabOk rfl rfl rfl rfl rfl (by repeat constructor) rfl ?_; refine q_nil ?_; refine q_region ?_; refine ql_pure tabOk rfl rfl ?_; refine ql_loadAB tabOk rfl rfl rfl (by repeat first | exact .head _ | refine .tail _ ?_) (by rfl) (by rfl) ?_)
    generalize s[k] = d at *
    obtain ⟨n0, n1, n2⟩ := d
    dsimp only at e1 ⊢
    refine ql_mkS 147 (lpC [⟨n0, n1, n2⟩]) rfl (by kernel_rfl) rfl (fun bn => ?_)
    refine ql_append (q := 1) slLr rfl rfl rfl (fun v' => by repeat constructor) (fun w' hs => ⟨_, _, Blk.rdLp (hs.blk (b := bn) (by repeat first | exact .head _ | refine .tail _ ?_))⟩) (lpC_one _) (by omega) (by omega) (fun u => ?_)
    (refine ql_pure tabOk rfl rfl ?_; refine q_nil ?_; refine q_blk ?_; refine q_region ?_; refine ql_ar tabOk rfl rfl rfl rfl (by omega) (by omega) ?_; refine ql_pure tabOk rfl rfl ?_; refine q_nil ?_)
    exact hK (k + 1, u) _ _ (by simp only; omega) (by simp only; omega) ⟨rfl, rfl, rfl, rfl, trivial⟩ (by dsimp only; rw [e1]; repeat (first | exact Sp.nil | exact Sp.refl _ | refine Sp.cons (by repeat constructor) ?_))
  · obtain rfl : k = s.length := by omega
    clear hc hK
    rw [List.take_length]
    refine q_fact (fun w hs => hs.slice2 (v := dv) (by repeat first | exact .head _ | refine .tail _ ?_)) ?_
    rintro ⟨ua, uc, rfl⟩
    (refine q_exit _ rfl ?_; refine q_seq ?_; refine q_region ?_; (iterate 2 refine ql_pure tabOk rfl rfl ?_); refine q_nil ?_; refine q_ret ?_)
    refine q_fin tabOk rfl (by repeat (first | exact RVs.nil | apply RVs.tmp rfl | apply RVs.cellA rfl rfl (by repeat first | exact .head _ | refine .tail _ ?_) (by rfl) | apply RVs.cell1 rfl rfl (by repeat first | exact .head _ | refine .tail _ ?_))) fun w hs => ?_
    exact ⟨(ua, uc), rfl, hs.sp (by repeat (first | exact Sp.nil | exact Sp.refl _ | refine Sp.cons (by repeat constructor) ?_))⟩
theorem ints_take (l : List Int) {k : Nat} (h : k < l.length) : ints (l.take (k + 1)) = ints (l.take k) ++ [.int .i64 l[k]] := by
  unfold ints
  rw [List.take_succ_eq_append_getElem h, List.map_append]
  rfl
set_option maxHeartbeats 2000000 in
theorem numbers_ca (w : World) (lo hi : Nat) (v : Value) (l : List Int) (h : RdI w lo hi v l) (hlen : l.length ≤ 1000000) :
    Ca Try.prog 27 [v] w fun r w' => ∃ u : Value, r = u ∧ Sat w M0 [.ow u 3 1 l.length (ints l)] w' := by
  obtain ⟨a, c, rfl, hsa⟩ := RdI.outI h
  refine q_of (Sat.nil w M0) Try.func27 rfl (by simp [Try.ntmps27]) ?_
  (refine q_seq ?_; refine q_region ?_; refine ql_pure tabOk rfl rfl ?_; refine q_nil ?_; refine q_seq ?_; refine q_region ?_; refine ql_pure tabOk rfl rfl ?_; refine q_nil ?_; (iterate 2 refine q_seq ?_); refine q_region ?_; (iterate 3 refine ql_pure tabOk rfl rfl ?_); refine q_nil ?_; refine q_block ?_)
  refine q_conv (H' := [.ow (.slice none 0 0) 3 1 0 (ints [])]) (fun w' hs => (Sat.ownil hs 3 1).sp (by repeat (first | exact Sp.nil | exact Sp.refl _ | refine Sp.cons (by repeat constructor) ?_))) ?_
  refine q_loop (σ := Nat × Value) (fun q => q.1 ≤ l.length) (fun q => l.length - q.1) (fun q => [(3, q.2), (6, .slice a l.length c), (7, .int .i64 l.length), (8, .int .i64 q.1)])
    (fun q => [.ow q.2 3 1 q.1 (ints (l.take q.1))]) (0, .slice none 0 0) (by simp) ⟨rfl, rfl, rfl, rfl, trivial⟩ (by repeat (first | exact Sp.nil | exact Sp.refl _ | refine Sp.cons (by repeat constructor) ?_)) ?_
  rintro ⟨k, dv⟩ hk K hK
  simp only at hk
  dsimp only
  (refine q_seq ?_; refine q_region ?_; refine ql_pure tabOk rfl rfl ?_; refine q_nil ?_; refine q_seq ?_)
  refine q_if rfl (fun hc => ?_) (fun hc => ?_)
  · have hk2 : k < l.length := by first | omega | (simp at hc; omega)
    clear hc
    obtain ⟨b, off, rfl⟩ := hsa (by omega)
    have e1 := ints_take l hk2
    (refine q_skip ?_; refine q_seq ?_; refine q_block ?_; refine q_seq ?_; refine q_region ?_)
    (refine ql_index tabOk rfl rfl rfl rfl rfl (by omega) (by omega) ?_; refine ql_load1 tabOk rfl rfl rfl (fun w hs => RdI.at (RdE.keep h hs.chg0) k hk2) ?_)
    (refine ql_pure tabOk rfl rfl ?_; refine q_nil ?_; refine q_region ?_; (iterate 2 refine ql_pure tabOk rfl rfl ?_))
    refine ql_mkS 3 [.int .i64 l[k]] rfl (by kernel_rfl) rfl (fun bn => ?_)
    refine ql_append (q := 1) slI rfl rfl rfl (fun v' => by repeat constructor) (fun w' hs => ⟨_, _, Blk.rd (hs.blk (b := bn) (by repeat first | exact .head _ | refine .tail _ ?_)) rfl 1⟩) (by simp [oneV]) (by omega) (by omega) (fun u => ?_)
    (refine ql_pure tabOk rfl rfl ?_; refine q_nil ?_; refine q_blk ?_; refine q_region ?_; refine ql_ar tabOk rfl rfl rfl rfl (by omega) (by omega) ?_; refine ql_pure tabOk rfl rfl ?_; refine q_nil ?_)
    exact hK (k + 1, u) _ _ (by simp only; omega) (by simp only; omega) ⟨rfl, rfl, rfl, rfl, trivial⟩ (by dsimp only; rw [e1]; repeat (first | exact Sp.nil | exact Sp.refl _ | refine Sp.cons (by repeat constructor) ?_))
  · obtain rfl : k = l.length := by omega
    clear hc hK
    rw [List.take_length]
    (refine q_exit _ rfl ?_; refine q_seq ?_; refine q_region ?_; (iterate 2 refine ql_pure tabOk rfl rfl ?_); refine q_nil ?_; refine q_ret ?_)
    refine q_fin tabOk rfl (by repeat (first | exact RVs.nil | apply RVs.tmp rfl | apply RVs.cellA rfl rfl (by repeat first | exact .head _ | refine .tail _ ?_) (by rfl) | apply RVs.cell1 rfl rfl (by repeat first | exact .head _ | refine .tail _ ?_))) fun w hs => ?_
    exact ⟨dv, rfl, hs.sp (by repeat (first | exact Sp.nil | exact Sp.refl _ | refine Sp.cons (by repeat constructor) ?_))⟩
/-! Contracts in one piece -/
theorem brok_fst {s : List Lp} {r : Rl} {c : List Int} : (brokenV s r c).1 = if (brokenV s r c).2 = 0 then brkL s r c else [] := by
  unfold brokenV
  split
  · rename_i h
    simp [h]
  split
  · rename_i h
    simp [h]
  split <;> simp
theorem sat_ownil {w w' : World} (t sz : Nat) (h : Chg [] w w') : Sat w M0 [.ow (.slice none 0 0) t sz 0 []] w' := Sat.ownil ((Sat.nil w M0).keep h) t sz
section
variable (w : World) (lo hi : Nat) (a : Option Addr) (cp : Nat) (s : List Lp) (r : Rl) (h : RdL w lo hi (.slice a s.length cp) s) (hlen : s.length ≤ 1000000)
include h hlen
theorem brok_u (lo2 hi9 : Nat) (v : Value) (c : List Int) (hv : RdI w lo2 hi9 v c) (hlc : c.length ≤ 1000000) :
    Ca Try.prog 24 [.slice a s.length cp, .agg (rlC r).toArray, v] w fun x w' => ∃ u : Value, x = .tuple #[u, .int .i64 (brokenV s r c).2] ∧ Sat w M0 [.ow u 88 1 (brokenV s r c).1.length (ints (brokenV s r c).1)] w' := by
  rw [brok_fst]
  by_cases e : (brokenV s r c).2 = 0
  · rw [if_pos e, e]
    exact brok_ok w lo hi lo2 hi9 a cp v s r c h hlen hv hlc e
  · rw [if_neg e]
    exact (brok_no w lo hi lo2 hi9 a cp v s r c h hlen hv hlc e).mono fun x w' ⟨h1, h2⟩ => ⟨_, h1, sat_ownil _ _ h2⟩
theorem rbrok_u (lo2 hi9 : Nat) (v : Value) (c : List Int) (hv : RdI w lo2 hi9 v c) (hlc : c.length ≤ 1000000) :
    Ca Try.prog 25 [.slice a s.length cp, .agg (rlC r).toArray, v] w fun x w' => ∃ u : Value, x = .tuple #[u, .int .i64 (brokenV s r c).2] ∧ Sat w M0 [.ow u 3 1 (brokenV s r c).1.length (ints (brokenV s r c).1)] w' := by
  rw [brok_fst]
  by_cases e : (brokenV s r c).2 = 0
  · rw [if_pos e, e]
    exact rbrok_ok w lo hi lo2 hi9 a cp v s r c h hlen hv hlc e
  · rw [if_neg e]
    exact (rbrok_no w lo hi lo2 hi9 a cp v s r c h hlen hv hlc e).mono fun x w' ⟨h1, h2⟩ => ⟨_, h1, sat_ownil _ _ h2⟩
end
/-- The fewest rules, with the first course. -/
def yldV (s : List Lp) (r : Rl) : (List Int × List Int) × Int := if checkS s r ≠ 0 then (([], []), checkS s r) else ((brkL s r ((yieldO s r (coursesL s.length (nL r))).getD []), (yieldO s r (coursesL s.length (nL r))).getD []), 0)
section
variable (w : World) (lo hi : Nat) (a : Option Addr) (cp : Nat) (s : List Lp) (r : Rl) (h : RdL w lo hi (.slice a s.length cp) s) (hlen : s.length ≤ 1000000)
include h hlen
end
end Go.Proofs.Ytgeajgmefokifaa

/- The walk of CourseRules. -/
namespace Go.Proofs.Ytgeajgmefokifaa
open Go Go.Eng

theorem brkV_len (s : List Lp) (r : Rl) (c : List Int) : (brokenV s r c).1.length ≤ 5 := by
  rw [brok_fst]
  split
  · exact brk_len s r c
  · simp
set_option maxRecDepth 20000 in
set_option maxHeartbeats 8000000 in
theorem courseRules_ca (w : World) (lo hi lo2 hi9 : Nat) (v u : Value) (s : List Lp) (r : Rl) (c : List Int) (h : RdL w lo hi v s) (n1 : s.length ≤ maxLen) (hv : RdI w lo2 hi9 u c) (n2 : c.length ≤ maxLen) :
    Ca Try.prog 3 [v, .agg (rlC r).toArray, u] w fun x w' => x = .bool true ∧ Chg [] w w' := by
  obtain ⟨a, cp, rfl, _⟩ := RdL.outI h
  obtain ⟨ua, uc, rfl, _⟩ := RdI.outI hv
  simp only [maxLen] at n1 n2
  refine q_of (Sat.nil w M0) Try.func3 rfl (by simp [Try.ntmps3]) ?_
  (refine q_seq ?_; refine q_region ?_)
  refine ql_box rfl rfl (fun b4 => ?_)
  by_cases h15 : s.length > 15
  · skip
    (refine ql_pure tabOk rfl rfl ?_; refine q_nil ?_; (iterate 2 refine q_seq ?_); refine q_region ?_; (iterate 2 refine ql_pure tabOk rfl rfl ?_); refine ql_gtrT tabOk rfl rfl rfl (by omega) ?_; refine ql_pure tabOk rfl rfl ?_; (iterate 3 refine ql_gno rfl rfl rfl ?_); refine ql_pure tabOk rfl rfl ?_; refine q_nil ?_; refine q_cond_true rfl ?_; refine q_seq ?_; refine q_region ?_)
    refine ql_callv (val := .bool true) tabOk rfl rfl rfl rfl (fun w hs => ?_) ?_; exact awake_ca w
    (refine ql_pure tabOk rfl rfl ?_; refine q_nil ?_; refine q_ret ?_)
    refine q_fin tabOk rfl (by repeat (first | exact RVs.nil | apply RVs.tmp rfl | apply RVs.cellA rfl rfl (by repeat first | exact .head _ | refine .tail _ ?_) (by rfl) | apply RVs.cell1 rfl rfl (by repeat first | exact .head _ | refine .tail _ ?_))) fun w hs => ?_
    exact ⟨rfl, hs.chg0⟩
  by_cases h10 : c.length > 10
  · skip
    (refine ql_pure tabOk rfl rfl ?_; refine q_nil ?_; (iterate 2 refine q_seq ?_); refine q_region ?_; (iterate 2 refine ql_pure tabOk rfl rfl ?_); refine ql_gtrF tabOk rfl rfl rfl (by omega) ?_; refine ql_pure tabOk rfl rfl ?_; refine ql_gyes rfl ?_; refine ql_pure tabOk rfl rfl ?_; refine ql_gyes rfl ?_; refine ql_pure tabOk rfl rfl ?_; refine ql_gyes rfl ?_; refine ql_gtrT tabOk rfl rfl rfl (by omega) ?_; refine ql_pure tabOk rfl rfl ?_; refine q_nil ?_; refine q_cond_true rfl ?_; refine q_seq ?_; refine q_region ?_)
    refine ql_callv (val := .bool true) tabOk rfl rfl rfl rfl (fun w hs => ?_) ?_; exact awake_ca w
    (refine ql_pure tabOk rfl rfl ?_; refine q_nil ?_; refine q_ret ?_)
    refine q_fin tabOk rfl (by repeat (first | exact RVs.nil | apply RVs.tmp rfl | apply RVs.cellA rfl rfl (by repeat first | exact .head _ | refine .tail _ ?_) (by rfl) | apply RVs.cell1 rfl rfl (by repeat first | exact .head _ | refine .tail _ ?_))) fun w hs => ?_
    exact ⟨rfl, hs.chg0⟩
  (refine ql_pure tabOk rfl rfl ?_; refine q_nil ?_; (iterate 2 refine q_seq ?_); refine q_region ?_; (iterate 2 refine ql_pure tabOk rfl rfl ?_); refine ql_gtrF tabOk rfl rfl rfl (by omega) ?_; refine ql_pure tabOk rfl rfl ?_; refine ql_gyes rfl ?_; refine ql_pure tabOk rfl rfl ?_; refine ql_gyes rfl ?_; refine ql_pure tabOk rfl rfl ?_; refine ql_gyes rfl ?_; refine ql_gtrF tabOk rfl rfl rfl (by omega) ?_; refine ql_pure tabOk rfl rfl ?_; refine q_nil ?_; refine q_cond_false rfl ?_; refine q_skip ?_; refine q_seq ?_; refine q_region ?_; refine ql_pure tabOk rfl rfl ?_)
  refine ql_call (β := Value) tabOk [] _ M0 rfl rfl rfl rfl (Sp.refl _) (fun _ h => h.elim) (fun w' hs => cloneL_ca w' lo hi _ s (RdE.keep h hs.chg0) (by omega)) ?_
  rintro _ z1 rfl
  dsimp only [List.cons_append, List.nil_append]
  refine ql_fact (fun w hs => hs.slice2 (v := z1) (by repeat first | exact .head _ | refine .tail _ ?_)) ?_
  rintro ⟨oa, oc, rfl⟩
  (refine ql_pure tabOk rfl rfl ?_)
  refine ql_call (β := Value) tabOk [] _ M0 rfl rfl rfl rfl (Sp.refl _) (fun _ h => h.elim) (fun w' hs => cloneI_ca w' lo2 hi9 _ c (RdE.keep hv hs.chg0) (by omega)) ?_
  rintro _ z2 rfl
  dsimp only [List.cons_append, List.nil_append]
  refine ql_fact (fun w hs => hs.slice2 (v := z2) (by repeat first | exact .head _ | refine .tail _ ?_)) ?_
  rintro ⟨ma, mc, rfl⟩
  ((iterate 2 refine ql_pure tabOk rfl rfl ?_); refine q_nil ?_; (iterate 2 refine q_seq ?_))
  refine q_draw _ [] (Sp.refl _) (by kernel_rfl) (by kernel_rfl) ?_
  (refine qf_pure tabOk rfl rfl rfl ?_; refine qf_loadAB tabOk rfl rfl rfl (by repeat first | exact .head _ | refine .tail _ ?_) (by rfl) (by rfl) ?_)
  refine qf_callv (val := .int .i64 (checkS s r)) tabOk rfl rfl rfl rfl (fun w hs => ?_) ?_; exact checkS_ca w 0 w.heap.size _ s r (sat_rdL hs (by repeat first | exact .head _ | refine .tail _ ?_) rfl) (by omega)
  (refine qf_pure tabOk rfl rfl rfl ?_)
  refine qf_call (β := Option Addr × Nat) tabOk [] _ M0 rfl rfl rfl rfl (Sp.refl _) (fun _ h => h.elim) (fun w' hs => rloops_ca w' lo hi _ s (RdE.keep h hs.chg0) (by omega)) ?_
  rintro ⟨ra, rc⟩ _ rfl
  dsimp only [List.cons_append, List.nil_append]
  (refine qf_loadAB tabOk rfl rfl rfl (by repeat first | exact .head _ | refine .tail _ ?_) (by rfl) (by rfl) ?_)
  refine qf_callv (val := .int .i64 (checkS s r)) tabOk rfl rfl rfl rfl (fun w hs => ?_) ?_; exact rcheckS_ca w 0 w.heap.size ra rc s r (sat_rdL (t := 147) hs (by repeat first | exact .head _ | refine .tail _ ?_) rfl) (by omega)
  (refine qf_neqF tabOk rfl rfl rfl (by omega) ?_; refine qf_nil ?_; refine q_cond_false rfl ?_; refine q_skip ?_; refine q_seq ?_; refine q_region ?_; refine ql_pure tabOk rfl rfl ?_; refine ql_loadAB tabOk rfl rfl rfl (by repeat first | exact .head _ | refine .tail _ ?_) (by rfl) (by rfl) ?_; refine ql_pure tabOk rfl rfl ?_)
  refine ql_call (β := Value) tabOk [] _ M0 rfl rfl rfl rfl (Sp.refl _) (fun _ h => h.elim) (fun w' hs => brok_u w' 0 w'.heap.size oa oc s r (sat_rdL (t := 31) hs (by repeat first | exact .head _ | refine .tail _ ?_) rfl) (by omega) 0 w'.heap.size (.slice ma c.length mc) c (hs.rdI (by repeat first | exact .head _ | refine .tail _ ?_) rfl) (by omega)) ?_
  rintro z3 _ rfl
  dsimp only [List.cons_append, List.nil_append]
  (refine ql_pure tabOk rfl rfl ?_; (iterate 2 refine ql_ext tabOk rfl rfl rfl ?_); (iterate 2 refine ql_pure tabOk rfl rfl ?_); refine q_nil ?_; refine q_seq ?_)
  refine q_draw _ [] (Sp.refl _) (by kernel_rfl) (by kernel_rfl) ?_
  (refine qf_pure tabOk rfl rfl rfl ?_)
  refine qf_call (β := Option Addr × Nat) tabOk [] _ M0 rfl rfl rfl rfl (Sp.refl _) (fun _ h => h.elim) (fun w' hs => rloops_ca w' lo hi _ s (RdE.keep h hs.chg0) (by omega)) ?_
  rintro ⟨qa, qc⟩ _ rfl
  dsimp only [List.cons_append, List.nil_append]
  (refine qf_loadAB tabOk rfl rfl rfl (by repeat first | exact .head _ | refine .tail _ ?_) (by rfl) (by rfl) ?_; refine qf_pure tabOk rfl rfl rfl ?_)
  refine qf_call (β := Value) tabOk [] _ M0 rfl rfl rfl rfl (Sp.refl _) (fun _ h => h.elim) (fun w' hs => rbrok_u w' 0 w'.heap.size qa qc s r (sat_rdL (t := 147) hs (by repeat first | exact .head _ | refine .tail _ ?_) rfl) (by omega) lo2 hi9 _ c (RdE.keep hv hs.chg0) (by omega)) ?_
  rintro z4 _ rfl
  dsimp only [List.cons_append, List.nil_append]
  have hbl := brkV_len s r c
  generalize brokenV s r c = B at *
  (refine qf_pure tabOk rfl rfl rfl ?_; (iterate 2 refine qf_ext tabOk rfl rfl rfl ?_); (iterate 2 refine qf_pure tabOk rfl rfl rfl ?_); refine qf_nil ?_; refine q_seq ?_; refine q_region ?_; (iterate 2 refine ql_pure tabOk rfl rfl ?_); refine ql_eqlT tabOk rfl rfl rfl (by omega) ?_; refine ql_pure tabOk rfl rfl ?_; refine ql_gyes rfl ?_; refine ql_pure tabOk rfl rfl ?_; refine ql_gyes rfl ?_)
  refine ql_call (β := Value) tabOk [] _ M0 rfl rfl rfl rfl (Sp.refl _) (fun _ h => h.elim) (fun w' hs => numbers_ca w' 0 w'.heap.size z3 B.1 (hs.rdI (by repeat first | exact .head _ | refine .tail _ ?_) rfl) (by omega)) ?_
  rintro _ z5 rfl
  dsimp only [List.cons_append, List.nil_append]
  (refine ql_gyes rfl ?_; refine ql_pure tabOk rfl rfl ?_; refine ql_gyes rfl ?_)
  refine ql_callv (val := .bool true) tabOk rfl rfl rfl rfl (fun w hs => ?_) ?_; exact eqI_ca w 0 w.heap.size 0 w.heap.size z5 z4 B.1 (hs.rdI (t := 3) (by repeat first | exact .head _ | refine .tail _ ?_) rfl) (hs.rdI (t := 3) (by repeat first | exact .head _ | refine .tail _ ?_) rfl) (by omega)
  ((iterate 2 refine ql_pure tabOk rfl rfl ?_); refine ql_gyes rfl ?_; refine ql_pure tabOk rfl rfl ?_; refine ql_gyes rfl ?_; refine ql_pure tabOk rfl rfl ?_; refine ql_gyes rfl ?_)
  refine ql_callv (val := .bool true) tabOk rfl rfl rfl rfl (fun w hs => ?_) ?_; exact eqL_ca w 0 w.heap.size lo hi _ _ s (sat_rdL hs (by repeat first | exact .head _ | refine .tail _ ?_) rfl) (RdE.keep h hs.chg0) (by omega)
  ((iterate 2 refine ql_pure tabOk rfl rfl ?_); refine ql_gyes rfl ?_; refine ql_pure tabOk rfl rfl ?_; refine ql_gyes rfl ?_; refine ql_pure tabOk rfl rfl ?_; refine ql_gyes rfl ?_)
  refine ql_callv (val := .bool true) tabOk rfl rfl rfl rfl (fun w hs => ?_) ?_; exact eqI_ca w 0 w.heap.size lo2 hi9 _ _ c (hs.rdI (by repeat first | exact .head _ | refine .tail _ ?_) rfl) (RdE.keep hv hs.chg0) (by omega)
  ((iterate 2 refine ql_pure tabOk rfl rfl ?_); refine ql_gyes rfl ?_)
  refine ql_callv (val := .bool true) tabOk rfl rfl rfl rfl (fun w hs => ?_) ?_; exact awake_ca w
  ((iterate 2 refine ql_pure tabOk rfl rfl ?_); refine q_nil ?_; refine q_ret ?_)
  refine q_fin tabOk rfl (by repeat (first | exact RVs.nil | apply RVs.tmp rfl | apply RVs.cellA rfl rfl (by repeat first | exact .head _ | refine .tail _ ?_) (by rfl) | apply RVs.cell1 rfl rfl (by repeat first | exact .head _ | refine .tail _ ?_))) fun w hs => ?_
  exact ⟨rfl, hs.chg0⟩
end Go.Proofs.Ytgeajgmefokifaa
