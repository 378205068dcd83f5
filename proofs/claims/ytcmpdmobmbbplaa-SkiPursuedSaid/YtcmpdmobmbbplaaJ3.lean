/- My texts K11, K12, B32, K13, K14, K15, K16, K17, K18, W7, K19, K20, W8, K21, W9, K22, K23, K24, K25, K26, D1, D2, W10, W11, K27, K28, K36, joined: a claim takes at most 60 files. -/
import Derived.Test.YtcmpdmobmbbplaaJ2

/- Walks: plans that are asked: the fewest further runs. -/
namespace Go.Proofs.Ytcmpdmobmbbplaa
open Go Go.Eng

structure PlanOk (l : Lb) (k : Int) : Prop where
  ok : l.Ok
  noC : NoC l.ord l.n
  k1 : 1 ≤ k
  k2 : k ≤ l.skis
  s5 : l.skis ≤ 5
theorem placed_iff {l : Lb} {k : Int} : placedV l k = 0 ↔ l.Ok ∧ 1 ≤ k ∧ k ≤ l.skis := by
  unfold placedV
  constructor
  · intro h
    split at h
    · rename_i h1; exact absurd h h1
    · rename_i h1
      split at h
      · cases h
      · rename_i h2
        have h3 : checkV l = 0 := by simpa using h1
        exact ⟨check_iff.1 h3, inB_iff.1 (by simpa using h2)⟩
  · rintro ⟨h1, h2⟩
    rw [if_neg (by simpa using check_iff.2 h1), if_neg (by simp [inB_iff, h2])]
theorem planned_iff {l : Lb} {k : Int} : plannedV l k = 0 ↔ PlanOk l k := by
  unfold plannedV
  constructor
  · intro h
    split at h
    · rename_i h1; exact absurd h h1
    · rename_i h1
      split at h
      · cases h
      · rename_i h2
        have h3 : placedV l k = 0 := by simpa using h1
        obtain ⟨h4, h5, h6⟩ := placed_iff.1 h3
        exact ⟨h4, (agreed_iff.1 h).2, h5, h6, by omega⟩
  · intro h
    rw [if_neg (by simpa using placed_iff.2 ⟨h.ok, h.k1, h.k2⟩), if_neg (by have := h.s5; omega)]
    exact agreed_iff.2 ⟨h.ok, h.noC⟩
theorem planned_ok (w : World) (lo hi : Nat) (l : Lb) (v : Value) (k : Int) (h : RdR w lo hi v l.runs) (hp : PlanOk l k) : Ca Try.prog 73 [.agg (lbC l v).toArray, .int .i64 k] w fun x w' => ∃ b : Nat, x = .tuple #[.pointer (some ⟨b, 0, none⟩), .int .i64 0] ∧ Sat w M0 [.pt b (dkC l v l.ord) 136] w' := by
  have h5 := hp.s5
  have hlen : l.runs.length ≤ maxLen := by have := hp.ok.len; simp only [maxLen]; omega
  have hpl : placedV l k = 0 := placed_iff.2 ⟨hp.ok, hp.k1, hp.k2⟩
  refine q_of (Sat.nil w M0) Try.func73 rfl (by simp [Try.ntmps73]) ?_
  (refine q_seq (q_region ?_))
  refine ql_box rfl rfl (fun b2 => ?_)
  rw [agg_cells]
  (refine ql_pure tabOk rfl rfl (ql_pure tabOk rfl rfl (q_nil (q_seq (q_seq (q_region ?_))))); refine ql_loadABa tabOk rfl rfl rfl ?_; refine ql_pure tabOk rfl rfl ?_)
  refine ql_callv (val := .int .i64 0) tabOk rfl rfl rfl rfl (fun w hs => ?_) ?_; exact by have := placed_ca w lo hi l v k (RdE.keep h hs.chg0) hlen; rw [hpl] at this; exact this
  (refine ql_pure tabOk rfl rfl (q_nil (q_seq (q_region (ql_pure tabOk rfl rfl (ql_neqF tabOk rfl rfl rfl (by omega) (q_nil (q_cond_false rfl (q_skip (q_seq (q_seq (q_region ?_))))))))))); refine ql_pure tabOk rfl rfl ?_; refine ql_loadBa tabOk rfl rfl rfl ?_; refine ql_gtrF tabOk rfl rfl rfl (by omega) (q_nil (q_cond_false rfl (q_skip (q_seq (q_region ?_))))); refine ql_loadABa tabOk rfl rfl rfl ?_)
  refine ql_call (β := Nat) tabOk [] _ M0 rfl rfl rfl rfl (Sp.refl _) (fun _ h => h.elim) (fun w' hs => agreed_ok w' lo hi l v (RdE.keep h hs.chg0) hp.ok hp.noC) ?_
  rintro b _ rfl
  dsimp only [List.cons_append, List.nil_append]
  (refine ql_ext tabOk rfl rfl rfl (ql_ext tabOk rfl rfl rfl (ql_pure tabOk rfl rfl (ql_pure tabOk rfl rfl (q_nil (q_ret ?_))))))
  refine q_fin tabOk rfl (by repeat constructor) fun w hs => ?_
  exact ⟨b, rfl, hs.sp (by repeat constructor)⟩
theorem planner_ca (w : World) (n k : Nat) : Ca Try.prog 74 [.int .i64 n, .int .i64 k] w fun x w' => ∃ y : Nat × Nat × Nat × Nat × Nat × Nat, x = .tuple #[plnF y.2.1 y.2.2.1 y.2.2.2.1 y.2.2.2.2.2, worthF y.2.2.2.2.1] ∧ Sat w M0 [mpO y.1 (fun _ => none), .pt y.2.1 [.int .i64 n] 3, .pt y.2.2.1 [.int .i64 k] 3, .pt y.2.2.2.1 [.map (some y.1)] 183, .pt y.2.2.2.2.1 [plnF y.2.1 y.2.2.1 y.2.2.2.1 y.2.2.2.2.2] 139, .pt y.2.2.2.2.2 [worthF y.2.2.2.2.1] 140] w' := by
  refine q_of (Sat.nil w M0) Try.func74 rfl (by simp [Try.ntmps74]) ?_
  (refine q_seq (q_region ?_))
  refine ql_box rfl rfl (fun b2 => ?_)
  refine ql_box rfl rfl (fun b3 => ?_)
  (refine ql_pure tabOk rfl rfl (ql_pure tabOk rfl rfl (q_nil (q_seq (q_region ?_)))))
  refine ql_makeMap oK eqV rfl (fun bm => ?_)
  skip
  refine ql_alloc zero183 rfl (fun b6 => ?_)
  (refine ql_set tabOk rfl rfl rfl rfl (by repeat constructor) ?_; refine q_nil (q_seq (q_region ?_)))
  refine ql_alloc zero139 rfl (fun b7 => ?_)
  (refine q_nil (q_seq (q_region (ql_pure tabOk rfl rfl ?_))))
  refine ql_alloc zero140 rfl (fun b8 => ?_)
  (refine ql_set tabOk rfl rfl rfl rfl (by repeat constructor) ?_; refine q_nil (q_seq (q_region (ql_pure tabOk rfl rfl ?_))); refine ql_set tabOk rfl rfl rfl rfl (by repeat constructor) ?_; refine q_nil (q_seq ?_))
  refine q_draw _ [] (Sp.refl _) (by kernel_rfl) (by kernel_rfl) ?_
  ((iterate 2 refine qf_loadBa tabOk rfl rfl rfl ?_); refine qf_pure tabOk rfl rfl rfl (qf_pure tabOk rfl rfl rfl (qf_nil (q_ret ?_))))
  refine q_fin tabOk rfl (by repeat constructor) fun w hs => ?_
  exact ⟨(bm, b2, b3, b6, b7, b8), rfl, hs.sp (by repeat constructor)⟩
theorem fewest_ok (w : World) (lo hi : Nat) (l : Lb) (v : Value) (k : Nat) (h : RdR w lo hi v l.runs) (hp : PlanOk l k) : Ca Try.prog 15 [.agg (lbC l v).toArray, .int .i64 k] w fun x w' => x = .tuple #[.int .i64 (planO l.n k l.ord), .int .i64 0] ∧ Chg [] w w' := by
  obtain ⟨n, en, hn', h8, h1⟩ := hp.ok.nat
  have hk := hp.k2
  rw [hn']
  refine q_of (Sat.nil w M0) Try.func15 rfl (by simp [Try.ntmps15]) ?_
  (refine q_seq (q_region ?_))
  refine ql_box rfl rfl (fun b2 => ?_)
  rw [agg_cells]
  (refine ql_pure tabOk rfl rfl (ql_pure tabOk rfl rfl (q_nil (q_seq (q_region ?_)))); refine ql_loadABa tabOk rfl rfl rfl ?_; refine ql_pure tabOk rfl rfl ?_)
  refine ql_call (β := Nat) tabOk [] _ M0 rfl rfl rfl rfl (Sp.refl _) (fun _ h => h.elim) (fun w' hs => planned_ok w' lo hi l v k (RdE.keep h hs.chg0) hp) ?_
  rintro b _ rfl
  dsimp only [List.cons_append, List.nil_append]
  (refine ql_pure tabOk rfl rfl (ql_ext tabOk rfl rfl rfl (ql_ext tabOk rfl rfl rfl (ql_pure tabOk rfl rfl (ql_pure tabOk rfl rfl (q_nil (q_seq (q_seq (q_region (ql_pure tabOk rfl rfl (ql_neqF tabOk rfl rfl rfl (by omega) (q_nil ?_))))))))))); refine q_cond_false rfl (q_skip (q_seq (q_region ?_))); (iterate 4 refine ql_pure tabOk rfl rfl ?_); refine ql_loadBa tabOk rfl rfl rfl ?_; refine ql_pure tabOk rfl rfl ?_)
  rw [en]
  refine ql_call (β := Nat × Nat × Nat × Nat × Nat × Nat) tabOk [] _ M0 rfl rfl rfl rfl (Sp.refl _) (fun _ h => h.elim) (fun w' hs => planner_ca w' n k) ?_
  rintro ⟨bm, b2, b3, b6, b7, b8⟩ _ rfl
  dsimp only [List.cons_append, List.nil_append]
  (refine ql_pure tabOk rfl rfl (ql_ext tabOk rfl rfl rfl (ql_ext tabOk rfl rfl rfl (ql_pure tabOk rfl rfl (ql_pure tabOk rfl rfl (q_nil (q_seq (q_region ?_))))))); (iterate 4 refine ql_pure tabOk rfl rfl ?_); refine ql_loadABa tabOk rfl rfl rfl ?_)
  rw [dk_take]
  refine ql_callF (β := Value → Option Value) (ψ := fun g v => v = .int .i64 (planO n k l.ord) ∧ GoodP n k g) (L' := fun g => [mpO bm g]) [mpO bm (fun _ => none)] [.pt b2 [.int .i64 n] 3, .pt b3 [.int .i64 k] 3, .pt b6 [.map (some bm)] 183, .pt b7 [plnF b2 b3 b6 b8] 139, .pt b8 [worthF b7] 140] (· = bm) rfl rfl rfl (by repeat constructor) (fun x hx => ⟨_, .head _, hx⟩) (fun w' hs => CaF.of tabOk rfl (plan_ca n k bm b2 b3 b6 b7 b8 h8 (by omega) _ l.ord rfl hp.ok.o w' _ ⟨⟨_, hs.blk (by repeat constructor)⟩, ⟨_, hs.blk (by repeat constructor)⟩, ⟨_, hs.blk (by repeat constructor)⟩, ⟨_, hs.blk (by repeat constructor)⟩, ⟨_, hs.blk (by repeat constructor)⟩⟩ (hs.mem (c := mpO bm (fun _ => none)) (by repeat constructor)) (good_nil n k))) ?_
  rintro g' v ⟨rfl, hg'⟩
  (refine ql_pure tabOk rfl rfl (ql_pure tabOk rfl rfl (q_nil (q_ret ?_))))
  refine q_fin tabOk rfl (by repeat constructor) fun w hs => ?_
  exact ⟨rfl, hs.chg0⟩
end Go.Proofs.Ytcmpdmobmbbplaa

/- Walks: whether runs are a chain. -/
namespace Go.Proofs.Ytcmpdmobmbbplaa
open Go Go.Eng

theorem two_no (w : World) (lo hi : Nat) (l : Lb) (v : Value) (a b : Int) (h : RdR w lo hi v l.runs) (hlen : l.runs.length ≤ maxLen) (hc0 : twoV l a b ≠ 0) : Ca Try.prog 92 [.agg (lbC l v).toArray, .int .i64 a, .int .i64 b] w fun x w' => ∃ p : Option Addr, x = .tuple #[.pointer p, .int .i64 (twoV l a b)] ∧ Sat w M0 [] w' := by
  refine q_of (Sat.nil w M0) Try.func92 rfl (by simp [Try.ntmps92]) ?_
  (refine q_seq (q_region ?_))
  refine ql_box rfl rfl (fun b3 => ?_)
  rw [agg_cells]
  (refine ql_pure tabOk rfl rfl (ql_pure tabOk rfl rfl (q_nil (q_seq (q_region ?_)))); refine ql_loadABa tabOk rfl rfl rfl ?_)
  by_cases hck : checkV l = 0
  · have hl := check_iff.1 hck
    have h0 := hl.s0
    have h1 := hl.s1
    have e : twoV l a b = 1 := by
      unfold twoV at hc0 ⊢
      rw [if_neg (by simpa using hck)] at hc0 ⊢
      split at hc0
      · rename_i hq; rw [if_pos hq]
      · exact absurd rfl hc0
    refine ql_call (β := Nat) tabOk [] _ M0 rfl rfl rfl rfl (Sp.refl _) (fun _ h => h.elim) (fun w' hs => asked_ok w' lo hi l v (RdE.keep h hs.chg0) hl) ?_
    rintro d _ rfl
    dsimp only [List.cons_append, List.nil_append]
    (refine ql_pure tabOk rfl rfl (ql_ext tabOk rfl rfl rfl (ql_ext tabOk rfl rfl rfl (ql_pure tabOk rfl rfl (ql_pure tabOk rfl rfl (q_nil (q_seq (q_seq (q_region (ql_pure tabOk rfl rfl (ql_eqlT tabOk rfl rfl rfl (by omega) (ql_pure tabOk rfl rfl ?_))))))))))); refine ql_gyes rfl (ql_pure tabOk rfl rfl (ql_gyes rfl (ql_pure tabOk rfl rfl (ql_gyes rfl ?_)))); refine ql_loadBa tabOk rfl rfl rfl ?_; refine ql_gyes rfl (ql_ar tabOk rfl rfl rfl rfl (by omega) (by omega) (ql_gyes rfl ?_)))
    refine ql_callv (val := .bool (inB a 0 (l.skis - 1))) tabOk rfl rfl rfl rfl (fun w hs => ?_) ?_; exact within_ca a 0 (l.skis - 1) w
    cases ha : inB a 0 (l.skis - 1) with
    | false =>
      (refine ql_gyes rfl (ql_pure tabOk rfl rfl (ql_gyes rfl (ql_pure tabOk rfl rfl ?_))); (iterate 6 refine ql_gno rfl rfl rfl ?_); refine ql_gyes rfl (ql_pure tabOk rfl rfl (ql_pure tabOk rfl rfl (q_nil (q_cond_true rfl (q_region (ql_pure tabOk rfl rfl (q_nil (q_seq (q_region ?_))))))))); (iterate 4 refine ql_pure tabOk rfl rfl ?_); refine q_nil (q_ret ?_))
      refine q_fin tabOk rfl (by repeat constructor) fun w hs => ?_
      exact ⟨some ⟨d, 0, none⟩, by rw [e]; rfl, hs.sp (by repeat constructor)⟩
    | true =>
      (refine ql_gyes rfl (ql_pure tabOk rfl rfl (ql_gyes rfl (ql_pure tabOk rfl rfl (ql_gyes rfl (ql_pure tabOk rfl rfl (ql_gyes rfl (ql_pure tabOk rfl rfl (ql_gyes rfl ?_)))))))); refine ql_loadBa tabOk rfl rfl rfl ?_; refine ql_gyes rfl (ql_ar tabOk rfl rfl rfl rfl (by omega) (by omega) (ql_gyes rfl ?_)))
      refine ql_callv (val := .bool (inB b 0 (l.skis - 1))) tabOk rfl rfl rfl rfl (fun w hs => ?_) ?_; exact within_ca b 0 (l.skis - 1) w
      cases hb : inB b 0 (l.skis - 1) with
      | false =>
        (refine ql_gyes rfl (ql_pure tabOk rfl rfl (ql_gyes rfl (ql_pure tabOk rfl rfl (ql_pure tabOk rfl rfl (q_nil (q_cond_true rfl (q_region (ql_pure tabOk rfl rfl (q_nil (q_seq (q_region ?_))))))))))); (iterate 4 refine ql_pure tabOk rfl rfl ?_); refine q_nil (q_ret ?_))
        refine q_fin tabOk rfl (by repeat constructor) fun w hs => ?_
        exact ⟨some ⟨d, 0, none⟩, by rw [e]; rfl, hs.sp (by repeat constructor)⟩
      | true =>
        exfalso
        apply hc0
        unfold twoV
        rw [if_neg (by simpa using hck), ha, hb]
        simp
  · have e : twoV l a b = checkV l := by unfold twoV; rw [if_pos hck]
    refine ql_callv (val := .tuple #[.pointer none, .int .i64 (checkV l)]) tabOk rfl rfl rfl rfl (fun w hs => ?_) ?_; exact asked_no w lo hi l v (RdE.keep h hs.chg0) hlen hck
    (refine ql_pure tabOk rfl rfl (ql_ext tabOk rfl rfl rfl (ql_ext tabOk rfl rfl rfl (ql_pure tabOk rfl rfl (ql_pure tabOk rfl rfl (q_nil (q_seq (q_seq (q_region (ql_pure tabOk rfl rfl (ql_eqlF tabOk rfl rfl rfl (by omega) (ql_pure tabOk rfl rfl ?_))))))))))); (iterate 7 refine ql_gno rfl rfl rfl ?_); (iterate 6 refine ql_gnone rfl rfl ?_); refine ql_gno rfl rfl rfl (ql_pure tabOk rfl rfl (q_nil (q_cond_false rfl (q_skip (q_seq (q_region ?_)))))); (iterate 4 refine ql_pure tabOk rfl rfl ?_); refine q_nil (q_ret ?_))
    refine q_fin tabOk rfl (by repeat constructor) fun w hs => ?_
    exact ⟨none, by rw [e]; rfl, hs.sp (by repeat constructor)⟩
theorem two_iff {l : Lb} {a b : Int} : twoV l a b = 0 ↔ l.Ok ∧ inB a 0 (l.skis - 1) = true ∧ inB b 0 (l.skis - 1) = true := by
  unfold twoV
  constructor
  · intro h
    split at h
    · rename_i h1; exact absurd h h1
    · rename_i h1
      split at h
      · cases h
      · rename_i h2
        have h3 : checkV l = 0 := by simpa using h1
        have h4 : (inB a 0 (l.skis - 1) && inB b 0 (l.skis - 1)) = true := by simpa using h2
        rw [Bool.and_eq_true] at h4
        exact ⟨check_iff.1 h3, h4⟩
  · rintro ⟨h1, h2, h3⟩
    rw [if_neg (by simpa using check_iff.2 h1), if_neg (by simp [h2, h3])]
theorem two_ok (w : World) (lo hi : Nat) (l : Lb) (v : Value) (a b : Int) (h : RdR w lo hi v l.runs) (hc0 : twoV l a b = 0) : Ca Try.prog 92 [.agg (lbC l v).toArray, .int .i64 a, .int .i64 b] w fun x w' => ∃ d : Nat, x = .tuple #[.pointer (some ⟨d, 0, none⟩), .int .i64 0] ∧ Sat w M0 [.pt d (dkC l v l.ord) 136] w' := by
  obtain ⟨hl, ha, hb⟩ := two_iff.1 hc0
  have h0 := hl.s0
  have h1 := hl.s1
  refine q_of (Sat.nil w M0) Try.func92 rfl (by simp [Try.ntmps92]) ?_
  (refine q_seq (q_region ?_))
  refine ql_box rfl rfl (fun b3 => ?_)
  rw [agg_cells]
  (refine ql_pure tabOk rfl rfl (ql_pure tabOk rfl rfl (q_nil (q_seq (q_region ?_)))); refine ql_loadABa tabOk rfl rfl rfl ?_)
  refine ql_call (β := Nat) tabOk [] _ M0 rfl rfl rfl rfl (Sp.refl _) (fun _ h => h.elim) (fun w' hs => asked_ok w' lo hi l v (RdE.keep h hs.chg0) hl) ?_
  rintro d _ rfl
  dsimp only [List.cons_append, List.nil_append]
  (refine ql_pure tabOk rfl rfl (ql_ext tabOk rfl rfl rfl (ql_ext tabOk rfl rfl rfl (ql_pure tabOk rfl rfl (ql_pure tabOk rfl rfl (q_nil (q_seq (q_seq (q_region (ql_pure tabOk rfl rfl (ql_eqlT tabOk rfl rfl rfl (by omega) (ql_pure tabOk rfl rfl ?_))))))))))); refine ql_gyes rfl (ql_pure tabOk rfl rfl (ql_gyes rfl (ql_pure tabOk rfl rfl (ql_gyes rfl ?_)))); refine ql_loadBa tabOk rfl rfl rfl ?_; refine ql_gyes rfl (ql_ar tabOk rfl rfl rfl rfl (by omega) (by omega) (ql_gyes rfl ?_)))
  refine ql_callv (val := .bool true) tabOk rfl rfl rfl rfl (fun w hs => ?_) ?_; exact by have := within_ca a 0 (l.skis - 1) w; rw [ha] at this; exact this
  (refine ql_gyes rfl (ql_pure tabOk rfl rfl (ql_gyes rfl (ql_pure tabOk rfl rfl (ql_gyes rfl (ql_pure tabOk rfl rfl (ql_gyes rfl (ql_pure tabOk rfl rfl (ql_gyes rfl ?_)))))))); refine ql_loadBa tabOk rfl rfl rfl ?_; refine ql_gyes rfl (ql_ar tabOk rfl rfl rfl rfl (by omega) (by omega) (ql_gyes rfl ?_)))
  refine ql_callv (val := .bool true) tabOk rfl rfl rfl rfl (fun w hs => ?_) ?_; exact by have := within_ca b 0 (l.skis - 1) w; rw [hb] at this; exact this
  (refine ql_gyes rfl (ql_pure tabOk rfl rfl (ql_gyes rfl (ql_pure tabOk rfl rfl (ql_pure tabOk rfl rfl (q_nil (q_cond_false rfl (q_skip (q_seq (q_region ?_))))))))); (iterate 4 refine ql_pure tabOk rfl rfl ?_); refine q_nil (q_ret ?_))
  refine q_fin tabOk rfl (by repeat constructor) fun w hs => ?_
  exact ⟨d, rfl, hs.sp (by repeat constructor)⟩
def pIx (n : Int) : Value → Bool
  | .int _ i => inB i 0 (n - 1)
  | _ => false
theorem chain1_p (w : World) (c : List Int) (l : Lb) (a : Option Addr) (cp b t : Nat) (hn : l.runs.length ≤ 1000) (hb : Blk w b (lbC l (.slice a l.runs.length cp)) t) : PredAt Try.prog tab w (.func (.func 94) #[] #[.pointer (some ⟨b, 0, none⟩)]) (ints c) (pIx l.runs.length) := by
  refine ⟨_, _, _, rfl, rfl, fun w' hw' x hx => ?_⟩
  have hb' := hb.keep hw'
  obtain ⟨i, hi, rfl⟩ := List.mem_map.1 hx
  refine q_of (Sat.nil w' M0) Try.func94 rfl (by simp [Try.ntmps94]) ?_
  (refine q_seq (q_region (ql_pure tabOk rfl rfl (q_nil (q_seq (q_region (ql_pure tabOk rfl rfl (ql_pure tabOk rfl rfl ?_))))))); refine ql_loadP tabOk rfl rfl rfl (by assumption) (by rfl) ?_; refine ql_pure tabOk rfl rfl (ql_ar tabOk rfl rfl rfl rfl (by omega) (by omega) ?_))
  refine ql_callv (val := .bool (inB i 0 (l.runs.length - 1))) tabOk rfl rfl rfl rfl (fun w hs => ?_) ?_; exact within_ca i 0 (l.runs.length - 1) w
  (refine ql_pure tabOk rfl rfl (q_nil (q_ret ?_)))
  refine q_fin tabOk rfl (by repeat constructor) fun w hs => ?_
  exact ⟨rfl, hs.chg0⟩
theorem lead_step {l : Lb} (hl : l.Ok) (a : Int) (i : Int) (c : List Int) (hi0 : 0 ≤ i) (hi : i.toNat < l.runs.length) : leadV l a (i :: c) = match runI l.err l.runs[i.toNat] with
    | none => none
    | some p => if p.1 = a then leadV l p.2 c else none := by
  have hr := hl.run _ (List.getElem_mem hi)
  have e : l.runs.getD i.toNat ⟨0, 0, 0⟩ = l.runs[i.toNat] := by rw [List.getD_eq_getElem?_getD, List.getElem?_eq_getElem hi]; rfl
  rw [leadV, e, runI_nat]
  cases hx : runI l.err l.runs[i.toNat] with
  | none => rfl
  | some p =>
    have hp : 0 ≤ p.1 ∧ 0 ≤ p.2 := by
      have h1 := hr.a0
      have h2 := hr.b0
      unfold runI at hx
      split at hx
      · cases hx; exact ⟨h1, h2⟩
      · split at hx
        · cases hx; exact ⟨h2, h1⟩
        · cases hx
    show (if ((p.1.toNat : Nat) : Int) = a then leadV l ((p.2.toNat : Nat) : Int) c else none) = _
    rw [Int.toNat_of_nonneg hp.1, Int.toNat_of_nonneg hp.2]
theorem pIx_all (c : List Int) (n : Int) : (ints c).all (pIx n) = c.all fun i => inB i 0 (n - 1) := by
  unfold ints
  rw [List.all_map]
  rfl
theorem chain_no {l : Lb} {a b : Int} {c : List Int} (h2 : twoV l a b ≠ 0) : chainV l a b c = (false, twoV l a b) := by unfold chainV; rw [if_pos h2]
theorem chain_un {l : Lb} {a b : Int} {c : List Int} (h2 : twoV l a b = 0) (ha : (c.all fun i => inB i 0 (l.runs.length - 1)) = false) : chainV l a b c = (false, 1) := by unfold chainV; rw [if_neg (by simpa using h2), if_pos ha]
theorem chain_yes {l : Lb} {a b : Int} {c : List Int} (h2 : twoV l a b = 0) (ha : (c.all fun i => inB i 0 (l.runs.length - 1)) = true) : chainV l a b c = ((match leadV l a c with | none => false | some x => decide (x = b) && (!c.isEmpty && true)), 0) := by unfold chainV; rw [if_neg (by simpa using h2), if_neg (by simp [ha])]; rfl
set_option maxHeartbeats 2000000 in
theorem chainShows_ca (w : World) (lo hi lo2 hi2 : Nat) (l : Lb) (v : Value) (a b : Int) (u : Value) (c : List Int) (h : RdR w lo hi v l.runs) (hlen : l.runs.length ≤ maxLen) (hu : RdI w lo2 hi2 u c) (hc : c.length ≤ 1000000) : Ca Try.prog 36 [.agg (lbC l v).toArray, .int .i64 a, .int .i64 b, u] w fun x w' => x = .tuple #[.bool (chainV l a b c).1, .int .i64 (chainV l a b c).2] ∧ Chg [] w w' := by
  obtain ⟨va, vc, rfl, hva⟩ := RdR.outI h
  obtain ⟨ua, uc, rfl, hua⟩ := RdI.outI hu
  refine q_of (Sat.nil w M0) Try.func36 rfl (by simp [Try.ntmps36]) ?_
  (refine q_seq (q_region ?_))
  refine ql_box rfl rfl (fun b4 => ?_)
  rw [agg_cells]
  (refine ql_pure tabOk rfl rfl (ql_pure tabOk rfl rfl (q_nil (q_seq (q_region ?_)))); refine ql_loadABa tabOk rfl rfl rfl ?_; refine ql_pure tabOk rfl rfl (ql_pure tabOk rfl rfl ?_))
  by_cases h2 : twoV l a b = 0
  · obtain ⟨hl, ha, hb⟩ := two_iff.1 h2
    have hl40 := hl.len
    refine ql_call (β := Nat) tabOk [] _ M0 rfl rfl rfl rfl (Sp.refl _) (fun _ h => h.elim) (fun w' hs => two_ok w' lo hi l _ a b (RdE.keep h hs.chg0) h2) ?_
    rintro d _ rfl
    dsimp only [List.cons_append, List.nil_append]
    (refine ql_pure tabOk rfl rfl (ql_ext tabOk rfl rfl rfl (ql_ext tabOk rfl rfl rfl (ql_pure tabOk rfl rfl (ql_pure tabOk rfl rfl (q_nil (q_seq (q_block (q_seq (q_region (ql_pure tabOk rfl rfl (ql_neqF tabOk rfl rfl rfl (by omega) ?_))))))))))); refine ql_pure tabOk rfl rfl (q_nil (q_cond_false rfl (q_seq (q_region (ql_pure tabOk rfl rfl (ql_pure tabOk rfl rfl ?_)))))))
    refine ql_callv (val := .bool (c.all fun i => inB i 0 (l.runs.length - 1))) tabOk rfl rfl rfl rfl (fun w hs => ?_) ?_; exact by have := all_int w lo2 hi2 _ _ (ints c) (pIx l.runs.length) (RdE.keep hu hs.chg0) (by intro i hi; simp [ints, oneV]) (by simp [ints]; omega) (chain1_p w c l va vc b4 _ (by omega) (hs.blk (by repeat constructor))); rw [pIx_all] at this; exact this
    (refine ql_pure tabOk rfl rfl (ql_pure tabOk rfl rfl (q_nil ?_)))
    cases hal : (c.all fun i => inB i 0 (l.runs.length - 1)) with
    | false =>
      (refine q_cond_true rfl (q_seq (q_region (ql_pure tabOk rfl rfl (ql_pure tabOk rfl rfl (q_nil (q_ret ?_)))))))
      refine q_fin tabOk rfl (by repeat constructor) fun w hs => ?_
      exact ⟨by rw [chain_un h2 hal]; rfl, hs.chg0⟩
    | true =>
      (refine q_cond_false rfl (q_skip (q_blk (q_seq (q_region (ql_pure tabOk rfl rfl (ql_pure tabOk rfl rfl (q_nil (q_seq (q_seq (q_region ?_)))))))))); (iterate 3 refine ql_pure tabOk rfl rfl ?_); refine q_nil (q_block ?_))
      refine q_loop (σ := Nat × Int) (fun s => s.1 ≤ c.length ∧ leadV l s.2 (c.drop s.1) = leadV l a c) (fun s => c.length - s.1)
        (fun s => [(2, .int .i64 b), (3, .slice ua c.length uc), (10, .pointer (some ⟨d, 0, none⟩)), (12, .int .i64 s.2), (34, .slice ua c.length uc), (35, .int .i64 c.length), (36, .int .i64 s.1)])
        (fun _ => [.pt d (dkC l (.slice va l.runs.length vc) l.ord) 136]) (0, a) ⟨by omega, rfl⟩ ⟨rfl, rfl, rfl, rfl, rfl, rfl, rfl, trivial⟩ (by repeat constructor) ?_
      rintro ⟨j, x⟩ ⟨hj, hx⟩ K hK
      dsimp only at hj hx ⊢
      (refine q_seq (q_region (ql_pure tabOk rfl rfl (q_nil (q_seq ?_)))))
      refine q_if rfl (fun hc => ?_) (fun hc => ?_)
      · have hj2 : j < c.length := by omega
        clear hc
        (refine q_skip (q_seq (q_block (q_seq (q_region ?_)))))
        obtain ⟨ub, uo, rfl⟩ := hua (by omega)
        refine ql_index tabOk rfl rfl rfl rfl rfl (by omega) (by omega) ?_
        refine ql_load1 tabOk rfl rfl rfl (fun w hs => RdI.at (RdE.keep hu hs.chg0) j hj2) ?_
        have hall := inB_iff.1 (List.all_eq_true.1 hal _ (List.getElem_mem hj2))
        generalize hik : c[j] = i at hall ⊢
        obtain ⟨k, rfl⟩ := Int.eq_ofNat_of_zero_le hall.1
        have hi2 : k < l.runs.length := by omega
        have hstep := lead_step hl x k (c.drop (j + 1)) hall.1 hi2
        have hd := List.drop_eq_getElem_cons hj2
        rw [hik] at hd
        rw [← hd, hx] at hstep
        simp only [Int.toNat_natCast] at hstep
        (refine ql_pure tabOk rfl rfl (q_nil (q_seq (q_region ?_))); (iterate 3 refine ql_pure tabOk rfl rfl ?_); refine ql_loadABa tabOk rfl rfl rfl ?_; refine ql_pure tabOk rfl rfl ?_)
        refine ql_callv (val := shO (runI l.err l.runs[k])) tabOk rfl rfl rfl rfl (fun w hs => ?_) ?_; exact shows_ca w lo hi l _ (RdE.keep h hs.chg0) ⟨hl.e0, hl.e1⟩ k hi2
        cases hr : runI l.err l.runs[k] with
        | none =>
          dsimp only [shO]
          (refine ql_pure tabOk rfl rfl (ql_ext tabOk rfl rfl rfl (ql_ext tabOk rfl rfl rfl ?_)))
          refine ql_alloc zero63 rfl (fun b15 => ?_)
          (refine ql_setA tabOk rfl rfl rfl rfl rfl (by repeat constructor) rfl ?_; refine ql_pure tabOk rfl rfl (q_nil (q_seq (q_seq (q_region ?_)))); (iterate 3 refine ql_pure tabOk rfl rfl ?_); (iterate 4 refine ql_gno rfl rfl rfl ?_); refine ql_pure tabOk rfl rfl (q_nil (q_cond_true rfl (q_seq (q_region (ql_pure tabOk rfl rfl (ql_pure tabOk rfl rfl (q_nil (q_ret ?_)))))))))
          refine q_fin tabOk rfl (by repeat constructor) fun w hs => ?_
          exact ⟨by rw [chain_yes h2 hal, hstep, hr]; rfl, hs.chg0⟩
        | some p =>
          rw [hr] at hstep
          dsimp only at hstep
          dsimp only [shO]
          (refine ql_pure tabOk rfl rfl (ql_ext tabOk rfl rfl rfl (ql_ext tabOk rfl rfl rfl ?_)))
          refine ql_alloc zero63 rfl (fun b15 => ?_)
          (refine ql_setA tabOk rfl rfl rfl rfl rfl (by repeat constructor) rfl ?_; refine ql_pure tabOk rfl rfl (q_nil (q_seq (q_seq (q_region ?_)))); (iterate 3 refine ql_pure tabOk rfl rfl ?_); refine ql_gyes rfl (ql_pure tabOk rfl rfl (ql_gyes rfl ?_)); refine ql_loadBa tabOk rfl rfl rfl ?_; refine ql_gyes rfl (ql_pure tabOk rfl rfl (ql_gyes rfl (ql_pure tabOk rfl rfl (ql_pure tabOk rfl rfl (q_nil ?_))))))
          refine q_ifn rfl (fun hc => ?_) (fun hc => ?_)
          · have hp : ¬ p.1 = x := by simpa using hc
            rw [if_neg hp] at hstep
            (refine q_seq (q_region (ql_pure tabOk rfl rfl (ql_pure tabOk rfl rfl (q_nil (q_ret ?_))))))
            refine q_fin tabOk rfl (by repeat constructor) fun w hs => ?_
            exact ⟨by rw [chain_yes h2 hal, hstep]; rfl, hs.chg0⟩
          · have hp : p.1 = x := by simpa using hc
            rw [if_pos hp] at hstep
            (refine q_skip (q_region (ql_pure tabOk rfl rfl ?_)); refine ql_loadBa tabOk rfl rfl rfl ?_; refine ql_pure tabOk rfl rfl (q_nil (q_blk (q_region (ql_ar tabOk rfl rfl rfl rfl (by omega) (by omega) (ql_pure tabOk rfl rfl (q_nil ?_)))))))
            exact hK (j + 1, p.2) _ _ ⟨by simp only; omega, hstep.symm⟩ (by simp only; omega) ⟨rfl, rfl, rfl, rfl, rfl, rfl, rfl, trivial⟩ (by repeat constructor)
      · have hjn : j = c.length := by omega
        subst hjn
        rw [List.drop_length] at hx
        have e : leadV l a c = some x := hx.symm
        by_cases hxb : x = b
        · cases c with
          | nil =>
            (refine q_exit _ rfl (q_seq (q_region (ql_pure tabOk rfl rfl (ql_pure tabOk rfl rfl (ql_eqlT tabOk rfl rfl rfl (by omega) (ql_pure tabOk rfl rfl (ql_gyes rfl (ql_pure tabOk rfl rfl (ql_gyes rfl (ql_pure tabOk rfl rfl (ql_gyes rfl ?_))))))))))); refine ql_gtrF tabOk rfl rfl rfl (by omega) ?_; (iterate 3 refine ql_pure tabOk rfl rfl ?_); refine q_nil (q_ret ?_))
            refine q_fin tabOk rfl (by repeat constructor) fun w hs => ?_
            exact ⟨by rw [chain_yes h2 hal, e]; simp [retV], hs.chg0⟩
          | cons c0 c =>
            (refine q_exit _ rfl (q_seq (q_region (ql_pure tabOk rfl rfl (ql_pure tabOk rfl rfl (ql_eqlT tabOk rfl rfl rfl (by omega) (ql_pure tabOk rfl rfl (ql_gyes rfl (ql_pure tabOk rfl rfl (ql_gyes rfl (ql_pure tabOk rfl rfl (ql_gyes rfl ?_))))))))))); (iterate 4 refine ql_pure tabOk rfl rfl ?_); refine q_nil (q_ret ?_))
            refine q_fin tabOk rfl (by repeat constructor) fun w hs => ?_
            exact ⟨by rw [chain_yes h2 hal, e]; simp [retV, hxb], hs.chg0⟩
        · (refine q_exit _ rfl (q_seq (q_region (ql_pure tabOk rfl rfl (ql_pure tabOk rfl rfl (ql_eqlF tabOk rfl rfl rfl (by omega) (ql_pure tabOk rfl rfl ?_)))))); (iterate 3 refine ql_gno rfl rfl rfl ?_); (iterate 3 refine ql_pure tabOk rfl rfl ?_); refine q_nil (q_ret ?_))
          refine q_fin tabOk rfl (by repeat constructor) fun w hs => ?_
          exact ⟨by rw [chain_yes h2 hal, e]; simp [retV, hxb], hs.chg0⟩
  · refine ql_call (β := Option Addr) tabOk [] _ M0 rfl rfl rfl rfl (Sp.refl _) (fun _ h => h.elim) (fun w' hs => two_no w' lo hi l _ a b (RdE.keep h hs.chg0) hlen h2) ?_
    rintro p _ rfl
    dsimp only [List.cons_append, List.nil_append]
    (refine ql_pure tabOk rfl rfl (ql_ext tabOk rfl rfl rfl (ql_ext tabOk rfl rfl rfl (ql_pure tabOk rfl rfl (ql_pure tabOk rfl rfl (q_nil (q_seq (q_block (q_seq (q_region (ql_pure tabOk rfl rfl (ql_neqT tabOk rfl rfl rfl (by omega) ?_))))))))))); refine ql_pure tabOk rfl rfl (q_nil (q_cond_true rfl (q_seq (q_region ?_)))); (iterate 3 refine ql_pure tabOk rfl rfl ?_); refine q_nil (q_ret ?_))
    refine q_fin tabOk rfl (by repeat constructor) fun w hs => ?_
    exact ⟨by rw [chain_no h2]; rfl, hs.chg0⟩
end Go.Proofs.Ytcmpdmobmbbplaa

/- The engine, part B32: a cell of an element of a slice of our own changed; elements of several cells. -/
namespace Go.Eng
open Go Go.RowKit

section
variable {P : Program} {T : Tab}
variable {ro : Cx} {n : Nat} {F : Fin} {w0 : World} {M : Nat → Prop} {k : List It} {ops : Array Oper} {rest : List Oper} {e : Env} {H Hq : List Ck}
theorem own_set {w' : World} {et sz g m c i : Nat} {xs : List Value} {u : Value} {cur : Array Value} (hl : xs.length = m * sz) (hg : 0 ≤ g) (hnc : m ≤ c) (hcm : c ≤ maxLen) (hcs : cur.size = c * sz) (ht : cur.toList.take (m * sz) = xs)
    (hb' : Blk w' g (cur.toList.set i u) et) : w'.ownsRow 0 et sz (.slice (some ⟨g, 0, none⟩) m c) m (xs.set i u) := by
  refine ⟨by simpa using hl, .inr ⟨g, c, (cur.toList.set i u).toArray, rfl, hg, by simpa [Blk] using hb', hnc, hcm, by simpa using hcs, ?_⟩⟩
  simp only [List.toList_toArray]
  rw [List.take_set, ht]
theorem qf_storeWs (hT : T.Ok P) {t : Nat} {x y : Operand} {g off m c et sz : Nat} {xs : List Value} {u : Value} {H' : List Ck} {ty : TypeId} {pos : String} {af : Array Edge} (i : Nat)
    (hx : opv e x = some (.pointer (some ⟨g, off, none⟩))) (hy : opv e y = some u) (h1 : has T.one t = true) (hv : oneV u = true)
    (hr : Rp H (.ow (.slice (some ⟨g, 0, none⟩) m c) et sz m xs) (.ow (.slice (some ⟨g, 0, none⟩) m c) et sz m (xs.set i u)) H') (ho : off = i) (hi : i < xs.length)
    (h : QF P ro n F w0 M k ops Hq rest e H') : QF P ro n F w0 M k ops Hq (⟨none, .store t x y, ty, pos, af, none⟩ :: rest) e H := .mk fun w hs => by
  subst ho
  obtain ⟨hl, h2⟩ : w.ownsRow 0 et sz (.slice (some ⟨g, 0, none⟩) m c) m xs := hs.mem (hr.app Hq).mem
  rcases h2 with ⟨hv', _⟩ | ⟨g', cap, cur, hv', hg, hh, hnc, hcm, hcs, ht⟩
  · cases hv'
  cases hv'
  have hb : Blk w g cur.toList et := by simpa [Blk] using hh
  have hcl : off < cur.toList.length := by
    have := congrArg List.length ht
    rw [List.length_take] at this
    omega
  refine yf_store1 hT hx hy h1 hv hb hcl (fun w' hc _ hb' => ?_)
  have hs' := hs.rep (hr.app Hq) hc (fun k hk => by
    obtain rfl : k = g := by simpa using hk
    rfl) (own_set hl hg hnc hcm hcs ht hb') (fun b hb2 => by
    have : b = g := by simpa [Ck.D, Value.ownBlock] using hb2.symm
    subst this
    exact ⟨.inl rfl, hb'.lt⟩)
  exact ⟨hs'.right, h.h w' hs'⟩
/-! x[l:h] -/
theorem run_part {t et sz : Nat} (hu : P.underlying t = some (.slice et)) (hsz : (P.info? et).map (·.size) = some sz) {b off len cap : Nat} {kl kh : IntKind} {l h : Int} (h0 : 0 ≤ l) (h1 : l < h) (h2 : h ≤ cap) (w : World) :
    (Instr.sliceAt t (.slice (some ⟨b, off, none⟩) len cap) (some (.int kl l)) (some (.int kh h)) none).run P w = .ok (.slice (some ⟨b, off + l.toNat * sz, none⟩) (h.toNat - l.toNat) (cap - l.toNat)) w := by
  have he := elem_slice hu
  cases hq : P.info? et with
  | none => simp [hq] at hsz
  | some i =>
    have hi : i.size = sz := by simpa [hq] using hsz
    subst hi
    have hne : ¬ cap - l.toNat = 0 := by omega
    have hne2 : ¬ cap = l.toNat := by omega
    rw [run_sliceAt_slice w t _ _ _ _ (by rw [he]; exact hu), run_slice_lh w t _ len cap (by rw [he]; exact hu) kl kh l h h0 (by omega) h2, he]
    simp [sizeOf, typeInfo, hq, sliced, hne, hne2, Addr.add_lit]
theorem ql_part {d t et sz : Nat} {x lo hi : Operand} {b off len cap : Nat} {kl kh : IntKind} {l h : Int} {ty : TypeId} {pos : String} {af : Array Edge} (hu : P.underlying t = some (.slice et)) (hsz : (P.info? et).map (·.size) = some sz)
    (hx : opv e x = some (.slice (some ⟨b, off, none⟩) len cap)) (hl : opv e lo = some (.int kl l)) (hh : opv e hi = some (.int kh h)) (hd : Nat.blt d n = true) (h0 : 0 ≤ l) (h1 : l < h) (h2 : h ≤ cap)
    (hk : QL P ro n F w0 M k ops rest ((d, .slice (some ⟨b, off + l.toNat * sz, none⟩) (h.toNat - l.toNat) (cap - l.toNat)) :: e) H) : QL P ro n F w0 M k ops (⟨some d, .slice t x (some lo) (some hi) none, ty, pos, af, none⟩ :: rest) e H := .mk fun w hw =>
  yl_val (by simp) hd (fun ac hf => by
    simp only [execOp, hf.op hx]
    simp [hf.op hl, hf.op hh, run_part hu hsz h0 h1 h2 w]) (hk.h w hw)
theorem RdI.part {w : World} {lo hi b off n c c2 k h m : Nat} {l : List Int} (hr : RdI w lo hi (.slice (some ⟨b, off, none⟩) n c) l) (hk : k < h) (hh : h ≤ l.length) (hm : m = h - k) : RdI w lo hi (.slice (some ⟨b, off + k * 1, none⟩) m c2) ((l.drop k).take m) := by
  have hl : ((l.drop k).take m).length = m := by rw [List.length_take, List.length_drop]; omega
  have h1 := hr.rd
  rw [cellsOf_one _ (by simp [oneV])] at h1
  refine RdI.of (by
    rw [hl]
    refine ⟨by simp [ints, hl]; omega, ?_⟩
    obtain ⟨e1, e2⟩ := h1
    rcases e2 with ⟨h3, h4⟩ | ⟨b', off', cap, h3, h4, h5⟩
    · simp at h4
      subst h4
      simp at hh
      omega
    · injection h3 with e1 e2 e3
      injection e1 with e1
      injection e1 with e1 e2
      subst e1 e2
      refine .inr ⟨b, off + k * 1, c2, rfl, fun _ => h4 (by simp; omega), fun j hj => ?_⟩
      have hj2 : j < m := by simp [ints] at hj; omega
      rw [show off + k * 1 + j = off + (k + j) from by omega, h5 (k + j) (by simp; omega)]
      simp [ints, List.getElem?_map, List.getElem?_take, List.getElem?_drop, hj2])
end
end Go.Eng

/- Walks: the error of a table; the greatest regret. -/
namespace Go.Proofs.Ytcmpdmobmbbplaa
open Go Go.Eng

/-- A list of numbers as it is read. -/
def rowAt (w : World) : Value → List Int
  | .slice (some ⟨b, off, _⟩) n _ => (List.range n).map fun i => match w.cell? ⟨b, off + i, none⟩ with
    | some (.int _ z) => z
    | _ => 0
  | _ => []
theorem rowAt_eq {w : World} {lo hi : Nat} {v : Value} {l : List Int} (h : RdI w lo hi v l) : rowAt w v = l := by
  obtain ⟨a, c, rfl, ha⟩ := RdI.outI h
  cases l with
  | nil =>
    cases a <;> rfl
  | cons x l =>
    obtain ⟨b, off, rfl⟩ := ha (by simp)
    refine List.ext_getElem (by simp [rowAt]) (fun i h1 h2 => ?_)
    have := RdI.at h i h2
    simp only [rowAt, List.getElem_map, List.getElem_range]
    rw [Nat.mul_one] at this
    rw [this]
theorem rdII_all {w : World} {lo hi : Nat} {ll : List (List Int)} {vs : List Value} (h2 : vs.length = ll.length) (h3 : ∀ i (h : i < vs.length) (h' : i < ll.length), RdI w lo hi vs[i] ll[i]) (p : List Int → Bool) : vs.all (fun x => p (rowAt w x)) = ll.all p := by
  have e : vs.map (rowAt w) = ll := List.ext_getElem (by simp [h2]) (fun i h4 h5 => by
    rw [List.getElem_map]
    exact rowAt_eq (h3 i (by simpa using h4) h5))
  rw [← e, List.all_map]
  rfl
theorem rdII_mem {w : World} {lo hi : Nat} {ll : List (List Int)} {vs : List Value} (h2 : vs.length = ll.length) (h3 : ∀ i (h : i < vs.length) (h' : i < ll.length), RdI w lo hi vs[i] ll[i]) {x : Value} (hx : x ∈ vs) : RdI w lo hi x (rowAt w x) ∧ rowAt w x ∈ ll := by
  obtain ⟨i, hi, rfl⟩ := List.mem_iff_getElem.1 hx
  have h := h3 i hi (by omega)
  rw [rowAt_eq h]
  exact ⟨h, List.getElem_mem _⟩
def lenP (n : Nat) (row : List Int) : Bool := inB row.length 1 20 && (decide (row.length = n) && true)
def valP (row : List Int) : Bool := row.all fun n => inB n 0 10000
theorem table1_p (w : World) (lo hi b t : Nat) (v : Value) (l : List (List Int)) (vs : List Value) (hb : Blk w b [v] t) (h : RdII w lo hi v l) (hl : 1 ≤ l.length ∧ l.length ≤ 12) (h2 : vs.length = l.length) (h3 : ∀ i (h : i < vs.length) (h' : i < l.length), RdI w lo hi vs[i] l[i]) :
    PredAt Try.prog tab w (.func (.func 130) #[] #[.pointer (some ⟨b, 0, none⟩)]) vs (fun x => lenP (l.headD []).length (rowAt w x)) := by
  refine ⟨_, _, _, rfl, rfl, fun w' hw' x hx => ?_⟩
  have hb' := hb.keep hw'
  obtain ⟨hr, hm⟩ := rdII_mem h2 h3 hx
  dsimp only
  generalize hg : rowAt w x = row at hr hm ⊢
  obtain ⟨ra, rc, rfl, hra⟩ := RdI.outI hr
  obtain ⟨a, c, rfl, ha⟩ := RdII.outI h
  obtain ⟨vb, vo, rfl⟩ := ha (by omega)
  obtain ⟨a0, c0, hr0, hc0⟩ := RdII.row h 0 (by omega)
  have e0 : l.headD [] = l[0] := by cases l with
    | nil => simp at hl
    | cons x l => rfl
  refine q_of (Sat.nil w' M0) Try.func130 rfl (by simp [Try.ntmps130]) ?_
  (refine q_seq (q_region (ql_pure tabOk rfl rfl (q_nil (q_seq (q_region (ql_pure tabOk rfl rfl (ql_pure tabOk rfl rfl ?_))))))))
  refine ql_callv (val := .bool (inB row.length 1 20)) tabOk rfl rfl rfl rfl (fun w hs => ?_) ?_; exact within_ca row.length 1 20 w
  (refine ql_pure tabOk rfl rfl ?_)
  cases h1 : inB row.length 1 20 with
  | false =>
    ((iterate 7 refine ql_gno rfl rfl rfl ?_); refine ql_pure tabOk rfl rfl (ql_pure tabOk rfl rfl (q_nil (q_ret ?_))))
    refine q_fin tabOk rfl (by repeat constructor) fun w hs => ?_
    exact ⟨by simp [lenP, h1, retV], hs.chg0⟩
  | true =>
    (refine ql_gyes rfl (ql_pure tabOk rfl rfl (ql_gyes rfl (ql_pure tabOk rfl rfl (ql_gyes rfl ?_)))); refine ql_loadP tabOk rfl rfl rfl (by assumption) (by rfl) ?_; refine ql_gyes rfl ?_)
    refine ql_index tabOk rfl rfl rfl rfl rfl (by omega) (by omega) ?_
    (refine ql_gyes rfl ?_)
    refine ql_load1 tabOk rfl rfl rfl (fun w hs => hc0 _ (hw'.trans hs.chg0)) ?_
    (refine ql_gyes rfl (ql_pure tabOk rfl rfl (ql_gyes rfl ?_)); (iterate 3 refine ql_pure tabOk rfl rfl ?_); refine q_nil (q_ret ?_))
    refine q_fin tabOk rfl (by repeat constructor) fun w hs => ?_
    exact ⟨by rw [e0]; simp only [lenP, h1, retV, Bool.true_and, Bool.and_true, Value.bool.injEq]; exact decide_eq_decide.2 (by omega), hs.chg0⟩
theorem table3_p (w : World) (c : List Int) : PredAt Try.prog tab w (.func (.func 132) #[] #[]) (ints c) (fun x => match x with | .int _ i => inB i 0 10000 | _ => false) := by
  refine ⟨_, _, _, rfl, rfl, fun w' hw' x hx => ?_⟩
  obtain ⟨i, hi, rfl⟩ := List.mem_map.1 hx
  refine q_of (Sat.nil w' M0) Try.func132 rfl (by simp [Try.ntmps132]) ?_
  (refine q_seq (q_region (ql_pure tabOk rfl rfl (q_nil (q_seq (q_region (ql_pure tabOk rfl rfl ?_)))))))
  refine ql_callv (val := .bool (inB i 0 10000)) tabOk rfl rfl rfl rfl (fun w hs => ?_) ?_; exact within_ca i 0 10000 w
  (refine ql_pure tabOk rfl rfl (q_nil (q_ret ?_)))
  refine q_fin tabOk rfl (by repeat constructor) fun w hs => ?_
  exact ⟨rfl, hs.chg0⟩
theorem table2_p (w : World) (lo hi : Nat) (l : List (List Int)) (vs : List Value) (hl : ∀ row ∈ l, row.length ≤ 20) (h2 : vs.length = l.length) (h3 : ∀ i (h : i < vs.length) (h' : i < l.length), RdI w lo hi vs[i] l[i]) :
    PredAt Try.prog tab w (.func (.func 131) #[] #[]) vs (fun x => valP (rowAt w x)) := by
  refine ⟨_, _, _, rfl, rfl, fun w' hw' x hx => ?_⟩
  obtain ⟨hr, hm⟩ := rdII_mem h2 h3 hx
  dsimp only
  generalize hg : rowAt w x = row at hr hm ⊢
  have hr20 := hl row hm
  obtain ⟨ra, rc, rfl, hra⟩ := RdI.outI hr
  refine q_of (Sat.nil w' M0) Try.func131 rfl (by simp [Try.ntmps131]) ?_
  (refine q_seq (q_region (ql_pure tabOk rfl rfl (q_nil (q_seq (q_region (ql_pure tabOk rfl rfl ?_)))))))
  refine ql_callv (val := .bool (valP row)) tabOk rfl rfl rfl rfl (fun w hs => ?_) ?_; exact by have := all_int w lo hi _ _ (ints row) _ (RdE.keep hr (hw'.trans hs.chg0)) (by intro i hi; simp [ints, oneV]) (by simp [ints]; omega) (table3_p w row); unfold ints at this; rw [List.all_map] at this; exact this
  (refine ql_pure tabOk rfl rfl (q_nil (q_ret ?_)))
  refine q_fin tabOk rfl (by repeat constructor) fun w hs => ?_
  exact ⟨rfl, hs.chg0⟩
theorem table_ca (w : World) (lo hi : Nat) (v : Value) (l : List (List Int)) (h : RdII w lo hi v l) : Ca Try.prog 82 [v] w fun x w' => x = .int .i64 (tableV l) ∧ Chg [] w w' := by
  obtain ⟨a, c, rfl, ha⟩ := RdII.outI h
  obtain ⟨vs, hv1, hv2, hv3⟩ := h
  have hone : ∀ i (hi : i < vs.length), oneV vs[i] = true := fun i hi => by
    obtain ⟨a, c, e, _⟩ := RdI.outI (hv3 i hi (by omega))
    rw [e]
    rfl
  refine q_of (Sat.nil w M0) Try.func82 rfl (by simp [Try.ntmps82]) ?_
  (refine q_seq (q_region ?_))
  refine ql_box rfl rfl (fun b1 => ?_)
  (refine ql_pure tabOk rfl rfl (q_nil (q_seq (q_block (q_seq (q_region ?_))))); refine ql_loadBa tabOk rfl rfl rfl ?_; refine ql_pure tabOk rfl rfl ?_)
  refine ql_callv (val := .bool (inB l.length 1 12)) tabOk rfl rfl rfl rfl (fun w hs => ?_) ?_; exact within_ca l.length 1 12 w
  (refine ql_pure tabOk rfl rfl (ql_pure tabOk rfl rfl ?_))
  cases h1 : inB l.length 1 12 with
  | false =>
    ((iterate 4 refine ql_gno rfl rfl rfl ?_); refine ql_pure tabOk rfl rfl (ql_pure tabOk rfl rfl (q_nil (q_cond_true rfl (q_seq (q_region (ql_pure tabOk rfl rfl (q_nil (q_ret ?_)))))))))
    refine q_fin tabOk rfl (by repeat constructor) fun w hs => ?_
    exact ⟨by simp [retV, tableV, h1], hs.chg0⟩
  | true =>
    have h1' := inB_iff.1 h1
    (refine ql_gyes rfl ?_; refine ql_loadBa tabOk rfl rfl rfl ?_; refine ql_gyes rfl (ql_pure tabOk rfl rfl (ql_gyes rfl ?_)))
    refine ql_callv (val := .bool (l.all (lenP (l.headD []).length))) tabOk rfl rfl rfl rfl (fun w hs => ?_) ?_; exact by have := all_ints w lo hi _ _ vs _ (hv1.keep hs.chg0) hone (by omega) (table1_p w lo hi b1 _ _ l vs (hs.blk (by repeat constructor)) ⟨vs, hv1.keep hs.chg0, hv2, fun i hi hi' => (hv3 i hi hi').keep hs.chg0⟩ (by omega) hv2 (fun i hi hi' => (hv3 i hi hi').keep hs.chg0)); rw [rdII_all hv2 (fun i hi hi' => (hv3 i hi hi').keep hs.chg0)] at this; exact this
    (refine ql_gyes rfl ?_; (iterate 3 refine ql_pure tabOk rfl rfl ?_); refine q_nil ?_)
    cases h4 : l.all (lenP (l.headD []).length) with
    | false =>
      have e : tableV l = 2 := by show (if (inB l.length 1 12 && l.all (lenP (l.headD []).length)) = false then (2 : Int) else if l.all valP = false then 3 else 0) = 2; rw [if_pos (by rw [h1]; exact h4)]
      (refine q_cond_true rfl (q_seq (q_region (ql_pure tabOk rfl rfl (q_nil (q_ret ?_))))))
      refine q_fin tabOk rfl (by repeat constructor) fun w hs => ?_
      exact ⟨by rw [e]; rfl, hs.chg0⟩
    | true =>
      have hl20 : ∀ row ∈ l, row.length ≤ 20 := fun row hm => by
        have := List.all_eq_true.1 h4 row hm
        simp only [lenP, Bool.and_eq_true] at this
        have := inB_iff.1 this.1
        omega
      (refine q_cond_false rfl (q_seq (q_region ?_)); refine ql_loadBa tabOk rfl rfl rfl ?_)
      refine ql_callv (val := .bool (l.all valP)) tabOk rfl rfl rfl rfl (fun w hs => ?_) ?_; exact by have := all_ints w lo hi _ _ vs _ (hv1.keep hs.chg0) hone (by omega) (table2_p w lo hi l vs hl20 hv2 (fun i hi hi' => (hv3 i hi hi').keep hs.chg0)); rw [rdII_all hv2 (fun i hi hi' => (hv3 i hi hi').keep hs.chg0)] at this; exact this
      (refine ql_pure tabOk rfl rfl (ql_pure tabOk rfl rfl (q_nil ?_)))
      have hn : ¬ (inB l.length 1 12 && l.all (lenP (l.headD []).length)) = false := by rw [h1, h4]; simp
      cases h5 : l.all valP with
      | false =>
        have e : tableV l = 3 := by show (if (inB l.length 1 12 && l.all (lenP (l.headD []).length)) = false then (2 : Int) else if l.all valP = false then 3 else 0) = 3; rw [if_neg hn, if_pos h5]
        (refine q_cond_true rfl (q_seq (q_region (ql_pure tabOk rfl rfl (q_nil (q_ret ?_))))))
        refine q_fin tabOk rfl (by repeat constructor) fun w hs => ?_
        exact ⟨by rw [e]; rfl, hs.chg0⟩
      | true =>
        have h6 : ¬ l.all valP = false := by rw [h5]; simp
        have e : tableV l = 0 := by show (if (inB l.length 1 12 && l.all (lenP (l.headD []).length)) = false then (2 : Int) else if l.all valP = false then 3 else 0) = 0; rw [if_neg hn, if_neg h6]
        (refine q_cond_false rfl (q_skip (q_blk (q_seq (q_region (ql_pure tabOk rfl rfl (q_nil (q_ret ?_))))))))
        refine q_fin tabOk rfl (by repeat constructor) fun w hs => ?_
        exact ⟨by rw [e]; rfl, hs.chg0⟩
end Go.Proofs.Ytcmpdmobmbbplaa

/- Walks: the greatest of numbers; the greatest regret; the least of numbers. -/
namespace Go.Proofs.Ytcmpdmobmbbplaa
open Go Go.Eng

theorem maxF_snoc (a : Int) (l : List Int) (x : Int) : maxF a (l ++ [x]) = max (maxF a l) x := by simp [maxF, List.foldl_append]
theorem minF_snoc (a : Int) (l : List Int) (x : Int) : minF a (l ++ [x]) = min (minF a l) x := by simp [minF, List.foldl_append]
theorem maxI_ca (w : World) (lo hi : Nat) (v : Value) (x : Int) (l : List Int) (h : RdI w lo hi v (x :: l)) (hl : l.length ≤ 1000000) : Ca Try.prog 24 [v] w fun r w' => r = .int .i64 (maxF x l) ∧ Chg [] w w' := by
  obtain ⟨a, c, rfl, ha⟩ := RdI.outI h
  obtain ⟨b, off, rfl⟩ := ha (by simp)
  generalize hn : (x :: l).length = n
  have hn' : n = l.length + 1 := by rw [← hn]; rfl
  rw [hn] at h
  refine q_of (Sat.nil w M0) Try.func24 rfl (by simp [Try.ntmps24]) ?_
  (refine q_seq (q_region (ql_pure tabOk rfl rfl (q_nil (q_seq (q_seq (q_region (ql_pure tabOk rfl rfl (ql_pure tabOk rfl rfl (ql_lssF tabOk rfl rfl rfl (by omega) (q_nil (q_cond_false rfl ?_))))))))))); refine q_skip (q_seq (q_region (ql_pure tabOk rfl rfl ?_))))
  refine ql_index tabOk rfl rfl rfl rfl rfl (by omega) (by omega) ?_
  refine ql_load1 (v := .int .i64 x) tabOk rfl rfl rfl (fun w hs => RdI.at (RdE.keep h hs.chg0) 0 (by simp)) ?_
  (refine ql_pure tabOk rfl rfl (q_nil (q_seq (q_seq (q_region (ql_pure tabOk rfl rfl (q_nil (q_block ?_))))))))
  refine q_loop (σ := Nat) (fun s => s ≤ l.length) (fun s => l.length - s) (fun s => [(0, .slice (some ⟨b, off, none⟩) n c), (3, .int .i64 (maxF x (l.take s))), (4, .int .i64 (s + 1))]) (fun _ => []) 0 (by omega) ⟨rfl, rfl, rfl, trivial⟩ (by repeat constructor) ?_
  rintro s hs1 K hK
  (refine q_seq (q_seq (q_region ?_)); (iterate 4 refine ql_pure tabOk rfl rfl ?_); refine q_nil ?_)
  refine q_if rfl (fun hc => ?_) (fun hc => ?_)
  · have hs2 : s < l.length := by omega
    clear hc
    (refine q_skip (q_seq (q_block (q_region ?_))); (iterate 3 refine ql_pure tabOk rfl rfl ?_))
    refine ql_index tabOk rfl rfl rfl rfl rfl (by omega) (by omega) ?_
    refine ql_load1 (v := .int .i64 l[s]) tabOk rfl rfl rfl (fun w hs => by
      have h1 := RdI.at (RdE.keep h hs.chg0) (s + 1) (by simp; omega)
      rw [List.getElem_cons_succ] at h1
      have e : ((s : Int) + 1).toNat = s + 1 := by omega
      rw [e]
      exact h1) ?_
    (refine ql_pure tabOk rfl rfl (ql_pure tabOk rfl rfl (q_nil (q_blk (q_region (ql_pure tabOk rfl rfl (ql_ar tabOk rfl rfl rfl rfl (by omega) (by omega) (ql_pure tabOk rfl rfl (q_nil ?_)))))))))
    exact hK (s + 1) _ _ (by omega) (by omega) ⟨rfl, by
      rw [List.take_succ_eq_append_getElem hs2, maxF_snoc]
      rfl, rfl, trivial⟩ (by repeat constructor)
  · have hsn : s = l.length := by omega
    subst hsn
    rw [List.take_length]
    (refine q_exit _ rfl (q_seq (q_region (ql_pure tabOk rfl rfl (ql_pure tabOk rfl rfl (q_nil (q_ret ?_)))))))
    refine q_fin tabOk rfl (by repeat constructor) fun w hs => ?_
    exact ⟨rfl, hs.chg0⟩
/-- A wax as a value. -/
def wxV (most : Int) (v : Value) : Value := .agg #[v, .int .i64 most]
theorem greatest_ca (w : World) (lo hi : Nat) (v : Value) (most : Int) (row : List Int) (i j : Nat) (h : RdI w lo hi v row) (hcap : ∀ a n c, v = .slice a n c → n ≤ c) (hij : i ≤ j) (hj : j < row.length) (hl : row.length ≤ 1000000) :
    Ca Try.prog 85 [wxV most v, .int .i64 i, .int .i64 j] w fun r w' => r = .int .i64 (topR row i j) ∧ Chg [] w w' := by
  obtain ⟨a, c, rfl, ha⟩ := RdI.outI h
  obtain ⟨b, off, rfl⟩ := ha (by omega)
  have hc := hcap _ _ _ rfl
  have hsp : spanL row i j = (row.drop i).take (j + 1 - i) := rfl
  cases hx : spanL row i j with
  | nil =>
    exfalso
    have := congrArg List.length hx
    rw [hsp, List.length_take, List.length_drop] at this
    simp at this
    omega
  | cons x l =>
    have e : topR row i j = maxF x l := by unfold topR; rw [hx]
    have hlen : l.length + 1 = j + 1 - i := by
      have := congrArg List.length hx
      rw [hsp, List.length_take, List.length_drop] at this
      simp at this
      omega
    unfold wxV
    refine q_of (Sat.nil w M0) Try.func85 rfl (by simp [Try.ntmps85]) ?_
    (refine q_seq (q_region ?_))
    refine ql_box rfl rfl (fun b3 => ?_)
    (refine ql_pure tabOk rfl rfl (q_nil (q_seq (q_region (ql_pure tabOk rfl rfl ?_)))); refine ql_loadBa tabOk rfl rfl rfl ?_; refine ql_pure tabOk rfl rfl (ql_pure tabOk rfl rfl (ql_ar tabOk rfl rfl rfl rfl (by omega) (by omega) ?_)))
    refine ql_part (et := 3) (sz := 1) (by kernel_rfl) (by kernel_rfl) rfl rfl rfl rfl (by omega) (by omega) (by omega) ?_
    refine ql_callv (val := .int .i64 (maxF x l)) tabOk rfl rfl rfl rfl (fun w hs => ?_) ?_; exact maxI_ca w lo hi _ x l (by have := RdI.part (c2 := c - i) (RdE.keep h hs.chg0) (k := i) (h := j + 1) (m := j + 1 - i) (by omega) (by omega) rfl; rw [← hsp, hx] at this; exact this) (by omega)
    (refine ql_pure tabOk rfl rfl (q_nil (q_ret ?_)))
    refine q_fin tabOk rfl (by repeat constructor) fun w hs => ?_
    exact ⟨by rw [e]; rfl, hs.chg0⟩
end Go.Proofs.Ytcmpdmobmbbplaa

/- Walks: the regrets of all waxes. -/
namespace Go.Proofs.Ytcmpdmobmbbplaa
open Go Go.Eng

theorem slW : SlT Try.prog 154 157 2 32 (.agg #[.slice none 0 0, .int .i64 0]) := ⟨by kernel_rfl, by kernel_rfl, by kernel_rfl, by decide⟩
/-- Waxes as cells. -/
def wxC (most : Int) (xs : List (Value × List Int)) : List Value := xs.flatMap fun p => [p.1, .int .i64 most]
theorem wxC_len (most : Int) (xs : List (Value × List Int)) : (wxC most xs).length = xs.length * 2 := by
  unfold wxC
  induction xs with
  | nil => rfl
  | cons x xs ih => simp only [List.flatMap_cons, List.length_append, ih, List.length_cons, List.length_nil]; omega
theorem wxC_get (most : Int) : ∀ (xs : List (Value × List Int)) (i : Nat) (hi : i < xs.length), (wxC most xs)[i * 2]? = some xs[i].1 ∧ (wxC most xs)[i * 2 + 1]? = some (.int .i64 most)
  | x :: xs, 0, _ => ⟨rfl, rfl⟩
  | x :: xs, i + 1, hi => by
    have := wxC_get most xs i (by simpa using hi)
    simp only [List.getElem_cons_succ, wxC, List.flatMap_cons] at this ⊢
    rw [show (i + 1) * 2 = i * 2 + 1 + 1 from by omega, show i * 2 + 1 + 1 + 1 = (i * 2 + 1) + 1 + 1 from rfl]
    exact this
theorem wxC_set (most : Int) : ∀ (xs : List (Value × List Int)) (i : Nat) (u : Value) (r : List Int), (wxC most xs).set (i * 2) u = wxC most (xs.modify i fun _ => (u, r))
  | [], i, u, r => by simp [wxC]
  | x :: xs, 0, u, r => rfl
  | x :: xs, i + 1, u, r => by
    have := wxC_set most xs i u r
    simp only [wxC, List.flatMap_cons] at this ⊢
    rw [show (i + 1) * 2 = i * 2 + 1 + 1 from by omega]
    simp only [List.cons_append, List.nil_append, List.set_cons_succ, this, List.modify_succ_cons, List.flatMap_cons]
theorem own_cellS {w : World} {et sz g m c : Nat} {xs : List Value} (h : w.ownsRow 0 et sz (.slice (some ⟨g, 0, none⟩) m c) m xs) (i : Nat) {x : Value} (hi : xs[i]? = some x) : w.cell? ⟨g, i, none⟩ = some x := by
  obtain ⟨hl, h2⟩ := h
  rcases h2 with ⟨hv', _⟩ | ⟨g', cap, cur, hv', hg, hh, hnc, hcm, hcs, ht⟩
  · cases hv'
  cases hv'
  have hb : Blk w g cur.toList et := by simpa [Blk] using hh
  have hl2 := (List.getElem?_eq_some_iff.1 hi).1
  rw [Blk.cell hb i, ← hi, ← ht, List.getElem?_take, if_pos (by omega)]
theorem wx_len {w : World} {et : Nat} {v : Value} {m : Nat} {most : Int} {xs : List (Value × List Int)} (h : w.ownsRow 0 et 2 v m (wxC most xs)) : m = xs.length := by
  have := h.1
  rw [wxC_len] at this
  omega
theorem erase_perm {α : Type} : ∀ (l : List α) (j : Nat) (h : j < l.length), l.Perm (l[j] :: l.eraseIdx j)
  | a :: l, 0, _ => .refl _
  | a :: l, j + 1, h => by
    have := erase_perm l j (by simpa using h)
    simp only [List.getElem_cons_succ, List.eraseIdx_cons_succ]
    exact (this.cons a).trans (.swap _ _ _)
section
variable {t : Nat}
theorem rowsO_out (Y : List (Value × List Int)) (j : Nat) (hj : j < Y.length) : (rowsO t Y).Perm (.ow Y[j].1 t 1 Y[j].2.length (ints Y[j].2) :: rowsO t (Y.eraseIdx j)) := (erase_perm Y j hj).map _
theorem rows_out {w0 w : World} {M : Nat → Prop} {R : List Ck} {Y : List (Value × List Int)} (j : Nat) (hj : j < Y.length) (h : Sat w0 M (un (rowsO t Y) :: R) w) : Sat w0 M (.ow Y[j].1 t 1 Y[j].2.length (ints Y[j].2) :: un (rowsO t (Y.eraseIdx j)) :: R) w := by
  have h1 := Sat.un_iff.1 (Sat.un_perm (rowsO_out Y j hj) h)
  rw [List.cons_append] at h1
  have h2 : Sat w0 M (rowsO t (Y.eraseIdx j) ++ (.ow Y[j].1 t 1 Y[j].2.length (ints Y[j].2) :: R)) w := h1.perm List.perm_middle.symm
  exact (Sat.un_iff.2 h2).perm (.swap _ _ _)
theorem rows_put {w0 w : World} {M : Nat → Prop} {R : List Ck} {Y : List (Value × List Int)} (j : Nat) (hj : j < Y.length) (u : Value) (l : List Int) (h : Sat w0 M (.ow u t 1 l.length (ints l) :: un (rowsO t (Y.eraseIdx j)) :: R) w) : Sat w0 M (un (rowsO t (Y.modify j fun _ => (u, l))) :: R) w := by
  have e : Y.modify j (fun _ => (u, l)) = Y.set j (u, l) := List.ext_getElem (by simp) (fun i h1 h2 => by rw [List.getElem_modify, List.getElem_set])
  rw [e]
  have h0 := rowsO_out (t := t) (Y.set j (u, l)) j (by simpa using hj)
  simp only [List.getElem_set_self, List.eraseIdx_set_eq] at h0
  exact Sat.un_perm h0.symm (Sat.un_in h)
theorem rows_nil {w0 w : World} {M : Nat → Prop} {R : List Ck} (h : Sat w0 M R w) : ∀ n, Sat w0 M (un (rowsO t (List.replicate n (.slice none 0 0, []))) :: R) w
  | 0 => Sat.un_nil h
  | n + 1 => Sat.un_in (Sat.ownil (rows_nil h n) t 1)
end
theorem rows_nil' {w0 w : World} {M : Nat → Prop} {R : List Ck} (t : Nat) (h : Sat w0 M R w) (n : Nat) : Sat w0 M (un (rowsO t (List.replicate n (.slice none 0 0, []))) :: R) w := rows_nil h n
/-- The regrets on the first snows. -/
def regP (l : List (List Int)) (k : Nat) (row : List Int) : List Int := (List.range k).map fun s => row.getD s 0 - lowV l s
theorem regP_succ (l : List (List Int)) (k : Nat) (row : List Int) : regP l (k + 1) row = regP l k row ++ [row.getD k 0 - lowV l k] := by
  unfold regP
  rw [List.range_succ, List.map_append]
  rfl
theorem regP_len (l : List (List Int)) (k : Nat) (row : List Int) : (regP l k row).length = k := by simp [regP]
/-- The rows, some of which are longer by one. -/
structure RegI (l : List (List Int)) (s m : Nat) (xs : List (Value × List Int)) : Prop where
  len : xs.length = l.length
  lt : ∀ i (hi : i < xs.length), i < m → xs[i].2 = regP l (s + 1) (l.getD i [])
  ge : ∀ i (hi : i < xs.length), m ≤ i → xs[i].2 = regP l s (l.getD i [])
theorem RegI.next {l : List (List Int)} {s : Nat} {xs : List (Value × List Int)} (h : RegI l s l.length xs) : RegI l (s + 1) 0 xs :=
  ⟨h.len, fun _ _ h2 => by omega, fun i hi _ => h.lt i hi (by rw [← h.len]; exact hi)⟩
theorem RegI.step {l : List (List Int)} {s m : Nat} {xs : List (Value × List Int)} (h : RegI l s m xs) (u : Value) {r : List Int} (hr : r = regP l (s + 1) (l.getD m [])) : RegI l s (m + 1) (xs.modify m fun _ => (u, r)) := by
  refine ⟨by rw [List.length_modify]; exact h.len, fun i hi h2 => ?_, fun i hi h2 => ?_⟩
  · rw [List.getElem_modify]
    split
    · rename_i e; subst e; exact hr
    · exact h.lt i (by simpa using hi) (by omega)
  · rw [List.getElem_modify, if_neg (by omega)]
    exact h.ge i (by simpa using hi) (by omega)
theorem RegI.all {l : List (List Int)} {s : Nat} {xs : List (Value × List Int)} (h : RegI l s 0 xs) : xs.map (·.2) = l.map (regP l s) := by
  refine List.ext_getElem (by simp [h.len]) (fun i h1 h2 => ?_)
  have hi : i < xs.length := by simpa using h1
  have hi2 : i < l.length := by simpa using h2
  rw [List.getElem_map, List.getElem_map, h.ge i hi (by omega), List.getD_eq_getElem?_getD, List.getElem?_eq_getElem hi2]
  rfl
end Go.Proofs.Ytcmpdmobmbbplaa

/- Walks: the waxes of a table. -/
namespace Go.Proofs.Ytcmpdmobmbbplaa
open Go Go.Eng

theorem gt_get {l : List (List Int)} {i s : Nat} (hi : i < l.length) (hs : s < l[i].length) : gt l i s = l[i][s] := by
  unfold gt
  simp only [List.getD_eq_getElem?_getD, List.getElem?_eq_getElem hi, Option.getD_some, List.getElem?_eq_getElem hs]
theorem getD_get {r : List Int} {s : Nat} (hs : s < r.length) : r.getD s 0 = r[s] := by
  simp only [List.getD_eq_getElem?_getD, Option.getD_some, List.getElem?_eq_getElem hs]
theorem RdII.rowS {w : World} {lo hi : Nat} {b off len cap m : Nat} {ll : List (List Int)} (h : RdII w lo hi (.slice (some ⟨b, off, none⟩) len cap) ll) (i : Nat) (hi' : i < ll.length) (hm : ll[i].length = m) (hp : 0 < m) :
    ∃ b2 o2 c2, RdI w lo hi (.slice (some ⟨b2, o2, none⟩) m c2) ll[i] ∧ ∀ w', Chg [] w w' → w'.cell? ⟨b, off + i * 1, none⟩ = some (.slice (some ⟨b2, o2, none⟩) m c2) := by
  obtain ⟨a, c, h1, h2⟩ := RdII.row h i hi'
  obtain ⟨a', c', e, h3⟩ := RdI.outI h1
  obtain ⟨b2, o2, e2⟩ := h3 (by omega)
  injection e with e3 e4 e5
  subst e3 e2 hm
  exact ⟨b2, o2, c, h1, h2⟩
theorem low_step (l : List (List Int)) (a : Int) (s k : Nat) (hk : k < l.length) : minF a ((l.take (k + 1)).map fun row => row.getD s 0) = min (minF a ((l.take k).map fun row => row.getD s 0)) (l[k].getD s 0) := by
  rw [List.take_succ_eq_append_getElem hk, List.map_append]
  exact minF_snoc _ _ _
set_option maxHeartbeats 4000000 in
theorem waxes_ca (w : World) (lo hi : Nat) (v : Value) (l : List (List Int)) (n : Nat) (most : Int) (h : RdII w lo hi v l) (hl : TabOk l n) : Ca Try.prog 83 [v, .int .i64 most] w fun x w' => ∃ y : Value × List (Value × List Int), (x = y.1 ∧ y.2.map (·.2) = regV l n) ∧ Sat w M0 [un (rowsO 3 y.2), .ow y.1 157 2 l.length (wxC most y.2)] w' := by
  obtain ⟨a, c, rfl, ha⟩ := RdII.outI h
  have hl1 := hl.l1
  have hl2 := hl.l2
  have hn1 := hl.n1
  have hn2 := hl.n2
  obtain ⟨vb, vo, rfl⟩ := ha (by omega)
  refine q_of (Sat.nil w M0) Try.func83 rfl (by simp [Try.ntmps83]) ?_
  (refine q_seq (q_region (ql_pure tabOk rfl rfl (q_nil (q_seq (q_region (ql_pure tabOk rfl rfl (q_nil (q_seq (q_seq (q_region ?_)))))))))); (iterate 3 refine ql_pure tabOk rfl rfl ?_); refine q_nil (q_block ?_))
  refine q_conv (H' := [.ow (.slice none 0 0) 157 2 0 (wxC most (List.replicate 0 (.slice none 0 0, [])))]) (fun w' hs => Sat.ownil hs 157 2) ?_
  refine q_loop (σ := Nat × Value) (fun y => y.1 ≤ l.length) (fun y => l.length - y.1) (fun y => [(0, .slice (some ⟨vb, vo, none⟩) l.length c), (1, .int .i64 most), (5, y.2), (13, .int .i64 l.length), (14, .int .i64 y.1)])
    (fun y => [.ow y.2 157 2 y.1 (wxC most (List.replicate y.1 (.slice none 0 0, [])))]) (0, .slice none 0 0) (by simp only; omega) ⟨rfl, rfl, rfl, rfl, rfl, trivial⟩ (by repeat constructor) ?_
  rintro ⟨k, u⟩ hk K hK
  dsimp only at hk ⊢
  (refine q_seq (q_region (ql_pure tabOk rfl rfl (q_nil (q_seq ?_)))))
  refine q_if rfl (fun hc => ?_) (fun hc => ?_)
  · have hk2 : k < l.length := by omega
    clear hc
    (refine q_skip (q_seq (q_block (q_region (ql_pure tabOk rfl rfl (ql_pure tabOk rfl rfl ?_))))))
    refine ql_mk #[.slice none 0 0, .int .i64 most] rfl (by kernel_rfl) rfl ?_
    skip
    refine ql_mkS 157 [.slice none 0 0, .int .i64 most] rfl (by kernel_rfl) rfl (fun bn => ?_)
    skip
    refine ql_append (q := 1) (news := [.slice none 0 0, .int .i64 most]) slW rfl rfl rfl (fun v' => by repeat constructor) (fun w' hs => ⟨_, _, Blk.rdN (hs.blk (b := bn) (by repeat constructor)) rfl⟩) (by simp [oneV]) (by omega) (by omega) (fun u' => ?_)
    (refine ql_pure tabOk rfl rfl (q_nil (q_blk (q_region (ql_ar tabOk rfl rfl rfl rfl (by omega) (by omega) (ql_pure tabOk rfl rfl (q_nil ?_)))))))
    have e : wxC most (List.replicate (k + 1) (.slice none 0 0, [])) = wxC most (List.replicate k (.slice none 0 0, [])) ++ [.slice none 0 0, .int .i64 most] := by
      rw [List.replicate_succ', wxC, List.flatMap_append]
      rfl
    exact hK (k + 1, u') _ _ (by simp only; omega) (by simp only; omega) ⟨rfl, rfl, rfl, rfl, rfl, trivial⟩ (by dsimp only; rw [e]; repeat constructor)
  · obtain rfl : k = l.length := by omega
    clear hc hK hk
    refine q_fact (fun w hs => hs.ownSome (v := u) (by repeat constructor) (by omega)) ?_
    rintro ⟨g, cw, rfl⟩
    have hrow : ∀ i (hi : i < l.length), l[i].length = n := fun i hi => hl.len _ (List.getElem_mem _)
    obtain ⟨a0, o0, c0, hr0, hc0⟩ := RdII.rowS h 0 (by omega) (hrow 0 (by omega)) (by omega)
    (refine q_exit _ rfl (q_seq (q_seq (q_region (ql_pure tabOk rfl rfl ?_)))))
    refine ql_index tabOk rfl rfl rfl rfl rfl (by omega) (by omega) ?_
    refine ql_load1 tabOk rfl rfl rfl (fun w hs => hc0 _ hs.chg0) ?_
    (refine ql_pure tabOk rfl rfl (ql_pure tabOk rfl rfl (q_nil (q_block ?_))))
    refine q_conv (H' := [un (rowsO 3 (List.replicate l.length (.slice none 0 0, []))), .ow (.slice (some ⟨g, 0, none⟩) l.length cw) 157 2 l.length (wxC most (List.replicate l.length (.slice none 0 0, [])))]) (fun w' hs => rows_nil' _ (hs.sp (by repeat constructor)) _) ?_
    refine q_loop (σ := Nat × List (Value × List Int)) (fun y => y.1 ≤ n ∧ RegI l y.1 0 y.2) (fun y => n - y.1) (fun y => [(0, .slice (some ⟨vb, vo, none⟩) l.length c), (5, .slice (some ⟨g, 0, none⟩) l.length cw), (25, .int .i64 n), (26, .int .i64 y.1)])
      (fun y => [un (rowsO 3 y.2), .ow (.slice (some ⟨g, 0, none⟩) l.length cw) 157 2 l.length (wxC most y.2)]) (0, List.replicate l.length (.slice none 0 0, [])) ⟨by simp only; omega, ⟨by simp, fun _ _ h => by omega, fun i hi _ => by simp [regP]⟩⟩ ⟨rfl, rfl, rfl, rfl, trivial⟩ (by repeat constructor) ?_
    rintro ⟨s, xs⟩ ⟨hs1, hI⟩ K hK
    dsimp only at hs1 hI ⊢
    (refine q_seq (q_region (ql_pure tabOk rfl rfl (q_nil (q_seq ?_)))))
    refine q_if rfl (fun hc => ?_) (fun hc => ?_)
    · have hs2 : s < n := by omega
      clear hc
      (refine q_skip (q_seq (q_block (q_seq (q_region (ql_pure tabOk rfl rfl (ql_pure tabOk rfl rfl (q_nil (q_seq (q_region (ql_pure tabOk rfl rfl ?_)))))))))))
      refine ql_index tabOk rfl rfl rfl rfl rfl (by omega) (by omega) ?_
      refine ql_load1 tabOk rfl rfl rfl (fun w hs => hc0 _ hs.chg0) ?_
      (refine ql_pure tabOk rfl rfl ?_)
      refine ql_index tabOk rfl rfl rfl rfl rfl (by omega) (by omega) ?_
      refine ql_load1 (v := .int .i64 (gt l 0 s)) tabOk rfl rfl rfl (fun w hs => by
        rw [gt_get (by omega) (by rw [hrow]; omega)]
        exact RdI.at (RdE.keep hr0 hs.chg0) s (by rw [hrow]; omega)) ?_
      (refine ql_pure tabOk rfl rfl (q_nil (q_seq (q_seq (q_region ?_)))); (iterate 3 refine ql_pure tabOk rfl rfl ?_); refine q_nil (q_block ?_))
      refine q_loop (σ := Nat) (fun y => y ≤ l.length) (fun y => l.length - y) (fun y => [(0, .slice (some ⟨vb, vo, none⟩) l.length c), (5, .slice (some ⟨g, 0, none⟩) l.length cw), (6, .int .i64 s), (7, .int .i64 (minF (gt l 0 s) ((l.take y).map fun row => row.getD s 0))), (25, .int .i64 n), (26, .int .i64 s), (35, .slice (some ⟨vb, vo, none⟩) l.length c), (36, .int .i64 l.length), (37, .int .i64 y)])
        (fun y => [un (rowsO 3 xs), .ow (.slice (some ⟨g, 0, none⟩) l.length cw) 157 2 l.length (wxC most xs)]) 0 (by omega) ⟨rfl, rfl, rfl, rfl, rfl, rfl, rfl, rfl, rfl, trivial⟩ (by repeat constructor) ?_
      rintro y hy K2 hK2
      (refine q_seq (q_region (ql_pure tabOk rfl rfl (q_nil (q_seq ?_)))))
      refine q_if rfl (fun hc => ?_) (fun hc => ?_)
      · have hy2 : y < l.length := by omega
        clear hc
        obtain ⟨b1, o1, c1, hr1, hc1⟩ := RdII.rowS h y hy2 (hrow y hy2) (by omega)
        have hys : s < l[y].length := by rw [hrow y hy2]; exact hs2
        (refine q_skip (q_seq (q_block (q_seq (q_region ?_)))))
        refine ql_index tabOk rfl rfl rfl rfl rfl (by omega) (by omega) ?_
        refine ql_load1 tabOk rfl rfl rfl (fun w hs => hc1 _ hs.chg0) ?_
        (refine ql_pure tabOk rfl rfl (q_nil (q_region ?_)); (iterate 3 refine ql_pure tabOk rfl rfl ?_))
        refine ql_index tabOk rfl rfl rfl rfl rfl (by omega) (by omega) ?_
        refine ql_load1 (v := .int .i64 l[y][s]) tabOk rfl rfl rfl (fun w hs => RdI.at (RdE.keep hr1 hs.chg0) s (by rw [hrow]; omega)) ?_
        skip
        refine ql_mkS 3 (ints [l[y][s]]) rfl (by kernel_rfl) rfl (fun bn => ?_)
        skip
        refine ql_callv (val := .int .i64 (minF (minF (gt l 0 s) ((l.take y).map fun row => row.getD s 0)) [l[y][s]])) tabOk rfl rfl rfl rfl (fun w hs => ?_) ?_; exact least_ca w 0 w.heap.size _ _ [l[y][s]] (Blk.rdI (hs.blk (by repeat constructor))) (by simp)
        (refine ql_pure tabOk rfl rfl (q_nil (q_blk (q_region (ql_ar tabOk rfl rfl rfl rfl (by omega) (by omega) (ql_pure tabOk rfl rfl (q_nil ?_)))))))
        exact hK2 (y + 1) _ _ (by omega) (by omega) ⟨rfl, rfl, rfl, by rw [low_step l _ s y hy2, getD_get (by rw [hrow]; omega)]; rfl, rfl, rfl, rfl, rfl, rfl, trivial⟩ (by repeat constructor)
      · obtain rfl : y = l.length := by omega
        clear hc hK2 hy
        rw [List.take_length]
        (refine q_exit _ rfl (q_seq (q_region ?_)); (iterate 3 refine ql_pure tabOk rfl rfl ?_); refine q_nil (q_block ?_))
        refine q_loop (σ := Nat × List (Value × List Int)) (fun y => y.1 ≤ l.length ∧ RegI l s y.1 y.2) (fun y => l.length - y.1) (fun y => [(0, .slice (some ⟨vb, vo, none⟩) l.length c), (5, .slice (some ⟨g, 0, none⟩) l.length cw), (6, .int .i64 s), (7, .int .i64 (lowV l s)), (25, .int .i64 n), (26, .int .i64 s), (49, .slice (some ⟨vb, vo, none⟩) l.length c), (50, .int .i64 l.length), (51, .int .i64 y.1)])
          (fun y => [un (rowsO 3 y.2), .ow (.slice (some ⟨g, 0, none⟩) l.length cw) 157 2 l.length (wxC most y.2)]) (0, xs) ⟨by simp only; omega, hI⟩ ⟨rfl, rfl, rfl, rfl, rfl, rfl, rfl, rfl, rfl, trivial⟩ (by repeat constructor) ?_
        clear hI
        rintro ⟨m, xs⟩ ⟨hm, hI⟩ K2 hK2
        dsimp only at hm hI ⊢
        (refine q_seq (q_region (ql_pure tabOk rfl rfl (q_nil (q_seq ?_)))))
        refine q_if rfl (fun hc => ?_) (fun hc => ?_)
        · have hm2 : m < l.length := by omega
          have hm3 : m < xs.length := by rw [hI.len]; exact hm2
          clear hc
          obtain ⟨b1, o1, c1, hr1, hc1⟩ := RdII.rowS h m hm2 (hrow m hm2) (by omega)
          refine q_conv (H' := [.ow xs[m].1 3 1 xs[m].2.length (ints xs[m].2), un (rowsO 3 (xs.eraseIdx m)), .ow (.slice (some ⟨g, 0, none⟩) l.length cw) 157 2 l.length (wxC most xs)]) (fun w' hs => rows_out m hm3 hs) ?_
          (refine q_skip (q_seq (q_block (q_seq (q_region (ql_pure tabOk rfl rfl ?_))))))
          refine ql_index tabOk rfl rfl rfl rfl rfl (by omega) (by omega) ?_
          refine ql_load1 tabOk rfl rfl rfl (fun w hs => hc1 _ hs.chg0) ?_
          have hms : s < l[m].length := by rw [hrow m hm2]; exact hs2
          have hl3 : xs[m].2.length = s := by rw [hI.ge m hm3 (by omega), regP_len]
          have hb1 := hl.num _ (List.getElem_mem hm2) _ (List.getElem_mem hms)
          obtain ⟨rw0, hrw0, elow⟩ := low_mem (l := l) (by intro e; rw [e] at hm2; simp at hm2) s
          have hb2 : 0 ≤ lowV l s ∧ lowV l s ≤ 10000 := by
            have h4 : s < rw0.length := by rw [hl.len _ hrw0]; exact hs2
            rw [elow, getD_get h4]
            exact hl.num _ hrw0 _ (List.getElem_mem h4)
          (refine ql_pure tabOk rfl rfl (ql_pure tabOk rfl rfl (q_nil ?_)))
          refine q_drawB2 [false, false, true, true, true, true, true, true, true, true, true, true, true, true, false, false, false, false] [.ow xs[m].1 3 1 xs[m].2.length (ints xs[m].2), un (rowsO 3 (xs.eraseIdx m)), .ow (.slice (some ⟨g, 0, none⟩) l.length cw) 157 2 l.length (wxC most xs)] [] [un (rowsO 3 (xs.eraseIdx m))] [.ow xs[m].1 3 1 xs[m].2.length (ints xs[m].2), .ow (.slice (some ⟨g, 0, none⟩) l.length cw) 157 2 l.length (wxC most xs)] (by repeat constructor) (by repeat constructor) (by kernel_rfl) (by kernel_rfl) (by kernel_rfl) ?_
          refine qb_F 2 [.ow xs[m].1 3 1 xs[m].2.length (ints xs[m].2), .ow (.slice (some ⟨g, 0, none⟩) l.length cw) 157 2 l.length (wxC most xs)] rfl rfl (by repeat constructor) fun K1 hK1 => ?_
          (refine qf_pure tabOk rfl rfl rfl (qf_pure tabOk rfl rfl rfl (qf_nil ?_)))
          refine hK1 _ _ (qb_T2 12 [] rfl rfl (by repeat constructor) fun K1 hK1 => ?_)
          (refine qf_pure tabOk rfl rfl rfl (qf_pure tabOk rfl rfl rfl ?_))
          refine qf_index tabOk rfl rfl rfl rfl rfl (by omega) (by omega) ?_
          (refine qf_pure tabOk rfl rfl rfl ?_)
          refine qf_load1 (v := xs[m].1) tabOk rfl rfl rfl (fun w hs => by
            rw [show (0 + (m : Int).toNat * 2 + 0) = m * 2 from by omega]
            exact own_cellS (hs.mem (c := .ow (.slice (some ⟨g, 0, none⟩) l.length cw) 157 2 l.length (wxC most xs)) (by repeat constructor)) (m * 2) (wxC_get most xs m hm3).1) ?_
          (refine qf_pure tabOk rfl rfl rfl (qf_pure tabOk rfl rfl rfl ?_))
          refine qf_index tabOk rfl rfl rfl rfl rfl (by omega) (by omega) ?_
          skip
          refine qf_load1 (v := .int .i64 l[m][s]) tabOk rfl rfl rfl (fun w hs => RdI.at (RdE.keep hr1 hs.chg0) s hms) ?_
          (refine qf_pure tabOk rfl rfl rfl (qf_ar tabOk rfl rfl rfl rfl (by omega) (by omega) ?_))
          refine qf_mkS 3 [.int .i64 (l[m][s] - lowV l s)] rfl (by kernel_rfl) rfl (fun bn => ?_)
          (refine qf_nil ?_)
          refine hK1 _ _ (qb_F 4 [.pt bn [.int .i64 (l[m][s] - lowV l s)] 3, .ow xs[m].1 3 1 xs[m].2.length (ints xs[m].2), .ow (.slice (some ⟨g, 0, none⟩) l.length cw) 157 2 l.length (wxC most xs)] rfl rfl (by repeat constructor) fun K1 hK1 => ?_)
          skip
          refine qf_append (q := 1) (news := [.int .i64 (l[m][s] - lowV l s)]) slI rfl rfl rfl (fun v' => by repeat constructor) (fun w' hs => ⟨_, _, Blk.rdN (hs.blk (b := bn) (by repeat constructor)) rfl⟩) (by simp [oneV]) (by omega) (by omega) (fun u' => ?_)
          skip
          refine qf_index tabOk rfl rfl rfl rfl rfl (by omega) (by omega) ?_
          (refine qf_pure tabOk rfl rfl rfl ?_)
          refine qf_fact (fun w hs => hs.slice2 (v := u') (by repeat constructor)) ?_
          rintro ⟨a1, c2, rfl⟩
          refine qf_storeWs tabOk (m * 2) rfl rfl rfl rfl (by repeat constructor) (by omega) (by rw [wxC_len]; omega) ?_
          (refine qf_nil ?_)
          refine hK1 _ _ (qb_nil ?_)
          (refine q_blk (q_region (ql_ar tabOk rfl rfl rfl rfl (by omega) (by omega) (ql_pure tabOk rfl rfl (q_nil ?_)))))
          have er : xs[m].2 ++ [l[m][s] - lowV l s] = regP l (s + 1) (l.getD m []) := by
            have eg : l.getD m [] = l[m] := by rw [List.getD_eq_getElem?_getD, List.getElem?_eq_getElem hm2]; rfl
            rw [hI.ge m hm3 (by omega), regP_succ, eg, getD_get hms]
          refine q_conv (H' := [un (rowsO 3 (xs.modify m fun _ => (.slice a1 (xs[m].2.length + 1) c2, xs[m].2 ++ [l[m][s] - lowV l s]))), .ow (.slice (some ⟨g, 0, none⟩) l.length cw) 157 2 l.length (wxC most (xs.modify m fun _ => (.slice a1 (xs[m].2.length + 1) c2, xs[m].2 ++ [l[m][s] - lowV l s])))]) (fun w' hs => rows_put m hm3 (.slice a1 (xs[m].2.length + 1) c2) (xs[m].2 ++ [l[m][s] - lowV l s]) (by
            rw [← wxC_set]
            have e : ints (xs[m].2 ++ [l[m][s] - lowV l s]) = ints xs[m].2 ++ [.int .i64 (l[m][s] - lowV l s)] := by simp [ints]
            rw [e, show (xs[m].2 ++ [l[m][s] - lowV l s]).length = xs[m].2.length + 1 from by simp]
            exact hs.sp (by repeat constructor))) ?_
          exact hK2 (m + 1, _) _ _ ⟨by simp only; omega, hI.step _ er⟩ (by simp only; omega) ⟨rfl, rfl, rfl, rfl, rfl, rfl, rfl, rfl, rfl, trivial⟩ (by repeat constructor)
        · obtain rfl : m = l.length := by omega
          clear hc
          (refine q_exit _ rfl (q_blk (q_region (ql_ar tabOk rfl rfl rfl rfl (by omega) (by omega) (ql_pure tabOk rfl rfl (q_nil ?_))))))
          exact hK (s + 1, xs) _ _ ⟨by simp only; omega, hI.next⟩ (by simp only; omega) ⟨rfl, rfl, rfl, rfl, trivial⟩ (by repeat constructor)
    · obtain rfl : s = n := by omega
      (refine q_exit _ rfl (q_seq (q_region (ql_pure tabOk rfl rfl (ql_pure tabOk rfl rfl (q_nil (q_ret ?_)))))))
      refine q_fin tabOk rfl (by repeat constructor) fun w hs => ?_
      exact ⟨(.slice (some ⟨g, 0, none⟩) l.length cw, xs), ⟨rfl, hI.all⟩, hs.sp (by repeat constructor)⟩
end Go.Proofs.Ytcmpdmobmbbplaa

/- Walks: waxes that can be read; whether a wax is good on snows. -/
namespace Go.Proofs.Ytcmpdmobmbbplaa
open Go Go.Eng

/-- Waxes that can be read. -/
def RdW (w : World) (lo hi : Nat) (v : Value) (most : Int) (rows : List (List Int)) : Prop :=
  ∃ vs : List Value, RdE w lo hi v 2 (vs.map (wxV most)) ∧ vs.length = rows.length ∧ ∀ i (h : i < vs.length) (h' : i < rows.length), RdI w lo hi vs[i] rows[i] ∧ ∀ a n c, vs[i] = .slice a n c → n ≤ c
theorem RdW.keep {w w' : World} {lo hi : Nat} {v : Value} {most : Int} {rows : List (List Int)} (h : RdW w lo hi v most rows) (c : Chg [] w w') : RdW w' lo hi v most rows := by
  obtain ⟨vs, h1, h2, h3⟩ := h
  exact ⟨vs, h1.keep c, h2, fun i hi hi' => ⟨(h3 i hi hi').1.keep c, (h3 i hi hi').2⟩⟩
theorem RdW.outI {w : World} {lo hi : Nat} {v : Value} {most : Int} {rows : List (List Int)} (h : RdW w lo hi v most rows) : ∃ a cap, v = .slice a rows.length cap ∧ (0 < rows.length → ∃ b off, a = some ⟨b, off, none⟩) := by
  obtain ⟨vs, h1, h2, h3⟩ := h
  have := RdE.out h1
  rwa [List.length_map, h2] at this
/-- One wax. -/
theorem RdW.row {w : World} {lo hi : Nat} {b off len cap : Nat} {most : Int} {rows : List (List Int)} (h : RdW w lo hi (.slice (some ⟨b, off, none⟩) len cap) most rows) (i : Nat) (hi' : i < rows.length) :
    ∃ a c, RdI w lo hi (.slice a rows[i].length c) rows[i] ∧ rows[i].length ≤ c ∧ ∀ w', Chg [] w w' → ∀ j, j < 2 → w'.cell? ⟨b, off + i * 2 + j, none⟩ = [Value.slice a rows[i].length c, .int .i64 most][j]? := by
  obtain ⟨vs, h1, h2, h3⟩ := h
  obtain ⟨h4, h5⟩ := h3 i (by omega) hi'
  obtain ⟨a, c, hv, _⟩ := RdI.outI h4
  refine ⟨a, c, hv ▸ h4, h5 _ _ _ hv, fun w' hw' j hj => ?_⟩
  rw [RdE.cell (h1.keep hw') i j (by simp; omega) hj, List.getElem_map, hv]
  rfl
theorem wx_cells (most : Int) (xs : List (Value × List Int)) : cellsOf ((xs.map (·.1)).map (wxV most)) = wxC most xs := by
  simp [cellsOf, wxC, wxV, List.flatMap_map, Value.cells]
theorem allG_iff {row : List Int} {most : Int} {a b : Nat} (hb : b < row.length) : allG row most a b = true ↔ ∀ t, a ≤ t → t ≤ b → row.getD t 0 ≤ most := by
  unfold allG
  rw [List.all_eq_true]
  constructor
  · intro h t h1 h2
    have ht : t < row.length := by omega
    rw [getD_get ht]
    have h3 : row[t] ∈ spanL row a b := by
      unfold spanL
      have h4 : t - a < ((row.drop a).take (b + 1 - a)).length := by rw [List.length_take, List.length_drop]; omega
      have h5 : ((row.drop a).take (b + 1 - a))[t - a] = row[t] := by
        rw [List.getElem_take, List.getElem_drop]
        congr 1
        omega
      rw [← h5]
      exact List.getElem_mem h4
    simpa using h _ h3
  · intro h x hx
    obtain ⟨i, hi, rfl⟩ := List.mem_iff_getElem.1 hx
    unfold spanL at hi ⊢
    rw [List.length_take, List.length_drop] at hi
    rw [List.getElem_take, List.getElem_drop]
    have := h (a + i) (by omega) (by omega)
    rw [getD_get (by omega)] at this
    simpa using this
theorem good_ca (w : World) (lo hi : Nat) (v : Value) (most : Int) (row : List Int) (s : Nat) (h : RdI w lo hi v row) (hs : s < row.length) :
    Ca Try.prog 104 [wxV most v, .int .i64 s] w fun r w' => r = .bool (decide (row[s] ≤ most)) ∧ Chg [] w w' := by
  obtain ⟨a, c, rfl, ha⟩ := RdI.outI h
  obtain ⟨b, off, rfl⟩ := ha (by omega)
  unfold wxV
  refine q_of (Sat.nil w M0) Try.func104 rfl (by simp [Try.ntmps104]) ?_
  (refine q_seq (q_region ?_))
  refine ql_box rfl rfl (fun b3 => ?_)
  (refine ql_pure tabOk rfl rfl (q_nil (q_seq ?_)))
  refine q_draw _ [] (Sp.refl _) (by kernel_rfl) (by kernel_rfl) ?_
  (refine qf_pure tabOk rfl rfl rfl ?_; refine qf_loadBa tabOk rfl rfl rfl ?_; refine qf_pure tabOk rfl rfl rfl ?_)
  refine qf_index tabOk rfl rfl rfl rfl rfl (by omega) (by omega) ?_
  refine qf_load1 (v := .int .i64 row[s]) tabOk rfl rfl rfl (fun w hs => RdI.at (RdE.keep h hs.chg0) s (by assumption)) ?_
  (refine qf_pure tabOk rfl rfl rfl ?_; refine qf_loadBa tabOk rfl rfl rfl ?_; refine qf_pure tabOk rfl rfl rfl (qf_pure tabOk rfl rfl rfl (qf_nil (q_ret ?_))))
  refine q_fin tabOk rfl (by repeat constructor) fun w hs => ?_
  exact ⟨rfl, hs.chg0⟩
theorem all_ca (w : World) (lo hi : Nat) (v : Value) (most : Int) (row : List Int) (a b : Nat) (h : RdI w lo hi v row) (hb : b < row.length) (hl : row.length ≤ 1000000) :
    Ca Try.prog 107 [wxV most v, .int .i64 a, .int .i64 b] w fun r w' => r = .bool (allG row most a b) ∧ Chg [] w w' := by
  unfold wxV
  refine q_of (Sat.nil w M0) Try.func107 rfl (by simp [Try.ntmps107]) ?_
  (refine q_seq (q_region ?_))
  refine ql_box rfl rfl (fun b3 => ?_)
  (refine ql_pure tabOk rfl rfl (q_nil (q_seq (q_region ?_))); refine ql_loadABa tabOk rfl rfl rfl ?_; refine ql_pure tabOk rfl rfl (ql_pure tabOk rfl rfl (q_nil (q_seq (q_seq (q_region (ql_pure tabOk rfl rfl (ql_pure tabOk rfl rfl (q_nil (q_block ?_))))))))))
  refine q_loop (σ := Nat) (fun s => a ≤ s ∧ ∀ t, a ≤ t → t < s → row.getD t 0 ≤ most) (fun s => b + 1 - s) (fun s => [(2, .int .i64 b), (7, .func (.func 104) #[wxV most v] #[]), (8, .int .i64 s)]) (fun _ => []) a ⟨by omega, fun t h1 h2 => by omega⟩ ⟨rfl, rfl, rfl, trivial⟩ (by repeat constructor) ?_
  rintro s ⟨hs1, hs2⟩ K hK
  (refine q_seq (q_seq (q_region ?_)); (iterate 3 refine ql_pure tabOk rfl rfl ?_); refine q_nil ?_)
  refine q_if rfl (fun hc => ?_) (fun hc => ?_)
  · have hs3 : s ≤ b := by omega
    have hs4 : s < row.length := by omega
    clear hc
    (refine q_skip (q_seq (q_block (q_seq (q_region (ql_pure tabOk rfl rfl (ql_pure tabOk rfl rfl ?_)))))))
    refine ql_callFv rfl rfl rfl (fun w hs => CaF.of tabOk rfl (good_ca w lo hi v most row s (RdE.keep h hs.chg0) hs4)) ?_
    (refine ql_pure tabOk rfl rfl (q_nil ?_))
    refine q_ifn rfl (fun hc => ?_) (fun hc => ?_)
    · have h5 : ¬ row[s] ≤ most := by simpa using hc
      (refine q_seq (q_region (ql_pure tabOk rfl rfl (q_nil (q_ret ?_)))))
      refine q_fin tabOk rfl (by repeat constructor) fun w hs => ?_
      exact ⟨by
        have e : allG row most a b = false := by
          rw [← Bool.not_eq_true, allG_iff hb]
          intro hA
          have := hA s hs1 hs3
          rw [getD_get hs4] at this
          exact h5 this
        rw [e]
        rfl, hs.chg0⟩
    · have h5 : row[s] ≤ most := by simpa using hc
      (refine q_skip (q_blk (q_region (ql_pure tabOk rfl rfl (ql_ar tabOk rfl rfl rfl rfl (by omega) (by omega) (ql_pure tabOk rfl rfl (q_nil ?_)))))))
      exact hK (s + 1) _ _ ⟨by omega, fun t h1 h2 => by
        by_cases e : t = s
        · rw [e, getD_get hs4]; exact h5
        · exact hs2 t h1 (by omega)⟩ (by omega) ⟨rfl, rfl, rfl, trivial⟩ (by repeat constructor)
  · (refine q_exit _ rfl (q_seq (q_region (ql_pure tabOk rfl rfl (q_nil (q_ret ?_))))))
    refine q_fin tabOk rfl (by repeat constructor) fun w hs => ?_
    exact ⟨by rw [(allG_iff hb).2 (fun t h1 h2 => hs2 t h1 (by omega))]; rfl, hs.chg0⟩
end Go.Proofs.Ytcmpdmobmbbplaa

/- Walks: the best wax. -/
namespace Go.Proofs.Ytcmpdmobmbbplaa
open Go Go.Eng

/-- The best wax of a span, with its regret, or the error. -/
def bestV (l : List (List Int)) (a b : Int) : Int × Int × Int := if tableV l ≠ 0 then (0, 0, tableV l) else if (inB a 0 b && (decide (b < (nV l : Int)) && true)) = false then (0, 0, 1) else let p := waxF (regV l (nV l)) a.toNat b.toNat l.length; (p.1, p.2, 0)
theorem best_no {l : List (List Int)} {a b : Int} (h : tableV l ≠ 0) : bestV l a b = (0, 0, tableV l) := if_pos h
theorem best_un {l : List (List Int)} {a b : Int} (h : tableV l = 0) (h2 : (inB a 0 b && (decide (b < (nV l : Int)) && true)) = false) : bestV l a b = (0, 0, 1) := by unfold bestV; rw [if_neg (by simpa using h), if_pos h2]
theorem best_yes {l : List (List Int)} {a b : Int} (h : tableV l = 0) (h2 : (inB a 0 b && (decide (b < (nV l : Int)) && true)) = true) : bestV l a b = ((waxF (regV l (nV l)) a.toNat b.toNat l.length).1, (waxF (regV l (nV l)) a.toNat b.toNat l.length).2, 0) := by unfold bestV; rw [if_neg (by simpa using h), if_neg (by rw [h2]; simp)]
theorem wx_at {w0 w : World} {M : Nat → Prop} {H : List Ck} {g n c t : Nat} {most : Int} {xs : List (Value × List Int)} (hs : Sat w0 M H w) (hm : Ck.ow (.slice (some ⟨g, 0, none⟩) n c) t 2 n (wxC most xs) ∈ H) (i : Nat) (hi : i < xs.length) : ∀ j, j < 2 → w.cell? ⟨g, 0 + i * 2 + j, none⟩ = [xs[i].1, .int .i64 most][j]? := fun j hj => by
  have h1 := wxC_get most xs i hi
  have h2 := hs.mem hm
  obtain rfl | rfl : j = 0 ∨ j = 1 := by omega
  · rw [Nat.zero_add]
    exact own_cellS h2 (i * 2) h1.1
  · rw [Nat.zero_add]
    exact own_cellS h2 (i * 2 + 1) h1.2
theorem wx_row {w0 w : World} {M : Nat → Prop} {H : List Ck} {t : Nat} {xs : List (Value × List Int)} (hs : Sat w0 M H w) (hm : un (rowsO t xs) ∈ H) (i : Nat) (hi : i < xs.length) : RdI w 0 w.heap.size xs[i].1 xs[i].2 ∧ ∀ a n c, xs[i].1 = .slice a n c → n ≤ c := by
  have h2 : w.ownsRow 0 t 1 xs[i].1 xs[i].2.length (ints xs[i].2) := (hs.mem hm).1 (.ow xs[i].1 t 1 xs[i].2.length (ints xs[i].2)) (List.mem_map.2 ⟨_, List.getElem_mem hi, rfl⟩)
  refine ⟨own_rdI h2 rfl, fun a m c e => ?_⟩
  rcases h2.2 with ⟨h3, h4⟩ | ⟨g, cap, cur, h3, _, _, h5, _⟩
  · rw [h3] at e
    injection e with e1 e2 e3
    omega
  · rw [h3] at e
    injection e with e1 e2 e3
    omega
theorem nV_eq {l : List (List Int)} (hl : 1 ≤ l.length) : nV l = (l[0]'(by omega)).length := by
  cases l with
  | nil => simp at hl
  | cons x l => rfl
theorem wax_ca (w : World) (lo hi : Nat) (v : Value) (l : List (List Int)) (a b : Int) (h : RdII w lo hi v l) : Ca Try.prog 21 [v, .int .i64 a, .int .i64 b] w fun x w' => x = .tuple #[.int .i64 (bestV l a b).1, .int .i64 (bestV l a b).2.1, .int .i64 (bestV l a b).2.2] ∧ Chg [] w w' := by
  obtain ⟨va, c, rfl, ha⟩ := RdII.outI h
  refine q_of (Sat.nil w M0) Try.func21 rfl (by simp [Try.ntmps21]) ?_
  (refine q_seq (q_region ?_); (iterate 3 refine ql_pure tabOk rfl rfl ?_); refine q_nil (q_seq (q_region (ql_pure tabOk rfl rfl ?_))))
  refine ql_callv (val := .int .i64 (tableV l)) tabOk rfl rfl rfl rfl (fun w hs => ?_) ?_; exact table_ca w lo hi _ l (RdII.keep h hs.chg0)
  by_cases ht : tableV l = 0
  · have hl : TabOk l (nV l) := table_iff.1 ht
    have hl1 := hl.l1
    have hl2 := hl.l2
    have hn2 := hl.n2
    obtain ⟨vb, vo, rfl⟩ := ha (by omega)
    obtain ⟨b0, o0, c0, hr0, hc0⟩ := RdII.rowS h 0 (by omega) (nV_eq (by omega)).symm hl.n1
    (refine ql_pure tabOk rfl rfl (q_nil (q_seq (q_block (q_seq (q_region (ql_pure tabOk rfl rfl (ql_neqF tabOk rfl rfl rfl (by omega) (ql_pure tabOk rfl rfl (q_nil (q_cond_false rfl (q_seq ?_))))))))))); refine q_region (ql_pure tabOk rfl rfl (ql_pure tabOk rfl rfl ?_)))
    refine ql_callv (val := .bool (inB a 0 b)) tabOk rfl rfl rfl rfl (fun w hs => ?_) ?_; exact within_ca a 0 b w
    (refine ql_pure tabOk rfl rfl (ql_pure tabOk rfl rfl ?_))
    cases h1 : inB a 0 b with
    | false =>
      ((iterate 6 refine ql_gno rfl rfl rfl ?_); refine ql_pure tabOk rfl rfl (ql_pure tabOk rfl rfl (q_nil (q_cond_true rfl (q_seq (q_region ?_))))); (iterate 3 refine ql_pure tabOk rfl rfl ?_); refine q_nil (q_ret ?_))
      refine q_fin tabOk rfl (by repeat constructor) fun w hs => ?_
      exact ⟨by rw [best_un ht (by rw [h1]; rfl)]; rfl, hs.chg0⟩
    | true =>
      have hab := inB_iff.1 h1
      (refine ql_gyes rfl (ql_pure tabOk rfl rfl (ql_gyes rfl (ql_pure tabOk rfl rfl (ql_gyes rfl ?_)))))
      refine ql_index tabOk rfl rfl rfl rfl rfl (by omega) (by omega) ?_
      (refine ql_gyes rfl ?_)
      refine ql_load1 tabOk rfl rfl rfl (fun w hs => hc0 _ hs.chg0) ?_
      (refine ql_gyes rfl (ql_pure tabOk rfl rfl (ql_gyes rfl ?_)); (iterate 3 refine ql_pure tabOk rfl rfl ?_); refine q_nil ?_)
      refine q_if rfl (fun hc => ?_) (fun hc => ?_)
      · have h2 : ¬ b < (nV l : Int) := by first | omega | (simp at hc; omega)
        (refine q_seq (q_region ?_); (iterate 3 refine ql_pure tabOk rfl rfl ?_); refine q_nil (q_ret ?_))
        refine q_fin tabOk rfl (by repeat constructor) fun w hs => ?_
        exact ⟨by rw [best_un ht (by rw [h1]; simp [h2])]; rfl, hs.chg0⟩
      · have h2 : b < (nV l : Int) := by first | omega | (simp at hc; omega)
        clear hc
        have hbe := best_yes ht (a := a) (b := b) (by rw [h1]; simp [h2])
        obtain ⟨i, rfl⟩ := Int.eq_ofNat_of_zero_le hab.1
        obtain ⟨j, rfl⟩ := Int.eq_ofNat_of_zero_le (show 0 ≤ b by omega)
        rw [Int.toNat_natCast, Int.toNat_natCast] at hbe
        rw [hbe]
        clear hbe
        (refine q_skip (q_blk (q_seq (q_region (ql_pure tabOk rfl rfl (ql_pure tabOk rfl rfl (q_nil (q_seq (q_seq (q_region (ql_pure tabOk rfl rfl ?_)))))))))))
        refine ql_call (β := Value × List (Value × List Int)) tabOk [] _ M0 rfl rfl rfl rfl (Sp.refl _) (fun _ h => h.elim) (fun w' hs => waxes_ca w' lo hi _ l (nV l) 0 (RdII.keep h hs.chg0) hl) ?_
        rintro ⟨_, xs⟩ u ⟨rfl, hxs⟩
        dsimp only [List.cons_append, List.nil_append]
        refine ql_fact (fun w hs => hs.ownSome (v := u) (by repeat constructor) (by omega)) ?_
        rintro ⟨g, cw, rfl⟩
        have hxl : xs.length = l.length := by have := congrArg List.length hxs; rw [regV_len, List.length_map] at this; exact this
        (refine ql_pure tabOk rfl rfl (ql_pure tabOk rfl rfl (q_nil (q_block ?_))))
        have hrs : ∀ k (hk : k < xs.length), (regV l (nV l)).getD k [] = xs[k].2 := fun k hk => by
          rw [← hxs, List.getD_eq_getElem?_getD, List.getElem?_map, List.getElem?_eq_getElem hk]
          rfl
        refine q_loop (σ := Nat) (fun k => k ≤ l.length) (fun k => l.length - k) (fun k => [(1, .int .i64 i), (2, .int .i64 j), (10, .int .i64 (waxF (regV l (nV l)) i j k).1), (11, .int .i64 (waxF (regV l (nV l)) i j k).2), (35, .slice (some ⟨g, 0, none⟩) l.length cw), (36, .int .i64 l.length), (37, .int .i64 k)])
          (fun k => [un (rowsO 3 xs), .ow (.slice (some ⟨g, 0, none⟩) l.length cw) 157 2 l.length (wxC 0 xs)]) 0 (by omega) ⟨rfl, rfl, rfl, rfl, rfl, rfl, rfl, trivial⟩ (by repeat constructor) ?_
        rintro k hk K hK
        (refine q_seq (q_region (ql_pure tabOk rfl rfl (q_nil (q_seq ?_)))))
        refine q_if rfl (fun hc => ?_) (fun hc => ?_)
        · have hk2 : k < l.length := by omega
          have hk3 : k < xs.length := by omega
          have hlen : xs[k].2.length = nV l := by
            rw [← hrs k hk3]
            unfold regV
            rw [List.getD_eq_getElem?_getD, List.getElem?_map, List.getElem?_eq_getElem hk2]
            exact regRow_len _ _ _
          clear hc
          refine q_fact (fun w hs => RdI.outI (wx_row hs (by repeat constructor) k hk3).1) ?_
          rintro ⟨a1, c1, e1, _⟩
          (refine q_skip (q_seq (q_block (q_seq (q_region (ql_pure tabOk rfl rfl ?_))))))
          refine ql_index tabOk rfl rfl rfl rfl rfl (by omega) (by omega) ?_
          refine ql_loadA tabOk rfl rfl rfl rfl (fun w hs => by
            rw [Int.toNat_natCast]
            have := wx_at hs (by repeat constructor) k hk3
            rw [e1] at this
            exact this) ?_
          skip
          refine ql_alloc zero157 rfl (fun b13 => ?_)
          (refine ql_pure tabOk rfl rfl ?_; refine ql_setA tabOk rfl rfl rfl rfl rfl (by repeat constructor) rfl ?_; refine q_nil (q_seq (q_region ?_)); refine ql_loadABa tabOk rfl rfl rfl ?_; refine ql_pure tabOk rfl rfl (ql_pure tabOk rfl rfl ?_))
          refine ql_callv (val := .int .i64 (topR xs[k].2 i j)) tabOk rfl rfl rfl rfl (fun w hs => ?_) ?_; exact greatest_ca w 0 w.heap.size _ 0 xs[k].2 i j (e1 ▸ (wx_row hs (by repeat constructor) k hk3).1) (e1 ▸ (wx_row hs (by repeat constructor) k hk3).2) (by omega) (by omega) (by omega)
          (refine ql_pure tabOk rfl rfl (q_nil (q_seq (q_region ?_))); (iterate 3 refine ql_pure tabOk rfl rfl ?_); refine q_nil ?_)
          have hw : waxF (regV l (nV l)) i j (k + 1) = if topR xs[k].2 i j < (waxF (regV l (nV l)) i j k).2 then ((k : Int), topR xs[k].2 i j) else waxF (regV l (nV l)) i j k := by
            show (if topR ((regV l (nV l)).getD k []) i j < _ then _ else _) = _
            rw [hrs k hk3]
          refine q_if rfl (fun hc => ?_) (fun hc => ?_)
          · have h5 : topR xs[k].2 i j < (waxF (regV l (nV l)) i j k).2 := by simpa using hc
            rw [if_pos h5] at hw
            (refine q_region ?_; (iterate 4 refine ql_pure tabOk rfl rfl ?_); refine q_nil (q_blk (q_region (ql_ar tabOk rfl rfl rfl rfl (by omega) (by omega) (ql_pure tabOk rfl rfl (q_nil ?_))))))
            exact hK (k + 1) _ _ (by omega) (by omega) ⟨rfl, rfl, by rw [hw]; rfl, by rw [hw]; rfl, rfl, rfl, rfl, trivial⟩ (by repeat constructor)
          · have h5 : ¬ topR xs[k].2 i j < (waxF (regV l (nV l)) i j k).2 := by simpa using hc
            rw [if_neg h5] at hw
            (refine q_skip (q_blk (q_region (ql_ar tabOk rfl rfl rfl rfl (by omega) (by omega) (ql_pure tabOk rfl rfl (q_nil ?_))))))
            exact hK (k + 1) _ _ (by omega) (by omega) ⟨rfl, rfl, by rw [hw]; rfl, by rw [hw]; rfl, rfl, rfl, rfl, trivial⟩ (by repeat constructor)
        · obtain rfl : k = l.length := by omega
          (refine q_exit _ rfl (q_seq (q_region ?_)); (iterate 5 refine ql_pure tabOk rfl rfl ?_); refine q_nil (q_ret ?_))
          refine q_fin tabOk rfl (by repeat constructor) fun w hs => ?_
          exact ⟨rfl, hs.chg0⟩
  · (refine ql_pure tabOk rfl rfl (q_nil (q_seq (q_block (q_seq (q_region (ql_pure tabOk rfl rfl (ql_neqT tabOk rfl rfl rfl (by omega) (ql_pure tabOk rfl rfl (q_nil (q_cond_true rfl (q_seq ?_))))))))))); refine q_region ?_; (iterate 4 refine ql_pure tabOk rfl rfl ?_); refine q_nil (q_ret ?_))
    refine q_fin tabOk rfl (by repeat constructor) fun w hs => ?_
    exact ⟨by rw [best_no ht]; rfl, hs.chg0⟩
end Go.Proofs.Ytcmpdmobmbbplaa

/- Plain laws of zones. -/
namespace Go.Proofs.Ytcmpdmobmbbplaa

theorem takeWhile_len {α : Type} {p : α → Bool} : ∀ {l : List α} {k : Nat}, k ≤ l.length → (∀ i (h : i < l.length), i < k → p l[i] = true) → (∀ h : k < l.length, p l[k] = false) → (l.takeWhile p).length = k
  | [], k, hk, _, _ => by simp at hk; simp [hk]
  | x :: l, 0, _, _, h2 => by
    have := h2 (by simp)
    simp only [List.getElem_cons_zero] at this
    simp [List.takeWhile_cons, this]
  | x :: l, k + 1, hk, h1, h2 => by
    have h0 := h1 0 (by simp) (by omega)
    simp only [List.getElem_cons_zero] at h0
    rw [List.takeWhile_cons, if_pos h0, List.length_cons, takeWhile_len (k := k) (by simpa using hk) (fun i h hi => by have := h1 (i + 1) (by simpa using h) (by omega); simpa using this) (fun h => by have := h2 (by simpa using h); simpa using this)]
theorem getD_row {r : List Int} {s : Nat} (hs : s < r.length) : r.getD s 0 = r[s] := by
  simp only [List.getD_eq_getElem?_getD, Option.getD_some, List.getElem?_eq_getElem hs]
/-- How far a wax is good. -/
theorem goodN_eq {row : List Int} {most : Int} {a t : Nat} (hat : a ≤ t) (ht : t ≤ row.length) (h1 : ∀ s, a ≤ s → s < t → row.getD s 0 ≤ most) (h2 : t < row.length → ¬ row.getD t 0 ≤ most) : goodN row most a = t - a := by
  unfold goodN
  refine takeWhile_len (by rw [List.length_drop]; omega) (fun i h hi => ?_) (fun h => ?_)
  · rw [List.length_drop] at h
    rw [List.getElem_drop, ← getD_row]
    simpa using h1 (a + i) (by omega) (by omega)
  · rw [List.length_drop] at h
    rw [List.getElem_drop, ← getD_row, show a + (t - a) = t from by omega]
    simpa using h2 (by omega)
theorem goodN_le (row : List Int) (most : Int) (a : Nat) : goodN row most a ≤ row.length - a := by
  unfold goodN
  have := (List.takeWhile_sublist (l := row.drop a) (fun x => decide (x ≤ most))).length_le
  rwa [List.length_drop] at this
theorem goodN_pos {row : List Int} {most : Int} {a : Nat} (ha : a < row.length) (h : row.getD a 0 ≤ most) : 1 ≤ goodN row most a := by
  unfold goodN
  rw [List.drop_eq_getElem_cons ha, List.takeWhile_cons, if_pos (by rw [← getD_row ha]; simpa using h)]
  simp
theorem zone_ge {rs : List (List Int)} {most : Int} {a : Nat} : ∀ m i, i < m → (a : Int) - 1 + goodN (rs.getD i []) most a ≤ (zoneF rs most a m).1
  | m + 1, i, h => by
    unfold zoneF
    dsimp only
    split
    · rename_i h1
      by_cases e : i = m
      · subst e
        exact Int.le_refl _
      · have := zone_ge (rs := rs) (most := most) (a := a) m i (by omega)
        dsimp only
        omega
    · rename_i h1
      by_cases e : i = m
      · subst e
        omega
      · exact zone_ge m i (by omega)
theorem zone_lt {rs : List (List Int)} {most : Int} {a n : Nat} (hn : ∀ row ∈ rs, row.length = n) (ha : a < n) : ∀ m, (zoneF rs most a m).1 < n
  | 0 => by show (-1 : Int) < n; omega
  | m + 1 => by
    have ih := zone_lt hn ha (most := most) m
    unfold zoneF
    dsimp only
    split
    · dsimp only
      have h1 := goodN_le (rs.getD m []) most a
      have h2 : (rs.getD m []).length ≤ n := by
        rw [List.getD_eq_getElem?_getD]
        by_cases hm : m < rs.length
        · rw [List.getElem?_eq_getElem hm]
          exact Nat.le_of_eq (hn _ (List.getElem_mem hm))
        · rw [List.getElem?_eq_none (by omega)]
          simp
      omega
    · exact ih
/-- Each zone has a snow. -/
theorem zone_has {l : List (List Int)} {n : Nat} {most : Int} (hl : TabOk l n) (hm : 0 ≤ most) {a : Nat} (ha : a < n) : (a : Int) ≤ (zoneF (regV l n) most a l.length).1 := by
  obtain ⟨row, hr, he⟩ := low_mem (l := l) (by intro e; have := hl.l1; rw [e] at this; simp at this) a
  obtain ⟨i, hi, rfl⟩ := List.mem_iff_getElem.1 hr
  have h1 := zone_ge (rs := regV l n) (most := most) (a := a) l.length i hi
  have e : (regV l n).getD i [] = regRow l n l[i] := by
    unfold regV
    rw [List.getD_eq_getElem?_getD, List.getElem?_map, List.getElem?_eq_getElem hi]
    rfl
  rw [e] at h1
  have h2 := goodN_pos (row := regRow l n l[i]) (most := most) (a := a) (by rw [regRow_len]; exact ha) (by rw [regRow_get _ _ _ ha, he]; omega)
  omega
theorem zonesF_step {rs : List (List Int)} {most : Int} {n f a : Nat} (ha : a < n) : zonesF rs most n (f + 1) a = ((a : Int), (zoneF rs most a rs.length).1, (zoneF rs most a rs.length).2) :: zonesF rs most n f ((zoneF rs most a rs.length).1 + 1).toNat := by
  show (if a < n then _ else _) = _
  rw [if_pos ha]
theorem zonesF_end {rs : List (List Int)} {most : Int} {n f a : Nat} (ha : n ≤ a) : zonesF rs most n f a = [] := by
  cases f with
  | zero => rfl
  | succ f =>
    unfold zonesF
    rw [if_neg (by omega)]
end Go.Proofs.Ytcmpdmobmbbplaa

/- Walks: zones. -/
namespace Go.Proofs.Ytcmpdmobmbbplaa
open Go Go.Eng

theorem limited_no (w : World) (lo hi : Nat) (v : Value) (l : List (List Int)) (most : Int) (h : RdII w lo hi v l) (hne : limitV l most ≠ 0) : Ca Try.prog 101 [v, .int .i64 most] w fun x w' => x = .tuple #[.slice none 0 0, .int .i64 (limitV l most)] ∧ Chg [] w w' := by
  obtain ⟨va, c, rfl, ha⟩ := RdII.outI h
  refine q_of (Sat.nil w M0) Try.func101 rfl (by simp [Try.ntmps101]) ?_
  (refine q_seq (q_region (ql_pure tabOk rfl rfl (ql_pure tabOk rfl rfl (q_nil (q_seq (q_seq (q_region (ql_pure tabOk rfl rfl ?_)))))))))
  refine ql_callv (val := .int .i64 (tableV l)) tabOk rfl rfl rfl rfl (fun w hs => ?_) ?_; exact table_ca w lo hi _ l (RdII.keep h hs.chg0)
  by_cases ht : tableV l = 0
  · have e : inB most 0 10000 = false ∧ limitV l most = 3 := by
      unfold limitV at hne ⊢
      rw [if_neg (by simpa using ht)] at hne ⊢
      split at hne
      · rename_i h1; exact ⟨h1, by rw [if_pos h1]⟩
      · exact absurd rfl hne
    (refine ql_pure tabOk rfl rfl (q_nil (q_seq (q_region (ql_pure tabOk rfl rfl (ql_neqF tabOk rfl rfl rfl (by omega) (q_nil (q_cond_false rfl (q_skip (q_seq (q_seq (q_region ?_))))))))))); refine ql_pure tabOk rfl rfl ?_)
    refine ql_callv (val := .bool false) tabOk rfl rfl rfl rfl (fun w hs => ?_) ?_; exact by have := within_ca most 0 10000 w; rw [e.1] at this; exact this
    (refine ql_pure tabOk rfl rfl (q_nil (q_cond_true rfl (q_seq (q_region (ql_pure tabOk rfl rfl (ql_pure tabOk rfl rfl (q_nil (q_ret ?_)))))))))
    refine q_fin tabOk rfl (by repeat constructor) fun w hs => ?_
    exact ⟨by rw [e.2]; rfl, hs.chg0⟩
  · have e : limitV l most = tableV l := by unfold limitV; rw [if_pos ht]
    (refine ql_pure tabOk rfl rfl (q_nil (q_seq (q_region (ql_pure tabOk rfl rfl (ql_neqT tabOk rfl rfl rfl (by omega) (q_nil (q_cond_true rfl (q_seq (q_region ?_))))))))); (iterate 3 refine ql_pure tabOk rfl rfl ?_); refine q_nil (q_ret ?_))
    refine q_fin tabOk rfl (by repeat constructor) fun w hs => ?_
    exact ⟨by rw [e]; rfl, hs.chg0⟩
theorem limit_iff {l : List (List Int)} {most : Int} : limitV l most = 0 ↔ TabOk l (nV l) ∧ 0 ≤ most ∧ most ≤ 10000 := by
  unfold limitV
  constructor
  · intro h
    split at h
    · rename_i h1; exact absurd h h1
    · rename_i h1
      split at h
      · cases h
      · rename_i h2
        exact ⟨table_iff.1 (by simpa using h1), inB_iff.1 (by simpa using h2)⟩
  · rintro ⟨h1, h2⟩
    rw [if_neg (by simpa using table_iff.2 h1), if_neg (by rw [inB_iff.2 h2]; simp)]
theorem limited_ok (w : World) (lo hi : Nat) (v : Value) (l : List (List Int)) (most : Int) (h : RdII w lo hi v l) (he : limitV l most = 0) : Ca Try.prog 101 [v, .int .i64 most] w fun x w' => ∃ y : Value × List (Value × List Int), (x = .tuple #[y.1, .int .i64 0] ∧ y.2.map (·.2) = regV l (nV l)) ∧ Sat w M0 [un (rowsO 3 y.2), .ow y.1 157 2 l.length (wxC most y.2)] w' := by
  obtain ⟨hl, hm⟩ := limit_iff.1 he
  obtain ⟨va, c, rfl, ha⟩ := RdII.outI h
  refine q_of (Sat.nil w M0) Try.func101 rfl (by simp [Try.ntmps101]) ?_
  (refine q_seq (q_region (ql_pure tabOk rfl rfl (ql_pure tabOk rfl rfl (q_nil (q_seq (q_seq (q_region (ql_pure tabOk rfl rfl ?_)))))))))
  refine ql_callv (val := .int .i64 0) tabOk rfl rfl rfl rfl (fun w hs => ?_) ?_; exact by have := table_ca w lo hi _ l (RdII.keep h hs.chg0); rw [show tableV l = 0 from table_iff.2 hl] at this; exact this
  (refine ql_pure tabOk rfl rfl (q_nil (q_seq (q_region (ql_pure tabOk rfl rfl (ql_neqF tabOk rfl rfl rfl (by omega) (q_nil (q_cond_false rfl (q_skip (q_seq (q_seq (q_region ?_))))))))))); refine ql_pure tabOk rfl rfl ?_)
  refine ql_callv (val := .bool true) tabOk rfl rfl rfl rfl (fun w hs => ?_) ?_; exact by have := within_ca most 0 10000 w; rw [inB_iff.2 hm] at this; exact this
  (refine ql_pure tabOk rfl rfl (q_nil (q_cond_false rfl (q_skip (q_seq (q_region (ql_pure tabOk rfl rfl (ql_pure tabOk rfl rfl ?_))))))))
  refine ql_call (β := Value × List (Value × List Int)) tabOk [] _ M0 rfl rfl rfl rfl (Sp.refl _) (fun _ h => h.elim) (fun w' hs => waxes_ca w' lo hi _ l (nV l) most (RdII.keep h hs.chg0) hl) ?_
  rintro ⟨_, xs⟩ u ⟨rfl, hxs⟩
  dsimp only [List.cons_append, List.nil_append]
  (refine ql_pure tabOk rfl rfl (ql_pure tabOk rfl rfl (q_nil (q_ret ?_))))
  refine q_fin tabOk rfl (by repeat constructor) fun w hs => ?_
  exact ⟨(u, xs), ⟨rfl, hxs⟩, hs.sp (by repeat constructor)⟩
/-- Zones as cells. -/
def znC (zs : List (Int × Int × Int)) : List Value := zs.flatMap fun z => [.int .i64 z.1, .int .i64 z.2.1, .int .i64 z.2.2]
theorem znC_snoc (zs : List (Int × Int × Int)) (z : Int × Int × Int) : znC (zs ++ [z]) = znC zs ++ [.int .i64 z.1, .int .i64 z.2.1, .int .i64 z.2.2] := by simp [znC]
theorem slZ : SlT Try.prog 88 96 3 24 (.agg #[.int .i64 0, .int .i64 0, .int .i64 0]) := ⟨by kernel_rfl, by kernel_rfl, by kernel_rfl, by decide⟩
set_option maxHeartbeats 4000000 in
theorem zones_ok (w : World) (lo hi : Nat) (v : Value) (l : List (List Int)) (most : Int) (h : RdII w lo hi v l) (he : limitV l most = 0) : Ca Try.prog 48 [v, .int .i64 most] w fun x w' => ∃ u : Value, x = .tuple #[u, .int .i64 0] ∧ Sat w M0 [.ow u 96 3 (zonesV l most).1.length (znC (zonesV l most).1)] w' := by
  obtain ⟨hl, hm⟩ := limit_iff.1 he
  have hl1 := hl.l1
  have hl2 := hl.l2
  have hn1 := hl.n1
  have hn2 := hl.n2
  have hzV : (zonesV l most).1 = zonesF (regV l (nV l)) most (nV l) (nV l + 1) 0 := by unfold zonesV; rw [if_neg (by simpa using he)]
  rw [hzV]
  obtain ⟨va, c, rfl, ha⟩ := RdII.outI h
  obtain ⟨vb, vo, rfl⟩ := ha (by omega)
  obtain ⟨b0, o0, c0, hr0, hc0⟩ := RdII.rowS h 0 (by omega) (nV_eq (by omega)).symm hl.n1
  generalize hnn : nV l = n at *
  refine q_of (Sat.nil w M0) Try.func48 rfl (by simp [Try.ntmps48]) ?_
  (refine q_seq (q_region (ql_pure tabOk rfl rfl (ql_pure tabOk rfl rfl (q_nil (q_seq (q_region (ql_pure tabOk rfl rfl (ql_pure tabOk rfl rfl ?_)))))))))
  refine ql_call (β := Value × List (Value × List Int)) tabOk [] _ M0 rfl rfl rfl rfl (Sp.refl _) (fun _ h => h.elim) (fun w' hs => limited_ok w' lo hi _ l most (RdII.keep h hs.chg0) he) ?_
  rintro ⟨u, xs⟩ _ ⟨rfl, hxs⟩
  rw [hnn] at hxs
  dsimp only [List.cons_append, List.nil_append]
  refine ql_fact (fun w hs => hs.ownSome (v := u) (by repeat constructor) (by omega)) ?_
  rintro ⟨g, cw, rfl⟩
  have hxl : xs.length = l.length := by have := congrArg List.length hxs; rw [regV_len, List.length_map] at this; exact this
  have hrs : ∀ k (hk : k < xs.length), (regV l n).getD k [] = xs[k].2 := fun k hk => by
    rw [← hxs, List.getD_eq_getElem?_getD, List.getElem?_map, List.getElem?_eq_getElem hk]
    rfl
  have hrl : ∀ row ∈ regV l n, row.length = n := fun row hr => by
    obtain ⟨r, _, rfl⟩ := List.mem_map.1 hr
    exact regRow_len _ _ _
  have hxn : ∀ k (hk : k < xs.length), xs[k].2.length = n := fun k hk => hrl _ (by rw [← hxs]; exact List.mem_map.2 ⟨_, List.getElem_mem hk, rfl⟩)
  (refine ql_pure tabOk rfl rfl (ql_ext tabOk rfl rfl rfl (ql_ext tabOk rfl rfl rfl (ql_pure tabOk rfl rfl (ql_pure tabOk rfl rfl (q_nil (q_seq (q_seq (q_region (ql_pure tabOk rfl rfl (ql_neqF tabOk rfl rfl rfl (by omega) (q_nil ?_))))))))))); refine q_cond_false rfl (q_skip (q_seq (q_region (ql_pure tabOk rfl rfl (q_nil (q_seq (q_seq (q_region (ql_pure tabOk rfl rfl (q_nil (q_block ?_))))))))))))
  refine q_conv (H' := [.ow (.slice none 0 0) 96 3 ([] : List (Int × Int × Int)).length (znC []), un (rowsO 3 xs), .ow (.slice (some ⟨g, 0, none⟩) l.length cw) 157 2 l.length (wxC most xs)]) (fun w' hs => Sat.ownil hs 96 3) ?_
  refine q_loop (σ := Nat × Value × List (Int × Int × Int)) (fun y => y.1 ≤ n ∧ y.2.2.length ≤ y.1 ∧ ∃ f, n ≤ y.1 + f ∧ y.2.2 ++ zonesF (regV l n) most n (f + 1) y.1 = zonesF (regV l n) most n (n + 1) 0) (fun y => n - y.1)
    (fun y => [(0, .slice (some ⟨vb, vo, none⟩) l.length c), (6, .slice (some ⟨g, 0, none⟩) l.length cw), (8, y.2.1), (9, .int .i64 y.1)])
    (fun y => [.ow y.2.1 96 3 y.2.2.length (znC y.2.2), un (rowsO 3 xs), .ow (.slice (some ⟨g, 0, none⟩) l.length cw) 157 2 l.length (wxC most xs)]) (0, .slice none 0 0, []) ⟨by simp only; omega, by simp, n, by simp only; omega, rfl⟩ ⟨rfl, rfl, rfl, rfl, trivial⟩ (by repeat constructor) ?_
  rintro ⟨a, z, zs⟩ ⟨ha1, ha2, f, hf1, hf2⟩ K hK
  dsimp only at ha1 ha2 hf1 hf2 ⊢
  (refine q_seq (q_seq (q_region (ql_pure tabOk rfl rfl (ql_pure tabOk rfl rfl ?_)))))
  refine ql_index tabOk rfl rfl rfl rfl rfl (by omega) (by omega) ?_
  refine ql_load1 tabOk rfl rfl rfl (fun w hs => hc0 _ hs.chg0) ?_
  (refine ql_pure tabOk rfl rfl (ql_pure tabOk rfl rfl (q_nil ?_)))
  refine q_if rfl (fun hc => ?_) (fun hc => ?_)
  · have ha3 : a < n := by omega
    clear hc
    (refine q_skip (q_block (q_seq (q_region (ql_pure tabOk rfl rfl ?_)))))
    refine ql_mk #[.int .i64 a, .int .i64 (-1), .int .i64 0] rfl (by kernel_rfl) rfl ?_
    skip
    refine ql_alloc zero96 rfl (fun b10 => ?_)
    (refine ql_setA tabOk rfl rfl rfl rfl rfl (by repeat constructor) rfl ?_; refine q_nil (q_seq (q_seq (q_region ?_))); (iterate 3 refine ql_pure tabOk rfl rfl ?_); refine q_nil (q_block ?_))
    refine q_loop (σ := Nat) (fun k => k ≤ l.length) (fun k => l.length - k)
      (fun k => [(0, .slice (some ⟨vb, vo, none⟩) l.length c), (6, .slice (some ⟨g, 0, none⟩) l.length cw), (8, z), (9, .int .i64 a), (10, .pointer (some ⟨b10, 0, none⟩)), (31, .slice (some ⟨g, 0, none⟩) l.length cw), (32, .int .i64 l.length), (33, .int .i64 k)])
      (fun k => [.pt b10 [.int .i64 a, .int .i64 (zoneF (regV l n) most a k).1, .int .i64 (zoneF (regV l n) most a k).2] 96, .ow z 96 3 zs.length (znC zs), un (rowsO 3 xs), .ow (.slice (some ⟨g, 0, none⟩) l.length cw) 157 2 l.length (wxC most xs)]) 0 (by omega) ⟨rfl, rfl, rfl, rfl, rfl, rfl, rfl, rfl, trivial⟩ (by repeat constructor) ?_
    rintro k hk K2 hK2
    (refine q_seq (q_region (ql_pure tabOk rfl rfl (q_nil (q_seq ?_)))))
    refine q_if rfl (fun hc => ?_) (fun hc => ?_)
    · have hk2 : k < l.length := by omega
      have hk3 : k < xs.length := by omega
      have hkn := hxn k hk3
      clear hc
      refine q_fact (fun w hs => RdI.outI (wx_row hs (by repeat constructor) k hk3).1) ?_
      rintro ⟨a1, c1, e1, _⟩
      (refine q_skip (q_seq (q_block (q_seq (q_region (ql_pure tabOk rfl rfl ?_))))))
      refine ql_index tabOk rfl rfl rfl rfl rfl (by omega) (by omega) ?_
      refine ql_loadA tabOk rfl rfl rfl rfl (fun w hs => by
        rw [Int.toNat_natCast]
        have := wx_at hs (by repeat constructor) k hk3
        rw [e1] at this
        exact this) ?_
      skip
      refine ql_alloc zero157 rfl (fun b12 => ?_)
      (refine ql_pure tabOk rfl rfl ?_; refine ql_setA tabOk rfl rfl rfl rfl rfl (by repeat constructor) rfl ?_; refine q_nil (q_seq (q_region (ql_pure tabOk rfl rfl (ql_ar tabOk rfl rfl rfl rfl (by omega) (by omega) (ql_pure tabOk rfl rfl (q_nil (q_seq (q_block ?_)))))))))
      have hnx := goodN_le xs[k].2 most a
      refine q_loop (σ := Nat) (fun t => a ≤ t ∧ t ≤ n ∧ ∀ s, a ≤ s → s < t → xs[k].2.getD s 0 ≤ most) (fun t => n - t)
        (fun t => [(0, .slice (some ⟨vb, vo, none⟩) l.length c), (6, .slice (some ⟨g, 0, none⟩) l.length cw), (8, z), (9, .int .i64 a), (10, .pointer (some ⟨b10, 0, none⟩)), (11, .int .i64 k), (12, .pointer (some ⟨b12, 0, none⟩)), (13, .int .i64 (t - 1)), (31, .slice (some ⟨g, 0, none⟩) l.length cw), (32, .int .i64 l.length), (33, .int .i64 k)])
        (fun t => [.pt b12 [.slice a1 xs[k].2.length c1, .int .i64 most] 157, .pt b10 [.int .i64 a, .int .i64 (zoneF (regV l n) most a k).1, .int .i64 (zoneF (regV l n) most a k).2] 96, .ow z 96 3 zs.length (znC zs), un (rowsO 3 xs), .ow (.slice (some ⟨g, 0, none⟩) l.length cw) 157 2 l.length (wxC most xs)]) a ⟨by omega, by omega, fun s h1 h2 => by omega⟩ ⟨rfl, rfl, rfl, rfl, rfl, rfl, rfl, rfl, rfl, rfl, rfl, trivial⟩ (by repeat constructor) ?_
      rintro t ⟨ht1, ht2, ht3⟩ K3 hK3
      have et : (t : Int) - 1 + 1 = t := by omega
      (refine q_seq (q_seq (q_region (ql_pure tabOk rfl rfl (ql_ar tabOk rfl rfl rfl rfl (by omega) (by omega) (ql_pure tabOk rfl rfl ?_))))))
      refine ql_index tabOk rfl rfl rfl rfl rfl (by omega) (by omega) ?_
      refine ql_load1 tabOk rfl rfl rfl (fun w hs => hc0 _ hs.chg0) ?_
      by_cases htn : t < n
      · (refine ql_pure tabOk rfl rfl (ql_lssT tabOk rfl rfl rfl (by omega) (ql_pure tabOk rfl rfl (ql_gyes rfl ?_))); refine ql_loadABa tabOk rfl rfl rfl ?_; refine ql_gyes rfl (ql_pure tabOk rfl rfl (ql_gyes rfl (ql_pure tabOk rfl rfl (ql_gyes rfl (ql_ar tabOk rfl rfl rfl rfl (by omega) (by omega) (ql_gyes rfl ?_)))))))
        rw [et]
        refine ql_callv (val := .bool (allG xs[k].2 most a t)) tabOk rfl rfl rfl rfl (fun w hs => ?_) ?_; exact all_ca w 0 w.heap.size _ most xs[k].2 a t (e1 ▸ (wx_row hs (by repeat constructor) k hk3).1) (by omega) (by omega)
        cases hal : allG xs[k].2 most a t with
        | false =>
          have hstop : t < xs[k].2.length → ¬ xs[k].2.getD t 0 ≤ most := fun _ hle => by
            rw [← Bool.not_eq_true, allG_iff (by omega)] at hal
            exact hal fun s h1 h2 => by
              by_cases e : s = t
              · rw [e]; exact hle
              · exact ht3 s h1 (by omega)
          (refine ql_pure tabOk rfl rfl (q_nil (q_cond_false rfl (q_exit _ rfl (q_seq (q_region (ql_pure tabOk rfl rfl (ql_pure tabOk rfl rfl ?_))))))); refine ql_loadBa tabOk rfl rfl rfl ?_; refine ql_pure tabOk rfl rfl (q_nil ?_))
          have hgn : goodN xs[k].2 most a = t - a := goodN_eq ht1 (by omega) ht3 hstop
          have hw : zoneF (regV l n) most a (k + 1) = if (zoneF (regV l n) most a k).1 < (t : Int) - 1 then ((t : Int) - 1, (k : Int)) else zoneF (regV l n) most a k := by
            show (if (zoneF (regV l n) most a k).1 < (a : Int) - 1 + goodN ((regV l n).getD k []) most a then _ else _) = _
            rw [hrs k hk3, hgn, show (a : Int) - 1 + ((t - a : Nat) : Int) = (t : Int) - 1 from by omega]
          refine q_if rfl (fun hc => ?_) (fun hc => ?_)
          · have h5 : (zoneF (regV l n) most a k).1 < (t : Int) - 1 := by simpa using hc
            rw [if_pos h5] at hw
            (refine q_region ?_; (iterate 3 refine ql_pure tabOk rfl rfl ?_); refine ql_st1 tabOk rfl rfl rfl rfl (by repeat constructor) ?_; refine ql_pure tabOk rfl rfl ?_; refine ql_st2 tabOk rfl rfl rfl rfl (by repeat constructor) ?_; refine q_nil (q_blk (q_region (ql_ar tabOk rfl rfl rfl rfl (by omega) (by omega) (ql_pure tabOk rfl rfl (q_nil ?_))))))
            exact hK2 (k + 1) _ _ (by omega) (by omega) ⟨rfl, rfl, rfl, rfl, rfl, rfl, rfl, rfl, trivial⟩ (by rw [hw]; repeat constructor)
          · have h5 : ¬ (zoneF (regV l n) most a k).1 < (t : Int) - 1 := by simpa using hc
            rw [if_neg h5] at hw
            (refine q_skip (q_blk (q_region (ql_ar tabOk rfl rfl rfl rfl (by omega) (by omega) (ql_pure tabOk rfl rfl (q_nil ?_))))))
            exact hK2 (k + 1) _ _ (by omega) (by omega) ⟨rfl, rfl, rfl, rfl, rfl, rfl, rfl, rfl, trivial⟩ (by rw [hw]; repeat constructor)
        | true =>
          rw [allG_iff (by omega)] at hal
          (refine ql_pure tabOk rfl rfl (q_nil (q_cond_true rfl (q_skip (q_block (q_region (ql_pure tabOk rfl rfl (ql_ar tabOk rfl rfl rfl rfl (by omega) (by omega) (ql_pure tabOk rfl rfl (q_nil (q_blk ?_)))))))))))
          exact hK3 (t + 1) _ _ ⟨by omega, by omega, fun s h1 h2 => hal s h1 (by omega)⟩ (by omega) ⟨rfl, rfl, rfl, rfl, rfl, rfl, rfl, by rw [show ((t + 1 : Nat) : Int) - 1 = (t : Int) - 1 + 1 from by omega]; rfl, rfl, rfl, rfl, trivial⟩ (by repeat constructor)
      · have hstop : t < xs[k].2.length → ¬ xs[k].2.getD t 0 ≤ most := fun h => by omega
        (refine ql_pure tabOk rfl rfl (ql_lssF tabOk rfl rfl rfl (by omega) (ql_pure tabOk rfl rfl ?_)); (iterate 5 refine ql_gno rfl rfl rfl ?_); refine ql_pure tabOk rfl rfl (q_nil (q_cond_false rfl (q_exit _ rfl (q_seq (q_region (ql_pure tabOk rfl rfl (ql_pure tabOk rfl rfl ?_))))))); refine ql_loadBa tabOk rfl rfl rfl ?_; refine ql_pure tabOk rfl rfl (q_nil ?_))
        skip
        have hgn : goodN xs[k].2 most a = t - a := goodN_eq ht1 (by omega) ht3 hstop
        have hw : zoneF (regV l n) most a (k + 1) = if (zoneF (regV l n) most a k).1 < (t : Int) - 1 then ((t : Int) - 1, (k : Int)) else zoneF (regV l n) most a k := by
          show (if (zoneF (regV l n) most a k).1 < (a : Int) - 1 + goodN ((regV l n).getD k []) most a then _ else _) = _
          rw [hrs k hk3, hgn, show (a : Int) - 1 + ((t - a : Nat) : Int) = (t : Int) - 1 from by omega]
        refine q_if rfl (fun hc => ?_) (fun hc => ?_)
        · have h5 : (zoneF (regV l n) most a k).1 < (t : Int) - 1 := by simpa using hc
          rw [if_pos h5] at hw
          (refine q_region ?_; (iterate 3 refine ql_pure tabOk rfl rfl ?_); refine ql_st1 tabOk rfl rfl rfl rfl (by repeat constructor) ?_; refine ql_pure tabOk rfl rfl ?_; refine ql_st2 tabOk rfl rfl rfl rfl (by repeat constructor) ?_; refine q_nil (q_blk (q_region (ql_ar tabOk rfl rfl rfl rfl (by omega) (by omega) (ql_pure tabOk rfl rfl (q_nil ?_))))))
          exact hK2 (k + 1) _ _ (by omega) (by omega) ⟨rfl, rfl, rfl, rfl, rfl, rfl, rfl, rfl, trivial⟩ (by rw [hw]; repeat constructor)
        · have h5 : ¬ (zoneF (regV l n) most a k).1 < (t : Int) - 1 := by simpa using hc
          rw [if_neg h5] at hw
          (refine q_skip (q_blk (q_region (ql_ar tabOk rfl rfl rfl rfl (by omega) (by omega) (ql_pure tabOk rfl rfl (q_nil ?_))))))
          exact hK2 (k + 1) _ _ (by omega) (by omega) ⟨rfl, rfl, rfl, rfl, rfl, rfl, rfl, rfl, trivial⟩ (by rw [hw]; repeat constructor)
    · obtain rfl : k = l.length := by omega
      clear hK2 hk hc
      have hz1 := zone_has hl hm.1 ha3
      have hz2 := zone_lt hrl ha3 (most := most) l.length
      generalize hp1 : (zoneF (regV l n) most a l.length).1 = p1 at *
      generalize hp2 : (zoneF (regV l n) most a l.length).2 = p2 at *
      (refine q_exit _ rfl (q_seq (q_region (ql_pure tabOk rfl rfl ?_))); refine ql_loadABa tabOk rfl rfl rfl ?_)
      refine ql_mkS 96 [.int .i64 a, .int .i64 p1, .int .i64 p2] rfl (by kernel_rfl) rfl (fun bn => ?_)
      skip
      refine ql_append (q := 1) (news := [.int .i64 a, .int .i64 p1, .int .i64 p2]) slZ rfl rfl rfl (fun v' => by repeat constructor) (fun w' hs => ⟨_, _, Blk.rdN (hs.blk (b := bn) (by repeat constructor)) rfl⟩) (by simp [oneV]) (by omega) (by omega) (fun z' => ?_)
      (refine ql_pure tabOk rfl rfl (q_nil (q_region (ql_pure tabOk rfl rfl ?_))); refine ql_loadBa tabOk rfl rfl rfl ?_; refine ql_ar tabOk rfl rfl rfl rfl (by omega) (by omega) (ql_pure tabOk rfl rfl (q_nil (q_blk ?_))))
      have hstep := zonesF_step (rs := regV l n) (most := most) (f := f) ha3
      rw [regV_len, hp1, hp2] at hstep
      rw [hstep] at hf2
      obtain ⟨nx, hnx⟩ : ∃ nx : Nat, p1 + 1 = (nx : Int) := ⟨(p1 + 1).toNat, by omega⟩
      rw [hnx, Int.toNat_natCast] at hf2
      exact hK (nx, z', zs ++ [((a : Int), p1, p2)]) _ _ ⟨by simp only; omega, by simp only [List.length_append, List.length_cons, List.length_nil]; omega, f - 1, by simp only; omega, by
        have hf : f - 1 + 1 = f := by omega
        dsimp only
        rw [hf, List.append_assoc]
        exact hf2⟩ (by simp only; omega) ⟨rfl, rfl, rfl, by rw [← hnx]; rfl, trivial⟩ (by dsimp only; rw [znC_snoc, show (zs ++ [((a : Int), p1, p2)]).length = zs.length + 1 from by simp]; repeat constructor)
  · obtain rfl : a = n := by omega
    rw [zonesF_end (Nat.le_refl _), List.append_nil] at hf2
    subst hf2
    (refine q_exit _ rfl (q_seq (q_region ?_)); (iterate 3 refine ql_pure tabOk rfl rfl ?_); refine q_nil (q_ret ?_))
    refine q_fin tabOk rfl (by repeat constructor) fun w hs => ?_
    exact ⟨z, rfl, hs.sp (by repeat constructor)⟩
end Go.Proofs.Ytcmpdmobmbbplaa

/- Walks: whether snows are breaks. -/
namespace Go.Proofs.Ytcmpdmobmbbplaa
open Go Go.Eng

theorem breaks1_p (w : World) (lo hi b t : Nat) (v : Value) (l : List (List Int)) (br : List Int) (hb : Blk w b [v] t) (h : RdII w lo hi v l) (hl : TabOk l (nV l)) :
    PredAt Try.prog tab w (.func (.func 108) #[] #[.pointer (some ⟨b, 0, none⟩)]) (ints br) (pIx (nV l)) := by
  have hl1 := hl.l1
  have hn2 := hl.n2
  refine ⟨_, _, _, rfl, rfl, fun w' hw' x hx => ?_⟩
  have hb' := hb.keep hw'
  obtain ⟨a, c, rfl, ha⟩ := RdII.outI h
  obtain ⟨vb, vo, rfl⟩ := ha (by omega)
  obtain ⟨b0, o0, c0, hr0, hc0⟩ := RdII.rowS h 0 (by omega) (nV_eq (by omega)).symm hl.n1
  obtain ⟨i, hi, rfl⟩ := List.mem_map.1 hx
  refine q_of (Sat.nil w' M0) Try.func108 rfl (by simp [Try.ntmps108]) ?_
  (refine q_seq (q_region (ql_pure tabOk rfl rfl (q_nil (q_seq (q_region (ql_pure tabOk rfl rfl ?_)))))); refine ql_loadP tabOk rfl rfl rfl (by assumption) (by rfl) ?_)
  refine ql_index tabOk rfl rfl rfl rfl rfl (by omega) (by omega) ?_
  refine ql_load1 tabOk rfl rfl rfl (fun w hs => hc0 _ (hw'.trans hs.chg0)) ?_
  (refine ql_pure tabOk rfl rfl (ql_ar tabOk rfl rfl rfl rfl (by omega) (by omega) ?_))
  refine ql_callv (val := .bool (inB i 0 (nV l - 1))) tabOk rfl rfl rfl rfl (fun w hs => ?_) ?_; exact within_ca i 0 (nV l - 1) w
  (refine ql_pure tabOk rfl rfl (q_nil (q_ret ?_)))
  refine q_fin tabOk rfl (by repeat constructor) fun w hs => ?_
  exact ⟨rfl, hs.chg0⟩
def pAll (w : World) (a b : Nat) : Value → Bool
  | .agg cs => match cs.toList with
    | [v, .int _ most] => allG (rowAt w v) most a b
    | _ => false
  | _ => false
theorem breaks2_p (w : World) (lo hi p q t1 t2 : Nat) (most : Int) (vs : List Value) (rows : List (List Int)) (n a b : Nat) (h2 : vs.length = rows.length) (h3 : ∀ i (h : i < vs.length) (h' : i < rows.length), RdI w lo hi vs[i] rows[i]) (hn : ∀ row ∈ rows, row.length = n) (hn2 : n ≤ 1000) (hb : b < n) (hp : Blk w p [.int .i64 a] t1) (hq : Blk w q [.int .i64 b] t2) :
    PredAt Try.prog tab w (.func (.func 110) #[] #[.pointer (some ⟨p, 0, none⟩), .pointer (some ⟨q, 0, none⟩)]) (vs.map (wxV most)) (pAll w a b) := by
  refine ⟨_, _, _, rfl, rfl, fun w' hw' x hx => ?_⟩
  have hp' := hp.keep hw'
  have hq' := hq.keep hw'
  obtain ⟨v, hv, rfl⟩ := List.mem_map.1 hx
  obtain ⟨hr, hm⟩ := rdII_mem h2 h3 hv
  show Ca _ _ _ _ fun r w2 => r = .bool (allG (rowAt w v) most a b) ∧ _
  generalize hg : rowAt w v = row at hr hm ⊢
  have hrn := hn row hm
  obtain ⟨ra, rc, rfl, hra⟩ := RdI.outI hr
  unfold wxV
  refine q_of (Sat.nil w' M0) Try.func110 rfl (by simp [Try.ntmps110]) ?_
  (refine q_seq (q_region ?_))
  refine ql_box rfl rfl (fun b3 => ?_)
  (refine ql_pure tabOk rfl rfl (q_nil (q_seq (q_region ?_))); refine ql_loadABa tabOk rfl rfl rfl ?_; (iterate 2 refine ql_loadP tabOk rfl rfl rfl (by assumption) (by rfl) ?_))
  refine ql_callv (val := .bool (allG row most a b)) tabOk rfl rfl rfl rfl (fun w hs => ?_) ?_; exact all_ca w lo hi _ most row a b (RdE.keep hr (hw'.trans hs.chg0)) (by omega) (by omega)
  (refine ql_pure tabOk rfl rfl (q_nil (q_ret ?_)))
  refine q_fin tabOk rfl (by repeat constructor) fun w hs => ?_
  exact ⟨rfl, hs.chg0⟩
theorem pAll_any (w : World) (lo hi a b : Nat) (most : Int) (vs : List Value) (rows : List (List Int)) (h2 : vs.length = rows.length) (h3 : ∀ i (h : i < vs.length) (h' : i < rows.length), RdI w lo hi vs[i] rows[i]) : (vs.map (wxV most)).any (pAll w a b) = rows.any fun row => allG row most a b := by
  have e : vs.map (rowAt w) = rows := List.ext_getElem (by simp [h2]) (fun i h4 h5 => by
    rw [List.getElem_map]
    exact rowAt_eq (h3 i (by simpa using h4) h5))
  rw [← e, List.any_map, List.any_map]
  rfl
theorem any_ca {w0 w : World} {M : Nat → Prop} {H : List Ck} {g n c t t2 t3 t4 p q a b n2 : Nat} {most : Int} {xs : List (Value × List Int)} (hs : Sat w0 M H w) (hu : un (rowsO t2 xs) ∈ H) (ho : Ck.ow (.slice (some ⟨g, 0, none⟩) n c) t 2 n (wxC most xs) ∈ H) (hn : ∀ row ∈ xs.map (·.2), row.length = n2) (hn2 : n2 ≤ 1000) (hb : b < n2) (hl : xs.length < 1000000) (hp : Blk w p [.int .i64 a] t3) (hq : Blk w q [.int .i64 b] t4) :
    Ca Try.prog 109 [.slice (some ⟨g, 0, none⟩) n c, .func (.func 110) #[] #[.pointer (some ⟨p, 0, none⟩), .pointer (some ⟨q, 0, none⟩)]] w fun r w' => r = .bool ((xs.map (·.2)).any fun row => allG row most a b) ∧ Chg [] w w' := by
  have hnx : n = xs.length := wx_len (hs.mem ho)
  have h3 : ∀ i (h : i < (xs.map (·.1)).length) (h' : i < (xs.map (·.2)).length), RdI w 0 w.heap.size (xs.map (·.1))[i] (xs.map (·.2))[i] := fun i h h' => by
    simp only [List.getElem_map]
    exact (wx_row hs hu i (by simpa using h)).1
  have hrd : RdE w 0 w.heap.size (.slice (some ⟨g, 0, none⟩) n c) 2 ((xs.map (·.1)).map (wxV most)) := RdE.ofOwn (t := t) (by rw [wx_cells, List.length_map, List.length_map, ← hnx]; exact hs.mem ho) (fun e he => by
    obtain ⟨y, _, rfl⟩ := List.mem_map.1 he
    rfl)
  have := conF_wax w 0 w.heap.size _ _ _ (pAll w a b) hrd (fun i hi => by rw [List.getElem_map]; exact ⟨_, rfl⟩) (by simp only [List.length_map]; omega) (breaks2_p w 0 w.heap.size p q t3 t4 most (xs.map (·.1)) (xs.map (·.2)) n2 a b (by simp) h3 hn hn2 hb hp hq)
  rw [pAll_any w 0 w.heap.size a b most (xs.map (·.1)) (xs.map (·.2)) (by simp) h3] at this
  exact this
theorem brk_no {l : List (List Int)} {most : Int} {br : List Int} (h : limitV l most ≠ 0) : breaksV l most br = (false, limitV l most) := if_pos h
theorem brk_un {l : List (List Int)} {most : Int} {br : List Int} (h : limitV l most = 0) (h2 : br.all (fun s => inB s 0 ((nV l : Int) - 1)) = false) : breaksV l most br = (false, 1) := by unfold breaksV; rw [if_neg (by simpa using h), if_pos h2]
theorem brk_yes {l : List (List Int)} {most : Int} {br : List Int} (h : limitV l most = 0) (h2 : br.all (fun s => inB s 0 ((nV l : Int) - 1)) = true) : breaksV l most br = (if brkF (regV l (nV l)) most br = true then !br.isEmpty && true else false, 0) := by unfold breaksV; rw [if_neg (by simpa using h), if_neg (by rw [h2]; simp)]
def tK20_bab9619 : OT := .alt (chainT [9, 10, 0, 1, 2, 3, 4, 11, 5, 6, 7, 8, 12] (.nil)) (chainT [10, 9, 0, 1, 2, 3, 4, 11, 5, 6, 7, 8, 12] (.nil))
set_option maxHeartbeats 4000000 in
theorem breaksShow_ca (w : World) (lo hi lo2 hi2 : Nat) (v u : Value) (l : List (List Int)) (most : Int) (br : List Int) (h : RdII w lo hi v l) (hu : RdI w lo2 hi2 u br) (hbl : br.length ≤ 1000000) : Ca Try.prog 50 [v, .int .i64 most, u] w fun x w' => x = .tuple #[.bool (breaksV l most br).1, .int .i64 (breaksV l most br).2] ∧ Chg [] w w' := by
  obtain ⟨va, c, rfl, ha⟩ := RdII.outI h
  obtain ⟨ua, uc, rfl, hua⟩ := RdI.outI hu
  refine q_of (Sat.nil w M0) Try.func50 rfl (by simp [Try.ntmps50]) ?_
  (refine q_seq (q_region ?_))
  refine ql_box rfl rfl (fun b3 => ?_)
  (refine ql_pure tabOk rfl rfl (ql_pure tabOk rfl rfl (q_nil (q_seq (q_region ?_)))); refine ql_loadBa tabOk rfl rfl rfl ?_; refine ql_pure tabOk rfl rfl ?_)
  by_cases he : limitV l most = 0
  · obtain ⟨hl, hm⟩ := limit_iff.1 he
    have hl1 := hl.l1
    have hl2 := hl.l2
    have hn1 := hl.n1
    have hn2 := hl.n2
    refine ql_call (β := Value × List (Value × List Int)) tabOk [] _ M0 rfl rfl rfl rfl (Sp.refl _) (fun _ h => h.elim) (fun w' hs => limited_ok w' lo hi _ l most (RdII.keep h hs.chg0) he) ?_
    rintro ⟨u, xs⟩ _ ⟨rfl, hxs⟩
    dsimp only [List.cons_append, List.nil_append]
    have hrl : ∀ row ∈ regV l (nV l), row.length = nV l := fun row hr => by
      obtain ⟨r, _, rfl⟩ := List.mem_map.1 hr
      exact regRow_len _ _ _
    refine ql_fact (fun w hs => hs.ownSome (v := u) (by repeat constructor) (by omega)) ?_
    rintro ⟨g, cw, rfl⟩
    have hxl : xs.length = l.length := by have := congrArg List.length hxs; rw [regV_len, List.length_map] at this; exact this
    (refine ql_pure tabOk rfl rfl (ql_ext tabOk rfl rfl rfl (ql_ext tabOk rfl rfl rfl (ql_pure tabOk rfl rfl (ql_pure tabOk rfl rfl (q_nil (q_seq (q_block (q_seq (q_region (ql_pure tabOk rfl rfl (ql_neqF tabOk rfl rfl rfl (by omega) ?_))))))))))); refine ql_pure tabOk rfl rfl (q_nil (q_cond_false rfl (q_seq (q_region (ql_pure tabOk rfl rfl (ql_pure tabOk rfl rfl ?_)))))))
    refine ql_callv (val := .bool (br.all fun s => inB s 0 ((nV l : Int) - 1))) tabOk rfl rfl rfl rfl (fun w hs => ?_) ?_; exact by have := all_int w lo2 hi2 _ _ (ints br) _ (RdE.keep hu hs.chg0) (by intro i hi; simp [ints, oneV]) (by simp [ints]; omega) (breaks1_p w lo hi b3 _ _ l br (hs.blk (by repeat constructor)) (RdII.keep h hs.chg0) hl); rw [pIx_all] at this; exact this
    cases hal : (br.all fun s => inB s 0 ((nV l : Int) - 1)) with
    | false =>
      (refine ql_pure tabOk rfl rfl (ql_pure tabOk rfl rfl (q_nil (q_cond_true rfl (q_seq (q_region (ql_pure tabOk rfl rfl (ql_pure tabOk rfl rfl (q_nil (q_ret ?_))))))))))
      refine q_fin tabOk rfl (by repeat constructor) fun w hs => ?_
      exact ⟨by rw [brk_un he hal]; rfl, hs.chg0⟩
    | true =>
      rw [brk_yes he hal]
      (refine ql_pure tabOk rfl rfl (ql_pure tabOk rfl rfl (q_nil (q_cond_false rfl (q_skip (q_blk (q_seq (q_seq (q_region (ql_pure tabOk rfl rfl (q_nil (q_block ?_))))))))))))
      generalize hrs : regV l (nV l) = rs at *
      refine q_loop (σ := Nat) (fun s => 1 ≤ s ∧ (s ≤ br.length ∨ s = 1) ∧ brkF rs most (br.drop (s - 1)) = brkF rs most br) (fun s => br.length - s)
        (fun s => [(2, .slice ua br.length uc), (8, .slice (some ⟨g, 0, none⟩) l.length cw), (10, .int .i64 s)])
        (fun s => [un (rowsO 3 xs), .ow (.slice (some ⟨g, 0, none⟩) l.length cw) 157 2 l.length (wxC most xs)]) 1 ⟨by omega, .inr rfl, rfl⟩ ⟨rfl, rfl, rfl, trivial⟩ (by repeat constructor) ?_
      rintro s ⟨hs1, hs2, hs3⟩ K hK
      (refine q_seq (q_seq (q_region ?_)); (iterate 4 refine ql_pure tabOk rfl rfl ?_); refine q_nil ?_)
      refine q_if rfl (fun hc => ?_) (fun hc => ?_)
      · have hs4 : s < br.length := by omega
        clear hc
        obtain ⟨ub, uo, rfl⟩ := hua (by omega)
        have hB : ∀ k (hk : k < br.length), 0 ≤ br[k] ∧ br[k] ≤ (nV l : Int) - 1 := fun k hk => inB_iff.1 (List.all_eq_true.1 hal _ (List.getElem_mem hk))
        have hd1 : br.drop (s - 1) = br[s - 1]'(by omega) :: br[s] :: br.drop (s + 1) := by
          have e : s - 1 + 1 = s := by omega
          rw [List.drop_eq_getElem_cons (i := s - 1) (by omega), e, List.drop_eq_getElem_cons hs4]
        have hd2 : br.drop (s + 1 - 1) = br[s] :: br.drop (s + 1) := by
          rw [Nat.add_sub_cancel, List.drop_eq_getElem_cons hs4]
        have hb1 := hB (s - 1) (by omega)
        have hb2 := hB s hs4
        have ei : ((s : Int) - 1).toNat = s - 1 := by omega
        generalize hx : br[s - 1]'(by omega) = x at hb1 hd1
        generalize hy : br[s] = y at hb2 hd1 hd2
        rw [hd1] at hs3
        obtain ⟨i, rfl⟩ := Int.eq_ofNat_of_zero_le hb1.1
        obtain ⟨j, rfl⟩ := Int.eq_ofNat_of_zero_le hb2.1
        (refine q_skip (q_seq (q_block (q_seq ?_))))
        refine q_cut (σ := Nat × Nat) (fun y => [(2, .slice (some ⟨ub, uo, none⟩) br.length uc), (8, .slice (some ⟨g, 0, none⟩) l.length cw), (10, .int .i64 s), (11, .pointer (some ⟨y.1, 0, none⟩)), (12, .pointer (some ⟨y.2, 0, none⟩))])
          (fun y => [.pt y.1 [.int .i64 i] 3, .pt y.2 [.int .i64 j] 3, un (rowsO 3 xs), .ow (.slice (some ⟨g, 0, none⟩) l.length cw) 157 2 l.length (wxC most xs)]) ?_ ?_
        rotate_left
        · intro K2 hK2
          refine q_drawT (tK20_bab9619) _ [] (Sp.refl _) (by kernel_rfl) (by kernel_rfl) ?_
          refine qt_alt ?_ ?_
          · skip
            refine qt_seg (by repeat (first | exact PickL.nil | (apply PickL.cons; rfl))) fun K1 hK1 => ?_
            skip
            refine qf_alloc zero3 rfl (fun b11 => ?_)
            skip
            refine qf_alloc zero3 rfl (fun b12 => ?_)
            (refine qf_pure tabOk rfl rfl rfl (qf_pure tabOk rfl rfl rfl (qf_ar tabOk rfl rfl rfl rfl (by omega) (by omega) ?_)))
            refine qf_index tabOk rfl rfl rfl rfl rfl (by omega) (by omega) ?_
            refine qf_load1 (v := .int .i64 i) tabOk rfl rfl rfl (fun w hs => by rw [ei, ← hx]; exact RdI.at (RdE.keep hu hs.chg0) (s - 1) (by omega)) ?_
            (refine qf_set tabOk rfl rfl rfl rfl (by repeat constructor) ?_; refine qf_pure tabOk rfl rfl rfl (qf_pure tabOk rfl rfl rfl ?_))
            refine qf_index tabOk rfl rfl rfl rfl rfl (by omega) (by omega) ?_
            refine qf_load1 (v := .int .i64 j) tabOk rfl rfl rfl (fun w hs => by rw [Int.toNat_natCast, ← hy]; exact RdI.at (RdE.keep hu hs.chg0) s hs4) ?_
            (refine qf_set tabOk rfl rfl rfl rfl (by repeat constructor) ?_; refine qf_nil ?_)
            exact hK1 _ _ (qt_nil (hK2 (b11, b12) _ _ ⟨rfl, rfl, rfl, rfl, rfl, trivial⟩ (by repeat constructor)))
          · skip
            refine qt_seg (by repeat (first | exact PickL.nil | (apply PickL.cons; rfl))) fun K1 hK1 => ?_
            skip
            refine qf_alloc zero3 rfl (fun b12 => ?_)
            skip
            refine qf_alloc zero3 rfl (fun b11 => ?_)
            (refine qf_pure tabOk rfl rfl rfl (qf_pure tabOk rfl rfl rfl (qf_ar tabOk rfl rfl rfl rfl (by omega) (by omega) ?_)))
            refine qf_index tabOk rfl rfl rfl rfl rfl (by omega) (by omega) ?_
            refine qf_load1 (v := .int .i64 i) tabOk rfl rfl rfl (fun w hs => by rw [ei, ← hx]; exact RdI.at (RdE.keep hu hs.chg0) (s - 1) (by omega)) ?_
            (refine qf_set tabOk rfl rfl rfl rfl (by repeat constructor) ?_; refine qf_pure tabOk rfl rfl rfl (qf_pure tabOk rfl rfl rfl ?_))
            refine qf_index tabOk rfl rfl rfl rfl rfl (by omega) (by omega) ?_
            refine qf_load1 (v := .int .i64 j) tabOk rfl rfl rfl (fun w hs => by rw [Int.toNat_natCast, ← hy]; exact RdI.at (RdE.keep hu hs.chg0) s hs4) ?_
            (refine qf_set tabOk rfl rfl rfl rfl (by repeat constructor) ?_; refine qf_nil ?_)
            exact hK1 _ _ (qt_nil (hK2 (b11, b12) _ _ ⟨rfl, rfl, rfl, rfl, rfl, trivial⟩ (by repeat constructor)))
        rintro ⟨b11, b12⟩
        dsimp only
        by_cases hij : (j : Int) ≤ i
        · (refine q_seq (q_region ?_); (iterate 2 refine ql_loadBa tabOk rfl rfl rfl ?_); refine ql_geqT tabOk rfl rfl rfl (by omega) (ql_pure tabOk rfl rfl ?_); (iterate 3 refine ql_gno rfl rfl rfl ?_); refine ql_pure tabOk rfl rfl (q_nil (q_cond_true rfl (q_seq (q_region (ql_pure tabOk rfl rfl (ql_pure tabOk rfl rfl (q_nil (q_ret ?_)))))))))
          refine q_fin tabOk rfl (by repeat constructor) fun w hs => ?_
          have e : brkF rs most br = false := by rw [← hs3]; unfold brkF; rw [if_pos hij]
          exact ⟨by rw [e]; rfl, hs.chg0⟩
        · (refine q_seq (q_region ?_); (iterate 2 refine ql_loadBa tabOk rfl rfl rfl ?_); refine ql_geqF tabOk rfl rfl rfl (by omega) (ql_pure tabOk rfl rfl (ql_gyes rfl (ql_pure tabOk rfl rfl (ql_gyes rfl (ql_pure tabOk rfl rfl (ql_gyes rfl ?_)))))))
          refine ql_callv (val := .bool (rs.any fun row => allG row most i j)) tabOk rfl rfl rfl rfl (fun w hs => ?_) ?_; exact by have := any_ca hs (t2 := 3) (by repeat constructor) (by repeat constructor) (n2 := nV l) (fun row hr => by rw [hxs] at hr; exact hrl row hr) (by omega) (show j < nV l by omega) (by omega) (hs.blk (b := b11) (by repeat constructor)) (hs.blk (b := b12) (by repeat constructor)); rw [hxs] at this; exact this
          cases han : (rs.any fun row => allG row most i j) with
          | true =>
            (refine ql_pure tabOk rfl rfl (q_nil (q_cond_true rfl (q_seq (q_region (ql_pure tabOk rfl rfl (ql_pure tabOk rfl rfl (q_nil (q_ret ?_)))))))))
            refine q_fin tabOk rfl (by repeat constructor) fun w hs => ?_
            have e : brkF rs most br = false := by rw [← hs3]; unfold brkF; rw [if_neg hij, Int.toNat_natCast, Int.toNat_natCast, if_pos han]
            exact ⟨by rw [e]; rfl, hs.chg0⟩
          | false =>
            (refine ql_pure tabOk rfl rfl (q_nil (q_cond_false rfl (q_skip (q_blk (q_region (ql_pure tabOk rfl rfl (ql_ar tabOk rfl rfl rfl rfl (by omega) (by omega) (ql_pure tabOk rfl rfl (q_nil ?_))))))))))
            exact hK (s + 1) _ _ ⟨by omega, .inl (by omega), by
              rw [hd2, ← hs3]
              conv => rhs; unfold brkF
              rw [if_neg hij, Int.toNat_natCast, Int.toNat_natCast, if_neg (by rw [han]; simp)]⟩ (by omega) ⟨rfl, rfl, rfl, trivial⟩ (by repeat constructor)
      · have e : brkF rs most br = true := by
          rw [← hs3]
          match hd : br.drop (s - 1) with
          | [] => rfl
          | [x] => rfl
          | x :: y :: r =>
            exfalso
            have := congrArg List.length hd
            rw [List.length_drop] at this
            simp at this
            omega
        (refine q_exit _ rfl (q_seq (q_region ?_)); (iterate 5 refine ql_pure tabOk rfl rfl ?_); refine q_nil (q_ret ?_))
        cases br with
        | nil =>
          skip
          refine q_fin tabOk rfl (by repeat constructor) fun w hs => ?_
          exact ⟨by rw [e]; rfl, hs.chg0⟩
        | cons x br =>
          skip
          refine q_fin tabOk rfl (by repeat constructor) fun w hs => ?_
          exact ⟨by rw [e]; simp [retV], hs.chg0⟩
  · refine ql_callv (val := .tuple #[.slice none 0 0, .int .i64 (limitV l most)]) tabOk rfl rfl rfl rfl (fun w hs => ?_) ?_; exact limited_no w lo hi _ l most (RdII.keep h hs.chg0) he
    (refine ql_pure tabOk rfl rfl (ql_ext tabOk rfl rfl rfl (ql_ext tabOk rfl rfl rfl (ql_pure tabOk rfl rfl (ql_pure tabOk rfl rfl (q_nil (q_seq (q_block (q_seq (q_region (ql_pure tabOk rfl rfl (ql_neqT tabOk rfl rfl rfl (by omega) ?_))))))))))); refine ql_pure tabOk rfl rfl (q_nil (q_cond_true rfl (q_seq (q_region ?_)))); (iterate 3 refine ql_pure tabOk rfl rfl ?_); refine q_nil (q_ret ?_))
    refine q_fin tabOk rfl (by repeat constructor) fun w hs => ?_
    exact ⟨by rw [brk_no he]; rfl, hs.chg0⟩
end Go.Proofs.Ytcmpdmobmbbplaa

/- Plain law of sorting by insertion, by a key; what is equal stays in order. -/
namespace Go.Proofs.Ytcmpdmobmbbplaa

theorem getD_set (L : List Int) (i p : Nat) (v : Int) (hi : i < L.length) : (L.set i v).getD p 0 = if p = i then v else L.getD p 0 := by
  simp only [List.getD_eq_getElem?_getD, List.getElem?_set]
  by_cases h : i = p
  · rw [if_pos h, if_pos h.symm, if_pos hi]
    rfl
  · rw [if_neg h, if_neg (fun hh => h hh.symm)]
/-- By the key, then by the number. -/
def LtK (key : Int → Int) (a b : Int) : Prop := key a < key b ∨ (key a = key b ∧ a < b)
theorem LtK.trans {key : Int → Int} {a b c : Int} (h1 : LtK key a b) (h2 : LtK key b c) : LtK key a c := by
  unfold LtK at *
  omega
structure SrI (key : Int → Int) (l L : List Int) (i : Nat) : Prop where
  perm : L.Perm l
  srt : ∀ p q, p < q → q < i → LtK key (L.getD p 0) (L.getD q 0)
  ord : ∀ p q, p < i → i ≤ q → q < l.length → L.getD p 0 < L.getD q 0
  tail : ∀ p q, i ≤ p → p < q → q < l.length → L.getD p 0 < L.getD q 0
structure SrJ (key : Int → Int) (l L : List Int) (i j : Nat) : Prop where
  perm : L.Perm l
  ji : j ≤ i
  srt : ∀ p q, p < q → q ≤ i → p ≠ j → q ≠ j → LtK key (L.getD p 0) (L.getD q 0)
  low : ∀ q, j < q → q ≤ i → LtK key (L.getD j 0) (L.getD q 0)
  big : ∀ q, q ≤ i → q ≠ j → L.getD q 0 < L.getD j 0
  ord : ∀ p q, p ≤ i → i < q → q < l.length → L.getD p 0 < L.getD q 0
  tail : ∀ p q, i < p → p < q → q < l.length → L.getD p 0 < L.getD q 0
variable {key : Int → Int} {l L : List Int} {i j : Nat}
theorem SrI.open (h : SrI key l L i) (hi : i < l.length) : SrJ key l L i i where
  perm := h.perm
  ji := Nat.le_refl _
  srt := fun p q h1 h2 _ h3 => h.srt p q h1 (by omega)
  low := fun q h1 h2 => by omega
  big := fun q h1 h2 => h.ord q i (by omega) (Nat.le_refl _) hi
  ord := fun p q h1 h2 h3 => by
    by_cases e : p = i
    · exact h.tail p q (by omega) (by omega) h3
    · exact h.ord p q (by omega) (by omega) h3
  tail := fun p q h1 h2 h3 => h.tail p q (by omega) h2 h3
theorem SrJ.close (h : SrJ key l L i j) (hj : j = 0 ∨ ¬ key (L.getD j 0) < key (L.getD (j - 1) 0)) : SrI key l L (i + 1) where
  perm := h.perm
  srt := fun p q h1 h2 => by
    by_cases hp : p = j
    · subst hp
      exact h.low q h1 (by omega)
    by_cases hq : q = j
    · subst hq
      rcases hj with hj | hj
      · omega
      · have h4 := h.big (q - 1) (by omega) (by omega)
        have h5 : LtK key (L.getD (q - 1) 0) (L.getD q 0) := by unfold LtK; omega
        by_cases hp2 : p = q - 1
        · rw [hp2]; exact h5
        · exact (h.srt p (q - 1) (by omega) (by have := h.ji; omega) hp (by omega)).trans h5
    · exact h.srt p q h1 (by omega) hp hq
  ord := fun p q h1 h2 h3 => h.ord p q (by omega) (by omega) h3
  tail := fun p q h1 h2 h3 => h.tail p q (by omega) h2 h3
theorem SrJ.swap (h : SrJ key l L i j) (hj : 0 < j) (hi : i < L.length) (hlt : key (L.getD j 0) < key (L.getD (j - 1) 0)) {x y : Int} (hx : L.getD (j - 1) 0 = x) (hy : L.getD j 0 = y) : SrJ key l ((L.set j x).set (j - 1) y) i (j - 1) := by
  have hji := h.ji
  have e : ∀ p, ((L.set j x).set (j - 1) y).getD p 0 = if p = j - 1 then y else if p = j then x else L.getD p 0 := fun p => by
    rw [getD_set _ _ _ _ (by simp; omega), getD_set _ _ _ _ (by omega)]
  refine ⟨List.Perm.trans ?_ h.perm, by omega, fun p q h1 h2 h3 h4 => ?_, fun q h1 h2 => ?_, fun q h1 h2 => ?_, fun p q h1 h2 h3 => ?_, fun p q h1 h2 h3 => ?_⟩
  · have h1 : j < L.length := by omega
    have h2 : j - 1 < L.length := by omega
    have ex : x = L[j - 1] := by rw [← hx, getD_row h2]
    have ey : y = L[j] := by rw [← hy, getD_row h1]
    subst ex ey
    exact List.set_set_perm h1 h2
  · rw [e, e, if_neg h3, if_neg h4]
    by_cases hp : p = j
    · rw [if_pos hp, if_neg (by omega), ← hx]
      exact h.srt (j - 1) q (by omega) h2 (by omega) (by omega)
    · rw [if_neg hp]
      by_cases hq : q = j
      · rw [if_pos hq, ← hx]
        exact h.srt p (j - 1) (by omega) (by omega) hp (by omega)
      · rw [if_neg hq]
        exact h.srt p q h1 h2 hp hq
  · rw [e, e, if_pos rfl, if_neg (by omega), ← hy]
    by_cases hq : q = j
    · rw [if_pos hq, ← hx]
      exact .inl hlt
    · rw [if_neg hq]
      exact h.low q (by omega) h2
  · rw [e, e, if_pos rfl, if_neg h2, ← hy]
    by_cases hq : q = j
    · rw [if_pos hq, ← hx]
      exact h.big (j - 1) (by omega) (by omega)
    · rw [if_neg hq]
      exact h.big q h1 hq
  · rw [e p, e q, if_neg (show ¬ q = j - 1 by omega), if_neg (show ¬ q = j by omega)]
    split
    · rw [← hy]; exact h.ord j q (by omega) h2 h3
    · split
      · rw [← hx]; exact h.ord (j - 1) q (by omega) h2 h3
      · exact h.ord p q h1 h2 h3
  · rw [e, e, if_neg (by omega), if_neg (by omega), if_neg (by omega), if_neg (by omega)]
    exact h.tail p q h1 h2 h3
/-- Sorted by the key. -/
def SrtK (key : Int → Int) (L : List Int) : Prop := ∀ p q, p < q → q < L.length → LtK key (L.getD p 0) (L.getD q 0)
def iotaL (n : Nat) : List Int := (List.range n).map fun (i : Nat) => (i : Int)
theorem iota_len (n : Nat) : (iotaL n).length = n := by simp [iotaL]
theorem iota_get {n i : Nat} (h : i < n) : (iotaL n).getD i 0 = i := by
  unfold iotaL
  rw [List.getD_eq_getElem?_getD, List.getElem?_map, List.getElem?_range h]
  rfl
theorem SrI.start (n : Nat) : SrI key (iotaL n) (iotaL n) 1 where
  perm := .refl _
  srt := fun p q h1 h2 => by omega
  ord := fun p q h1 h2 h3 => by
    rw [iota_len] at h3
    rw [iota_get (by omega), iota_get h3]
    omega
  tail := fun p q h1 h2 h3 => by
    rw [iota_len] at h3
    rw [iota_get (by omega), iota_get h3]
    omega
theorem SrI.all (h : SrI key l L l.length) : SrtK key L := fun p q h1 h2 => h.srt p q h1 (by rw [← h.perm.length_eq]; exact h2)
/-- What is sorted is sorted in one way. -/
theorem srt_uniq {key : Int → Int} : ∀ {L M : List Int}, SrtK key L → SrtK key M → L.Perm M → L = M
  | [], M, _, _, hp => (List.nil_perm.1 hp).symm ▸ rfl
  | a :: L, [], _, _, hp => by have := hp.length_eq; simp at this
  | a :: L, b :: M, h1, h2, hp => by
    have hab : a = b := by
      have ha : a ∈ b :: M := hp.subset (.head _)
      have hb : b ∈ a :: L := hp.symm.subset (.head _)
      rcases List.mem_cons.1 ha with e | ha
      · exact e
      rcases List.mem_cons.1 hb with e | hb
      · exact e.symm
      obtain ⟨i, hi, ei⟩ := List.mem_iff_getElem.1 ha
      obtain ⟨j, hj, ej⟩ := List.mem_iff_getElem.1 hb
      have h3 := h1 0 (j + 1) (by omega) (by simpa using hj)
      have h4 := h2 0 (i + 1) (by omega) (by simpa using hi)
      rw [getD_row (by simp), getD_row (by simpa using hj)] at h3
      rw [getD_row (by simp), getD_row (by simpa using hi)] at h4
      simp only [List.getElem_cons_zero, List.getElem_cons_succ, ei, ej] at h3 h4
      unfold LtK at h3 h4
      omega
    subst hab
    have ht : ∀ {X : List Int}, SrtK key (a :: X) → SrtK key X := fun hX p q h3 h4 => by
      have := hX (p + 1) (q + 1) (by omega) (by simpa using h4)
      simpa using this
    rw [srt_uniq (ht h1) (ht h2) hp.cons_inv]
end Go.Proofs.Ytcmpdmobmbbplaa

/- Walks: sorted by insertion, with a function that compares. -/
namespace Go.Proofs.Ytcmpdmobmbbplaa
open Go Go.Eng

theorem set_ints (l : List Int) (k : Nat) (v : Int) : (ints l).set k (.int .i64 v) = ints (l.set k v) := by simp [ints, List.map_set]
/-- A function value that compares by a key, in all worlds where only one block may have changed. -/
def CmpAt (w : World) (g : Nat) (cmp : Value) (key : Int → Int) (l : List Int) : Prop := ∀ w', ChgP (fun x => x = g) w w' → ∀ a ∈ l, ∀ b ∈ l, CaF Try.prog cmp [.int .i64 a, .int .i64 b] w' fun v w2 => v = .int .i64 (key a - key b) ∧ Chg [] w' w2
set_option maxHeartbeats 4000000 in
theorem insF_ca (w : World) (g c : Nat) (l : List Int) (key : Int → Int) (cmp : Value) (h1 : 1 ≤ l.length) (hl : l.length ≤ 1000) (hI0 : SrI key l l 1) (hcmp : CmpAt w g cmp key l) (hb : w.ownsRow 0 3 1 (.slice (some ⟨g, 0, none⟩) l.length c) l.length (ints l)) :
    Ca Try.prog 149 [.slice (some ⟨g, 0, none⟩) l.length c, .int .i64 0, .int .i64 l.length, cmp] w fun v w' => ∃ L : List Int, (v = .tuple #[] ∧ L.Perm l ∧ SrtK key L) ∧ Sat w (fun x => x = g) [.ow (.slice (some ⟨g, 0, none⟩) l.length c) 3 1 l.length (ints L)] w' := by
  refine q_of (Sat.own0 hb) Try.func149 rfl (by simp [Try.ntmps149]) ?_
  (refine q_seq (q_region (ql_pure tabOk rfl rfl (ql_ar tabOk rfl rfl rfl rfl (by omega) (by omega) (ql_pure tabOk rfl rfl (q_nil (q_block ?_)))))))
  refine q_loop (σ := Nat × List Int) (fun s => 1 ≤ s.1 ∧ s.1 ≤ l.length ∧ SrI key l s.2 s.1) (fun s => l.length - s.1) (fun s => [(0, .slice (some ⟨g, 0, none⟩) l.length c), (1, .int .i64 0), (2, .int .i64 l.length), (3, cmp), (8, .int .i64 s.1)])
    (fun s => [.ow (.slice (some ⟨g, 0, none⟩) l.length c) 3 1 l.length (ints s.2)]) (1, l) ⟨by simp, h1, hI0⟩ ⟨rfl, rfl, rfl, rfl, rfl, trivial⟩ (by repeat constructor) ?_
  rintro ⟨i, L⟩ ⟨hi1, hi2, hI⟩ K hK
  simp only at hi1 hi2 hI
  dsimp only
  (refine q_seq (q_seq (q_region ?_)); (iterate 3 refine ql_pure tabOk rfl rfl ?_); refine q_nil ?_)
  refine q_if rfl (fun hc => ?_) (fun hc => ?_)
  · have hi3 : i < l.length := by omega
    clear hc
    (refine q_skip (q_seq (q_block (q_seq (q_region (ql_pure tabOk rfl rfl (ql_pure tabOk rfl rfl (q_nil (q_block ?_)))))))))
    refine q_loop (σ := Nat × List Int) (fun s => SrJ key l s.2 i s.1) (fun s => s.1) (fun s => [(0, .slice (some ⟨g, 0, none⟩) l.length c), (1, .int .i64 0), (2, .int .i64 l.length), (3, cmp), (8, .int .i64 i), (9, .int .i64 s.1)])
      (fun s => [.ow (.slice (some ⟨g, 0, none⟩) l.length c) 3 1 l.length (ints s.2)]) (i, L) (hI.open hi3) ⟨rfl, rfl, rfl, rfl, rfl, rfl, trivial⟩ (by repeat constructor) ?_
    rintro ⟨j, L2⟩ hJ K2 hK2
    simp only at hJ
    dsimp only
    have hji := hJ.ji
    have hlen : L2.length = l.length := hJ.perm.length_eq
    by_cases hj0 : 0 < j
    · have y1 : j < L2.length := by omega
      have y2 : j - 1 < L2.length := by omega
      have g1 := getD_get y1
      have g2 := getD_get y2
      obtain ⟨q, hq⟩ : ∃ q : Nat, (q : Int) = (j : Int) - 1 := ⟨j - 1, by omega⟩
      have hq2 : j - 1 = q := by omega
      simp only [hq2] at y2 g2
      have hclose := hJ.close
      have hswap := hJ.swap hj0 (by omega)
      simp only [hq2] at hclose hswap
      (refine q_seq (q_seq ?_))
      refine q_draw _ [] (Sp.refl _) (by kernel_rfl) (by kernel_rfl) ?_
      (refine qf_pure tabOk rfl rfl rfl (qf_pure tabOk rfl rfl rfl (qf_gtrT tabOk rfl rfl rfl (by omega) (qf_pure tabOk rfl rfl rfl (qf_gyes rfl (qf_pure tabOk rfl rfl rfl (qf_gyes rfl (qf_pure tabOk rfl rfl rfl (qf_gyes rfl (qf_pure tabOk rfl rfl rfl (qf_gyes rfl ?_)))))))))))
      refine qf_index tabOk rfl rfl rfl rfl rfl (by omega) (by omega) ?_
      (refine qf_gyes rfl ?_)
      refine qf_load1 (v := .int .i64 L2[j]) tabOk rfl rfl rfl (fun w hs => RdI.at (hs.rdI (v := .slice (some ⟨g, 0, none⟩) l.length c) (l := L2) (t := 3) (n := l.length) (by repeat constructor) hlen.symm) j y1) ?_
      (refine qf_gyes rfl (qf_pure tabOk rfl rfl rfl (qf_gyes rfl (qf_pure tabOk rfl rfl rfl (qf_gyes rfl (qf_ar tabOk rfl rfl rfl rfl (by omega) (by omega) (qf_gyes rfl ?_)))))))
      rw [← hq]
      refine qf_index tabOk rfl rfl rfl rfl rfl (by omega) (by omega) ?_
      (refine qf_gyes rfl ?_)
      refine qf_load1 (v := .int .i64 L2[q]) tabOk rfl rfl rfl (fun w hs => RdI.at (hs.rdI (v := .slice (some ⟨g, 0, none⟩) l.length c) (l := L2) (t := 3) (n := l.length) (by repeat constructor) hlen.symm) q y2) ?_
      (refine qf_gyes rfl ?_)
      refine qf_callFv rfl rfl rfl (fun w' hs => hcmp w' hs.chg _ (hJ.perm.subset (List.getElem_mem y1)) _ (hJ.perm.subset (List.getElem_mem y2))) ?_
      by_cases hlt : key L2[j] - key L2[q] < 0
      · have hs2 := hswap (by rw [g1, g2]; omega) g2 g1
        (refine qf_gyes rfl (qf_lssT tabOk rfl rfl rfl (by omega) (qf_pure tabOk rfl rfl rfl (qf_nil (q_cond_true rfl (q_skip (q_seq (q_block ?_))))))))
        refine q_drawB [true, true, false, false, false, true, true, true, true, true, true, true, true, true, false, false, false, false] [] [.ow (.slice (some ⟨g, 0, none⟩) l.length c) 3 1 l.length (ints L2)] (by repeat constructor) (by kernel_rfl) (by kernel_rfl) (by kernel_rfl) ?_
        refine qb_T 2 rfl rfl (Sp.refl _) fun K1 hK1 => ?_
        (refine qf_pure tabOk rfl rfl rfl (qf_pure tabOk rfl rfl rfl (qf_nil ?_)))
        refine hK1 _ _ (qb_F 3 [.ow (.slice (some ⟨g, 0, none⟩) l.length c) 3 1 l.length (ints L2)] rfl rfl (by repeat constructor) fun K1 hK1 => ?_)
        (refine qf_pure tabOk rfl rfl rfl (qf_pure tabOk rfl rfl rfl (qf_ar tabOk rfl rfl rfl rfl (by omega) (by omega) (qf_nil ?_))))
        refine hK1 _ _ (qb_T 9 rfl rfl (by repeat constructor) fun K1 hK1 => ?_)
        (refine qf_pure tabOk rfl rfl rfl (qf_pure tabOk rfl rfl rfl (qf_ar tabOk rfl rfl rfl rfl (by omega) (by omega) ?_)))
        rw [← hq]
        (refine qf_index tabOk rfl rfl rfl rfl rfl (by omega) (by omega) ?_; refine qf_load1 tabOk rfl rfl rfl (fun w hs => RdI.at (hs.rdI (l := L2) (t := 3) (n := l.length) (by repeat constructor) hlen.symm) q y2) ?_)
        (refine qf_pure tabOk rfl rfl rfl (qf_pure tabOk rfl rfl rfl ?_))
        (refine qf_index tabOk rfl rfl rfl rfl rfl (by omega) (by omega) ?_; refine qf_load1 tabOk rfl rfl rfl (fun w hs => RdI.at (hs.rdI (l := L2) (t := 3) (n := l.length) (by repeat constructor) hlen.symm) j y1) ?_)
        (refine qf_nil ?_)
        refine hK1 _ _ (qb_F 4 [.ow (.slice (some ⟨g, 0, none⟩) l.length c) 3 1 l.length (ints L2)] rfl rfl (by repeat constructor) fun K1 hK1 => ?_)
        skip
        refine qf_index tabOk rfl rfl rfl rfl rfl (by omega) (by omega) ?_
        refine qf_storeW tabOk j rfl rfl rfl rfl (by repeat constructor) (by omega) (by simpa using y1) ?_
        skip
        refine qf_index tabOk rfl rfl rfl rfl rfl (by omega) (by omega) ?_
        refine qf_storeW tabOk q rfl rfl rfl rfl (by repeat constructor) (by omega) (by simpa using y2) ?_
        rw [set_ints, set_ints]
        (refine qf_nil ?_)
        refine hK1 _ _ (qb_nil ?_)
        (refine q_blk (q_region (ql_pure tabOk rfl rfl (ql_ar tabOk rfl rfl rfl rfl (by omega) (by omega) (ql_pure tabOk rfl rfl (q_nil ?_))))))
        exact hK2 (q, _) _ _ hs2 (by simp only; omega) ⟨rfl, rfl, rfl, rfl, rfl, lookI rfl (by omega), trivial⟩ (by repeat constructor)
      · have hI2 := hclose (.inr (by rw [g1, g2]; omega))
        (refine qf_gyes rfl (qf_lssF tabOk rfl rfl rfl (by omega) (qf_pure tabOk rfl rfl rfl (qf_nil (q_cond_false rfl (q_exit _ rfl (q_blk (q_region (ql_pure tabOk rfl rfl (ql_ar tabOk rfl rfl rfl rfl (by omega) (by omega) (ql_pure tabOk rfl rfl (q_nil ?_))))))))))))
        exact hK (i + 1, L2) _ _ ⟨by simp only; omega, by simp only; omega, hI2⟩ (by simp only; omega) ⟨rfl, rfl, rfl, rfl, rfl, trivial⟩ (by repeat constructor)
    · have hI2 := hJ.close (.inl (by omega))
      obtain rfl : j = 0 := by omega
      (refine q_seq (q_seq ?_))
      refine q_draw _ [] (Sp.refl _) (by kernel_rfl) (by kernel_rfl) ?_
      (refine qf_pure tabOk rfl rfl rfl (qf_pure tabOk rfl rfl rfl (qf_gtrF tabOk rfl rfl rfl (by omega) (qf_pure tabOk rfl rfl rfl ?_))); (iterate 12 refine qf_gno rfl rfl rfl ?_); refine qf_pure tabOk rfl rfl rfl (qf_nil (q_cond_false rfl (q_exit _ rfl (q_blk (q_region (ql_pure tabOk rfl rfl (ql_ar tabOk rfl rfl rfl rfl (by omega) (by omega) (ql_pure tabOk rfl rfl (q_nil ?_))))))))))
      exact hK (i + 1, L2) _ _ ⟨by simp only; omega, by simp only; omega, hI2⟩ (by simp only; omega) ⟨rfl, rfl, rfl, rfl, rfl, trivial⟩ (by repeat constructor)
  · obtain rfl : i = l.length := by omega
    (refine q_exit _ rfl ?_)
    refine q_end tabOk rfl (by repeat constructor) fun w hs => ?_
    exact ⟨L, ⟨rfl, hI.perm, hI.all⟩, hs⟩
theorem CmpAt.sub {w w' : World} {g : Nat} {cmp : Value} {key : Int → Int} {l : List Int} (h : CmpAt w g cmp key l) (hc : ChgP (fun x => x = g) w w') : CmpAt w' g cmp key l := fun w2 hc2 => h w2 (hc.upP hc2 fun _ h => .inl h)
theorem stable_ca (w : World) (g c : Nat) (l : List Int) (key : Int → Int) (cmp : Value) (h1 : 1 ≤ l.length) (hl : l.length ≤ 16) (hI0 : SrI key l l 1) (hcmp : CmpAt w g cmp key l) (hb : w.ownsRow 0 3 1 (.slice (some ⟨g, 0, none⟩) l.length c) l.length (ints l)) :
    Ca Try.prog 139 [.slice (some ⟨g, 0, none⟩) l.length c, .int .i64 l.length, cmp] w fun v w' => ∃ L : List Int, (v = .tuple #[] ∧ L.Perm l ∧ SrtK key L) ∧ Sat w (fun x => x = g) [.ow (.slice (some ⟨g, 0, none⟩) l.length c) 3 1 l.length (ints L)] w' := by
  refine q_of (Sat.own0 hb) Try.func139 rfl (by simp [Try.ntmps139]) ?_
  (refine q_seq (q_region (ql_pure tabOk rfl rfl (q_nil (q_seq (q_region ?_))))); (iterate 3 refine ql_pure tabOk rfl rfl ?_); refine q_nil (q_seq (q_block ?_)))
  refine q_loop (σ := Unit) (fun _ => True) (fun _ => 0) (fun _ => [(0, .slice (some ⟨g, 0, none⟩) l.length c), (1, .int .i64 l.length), (2, cmp), (6, .int .i64 20), (7, .int .i64 0), (8, .int .i64 20)])
    (fun _ => [.ow (.slice (some ⟨g, 0, none⟩) l.length c) 3 1 l.length (ints l)]) () trivial ⟨rfl, rfl, rfl, rfl, rfl, rfl, trivial⟩ (by repeat constructor) ?_
  rintro _ _ K hK
  clear hK
  (refine q_seq (q_seq (q_region (ql_pure tabOk rfl rfl (ql_pure tabOk rfl rfl (ql_leqF tabOk rfl rfl rfl (by omega) (q_nil (q_cond_false rfl (q_exit _ rfl (q_seq (q_region ?_)))))))))); (iterate 4 refine ql_pure tabOk rfl rfl ?_))
  refine ql_call (β := List Int) (ψ := fun L v => v = .tuple #[] ∧ L.Perm l ∧ SrtK key L) (L' := fun L => [.ow (.slice (some ⟨g, 0, none⟩) l.length c) 3 1 l.length (ints L)]) tabOk [.ow (.slice (some ⟨g, 0, none⟩) l.length c) 3 1 l.length (ints l)] _ (fun x => x = g) rfl rfl rfl rfl (Sp.cons (by repeat constructor) (Sp.refl _)) (fun x hx => ⟨_, .head _, by subst hx; rfl⟩) (fun w' hs => insF_ca w' g c l key cmp h1 (by omega) hI0 (hcmp.sub hs.chg) (hs.all _ (.head _))) ?_
  rintro L _ ⟨rfl, hp, hso⟩
  dsimp only [List.cons_append, List.nil_append]
  (refine q_nil (q_block ?_))
  refine q_loop (σ := Unit) (fun _ => True) (fun _ => 0) (fun _ => [(0, .slice (some ⟨g, 0, none⟩) l.length c), (1, .int .i64 l.length), (2, cmp), (6, .int .i64 20)])
    (fun _ => [.ow (.slice (some ⟨g, 0, none⟩) l.length c) 3 1 l.length (ints L)]) () trivial ⟨rfl, rfl, rfl, rfl, trivial⟩ (by repeat constructor) ?_
  rintro _ _ K hK
  clear hK
  (refine q_seq (q_seq (q_region (ql_pure tabOk rfl rfl (ql_pure tabOk rfl rfl (ql_lssF tabOk rfl rfl rfl (by omega) (q_nil (q_cond_false rfl (q_exit _ rfl ?_)))))))))
  refine q_end tabOk rfl (by repeat constructor) fun w hs => ?_
  exact ⟨L, ⟨rfl, hp, hso⟩, hs⟩
theorem sortF_ca (w : World) (g c : Nat) (l : List Int) (key : Int → Int) (cmp : Value) (h1 : 1 ≤ l.length) (hl : l.length ≤ 16) (hI0 : SrI key l l 1) (hcmp : CmpAt w g cmp key l) (hb : w.ownsRow 0 3 1 (.slice (some ⟨g, 0, none⟩) l.length c) l.length (ints l)) :
    Ca Try.prog 114 [.slice (some ⟨g, 0, none⟩) l.length c, cmp] w fun v w' => ∃ L : List Int, (v = .tuple #[] ∧ L.Perm l ∧ SrtK key L) ∧ Sat w (fun x => x = g) [.ow (.slice (some ⟨g, 0, none⟩) l.length c) 3 1 l.length (ints L)] w' := by
  refine q_of (Sat.own0 hb) Try.func114 rfl (by simp [Try.ntmps114]) ?_
  (refine q_region ?_; (iterate 4 refine ql_pure tabOk rfl rfl ?_))
  refine ql_call (β := List Int) (ψ := fun L v => v = .tuple #[] ∧ L.Perm l ∧ SrtK key L) (L' := fun L => [.ow (.slice (some ⟨g, 0, none⟩) l.length c) 3 1 l.length (ints L)]) tabOk [.ow (.slice (some ⟨g, 0, none⟩) l.length c) 3 1 l.length (ints l)] _ (fun x => x = g) rfl rfl rfl rfl (Sp.cons (by repeat constructor) (Sp.refl _)) (fun x hx => ⟨_, .head _, by subst hx; rfl⟩) (fun w' hs => stable_ca w' g c l key cmp h1 hl hI0 (hcmp.sub hs.chg) (hs.all _ (.head _))) ?_
  rintro L _ ⟨rfl, hp, hso⟩
  dsimp only [List.cons_append, List.nil_append]
  (refine q_nil ?_)
  refine q_end tabOk rfl (by repeat constructor) fun w hs => ?_
  exact ⟨L, ⟨rfl, hp, hso⟩, hs⟩
end Go.Proofs.Ytcmpdmobmbbplaa

/- Plain: the order of single skis, pairs, gaps. -/
namespace Go.Proofs.Ytcmpdmobmbbplaa

def singlesV (st : List Int) : Int := if (inB st.length 2 16 && (!decide (st.length % 2 = 1) && true)) = false then 2 else if (st.all fun n => inB n 0 100000) = false then 3 else 0
structure SingOk (st : List Int) : Prop where
  l1 : 2 ≤ st.length
  l2 : st.length ≤ 16
  ev : st.length % 2 = 0
  num : ∀ x ∈ st, 0 ≤ x ∧ x ≤ 100000
theorem sing_iff {st : List Int} : singlesV st = 0 ↔ SingOk st := by
  unfold singlesV
  constructor
  · intro h
    split at h
    · cases h
    · rename_i h1
      split at h
      · cases h
      · rename_i h2
        simp only [Bool.not_eq_false, Bool.and_eq_true] at h1 h2
        have h3 := inB_iff.1 h1.1
        refine ⟨by omega, by omega, ?_, fun x hx => inB_iff.1 (List.all_eq_true.1 h2 x hx)⟩
        have h4 := h1.2.1
        simp at h4
        omega
  · rintro ⟨h1, h2, h3, h4⟩
    rw [if_neg (by
      have : ¬ st.length % 2 = 1 := by omega
      simp [inB_iff.2 (show (2 : Int) ≤ st.length ∧ (st.length : Int) ≤ 16 by omega), this]), if_neg (by
      simp only [Bool.not_eq_false, List.all_eq_true]
      exact fun x hx => inB_iff.2 (h4 x hx))]
def insK (key : Int → Int) (x : Int) : List Int → List Int
  | [] => [x]
  | y :: l => if key x < key y then x :: y :: l else y :: insK key x l
def isortF (key : Int → Int) : List Int → List Int → List Int
  | acc, [] => acc
  | acc, x :: l => isortF key (insK key x acc) l
theorem ins_perm (key : Int → Int) (x : Int) : ∀ l, (insK key x l).Perm (x :: l)
  | [] => .refl _
  | y :: l => by
    unfold insK
    split
    · exact .refl _
    · exact ((ins_perm key x l).cons y).trans (.swap _ _ _)
theorem isort_perm (key : Int → Int) : ∀ (acc l : List Int), (isortF key acc l).Perm (acc ++ l)
  | acc, [] => by simp [isortF]
  | acc, x :: l => by
    unfold isortF
    refine (isort_perm key _ l).trans (((ins_perm key x acc).append_right l).trans ?_)
    rw [List.cons_append]
    exact List.perm_middle.symm
theorem ins_srt (key : Int → Int) (x : Int) : ∀ l : List Int, l.Pairwise (LtK key) → (∀ y ∈ l, y < x) → (insK key x l).Pairwise (LtK key)
  | [], _, _ => by simp [insK]
  | y :: l, h, hx => by
    unfold insK
    have h1 := List.pairwise_cons.1 h
    split
    · rename_i hk
      refine List.pairwise_cons.2 ⟨fun z hz => ?_, h⟩
      have hy : LtK key x y := .inl hk
      rcases List.mem_cons.1 hz with rfl | hz
      · exact hy
      · exact hy.trans (h1.1 z hz)
    · rename_i hk
      refine List.pairwise_cons.2 ⟨fun z hz => ?_, ins_srt key x l h1.2 (fun z hz => hx z (.tail _ hz))⟩
      rcases List.mem_cons.1 ((ins_perm key x l).subset hz) with rfl | hz
      · have := hx y (.head _)
        unfold LtK
        omega
      · exact h1.1 z hz
theorem isort_srt (key : Int → Int) : ∀ (acc l : List Int), acc.Pairwise (LtK key) → l.Pairwise (· < ·) → (∀ x ∈ acc, ∀ y ∈ l, x < y) → (isortF key acc l).Pairwise (LtK key)
  | acc, [], h, _, _ => h
  | acc, x :: l, h, hl, ha => by
    unfold isortF
    have h1 := List.pairwise_cons.1 hl
    refine isort_srt key _ l (ins_srt key x acc h (fun y hy => ha y hy x (.head _))) h1.2 (fun y hy z hz => ?_)
    rcases List.mem_cons.1 ((ins_perm key x acc).subset hy) with rfl | hy
    · exact h1.1 z hz
    · exact ha y hy z (.tail _ hz)
theorem srtK_of {key : Int → Int} {L : List Int} (h : L.Pairwise (LtK key)) : SrtK key L := fun p q h1 h2 => by
  rw [getD_row (by omega), getD_row h2]
  exact List.pairwise_iff_getElem.1 h p q (by omega) h2 h1
theorem iota_lt (n : Nat) : (iotaL n).Pairwise (· < ·) := by
  unfold iotaL
  rw [List.pairwise_map]
  exact List.pairwise_lt_range.imp fun h => by omega
/-- The numbers below n, sorted by the key. -/
def ordK (key : Int → Int) (n : Nat) : List Int := isortF key [] (iotaL n)
theorem ordK_perm (key : Int → Int) (n : Nat) : (ordK key n).Perm (iotaL n) := by
  have := isort_perm key [] (iotaL n)
  rwa [List.nil_append] at this
theorem ordK_eq {key : Int → Int} {n : Nat} {L : List Int} (hp : L.Perm (iotaL n)) (hs : SrtK key L) : L = ordK key n :=
  srt_uniq hs (srtK_of (isort_srt key [] (iotaL n) .nil (iota_lt n) (fun _ h => by cases h))) (hp.trans (ordK_perm key n).symm)
theorem iota_mem {n : Nat} {x : Int} : x ∈ iotaL n ↔ 0 ≤ x ∧ x < n := by
  unfold iotaL
  rw [List.mem_map]
  constructor
  · rintro ⟨i, hi, rfl⟩
    have := List.mem_range.1 hi
    omega
  · intro h
    exact ⟨x.toNat, List.mem_range.2 (by omega), by omega⟩
theorem ordK_mem {key : Int → Int} {n : Nat} {x : Int} : x ∈ ordK key n ↔ 0 ≤ x ∧ x < n := (ordK_perm key n).mem_iff.trans iota_mem
theorem ordK_len (key : Int → Int) (n : Nat) : (ordK key n).length = n := by rw [(ordK_perm key n).length_eq, iota_len]
/-- What pairs cost. -/
def costF (st : List Int) : List Int → Int
  | a :: b :: l => costF st l + (st.getD b.toNat 0 - st.getD a.toNat 0)
  | _ => 0
def stK (st : List Int) (x : Int) : Int := st.getD x.toNat 0
def softL (st : List Int) : List Int := ordK (stK st) st.length
/-- Gaps. -/
def lowC (st : List Int) (x : Int) : Nat := st.countP fun n => decide (n ≤ x)
def highC (st : List Int) (x : Int) : Nat := st.countP fun n => decide (x ≤ n)
def gapBad (st : List Int) (p : Option Int) (g : Int × Int) : Bool := decide (g.2 ≤ g.1) || ((match p with | some x => decide (g.1 < x) | none => false) || (decide (lowC st g.1 % 2 = 0) || decide (lowC st g.1 + highC st g.2 ≠ st.length)))
def gapsF (st : List Int) : Option Int → List (Int × Int) → Option Int
  | _, [] => some 0
  | p, g :: l => if gapBad st p g = true then none else (gapsF st (some g.2) l).map fun s => s + (g.2 - g.1)
def gapsV (st : List Int) (gs : List (Int × Int)) : Int × Int := if singlesV st ≠ 0 then (0, singlesV st) else if 16 < gs.length then (0, 2) else match gapsF st none gs with | some s => (s, 0) | none => (0, 8)
def sixL : List Int := [50, 20, 41, 23, 60, 38]
theorem aw_sing : singlesV sixL = 0 := by decide +kernel
theorem aw_cost : costF sixL (softL sixL) = 16 := by decide +kernel
theorem aw_gaps : gapsV sixL [(20, 23), (38, 41), (50, 60)] = (16, 0) := by decide +kernel
end Go.Proofs.Ytcmpdmobmbbplaa

/- Walks: single skis, sorted by how stiff they are. -/
namespace Go.Proofs.Ytcmpdmobmbbplaa
open Go Go.Eng

theorem RdI.row' {w : World} {lo hi : Nat} {a : Option Addr} {n c : Nat} {l : List Int} (h : RdI w lo hi (.slice a n c) l) : Rd w lo hi (.slice a n c) 1 n (ints l) := by
  have h1 := RdI.row h
  obtain ⟨a', c', e, _⟩ := RdI.outI h
  injection e with e1 e2 e3
  rw [← e2] at h1
  exact h1
theorem singles1_p (w : World) (c : List Int) : PredAt Try.prog tab w (.func (.func 143) #[] #[]) (ints c) (fun x => match x with | .int _ i => inB i 0 100000 | _ => false) := by
  refine ⟨_, _, _, rfl, rfl, fun w' hw' x hx => ?_⟩
  obtain ⟨i, hi, rfl⟩ := List.mem_map.1 hx
  refine q_of (Sat.nil w' M0) Try.func143 rfl (by simp [Try.ntmps143]) ?_
  (refine q_seq (q_region (ql_pure tabOk rfl rfl (q_nil (q_seq (q_region (ql_pure tabOk rfl rfl ?_)))))))
  refine ql_callv (val := .bool (inB i 0 100000)) tabOk rfl rfl rfl rfl (fun w hs => ?_) ?_; exact within_ca i 0 100000 w
  (refine ql_pure tabOk rfl rfl (q_nil (q_ret ?_)))
  refine q_fin tabOk rfl (by repeat constructor) fun w hs => ?_
  exact ⟨rfl, hs.chg0⟩
theorem singles_ca (w : World) (lo hi : Nat) (v : Value) (st : List Int) (h : RdI w lo hi v st) : Ca Try.prog 127 [v] w fun x w' => x = .int .i64 (singlesV st) ∧ Chg [] w w' := by
  obtain ⟨a, c, rfl, ha⟩ := RdI.outI h
  refine q_of (Sat.nil w M0) Try.func127 rfl (by simp [Try.ntmps127]) ?_
  (refine q_seq (q_region (ql_pure tabOk rfl rfl (q_nil (q_seq (q_block (q_seq (q_region (ql_pure tabOk rfl rfl (ql_pure tabOk rfl rfl ?_))))))))))
  refine ql_callv (val := .bool (inB st.length 2 16)) tabOk rfl rfl rfl rfl (fun w hs => ?_) ?_; exact within_ca st.length 2 16 w
  cases h1 : inB st.length 2 16 with
  | false =>
    (refine ql_pure tabOk rfl rfl (ql_pure tabOk rfl rfl ?_); (iterate 4 refine ql_gno rfl rfl rfl ?_); refine ql_pure tabOk rfl rfl (ql_pure tabOk rfl rfl (q_nil (q_cond_true rfl (q_seq (q_region (ql_pure tabOk rfl rfl (q_nil (q_ret ?_)))))))))
    refine q_fin tabOk rfl (by repeat constructor) fun w hs => ?_
    exact ⟨by simp [retV, singlesV, h1], hs.chg0⟩
  | true =>
    have h1' := inB_iff.1 h1
    by_cases h2 : st.length % 2 = 1
    · (refine ql_pure tabOk rfl rfl (ql_pure tabOk rfl rfl (ql_gyes rfl (ql_pure tabOk rfl rfl (ql_gyes rfl (ql_pure tabOk rfl rfl (ql_gyes rfl (ql_remN rfl rfl rfl (by omega) (by omega) (ql_gyes rfl (ql_eqlT tabOk rfl rfl rfl (by omega) (ql_pure tabOk rfl rfl (ql_pure tabOk rfl rfl ?_))))))))))); refine q_nil (q_cond_true rfl (q_seq (q_region (ql_pure tabOk rfl rfl (q_nil (q_ret ?_)))))))
      refine q_fin tabOk rfl (by repeat constructor) fun w hs => ?_
      exact ⟨by simp [retV, singlesV, h1, h2], hs.chg0⟩
    · (refine ql_pure tabOk rfl rfl (ql_pure tabOk rfl rfl (ql_gyes rfl (ql_pure tabOk rfl rfl (ql_gyes rfl (ql_pure tabOk rfl rfl (ql_gyes rfl (ql_remN rfl rfl rfl (by omega) (by omega) (ql_gyes rfl (ql_eqlF tabOk rfl rfl rfl (by omega) (ql_pure tabOk rfl rfl (ql_pure tabOk rfl rfl ?_))))))))))); refine q_nil (q_cond_false rfl (q_seq (q_region (ql_pure tabOk rfl rfl ?_)))))
      refine ql_callv (val := .bool (st.all fun n => inB n 0 100000)) tabOk rfl rfl rfl rfl (fun w hs => ?_) ?_; exact by have := all_int w lo hi _ _ (ints st) _ (RdE.keep h hs.chg0) (by intro i hi; simp [ints, oneV]) (by simp [ints]; omega) (singles1_p w st); unfold ints at this; rw [List.all_map] at this; exact this
      have hn : ¬ (inB st.length 2 16 && (!decide (st.length % 2 = 1) && true)) = false := by rw [h1]; simp [h2]
      cases h3 : (st.all fun n => inB n 0 100000) with
      | false =>
        (refine ql_pure tabOk rfl rfl (ql_pure tabOk rfl rfl (q_nil (q_cond_true rfl (q_seq (q_region (ql_pure tabOk rfl rfl (q_nil (q_ret ?_)))))))))
        refine q_fin tabOk rfl (by repeat constructor) fun w hs => ?_
        exact ⟨by unfold singlesV; rw [if_neg hn, if_pos h3]; rfl, hs.chg0⟩
      | true =>
        (refine ql_pure tabOk rfl rfl (ql_pure tabOk rfl rfl (q_nil (q_cond_false rfl (q_skip (q_blk (q_seq (q_region (ql_pure tabOk rfl rfl (q_nil (q_ret ?_)))))))))))
        refine q_fin tabOk rfl (by repeat constructor) fun w hs => ?_
        exact ⟨by unfold singlesV; rw [if_neg hn, if_neg (by rw [h3]; simp)]; rfl, hs.chg0⟩
theorem iota_succ (k : Nat) : ints (iotaL (k + 1)) = ints (iotaL k) ++ [.int .i64 (k : Int)] := by
  unfold iotaL ints
  rw [List.range_succ, List.map_append, List.map_append]
  rfl
theorem sorted1_ca (w : World) (lo hi b t : Nat) (v : Value) (st : List Int) (h : RdI w lo hi v st) (hb : Blk w b [v] t) (hst : ∀ x ∈ st, 0 ≤ x ∧ x ≤ 100000) (i j : Nat) (hi' : i < st.length) (hj : j < st.length) : Ca Try.prog 144 [.int .i64 i, .int .i64 j, .pointer (some ⟨b, 0, none⟩)] w fun x w' => x = .int .i64 (stK st i - stK st j) ∧ Chg [] w w' := by
  obtain ⟨a, c, rfl, ha⟩ := RdI.outI h
  obtain ⟨ab, ao, rfl⟩ := ha (by omega)
  have e1 : stK st i = st[i] := by unfold stK; rw [Int.toNat_natCast, getD_get hi']
  have e2 : stK st j = st[j] := by unfold stK; rw [Int.toNat_natCast, getD_get hj]
  have b1 := hst _ (List.getElem_mem hi')
  have b2 := hst _ (List.getElem_mem hj)
  rw [e1, e2]
  refine q_of (Sat.nil w M0) Try.func144 rfl (by simp [Try.ntmps144]) ?_
  (refine q_seq (q_region (ql_pure tabOk rfl rfl (q_nil (q_seq ?_)))))
  refine q_draw _ [] (Sp.refl _) (by kernel_rfl) (by kernel_rfl) ?_
  (refine qf_loadP tabOk rfl rfl rfl (by assumption) (by rfl) ?_; refine qf_pure tabOk rfl rfl rfl ?_)
  refine qf_index tabOk rfl rfl rfl rfl rfl (by omega) (by omega) ?_
  refine qf_load1 (v := .int .i64 st[i]) tabOk rfl rfl rfl (fun w hs => RdI.at (RdE.keep h hs.chg0) i hi') ?_
  (refine qf_loadP tabOk rfl rfl rfl (by assumption) (by rfl) ?_; refine qf_pure tabOk rfl rfl rfl ?_)
  refine qf_index tabOk rfl rfl rfl rfl rfl (by omega) (by omega) ?_
  refine qf_load1 (v := .int .i64 st[j]) tabOk rfl rfl rfl (fun w hs => RdI.at (RdE.keep h hs.chg0) j hj) ?_
  (refine qf_ar tabOk rfl rfl rfl rfl (by omega) (by omega) (qf_pure tabOk rfl rfl rfl (qf_nil (q_ret ?_))))
  refine q_fin tabOk rfl (by repeat constructor) fun w hs => ?_
  exact ⟨rfl, hs.chg0⟩
theorem sorted_ca (w : World) (lo hi : Nat) (v : Value) (st : List Int) (h : RdI w lo hi v st) (hs0 : SingOk st) : Ca Try.prog 128 [v] w fun x w' => ∃ y : Nat × Nat, x = .slice (some ⟨y.1, 0, none⟩) st.length y.2 ∧ Sat w M0 [.ow (.slice (some ⟨y.1, 0, none⟩) st.length y.2) 3 1 st.length (ints (softL st))] w' := by
  have hl1 := hs0.l1
  have hl2 := hs0.l2
  obtain ⟨a, c, rfl, ha⟩ := RdI.outI h
  refine q_of (Sat.nil w M0) Try.func128 rfl (by simp [Try.ntmps128]) ?_
  (refine q_seq (q_region ?_))
  refine ql_box rfl rfl (fun b1 => ?_)
  (refine ql_pure tabOk rfl rfl (q_nil (q_seq (q_region (ql_pure tabOk rfl rfl (q_nil (q_seq (q_seq (q_region ?_)))))))); refine ql_loadBa tabOk rfl rfl rfl ?_; refine ql_pure tabOk rfl rfl (ql_pure tabOk rfl rfl (q_nil (q_block ?_))))
  refine q_conv (H' := [.ow (.slice none 0 0) 3 1 0 (ints (iotaL 0)), .pt b1 [.slice a st.length c] 26]) (fun w' hs => (Sat.ownil hs 3 1).sp (by repeat constructor)) ?_
  refine q_loop (σ := Nat × Value) (fun y => y.1 ≤ st.length) (fun y => st.length - y.1) (fun y => [(1, .pointer (some ⟨b1, 0, none⟩)), (3, y.2), (7, .int .i64 st.length), (8, .int .i64 y.1)])
    (fun y => [.ow y.2 3 1 y.1 (ints (iotaL y.1)), .pt b1 [.slice a st.length c] 26]) (0, .slice none 0 0) (by simp only; omega) ⟨rfl, rfl, rfl, rfl, trivial⟩ (by repeat constructor) ?_
  rintro ⟨k, u⟩ hk K hK
  dsimp only at hk ⊢
  (refine q_seq (q_region (ql_pure tabOk rfl rfl (q_nil (q_seq ?_)))))
  refine q_if rfl (fun hc => ?_) (fun hc => ?_)
  · have hk2 : k < st.length := by omega
    clear hc
    (refine q_skip (q_seq (q_block (q_seq (q_region (ql_pure tabOk rfl rfl (ql_pure tabOk rfl rfl (q_nil (q_region (ql_pure tabOk rfl rfl (ql_pure tabOk rfl rfl ?_)))))))))))
    refine ql_mkS 3 [.int .i64 k] rfl (by kernel_rfl) rfl (fun bn => ?_)
    skip
    refine ql_append (q := 1) (news := [.int .i64 k]) slI rfl rfl rfl (fun v' => by repeat constructor) (fun w' hs => ⟨_, _, Blk.rdN (hs.blk (b := bn) (by repeat constructor)) rfl⟩) (by simp [oneV]) (by omega) (by omega) (fun u' => ?_)
    (refine ql_pure tabOk rfl rfl (q_nil (q_blk (q_region (ql_ar tabOk rfl rfl rfl rfl (by omega) (by omega) (ql_pure tabOk rfl rfl (q_nil ?_)))))))
    exact hK (k + 1, u') _ _ (by simp only; omega) (by simp only; omega) ⟨rfl, rfl, rfl, rfl, trivial⟩ (by dsimp only; rw [iota_succ]; repeat constructor)
  · obtain rfl : k = st.length := by omega
    clear hc hK hk
    refine q_fact (fun w hs => hs.slice2 (v := u) (by repeat constructor)) ?_
    rintro ⟨ua, uc, rfl⟩
    (refine q_exit _ rfl (q_seq (q_region (ql_pure tabOk rfl rfl (ql_pure tabOk rfl rfl ?_)))))
    refine ql_makeI slI rfl rfl rfl (by omega) (fun b5 => ?_)
    (refine ql_pure tabOk rfl rfl (q_nil (q_seq (q_region (ql_pure tabOk rfl rfl (ql_pure tabOk rfl rfl ?_))))))
    refine ql_copyR (et := 3) (news := ints (iotaL st.length)) (sz := 1) (o := 0) (by kernel_rfl) (by kernel_rfl) rfl rfl rfl (by repeat constructor) (by simp [ints, iota_len]) (by simp [ints, oneV]) (fun w hs => ⟨_, _, RdI.row' (hs.rdI (v := .slice ua st.length uc) (l := iotaL st.length) (by repeat constructor) (iota_len _).symm)⟩) ?_
    have ec : List.take 0 (ints (List.replicate st.length 0)) ++ ints (iotaL st.length) ++ List.drop (0 + (ints (iotaL st.length)).length) (ints (List.replicate st.length 0)) = ints (iotaL st.length) := by
      rw [List.take_zero, List.nil_append, List.drop_of_length_le (by simp [ints, iota_len]), List.append_nil]
    rw [ec]
    refine ql_conv (H' := [.ow (.slice (some ⟨b5, 0, none⟩) st.length st.length) 3 1 st.length (ints (iotaL st.length)), .ow (.slice ua st.length uc) 3 1 st.length (ints (iotaL st.length)), .pt b1 [.slice a st.length c] 26]) (fun w' hs => Sat.pt_ow (m := st.length) (by simp [ints, iota_len]) (by omega) hs) ?_
    (refine q_nil (q_seq (q_region (ql_pure tabOk rfl rfl (ql_pure tabOk rfl rfl ?_)))))
    refine ql_call (β := List Int) (ψ := fun L v => v = .tuple #[] ∧ L.Perm (iotaL st.length) ∧ SrtK (stK st) L) (L' := fun L => [.ow (.slice (some ⟨b5, 0, none⟩) st.length st.length) 3 1 st.length (ints L)]) tabOk [.ow (.slice (some ⟨b5, 0, none⟩) st.length st.length) 3 1 st.length (ints (iotaL st.length))] _ (fun x => x = b5) rfl rfl rfl rfl (Sp.cons (by repeat constructor) (Sp.refl _)) (fun x hx => ⟨_, .head _, by subst hx; rfl⟩) (fun w' hs => by
      have hcmp : CmpAt w' b5 (.func (.func 144) #[] #[.pointer (some ⟨b1, 0, none⟩)]) (stK st) (iotaL st.length) := fun w2 hc2 x hx y hy => by
        have hx2 := iota_mem.1 hx
        have hy2 := iota_mem.1 hy
        have hc3 : ChgP (DL [Ck.ow (.slice (some ⟨b5, 0, none⟩) st.length st.length) 3 1 st.length (ints (iotaL st.length))]) w' w2 := (ChgP.refl _ w').upP hc2 fun k hk => .inl ⟨_, .head _, by subst hk; rfl⟩
        have hb1 : Blk w2 b1 [.slice a st.length c] 26 := hs.aside hc3 (x := .pt b1 [.slice a st.length c] 26) (by repeat constructor)
        have hc4 := hs.asideOld hc3
        obtain ⟨i, rfl⟩ := Int.eq_ofNat_of_zero_le hx2.1
        obtain ⟨j, rfl⟩ := Int.eq_ofNat_of_zero_le hy2.1
        exact CaF.of tabOk rfl (sorted1_ca w2 lo hi b1 _ _ st (RdE.keep h hc4) hb1 hs0.num i j (by omega) (by omega))
      have := sortF_ca w' b5 st.length (iotaL st.length) (stK st) (.func (.func 144) #[] #[.pointer (some ⟨b1, 0, none⟩)]) (by rw [iota_len]; omega) (by rw [iota_len]; omega) (SrI.start _) hcmp (by rw [iota_len]; exact hs.all _ (.head _))
      rw [iota_len] at this
      exact this) ?_
    rintro L _ ⟨rfl, hp, hso⟩
    have hL : L = softL st := ordK_eq hp hso
    subst hL
    dsimp only [List.cons_append, List.nil_append]
    (refine q_nil (q_seq (q_region (ql_pure tabOk rfl rfl (ql_pure tabOk rfl rfl (q_nil (q_ret ?_)))))))
    refine q_fin tabOk rfl (by repeat constructor) fun w hs => ?_
    exact ⟨(b5, st.length), rfl, hs.sp (by repeat constructor)⟩
end Go.Proofs.Ytcmpdmobmbbplaa

/- Walks: pairs of single skis. -/
namespace Go.Proofs.Ytcmpdmobmbbplaa
open Go Go.Eng

theorem sl2 : SlT Try.prog 147 193 2 16 (.agg #[.int .i64 0, .int .i64 0]) := ⟨by kernel_rfl, by kernel_rfl, by kernel_rfl, by decide⟩
theorem softL_len (st : List Int) : (softL st).length = st.length := ordK_len _ _
theorem soft_in {st : List Int} {i : Nat} (hi : i < (softL st).length) : 0 ≤ (softL st)[i] ∧ (softL st)[i] < st.length := ordK_mem.1 (List.getElem_mem hi)
theorem cost_step {st L : List Int} {k : Nat} (h : k + 1 < L.length) : costF st (L.drop k) = costF st (L.drop (k + 2)) + (st.getD (L[k + 1]).toNat 0 - st.getD (L[k]'(by omega)).toNat 0) := by
  rw [List.drop_eq_getElem_cons (i := k) (by omega), List.drop_eq_getElem_cons (i := k + 1) h]
  rfl
def tK23_8fecd85 : OT := chainT [1, 2, 3, 4, 5, 6, 7, 8, 9, 10, 11, 0, 12, 13] (.nil)
set_option maxHeartbeats 4000000 in
theorem match_ok (w : World) (lo hi : Nat) (v : Value) (st : List Int) (h : RdI w lo hi v st) (hs0 : SingOk st) : Ca Try.prog 78 [v] w fun x w' => ∃ u : Value, x = .tuple #[u, .int .i64 (costF st (softL st)), .int .i64 0] ∧ Sat w M0 [.ow u 193 2 (st.length / 2) (ints (softL st))] w' := by
  have hl1 := hs0.l1
  have hl2 := hs0.l2
  have hev := hs0.ev
  obtain ⟨a, c, rfl, ha⟩ := RdI.outI h
  obtain ⟨ab, ao, rfl⟩ := ha (by omega)
  refine q_of (Sat.nil w M0) Try.func78 rfl (by simp [Try.ntmps78]) ?_
  (refine q_seq (q_region ?_); (iterate 3 refine ql_pure tabOk rfl rfl ?_); refine q_nil (q_seq (q_seq (q_region (ql_pure tabOk rfl rfl ?_)))))
  refine ql_callv (val := .int .i64 0) tabOk rfl rfl rfl rfl (fun w hs => ?_) ?_; exact by have := singles_ca w lo hi _ st (RdE.keep h hs.chg0); rw [sing_iff.2 hs0] at this; exact this
  (refine ql_pure tabOk rfl rfl (q_nil (q_seq (q_region (ql_pure tabOk rfl rfl (ql_neqF tabOk rfl rfl rfl (by omega) (q_nil (q_cond_false rfl (q_skip (q_seq (q_region (ql_pure tabOk rfl rfl ?_))))))))))); refine q_nil (q_seq (q_region (ql_pure tabOk rfl rfl (q_nil (q_seq (q_region (ql_pure tabOk rfl rfl ?_))))))))
  refine ql_call (β := Nat × Nat) tabOk [] _ M0 rfl rfl rfl rfl (Sp.refl _) (fun _ h => h.elim) (fun w' hs => sorted_ca w' lo hi _ st (RdE.keep h hs.chg0) hs0) ?_
  rintro ⟨g, gc⟩ _ rfl
  dsimp only [List.cons_append, List.nil_append]
  have hLl := softL_len st
  have hin : ∀ i (hi : i < (softL st).length), 0 ≤ (softL st)[i] ∧ (softL st)[i] < st.length := fun i hi => soft_in hi
  generalize hL : softL st = L at *
  (refine ql_pure tabOk rfl rfl (q_nil (q_seq (q_seq (q_region (ql_pure tabOk rfl rfl (q_nil (q_block ?_))))))))
  refine q_conv (H' := [.ow (.slice none 0 0) 193 2 0 (ints (L.take (2 * 0))), .ow (.slice (some ⟨g, 0, none⟩) st.length gc) 3 1 st.length (ints L)]) (fun w' hs => by rw [Nat.mul_zero, List.take_zero]; exact Sat.ownil hs 193 2) ?_
  refine q_loop (σ := Nat × Value × Int) (fun y => 2 * y.1 ≤ st.length ∧ y.2.2 + costF st (L.drop (2 * y.1)) = costF st L ∧ -1000000 * (y.1 : Int) ≤ y.2.2 ∧ y.2.2 ≤ 1000000 * y.1) (fun y => st.length - 2 * y.1)
    (fun y => [(0, .slice (some ⟨ab, ao, none⟩) st.length c), (6, y.2.1), (7, .int .i64 y.2.2), (8, .slice (some ⟨g, 0, none⟩) st.length gc), (9, .int .i64 (2 * y.1 : Nat))])
    (fun y => [.ow y.2.1 193 2 y.1 (ints (L.take (2 * y.1))), .ow (.slice (some ⟨g, 0, none⟩) st.length gc) 3 1 st.length (ints L)]) (0, .slice none 0 0, 0) ⟨by simp only; omega, by simp, by simp, by simp⟩ ⟨rfl, rfl, rfl, rfl, rfl, trivial⟩ (by repeat constructor) ?_
  rintro ⟨k, u, cost⟩ ⟨hk, hcost, hc1, hc2⟩ K hK
  dsimp only at hk hcost hc1 hc2 ⊢
  (refine q_seq (q_seq (q_region ?_)); (iterate 4 refine ql_pure tabOk rfl rfl ?_); refine q_nil ?_)
  refine q_if rfl (fun hc => ?_) (fun hc => ?_)
  · have hk2 : 2 * k + 1 < L.length := by omega
    have hk3 : 2 * k < L.length := by omega
    clear hc
    have i1 := hin (2 * k) hk3
    have i2 := hin (2 * k + 1) hk2
    have hstep := cost_step (st := st) hk2
    have ht : L.take (2 * (k + 1)) = L.take (2 * k) ++ [L[2 * k], L[2 * k + 1]] := by
      rw [show 2 * (k + 1) = 2 * k + 1 + 1 from by omega, List.take_succ_eq_append_getElem hk2, List.take_succ_eq_append_getElem hk3, List.append_assoc]
      rfl
    obtain ⟨x, hx⟩ := Int.eq_ofNat_of_zero_le i1.1
    obtain ⟨y, hy⟩ := Int.eq_ofNat_of_zero_le i2.1
    rw [hx] at i1 ht hstep
    rw [hy] at i2 ht hstep
    rw [Int.toNat_natCast, Int.toNat_natCast, getD_get (by omega), getD_get (by omega)] at hstep
    have hx4 : x < st.length := by omega
    have hy4 : y < st.length := by omega
    have n1 := hs0.num _ (List.getElem_mem hx4)
    have n2 := hs0.num _ (List.getElem_mem hy4)
    have ex : ∀ w', Sat w M0 [.ow u 193 2 k (ints (L.take (2 * k))), .ow (.slice (some ⟨g, 0, none⟩) st.length gc) 3 1 st.length (ints L)] w' → True := fun _ _ => trivial
    (refine q_skip (q_seq (q_block (q_seq ?_))))
    refine q_cut (σ := Value) (fun u' => [(0, .slice (some ⟨ab, ao, none⟩) st.length c), (6, u'), (7, .int .i64 cost), (8, .slice (some ⟨g, 0, none⟩) st.length gc), (9, .int .i64 (2 * k : Nat))])
      (fun u' => [.ow u' 193 2 (k + 1) (ints (L.take (2 * (k + 1)))), .ow (.slice (some ⟨g, 0, none⟩) st.length gc) 3 1 st.length (ints L)]) ?_ ?_
    rotate_left
    · intro K2 hK2
      refine q_drawT (tK23_8fecd85) _ [.ow u 193 2 k (ints (L.take (2 * k)))] (Sp.cons (by repeat constructor) (Sp.refl _)) (by kernel_rfl) (by kernel_rfl) ?_
      refine qt_seg (by repeat (first | exact PickL.nil | (apply PickL.cons; rfl))) fun K1 hK1 => ?_
      (refine qf_pure tabOk rfl rfl rfl (qf_pure tabOk rfl rfl rfl ?_))
      refine qf_index tabOk rfl rfl rfl rfl rfl (by omega) (by omega) ?_
      refine qf_load1 (v := .int .i64 x) tabOk rfl rfl rfl (fun w hs => by rw [← hx]; exact RdI.at (hs.rdI (v := .slice (some ⟨g, 0, none⟩) st.length gc) (l := L) (t := 3) (n := st.length) (by repeat constructor) hLl.symm) (2 * k) hk3) ?_
      (refine qf_pure tabOk rfl rfl rfl (qf_pure tabOk rfl rfl rfl (qf_ar tabOk rfl rfl rfl rfl (by omega) (by omega) ?_)))
      refine qf_index tabOk rfl rfl rfl rfl rfl (by omega) (by omega) ?_
      refine qf_load1 (v := .int .i64 y) tabOk rfl rfl rfl (fun w hs => by rw [← hy, show ((2 * k : Nat) + 1 : Int).toNat = 2 * k + 1 from by omega]; exact RdI.at (hs.rdI (v := .slice (some ⟨g, 0, none⟩) st.length gc) (l := L) (t := 3) (n := st.length) (by repeat constructor) hLl.symm) (2 * k + 1) hk2) ?_
      refine qf_mk #[.int .i64 x, .int .i64 y] rfl (by kernel_rfl) rfl ?_
      skip
      refine qf_mkS 193 [.int .i64 x, .int .i64 y] rfl (by kernel_rfl) rfl (fun bn => ?_)
      (refine qf_pure tabOk rfl rfl rfl ?_)
      refine qf_append (q := 1) (news := [.int .i64 x, .int .i64 y]) sl2 rfl rfl rfl (fun v' => by repeat constructor) (fun w' hs => ⟨_, _, Blk.rdN (hs.blk (b := bn) (by repeat constructor)) rfl⟩) (by simp [oneV]) (by omega) (by omega) (fun u' => ?_)
      (refine qf_pure tabOk rfl rfl rfl (qf_nil ?_))
      exact hK1 _ _ (qt_nil (hK2 u' _ _ ⟨rfl, rfl, rfl, rfl, rfl, trivial⟩ (by rw [ht]; simp only [ints, List.map_append]; repeat constructor)))
    intro u'
    skip
    refine q_draw _ [] (Sp.refl _) (by kernel_rfl) (by kernel_rfl) ?_
    ((iterate 4 refine qf_pure tabOk rfl rfl rfl ?_); refine qf_ar tabOk rfl rfl rfl rfl (by omega) (by omega) ?_)
    refine qf_index tabOk rfl rfl rfl rfl rfl (by omega) (by omega) ?_
    refine qf_load1 (v := .int .i64 y) tabOk rfl rfl rfl (fun w hs => by rw [← hy, show ((2 * k : Nat) + 1 : Int).toNat = 2 * k + 1 from by omega]; exact RdI.at (hs.rdI (v := .slice (some ⟨g, 0, none⟩) st.length gc) (l := L) (t := 3) (n := st.length) (by repeat constructor) hLl.symm) (2 * k + 1) hk2) ?_
    skip
    refine qf_index tabOk rfl rfl rfl rfl rfl (by omega) (by omega) ?_
    refine qf_load1 (v := .int .i64 st[y]) tabOk rfl rfl rfl (fun w hs => RdI.at (RdE.keep h hs.chg0) y hy4) ?_
    ((iterate 3 refine qf_pure tabOk rfl rfl rfl ?_))
    refine qf_index tabOk rfl rfl rfl rfl rfl (by omega) (by omega) ?_
    refine qf_load1 (v := .int .i64 x) tabOk rfl rfl rfl (fun w hs => by rw [← hx]; exact RdI.at (hs.rdI (v := .slice (some ⟨g, 0, none⟩) st.length gc) (l := L) (t := 3) (n := st.length) (by repeat constructor) hLl.symm) (2 * k) hk3) ?_
    skip
    refine qf_index tabOk rfl rfl rfl rfl rfl (by omega) (by omega) ?_
    refine qf_load1 (v := .int .i64 st[x]) tabOk rfl rfl rfl (fun w hs => RdI.at (RdE.keep h hs.chg0) x hx4) ?_
    (refine qf_ar tabOk rfl rfl rfl rfl (by omega) (by omega) (qf_ar tabOk rfl rfl rfl rfl (by omega) (by omega) (qf_pure tabOk rfl rfl rfl (qf_nil (q_blk (q_region (ql_pure tabOk rfl rfl (ql_ar tabOk rfl rfl rfl rfl (by omega) (by omega) (ql_pure tabOk rfl rfl (q_nil ?_))))))))))
    exact hK (k + 1, u', cost + (st[y] - st[x])) _ _ ⟨by simp only; omega, by simp only; rw [show 2 * (k + 1) = 2 * k + 2 from by omega]; omega, by simp only; omega, by simp only; omega⟩ (by simp only; omega) ⟨rfl, rfl, rfl, rfl, lookI rfl (by simp only; omega), trivial⟩ (by repeat constructor)
  · have hk4 : 2 * k = L.length := by omega
    have hk5 : k = st.length / 2 := by omega
    rw [hk4, List.drop_length, show costF st [] = 0 from rfl, Int.add_zero] at hcost
    rw [hk4, List.take_length, hk5]
    clear hc
    (refine q_exit _ rfl (q_seq (q_region ?_)); (iterate 5 refine ql_pure tabOk rfl rfl ?_); refine q_nil (q_ret ?_))
    refine q_fin tabOk rfl (by repeat constructor) fun w hs => ?_
    exact ⟨u, by rw [← hcost]; rfl, hs.sp (by repeat constructor)⟩
end Go.Proofs.Ytcmpdmobmbbplaa

/- Walks: whether gaps show something. -/
namespace Go.Proofs.Ytcmpdmobmbbplaa
open Go Go.Eng

theorem gapsF_cons (st : List Int) (p : Option Int) (g : Int × Int) (l : List (Int × Int)) : gapsF st p (g :: l) = if gapBad st p g = true then none else (gapsF st (some g.2) l).map fun s => s + (g.2 - g.1) := rfl
theorem low_step' (st : List Int) (x : Int) (k : Nat) (hk : k < st.length) : lowC (st.take (k + 1)) x = lowC (st.take k) x + if st[k] ≤ x then 1 else 0 := by
  unfold lowC
  rw [List.take_succ_eq_append_getElem hk, List.countP_append, List.countP_singleton]
  simp
theorem high_step' (st : List Int) (x : Int) (k : Nat) (hk : k < st.length) : highC (st.take (k + 1)) x = highC (st.take k) x + if x ≤ st[k] then 1 else 0 := by
  unfold highC
  rw [List.take_succ_eq_append_getElem hk, List.countP_append, List.countP_singleton]
  simp
theorem gap_bd {st : List Int} (hs0 : SingOk st) {p : Option Int} {g : Int × Int} (h : gapBad st p g = false) : 0 ≤ g.1 ∧ g.1 < g.2 ∧ g.2 ≤ 100000 := by
  unfold gapBad at h
  simp only [Bool.or_eq_false_iff, decide_eq_false_iff_not] at h
  obtain ⟨h1, h2, h3, h4⟩ := h
  have hl : 0 < lowC st g.1 := by omega
  have hev := hs0.ev
  have hh : 0 < highC st g.2 := by omega
  obtain ⟨x, hx, h5⟩ := List.countP_pos_iff.1 hl
  obtain ⟨y, hy, h6⟩ := List.countP_pos_iff.1 hh
  have h7 := hs0.num x hx
  have h8 := hs0.num y hy
  have h5 : x ≤ g.1 := by simpa using h5
  have h6 : g.2 ≤ y := by simpa using h6
  omega
/-- The gap before the k-th one ends here. -/
def prevH (gs : List (Int × Int)) (k : Nat) : Option Int := if k = 0 then none else some (gs.getD (k - 1) (0, 0)).2
set_option maxHeartbeats 4000000 in
theorem gapsShow_ca (w : World) (lo hi lo2 hi2 : Nat) (v u : Value) (st : List Int) (gs : List (Int × Int)) (h : RdI w lo hi v st) (hu : RdS w lo2 hi2 u gs) (hg0 : gs.length ≤ 1000000) : Ca Try.prog 80 [v, u] w fun x w' => x = .tuple #[.int .i64 (gapsV st gs).1, .int .i64 (gapsV st gs).2] ∧ Chg [] w w' := by
  obtain ⟨a, c, rfl, ha⟩ := RdI.outI h
  obtain ⟨ga, gc, rfl, hga⟩ := RdS.outI hu
  refine q_of (Sat.nil w M0) Try.func80 rfl (by simp [Try.ntmps80]) ?_
  (refine q_seq (q_region (ql_pure tabOk rfl rfl (ql_pure tabOk rfl rfl (q_nil (q_seq (q_region (ql_pure tabOk rfl rfl ?_))))))))
  refine ql_callv (val := .int .i64 (singlesV st)) tabOk rfl rfl rfl rfl (fun w hs => ?_) ?_; exact singles_ca w lo hi _ st (RdE.keep h hs.chg0)
  by_cases he : singlesV st = 0
  · have hs0 := sing_iff.1 he
    have hl1 := hs0.l1
    have hl2 := hs0.l2
    obtain ⟨ab, ao, rfl⟩ := ha (by omega)
    by_cases hg : 16 < gs.length
    · (refine ql_pure tabOk rfl rfl (q_nil (q_seq (q_block (q_seq (q_region (ql_pure tabOk rfl rfl (ql_neqF tabOk rfl rfl rfl (by omega) (ql_pure tabOk rfl rfl (q_nil (q_cond_false rfl (q_seq ?_))))))))))); refine q_region (ql_pure tabOk rfl rfl (ql_pure tabOk rfl rfl (ql_gtrT tabOk rfl rfl rfl (by omega) (ql_pure tabOk rfl rfl (q_nil (q_cond_true rfl (q_seq (q_region (ql_pure tabOk rfl rfl (ql_pure tabOk rfl rfl (q_nil ?_))))))))))); refine q_ret ?_)
      refine q_fin tabOk rfl (by repeat constructor) fun w hs => ?_
      exact ⟨by unfold gapsV; rw [if_neg (by simpa using he), if_pos hg]; rfl, hs.chg0⟩
    · have hgv : gapsV st gs = match gapsF st none gs with | some s => (s, 0) | none => (0, 8) := by unfold gapsV; rw [if_neg (by simpa using he), if_neg hg] <;> rfl
      rw [hgv]
      (refine ql_pure tabOk rfl rfl (q_nil (q_seq (q_block (q_seq (q_region (ql_pure tabOk rfl rfl (ql_neqF tabOk rfl rfl rfl (by omega) (ql_pure tabOk rfl rfl (q_nil (q_cond_false rfl (q_seq ?_))))))))))); refine q_region (ql_pure tabOk rfl rfl (ql_pure tabOk rfl rfl (ql_gtrF tabOk rfl rfl rfl (by omega) (ql_pure tabOk rfl rfl (q_nil (q_cond_false rfl (q_skip (q_blk (q_seq (q_region (ql_pure tabOk rfl rfl ?_))))))))))); refine q_nil (q_seq (q_seq (q_region ?_))); (iterate 3 refine ql_pure tabOk rfl rfl ?_); refine q_nil (q_block ?_))
      refine q_loop (σ := Nat × Int) (fun y => y.1 ≤ gs.length ∧ gapsF st none gs = (gapsF st (prevH gs y.1) (gs.drop y.1)).map (fun s => s + y.2) ∧ 0 ≤ y.2 ∧ y.2 ≤ 100000 * y.1) (fun y => gs.length - y.1)
        (fun y => [(0, .slice (some ⟨ab, ao, none⟩) st.length c), (1, .slice ga gs.length gc), (7, .int .i64 y.2), (24, .slice ga gs.length gc), (25, .int .i64 gs.length), (26, .int .i64 y.1)]) (fun _ => []) (0, 0) ⟨by simp only; omega, by simp [prevH], by simp, by simp⟩ ⟨rfl, rfl, rfl, rfl, rfl, rfl, trivial⟩ (by repeat constructor) ?_
      rintro ⟨k, sum⟩ ⟨hk, hF, hs1, hs2⟩ K hK
      dsimp only at hk hF hs1 hs2 ⊢
      (refine q_seq (q_region (ql_pure tabOk rfl rfl (q_nil (q_seq ?_)))))
      refine q_if rfl (fun hc => ?_) (fun hc => ?_)
      · have hk2 : k < gs.length := by omega
        clear hc
        obtain ⟨gb, go, rfl⟩ := hga (by omega)
        (refine q_skip (q_seq (q_block (q_seq (q_region (ql_pure tabOk rfl rfl ?_))))))
        refine ql_index tabOk rfl rfl rfl rfl rfl (by omega) (by omega) ?_
        refine ql_loadA tabOk rfl rfl rfl rfl (fun w hs => RdS.at (RdE.keep hu hs.chg0) k hk2) ?_
        rw [List.drop_eq_getElem_cons hk2, gapsF_cons] at hF
        have hbd := gap_bd hs0 (p := prevH gs k) (g := gs[k])
        have hnext : prevH gs (k + 1) = some gs[k].2 := by
          unfold prevH
          rw [if_neg (by omega), Nat.add_sub_cancel, List.getD_eq_getElem?_getD, List.getElem?_eq_getElem hk2]
          rfl
        have hprev : 0 < k → prevH gs k = some (gs[k - 1]'(by omega)).2 := fun h => by
          unfold prevH
          rw [if_neg (by omega), List.getD_eq_getElem?_getD, List.getElem?_eq_getElem (show k - 1 < gs.length by omega)]
          rfl
        have hprev0 : k = 0 → prevH gs k = none := fun h => if_pos h
        generalize hgk : gs[k] = gk at *
        obtain ⟨gl, gh⟩ := gk
        dsimp only at *
        skip
        refine ql_alloc zero45 rfl (fun b9 => ?_)
        (refine ql_pure tabOk rfl rfl ?_; refine ql_setA tabOk rfl rfl rfl rfl rfl (by repeat constructor) rfl ?_; refine q_nil (q_seq (q_region (ql_pure tabOk rfl rfl (ql_pure tabOk rfl rfl (q_nil (q_seq (q_seq (q_region ?_)))))))); (iterate 3 refine ql_pure tabOk rfl rfl ?_); refine q_nil (q_block ?_))
        refine q_loop (σ := Nat) (fun y => y ≤ st.length) (fun y => st.length - y)
          (fun y => [(0, .slice (some ⟨ab, ao, none⟩) st.length c), (1, .slice (some ⟨gb, go, none⟩) gs.length gc), (7, .int .i64 sum), (8, .int .i64 k), (9, .pointer (some ⟨b9, 0, none⟩)), (10, .int .i64 (lowC (st.take y) gl)), (11, .int .i64 (highC (st.take y) gh)), (24, .slice (some ⟨gb, go, none⟩) gs.length gc), (25, .int .i64 gs.length), (26, .int .i64 k), (31, .slice (some ⟨ab, ao, none⟩) st.length c), (32, .int .i64 st.length), (33, .int .i64 y)])
          (fun _ => [.pt b9 [.int .i64 gl, .int .i64 gh] 45]) 0 (by omega) ⟨rfl, rfl, rfl, rfl, rfl, rfl, rfl, rfl, rfl, rfl, rfl, rfl, rfl, trivial⟩ (by repeat constructor) ?_
        rintro y hy K2 hK2
        have hlc : lowC (st.take y) gl ≤ y := by unfold lowC; exact Nat.le_trans List.countP_le_length (by rw [List.length_take]; omega)
        have hhc : highC (st.take y) gh ≤ y := by unfold highC; exact Nat.le_trans List.countP_le_length (by rw [List.length_take]; omega)
        (refine q_seq (q_region (ql_pure tabOk rfl rfl (q_nil (q_seq ?_)))))
        refine q_if rfl (fun hc => ?_) (fun hc => ?_)
        · have hy2 : y < st.length := by omega
          have l1 := low_step' st gl y hy2
          have l2 := high_step' st gh y hy2
          clear hc
          (refine q_skip (q_seq (q_block (q_seq (q_region ?_)))))
          refine ql_index tabOk rfl rfl rfl rfl rfl (by omega) (by omega) ?_
          refine ql_load1 (v := .int .i64 st[y]) tabOk rfl rfl rfl (fun w hs => RdI.at (RdE.keep h hs.chg0) y hy2) ?_
          by_cases c1 : st[y] ≤ gl
          · rw [if_pos c1] at l1
            by_cases c2 : gh ≤ st[y]
            · rw [if_pos c2] at l2
              (refine ql_pure tabOk rfl rfl (q_nil (q_seq (q_seq (q_region (ql_pure tabOk rfl rfl (ql_pure tabOk rfl rfl ?_)))))); refine ql_loadBa tabOk rfl rfl rfl ?_; refine ql_leqT tabOk rfl rfl rfl (by omega) (q_nil (q_cond_true rfl (q_region (ql_pure tabOk rfl rfl (ql_ar tabOk rfl rfl rfl rfl (by omega) (by omega) (ql_pure tabOk rfl rfl (q_nil (q_seq (q_region (ql_pure tabOk rfl rfl (ql_pure tabOk rfl rfl ?_))))))))))); refine ql_loadBa tabOk rfl rfl rfl ?_; refine ql_geqT tabOk rfl rfl rfl (by omega) (q_nil (q_cond_true rfl (q_region (ql_pure tabOk rfl rfl (ql_ar tabOk rfl rfl rfl rfl (by omega) (by omega) (ql_pure tabOk rfl rfl (q_nil (q_blk (q_region (ql_ar tabOk rfl rfl rfl rfl (by omega) (by omega) (ql_pure tabOk rfl rfl ?_))))))))))); refine q_nil ?_)
              exact hK2 (y + 1) _ _ (by omega) (by omega) ⟨rfl, rfl, rfl, rfl, rfl, (by refine lookI rfl ?_; omega), (by refine lookI rfl ?_; omega), rfl, rfl, rfl, rfl, rfl, rfl, trivial⟩ (by repeat constructor)
            · rw [if_neg c2] at l2
              (refine ql_pure tabOk rfl rfl (q_nil (q_seq (q_seq (q_region (ql_pure tabOk rfl rfl (ql_pure tabOk rfl rfl ?_)))))); refine ql_loadBa tabOk rfl rfl rfl ?_; refine ql_leqT tabOk rfl rfl rfl (by omega) (q_nil (q_cond_true rfl (q_region (ql_pure tabOk rfl rfl (ql_ar tabOk rfl rfl rfl rfl (by omega) (by omega) (ql_pure tabOk rfl rfl (q_nil (q_seq (q_region (ql_pure tabOk rfl rfl (ql_pure tabOk rfl rfl ?_))))))))))); refine ql_loadBa tabOk rfl rfl rfl ?_; refine ql_geqF tabOk rfl rfl rfl (by omega) (q_nil (q_cond_false rfl (q_skip (q_blk (q_region (ql_ar tabOk rfl rfl rfl rfl (by omega) (by omega) (ql_pure tabOk rfl rfl (q_nil ?_)))))))))
              exact hK2 (y + 1) _ _ (by omega) (by omega) ⟨rfl, rfl, rfl, rfl, rfl, (by refine lookI rfl ?_; omega), (by refine lookI rfl ?_; omega), rfl, rfl, rfl, rfl, rfl, rfl, trivial⟩ (by repeat constructor)
          · rw [if_neg c1] at l1
            by_cases c2 : gh ≤ st[y]
            · rw [if_pos c2] at l2
              (refine ql_pure tabOk rfl rfl (q_nil (q_seq (q_seq (q_region (ql_pure tabOk rfl rfl (ql_pure tabOk rfl rfl ?_)))))); refine ql_loadBa tabOk rfl rfl rfl ?_; refine ql_leqF tabOk rfl rfl rfl (by omega) (q_nil (q_cond_false rfl (q_skip (q_seq (q_region (ql_pure tabOk rfl rfl (ql_pure tabOk rfl rfl ?_))))))); refine ql_loadBa tabOk rfl rfl rfl ?_; refine ql_geqT tabOk rfl rfl rfl (by omega) (q_nil (q_cond_true rfl (q_region (ql_pure tabOk rfl rfl (ql_ar tabOk rfl rfl rfl rfl (by omega) (by omega) (ql_pure tabOk rfl rfl (q_nil (q_blk (q_region (ql_ar tabOk rfl rfl rfl rfl (by omega) (by omega) (ql_pure tabOk rfl rfl ?_))))))))))); refine q_nil ?_)
              exact hK2 (y + 1) _ _ (by omega) (by omega) ⟨rfl, rfl, rfl, rfl, rfl, (by refine lookI rfl ?_; omega), (by refine lookI rfl ?_; omega), rfl, rfl, rfl, rfl, rfl, rfl, trivial⟩ (by repeat constructor)
            · rw [if_neg c2] at l2
              (refine ql_pure tabOk rfl rfl (q_nil (q_seq (q_seq (q_region (ql_pure tabOk rfl rfl (ql_pure tabOk rfl rfl ?_)))))); refine ql_loadBa tabOk rfl rfl rfl ?_; refine ql_leqF tabOk rfl rfl rfl (by omega) (q_nil (q_cond_false rfl (q_skip (q_seq (q_region (ql_pure tabOk rfl rfl (ql_pure tabOk rfl rfl ?_))))))); refine ql_loadBa tabOk rfl rfl rfl ?_; refine ql_geqF tabOk rfl rfl rfl (by omega) (q_nil (q_cond_false rfl (q_skip (q_blk (q_region (ql_ar tabOk rfl rfl rfl rfl (by omega) (by omega) (ql_pure tabOk rfl rfl (q_nil ?_)))))))))
              exact hK2 (y + 1) _ _ (by omega) (by omega) ⟨rfl, rfl, rfl, rfl, rfl, (by refine lookI rfl ?_; omega), (by refine lookI rfl ?_; omega), rfl, rfl, rfl, rfl, rfl, rfl, trivial⟩ (by repeat constructor)
        · obtain rfl : y = st.length := by omega
          clear hc
          rw [List.take_length] at hlc hhc ⊢
          have hbad : gapBad st (prevH gs k) (gl, gh) = true → gapsF st none gs = none := fun h => by rw [hF, if_pos h]; rfl
          have hgood : gapBad st (prevH gs k) (gl, gh) = false → gapsF st none gs = (gapsF st (prevH gs (k + 1)) (gs.drop (k + 1))).map (fun s => s + (sum + (gh - gl))) := fun h => by
            rw [hF, if_neg (by rw [h]; simp), hnext, Option.map_map]
            congr 1
            funext s
            show s + (gh - gl) + sum = _
            omega
          by_cases h1 : gh ≤ gl
          · (refine q_exit _ rfl (q_seq (q_seq ?_)))
            refine q_draw _ [] (Sp.refl _) (by kernel_rfl) (by kernel_rfl) ?_
            (refine qf_pure tabOk rfl rfl rfl ?_; refine qf_loadBa tabOk rfl rfl rfl ?_; refine qf_pure tabOk rfl rfl rfl ?_; refine qf_loadBa tabOk rfl rfl rfl ?_; refine qf_geqT tabOk rfl rfl rfl (by omega) (qf_pure tabOk rfl rfl rfl ?_); (iterate 3 refine qf_gno rfl rfl rfl ?_); (iterate 9 refine qf_gnone rfl rfl ?_); refine qf_gno rfl rfl rfl (qf_pure tabOk rfl rfl rfl (qf_pure tabOk rfl rfl rfl ?_)); (iterate 3 refine qf_gno rfl rfl rfl ?_); refine qf_pure tabOk rfl rfl rfl (qf_pure tabOk rfl rfl rfl ?_); (iterate 6 refine qf_gno rfl rfl rfl ?_); refine qf_pure tabOk rfl rfl rfl (qf_nil (q_cond_true rfl (q_seq (q_region (ql_pure tabOk rfl rfl (ql_pure tabOk rfl rfl (q_nil (q_ret ?_)))))))))
            refine q_fin tabOk rfl (by repeat constructor) fun w hs => ?_
            exact ⟨by rw [hbad (by unfold gapBad; dsimp only; simp [*])]; rfl, hs.chg0⟩
          · by_cases hk0 : k = 0
            · have hp0 := hprev0 hk0
              by_cases h3 : lowC st gl % 2 = 0
              · (refine q_exit _ rfl (q_seq (q_seq ?_)))
                refine q_draw _ [] (Sp.refl _) (by kernel_rfl) (by kernel_rfl) ?_
                (refine qf_pure tabOk rfl rfl rfl ?_; refine qf_loadBa tabOk rfl rfl rfl ?_; refine qf_pure tabOk rfl rfl rfl ?_; refine qf_loadBa tabOk rfl rfl rfl ?_; refine qf_geqF tabOk rfl rfl rfl (by omega) (qf_pure tabOk rfl rfl rfl (qf_gyes rfl (qf_pure tabOk rfl rfl rfl (qf_gyes rfl (qf_gtrF tabOk rfl rfl rfl (by omega) (qf_gyes rfl (qf_pure tabOk rfl rfl rfl ?_))))))); (iterate 9 refine qf_gno rfl rfl rfl ?_); refine qf_gyes rfl ?_; (iterate 3 refine qf_pure tabOk rfl rfl rfl ?_); refine qf_gyes rfl (qf_pure tabOk rfl rfl rfl (qf_gyes rfl (qf_remN rfl rfl rfl (by omega) (by omega) (qf_gyes rfl (qf_eqlT tabOk rfl rfl rfl (by omega) (qf_pure tabOk rfl rfl rfl (qf_pure tabOk rfl rfl rfl ?_))))))); (iterate 6 refine qf_gno rfl rfl rfl ?_); refine qf_pure tabOk rfl rfl rfl (qf_nil (q_cond_true rfl (q_seq (q_region (ql_pure tabOk rfl rfl (ql_pure tabOk rfl rfl (q_nil (q_ret ?_)))))))))
                refine q_fin tabOk rfl (by repeat constructor) fun w hs => ?_
                exact ⟨by rw [hbad (by unfold gapBad; dsimp only; simp [*])]; rfl, hs.chg0⟩
              · by_cases h4 : lowC st gl + highC st gh = st.length
                · have hgd : gapBad st (prevH gs k) (gl, gh) = false := by unfold gapBad; rw [hp0]; dsimp only; simp [h1, h3, h4]
                  have hb2 := hbd hgd
                  (refine q_exit _ rfl (q_seq (q_seq ?_)))
                  refine q_draw _ [] (Sp.refl _) (by kernel_rfl) (by kernel_rfl) ?_
                  (refine qf_pure tabOk rfl rfl rfl ?_; refine qf_loadBa tabOk rfl rfl rfl ?_; refine qf_pure tabOk rfl rfl rfl ?_; refine qf_loadBa tabOk rfl rfl rfl ?_; refine qf_geqF tabOk rfl rfl rfl (by omega) (qf_pure tabOk rfl rfl rfl (qf_gyes rfl (qf_pure tabOk rfl rfl rfl (qf_gyes rfl (qf_gtrF tabOk rfl rfl rfl (by omega) (qf_gyes rfl (qf_pure tabOk rfl rfl rfl ?_))))))); (iterate 9 refine qf_gno rfl rfl rfl ?_); refine qf_gyes rfl ?_; (iterate 3 refine qf_pure tabOk rfl rfl rfl ?_); refine qf_gyes rfl (qf_pure tabOk rfl rfl rfl (qf_gyes rfl (qf_remN rfl rfl rfl (by omega) (by omega) (qf_gyes rfl (qf_eqlF tabOk rfl rfl rfl (by omega) (qf_pure tabOk rfl rfl rfl (qf_pure tabOk rfl rfl rfl (qf_gyes rfl (qf_pure tabOk rfl rfl rfl (qf_gyes rfl (qf_pure tabOk rfl rfl rfl ?_))))))))))); refine qf_gyes rfl (qf_ar tabOk rfl rfl rfl rfl (by omega) (by omega) (qf_gyes rfl (qf_pure tabOk rfl rfl rfl (qf_gyes rfl (qf_pure tabOk rfl rfl rfl (qf_gyes rfl (qf_neqF tabOk rfl rfl rfl (by omega) (qf_pure tabOk rfl rfl rfl (qf_nil (q_cond_false rfl (q_skip ?_))))))))))); refine q_region (ql_pure tabOk rfl rfl (ql_pure tabOk rfl rfl ?_)); refine ql_loadBa tabOk rfl rfl rfl ?_; refine ql_pure tabOk rfl rfl ?_; refine ql_loadBa tabOk rfl rfl rfl ?_; refine ql_ar tabOk rfl rfl rfl rfl (by omega) (by omega) (ql_ar tabOk rfl rfl rfl rfl (by omega) (by omega) (ql_pure tabOk rfl rfl (q_nil (q_blk (q_region (ql_ar tabOk rfl rfl rfl rfl (by omega) (by omega) (ql_pure tabOk rfl rfl (q_nil ?_)))))))))
                  exact hK (k + 1, sum + (gh - gl)) _ _ ⟨by simp only; omega, hgood hgd, by simp only; omega, by simp only; omega⟩ (by simp only; omega) ⟨rfl, rfl, rfl, rfl, rfl, rfl, trivial⟩ (by repeat constructor)
                · (refine q_exit _ rfl (q_seq (q_seq ?_)))
                  refine q_draw _ [] (Sp.refl _) (by kernel_rfl) (by kernel_rfl) ?_
                  (refine qf_pure tabOk rfl rfl rfl ?_; refine qf_loadBa tabOk rfl rfl rfl ?_; refine qf_pure tabOk rfl rfl rfl ?_; refine qf_loadBa tabOk rfl rfl rfl ?_; refine qf_geqF tabOk rfl rfl rfl (by omega) (qf_pure tabOk rfl rfl rfl (qf_gyes rfl (qf_pure tabOk rfl rfl rfl (qf_gyes rfl (qf_gtrF tabOk rfl rfl rfl (by omega) (qf_gyes rfl (qf_pure tabOk rfl rfl rfl ?_))))))); (iterate 9 refine qf_gno rfl rfl rfl ?_); refine qf_gyes rfl ?_; (iterate 3 refine qf_pure tabOk rfl rfl rfl ?_); refine qf_gyes rfl (qf_pure tabOk rfl rfl rfl (qf_gyes rfl (qf_remN rfl rfl rfl (by omega) (by omega) (qf_gyes rfl (qf_eqlF tabOk rfl rfl rfl (by omega) (qf_pure tabOk rfl rfl rfl (qf_pure tabOk rfl rfl rfl (qf_gyes rfl (qf_pure tabOk rfl rfl rfl (qf_gyes rfl (qf_pure tabOk rfl rfl rfl ?_))))))))))); refine qf_gyes rfl (qf_ar tabOk rfl rfl rfl rfl (by omega) (by omega) (qf_gyes rfl (qf_pure tabOk rfl rfl rfl (qf_gyes rfl (qf_pure tabOk rfl rfl rfl (qf_gyes rfl (qf_neqT tabOk rfl rfl rfl (by omega) (qf_pure tabOk rfl rfl rfl (qf_nil (q_cond_true rfl (q_seq ?_))))))))))); refine q_region (ql_pure tabOk rfl rfl (ql_pure tabOk rfl rfl (q_nil (q_ret ?_)))))
                  refine q_fin tabOk rfl (by repeat constructor) fun w hs => ?_
                  exact ⟨by rw [hbad (by unfold gapBad; dsimp only; simp [*])]; rfl, hs.chg0⟩
            · have hp0 := hprev (by omega)
              have hk3 : k - 1 < gs.length := by omega
              have ek : ((k : Int) - 1).toNat = k - 1 := by omega
              generalize hgp : gs[k - 1] = gp at *
              obtain ⟨gp1, gp2⟩ := gp
              dsimp only at *
              (refine q_exit _ rfl (q_seq (q_seq ?_)))
              refine q_draw _ [] (Sp.refl _) (by kernel_rfl) (by kernel_rfl) ?_
              (refine qf_pure tabOk rfl rfl rfl ?_; refine qf_loadBa tabOk rfl rfl rfl ?_; refine qf_pure tabOk rfl rfl rfl ?_; refine qf_loadBa tabOk rfl rfl rfl ?_; refine qf_geqF tabOk rfl rfl rfl (by omega) (qf_pure tabOk rfl rfl rfl (qf_gyes rfl (qf_pure tabOk rfl rfl rfl (qf_gyes rfl (qf_gtrT tabOk rfl rfl rfl (by omega) (qf_gyes rfl (qf_pure tabOk rfl rfl rfl (qf_gyes rfl (qf_pure tabOk rfl rfl rfl (qf_gyes rfl ?_)))))))))); refine qf_loadBa tabOk rfl rfl rfl ?_; refine qf_gyes rfl (qf_pure tabOk rfl rfl rfl (qf_gyes rfl (qf_pure tabOk rfl rfl rfl (qf_gyes rfl (qf_ar tabOk rfl rfl rfl rfl (by omega) (by omega) (qf_gyes rfl ?_)))))))
              refine qf_index tabOk rfl rfl rfl rfl rfl (by omega) (by omega) ?_
              (refine qf_gyes rfl (qf_pure tabOk rfl rfl rfl (qf_gyes rfl ?_)))
              refine qf_load1 (v := .int .i64 gp2) tabOk rfl rfl rfl (fun w hs => by
                rw [ek]
                have := RdS.at1 (RdE.keep hu hs.chg0) (k - 1) hk3
                rw [hgp] at this
                exact this) ?_
              by_cases h2 : gl < gp2
              · (refine qf_gyes rfl (qf_lssT tabOk rfl rfl rfl (by omega) (qf_gyes rfl ?_)); (iterate 3 refine qf_pure tabOk rfl rfl rfl ?_); (iterate 3 refine qf_gno rfl rfl rfl ?_); refine qf_pure tabOk rfl rfl rfl (qf_pure tabOk rfl rfl rfl ?_); (iterate 6 refine qf_gno rfl rfl rfl ?_); refine qf_pure tabOk rfl rfl rfl (qf_nil (q_cond_true rfl (q_seq (q_region (ql_pure tabOk rfl rfl (ql_pure tabOk rfl rfl (q_nil (q_ret ?_)))))))))
                refine q_fin tabOk rfl (by repeat constructor) fun w hs => ?_
                exact ⟨by rw [hbad (by unfold gapBad; dsimp only; simp [*])]; rfl, hs.chg0⟩
              · by_cases h3 : lowC st gl % 2 = 0
                · (refine qf_gyes rfl (qf_lssF tabOk rfl rfl rfl (by omega) (qf_gyes rfl ?_)); (iterate 3 refine qf_pure tabOk rfl rfl rfl ?_); refine qf_gyes rfl (qf_pure tabOk rfl rfl rfl (qf_gyes rfl (qf_remN rfl rfl rfl (by omega) (by omega) (qf_gyes rfl (qf_eqlT tabOk rfl rfl rfl (by omega) (qf_pure tabOk rfl rfl rfl (qf_pure tabOk rfl rfl rfl ?_))))))); (iterate 6 refine qf_gno rfl rfl rfl ?_); refine qf_pure tabOk rfl rfl rfl (qf_nil (q_cond_true rfl (q_seq (q_region (ql_pure tabOk rfl rfl (ql_pure tabOk rfl rfl (q_nil (q_ret ?_)))))))))
                  refine q_fin tabOk rfl (by repeat constructor) fun w hs => ?_
                  exact ⟨by rw [hbad (by unfold gapBad; dsimp only; simp [*])]; rfl, hs.chg0⟩
                · by_cases h4 : lowC st gl + highC st gh = st.length
                  · have hgd : gapBad st (prevH gs k) (gl, gh) = false := by unfold gapBad; dsimp only; simp [*]
                    have hb2 := hbd hgd
                    (refine qf_gyes rfl (qf_lssF tabOk rfl rfl rfl (by omega) (qf_gyes rfl ?_)); (iterate 3 refine qf_pure tabOk rfl rfl rfl ?_); refine qf_gyes rfl (qf_pure tabOk rfl rfl rfl (qf_gyes rfl (qf_remN rfl rfl rfl (by omega) (by omega) (qf_gyes rfl (qf_eqlF tabOk rfl rfl rfl (by omega) (qf_pure tabOk rfl rfl rfl (qf_pure tabOk rfl rfl rfl (qf_gyes rfl (qf_pure tabOk rfl rfl rfl (qf_gyes rfl (qf_pure tabOk rfl rfl rfl ?_))))))))))); refine qf_gyes rfl (qf_ar tabOk rfl rfl rfl rfl (by omega) (by omega) (qf_gyes rfl (qf_pure tabOk rfl rfl rfl (qf_gyes rfl (qf_pure tabOk rfl rfl rfl (qf_gyes rfl (qf_neqF tabOk rfl rfl rfl (by omega) (qf_pure tabOk rfl rfl rfl (qf_nil (q_cond_false rfl (q_skip ?_))))))))))); refine q_region (ql_pure tabOk rfl rfl (ql_pure tabOk rfl rfl ?_)); refine ql_loadBa tabOk rfl rfl rfl ?_; refine ql_pure tabOk rfl rfl ?_; refine ql_loadBa tabOk rfl rfl rfl ?_; refine ql_ar tabOk rfl rfl rfl rfl (by omega) (by omega) (ql_ar tabOk rfl rfl rfl rfl (by omega) (by omega) (ql_pure tabOk rfl rfl (q_nil (q_blk (q_region (ql_ar tabOk rfl rfl rfl rfl (by omega) (by omega) (ql_pure tabOk rfl rfl (q_nil ?_)))))))))
                    exact hK (k + 1, sum + (gh - gl)) _ _ ⟨by simp only; omega, hgood hgd, by simp only; omega, by simp only; omega⟩ (by simp only; omega) ⟨rfl, rfl, rfl, rfl, rfl, rfl, trivial⟩ (by repeat constructor)
                  · (refine qf_gyes rfl (qf_lssF tabOk rfl rfl rfl (by omega) (qf_gyes rfl ?_)); (iterate 3 refine qf_pure tabOk rfl rfl rfl ?_); refine qf_gyes rfl (qf_pure tabOk rfl rfl rfl (qf_gyes rfl (qf_remN rfl rfl rfl (by omega) (by omega) (qf_gyes rfl (qf_eqlF tabOk rfl rfl rfl (by omega) (qf_pure tabOk rfl rfl rfl (qf_pure tabOk rfl rfl rfl (qf_gyes rfl (qf_pure tabOk rfl rfl rfl (qf_gyes rfl (qf_pure tabOk rfl rfl rfl ?_))))))))))); refine qf_gyes rfl (qf_ar tabOk rfl rfl rfl rfl (by omega) (by omega) (qf_gyes rfl (qf_pure tabOk rfl rfl rfl (qf_gyes rfl (qf_pure tabOk rfl rfl rfl (qf_gyes rfl (qf_neqT tabOk rfl rfl rfl (by omega) (qf_pure tabOk rfl rfl rfl (qf_nil (q_cond_true rfl (q_seq ?_))))))))))); refine q_region (ql_pure tabOk rfl rfl (ql_pure tabOk rfl rfl (q_nil (q_ret ?_)))))
                    refine q_fin tabOk rfl (by repeat constructor) fun w hs => ?_
                    exact ⟨by rw [hbad (by unfold gapBad; dsimp only; simp [*])]; rfl, hs.chg0⟩
      · obtain rfl : k = gs.length := by omega
        rw [List.drop_length] at hF
        have e : gapsF st none gs = some sum := by rw [hF]; show some (0 + sum) = _; rw [Int.zero_add]
        rw [e]
        (refine q_exit _ rfl (q_seq (q_region ?_)); (iterate 3 refine ql_pure tabOk rfl rfl ?_); refine q_nil (q_ret ?_))
        refine q_fin tabOk rfl (by repeat constructor) fun w hs => ?_
        exact ⟨rfl, hs.chg0⟩
  · (refine ql_pure tabOk rfl rfl (q_nil (q_seq (q_block (q_seq (q_region (ql_pure tabOk rfl rfl (ql_neqT tabOk rfl rfl rfl (by omega) (ql_pure tabOk rfl rfl (q_nil (q_cond_true rfl (q_seq ?_))))))))))); refine q_region ?_; (iterate 3 refine ql_pure tabOk rfl rfl ?_); refine q_nil (q_ret ?_))
    refine q_fin tabOk rfl (by repeat constructor) fun w hs => ?_
    exact ⟨by unfold gapsV; rw [if_pos he]; rfl, hs.chg0⟩
end Go.Proofs.Ytcmpdmobmbbplaa

/- Walks: lists compared. -/
namespace Go.Proofs.Ytcmpdmobmbbplaa
open Go Go.Eng

def eqIB (a b : List Int) : Bool := decide (a = b) && true
theorem spn_flat : flatB Try.prog 45 [some .i64, some .i64] = true := by kernel_rfl
set_option maxHeartbeats 1000000 in
theorem eqS_ca (w : World) (lo hi lo2 hi2 : Nat) (v u : Value) (l : List (Int × Int)) (h1 : RdS w lo hi v l) (h2 : RdS w lo2 hi2 u l) (hlen : l.length ≤ 1000000) :
    Ca Try.prog 17 [v, u] w fun r w' => r = .bool true ∧ Chg [] w w' := by
  obtain ⟨a, ca, rfl, hsa⟩ := RdS.outI h1
  obtain ⟨b, cb, rfl, hsb⟩ := RdS.outI h2
  refine q_of (Sat.nil w M0) Try.func17 rfl (by simp [Try.ntmps17]) ?_
  (refine q_seq (q_region (ql_pure tabOk rfl rfl (q_nil (q_seq (q_seq (q_region ?_)))))); (iterate 4 refine ql_pure tabOk rfl rfl ?_); refine ql_neqF tabOk rfl rfl rfl (by omega) (q_nil (q_cond_false rfl (q_skip (q_seq (q_seq (q_region ?_)))))); (iterate 3 refine ql_pure tabOk rfl rfl ?_); refine q_nil (q_block ?_))
  refine q_loop (σ := Nat) (fun s => s ≤ l.length) (fun s => l.length - s) (fun s => [(0, .slice a l.length ca), (1, .slice b l.length cb), (12, .int .i64 l.length), (13, .int .i64 s)]) (fun _ => []) 0 (by omega) ⟨rfl, rfl, rfl, rfl, trivial⟩ (by repeat constructor) ?_
  intro i hi K hK
  (refine q_seq (q_region (ql_pure tabOk rfl rfl (q_nil (q_seq ?_)))))
  refine q_if rfl (fun hc => ?_) (fun hc => ?_)
  · have hi2 : i < l.length := by omega
    clear hc
    obtain ⟨ba, oa, rfl⟩ := hsa (by omega)
    obtain ⟨bb, ob, rfl⟩ := hsb (by omega)
    (refine q_skip (q_seq (q_block (q_seq (q_region (ql_pure tabOk rfl rfl (ql_pure tabOk rfl rfl (q_nil (q_seq ?_)))))))))
    refine q_draw _ [] (Sp.refl _) (by kernel_rfl) (by kernel_rfl) ?_
    (refine qf_pure tabOk rfl rfl rfl (qf_pure tabOk rfl rfl rfl ?_))
    refine qf_index tabOk rfl rfl rfl rfl rfl (by omega) (by omega) ?_
    refine qf_loadA tabOk rfl rfl rfl rfl (fun w hs => RdS.at (RdE.keep h1 hs.chg0) i hi2) ?_
    (refine qf_pure tabOk rfl rfl rfl (qf_pure tabOk rfl rfl rfl ?_))
    refine qf_index tabOk rfl rfl rfl rfl rfl (by omega) (by omega) ?_
    refine qf_loadA tabOk rfl rfl rfl rfl (fun w hs => RdS.at (RdE.keep h2 hs.chg0) i hi2) ?_
    skip
    refine qf_neF [some .i64, some .i64] spn_flat rfl rfl rfl rfl rfl ?_
    rw [eqL_refl]
    (refine qf_nil (q_cond_false rfl (q_skip (q_blk (q_region (ql_ar tabOk rfl rfl rfl rfl (by omega) (by omega) (ql_pure tabOk rfl rfl (q_nil ?_))))))))
    exact hK (i + 1) _ _ (by omega) (by omega) ⟨rfl, rfl, rfl, rfl, trivial⟩ (by repeat constructor)
  · (refine q_exit _ rfl (q_seq (q_region (ql_pure tabOk rfl rfl (q_nil (q_ret ?_))))))
    refine q_fin tabOk rfl (by repeat constructor) fun w hs => ?_
    exact ⟨rfl, hs.chg0⟩

theorem zone_flat : flatB Try.prog 96 [some .i64, some .i64, some .i64] = true := by kernel_rfl
set_option maxHeartbeats 1000000 in
theorem eqZ_ca (w : World) (lo hi lo2 hi2 : Nat) (v u : Value) (l : List Rn) (h1 : RdR w lo hi v l) (h2 : RdR w lo2 hi2 u l) (hlen : l.length ≤ 1000000) :
    Ca Try.prog 81 [v, u] w fun r w' => r = .bool true ∧ Chg [] w w' := by
  obtain ⟨a, ca, rfl, hsa⟩ := RdR.outI h1
  obtain ⟨b, cb, rfl, hsb⟩ := RdR.outI h2
  refine q_of (Sat.nil w M0) Try.func81 rfl (by simp [Try.ntmps81]) ?_
  (refine q_seq (q_region (ql_pure tabOk rfl rfl (q_nil (q_seq (q_seq (q_region ?_)))))); (iterate 4 refine ql_pure tabOk rfl rfl ?_); refine ql_neqF tabOk rfl rfl rfl (by omega) (q_nil (q_cond_false rfl (q_skip (q_seq (q_seq (q_region ?_)))))); (iterate 3 refine ql_pure tabOk rfl rfl ?_); refine q_nil (q_block ?_))
  refine q_loop (σ := Nat) (fun s => s ≤ l.length) (fun s => l.length - s) (fun s => [(0, .slice a l.length ca), (1, .slice b l.length cb), (12, .int .i64 l.length), (13, .int .i64 s)]) (fun _ => []) 0 (by omega) ⟨rfl, rfl, rfl, rfl, trivial⟩ (by repeat constructor) ?_
  intro i hi K hK
  (refine q_seq (q_region (ql_pure tabOk rfl rfl (q_nil (q_seq ?_)))))
  refine q_if rfl (fun hc => ?_) (fun hc => ?_)
  · have hi2 : i < l.length := by omega
    clear hc
    obtain ⟨ba, oa, rfl⟩ := hsa (by omega)
    obtain ⟨bb, ob, rfl⟩ := hsb (by omega)
    (refine q_skip (q_seq (q_block (q_seq (q_region (ql_pure tabOk rfl rfl (ql_pure tabOk rfl rfl (q_nil (q_seq ?_)))))))))
    refine q_draw _ [] (Sp.refl _) (by kernel_rfl) (by kernel_rfl) ?_
    (refine qf_pure tabOk rfl rfl rfl (qf_pure tabOk rfl rfl rfl ?_))
    refine qf_index tabOk rfl rfl rfl rfl rfl (by omega) (by omega) ?_
    refine qf_loadA tabOk rfl rfl rfl rfl (fun w hs => RdR.at (RdE.keep h1 hs.chg0) i hi2) ?_
    (refine qf_pure tabOk rfl rfl rfl (qf_pure tabOk rfl rfl rfl ?_))
    refine qf_index tabOk rfl rfl rfl rfl rfl (by omega) (by omega) ?_
    refine qf_loadA tabOk rfl rfl rfl rfl (fun w hs => RdR.at (RdE.keep h2 hs.chg0) i hi2) ?_
    skip
    refine qf_neF [some .i64, some .i64, some .i64] zone_flat rfl rfl rfl rfl rfl ?_
    rw [eqL_refl]
    (refine qf_nil (q_cond_false rfl (q_skip (q_blk (q_region (ql_ar tabOk rfl rfl rfl rfl (by omega) (by omega) (ql_pure tabOk rfl rfl (q_nil ?_))))))))
    exact hK (i + 1) _ _ (by omega) (by omega) ⟨rfl, rfl, rfl, rfl, trivial⟩ (by repeat constructor)
  · (refine q_exit _ rfl (q_seq (q_region (ql_pure tabOk rfl rfl (q_nil (q_ret ?_))))))
    refine q_fin tabOk rfl (by repeat constructor) fun w hs => ?_
    exact ⟨rfl, hs.chg0⟩
end Go.Proofs.Ytcmpdmobmbbplaa

/- Walks: the examples of the chapter. -/
namespace Go.Proofs.Ytcmpdmobmbbplaa
open Go Go.Eng

theorem Blk.rdS' {w : World} {b c n : Nat} {l : List (Int × Int)} {t : TypeId} (h : Blk w b (spC l) t) (hn : n = l.length) : RdS w 0 w.heap.size (.slice (some ⟨b, 0, none⟩) n c) l := by
  subst hn
  exact RdS.of (Blk.rdN (sz := 2) h (spC_length l))
theorem Blk.rdR' {w : World} {b c n : Nat} {l : List Rn} {t : TypeId} (h : Blk w b (rnC l) t) (hn : n = l.length) : RdR w 0 w.heap.size (.slice (some ⟨b, 0, none⟩) n c) l := by
  subst hn
  exact RdR.of (Blk.rdN (sz := 3) h (rnC_length l))
theorem four_ca (w : World) : Ca Try.prog 76 [] w fun x w' => ∃ b : Nat, x = .agg (lbC fourL (.slice (some ⟨b, 0, none⟩) 4 4)).toArray ∧ Sat w M0 [.pt b (rnC fourL.runs) 33] w' := by
  refine q_of (Sat.nil w M0) Try.func76 rfl (by simp [Try.ntmps76]) ?_
  (refine q_seq (q_region ?_))
  refine ql_alloc zero25 rfl (fun b0 => ?_)
  (refine q_nil (q_seq (q_region ?_)))
  refine ql_mk #[.int .i64 0, .int .i64 1, .int .i64 8] rfl (by kernel_rfl) rfl ?_
  refine ql_mk #[.int .i64 1, .int .i64 2, .int .i64 3] rfl (by kernel_rfl) rfl ?_
  refine ql_mk #[.int .i64 2, .int .i64 1, .int .i64 (-9)] rfl (by kernel_rfl) rfl ?_
  refine ql_mk #[.int .i64 3, .int .i64 0, .int .i64 (-6)] rfl (by kernel_rfl) rfl ?_
  refine ql_mkS 33 (rnC fourL.runs) rfl (by kernel_rfl) rfl (fun b5 => ?_)
  refine ql_mk #[.int .i64 4, .int .i64 5, .slice (some ⟨b5, 0, none⟩) 4 4] rfl (by kernel_rfl) rfl ?_
  (refine ql_setA tabOk rfl rfl rfl rfl rfl (by repeat constructor) rfl ?_; refine q_nil (q_ret ?_))
  refine q_fin tabOk rfl (by repeat constructor) fun w hs => ?_
  exact ⟨b5, rfl, hs.sp (by repeat constructor)⟩
theorem three_ca (w : World) : Ca Try.prog 77 [] w fun x w' => ∃ y : Nat × Nat × Nat × Nat, x = .slice (some ⟨y.2.2.2, 0, none⟩) 3 3 ∧ Sat w M0 [.pt y.2.2.2 [.slice (some ⟨y.1, 0, none⟩) 4 4, .slice (some ⟨y.2.1, 0, none⟩) 4 4, .slice (some ⟨y.2.2.1, 0, none⟩) 4 4] 26, .pt y.2.2.1 (ints [9, 9, 2, 1]) 3, .pt y.2.1 (ints [6, 2, 3, 8]) 3, .pt y.1 (ints [5, 4, 9, 9]) 3] w' := by
  refine q_of (Sat.nil w M0) Try.func77 rfl (by simp [Try.ntmps77]) ?_
  (refine q_seq (q_region (ql_pure tabOk rfl rfl (q_nil (q_seq (q_region ?_))))))
  refine ql_mkS 3 (ints [5, 4, 9, 9]) rfl (by kernel_rfl) rfl (fun c1 => ?_)
  refine ql_mkS 3 (ints [6, 2, 3, 8]) rfl (by kernel_rfl) rfl (fun c2 => ?_)
  refine ql_mkS 3 (ints [9, 9, 2, 1]) rfl (by kernel_rfl) rfl (fun c3 => ?_)
  refine ql_mkS 26 [.slice (some ⟨c1, 0, none⟩) 4 4, .slice (some ⟨c2, 0, none⟩) 4 4, .slice (some ⟨c3, 0, none⟩) 4 4] rfl (by kernel_rfl) rfl (fun c4 => ?_)
  (refine ql_pure tabOk rfl rfl (q_nil (q_ret ?_)))
  refine q_fin tabOk rfl (by repeat constructor) fun w hs => ?_
  exact ⟨(c1, c2, c3, c4), rfl, hs.sp (by repeat constructor)⟩
theorem six_ca (w : World) : Ca Try.prog 79 [] w fun x w' => ∃ b : Nat, x = .slice (some ⟨b, 0, none⟩) 6 6 ∧ Sat w M0 [.pt b (ints sixL) 3] w' := by
  refine q_of (Sat.nil w M0) Try.func79 rfl (by simp [Try.ntmps79]) ?_
  (refine q_seq (q_region (ql_pure tabOk rfl rfl (q_nil (q_seq (q_region ?_))))))
  refine ql_mkS 3 (ints sixL) rfl (by kernel_rfl) rfl (fun c1 => ?_)
  (refine ql_pure tabOk rfl rfl (q_nil (q_ret ?_)))
  refine q_fin tabOk rfl (by repeat constructor) fun w hs => ?_
  exact ⟨c1, rfl, hs.sp (by repeat constructor)⟩
theorem span_ca (lo hi : Int) (w : World) : Ca Try.prog 28 [.int .i64 lo, .int .i64 hi] w fun x w' => x = rtV (lo, hi) ∧ Chg [] w w' := by
  refine q_of (Sat.nil w M0) Try.func28 rfl (by simp [Try.ntmps28]) ?_
  (refine q_seq (q_region ?_))
  refine ql_alloc zero45 rfl (fun b4 => ?_)
  (refine q_nil (q_seq (q_region (ql_pure tabOk rfl rfl (ql_pure tabOk rfl rfl ?_)))))
  refine ql_mk #[.int .i64 lo, .int .i64 hi] rfl (by kernel_rfl) rfl ?_
  (refine ql_setA tabOk rfl rfl rfl rfl rfl (by repeat constructor) rfl ?_; refine q_nil (q_ret ?_))
  refine q_fin tabOk rfl (by repeat constructor) fun w hs => ?_
  exact ⟨rfl, hs.chg0⟩
theorem blk_II {w : World} {c1 c2 c3 c4 : Nat} {t1 t2 t3 t4 : TypeId} {l1 l2 l3 : List Int} {n1 n2 n3 : Nat} (e1 : n1 = l1.length) (e2 : n2 = l2.length) (e3 : n3 = l3.length) (h1 : Blk w c1 (ints l1) t1) (h2 : Blk w c2 (ints l2) t2) (h3 : Blk w c3 (ints l3) t3)
    (h4 : Blk w c4 [.slice (some ⟨c1, 0, none⟩) n1 n1, .slice (some ⟨c2, 0, none⟩) n2 n2, .slice (some ⟨c3, 0, none⟩) n3 n3] t4) : RdII w 0 w.heap.size (.slice (some ⟨c4, 0, none⟩) 3 3) [l1, l2, l3] := by
  subst e1 e2 e3
  refine ⟨[.slice (some ⟨c1, 0, none⟩) l1.length l1.length, .slice (some ⟨c2, 0, none⟩) l2.length l2.length, .slice (some ⟨c3, 0, none⟩) l3.length l3.length], RdE.one (by have := Blk.rdN (c := 3) (sz := 1) (q := 3) h4 rfl; exact this) (by simp [oneV]), rfl, fun i hi hi' => ?_⟩
  obtain rfl | rfl | rfl : i = 0 ∨ i = 1 ∨ i = 2 := by simp at hi; omega
  · exact Blk.rdI h1
  · exact Blk.rdI h2
  · exact Blk.rdI h3
theorem aw_ok : fourL.Ok ∧ NoC fourL.ord fourL.n := agreed_iff.1 aw_check
theorem aw_plan : PlanOk fourL 4 := planned_iff.1 (by decide +kernel)
theorem aw_few2 : planO fourL.n 4 fourL.ord = 2 := by decide +kernel
theorem aw_n : fourL.n = 4 := by decide
theorem aw_ord2 : cnt fourL.ord fourL.n (2 ^ fourL.n - 1) = 3 := aw_orders
theorem aw_pl2 : plC fourL fourL.ord fourL.n = [(1, 1), (2, 3), (3, 4), (2, 4)] := aw_places
theorem aw_wax2 : bestV threeT 0 2 = (1, 1, 0) := by decide +kernel
theorem aw_lim : limitV threeT 1 = 0 := by decide +kernel
set_option maxHeartbeats 4000000 in
set_option maxRecDepth 4000 in
theorem awake_ca (w : World) : Ca Try.prog 18 [] w fun v w' => v = .bool true ∧ Chg [] w w' := by
  refine q_of (Sat.nil w M0) Try.func18 rfl (by simp [Try.ntmps18]) ?_
  have hF : ∀ w' b, Blk w' b (rnC fourL.runs) 33 → RdR w' 0 w'.heap.size (.slice (some ⟨b, 0, none⟩) 4 4) fourL.runs := fun w' b hb => Blk.rdR' hb rfl
  (refine q_seq (q_region (ql_pure tabOk rfl rfl (q_nil (q_seq (q_region ?_))))))
  refine ql_call (β := Nat) tabOk [] _ M0 rfl rfl rfl rfl (Sp.refl _) (fun _ h => h.elim) (fun w' hs => four_ca w') ?_
  rintro b1 _ rfl
  dsimp only [List.cons_append, List.nil_append]
  refine ql_call (β := Value) tabOk [] _ M0 rfl rfl rfl rfl (Sp.refl _) (fun _ h => h.elim) (fun w' hs => places_ok w' 0 w'.heap.size fourL _ (hF w' b1 (hs.blk (by repeat constructor))) aw_ok.1 aw_ok.2) ?_
  rintro va _ rfl
  rw [aw_pl2, aw_n]
  dsimp only [List.cons_append, List.nil_append]
  refine ql_fact (fun w hs => hs.ownSome (v := va) (by repeat constructor) (by decide)) ?_
  rintro ⟨a1, a2, rfl⟩
  (refine ql_pure tabOk rfl rfl (ql_ext tabOk rfl rfl rfl (ql_ext tabOk rfl rfl rfl (ql_pure tabOk rfl rfl (ql_pure tabOk rfl rfl (q_nil (q_seq (q_region ?_))))))))
  refine ql_call (β := Nat) tabOk [] _ M0 rfl rfl rfl rfl (Sp.refl _) (fun _ h => h.elim) (fun w' hs => four_ca w') ?_
  rintro b2 _ rfl
  dsimp only [List.cons_append, List.nil_append]
  refine ql_callv (val := .tuple #[.int .i64 3, .int .i64 0]) tabOk rfl rfl rfl rfl (fun w hs => ?_) ?_; exact by have := orders_ok w 0 w.heap.size fourL _ (hF w b2 (hs.blk (by repeat constructor))) aw_ok.1 aw_ok.2; rw [aw_ord2] at this; exact this
  (refine ql_pure tabOk rfl rfl (ql_ext tabOk rfl rfl rfl (ql_ext tabOk rfl rfl rfl (ql_pure tabOk rfl rfl (ql_pure tabOk rfl rfl (q_nil (q_seq (q_region ?_))))))))
  refine ql_call (β := Nat) tabOk [] _ M0 rfl rfl rfl rfl (Sp.refl _) (fun _ h => h.elim) (fun w' hs => four_ca w') ?_
  rintro b3 _ rfl
  dsimp only [List.cons_append, List.nil_append]
  refine ql_mkS 3 (ints [0, 2]) rfl (by kernel_rfl) rfl (fun c1 => ?_)
  refine ql_callv (val := .tuple #[.bool true, .int .i64 0]) tabOk rfl rfl rfl rfl (fun w hs => ?_) ?_; exact by have := chainShows_ca w 0 w.heap.size 0 w.heap.size fourL _ 0 2 _ [0, 2] (hF w b3 (hs.blk (by repeat constructor))) (by decide) (Blk.rdI (c := 2) (hs.blk (b := c1) (by repeat constructor))) (by decide); rw [aw_chain] at this; exact this
  (refine ql_pure tabOk rfl rfl (ql_ext tabOk rfl rfl rfl (ql_ext tabOk rfl rfl rfl (ql_pure tabOk rfl rfl (ql_pure tabOk rfl rfl (q_nil (q_seq (q_region ?_))))))))
  refine ql_call (β := Nat) tabOk [] _ M0 rfl rfl rfl rfl (Sp.refl _) (fun _ h => h.elim) (fun w' hs => four_ca w') ?_
  rintro b4 _ rfl
  dsimp only [List.cons_append, List.nil_append]
  refine ql_callv (val := .tuple #[.int .i64 2, .int .i64 0]) tabOk rfl rfl rfl rfl (fun w hs => ?_) ?_; exact by have := fewest_ok w 0 w.heap.size fourL _ 4 (hF w b4 (hs.blk (by repeat constructor))) aw_plan; rw [aw_few2] at this; exact this
  (refine ql_pure tabOk rfl rfl (ql_ext tabOk rfl rfl rfl (ql_ext tabOk rfl rfl rfl (ql_pure tabOk rfl rfl (ql_pure tabOk rfl rfl (q_nil (q_seq (q_seq (q_region (ql_pure tabOk rfl rfl (ql_neqF tabOk rfl rfl rfl (by omega) (ql_pure tabOk rfl rfl ?_))))))))))); refine ql_gyes rfl (ql_pure tabOk rfl rfl (ql_gyes rfl (ql_neqF tabOk rfl rfl rfl (by omega) (ql_pure tabOk rfl rfl (ql_pure tabOk rfl rfl (ql_gyes rfl (ql_pure tabOk rfl rfl (ql_gyes rfl (ql_neqF tabOk rfl rfl rfl (by omega) (ql_pure tabOk rfl rfl (ql_pure tabOk rfl rfl ?_))))))))))); refine ql_gyes rfl (ql_pure tabOk rfl rfl (ql_gyes rfl (ql_neqF tabOk rfl rfl rfl (by omega) (ql_pure tabOk rfl rfl (ql_pure tabOk rfl rfl (ql_gyes rfl (ql_pure tabOk rfl rfl (ql_gyes rfl ?_)))))))))
  refine ql_callv (val := rtV (1, 1)) tabOk rfl rfl rfl rfl (fun w hs => ?_) ?_; exact span_ca 1 1 w
  refine ql_gyes rfl ?_
  refine ql_callv (val := rtV (2, 3)) tabOk rfl rfl rfl rfl (fun w hs => ?_) ?_; exact span_ca 2 3 w
  refine ql_gyes rfl ?_
  refine ql_callv (val := rtV (3, 4)) tabOk rfl rfl rfl rfl (fun w hs => ?_) ?_; exact span_ca 3 4 w
  refine ql_gyes rfl ?_
  refine ql_callv (val := rtV (2, 4)) tabOk rfl rfl rfl rfl (fun w hs => ?_) ?_; exact span_ca 2 4 w
  refine ql_gyes rfl ?_
  refine ql_mkS 45 (spC [(1, 1), (2, 3), (3, 4), (2, 4)]) rfl (by kernel_rfl) rfl (fun c2 => ?_)
  refine ql_gyes rfl ?_
  refine ql_callv (val := .bool true) tabOk rfl rfl rfl rfl (fun w hs => ?_) ?_; exact eqS_ca w 0 w.heap.size 0 w.heap.size _ _ [(1, 1), (2, 3), (3, 4), (2, 4)] (own_rdS (t := 45) (hs.mem (c := .ow (.slice (some ⟨a1, 0, none⟩) 4 a2) 45 2 4 (spC [(1, 1), (2, 3), (3, 4), (2, 4)])) (by repeat constructor)) rfl) (Blk.rdS' (c := 4) (hs.blk (b := c2) (by repeat constructor)) rfl) (by decide)
  (refine ql_gyes rfl ?_; (iterate 3 refine ql_pure tabOk rfl rfl ?_); refine ql_gyes rfl (ql_pure tabOk rfl rfl (ql_gyes rfl (ql_neqF tabOk rfl rfl rfl (by omega) (ql_pure tabOk rfl rfl (ql_pure tabOk rfl rfl (ql_gyes rfl (ql_pure tabOk rfl rfl (ql_gyes rfl ?_)))))))); (iterate 3 refine ql_pure tabOk rfl rfl ?_); refine ql_gyes rfl (ql_pure tabOk rfl rfl (ql_gyes rfl (ql_neqF tabOk rfl rfl rfl (by omega) (ql_pure tabOk rfl rfl (q_nil (q_cond_false rfl (q_skip (q_seq (q_region ?_))))))))))
  have hT : ∀ w' x1 x2 x3 x4, Blk w' x4 [.slice (some ⟨x1, 0, none⟩) 4 4, .slice (some ⟨x2, 0, none⟩) 4 4, .slice (some ⟨x3, 0, none⟩) 4 4] 26 → Blk w' x3 (ints [9, 9, 2, 1]) 3 → Blk w' x2 (ints [6, 2, 3, 8]) 3 → Blk w' x1 (ints [5, 4, 9, 9]) 3 → RdII w' 0 w'.heap.size (.slice (some ⟨x4, 0, none⟩) 3 3) threeT := fun w' x1 x2 x3 x4 h4 h3 h2 h1 => blk_II (l1 := [5, 4, 9, 9]) (l2 := [6, 2, 3, 8]) (l3 := [9, 9, 2, 1]) rfl rfl rfl h1 h2 h3 h4
  refine ql_call (β := Nat × Nat × Nat × Nat) tabOk [] _ M0 rfl rfl rfl rfl (Sp.refl _) (fun _ h => h.elim) (fun w' hs => three_ca w') ?_
  rintro ⟨x1, x2, x3, x4⟩ _ rfl
  dsimp only [List.cons_append, List.nil_append]
  refine ql_callv (val := .tuple #[.int .i64 1, .int .i64 1, .int .i64 0]) tabOk rfl rfl rfl rfl (fun w hs => ?_) ?_; exact by have := wax_ca w 0 w.heap.size _ threeT 0 2 (hT w x1 x2 x3 x4 (hs.blk (by repeat constructor)) (hs.blk (by repeat constructor)) (hs.blk (by repeat constructor)) (hs.blk (by repeat constructor))); rw [aw_wax2] at this; exact this
  (refine ql_pure tabOk rfl rfl ?_; (iterate 3 refine ql_ext tabOk rfl rfl rfl ?_); (iterate 3 refine ql_pure tabOk rfl rfl ?_); refine q_nil (q_seq (q_region ?_)))
  refine ql_call (β := Nat × Nat × Nat × Nat) tabOk [] _ M0 rfl rfl rfl rfl (Sp.refl _) (fun _ h => h.elim) (fun w' hs => three_ca w') ?_
  rintro ⟨y1, y2, y3, y4⟩ _ rfl
  dsimp only [List.cons_append, List.nil_append]
  refine ql_call (β := Value) tabOk [] _ M0 rfl rfl rfl rfl (Sp.refl _) (fun _ h => h.elim) (fun w' hs => zones_ok w' 0 w'.heap.size _ threeT 1 (hT w' y1 y2 y3 y4 (hs.blk (by repeat constructor)) (hs.blk (by repeat constructor)) (hs.blk (by repeat constructor)) (hs.blk (by repeat constructor))) aw_lim) ?_
  rintro vz _ rfl
  rw [aw_zones]
  dsimp only [List.cons_append, List.nil_append, List.length_cons, List.length_nil]
  refine ql_fact (fun w hs => hs.ownSome (v := vz) (by repeat constructor) (by decide)) ?_
  rintro ⟨z1, z2, rfl⟩
  (refine ql_pure tabOk rfl rfl (ql_ext tabOk rfl rfl rfl (ql_ext tabOk rfl rfl rfl (ql_pure tabOk rfl rfl (ql_pure tabOk rfl rfl (q_nil (q_seq (q_region ?_))))))))
  refine ql_call (β := Nat × Nat × Nat × Nat) tabOk [] _ M0 rfl rfl rfl rfl (Sp.refl _) (fun _ h => h.elim) (fun w' hs => three_ca w') ?_
  rintro ⟨u1, u2, u3, u4⟩ _ rfl
  dsimp only [List.cons_append, List.nil_append]
  refine ql_mkS 3 (ints [0, 3]) rfl (by kernel_rfl) rfl (fun c3 => ?_)
  refine ql_callv (val := .tuple #[.bool true, .int .i64 0]) tabOk rfl rfl rfl rfl (fun w hs => ?_) ?_; exact by have := breaksShow_ca w 0 w.heap.size 0 w.heap.size _ _ threeT 1 [0, 3] (hT w u1 u2 u3 u4 (hs.blk (by repeat constructor)) (hs.blk (by repeat constructor)) (hs.blk (by repeat constructor)) (hs.blk (by repeat constructor))) (Blk.rdI (c := 2) (hs.blk (b := c3) (by repeat constructor))) (by decide); rw [aw_breaks] at this; exact this
  (refine ql_pure tabOk rfl rfl (ql_ext tabOk rfl rfl rfl (ql_ext tabOk rfl rfl rfl (ql_pure tabOk rfl rfl (ql_pure tabOk rfl rfl (q_nil (q_seq (q_region ?_))))))))
  refine ql_call (β := Nat) tabOk [] _ M0 rfl rfl rfl rfl (Sp.refl _) (fun _ h => h.elim) (fun w' hs => six_ca w') ?_
  rintro s1 _ rfl
  dsimp only [List.cons_append, List.nil_append]
  refine ql_call (β := Value) tabOk [] _ M0 rfl rfl rfl rfl (Sp.refl _) (fun _ h => h.elim) (fun w' hs => match_ok w' 0 w'.heap.size _ sixL (show RdI w' 0 w'.heap.size (.slice (some ⟨s1, 0, none⟩) 6 6) sixL from Blk.rdI (c := 6) (l := sixL) (hs.blk (b := s1) (by repeat constructor))) (sing_iff.1 aw_sing)) ?_
  rintro vm _ rfl
  rw [aw_cost]
  dsimp only [List.cons_append, List.nil_append]
  (refine ql_pure tabOk rfl rfl ?_; (iterate 3 refine ql_ext tabOk rfl rfl rfl ?_); (iterate 3 refine ql_pure tabOk rfl rfl ?_); refine q_nil (q_seq (q_region ?_)))
  refine ql_call (β := Nat) tabOk [] _ M0 rfl rfl rfl rfl (Sp.refl _) (fun _ h => h.elim) (fun w' hs => six_ca w') ?_
  rintro s2 _ rfl
  dsimp only [List.cons_append, List.nil_append]
  refine ql_callv (val := rtV (20, 23)) tabOk rfl rfl rfl rfl (fun w hs => ?_) ?_; exact span_ca 20 23 w
  refine ql_callv (val := rtV (38, 41)) tabOk rfl rfl rfl rfl (fun w hs => ?_) ?_; exact span_ca 38 41 w
  refine ql_callv (val := rtV (50, 60)) tabOk rfl rfl rfl rfl (fun w hs => ?_) ?_; exact span_ca 50 60 w
  refine ql_mkS 45 (spC [(20, 23), (38, 41), (50, 60)]) rfl (by kernel_rfl) rfl (fun c4 => ?_)
  refine ql_callv (val := .tuple #[.int .i64 16, .int .i64 0]) tabOk rfl rfl rfl rfl (fun w hs => ?_) ?_; exact by have := gapsShow_ca w 0 w.heap.size 0 w.heap.size _ _ sixL [(20, 23), (38, 41), (50, 60)] (show RdI w 0 w.heap.size (.slice (some ⟨s2, 0, none⟩) 6 6) sixL from Blk.rdI (c := 6) (l := sixL) (hs.blk (b := s2) (by repeat constructor))) (Blk.rdS' (c := 3) (hs.blk (b := c4) (by repeat constructor)) rfl) (by decide); rw [aw_gaps] at this; exact this
  (refine ql_pure tabOk rfl rfl (ql_ext tabOk rfl rfl rfl (ql_ext tabOk rfl rfl rfl (ql_pure tabOk rfl rfl (ql_pure tabOk rfl rfl (q_nil (q_seq (q_region (ql_pure tabOk rfl rfl (ql_eqlT tabOk rfl rfl rfl (by omega) (ql_pure tabOk rfl rfl (ql_gyes rfl ?_))))))))))); refine ql_pure tabOk rfl rfl (ql_gyes rfl (ql_eqlT tabOk rfl rfl rfl (by omega) (ql_pure tabOk rfl rfl (ql_pure tabOk rfl rfl (ql_gyes rfl (ql_pure tabOk rfl rfl (ql_gyes rfl (ql_eqlT tabOk rfl rfl rfl (by omega) (ql_pure tabOk rfl rfl (ql_pure tabOk rfl rfl (ql_gyes rfl ?_))))))))))); refine ql_pure tabOk rfl rfl (ql_gyes rfl (ql_eqlT tabOk rfl rfl rfl (by omega) (ql_pure tabOk rfl rfl (ql_pure tabOk rfl rfl (ql_gyes rfl (ql_pure tabOk rfl rfl (ql_gyes rfl (ql_eqlT tabOk rfl rfl rfl (by omega) (ql_pure tabOk rfl rfl (ql_pure tabOk rfl rfl (ql_gyes rfl ?_))))))))))); refine ql_pure tabOk rfl rfl (ql_gyes rfl (ql_eqlT tabOk rfl rfl rfl (by omega) (ql_pure tabOk rfl rfl (ql_pure tabOk rfl rfl (ql_gyes rfl (ql_pure tabOk rfl rfl (ql_gyes rfl (ql_eqlT tabOk rfl rfl rfl (by omega) (ql_pure tabOk rfl rfl (ql_pure tabOk rfl rfl (ql_gyes rfl ?_))))))))))); refine ql_pure tabOk rfl rfl (ql_gyes rfl ?_))
  refine ql_mk #[.int .i64 0, .int .i64 2, .int .i64 1] rfl (by kernel_rfl) rfl ?_
  refine ql_gyes rfl ?_
  refine ql_mk #[.int .i64 3, .int .i64 3, .int .i64 2] rfl (by kernel_rfl) rfl ?_
  refine ql_gyes rfl ?_
  refine ql_mkS 96 (rnC [⟨0, 2, 1⟩, ⟨3, 3, 2⟩]) rfl (by kernel_rfl) rfl (fun c5 => ?_)
  refine ql_gyes rfl ?_
  refine ql_callv (val := .bool true) tabOk rfl rfl rfl rfl (fun w hs => ?_) ?_; exact eqZ_ca w 0 w.heap.size 0 w.heap.size _ _ [⟨0, 2, 1⟩, ⟨3, 3, 2⟩] (own_rdR (t := 96) (hs.mem (c := .ow (.slice (some ⟨z1, 0, none⟩) 2 z2) 96 3 2 (rnC [⟨0, 2, 1⟩, ⟨3, 3, 2⟩])) (by repeat constructor)) rfl) (Blk.rdR' (c := 2) (hs.blk (b := c5) (by repeat constructor)) rfl) (by decide)
  (refine ql_pure tabOk rfl rfl (ql_pure tabOk rfl rfl (ql_gyes rfl ?_)); (iterate 3 refine ql_pure tabOk rfl rfl ?_); refine ql_gyes rfl (ql_pure tabOk rfl rfl (ql_gyes rfl (ql_eqlT tabOk rfl rfl rfl (by omega) (ql_pure tabOk rfl rfl (ql_pure tabOk rfl rfl (ql_gyes rfl (ql_pure tabOk rfl rfl (ql_gyes rfl (ql_pure tabOk rfl rfl (ql_gyes rfl (ql_eqlT tabOk rfl rfl rfl (by omega) ?_))))))))))); refine ql_pure tabOk rfl rfl (ql_pure tabOk rfl rfl (q_nil (q_ret ?_))))
  refine q_fin tabOk rfl (by repeat constructor) fun w hs => ?_
  exact ⟨rfl, hs.chg0⟩
end Go.Proofs.Ytcmpdmobmbbplaa

/- Walks: klisterkit's deck. Only the ranges of what it deals are told. -/
namespace Go.Proofs.Ytcmpdmobmbbplaa
open Go Go.Eng

section
attribute [local irreducible] IntKind.wrap Int.tmod Int.tdiv

/-- The deck's own variable, after at most K cards. -/
def DkS (w : World) (b : Nat) (bs : Value) (K : Nat) : Prop :=
  ∃ next st, Blk w b [bs, .int .i64 next, .int .u32 st] 127 ∧ 0 ≤ next ∧ next ≤ K ∧ 0 ≤ st ∧ st < 4294967296
/-- Its bytes. -/
def DkB (w : World) (lo hi : Nat) (bs : Value) : Prop := ∃ nb cs, Rd w lo hi bs 1 nb cs ∧ (∀ c ∈ cs, ∃ x, c = .int .u8 x ∧ 0 ≤ x ∧ x < 256)
theorem DkB.keep {w w' : World} {lo hi : Nat} {bs : Value} (h : DkB w lo hi bs) (c : Chg [] w w') : DkB w' lo hi bs := by
  obtain ⟨nb, cs, h1, h2⟩ := h
  exact ⟨nb, cs, h1.keep c, h2⟩

set_option maxHeartbeats 1000000 in
theorem draw_ca (n : Int) (K : Nat) (hK : K < 4611686018427387904) (w : World) (b lo hi : Nat) (bs : Value) (hby : DkB w lo hi bs) (hlh : hi ≤ b) (hd : DkS w b bs K) :
    Ca Try.prog 69 [.pointer (some ⟨b, 0, none⟩), .int .i64 n] w fun v w' => ∃ r, v = .int .i64 r ∧ 0 ≤ r ∧ (r < n ∨ r = 0) ∧ Chg [b] w w' ∧ w'.heap.size = w.heap.size ∧ DkS w' b bs (K + 1) := by
  obtain ⟨nb, cs, hrd, hcs⟩ := hby
  obtain ⟨next, st, hb, hn0, hnK, hs0, hs1⟩ := hd
  have hd : DkS w b bs (K + 1) := ⟨next, st, hb, hn0, by omega, hs0, hs1⟩
  obtain ⟨a, cap, rfl, hsl⟩ := hrd.out
  refine ca_of Try.func69 rfl (by simp [Try.ntmps69]) ?_
  (refine y_seq (y_region (yl_pure tabOk rfl rfl (y_seq (y_seq (y_region ?_))))); (iterate 3 refine yl_pure tabOk rfl rfl ?_))
  refine yl_split rfl rfl (fun hc => ?_) (fun hc => ?_)
  · ((iterate 6 refine yl_guard_no rfl rfl rfl ?_); refine yl_pure tabOk rfl rfl (y_cond_true rfl (y_seq (y_region (yl_pure tabOk rfl rfl (y_ret ?_))))))
    exact y_fin1 rfl rfl ⟨0, rfl, by omega, .inr rfl, Chg.refl _ _, rfl, hd⟩
  (refine yl_guard_yes rfl (yl_pure tabOk rfl rfl (yl_guard_yes rfl (yl_pure tabOk rfl rfl (yl_guard_yes rfl (yl_pure tabOk rfl rfl (yl_guard_yes rfl ?_)))))); refine yl_loadB tabOk rfl rfl rfl (by assumption) (by rfl) ?_; refine yl_guard_yes rfl (yl_pure tabOk rfl rfl (yl_guard_yes rfl (yl_pure tabOk rfl rfl (yl_pure tabOk rfl rfl (yl_nil ?_))))))
  have hn := of_decide_eq_false hc
  refine y_if rfl (fun hc => ?_) (fun hc => ?_)
  · (refine y_seq (y_region (yl_pure tabOk rfl rfl (y_ret ?_))))
    exact y_fin1 rfl rfl ⟨0, rfl, by omega, .inr rfl, Chg.refl _ _, rfl, hd⟩
  have hnb : 0 < nb := by omega
  obtain ⟨bb, off, rfl, hcell⟩ := hsl hnb
  (refine y_skip (y_seq ?_))
  refine y_draw [] (by kernel_rfl) (by kernel_rfl) (fun w1 hc1 hs1 => ?_)
  have hb1 := hb.keep hc1
  ((iterate 3 refine yf_pure tabOk rfl rfl rfl ?_); refine yf_loadB tabOk rfl rfl rfl (by assumption) (by first | assumption | simp) (by rfl) ?_; (iterate 3 refine yf_pure tabOk rfl rfl rfl ?_); refine yf_loadB tabOk rfl rfl rfl (by assumption) (by first | assumption | simp) (by rfl) ?_; (iterate 3 refine yf_pure tabOk rfl rfl rfl ?_); refine yf_loadB tabOk rfl rfl rfl (by assumption) (by first | assumption | simp) (by rfl) ?_; refine yf_pure tabOk rfl rfl rfl ?_)
  have hlen : cs.length = nb := by have := hrd.1; omega
  have hm := tmod_pos hn0 (by omega : (0 : Int) < nb)
  refine yf_rem rfl rfl (by omega) rfl ?_
  refine yf_index tabOk rfl rfl rfl rfl rfl hm.1 hm.2 ?_
  obtain ⟨x, hx, hx0, hx1⟩ := hcs (cs[(next.tmod nb).toNat]'(by omega)) (List.getElem_mem _)
  refine yf_load1 tabOk rfl rfl rfl (fun w' hw' => ?_) (v := .int .u8 x) ?_
  · have h1 := ((hrd.keep hc1).keep hw').cell rfl (next.tmod nb).toNat (by omega)
    rw [Nat.mul_one, h1, List.getElem?_eq_getElem (by omega), hx]
  ((iterate 4 refine yf_pure tabOk rfl rfl rfl ?_); refine yf_loadB tabOk rfl rfl rfl (by assumption) (by first | assumption | simp) (by rfl) ?_; (iterate 3 refine yf_pure tabOk rfl rfl rfl ?_); refine yf_loadB tabOk rfl rfl rfl (by assumption) (by first | assumption | simp) (by rfl) ?_; refine yf_pure tabOk rfl rfl rfl ?_)
  refine yf_quo rfl rfl (by omega) rfl ?_
  ((iterate 3 refine yf_pure tabOk rfl rfl rfl ?_); refine y_seq (y_region ?_); (iterate 3 refine yl_pure tabOk rfl rfl ?_); refine yl_loadB tabOk rfl rfl rfl (by assumption) (by rfl) ?_; (iterate 3 refine yl_pure tabOk rfl rfl ?_))
  refine yl_store1 tabOk rfl rfl rfl rfl (by assumption) (by simp) (fun w2 hc2 hs2 hb2 => ?_)
  (refine y_seq (y_region ?_); (iterate 4 refine yl_pure tabOk rfl rfl ?_); refine yl_loadB tabOk rfl rfl rfl (by assumption) (by rfl) ?_; (iterate 7 refine yl_pure tabOk rfl rfl ?_))
  refine yl_rem rfl rfl (by omega) rfl ?_
  (refine yl_pure tabOk rfl rfl (yl_pure tabOk rfl rfl ?_))
  refine yl_store1 tabOk rfl rfl rfl rfl (by assumption) (by simp) (fun w3 hc3 hs3 hb3 => ?_)
  have hc03 : Chg [b] w w3 := (hc1.nil.trans hc2).trans hc3
  generalize hq : IntKind.u32.wrap (IntKind.i64.wrap (next.tdiv nb)) = q at *
  clear hq
  generalize hz : Int.tmod _ 65519 = z at *
  have hz0 : 0 ≤ z ∧ z < 65519 := by rw [← hz]; exact tmod_pos (wu32_range _).1 (by omega)
  clear hz
  have hd3 : DkS w3 b (.slice (some ⟨bb, off, none⟩) nb cap) (K + 1) := by
    refine ⟨next + 1, z, ?_, by omega, by omega, hz0.1, by omega⟩
    rw [w64 (by omega) (by omega)] at hb3
    exact hb3
  have hfin : ∀ y : Int, ∃ r, Value.int .i64 ((IntKind.i64.wrap (IntKind.u32.wrap y)).tmod n) = .int .i64 r ∧ 0 ≤ r ∧ (r < n ∨ r = 0) ∧ Chg [b] w w3 ∧ w3.heap.size = w.heap.size ∧ DkS w3 b (.slice (some ⟨bb, off, none⟩) nb cap) (K + 1) := by
    intro y
    have h1 := wu32_range y
    have h2 : IntKind.i64.wrap (IntKind.u32.wrap y) = IntKind.u32.wrap y := w64 (by omega) (by omega)
    rw [h2]
    have h3 := tmod_pos h1.1 (by omega : (0 : Int) < n)
    exact ⟨_, rfl, h3.1, .inl h3.2, hc03, by omega, hd3⟩
  (refine y_seq (y_seq (y_region ?_)); (iterate 3 refine yl_pure tabOk rfl rfl ?_))
  refine yl_split rfl rfl (fun hc => ?_) (fun hc => ?_)
  · (refine yl_guard_yes rfl (yl_pure tabOk rfl rfl (yl_guard_yes rfl (yl_pure tabOk rfl rfl (yl_pure tabOk rfl rfl (yl_nil ?_))))))
    refine y_if rfl (fun hc => ?_) (fun hc => ?_)
    · (refine y_seq (y_region ?_); (iterate 3 refine yl_pure tabOk rfl rfl ?_))
      refine yl_rem rfl rfl (by omega) rfl ?_
      (refine yl_pure tabOk rfl rfl (y_ret ?_))
      exact y_fin1 rfl rfl (hfin _)
    · (refine y_skip (y_seq (y_region ?_)); (iterate 3 refine yl_pure tabOk rfl rfl ?_); refine yl_loadB tabOk rfl rfl rfl (by assumption) (by rfl) ?_; (iterate 5 refine yl_pure tabOk rfl rfl ?_))
      refine yl_rem rfl rfl (by omega) rfl ?_
      (refine yl_pure tabOk rfl rfl (y_ret ?_))
      exact y_fin1 rfl rfl (hfin _)
  · (refine yl_guard_no rfl rfl rfl (yl_guard_no rfl rfl rfl (yl_pure tabOk rfl rfl (y_cond_false rfl (y_skip (y_seq (y_region ?_)))))); (iterate 3 refine yl_pure tabOk rfl rfl ?_); refine yl_loadB tabOk rfl rfl rfl (by assumption) (by rfl) ?_; (iterate 5 refine yl_pure tabOk rfl rfl ?_))
    refine yl_rem rfl rfl (by omega) rfl ?_
    (refine yl_pure tabOk rfl rfl (y_ret ?_))
    exact y_fin1 rfl rfl (hfin _)


end
/-- A deck, after at most K cards. -/
def dkP (bs : Value) (b K : Nat) : Ck := .gn (fun x => x = b) (fun w => DkS w b bs K) (fun w w' N h hc hN => by
  obtain ⟨next, st, h1, h2⟩ := h
  exact ⟨next, st, (hc.block b h1.lt (hN b rfl)).trans h1, h2⟩)

theorem drawP_ca (n : Int) (K : Nat) (hK : K < 4611686018427387904) (w : World) (b lo hi : Nat) (bs : Value) (hby : DkB w lo hi bs) (hlh : hi ≤ b) (hd : DkS w b bs K) :
    Ca Try.prog 69 [.pointer (some ⟨b, 0, none⟩), .int .i64 n] w fun v w' => ∃ x : Int, (v = .int .i64 x ∧ 0 ≤ x ∧ (x < n ∨ x = 0)) ∧ Sat w (fun x => x = b) [dkP bs b (K + 1)] w' :=
  (draw_ca n K hK w b lo hi bs hby hlh hd).mono fun v w' ⟨r, h1, h2, h3, h4, h5, h6⟩ =>
    ⟨r, ⟨h1, h2, h3⟩, ⟨h4.os, h4.tape, h4.output, h4.size, fun k hk hkb => h4.block k hk (by simpa using hkb)⟩, by simpa [dkP, Ck.p] using h6, .cons (by simp) .nil, fun c hc x hx => by
      obtain rfl : c = dkP bs b (K + 1) := by simpa using hc
      obtain rfl : x = b := hx
      obtain ⟨_, _, h7, _⟩ := h6
      exact ⟨h7.lt, .inl rfl⟩⟩



theorem dk_sat {w : World} {b K : Nat} {bs : Value} (hd : DkS w b bs K) : Sat w (fun x => x = b) [dkP bs b K] w :=
  ⟨ChgP.refl _ _, by simpa [dkP, Ck.p] using hd, .cons (by simp) .nil, fun c hc x hx => by
    obtain rfl : c = dkP bs b K := by simpa using hc
    obtain rfl : x = b := hx
    obtain ⟨_, _, h7, _⟩ := hd
    exact ⟨h7.lt, .inl rfl⟩⟩

theorem between_ca (l h : Int) (hl : -1000000 ≤ l) (hh : h ≤ 1000000) (hlh2 : l ≤ h) (K : Nat) (hK : K < 4611686018427387904) (w : World) (b lo hi : Nat) (bs : Value) (hby : DkB w lo hi bs) (hlh : hi ≤ b) (hd : DkS w b bs K) :
    Ca Try.prog 68 [.pointer (some ⟨b, 0, none⟩), .int .i64 l, .int .i64 h] w fun v w' => ∃ x : Int, (v = .int .i64 x ∧ l ≤ x ∧ x ≤ h) ∧ Sat w (fun x => x = b) [dkP bs b (K + 1)] w' := by
  refine q_of (dk_sat hd) Try.func68 rfl (by simp [Try.ntmps68]) ?_
  (refine q_seq (q_region (ql_pure tabOk rfl rfl (q_nil (q_seq (q_region ?_))))); (iterate 4 refine ql_pure tabOk rfl rfl ?_); refine ql_ar tabOk rfl rfl rfl rfl (by omega) (by omega) (ql_ar tabOk rfl rfl rfl rfl (by omega) (by omega) ?_))
  refine ql_call (β := Int) (ψ := fun x v => v = .int .i64 x ∧ 0 ≤ x ∧ (x < h - l + 1 ∨ x = 0)) (L' := fun _ => [dkP bs b (K + 1)]) tabOk [dkP bs b K] [] (fun x => x = b) rfl rfl rfl rfl (Sp.refl _) (fun x hx => ⟨_, .head _, hx⟩) (fun w' hs => drawP_ca (h - l + 1) K hK w' b lo hi bs (by
    obtain ⟨nb, cs, h1, h2⟩ := hby
    exact ⟨nb, cs, h1.chg (N := [b]) ⟨hs.chg.os, hs.chg.tape, hs.chg.output, hs.chg.size, fun k hk hkb => hs.chg.block k hk (by simpa using hkb)⟩ (fun k hk => .inr (by simp at hk; omega)), h2⟩) hlh (hs.all _ (.head _))) ?_
  rintro x _ ⟨rfl, hx0, hx1⟩
  (refine ql_ar tabOk rfl rfl rfl rfl (by omega) (by omega) (ql_pure tabOk rfl rfl (q_nil (q_ret ?_))))
  refine q_fin tabOk rfl (by repeat constructor) fun w hs => ?_
  exact ⟨_, ⟨rfl, by omega, by omega⟩, hs⟩



theorem of_ca (w : World) (a : Option Addr) (n c : Nat) : Ca Try.prog 12 [.slice a n c] w fun v w' => ∃ b : Nat, v = .pointer (some ⟨b, 0, none⟩) ∧ Sat w M0 [dkP (.slice a n c) b 0] w' := by
  refine q_of (Sat.nil w M0) Try.func12 rfl (by simp [Try.ntmps12]) ?_
  (refine q_seq (q_region (ql_pure tabOk rfl rfl (q_nil (q_seq (q_region (ql_pure tabOk rfl rfl ?_)))))))
  refine ql_mk #[.slice a n c, .int .i64 0, .int .u32 17] rfl (by kernel_rfl) rfl ?_
  skip
  refine ql_box rfl rfl (fun b1 => ?_)
  (refine ql_pure tabOk rfl rfl (q_nil (q_ret ?_)))
  refine q_fin tabOk rfl (by repeat constructor) fun w hs => ?_
  refine ⟨b1, rfl, ⟨hs.chg, fun d hd => ?_, .cons (by simp) .nil, fun d hd x hx => ?_⟩⟩
  · obtain rfl : d = dkP (.slice a n c) b1 0 := by simpa using hd
    exact ⟨0, 17, hs.all _ (.head _), by omega, by omega, by omega, by omega⟩
  · obtain rfl : d = dkP (.slice a n c) b1 0 := by simpa using hd
    obtain rfl : x = b1 := hx
    exact hs.bd _ (.head _) x rfl



theorem DkB.keepP {w w' : World} {lo hi b : Nat} {bs : Value} (h : DkB w lo hi bs) (hlh : hi ≤ b) (hc : ChgP (fun x => x = b) w w') : DkB w' lo hi bs := by
  obtain ⟨nb, cs, h1, h2⟩ := h
  exact ⟨nb, cs, h1.chg (N := [b]) ⟨hc.os, hc.tape, hc.output, hc.size, fun k hk hkb => hc.block k hk (by simpa using hkb)⟩ (fun k hk => .inr (by simp at hk; omega)), h2⟩
theorem DkS.mono {w : World} {b K K' : Nat} {bs : Value} (h : DkS w b bs K) (hk : K ≤ K') : DkS w b bs K' := by
  obtain ⟨next, st, h1, h2, h3, h4⟩ := h
  exact ⟨next, st, h1, h2, by omega, h4⟩
theorem Sat.dk {w0 w : World} {M : Nat → Prop} {R : List Ck} {b K K' : Nat} {bs : Value} (h : Sat w0 M (dkP bs b K :: R) w) (hk : K ≤ K') : Sat w0 M (dkP bs b K' :: R) w := h.turn (fun _ h => h) (fun h => DkS.mono h hk)



section
variable {K b : Nat} {bs : Value} {w0 w : World} {R : List Ck}
theorem dk_new (hs : Sat w0 M0 (dkP bs b K :: R) w) : w0.heap.size ≤ b := (hs.bd _ (.head _) b rfl).2.resolve_left (fun h => h)
end
end Go.Proofs.Ytcmpdmobmbbplaa

/- Walks: a lab is made of numbers. -/
namespace Go.Proofs.Ytcmpdmobmbbplaa
open Go Go.Eng

/-- What a lab that was made has. -/
structure MadeL (most runs : Nat) (l : Lb) (real : List Int) : Prop where
  ok : l.Ok
  s2 : 2 ≤ l.skis
  sm : l.skis ≤ most
  e12 : l.err ≤ 11
  len : l.runs.length ≤ runs
  tr : l.True real
  rl : real.length = l.n
  rb : ∀ x ∈ real, 0 ≤ x ∧ x ≤ 96
theorem slR : SlT Try.prog 23 33 3 24 (.agg #[.int .i64 0, .int .i64 0, .int .i64 0]) := ⟨by kernel_rfl, by kernel_rfl, by kernel_rfl, by decide⟩
theorem rnC_snoc (l : List Rn) (r : Rn) : rnC (l ++ [r]) = rnC l ++ [.int .i64 r.a, .int .i64 r.b, .int .i64 r.lead] := by simp [rnC]
theorem mod_two {n i : Nat} {x : Int} (hi : i < n) (h0 : 0 ≤ x) (hx : x < (n : Int) - 1) : ∃ j : Nat, ((i : Int) + 1 + x) % (n : Int) = j ∧ j < n ∧ j ≠ i := by
  by_cases h : (i : Int) + 1 + x < n
  · exact ⟨(i + 1 + x).toNat, by rw [Int.emod_eq_of_lt (by omega) h]; omega, by omega, by omega⟩
  · refine ⟨(i + 1 + x - n).toNat, ?_, by omega, by omega⟩
    have : ((i : Int) + 1 + x) % n = (i + 1 + x - n) % n := by rw [Int.sub_emod_right]
    rw [this, Int.emod_eq_of_lt (by omega) (by omega)]
    omega
set_option maxHeartbeats 4000000 in
theorem made_ca (most runs : Nat) (h1 : 2 ≤ most) (h2 : most ≤ 8) (h3 : runs ≤ 20) (K : Nat) (hK : K < 100000) (w : World) (b lo hi : Nat) (bs : Value) (hby : DkB w lo hi bs) (hlh : hi ≤ b) (hd : DkS w b bs K) :
    Ca Try.prog 11 [.pointer (some ⟨b, 0, none⟩), .int .i64 most, .int .i64 runs] w fun v w' => ∃ y : Value × Value × Lb × List Int, (v = .tuple #[.agg (lbC y.2.2.1 y.1).toArray, y.2.1] ∧ MadeL most runs y.2.2.1 y.2.2.2) ∧ Sat w (fun x => x = b) [.ow y.1 33 3 y.2.2.1.runs.length (rnC y.2.2.1.runs), .ow y.2.1 3 1 y.2.2.2.length (ints y.2.2.2), dkP bs b (K + 100)] w' := by
  refine q_of (dk_sat hd) Try.func11 rfl (by simp [Try.ntmps11]) ?_
  (refine q_seq (q_region ?_))
  refine ql_alloc zero25 rfl (fun b6 => ?_)
  (refine ql_pure tabOk rfl rfl (q_nil (q_seq (q_region (ql_pure tabOk rfl rfl (ql_pure tabOk rfl rfl ?_))))))
  refine ql_call (β := Int) (ψ := fun zq v => v = .int .i64 zq ∧ 2 ≤ zq ∧ zq ≤ most) (L' := fun _ => [dkP bs b (K + 1)]) tabOk [dkP bs b (K)] _ (fun x => x = b) rfl rfl rfl rfl (Sp.cons (by repeat constructor) (Sp.refl _)) (fun x hx => ⟨_, .head _, hx⟩) (fun w' hs => between_ca (2) (most) (by omega) (by omega) (by omega) (K) (by omega) w' b lo hi bs (hby.keepP hlh hs.chg) hlh (hs.all _ (.head _))) ?_; rintro sk _ ⟨rfl, hsk⟩
  (refine ql_pure tabOk rfl rfl ?_)
  refine ql_call (β := Int) (ψ := fun zq v => v = .int .i64 zq ∧ 0 ≤ zq ∧ (zq < 12 ∨ zq = 0)) (L' := fun _ => [dkP bs b (K + 1 + 1)]) tabOk [dkP bs b (K + 1)] _ (fun x => x = b) rfl rfl rfl rfl (Sp.cons (by repeat constructor) (Sp.refl _)) (fun x hx => ⟨_, .head _, hx⟩) (fun w' hs => drawP_ca (12) (K + 1) (by omega) w' b lo hi bs (hby.keepP hlh hs.chg) hlh (hs.all _ (.head _))) ?_; rintro er _ ⟨rfl, her⟩
  skip
  obtain ⟨n, rfl⟩ := Int.eq_ofNat_of_zero_le (show 0 ≤ sk by omega)
  have hn : 2 ≤ n ∧ n ≤ most := by omega
  refine ql_mk #[.int .i64 n, .int .i64 er, .slice none 0 0] rfl (by kernel_rfl) rfl ?_
  skip
  refine ql_alloc zero25 rfl (fun b8 => ?_)
  (refine ql_setA tabOk rfl rfl rfl rfl rfl (by repeat constructor) rfl ?_; refine q_nil (q_seq (q_region (ql_pure tabOk rfl rfl (q_nil (q_seq (q_seq (q_region (ql_pure tabOk rfl rfl ?_)))))))); refine ql_loadBa tabOk rfl rfl rfl ?_; refine ql_pure tabOk rfl rfl (q_nil (q_block ?_)))
  refine q_conv (H' := [.ow (.slice none 0 0) 3 1 0 (ints []), dkP bs b (K + 2 + 0), .pt b8 [.int .i64 n, .int .i64 er, .slice none 0 0] 25, .pt b6 [.int .i64 0, .int .i64 0, .slice none 0 0] 25]) (fun w' hs => (Sat.ownil hs 3 1).sp (by repeat constructor)) ?_
  refine q_loop (σ := Value × List Int) (fun s => s.2.length ≤ n ∧ ∀ x ∈ s.2, 0 ≤ x ∧ x ≤ 96) (fun s => n - s.2.length) (fun s => [(0, .pointer (some ⟨b, 0, none⟩)), (2, .int .i64 runs), (6, .pointer (some ⟨b6, 0, none⟩)), (8, .pointer (some ⟨b8, 0, none⟩)), (9, s.1), (19, .int .i64 n), (20, .int .i64 s.2.length)])
    (fun s => [.ow s.1 3 1 s.2.length (ints s.2), dkP bs b (K + 2 + s.2.length), .pt b8 [.int .i64 n, .int .i64 er, .slice none 0 0] 25, .pt b6 [.int .i64 0, .int .i64 0, .slice none 0 0] 25]) (.slice none 0 0, []) (by simp) ⟨rfl, rfl, rfl, rfl, rfl, rfl, rfl, trivial⟩ (by repeat constructor) ?_
  rintro ⟨u, real⟩ ⟨hl, hB⟩ K1 hK1
  dsimp only at hl hB ⊢
  (refine q_seq (q_region (ql_pure tabOk rfl rfl (q_nil (q_seq ?_)))))
  refine q_if rfl (fun hc => ?_) (fun hc => ?_)
  · have hl2 : real.length < n := by omega
    clear hc
    obtain ⟨k, hk⟩ : ∃ k, k = real.length := ⟨_, rfl⟩
    rw [← hk]
    (refine q_skip (q_seq (q_block (q_region (ql_pure tabOk rfl rfl (ql_pure tabOk rfl rfl ?_))))))
    refine ql_call (β := Int) (ψ := fun zq v => v = .int .i64 zq ∧ 0 ≤ zq ∧ (zq < 25 ∨ zq = 0)) (L' := fun _ => [dkP bs b (K + 2 + k + 1)]) tabOk [dkP bs b (K + 2 + k)] _ (fun x => x = b) rfl rfl rfl rfl (Sp.cons (by repeat constructor) (Sp.refl _)) (fun x hx => ⟨_, .head _, hx⟩) (fun w' hs => drawP_ca (25) (K + 2 + k) (by omega) w' b lo hi bs (hby.keepP hlh hs.chg) hlh (hs.all _ (.head _))) ?_; rintro x _ ⟨rfl, hx⟩
    (refine ql_ar tabOk rfl rfl rfl rfl (by omega) (by omega) ?_)
    refine ql_mkS 3 [.int .i64 (4 * x)] rfl (by kernel_rfl) rfl (fun bn => ?_)
    skip
    refine ql_append (q := 1) (news := [.int .i64 (4 * x)]) slI rfl rfl rfl (fun v' => by repeat constructor) (fun w' hs => ⟨_, _, Blk.rdN (hs.blk (b := bn) (by repeat constructor)) rfl⟩) (by simp [oneV]) (by omega) (by omega) (fun u' => ?_)
    (refine ql_pure tabOk rfl rfl (q_nil (q_blk (q_region (ql_ar tabOk rfl rfl rfl rfl (by omega) (by omega) (ql_pure tabOk rfl rfl (q_nil ?_)))))))
    have e1 : ints (real ++ [4 * x]) = ints real ++ [.int .i64 (4 * x)] := by simp [ints]
    exact hK1 (u', real ++ [4 * x]) _ _ ⟨by simp; omega, fun y hy => by
      rcases List.mem_append.1 hy with hy | hy
      · exact hB y hy
      · rw [List.mem_singleton.1 hy]; omega⟩ (by simp; omega) ⟨rfl, rfl, rfl, rfl, rfl, rfl, lookI rfl (by simp; omega), trivial⟩ (by dsimp only; rw [e1, show (real ++ [4 * x]).length = k + 1 from by simp [hk]]; repeat constructor)
  · have hln : real.length = n := by omega
    clear hc hK1 hl
    rw [hln]
    (refine q_exit _ rfl (q_seq (q_seq (q_region (ql_pure tabOk rfl rfl (ql_pure tabOk rfl rfl (ql_ar tabOk rfl rfl rfl rfl (by omega) (by omega) ?_)))))))
    refine ql_call (β := Int) (ψ := fun zq v => v = .int .i64 zq ∧ 0 ≤ zq ∧ (zq < (runs : Int) + 1 ∨ zq = 0)) (L' := fun _ => [dkP bs b (K + 2 + n + 1)]) tabOk [dkP bs b (K + 2 + n)] _ (fun x => x = b) rfl rfl rfl rfl (Sp.cons (by repeat constructor) (Sp.refl _)) (fun x hx => ⟨_, .head _, hx⟩) (fun w' hs => drawP_ca ((runs : Int) + 1) (K + 2 + n) (by omega) w' b lo hi bs (hby.keepP hlh hs.chg) hlh (hs.all _ (.head _))) ?_; rintro ct _ ⟨rfl, hct⟩
    (refine ql_pure tabOk rfl rfl (q_nil (q_block ?_)))
    obtain ⟨cn, rfl⟩ := Int.eq_ofNat_of_zero_le hct.1
    have hcn : cn ≤ runs := by omega
    clear hct
    refine q_fact (fun w hs => hs.ownSome (v := u) (by repeat constructor) (by omega)) ?_
    rintro ⟨g, gc, rfl⟩
    refine q_conv (H' := [.ow (.slice none 0 0) 33 3 0 (rnC []), dkP bs b (K + 3 + n + 0), .pt b8 [.int .i64 n, .int .i64 er, .slice none 0 0] 25, .ow (.slice (some ⟨g, 0, none⟩) n gc) 3 1 n (ints real), .pt b6 [.int .i64 0, .int .i64 0, .slice none 0 0] 25]) (fun w' hs => by
      have e : K + 2 + n + 1 = K + 3 + n + 0 := by omega
      rw [e] at hs
      exact (Sat.ownil hs 33 3).sp (by repeat constructor)) ?_
    refine q_loop (σ := Value × List Rn) (fun s => s.2.length ≤ cn ∧ ∀ r ∈ s.2, r.Ok n ∧ r.True er real) (fun s => cn - s.2.length) (fun s => [(0, .pointer (some ⟨b, 0, none⟩)), (6, .pointer (some ⟨b6, 0, none⟩)), (8, .pointer (some ⟨b8, 0, none⟩)), (9, .slice (some ⟨g, 0, none⟩) n gc), (32, .int .i64 cn), (33, .int .i64 s.2.length)])
      (fun s => [.ow s.1 33 3 s.2.length (rnC s.2), dkP bs b (K + 3 + n + 3 * s.2.length), .pt b8 [.int .i64 n, .int .i64 er, s.1] 25, .ow (.slice (some ⟨g, 0, none⟩) n gc) 3 1 n (ints real), .pt b6 [.int .i64 0, .int .i64 0, .slice none 0 0] 25]) (.slice none 0 0, []) (by simp) ⟨rfl, rfl, rfl, rfl, rfl, rfl, trivial⟩ (by repeat constructor) ?_
    rintro ⟨v, rs⟩ ⟨hl, hI⟩ K1 hK1
    dsimp only at hl hI ⊢
    (refine q_seq (q_region (ql_pure tabOk rfl rfl (q_nil (q_seq ?_)))))
    refine q_if rfl (fun hc => ?_) (fun hc => ?_)
    · have hl2 : rs.length < cn := by omega
      clear hc
      obtain ⟨k, hk⟩ : ∃ k, k = rs.length := ⟨_, rfl⟩
      rw [← hk]
      refine q_fact (fun w hs => hs.slice2 (v := v) (by repeat constructor)) ?_
      rintro ⟨va, vc, rfl⟩
      (refine q_skip (q_seq (q_block (q_seq (q_region (ql_pure tabOk rfl rfl (ql_pure tabOk rfl rfl ?_)))))); refine ql_loadBa tabOk rfl rfl rfl ?_)
      refine ql_call (β := Int) (ψ := fun zq v => v = .int .i64 zq ∧ 0 ≤ zq ∧ (zq < (n : Int) ∨ zq = 0)) (L' := fun _ => [dkP bs b (K + 3 + n + 3 * k + 1)]) tabOk [dkP bs b (K + 3 + n + 3 * k)] _ (fun x => x = b) rfl rfl rfl rfl (Sp.cons (by repeat constructor) (Sp.refl _)) (fun x hx => ⟨_, .head _, hx⟩) (fun w' hs => drawP_ca ((n : Int)) (K + 3 + n + 3 * k) (by omega) w' b lo hi bs (hby.keepP hlh hs.chg) hlh (hs.all _ (.head _))) ?_; rintro ai _ ⟨rfl, hai⟩
      (refine ql_pure tabOk rfl rfl (q_nil (q_seq ?_)))
      obtain ⟨i, rfl⟩ := Int.eq_ofNat_of_zero_le hai.1
      have hi2 : i < n := by omega
      clear hai
      refine q_drawB2 [true, true, true, true, true, true, true, true, true, true, true, true] [.pt b8 [.int .i64 n, .int .i64 er, (.slice va k vc)] 25, .ow (.slice va k vc) 33 3 k (rnC rs), .ow (.slice (some ⟨g, 0, none⟩) n gc) 3 1 n (ints real), .pt b6 [.int .i64 0, .int .i64 0, .slice none 0 0] 25] [dkP bs b (K + 3 + n + 3 * k + 1)] [.pt b8 [.int .i64 n, .int .i64 er, (.slice va k vc)] 25, .ow (.slice va k vc) 33 3 k (rnC rs), .ow (.slice (some ⟨g, 0, none⟩) n gc) 3 1 n (ints real), .pt b6 [.int .i64 0, .int .i64 0, .slice none 0 0] 25] [] (by repeat constructor) (by repeat constructor) (by kernel_rfl) (by kernel_rfl) (by kernel_rfl) ?_
      refine qb_T2 12 [dkP bs b (K + 3 + n + 3 * k + 1)] rfl rfl (by repeat constructor) fun K2 hK2 => ?_
      (refine qf_pure tabOk rfl rfl rfl (qf_ar tabOk rfl rfl rfl rfl (by omega) (by omega) (qf_pure tabOk rfl rfl rfl (qf_pure tabOk rfl rfl rfl ?_))); refine qf_loadBa tabOk rfl rfl rfl ?_; refine qf_ar tabOk rfl rfl rfl rfl (by omega) (by omega) ?_)
      refine qf_call (β := Int) (ψ := fun zq v => v = .int .i64 zq ∧ 0 ≤ zq ∧ (zq < ((n : Int) - 1) ∨ zq = 0)) (L' := fun _ => [dkP bs b (K + 3 + n + 3 * k + 1 + 1)]) tabOk [dkP bs b (K + 3 + n + 3 * k + 1)] _ (fun x => x = b) rfl rfl rfl rfl (Sp.cons (by repeat constructor) (Sp.refl _)) (fun x hx => ⟨_, .head _, hx⟩) (fun w' hs => drawP_ca (((n : Int) - 1)) (K + 3 + n + 3 * k + 1) (by omega) w' b lo hi bs (hby.keepP hlh hs.chg) hlh (hs.all _ (.head _))) ?_; rintro x _ ⟨rfl, hx⟩
      (refine qf_ar tabOk rfl rfl rfl rfl (by omega) (by omega) (qf_pure tabOk rfl rfl rfl ?_); refine qf_loadBa tabOk rfl rfl rfl ?_; refine qf_remN rfl rfl rfl (by omega) (by omega) (qf_pure tabOk rfl rfl rfl (qf_nil ?_)))
      refine hK2 _ _ (qb_nil ?_)
      obtain ⟨j, hj, hj2, hj3⟩ := mod_two hi2 hx.1 (by omega)
      rw [hj]
      have hi4 : i < real.length := by omega
      have hj4 : j < real.length := by omega
      have bi := hB _ (List.getElem_mem hi4)
      have bj := hB _ (List.getElem_mem hj4)
      skip
      refine q_drawB2 [true, true, true, true, true, true, true, true, true, true, true, true, true, true, true, true, true, true, true, true, true, true, true, false, false, false] [.pt b8 [.int .i64 n, .int .i64 er, .slice va k vc] 25, .ow (.slice va k vc) 33 3 k (rnC rs), .ow (.slice (some ⟨g, 0, none⟩) n gc) 3 1 n (ints real), .pt b6 [.int .i64 0, .int .i64 0, .slice none 0 0] 25] [dkP bs b (K + 3 + n + 3 * k + 1 + 1)] [.ow (.slice (some ⟨g, 0, none⟩) n gc) 3 1 n (ints real), .pt b6 [.int .i64 0, .int .i64 0, .slice none 0 0] 25] [.pt b8 [.int .i64 n, .int .i64 er, .slice va k vc] 25, .ow (.slice va k vc) 33 3 k (rnC rs)] (by repeat constructor) (by repeat constructor) (by kernel_rfl) (by kernel_rfl) (by kernel_rfl) ?_
      refine qb_T2 23 [dkP bs b (K + 3 + n + 3 * k + 1 + 1)] rfl rfl (by repeat constructor) fun K2 hK2 => ?_
      (refine qf_pure tabOk rfl rfl rfl ?_; refine qf_loadBa tabOk rfl rfl rfl ?_; (iterate 4 refine qf_pure tabOk rfl rfl rfl ?_))
      refine qf_index tabOk rfl rfl rfl rfl rfl (by omega) (by omega) ?_
      refine qf_load1 (v := .int .i64 real[i]) tabOk rfl rfl rfl (fun w hs => RdI.at (hs.rdI (v := .slice (some ⟨g, 0, none⟩) n gc) (l := real) (t := 3) (n := n) (by repeat constructor) hln.symm) i hi4) ?_
      (refine qf_pure tabOk rfl rfl rfl (qf_pure tabOk rfl rfl rfl ?_))
      refine qf_index tabOk rfl rfl rfl rfl rfl (by omega) (by omega) ?_
      refine qf_load1 (v := .int .i64 real[j]) tabOk rfl rfl rfl (fun w hs => RdI.at (hs.rdI (v := .slice (some ⟨g, 0, none⟩) n gc) (l := real) (t := 3) (n := n) (by repeat constructor) hln.symm) j hj4) ?_
      (refine qf_ar tabOk rfl rfl rfl rfl (by omega) (by omega) (qf_pure tabOk rfl rfl rfl (qf_pure tabOk rfl rfl rfl ?_)); refine qf_loadBa tabOk rfl rfl rfl ?_; refine qf_neg tabOk rfl rfl (by omega) (by omega) (qf_pure tabOk rfl rfl rfl ?_); refine qf_loadBa tabOk rfl rfl rfl ?_)
      refine qf_call (β := Int) (ψ := fun zq v => v = .int .i64 zq ∧ (-er) ≤ zq ∧ zq ≤ er) (L' := fun _ => [dkP bs b (K + 3 + n + 3 * k + 1 + 1 + 1)]) tabOk [dkP bs b (K + 3 + n + 3 * k + 1 + 1)] _ (fun x => x = b) rfl rfl rfl rfl (Sp.cons (by repeat constructor) (Sp.refl _)) (fun x hx => ⟨_, .head _, hx⟩) (fun w' hs => between_ca ((-er)) (er) (by omega) (by omega) (by omega) (K + 3 + n + 3 * k + 1 + 1) (by omega) w' b lo hi bs (hby.keepP hlh hs.chg) hlh (hs.all _ (.head _))) ?_; rintro y _ ⟨rfl, hy⟩
      (refine qf_ar tabOk rfl rfl rfl rfl (by omega) (by omega) ?_)
      refine qf_mk #[.int .i64 i, .int .i64 j, .int .i64 (real[i] - real[j] + y)] rfl (by kernel_rfl) rfl ?_
      skip
      refine qf_mkS 33 [.int .i64 i, .int .i64 j, .int .i64 (real[i] - real[j] + y)] rfl (by kernel_rfl) rfl (fun bn => ?_)
      (refine qf_nil ?_)
      refine hK2 _ _ (qb_F 3 [.pt bn [.int .i64 i, .int .i64 j, .int .i64 (real[i] - real[j] + y)] 33, dkP bs b (K + 3 + n + 3 * k + 1 + 1 + 1), .pt b8 [.int .i64 n, .int .i64 er, .slice va k vc] 25, .ow (.slice va k vc) 33 3 k (rnC rs)] rfl rfl (by repeat constructor) fun K2 hK2 => ?_)
      refine qf_append (q := 1) (news := [.int .i64 i, .int .i64 j, .int .i64 (real[i] - real[j] + y)]) slR rfl rfl rfl (fun v' => by repeat constructor) (fun w' hs => ⟨_, _, Blk.rdN (hs.blk (b := bn) (by repeat constructor)) rfl⟩) (by simp [oneV]) (by omega) (by omega) (fun u' => ?_)
      refine qf_fact (fun w hs => hs.slice2 (v := u') (by repeat constructor)) ?_
      rintro ⟨a1, c1, rfl⟩
      (refine qf_pure tabOk rfl rfl rfl ?_; refine qf_st2 tabOk rfl rfl rfl rfl (by repeat constructor) ?_; refine qf_nil ?_)
      refine hK2 _ _ (qb_nil ?_)
      (refine q_blk (q_region (ql_ar tabOk rfl rfl rfl rfl (by omega) (by omega) (ql_pure tabOk rfl rfl (q_nil ?_)))))
      have e1 := rnC_snoc rs ⟨i, j, real[i] - real[j] + y⟩
      have e3 : K + 3 + n + 3 * (k + 1) = K + 3 + n + 3 * k + 1 + 1 + 1 := by omega
      exact hK1 (.slice a1 (k + 1) c1, rs ++ [⟨i, j, real[i] - real[j] + y⟩]) _ _ ⟨by simp; omega, fun r hr => by
        rcases List.mem_append.1 hr with hr | hr
        · exact hI r hr
        · rw [List.mem_singleton.1 hr]
          refine ⟨⟨by simp only; omega, by simp only; omega, by simp only; omega, by simp only; omega, by simp only; omega, by simp only; omega, by simp only; omega⟩, ?_, ?_⟩
          · simp only [Int.toNat_natCast, getD_get hi4, getD_get hj4]; omega
          · simp only [Int.toNat_natCast, getD_get hi4, getD_get hj4]; omega⟩ (by simp; omega) ⟨rfl, rfl, rfl, rfl, rfl, lookI rfl (by simp; omega), trivial⟩ (by dsimp only; rw [e1, show (rs ++ [(⟨i, j, real[i] - real[j] + y⟩ : Rn)]).length = k + 1 from by simp [hk], e3]; repeat constructor)
    · have hcc : rs.length = cn := by omega
      have hln' : real.length = n := hln
      clear hc hK1
      refine q_fact (fun w hs => hs.slice2 (v := v) (by repeat constructor)) ?_
      rintro ⟨va, vc, rfl⟩
      (refine q_exit _ rfl (q_seq (q_region ?_)); refine ql_loadABa tabOk rfl rfl rfl ?_; refine ql_pure tabOk rfl rfl ?_; refine ql_setA tabOk rfl rfl rfl rfl rfl (by repeat constructor) rfl ?_; refine ql_pure tabOk rfl rfl (q_nil (q_ret ?_)))
      refine q_fin tabOk rfl (by repeat constructor) fun w hs => ?_
      refine ⟨(.slice va rs.length vc, .slice (some ⟨g, 0, none⟩) n gc, ⟨n, er, rs⟩, real), ⟨rfl, ⟨by simp only; omega, by simp only; omega, by simp only; omega, by simp only; omega, by simp only; omega, fun r hr => (hI r hr).1⟩, by simp only; omega, by simp only; omega, by simp only; omega, by simp only; omega, fun r hr => (hI r hr).2, by unfold Lb.n; simp only; omega, hB⟩, ?_⟩
      have hs1 := hs.sp (H' := [dkP bs b (K + 3 + n + 3 * rs.length), .ow (.slice va rs.length vc) 33 3 rs.length (rnC rs), .ow (.slice (some ⟨g, 0, none⟩) n gc) 3 1 n (ints real)]) (by repeat constructor)
      have hs2 := Sat.dk hs1 (K' := K + 100) (by omega)
      dsimp only
      rw [hln']
      exact hs2.sp (by repeat constructor)
end Go.Proofs.Ytcmpdmobmbbplaa

/- Plain law of SkiMore. -/
namespace Go.Proofs.Ytcmpdmobmbbplaa

/-- What is told of a lab. -/
structure Told (k : Nat) (l : Lb) : Prop where
  ok : l.Ok
  noC : NoC l.ord l.n
theorem run_ok {s x y ld : Int} (hx : 0 ≤ x ∧ x < s) (hy : 0 ≤ y ∧ y < s) (hne : x ≠ y) (hl : -10000 ≤ ld ∧ ld ≤ 10000) : (⟨x, y, ld⟩ : Rn).Ok s := ⟨hx.1, hx.2, hy.1, hy.2, hne, hl.1, hl.2⟩
theorem Lb.Ok.loose {l : Lb} (h : l.Ok) {d : Int} (hd : 0 ≤ d) (h2 : l.err + d ≤ 1000) : (l.loose d).Ok := ⟨h.s0, h.s1, by have := h.e0; show 0 ≤ l.err + d; omega, h2, h.len, h.run⟩
/-- The places of a ski, as they are told. -/
def spanP (l : Lb) (s : Nat) : Int × Int := ((1 + upN l.ord s l.n : Nat), l.skis - dnN l.ord s l.n)
end Go.Proofs.Ytcmpdmobmbbplaa

/- The plain law of SkiWaxed. -/
namespace Go.Proofs.Ytcmpdmobmbbplaa

/-- Tables of numbers. -/
structure LosL (W S : Nat) (l : List (List Int)) (n : Nat) : Prop where
  l1 : 1 ≤ l.length
  l2 : l.length ≤ W
  n1 : 1 ≤ n
  n2 : n ≤ S
  len : ∀ row ∈ l, row.length = n
  num : ∀ row ∈ l, ∀ x ∈ row, 0 ≤ x ∧ x ≤ 200
theorem LosL.tab {W S n : Nat} {l : List (List Int)} (h : LosL W S l n) (hW : W ≤ 12) (hS : S ≤ 20) : TabOk l n :=
  ⟨h.l1, by have := h.l2; omega, h.n1, by have := h.n2; omega, h.len, fun r hr x hx => by have := h.num r hr x hx; omega⟩
theorem TabOk.v {l : List (List Int)} {n : Nat} (h : TabOk l n) : tableV l = 0 ∧ (l.headD []).length = n := by
  have e : (l.headD []).length = n := by
    have h1 := h.l1
    match l, h1 with
    | r :: l, _ => exact h.len r List.mem_cons_self
  exact ⟨table_iff.2 (e ▸ h), e⟩
theorem TabOk.low {l : List (List Int)} {n s : Nat} (h : TabOk l n) (hs : s < n) : 0 ≤ lowV l s ∧ lowV l s ≤ 10000 := by
  obtain ⟨r, hr, e⟩ := low_mem (l := l) (by intro e; have := h.l1; rw [e] at this; simp at this) s
  rw [e]
  exact h.num r hr _ (getD_mem (by rw [h.len r hr]; exact hs))
end Go.Proofs.Ytcmpdmobmbbplaa

/- Walks: tables are made of numbers, and copied. -/
namespace Go.Proofs.Ytcmpdmobmbbplaa
open Go Go.Eng

end Go.Proofs.Ytcmpdmobmbbplaa

/- Walks: the regrets of a table; lists of lists copied. -/
namespace Go.Proofs.Ytcmpdmobmbbplaa
open Go Go.Eng

end Go.Proofs.Ytcmpdmobmbbplaa

/- Walks: sorted by insertion, with a function that compares in any way; numbers compared. -/
namespace Go.Proofs.Ytcmpdmobmbbplaa
open Go Go.Eng

/-- A function value that compares somehow, in all worlds where only one block may have changed. -/
def CmpS (w : World) (g : Nat) (cmp : Value) (cf : Int → Int → Int) (l : List Int) : Prop := ∀ w', ChgP (fun x => x = g) w w' → ∀ a ∈ l, ∀ b ∈ l, CaF Try.prog cmp [.int .i64 a, .int .i64 b] w' fun v w2 => v = .int .i64 (cf a b) ∧ Chg [] w' w2
set_option maxHeartbeats 4000000 in
theorem insS_ca (w : World) (g c : Nat) (l : List Int) (key : Int → Int) (cmp : Value) (cf : Int → Int → Int) (hcf : ∀ a ∈ l, ∀ b ∈ l, (cf a b < 0 ↔ key a < key b)) (h1 : 1 ≤ l.length) (hl : l.length ≤ 1000) (hI0 : SrI key l l 1) (hcmp : CmpS w g cmp cf l) (hb : w.ownsRow 0 3 1 (.slice (some ⟨g, 0, none⟩) l.length c) l.length (ints l)) :
    Ca Try.prog 149 [.slice (some ⟨g, 0, none⟩) l.length c, .int .i64 0, .int .i64 l.length, cmp] w fun v w' => ∃ L : List Int, (v = .tuple #[] ∧ L.Perm l ∧ SrtK key L) ∧ Sat w (fun x => x = g) [.ow (.slice (some ⟨g, 0, none⟩) l.length c) 3 1 l.length (ints L)] w' := by
  refine q_of (Sat.own0 hb) Try.func149 rfl (by simp [Try.ntmps149]) ?_
  (refine q_seq (q_region (ql_pure tabOk rfl rfl (ql_ar tabOk rfl rfl rfl rfl (by omega) (by omega) (ql_pure tabOk rfl rfl (q_nil (q_block ?_)))))))
  refine q_loop (σ := Nat × List Int) (fun s => 1 ≤ s.1 ∧ s.1 ≤ l.length ∧ SrI key l s.2 s.1) (fun s => l.length - s.1) (fun s => [(0, .slice (some ⟨g, 0, none⟩) l.length c), (1, .int .i64 0), (2, .int .i64 l.length), (3, cmp), (8, .int .i64 s.1)])
    (fun s => [.ow (.slice (some ⟨g, 0, none⟩) l.length c) 3 1 l.length (ints s.2)]) (1, l) ⟨by simp, h1, hI0⟩ ⟨rfl, rfl, rfl, rfl, rfl, trivial⟩ (by repeat constructor) ?_
  rintro ⟨i, L⟩ ⟨hi1, hi2, hI⟩ K hK
  simp only at hi1 hi2 hI
  dsimp only
  (refine q_seq (q_seq (q_region ?_)); (iterate 3 refine ql_pure tabOk rfl rfl ?_); refine q_nil ?_)
  refine q_if rfl (fun hc => ?_) (fun hc => ?_)
  · have hi3 : i < l.length := by omega
    clear hc
    (refine q_skip (q_seq (q_block (q_seq (q_region (ql_pure tabOk rfl rfl (ql_pure tabOk rfl rfl (q_nil (q_block ?_)))))))))
    refine q_loop (σ := Nat × List Int) (fun s => SrJ key l s.2 i s.1) (fun s => s.1) (fun s => [(0, .slice (some ⟨g, 0, none⟩) l.length c), (1, .int .i64 0), (2, .int .i64 l.length), (3, cmp), (8, .int .i64 i), (9, .int .i64 s.1)])
      (fun s => [.ow (.slice (some ⟨g, 0, none⟩) l.length c) 3 1 l.length (ints s.2)]) (i, L) (hI.open hi3) ⟨rfl, rfl, rfl, rfl, rfl, rfl, trivial⟩ (by repeat constructor) ?_
    rintro ⟨j, L2⟩ hJ K2 hK2
    simp only at hJ
    dsimp only
    have hji := hJ.ji
    have hlen : L2.length = l.length := hJ.perm.length_eq
    by_cases hj0 : 0 < j
    · have y1 : j < L2.length := by omega
      have y2 : j - 1 < L2.length := by omega
      have g1 := getD_get y1
      have g2 := getD_get y2
      obtain ⟨q, hq⟩ : ∃ q : Nat, (q : Int) = (j : Int) - 1 := ⟨j - 1, by omega⟩
      have hq2 : j - 1 = q := by omega
      simp only [hq2] at y2 g2
      have hclose := hJ.close
      have hswap := hJ.swap hj0 (by omega)
      simp only [hq2] at hclose hswap
      (refine q_seq (q_seq ?_))
      refine q_draw _ [] (Sp.refl _) (by kernel_rfl) (by kernel_rfl) ?_
      (refine qf_pure tabOk rfl rfl rfl (qf_pure tabOk rfl rfl rfl (qf_gtrT tabOk rfl rfl rfl (by omega) (qf_pure tabOk rfl rfl rfl (qf_gyes rfl (qf_pure tabOk rfl rfl rfl (qf_gyes rfl (qf_pure tabOk rfl rfl rfl (qf_gyes rfl (qf_pure tabOk rfl rfl rfl (qf_gyes rfl ?_)))))))))))
      refine qf_index tabOk rfl rfl rfl rfl rfl (by omega) (by omega) ?_
      (refine qf_gyes rfl ?_)
      refine qf_load1 (v := .int .i64 L2[j]) tabOk rfl rfl rfl (fun w hs => RdI.at (hs.rdI (v := .slice (some ⟨g, 0, none⟩) l.length c) (l := L2) (t := 3) (n := l.length) (by repeat constructor) hlen.symm) j y1) ?_
      (refine qf_gyes rfl (qf_pure tabOk rfl rfl rfl (qf_gyes rfl (qf_pure tabOk rfl rfl rfl (qf_gyes rfl (qf_ar tabOk rfl rfl rfl rfl (by omega) (by omega) (qf_gyes rfl ?_)))))))
      rw [← hq]
      refine qf_index tabOk rfl rfl rfl rfl rfl (by omega) (by omega) ?_
      (refine qf_gyes rfl ?_)
      refine qf_load1 (v := .int .i64 L2[q]) tabOk rfl rfl rfl (fun w hs => RdI.at (hs.rdI (v := .slice (some ⟨g, 0, none⟩) l.length c) (l := L2) (t := 3) (n := l.length) (by repeat constructor) hlen.symm) q y2) ?_
      (refine qf_gyes rfl ?_)
      refine qf_callFv rfl rfl rfl (fun w' hs => hcmp w' hs.chg _ (hJ.perm.subset (List.getElem_mem y1)) _ (hJ.perm.subset (List.getElem_mem y2))) ?_
      have hcj := hcf _ (hJ.perm.subset (List.getElem_mem y1)) _ (hJ.perm.subset (List.getElem_mem y2))
      by_cases hlt : cf L2[j] L2[q] < 0
      · have hs2 := hswap (by rw [g1, g2]; exact hcj.1 hlt) g2 g1
        (refine qf_gyes rfl (qf_lssT tabOk rfl rfl rfl (by omega) (qf_pure tabOk rfl rfl rfl (qf_nil (q_cond_true rfl (q_skip (q_seq (q_block ?_))))))))
        refine q_drawB [true, true, false, false, false, true, true, true, true, true, true, true, true, true, false, false, false, false] [] [.ow (.slice (some ⟨g, 0, none⟩) l.length c) 3 1 l.length (ints L2)] (by repeat constructor) (by kernel_rfl) (by kernel_rfl) (by kernel_rfl) ?_
        refine qb_T 2 rfl rfl (Sp.refl _) fun K1 hK1 => ?_
        (refine qf_pure tabOk rfl rfl rfl (qf_pure tabOk rfl rfl rfl (qf_nil ?_)))
        refine hK1 _ _ (qb_F 3 [.ow (.slice (some ⟨g, 0, none⟩) l.length c) 3 1 l.length (ints L2)] rfl rfl (by repeat constructor) fun K1 hK1 => ?_)
        (refine qf_pure tabOk rfl rfl rfl (qf_pure tabOk rfl rfl rfl (qf_ar tabOk rfl rfl rfl rfl (by omega) (by omega) (qf_nil ?_))))
        refine hK1 _ _ (qb_T 9 rfl rfl (by repeat constructor) fun K1 hK1 => ?_)
        (refine qf_pure tabOk rfl rfl rfl (qf_pure tabOk rfl rfl rfl (qf_ar tabOk rfl rfl rfl rfl (by omega) (by omega) ?_)))
        rw [← hq]
        (refine qf_index tabOk rfl rfl rfl rfl rfl (by omega) (by omega) ?_; refine qf_load1 tabOk rfl rfl rfl (fun w hs => RdI.at (hs.rdI (l := L2) (t := 3) (n := l.length) (by repeat constructor) hlen.symm) q y2) ?_)
        (refine qf_pure tabOk rfl rfl rfl (qf_pure tabOk rfl rfl rfl ?_))
        (refine qf_index tabOk rfl rfl rfl rfl rfl (by omega) (by omega) ?_; refine qf_load1 tabOk rfl rfl rfl (fun w hs => RdI.at (hs.rdI (l := L2) (t := 3) (n := l.length) (by repeat constructor) hlen.symm) j y1) ?_)
        (refine qf_nil ?_)
        refine hK1 _ _ (qb_F 4 [.ow (.slice (some ⟨g, 0, none⟩) l.length c) 3 1 l.length (ints L2)] rfl rfl (by repeat constructor) fun K1 hK1 => ?_)
        skip
        refine qf_index tabOk rfl rfl rfl rfl rfl (by omega) (by omega) ?_
        refine qf_storeW tabOk j rfl rfl rfl rfl (by repeat constructor) (by omega) (by simpa using y1) ?_
        skip
        refine qf_index tabOk rfl rfl rfl rfl rfl (by omega) (by omega) ?_
        refine qf_storeW tabOk q rfl rfl rfl rfl (by repeat constructor) (by omega) (by simpa using y2) ?_
        rw [set_ints, set_ints]
        (refine qf_nil ?_)
        refine hK1 _ _ (qb_nil ?_)
        (refine q_blk (q_region (ql_pure tabOk rfl rfl (ql_ar tabOk rfl rfl rfl rfl (by omega) (by omega) (ql_pure tabOk rfl rfl (q_nil ?_))))))
        exact hK2 (q, _) _ _ hs2 (by simp only; omega) ⟨rfl, rfl, rfl, rfl, rfl, lookI rfl (by omega), trivial⟩ (by repeat constructor)
      · have hI2 := hclose (.inr (by rw [g1, g2]; exact fun h => hlt (hcj.2 h)))
        (refine qf_gyes rfl (qf_lssF tabOk rfl rfl rfl (by omega) (qf_pure tabOk rfl rfl rfl (qf_nil (q_cond_false rfl (q_exit _ rfl (q_blk (q_region (ql_pure tabOk rfl rfl (ql_ar tabOk rfl rfl rfl rfl (by omega) (by omega) (ql_pure tabOk rfl rfl (q_nil ?_))))))))))))
        exact hK (i + 1, L2) _ _ ⟨by simp only; omega, by simp only; omega, hI2⟩ (by simp only; omega) ⟨rfl, rfl, rfl, rfl, rfl, trivial⟩ (by repeat constructor)
    · have hI2 := hJ.close (.inl (by omega))
      obtain rfl : j = 0 := by omega
      (refine q_seq (q_seq ?_))
      refine q_draw _ [] (Sp.refl _) (by kernel_rfl) (by kernel_rfl) ?_
      (refine qf_pure tabOk rfl rfl rfl (qf_pure tabOk rfl rfl rfl (qf_gtrF tabOk rfl rfl rfl (by omega) (qf_pure tabOk rfl rfl rfl ?_))); (iterate 12 refine qf_gno rfl rfl rfl ?_); refine qf_pure tabOk rfl rfl rfl (qf_nil (q_cond_false rfl (q_exit _ rfl (q_blk (q_region (ql_pure tabOk rfl rfl (ql_ar tabOk rfl rfl rfl rfl (by omega) (by omega) (ql_pure tabOk rfl rfl (q_nil ?_))))))))))
      exact hK (i + 1, L2) _ _ ⟨by simp only; omega, by simp only; omega, hI2⟩ (by simp only; omega) ⟨rfl, rfl, rfl, rfl, rfl, trivial⟩ (by repeat constructor)
  · obtain rfl : i = l.length := by omega
    (refine q_exit _ rfl ?_)
    refine q_end tabOk rfl (by repeat constructor) fun w hs => ?_
    exact ⟨L, ⟨rfl, hI.perm, hI.all⟩, hs⟩
theorem CmpS.sub {w w' : World} {g : Nat} {cmp : Value} {cf : Int → Int → Int} {l : List Int} (h : CmpS w g cmp cf l) (hc : ChgP (fun x => x = g) w w') : CmpS w' g cmp cf l := fun w2 hc2 => h w2 (hc.upP hc2 fun _ h => .inl h)
theorem stableS_ca (w : World) (g c : Nat) (l : List Int) (key : Int → Int) (cmp : Value) (cf : Int → Int → Int) (hcf : ∀ a ∈ l, ∀ b ∈ l, (cf a b < 0 ↔ key a < key b)) (h1 : 1 ≤ l.length) (hl : l.length ≤ 16) (hI0 : SrI key l l 1) (hcmp : CmpS w g cmp cf l) (hb : w.ownsRow 0 3 1 (.slice (some ⟨g, 0, none⟩) l.length c) l.length (ints l)) :
    Ca Try.prog 139 [.slice (some ⟨g, 0, none⟩) l.length c, .int .i64 l.length, cmp] w fun v w' => ∃ L : List Int, (v = .tuple #[] ∧ L.Perm l ∧ SrtK key L) ∧ Sat w (fun x => x = g) [.ow (.slice (some ⟨g, 0, none⟩) l.length c) 3 1 l.length (ints L)] w' := by
  refine q_of (Sat.own0 hb) Try.func139 rfl (by simp [Try.ntmps139]) ?_
  (refine q_seq (q_region (ql_pure tabOk rfl rfl (q_nil (q_seq (q_region ?_))))); (iterate 3 refine ql_pure tabOk rfl rfl ?_); refine q_nil (q_seq (q_block ?_)))
  refine q_loop (σ := Unit) (fun _ => True) (fun _ => 0) (fun _ => [(0, .slice (some ⟨g, 0, none⟩) l.length c), (1, .int .i64 l.length), (2, cmp), (6, .int .i64 20), (7, .int .i64 0), (8, .int .i64 20)])
    (fun _ => [.ow (.slice (some ⟨g, 0, none⟩) l.length c) 3 1 l.length (ints l)]) () trivial ⟨rfl, rfl, rfl, rfl, rfl, rfl, trivial⟩ (by repeat constructor) ?_
  rintro _ _ K hK
  clear hK
  (refine q_seq (q_seq (q_region (ql_pure tabOk rfl rfl (ql_pure tabOk rfl rfl (ql_leqF tabOk rfl rfl rfl (by omega) (q_nil (q_cond_false rfl (q_exit _ rfl (q_seq (q_region ?_)))))))))); (iterate 4 refine ql_pure tabOk rfl rfl ?_))
  refine ql_call (β := List Int) (ψ := fun L v => v = .tuple #[] ∧ L.Perm l ∧ SrtK key L) (L' := fun L => [.ow (.slice (some ⟨g, 0, none⟩) l.length c) 3 1 l.length (ints L)]) tabOk [.ow (.slice (some ⟨g, 0, none⟩) l.length c) 3 1 l.length (ints l)] _ (fun x => x = g) rfl rfl rfl rfl (Sp.cons (by repeat constructor) (Sp.refl _)) (fun x hx => ⟨_, .head _, by subst hx; rfl⟩) (fun w' hs => insS_ca w' g c l key cmp cf hcf h1 (by omega) hI0 (hcmp.sub hs.chg) (hs.all _ (.head _))) ?_
  rintro L _ ⟨rfl, hp, hso⟩
  dsimp only [List.cons_append, List.nil_append]
  (refine q_nil (q_block ?_))
  refine q_loop (σ := Unit) (fun _ => True) (fun _ => 0) (fun _ => [(0, .slice (some ⟨g, 0, none⟩) l.length c), (1, .int .i64 l.length), (2, cmp), (6, .int .i64 20)])
    (fun _ => [.ow (.slice (some ⟨g, 0, none⟩) l.length c) 3 1 l.length (ints L)]) () trivial ⟨rfl, rfl, rfl, rfl, trivial⟩ (by repeat constructor) ?_
  rintro _ _ K hK
  clear hK
  (refine q_seq (q_seq (q_region (ql_pure tabOk rfl rfl (ql_pure tabOk rfl rfl (ql_lssF tabOk rfl rfl rfl (by omega) (q_nil (q_cond_false rfl (q_exit _ rfl ?_)))))))))
  refine q_end tabOk rfl (by repeat constructor) fun w hs => ?_
  exact ⟨L, ⟨rfl, hp, hso⟩, hs⟩
theorem sortS_ca (w : World) (g c : Nat) (l : List Int) (key : Int → Int) (cmp : Value) (cf : Int → Int → Int) (hcf : ∀ a ∈ l, ∀ b ∈ l, (cf a b < 0 ↔ key a < key b)) (h1 : 1 ≤ l.length) (hl : l.length ≤ 16) (hI0 : SrI key l l 1) (hcmp : CmpS w g cmp cf l) (hb : w.ownsRow 0 3 1 (.slice (some ⟨g, 0, none⟩) l.length c) l.length (ints l)) :
    Ca Try.prog 114 [.slice (some ⟨g, 0, none⟩) l.length c, cmp] w fun v w' => ∃ L : List Int, (v = .tuple #[] ∧ L.Perm l ∧ SrtK key L) ∧ Sat w (fun x => x = g) [.ow (.slice (some ⟨g, 0, none⟩) l.length c) 3 1 l.length (ints L)] w' := by
  refine q_of (Sat.own0 hb) Try.func114 rfl (by simp [Try.ntmps114]) ?_
  (refine q_region ?_; (iterate 4 refine ql_pure tabOk rfl rfl ?_))
  refine ql_call (β := List Int) (ψ := fun L v => v = .tuple #[] ∧ L.Perm l ∧ SrtK key L) (L' := fun L => [.ow (.slice (some ⟨g, 0, none⟩) l.length c) 3 1 l.length (ints L)]) tabOk [.ow (.slice (some ⟨g, 0, none⟩) l.length c) 3 1 l.length (ints l)] _ (fun x => x = g) rfl rfl rfl rfl (Sp.cons (by repeat constructor) (Sp.refl _)) (fun x hx => ⟨_, .head _, by subst hx; rfl⟩) (fun w' hs => stableS_ca w' g c l key cmp cf hcf h1 hl hI0 (hcmp.sub hs.chg) (hs.all _ (.head _))) ?_
  rintro L _ ⟨rfl, hp, hso⟩
  dsimp only [List.cons_append, List.nil_append]
  (refine q_nil ?_)
  refine q_end tabOk rfl (by repeat constructor) fun w hs => ?_
  exact ⟨L, ⟨rfl, hp, hso⟩, hs⟩
/-- Two numbers compared. -/
def cmpV (a b : Int) : Int := if a < b then -1 else if b < a then 1 else 0
theorem nan_ca (a : Int) (w : World) : Ca Try.prog 141 [.int .i64 a] w fun x w' => x = .bool false ∧ Chg [] w w' := by
  refine q_of (Sat.nil w M0) Try.func141 rfl (by simp [Try.ntmps141]) ?_
  (refine q_seq (q_region (ql_pure tabOk rfl rfl (q_nil (q_seq (q_region (ql_pure tabOk rfl rfl (ql_pure tabOk rfl rfl (ql_neqF tabOk rfl rfl rfl (by omega) (ql_pure tabOk rfl rfl (q_nil (q_ret ?_))))))))))))
  refine q_fin tabOk rfl (by repeat constructor) fun w hs => ?_
  exact ⟨rfl, hs.chg0⟩
theorem compare_ca (a b : Int) (w : World) : Ca Try.prog 119 [.int .i64 a, .int .i64 b] w fun x w' => x = .int .i64 (cmpV a b) ∧ Chg [] w w' := by
  refine q_of (Sat.nil w M0) Try.func119 rfl (by simp [Try.ntmps119]) ?_
  (refine q_seq (q_region (ql_pure tabOk rfl rfl (q_nil (q_seq (q_region (ql_pure tabOk rfl rfl ?_)))))))
  refine ql_callv (val := .bool false) tabOk rfl rfl rfl rfl (fun w hs => ?_) ?_; exact nan_ca a w
  (refine ql_pure tabOk rfl rfl (q_nil (q_seq (q_region (ql_pure tabOk rfl rfl ?_)))))
  refine ql_callv (val := .bool false) tabOk rfl rfl rfl rfl (fun w hs => ?_) ?_; exact nan_ca b w
  unfold cmpV
  by_cases h1 : a < b
  · rw [if_pos h1]
    (refine ql_pure tabOk rfl rfl (q_nil (q_seq (q_seq (q_region (ql_pure tabOk rfl rfl (q_nil (q_cond_false rfl (q_skip (q_seq (q_seq (q_region ?_))))))))))); refine ql_pure tabOk rfl rfl (q_nil (q_cond_false rfl (q_skip (q_seq (q_seq (q_region (ql_pure tabOk rfl rfl (ql_pure tabOk rfl rfl (ql_lssT tabOk rfl rfl rfl (by omega) (q_nil (q_cond_true rfl ?_))))))))))); refine q_seq (q_region (ql_pure tabOk rfl rfl (q_nil (q_ret ?_)))))
    refine q_fin tabOk rfl (by repeat constructor) fun w hs => ?_
    exact ⟨rfl, hs.chg0⟩
  · rw [if_neg h1]
    by_cases h2 : b < a
    · rw [if_pos h2]
      (refine ql_pure tabOk rfl rfl (q_nil (q_seq (q_seq (q_region (ql_pure tabOk rfl rfl (q_nil (q_cond_false rfl (q_skip (q_seq (q_seq (q_region ?_))))))))))); refine ql_pure tabOk rfl rfl (q_nil (q_cond_false rfl (q_skip (q_seq (q_seq (q_region (ql_pure tabOk rfl rfl (ql_pure tabOk rfl rfl (ql_lssF tabOk rfl rfl rfl (by omega) (q_nil (q_cond_false rfl ?_))))))))))); refine q_skip (q_seq (q_seq (q_region (ql_pure tabOk rfl rfl (ql_pure tabOk rfl rfl (ql_gtrT tabOk rfl rfl rfl (by omega) (q_nil (q_cond_true rfl (q_seq (q_region (ql_pure tabOk rfl rfl ?_))))))))))); refine q_nil (q_ret ?_))
      refine q_fin tabOk rfl (by repeat constructor) fun w hs => ?_
      exact ⟨rfl, hs.chg0⟩
    · rw [if_neg h2]
      (refine ql_pure tabOk rfl rfl (q_nil (q_seq (q_seq (q_region (ql_pure tabOk rfl rfl (q_nil (q_cond_false rfl (q_skip (q_seq (q_seq (q_region ?_))))))))))); refine ql_pure tabOk rfl rfl (q_nil (q_cond_false rfl (q_skip (q_seq (q_seq (q_region (ql_pure tabOk rfl rfl (ql_pure tabOk rfl rfl (ql_lssF tabOk rfl rfl rfl (by omega) (q_nil (q_cond_false rfl ?_))))))))))); refine q_skip (q_seq (q_seq (q_region (ql_pure tabOk rfl rfl (ql_pure tabOk rfl rfl (ql_gtrF tabOk rfl rfl rfl (by omega) (q_nil (q_cond_false rfl (q_skip (q_seq (q_region ?_))))))))))); refine ql_pure tabOk rfl rfl (q_nil (q_ret ?_)))
      refine q_fin tabOk rfl (by repeat constructor) fun w hs => ?_
      exact ⟨rfl, hs.chg0⟩
theorem or_ca (w : World) (lo hi : Nat) (v : Value) (a b : Int) (h : RdI w lo hi v [a, b]) : Ca Try.prog 118 [v] w fun x w' => x = .int .i64 (if a = 0 then b else a) ∧ Chg [] w w' := by
  obtain ⟨ad, c, rfl, ha⟩ := RdI.outI h
  obtain ⟨ab, ao, rfl⟩ := ha (by simp)
  refine q_of (Sat.nil w M0) Try.func118 rfl (by simp [Try.ntmps118]) ?_
  (refine q_seq (q_region (ql_pure tabOk rfl rfl (q_nil (q_seq (q_region (ql_pure tabOk rfl rfl (q_nil (q_seq (q_seq (q_region ?_)))))))))); (iterate 3 refine ql_pure tabOk rfl rfl ?_); refine q_nil (q_block ?_))
  refine q_loop (σ := Nat) (fun s => s = 0 ∨ (s = 1 ∧ a = 0) ∨ (s = 2 ∧ a = 0 ∧ b = 0)) (fun s => 2 - s) (fun s => [(3, .int .i64 0), (6, .slice (some ⟨ab, ao, none⟩) 2 c), (7, .int .i64 2), (8, .int .i64 s)]) (fun _ => []) 0 (.inl rfl) ⟨rfl, rfl, rfl, rfl, trivial⟩ (by repeat constructor) ?_
  rintro s hs1 K hK
  rcases hs1 with rfl | ⟨rfl, h0⟩ | ⟨rfl, h0, h1⟩
  · (refine q_seq (q_region (ql_lssT tabOk rfl rfl rfl (by omega) (q_nil (q_seq (q_cond_true rfl (q_skip (q_seq (q_block (q_seq (q_region ?_)))))))))))
    refine ql_index tabOk rfl rfl rfl rfl rfl (by decide) (by decide) ?_
    refine ql_load1 (v := .int .i64 a) tabOk rfl rfl rfl (fun w hs => RdI.at (RdE.keep h hs.chg0) 0 (by simp)) ?_
    by_cases h0 : a = 0
    · (refine ql_pure tabOk rfl rfl (q_nil (q_seq (q_region (ql_pure tabOk rfl rfl (ql_pure tabOk rfl rfl (ql_neqF tabOk rfl rfl rfl (by omega) (q_nil (q_cond_false rfl (q_skip (q_blk (q_region ?_))))))))))); refine ql_ar tabOk rfl rfl rfl rfl (by omega) (by omega) (ql_pure tabOk rfl rfl (q_nil ?_)))
      exact hK 1 _ _ (.inr (.inl ⟨rfl, h0⟩)) (by omega) ⟨rfl, rfl, rfl, rfl, trivial⟩ (by repeat constructor)
    · (refine ql_pure tabOk rfl rfl (q_nil (q_seq (q_region (ql_pure tabOk rfl rfl (ql_pure tabOk rfl rfl (ql_neqT tabOk rfl rfl rfl (by omega) (q_nil (q_cond_true rfl (q_seq (q_region (ql_pure tabOk rfl rfl ?_))))))))))); refine ql_pure tabOk rfl rfl (q_nil (q_ret ?_)))
      refine q_fin tabOk rfl (by repeat constructor) fun w hs => ?_
      exact ⟨by rw [if_neg h0]; rfl, hs.chg0⟩
  · (refine q_seq (q_region (ql_lssT tabOk rfl rfl rfl (by omega) (q_nil (q_seq (q_cond_true rfl (q_skip (q_seq (q_block (q_seq (q_region ?_)))))))))))
    refine ql_index tabOk rfl rfl rfl rfl rfl (by decide) (by decide) ?_
    refine ql_load1 (v := .int .i64 b) tabOk rfl rfl rfl (fun w hs => RdI.at (RdE.keep h hs.chg0) 1 (by simp)) ?_
    by_cases h1 : b = 0
    · (refine ql_pure tabOk rfl rfl (q_nil (q_seq (q_region (ql_pure tabOk rfl rfl (ql_pure tabOk rfl rfl (ql_neqF tabOk rfl rfl rfl (by omega) (q_nil (q_cond_false rfl (q_skip (q_blk (q_region ?_))))))))))); refine ql_ar tabOk rfl rfl rfl rfl (by omega) (by omega) (ql_pure tabOk rfl rfl (q_nil ?_)))
      exact hK 2 _ _ (.inr (.inr ⟨rfl, h0, h1⟩)) (by omega) ⟨rfl, rfl, rfl, rfl, trivial⟩ (by repeat constructor)
    · (refine ql_pure tabOk rfl rfl (q_nil (q_seq (q_region (ql_pure tabOk rfl rfl (ql_pure tabOk rfl rfl (ql_neqT tabOk rfl rfl rfl (by omega) (q_nil (q_cond_true rfl (q_seq (q_region (ql_pure tabOk rfl rfl ?_))))))))))); refine ql_pure tabOk rfl rfl (q_nil (q_ret ?_)))
      refine q_fin tabOk rfl (by repeat constructor) fun w hs => ?_
      exact ⟨by rw [if_pos h0]; rfl, hs.chg0⟩
  · (refine q_seq (q_region (ql_lssF tabOk rfl rfl rfl (by omega) (q_nil (q_seq (q_cond_false rfl (q_exit _ rfl (q_seq (q_region (ql_pure tabOk rfl rfl (ql_pure tabOk rfl rfl (q_nil ?_))))))))))); refine q_ret ?_)
    refine q_fin tabOk rfl (by repeat constructor) fun w hs => ?_
    exact ⟨by rw [if_pos h0, h1]; rfl, hs.chg0⟩
end Go.Proofs.Ytcmpdmobmbbplaa
