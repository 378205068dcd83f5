/- Walks: the best click by a rule. -/
import Derived.Test.YtmbifbippnncoaaV3
namespace Go.Proofs.Ytmbifbippnncoaa
open Go Go.Eng

theorem clicks_ca (w : World) (b : Nat) (near : Int) : Ca Try.prog 30 [.pointer (some ⟨b, 0, none⟩), .int .i64 near] w fun v w' =>
    ∃ x : Nat × Nat, v = .func (.func 49) #[] #[.pointer (some ⟨x.1, 0, none⟩), .pointer (some ⟨x.2, 0, none⟩)] ∧ Sat w M0 [.pt x.2 [.int .i64 near] 3, .pt x.1 [.pointer (some ⟨b, 0, none⟩)] 48] w' := by
  refine q_of (Sat.nil w M0) Try.func30 rfl (by simp [Try.ntmps30]) ?_
  (refine q_seq ?_; refine q_region ?_)
  refine ql_box rfl rfl (fun b2 => ?_)
  refine ql_box rfl rfl (fun b3 => ?_)
  (refine ql_pure tabOk rfl rfl ?_; refine q_nil ?_; refine q_seq ?_; refine q_region ?_; (iterate 2 refine ql_pure tabOk rfl rfl ?_); refine q_nil ?_; refine q_ret ?_)
  refine q_fin tabOk rfl (by repeat (first | exact RVs.nil | apply RVs.tmp rfl | apply RVs.cellA rfl rfl (by repeat first | exact .head _ | refine .tail _ ?_) (by rfl) | apply RVs.cell1 rfl rfl (by repeat first | exact .head _ | refine .tail _ ?_))) fun w hs => ?_
  exact ⟨(b2, b3), rfl, hs⟩

/-- The first of the least ones. -/
def bestStep (q : Int → Int × Int) (s : Int × (Int × Int)) (c : Int) : Int × (Int × Int) := if lessB (q c) s.2 then (c, q c) else s
def bestOf (q : Int → Int × Int) (l : List Int) : Int × (Int × Int) := l.foldl (bestStep q) (0, q 0)

theorem clickL_in (C near : Int) (hn : inB near (-C) C = true) : ∀ c ∈ clickL C near, inB c (-C) C = true := by
  intro c hc
  simp only [clickL, clickP, List.mem_flatMap] at hc
  obtain ⟨n, _, hc⟩ := hc
  unfold farL at hc
  split at hc
  · rw [List.mem_singleton.1 hc]; exact hn
  · exact (List.mem_filter.1 hc).2

theorem bestOf_fine (q : Int → Int × Int) (C : Int) (hfine : ∀ c, inB c (-C) C = true → Fine (q c)) (h0 : inB 0 (-C) C = true) : ∀ (l : List Int), (∀ c ∈ l, inB c (-C) C = true) → ∀ s, Fine s.2 → Fine (l.foldl (bestStep q) s).2
  | [], _, s, hs => hs
  | c :: l, hl, s, hs => by
    rw [List.foldl_cons]
    refine bestOf_fine q C hfine h0 l (fun c hc => hl c (List.mem_cons_of_mem _ hc)) _ ?_
    unfold bestStep
    split
    · exact hfine c (hl c List.mem_cons_self)
    · exact hs

set_option maxHeartbeats 1000000 in
theorem best_ca (w : World) (b : Nat) (r : Rg) (fv : Value) (q : Int → Int × Int) (hdk : DkAt w b r) (hC : 0 ≤ r.clicks ∧ r.clicks ≤ 6) (hfv : oneV fv = true) (hfine : ∀ c, inB c (-r.clicks) r.clicks = true → Fine (q c))
    (hbad : ∀ w', Chg [] w w' → ∀ c, inB c (-r.clicks) r.clicks = true → CaF Try.prog fv [.int .i64 c] w' (fun v w'' => v = rtV (q c) ∧ Chg [] w' w'')) :
    Ca Try.prog 21 [.pointer (some ⟨b, 0, none⟩), .agg #[fv]] w fun v w' => v = .tuple #[.int .i64 (bestOf q (clickL r.clicks 0)).1, rtV (bestOf q (clickL r.clicks 0)).2] ∧ Chg [] w w' := by
  have h0 : inB 0 (-r.clicks) r.clicks = true := inB_iff.2 (by omega)
  refine q_ofM (Sat.nil w M0) Try.func21 rfl (by simp [Try.ntmps21]) ?_
  (refine q_seq ?_; refine q_region ?_)
  refine ql_box rfl rfl (fun b3 => ?_)
  (refine ql_pure tabOk rfl rfl ?_)
  refine ql_alloc zero33 rfl (fun b5 => ?_)
  (refine q_nil ?_; refine q_seq ?_; refine q_region ?_; refine ql_pure tabOk rfl rfl ?_; refine ql_loadB tabOk rfl rfl rfl (by repeat first | exact .head _ | refine .tail _ ?_) (by rfl) ?_)
  refine ql_callFv rfl rfl rfl (fun w' hs => hbad w' hs.chg0 0 h0) ?_
  skip
  refine ql_alloc zero3 rfl (fun b6 => ?_)
  refine ql_alloc zero33 rfl (fun b7 => ?_)
  (refine ql_set tabOk rfl rfl rfl rfl (by repeat constructor) ?_; refine ql_setA tabOk rfl rfl rfl rfl rfl (by repeat constructor) rfl ?_; refine q_nil ?_; (iterate 2 refine q_seq ?_); refine q_region ?_; refine ql_pure tabOk rfl rfl ?_)
  refine ql_call (β := Nat × Nat) tabOk [] _ M0 rfl rfl rfl rfl (Sp.refl _) (fun _ h => h.elim) (fun w' hs => clicks_ca w' b 0) ?_
  rintro ⟨bd, bn⟩ _ rfl
  (refine q_nil ?_; refine q_block ?_)
  refine q_range (fun c => [Value.int .i64 c]) (Int × (Int × Int)) (clickL r.clicks 0) (fun pre s => s = pre.foldl (bestStep q) (0, q 0)) (fun _ _ => False)
    (fun s => [.pt b7 [.int .i64 s.2.1, .int .i64 s.2.2] 33, .pt b6 [.int .i64 s.1] 3, .pt b3 [fv] 58]) [.pt bn [.int .i64 0] 3, .pt bd [.pointer (some ⟨b, 0, none⟩)] 48, .pt b5 [.int .i64 0, .int .i64 0] 33] (0, q 0)
    rfl (by kernel_rfl) rfl (fun _ _ => rfl) rfl (by repeat (first | exact Sp.nil | exact Sp.refl _ | refine Sp.cons (by repeat constructor) ?_)) ?_ ?_ ?_ (fun _ _ _ h => h.elim)
  · intro w1 D hs hD
    exact clicks_it w w1 D b bd bn 0 r hdk (fun w' hc => hs.chg0.old hc (fun k hk => (hD k hk).2.resolve_left (fun h => h))) hC h0 (hs.blk (by repeat first | exact .head _ | refine .tail _ ?_)) (hs.blk (by repeat first | exact .head _ | refine .tail _ ?_)) (fun h => (hD _ h).1 ⟨.pt bd [.pointer (some ⟨b, 0, none⟩)] _, (by repeat first | exact .head _ | refine .tail _ ?_), rfl⟩) (fun h => (hD _ h).1 ⟨.pt bn [.int .i64 0] _, (by repeat first | exact .head _ | refine .tail _ ?_), rfl⟩)
  · intro pre x post s w1 l rdy bsy K F' hx hI hsat hR hbegin hend hret hexit
    have hxin : inB x (-r.clicks) r.clicks = true := clickL_in _ _ h0 x (by rw [hx]; simp)
    have hsf : Fine s.2 := by
      rw [hI]
      exact bestOf_fine q r.clicks hfine h0 pre (fun c hc => clickL_in _ _ h0 c (by rw [hx]; simp [hc])) _ (hfine 0 h0)
    (refine q_region ?_; refine ql_pure tabOk rfl rfl ?_; refine q_nil ?_)
    refine hbegin _ _ ?_
    (refine q_block ?_; refine q_seq ?_; refine q_region ?_; refine ql_pure tabOk rfl rfl ?_; refine ql_loadB tabOk rfl rfl rfl (by repeat first | exact .head _ | refine .tail _ ?_) (by rfl) ?_; refine ql_pure tabOk rfl rfl ?_)
    refine ql_callFv rfl rfl rfl (fun w' hs => hbad w' (hR w' hs.chg).chg0 x hxin) ?_
    skip
    refine ql_alloc zero33 rfl (fun b9 => ?_)
    (refine ql_setA tabOk rfl rfl rfl rfl rfl (by repeat constructor) rfl ?_; refine q_nil ?_; refine q_seq ?_; refine q_region ?_; (iterate 2 refine ql_loadAB tabOk rfl rfl rfl (by repeat first | exact .head _ | refine .tail _ ?_) (by rfl) (by rfl) ?_))
    refine ql_callv tabOk rfl rfl rfl rfl (fun w hs => less_ca (q x) s.2 w (hfine x hxin) hsf) ?_
    (refine q_nil ?_)
    refine q_cond rfl (fun hc => ?_) (fun hc => ?_)
    · skip
      refine q_draw _ [.pt b6 _ _, .pt b7 _ _] (Sp.cons (by repeat constructor) (Sp.cons (by repeat constructor) (Sp.refl _))) (by kernel_rfl) (by kernel_rfl) ?_
      (refine qf_pure tabOk rfl rfl rfl ?_; refine qf_loadAB tabOk rfl rfl rfl (by repeat first | exact .head _ | refine .tail _ ?_) (by rfl) (by rfl) ?_; refine qf_set tabOk rfl rfl rfl rfl (by repeat constructor) ?_; refine qf_setA tabOk rfl rfl rfl rfl rfl (by repeat constructor) rfl ?_; refine qf_nil ?_; refine q_blk ?_)
      refine hend _ _ (x, q x) ?_ (by repeat (first | exact Sp.nil | exact Sp.refl _ | refine Sp.cons (by repeat constructor) ?_))
      rw [List.foldl_append, ← hI]
      simp [bestStep, hc]
    · (refine q_skip ?_; refine q_blk ?_)
      refine hend _ _ s ?_ (by repeat (first | exact Sp.nil | exact Sp.refl _ | refine Sp.cons (by repeat constructor) ?_))
      rw [List.foldl_append, ← hI]
      simp [bestStep, hc]
  · rintro D s rfl
    (refine q_blk ?_; refine q_seq ?_)
    refine q_draw _ [.pt b5 _ _] (Sp.cons (by repeat constructor) (Sp.refl _)) (by kernel_rfl) (by kernel_rfl) ?_
    (refine qf_loadB tabOk rfl rfl rfl (by repeat first | exact .head _ | refine .tail _ ?_) (by rfl) ?_; refine qf_loadAB tabOk rfl rfl rfl (by repeat first | exact .head _ | refine .tail _ ?_) (by rfl) (by rfl) ?_; refine qf_pure tabOk rfl rfl rfl ?_; refine qf_setA tabOk rfl rfl rfl rfl rfl (by repeat constructor) rfl ?_; refine qf_nil ?_; refine q_ret ?_)
    refine q_finMD tabOk (by repeat constructor) rfl (by repeat (first | exact RVs.nil | apply RVs.tmp rfl | apply RVs.cellA rfl rfl (by repeat first | exact .head _ | refine .tail _ ?_) (by rfl) | apply RVs.cell1 rfl rfl (by repeat first | exact .head _ | refine .tail _ ?_))) fun w hs => ?_
    exact ⟨rfl, hs.chg0⟩

end Go.Proofs.Ytmbifbippnncoaa
