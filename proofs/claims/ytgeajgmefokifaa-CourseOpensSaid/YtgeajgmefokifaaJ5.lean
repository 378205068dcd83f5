/- My texts E14, joined: a claim takes at most 60 files. -/
import Derived.Test.YtgeajgmefokifaaJ4

/- The walk of CourseOpens. -/
namespace Go.Proofs.Ytgeajgmefokifaa
open Go Go.Eng

theorem rdII_nil (w : World) (lo hi : Nat) : RdII w lo hi (.slice none 0 0) [] := ⟨[], RdE.one ⟨rfl, .inl ⟨.inl rfl, rfl⟩⟩ (by simp), rfl, fun i h => absurd h (by simp)⟩
theorem sat_rdD {w0 w : World} {M : Nat → Prop} {H : List Ck} {v : Value} {t n : Nat} {l : List Dy} (hs : Sat w0 M H w) (hm : .ow v t 6 n (dyC l) ∈ H) (hn : n = l.length) : RdD w 0 w.heap.size v l := own_rdD (hs.mem hm) hn
theorem sat_rdS {w0 w : World} {M : Nat → Prop} {H : List Ck} {v : Value} {t n : Nat} {l : List (Int × Int)} (hs : Sat w0 M H w) (hm : .ow v t 2 n (spC l) ∈ H) (hn : n = l.length) : RdS w 0 w.heap.size v l := own_rdS (hs.mem hm) hn
theorem prf_flat : flatB Try.prog 70 [some .i64, some .i64] = true := by kernel_rfl
/-- What the first day that can fail is, or the error. -/
theorem open_cases (x : Wn) : (∃ e : Int, e ≠ 0 ∧ e ≠ 6 ∧ checkW x = e ∧ firstV x = (0, e) ∧ whyV x = ((0, 0), e)) ∨ (x.Right ∧ firstV x = (0, 6) ∧ whyV x = ((0, 0), 6)) ∨
    (x.Right ∧ ∃ f : Nat, ∃ g n : Int, firstV x = ((f : Int), 0) ∧ whyV x = ((g, (f : Int)), 0) ∧ provesV x g f = (n, 0) ∧ 1 ≤ n) := by
  by_cases h : checkW x = 0
  · have hx := checkW_iff.1 h
    rcases first_cases hx with ⟨h1, h2, _⟩ | ⟨f, h1, h2, h3, h4⟩
    · exact .inr (.inl ⟨hx, h1, h2⟩)
    · obtain ⟨g1, g2, g3, g4, g5⟩ := why_holds hx f h2
      have g6 := (hap_fail_iff x (worstW x) hx.stock (worst_fine hx).need0 x.days.length f).1 h2
      exact .inr (.inr ⟨hx, f, _, -sq x (worstW x) (f + 1), h3, h4, Prod.ext g2 g1, by omega⟩)
  · have := checkW_or x
    exact .inl ⟨checkW x, h, by omega, rfl, by unfold firstV; rw [if_pos h], by unfold whyV; rw [if_pos h]⟩
set_option maxRecDepth 20000 in
set_option maxHeartbeats 8000000 in
theorem courseOpens_ca (w : World) (lo hi : Nat) (x : Wn) (a : Option Addr) (c : Nat) (frm day : Int) (h : RdD w lo hi (.slice a x.days.length c) x.days) (hlen0 : x.days.length ≤ maxLen) :
    Ca Try.prog 9 [.agg (wnC x a c).toArray, rtV (frm, day)] w fun r w' => r = .bool true ∧ Chg [] w w' := by
  refine q_of (Sat.nil w M0) Try.func9 rfl (by simp [Try.ntmps9]) ?_
  (refine q_seq ?_; refine q_region ?_)
  refine ql_box rfl rfl (fun b2 => ?_)
  refine ql_box rfl rfl (fun b3 => ?_)
  (refine ql_pure tabOk rfl rfl ?_; refine q_nil ?_; (iterate 2 refine q_seq ?_); refine q_region ?_; refine ql_loadAB tabOk rfl rfl rfl (by repeat first | exact .head _ | refine .tail _ ?_) (by rfl) (by rfl) ?_)
  refine ql_callv (val := .bool (longB x.days.length [])) tabOk rfl rfl rfl rfl (fun w hs => ?_) ?_; exact longW_ca w 0 0 x a c (.slice none 0 0) [] (rdII_nil w 0 0) (by simp) (by simp) hlen0
  cases hlo : longB x.days.length [] with
  | true =>
    (refine q_nil ?_; refine q_cond_true rfl ?_; refine q_seq ?_; refine q_region ?_)
    refine ql_callv (val := .bool true) tabOk rfl rfl rfl rfl (fun w hs => ?_) ?_; exact awake_ca w
    (refine ql_pure tabOk rfl rfl ?_; refine q_nil ?_; refine q_ret ?_)
    refine q_fin tabOk rfl (by repeat (first | exact RVs.nil | apply RVs.tmp rfl | apply RVs.cellA rfl rfl (by repeat first | exact .head _ | refine .tail _ ?_) (by rfl) | apply RVs.cell1 rfl rfl (by repeat first | exact .head _ | refine .tail _ ?_))) fun w hs => ?_
    exact ⟨rfl, hs.chg0⟩
  | false =>
  have hlen : x.days.length ≤ 65 := (longB_no hlo).1
  clear hlo hlen0
  (refine q_nil ?_)
  refine q_cond_false rfl ?_
  skip
  refine q_skip ?_
  (refine q_seq ?_)
  refine q_cut (σ := (Nat × Nat) × (Option Addr × Nat) × (Option Addr × Nat)) (fun y => [(2, .pointer (some ⟨b2, 0, none⟩)), (3, .pointer (some ⟨b3, 0, none⟩)), (5, .pointer (some ⟨y.1.1, 0, none⟩)), (6, .pointer (some ⟨y.1.2, 0, none⟩))])
    (fun y => [.pt y.1.1 (wnC x y.2.1.1 y.2.1.2) 61, .pt y.1.2 (wnC x y.2.2.1 y.2.2.2) 93, .ow (.slice y.2.1.1 x.days.length y.2.1.2) 73 6 x.days.length (dyC x.days), .ow (.slice y.2.2.1 x.days.length y.2.2.2) 176 6 x.days.length (dyC x.days), .pt b2 (wnC x a c) 61, .pt b3 [.int .i64 frm, .int .i64 day] 70]) ?_ (fun K2 hK2 => ?_)
  rotate_left
  · skip
    refine q_drawT (.alt (chainT [0, 1] (.alt (chainT [2, 3] (.alt (chainT [4, 5, 6, 7] (.nil)) (chainT [5, 4, 6, 7] (.nil)))) (.alt (chainT [4] (.alt (chainT [2, 3, 5, 6, 7] (.nil)) (chainT [5, 2, 3, 6, 7] (.nil)))) (chainT [5] (.alt (chainT [2, 3, 4, 6, 7] (.nil)) (chainT [4, 2, 3, 6, 7] (.nil))))))) (.alt (chainT [4] (.alt (chainT [0, 1] (.alt (chainT [2, 3, 5, 6, 7] (.nil)) (chainT [5, 2, 3, 6, 7] (.nil)))) (chainT [5, 0, 1, 2, 3, 6, 7] (.nil)))) (chainT [5] (.alt (chainT [0, 1] (.alt (chainT [2, 3, 4, 6, 7] (.nil)) (chainT [4, 2, 3, 6, 7] (.nil)))) (chainT [4, 0, 1, 2, 3, 6, 7] (.nil)))))) _ [] (Sp.refl _) (by kernel_rfl) (by kernel_rfl) ?_
    refine qt_alt ?_ (qt_alt ?_ ?_)
    · skip
      refine qt_seg (by repeat (first | exact PickL.nil | (apply PickL.cons; rfl))) fun K1 hK1 => ?_
      (refine qf_loadAB tabOk rfl rfl rfl (by repeat first | exact .head _ | refine .tail _ ?_) (by rfl) (by rfl) ?_)
      refine qf_call (β := Option Addr × Nat) tabOk [] _ M0 rfl rfl rfl rfl (Sp.refl _) (fun _ h => h.elim) (fun w' hs => cloneW_ca w' lo hi x a c (RdE.keep h hs.chg0) (by omega)) ?_
      rintro ⟨ua, uc⟩ _ rfl
      dsimp only [List.cons_append, List.nil_append]
      (refine qf_nil ?_)
      refine hK1 _ _ ?_
      refine qt_alt ?_ (qt_alt ?_ ?_)
      · skip
        refine qt_seg (by repeat (first | exact PickL.nil | (apply PickL.cons; rfl))) fun K1 hK1 => ?_
        (refine qf_loadAB tabOk rfl rfl rfl (by repeat first | exact .head _ | refine .tail _ ?_) (by rfl) (by rfl) ?_)
        refine qf_call (β := Option Addr × Nat) tabOk [] _ M0 rfl rfl rfl rfl (Sp.refl _) (fun _ h => h.elim) (fun w' hs => rwin_ca w' lo hi x a c (RdE.keep h hs.chg0) (by omega)) ?_
        rintro ⟨ra, rc⟩ _ rfl
        dsimp only [List.cons_append, List.nil_append]
        (refine qf_nil ?_)
        refine hK1 _ _ ?_
        refine qt_alt ?_ ?_
        · skip
          refine qt_seg (by repeat (first | exact PickL.nil | (apply PickL.cons; rfl))) fun K1 hK1 => ?_
          skip
          refine qf_alloc zero61 rfl (fun b5 => ?_)
          skip
          refine qf_alloc zero93 rfl (fun b6 => ?_)
          ((iterate 2 refine qf_setA tabOk rfl rfl rfl rfl rfl (by repeat constructor) rfl ?_); refine qf_nil ?_)
          skip
          exact hK1 _ _ (qt_nil (hK2 ⟨(b5, b6), (ua, uc), (ra, rc)⟩ _ _ ⟨rfl, rfl, rfl, rfl, trivial⟩ (by repeat (first | exact Sp.nil | exact Sp.refl _ | refine Sp.cons (by repeat constructor) ?_))))
        · skip
          refine qt_seg (by repeat (first | exact PickL.nil | (apply PickL.cons; rfl))) fun K1 hK1 => ?_
          skip
          refine qf_alloc zero93 rfl (fun b6 => ?_)
          skip
          refine qf_alloc zero61 rfl (fun b5 => ?_)
          ((iterate 2 refine qf_setA tabOk rfl rfl rfl rfl rfl (by repeat constructor) rfl ?_); refine qf_nil ?_)
          skip
          exact hK1 _ _ (qt_nil (hK2 ⟨(b5, b6), (ua, uc), (ra, rc)⟩ _ _ ⟨rfl, rfl, rfl, rfl, trivial⟩ (by repeat (first | exact Sp.nil | exact Sp.refl _ | refine Sp.cons (by repeat constructor) ?_))))
      · skip
        refine qt_seg (by repeat (first | exact PickL.nil | (apply PickL.cons; rfl))) fun K1 hK1 => ?_
        skip
        refine qf_alloc zero61 rfl (fun b5 => ?_)
        (refine qf_nil ?_)
        refine hK1 _ _ ?_
        refine qt_alt ?_ ?_
        · skip
          refine qt_seg (by repeat (first | exact PickL.nil | (apply PickL.cons; rfl))) fun K1 hK1 => ?_
          (refine qf_loadAB tabOk rfl rfl rfl (by repeat first | exact .head _ | refine .tail _ ?_) (by rfl) (by rfl) ?_)
          refine qf_call (β := Option Addr × Nat) tabOk [] _ M0 rfl rfl rfl rfl (Sp.refl _) (fun _ h => h.elim) (fun w' hs => rwin_ca w' lo hi x a c (RdE.keep h hs.chg0) (by omega)) ?_
          rintro ⟨ra, rc⟩ _ rfl
          dsimp only [List.cons_append, List.nil_append]
          skip
          refine qf_alloc zero93 rfl (fun b6 => ?_)
          ((iterate 2 refine qf_setA tabOk rfl rfl rfl rfl rfl (by repeat constructor) rfl ?_); refine qf_nil ?_)
          skip
          exact hK1 _ _ (qt_nil (hK2 ⟨(b5, b6), (ua, uc), (ra, rc)⟩ _ _ ⟨rfl, rfl, rfl, rfl, trivial⟩ (by repeat (first | exact Sp.nil | exact Sp.refl _ | refine Sp.cons (by repeat constructor) ?_))))
        · skip
          refine qt_seg (by repeat (first | exact PickL.nil | (apply PickL.cons; rfl))) fun K1 hK1 => ?_
          skip
          refine qf_alloc zero93 rfl (fun b6 => ?_)
          (refine qf_loadAB tabOk rfl rfl rfl (by repeat first | exact .head _ | refine .tail _ ?_) (by rfl) (by rfl) ?_)
          refine qf_call (β := Option Addr × Nat) tabOk [] _ M0 rfl rfl rfl rfl (Sp.refl _) (fun _ h => h.elim) (fun w' hs => rwin_ca w' lo hi x a c (RdE.keep h hs.chg0) (by omega)) ?_
          rintro ⟨ra, rc⟩ _ rfl
          dsimp only [List.cons_append, List.nil_append]
          ((iterate 2 refine qf_setA tabOk rfl rfl rfl rfl rfl (by repeat constructor) rfl ?_); refine qf_nil ?_)
          skip
          exact hK1 _ _ (qt_nil (hK2 ⟨(b5, b6), (ua, uc), (ra, rc)⟩ _ _ ⟨rfl, rfl, rfl, rfl, trivial⟩ (by repeat (first | exact Sp.nil | exact Sp.refl _ | refine Sp.cons (by repeat constructor) ?_))))
      · skip
        refine qt_seg (by repeat (first | exact PickL.nil | (apply PickL.cons; rfl))) fun K1 hK1 => ?_
        skip
        refine qf_alloc zero93 rfl (fun b6 => ?_)
        (refine qf_nil ?_)
        refine hK1 _ _ ?_
        refine qt_alt ?_ ?_
        · skip
          refine qt_seg (by repeat (first | exact PickL.nil | (apply PickL.cons; rfl))) fun K1 hK1 => ?_
          (refine qf_loadAB tabOk rfl rfl rfl (by repeat first | exact .head _ | refine .tail _ ?_) (by rfl) (by rfl) ?_)
          refine qf_call (β := Option Addr × Nat) tabOk [] _ M0 rfl rfl rfl rfl (Sp.refl _) (fun _ h => h.elim) (fun w' hs => rwin_ca w' lo hi x a c (RdE.keep h hs.chg0) (by omega)) ?_
          rintro ⟨ra, rc⟩ _ rfl
          dsimp only [List.cons_append, List.nil_append]
          skip
          refine qf_alloc zero61 rfl (fun b5 => ?_)
          ((iterate 2 refine qf_setA tabOk rfl rfl rfl rfl rfl (by repeat constructor) rfl ?_); refine qf_nil ?_)
          skip
          exact hK1 _ _ (qt_nil (hK2 ⟨(b5, b6), (ua, uc), (ra, rc)⟩ _ _ ⟨rfl, rfl, rfl, rfl, trivial⟩ (by repeat (first | exact Sp.nil | exact Sp.refl _ | refine Sp.cons (by repeat constructor) ?_))))
        · skip
          refine qt_seg (by repeat (first | exact PickL.nil | (apply PickL.cons; rfl))) fun K1 hK1 => ?_
          skip
          refine qf_alloc zero61 rfl (fun b5 => ?_)
          (refine qf_loadAB tabOk rfl rfl rfl (by repeat first | exact .head _ | refine .tail _ ?_) (by rfl) (by rfl) ?_)
          refine qf_call (β := Option Addr × Nat) tabOk [] _ M0 rfl rfl rfl rfl (Sp.refl _) (fun _ h => h.elim) (fun w' hs => rwin_ca w' lo hi x a c (RdE.keep h hs.chg0) (by omega)) ?_
          rintro ⟨ra, rc⟩ _ rfl
          dsimp only [List.cons_append, List.nil_append]
          ((iterate 2 refine qf_setA tabOk rfl rfl rfl rfl rfl (by repeat constructor) rfl ?_); refine qf_nil ?_)
          skip
          exact hK1 _ _ (qt_nil (hK2 ⟨(b5, b6), (ua, uc), (ra, rc)⟩ _ _ ⟨rfl, rfl, rfl, rfl, trivial⟩ (by repeat (first | exact Sp.nil | exact Sp.refl _ | refine Sp.cons (by repeat constructor) ?_))))
    · skip
      refine qt_seg (by repeat (first | exact PickL.nil | (apply PickL.cons; rfl))) fun K1 hK1 => ?_
      skip
      refine qf_alloc zero61 rfl (fun b5 => ?_)
      (refine qf_nil ?_)
      refine hK1 _ _ ?_
      refine qt_alt ?_ ?_
      · skip
        refine qt_seg (by repeat (first | exact PickL.nil | (apply PickL.cons; rfl))) fun K1 hK1 => ?_
        (refine qf_loadAB tabOk rfl rfl rfl (by repeat first | exact .head _ | refine .tail _ ?_) (by rfl) (by rfl) ?_)
        refine qf_call (β := Option Addr × Nat) tabOk [] _ M0 rfl rfl rfl rfl (Sp.refl _) (fun _ h => h.elim) (fun w' hs => cloneW_ca w' lo hi x a c (RdE.keep h hs.chg0) (by omega)) ?_
        rintro ⟨ua, uc⟩ _ rfl
        dsimp only [List.cons_append, List.nil_append]
        (refine qf_nil ?_)
        refine hK1 _ _ ?_
        refine qt_alt ?_ ?_
        · skip
          refine qt_seg (by repeat (first | exact PickL.nil | (apply PickL.cons; rfl))) fun K1 hK1 => ?_
          (refine qf_loadAB tabOk rfl rfl rfl (by repeat first | exact .head _ | refine .tail _ ?_) (by rfl) (by rfl) ?_)
          refine qf_call (β := Option Addr × Nat) tabOk [] _ M0 rfl rfl rfl rfl (Sp.refl _) (fun _ h => h.elim) (fun w' hs => rwin_ca w' lo hi x a c (RdE.keep h hs.chg0) (by omega)) ?_
          rintro ⟨ra, rc⟩ _ rfl
          dsimp only [List.cons_append, List.nil_append]
          skip
          refine qf_alloc zero93 rfl (fun b6 => ?_)
          ((iterate 2 refine qf_setA tabOk rfl rfl rfl rfl rfl (by repeat constructor) rfl ?_); refine qf_nil ?_)
          skip
          exact hK1 _ _ (qt_nil (hK2 ⟨(b5, b6), (ua, uc), (ra, rc)⟩ _ _ ⟨rfl, rfl, rfl, rfl, trivial⟩ (by repeat (first | exact Sp.nil | exact Sp.refl _ | refine Sp.cons (by repeat constructor) ?_))))
        · skip
          refine qt_seg (by repeat (first | exact PickL.nil | (apply PickL.cons; rfl))) fun K1 hK1 => ?_
          skip
          refine qf_alloc zero93 rfl (fun b6 => ?_)
          (refine qf_loadAB tabOk rfl rfl rfl (by repeat first | exact .head _ | refine .tail _ ?_) (by rfl) (by rfl) ?_)
          refine qf_call (β := Option Addr × Nat) tabOk [] _ M0 rfl rfl rfl rfl (Sp.refl _) (fun _ h => h.elim) (fun w' hs => rwin_ca w' lo hi x a c (RdE.keep h hs.chg0) (by omega)) ?_
          rintro ⟨ra, rc⟩ _ rfl
          dsimp only [List.cons_append, List.nil_append]
          ((iterate 2 refine qf_setA tabOk rfl rfl rfl rfl rfl (by repeat constructor) rfl ?_); refine qf_nil ?_)
          skip
          exact hK1 _ _ (qt_nil (hK2 ⟨(b5, b6), (ua, uc), (ra, rc)⟩ _ _ ⟨rfl, rfl, rfl, rfl, trivial⟩ (by repeat (first | exact Sp.nil | exact Sp.refl _ | refine Sp.cons (by repeat constructor) ?_))))
      · skip
        refine qt_seg (by repeat (first | exact PickL.nil | (apply PickL.cons; rfl))) fun K1 hK1 => ?_
        skip
        refine qf_alloc zero93 rfl (fun b6 => ?_)
        (refine qf_loadAB tabOk rfl rfl rfl (by repeat first | exact .head _ | refine .tail _ ?_) (by rfl) (by rfl) ?_)
        refine qf_call (β := Option Addr × Nat) tabOk [] _ M0 rfl rfl rfl rfl (Sp.refl _) (fun _ h => h.elim) (fun w' hs => cloneW_ca w' lo hi x a c (RdE.keep h hs.chg0) (by omega)) ?_
        rintro ⟨ua, uc⟩ _ rfl
        dsimp only [List.cons_append, List.nil_append]
        (refine qf_loadAB tabOk rfl rfl rfl (by repeat first | exact .head _ | refine .tail _ ?_) (by rfl) (by rfl) ?_)
        refine qf_call (β := Option Addr × Nat) tabOk [] _ M0 rfl rfl rfl rfl (Sp.refl _) (fun _ h => h.elim) (fun w' hs => rwin_ca w' lo hi x a c (RdE.keep h hs.chg0) (by omega)) ?_
        rintro ⟨ra, rc⟩ _ rfl
        dsimp only [List.cons_append, List.nil_append]
        ((iterate 2 refine qf_setA tabOk rfl rfl rfl rfl rfl (by repeat constructor) rfl ?_); refine qf_nil ?_)
        skip
        exact hK1 _ _ (qt_nil (hK2 ⟨(b5, b6), (ua, uc), (ra, rc)⟩ _ _ ⟨rfl, rfl, rfl, rfl, trivial⟩ (by repeat (first | exact Sp.nil | exact Sp.refl _ | refine Sp.cons (by repeat constructor) ?_))))
    · skip
      refine qt_seg (by repeat (first | exact PickL.nil | (apply PickL.cons; rfl))) fun K1 hK1 => ?_
      skip
      refine qf_alloc zero93 rfl (fun b6 => ?_)
      (refine qf_nil ?_)
      refine hK1 _ _ ?_
      refine qt_alt ?_ ?_
      · skip
        refine qt_seg (by repeat (first | exact PickL.nil | (apply PickL.cons; rfl))) fun K1 hK1 => ?_
        (refine qf_loadAB tabOk rfl rfl rfl (by repeat first | exact .head _ | refine .tail _ ?_) (by rfl) (by rfl) ?_)
        refine qf_call (β := Option Addr × Nat) tabOk [] _ M0 rfl rfl rfl rfl (Sp.refl _) (fun _ h => h.elim) (fun w' hs => cloneW_ca w' lo hi x a c (RdE.keep h hs.chg0) (by omega)) ?_
        rintro ⟨ua, uc⟩ _ rfl
        dsimp only [List.cons_append, List.nil_append]
        (refine qf_nil ?_)
        refine hK1 _ _ ?_
        refine qt_alt ?_ ?_
        · skip
          refine qt_seg (by repeat (first | exact PickL.nil | (apply PickL.cons; rfl))) fun K1 hK1 => ?_
          (refine qf_loadAB tabOk rfl rfl rfl (by repeat first | exact .head _ | refine .tail _ ?_) (by rfl) (by rfl) ?_)
          refine qf_call (β := Option Addr × Nat) tabOk [] _ M0 rfl rfl rfl rfl (Sp.refl _) (fun _ h => h.elim) (fun w' hs => rwin_ca w' lo hi x a c (RdE.keep h hs.chg0) (by omega)) ?_
          rintro ⟨ra, rc⟩ _ rfl
          dsimp only [List.cons_append, List.nil_append]
          skip
          refine qf_alloc zero61 rfl (fun b5 => ?_)
          ((iterate 2 refine qf_setA tabOk rfl rfl rfl rfl rfl (by repeat constructor) rfl ?_); refine qf_nil ?_)
          skip
          exact hK1 _ _ (qt_nil (hK2 ⟨(b5, b6), (ua, uc), (ra, rc)⟩ _ _ ⟨rfl, rfl, rfl, rfl, trivial⟩ (by repeat (first | exact Sp.nil | exact Sp.refl _ | refine Sp.cons (by repeat constructor) ?_))))
        · skip
          refine qt_seg (by repeat (first | exact PickL.nil | (apply PickL.cons; rfl))) fun K1 hK1 => ?_
          skip
          refine qf_alloc zero61 rfl (fun b5 => ?_)
          (refine qf_loadAB tabOk rfl rfl rfl (by repeat first | exact .head _ | refine .tail _ ?_) (by rfl) (by rfl) ?_)
          refine qf_call (β := Option Addr × Nat) tabOk [] _ M0 rfl rfl rfl rfl (Sp.refl _) (fun _ h => h.elim) (fun w' hs => rwin_ca w' lo hi x a c (RdE.keep h hs.chg0) (by omega)) ?_
          rintro ⟨ra, rc⟩ _ rfl
          dsimp only [List.cons_append, List.nil_append]
          ((iterate 2 refine qf_setA tabOk rfl rfl rfl rfl rfl (by repeat constructor) rfl ?_); refine qf_nil ?_)
          skip
          exact hK1 _ _ (qt_nil (hK2 ⟨(b5, b6), (ua, uc), (ra, rc)⟩ _ _ ⟨rfl, rfl, rfl, rfl, trivial⟩ (by repeat (first | exact Sp.nil | exact Sp.refl _ | refine Sp.cons (by repeat constructor) ?_))))
      · skip
        refine qt_seg (by repeat (first | exact PickL.nil | (apply PickL.cons; rfl))) fun K1 hK1 => ?_
        skip
        refine qf_alloc zero61 rfl (fun b5 => ?_)
        (refine qf_loadAB tabOk rfl rfl rfl (by repeat first | exact .head _ | refine .tail _ ?_) (by rfl) (by rfl) ?_)
        refine qf_call (β := Option Addr × Nat) tabOk [] _ M0 rfl rfl rfl rfl (Sp.refl _) (fun _ h => h.elim) (fun w' hs => cloneW_ca w' lo hi x a c (RdE.keep h hs.chg0) (by omega)) ?_
        rintro ⟨ua, uc⟩ _ rfl
        dsimp only [List.cons_append, List.nil_append]
        (refine qf_loadAB tabOk rfl rfl rfl (by repeat first | exact .head _ | refine .tail _ ?_) (by rfl) (by rfl) ?_)
        refine qf_call (β := Option Addr × Nat) tabOk [] _ M0 rfl rfl rfl rfl (Sp.refl _) (fun _ h => h.elim) (fun w' hs => rwin_ca w' lo hi x a c (RdE.keep h hs.chg0) (by omega)) ?_
        rintro ⟨ra, rc⟩ _ rfl
        dsimp only [List.cons_append, List.nil_append]
        ((iterate 2 refine qf_setA tabOk rfl rfl rfl rfl rfl (by repeat constructor) rfl ?_); refine qf_nil ?_)
        skip
        exact hK1 _ _ (qt_nil (hK2 ⟨(b5, b6), (ua, uc), (ra, rc)⟩ _ _ ⟨rfl, rfl, rfl, rfl, trivial⟩ (by repeat (first | exact Sp.nil | exact Sp.refl _ | refine Sp.cons (by repeat constructor) ?_))))
  rintro ⟨⟨b5, b6⟩, ⟨ua, uc⟩, ⟨ra, rc⟩⟩
  dsimp only
  (refine q_seq ?_; refine q_region ?_; refine ql_loadAB tabOk rfl rfl rfl (by repeat first | exact .head _ | refine .tail _ ?_) (by rfl) (by rfl) ?_)
  refine ql_callv (val := .tuple #[.int .i64 (firstV x).1, .int .i64 (firstV x).2]) tabOk rfl rfl rfl rfl (fun w hs => ?_) ?_; exact first_ca w 0 w.heap.size x ua uc (sat_rdD hs (by repeat first | exact .head _ | refine .tail _ ?_) rfl) (by omega)
  (refine ql_pure tabOk rfl rfl ?_; (iterate 2 refine ql_ext tabOk rfl rfl rfl ?_); (iterate 2 refine ql_pure tabOk rfl rfl ?_); refine q_nil ?_; refine q_seq ?_; refine q_region ?_; refine ql_loadAB tabOk rfl rfl rfl (by repeat first | exact .head _ | refine .tail _ ?_) (by rfl) (by rfl) ?_)
  refine ql_callv (val := .tuple #[.int .i64 (firstV x).1, .int .i64 (firstV x).2]) tabOk rfl rfl rfl rfl (fun w hs => ?_) ?_; exact rfirst_ca w 0 w.heap.size x ra rc (sat_rdD hs (by repeat first | exact .head _ | refine .tail _ ?_) rfl) (by omega)
  (refine ql_pure tabOk rfl rfl ?_; (iterate 2 refine ql_ext tabOk rfl rfl rfl ?_); (iterate 2 refine ql_pure tabOk rfl rfl ?_); refine q_nil ?_; refine q_seq ?_; refine q_region ?_; refine ql_loadAB tabOk rfl rfl rfl (by repeat first | exact .head _ | refine .tail _ ?_) (by rfl) (by rfl) ?_)
  refine ql_callv (val := .tuple #[rtV (whyV x).1, .int .i64 (whyV x).2]) tabOk rfl rfl rfl rfl (fun w hs => ?_) ?_; exact why_ca w 0 w.heap.size x ua uc (sat_rdD hs (by repeat first | exact .head _ | refine .tail _ ?_) rfl) (by omega)
  (refine ql_pure tabOk rfl rfl ?_; (iterate 2 refine ql_ext tabOk rfl rfl rfl ?_))
  refine ql_alloc zero70 rfl (fun b11 => ?_)
  rcases open_cases x with ⟨e, he0, he6, hce, h1, h2⟩ | ⟨hx, h1, h2⟩ | ⟨hx, f, g, n, h1, h2, h3, hn⟩
  · rw [h1, h2]
    dsimp only
    (refine ql_setA tabOk rfl rfl rfl rfl rfl (by repeat constructor) rfl ?_; refine ql_pure tabOk rfl rfl ?_; refine q_nil ?_; (iterate 2 refine q_seq ?_); refine q_region ?_; (iterate 2 refine ql_pure tabOk rfl rfl ?_); refine ql_neqF tabOk rfl rfl rfl (by omega) ?_; refine ql_pure tabOk rfl rfl ?_; refine ql_gyes rfl ?_; refine ql_pure tabOk rfl rfl ?_; refine ql_gyes rfl ?_; refine ql_pure tabOk rfl rfl ?_; refine ql_gyes rfl ?_; refine ql_neqF tabOk rfl rfl rfl (by omega) ?_; (iterate 2 refine ql_pure tabOk rfl rfl ?_); refine ql_gyes rfl ?_; refine ql_pure tabOk rfl rfl ?_; refine ql_gyes rfl ?_; refine ql_pure tabOk rfl rfl ?_; refine ql_gyes rfl ?_; refine ql_neqF tabOk rfl rfl rfl (by omega) ?_; (iterate 2 refine ql_pure tabOk rfl rfl ?_); refine ql_gyes rfl ?_; refine ql_pure tabOk rfl rfl ?_; refine ql_gyes rfl ?_; refine ql_neqT tabOk rfl rfl rfl (by omega) ?_; refine ql_gyes rfl ?_; refine ql_pure tabOk rfl rfl ?_; refine ql_gyes rfl ?_; refine ql_loadAB tabOk rfl rfl rfl (by repeat first | exact .head _ | refine .tail _ ?_) (by rfl) (by rfl) ?_; refine ql_gyes rfl ?_)
    refine ql_mk #[.int .i64 0, .int .i64 0] rfl (by kernel_rfl) rfl ?_
    (refine ql_gyes rfl ?_)
    refine ql_neF [some .i64, some .i64] (xs := [.int .i64 0, .int .i64 0]) (ys := [.int .i64 0, .int .i64 0]) prf_flat rfl rfl rfl rfl rfl ?_
    rw [eqL_refl]
    (refine ql_gyes rfl ?_; (iterate 2 refine ql_pure tabOk rfl rfl ?_); refine q_nil ?_; refine q_cond_false rfl ?_; refine q_skip ?_; (iterate 2 refine q_seq ?_); refine q_region ?_; refine ql_pure tabOk rfl rfl ?_; refine ql_eqlF tabOk rfl rfl rfl (by omega) ?_; refine q_nil ?_; refine q_cond_false rfl ?_; refine q_skip ?_; refine q_seq ?_; refine q_region ?_; (iterate 2 refine ql_loadAB tabOk rfl rfl rfl (by repeat first | exact .head _ | refine .tail _ ?_) (by rfl) (by rfl) ?_))
    refine ql_callv (val := .tuple #[.int .i64 (provesV x frm day).1, .int .i64 (provesV x frm day).2]) tabOk rfl rfl rfl rfl (fun w hs => ?_) ?_; exact proves_ca w 0 w.heap.size x ua uc frm day (sat_rdD hs (by repeat first | exact .head _ | refine .tail _ ?_) rfl) (by omega)
    (refine ql_pure tabOk rfl rfl ?_; (iterate 2 refine ql_ext tabOk rfl rfl rfl ?_); (iterate 2 refine ql_pure tabOk rfl rfl ?_); refine q_nil ?_; refine q_seq ?_; refine q_region ?_; refine ql_loadAB tabOk rfl rfl rfl (by repeat first | exact .head _ | refine .tail _ ?_) (by rfl) (by rfl) ?_; refine ql_pure tabOk rfl rfl ?_; refine ql_loadB tabOk rfl rfl rfl (by repeat first | exact .head _ | refine .tail _ ?_) (by rfl) ?_; refine ql_pure tabOk rfl rfl ?_; refine ql_loadB tabOk rfl rfl rfl (by repeat first | exact .head _ | refine .tail _ ?_) (by rfl) ?_)
    refine ql_callv (val := .tuple #[.int .i64 (provesV x frm day).1, .int .i64 (provesV x frm day).2]) tabOk rfl rfl rfl rfl (fun w hs => ?_) ?_; exact rproves_ca w 0 w.heap.size x ra rc frm day (sat_rdD hs (by repeat first | exact .head _ | refine .tail _ ?_) rfl) (by omega)
    (refine ql_pure tabOk rfl rfl ?_; (iterate 2 refine ql_ext tabOk rfl rfl rfl ?_); (iterate 2 refine ql_pure tabOk rfl rfl ?_); refine q_nil ?_; (iterate 2 refine q_seq ?_); refine q_region ?_; (iterate 2 refine ql_pure tabOk rfl rfl ?_); refine ql_neqF tabOk rfl rfl rfl (by omega) ?_; refine ql_pure tabOk rfl rfl ?_; refine ql_gyes rfl ?_; refine ql_pure tabOk rfl rfl ?_; refine ql_gyes rfl ?_; refine ql_pure tabOk rfl rfl ?_; refine ql_gyes rfl ?_; refine ql_neqF tabOk rfl rfl rfl (by omega) ?_; refine ql_pure tabOk rfl rfl ?_; refine q_nil ?_; refine q_cond_false rfl ?_; refine q_skip ?_; refine q_seq ?_; refine q_region ?_; refine ql_loadAB tabOk rfl rfl rfl (by repeat first | exact .head _ | refine .tail _ ?_) (by rfl) (by rfl) ?_)
    refine ql_callv (val := .tuple #[.int .i64 (leastV x).1, .int .i64 (leastV x).2]) tabOk rfl rfl rfl rfl (fun w hs => ?_) ?_; exact least_ca w 0 w.heap.size x ua uc (sat_rdD hs (by repeat first | exact .head _ | refine .tail _ ?_) rfl) (by omega)
    (refine ql_pure tabOk rfl rfl ?_; (iterate 2 refine ql_ext tabOk rfl rfl rfl ?_); (iterate 2 refine ql_pure tabOk rfl rfl ?_); refine q_nil ?_; refine q_seq ?_; refine q_region ?_; refine ql_loadAB tabOk rfl rfl rfl (by repeat first | exact .head _ | refine .tail _ ?_) (by rfl) (by rfl) ?_)
    refine ql_callv (val := .tuple #[.int .i64 (leastV x).1, .int .i64 (leastV x).2]) tabOk rfl rfl rfl rfl (fun w hs => ?_) ?_; exact rleast_ca w 0 w.heap.size x ra rc (sat_rdD hs (by repeat first | exact .head _ | refine .tail _ ?_) rfl) (by omega)
    (refine ql_pure tabOk rfl rfl ?_; (iterate 2 refine ql_ext tabOk rfl rfl rfl ?_); (iterate 2 refine ql_pure tabOk rfl rfl ?_); refine q_nil ?_; (iterate 2 refine q_seq ?_); refine q_region ?_; (iterate 2 refine ql_pure tabOk rfl rfl ?_); refine ql_neqF tabOk rfl rfl rfl (by omega) ?_; refine ql_pure tabOk rfl rfl ?_; refine ql_gyes rfl ?_; refine ql_pure tabOk rfl rfl ?_; refine ql_gyes rfl ?_; refine ql_pure tabOk rfl rfl ?_; refine ql_gyes rfl ?_; refine ql_neqF tabOk rfl rfl rfl (by omega) ?_; refine ql_pure tabOk rfl rfl ?_; refine q_nil ?_; refine q_cond_false rfl ?_; refine q_skip ?_; refine q_seq ?_; refine q_region ?_; refine ql_loadAB tabOk rfl rfl rfl (by repeat first | exact .head _ | refine .tail _ ?_) (by rfl) (by rfl) ?_)
    refine ql_callv (val := .tuple #[.int .i64 (roomV x).1, .int .i64 (roomV x).2]) tabOk rfl rfl rfl rfl (fun w hs => ?_) ?_; exact room_ca w 0 w.heap.size x ua uc (sat_rdD hs (by repeat first | exact .head _ | refine .tail _ ?_) rfl) (by omega)
    (refine ql_pure tabOk rfl rfl ?_; (iterate 2 refine ql_ext tabOk rfl rfl rfl ?_); (iterate 2 refine ql_pure tabOk rfl rfl ?_); refine q_nil ?_; refine q_seq ?_; refine q_region ?_; refine ql_loadAB tabOk rfl rfl rfl (by repeat first | exact .head _ | refine .tail _ ?_) (by rfl) (by rfl) ?_)
    refine ql_callv (val := .tuple #[.int .i64 (roomV x).1, .int .i64 (roomV x).2]) tabOk rfl rfl rfl rfl (fun w hs => ?_) ?_; exact rroom_ca w 0 w.heap.size x ra rc (sat_rdD hs (by repeat first | exact .head _ | refine .tail _ ?_) rfl) (by omega)
    (refine ql_pure tabOk rfl rfl ?_; (iterate 2 refine ql_ext tabOk rfl rfl rfl ?_); (iterate 2 refine ql_pure tabOk rfl rfl ?_); refine q_nil ?_; (iterate 2 refine q_seq ?_); refine q_region ?_; (iterate 2 refine ql_pure tabOk rfl rfl ?_); refine ql_neqF tabOk rfl rfl rfl (by omega) ?_; refine ql_pure tabOk rfl rfl ?_; refine ql_gyes rfl ?_; refine ql_pure tabOk rfl rfl ?_; refine ql_gyes rfl ?_; refine ql_pure tabOk rfl rfl ?_; refine ql_gyes rfl ?_; refine ql_neqF tabOk rfl rfl rfl (by omega) ?_; refine ql_pure tabOk rfl rfl ?_; refine q_nil ?_; refine q_cond_false rfl ?_; refine q_skip ?_; refine q_seq ?_; refine q_region ?_; refine ql_loadAB tabOk rfl rfl rfl (by repeat first | exact .head _ | refine .tail _ ?_) (by rfl) (by rfl) ?_)
    refine ql_callv (val := .tuple #[.slice none 0 0, .int .i64 e]) tabOk rfl rfl rfl rfl (fun w hs => ?_) ?_; exact by have := ranges_no w 0 w.heap.size x ua uc (sat_rdD hs (by repeat first | exact .head _ | refine .tail _ ?_) rfl) (by omega) (by omega); rw [hce] at this; exact this
    (refine ql_pure tabOk rfl rfl ?_; (iterate 2 refine ql_ext tabOk rfl rfl rfl ?_); (iterate 2 refine ql_pure tabOk rfl rfl ?_); refine q_nil ?_; refine q_seq ?_; refine q_region ?_; refine ql_loadAB tabOk rfl rfl rfl (by repeat first | exact .head _ | refine .tail _ ?_) (by rfl) (by rfl) ?_)
    refine ql_callv (val := .tuple #[.slice none 0 0, .int .i64 e]) tabOk rfl rfl rfl rfl (fun w hs => ?_) ?_; exact by have := rranges_no w 0 w.heap.size x ra rc (sat_rdD (t := 176) hs (by repeat first | exact .head _ | refine .tail _ ?_) rfl) (by omega) (by omega); rw [hce] at this; exact this
    (refine ql_pure tabOk rfl rfl ?_; (iterate 2 refine ql_ext tabOk rfl rfl rfl ?_); (iterate 2 refine ql_pure tabOk rfl rfl ?_); refine q_nil ?_; refine q_seq ?_; refine q_region ?_; (iterate 2 refine ql_pure tabOk rfl rfl ?_); refine ql_eqlT tabOk rfl rfl rfl (by omega) ?_; refine ql_pure tabOk rfl rfl ?_; refine ql_gyes rfl ?_; refine ql_pure tabOk rfl rfl ?_; refine ql_gyes rfl ?_; refine ql_pure tabOk rfl rfl ?_; refine ql_gyes rfl ?_)
    refine ql_callv (val := .bool true) tabOk rfl rfl rfl rfl (fun w hs => ?_) ?_; exact eqS_ca w 0 w.heap.size 0 w.heap.size (.slice none 0 0) (.slice none 0 0) [] (RdS.of ⟨rfl, .inl ⟨.inl rfl, rfl⟩⟩) (RdS.of ⟨rfl, .inl ⟨.inl rfl, rfl⟩⟩) (by simp)
    ((iterate 2 refine ql_pure tabOk rfl rfl ?_); refine ql_gyes rfl ?_; refine ql_loadAB tabOk rfl rfl rfl (by repeat first | exact .head _ | refine .tail _ ?_) (by rfl) (by rfl) ?_; refine ql_gyes rfl ?_; refine ql_loadAB tabOk rfl rfl rfl (by repeat first | exact .head _ | refine .tail _ ?_) (by rfl) (by rfl) ?_; refine ql_gyes rfl ?_)
    refine ql_callv (val := .bool true) tabOk rfl rfl rfl rfl (fun w hs => ?_) ?_; exact sameW_ca w 0 w.heap.size lo hi x ua a uc c (sat_rdD hs (by repeat first | exact .head _ | refine .tail _ ?_) rfl) (RdE.keep h hs.chg0) (by omega)
    ((iterate 2 refine ql_pure tabOk rfl rfl ?_); refine ql_gyes rfl ?_)
    refine ql_callv (val := .bool true) tabOk rfl rfl rfl rfl (fun w hs => ?_) ?_; exact awake_ca w
    ((iterate 2 refine ql_pure tabOk rfl rfl ?_); refine q_nil ?_; refine q_ret ?_)
    refine q_fin tabOk rfl (by repeat (first | exact RVs.nil | apply RVs.tmp rfl | apply RVs.cellA rfl rfl (by repeat first | exact .head _ | refine .tail _ ?_) (by rfl) | apply RVs.cell1 rfl rfl (by repeat first | exact .head _ | refine .tail _ ?_))) fun w hs => ?_
    exact ⟨rfl, hs.chg0⟩
  · rw [h1, h2]
    dsimp only
    (refine ql_setA tabOk rfl rfl rfl rfl rfl (by repeat constructor) rfl ?_; refine ql_pure tabOk rfl rfl ?_; refine q_nil ?_; (iterate 2 refine q_seq ?_); refine q_region ?_; (iterate 2 refine ql_pure tabOk rfl rfl ?_); refine ql_neqF tabOk rfl rfl rfl (by omega) ?_; refine ql_pure tabOk rfl rfl ?_; refine ql_gyes rfl ?_; refine ql_pure tabOk rfl rfl ?_; refine ql_gyes rfl ?_; refine ql_pure tabOk rfl rfl ?_; refine ql_gyes rfl ?_; refine ql_neqF tabOk rfl rfl rfl (by omega) ?_; (iterate 2 refine ql_pure tabOk rfl rfl ?_); refine ql_gyes rfl ?_; refine ql_pure tabOk rfl rfl ?_; refine ql_gyes rfl ?_; refine ql_pure tabOk rfl rfl ?_; refine ql_gyes rfl ?_; refine ql_neqF tabOk rfl rfl rfl (by omega) ?_; (iterate 2 refine ql_pure tabOk rfl rfl ?_); refine ql_gyes rfl ?_; refine ql_pure tabOk rfl rfl ?_; refine ql_gyes rfl ?_; refine ql_neqT tabOk rfl rfl rfl (by omega) ?_; refine ql_gyes rfl ?_; refine ql_pure tabOk rfl rfl ?_; refine ql_gyes rfl ?_; refine ql_loadAB tabOk rfl rfl rfl (by repeat first | exact .head _ | refine .tail _ ?_) (by rfl) (by rfl) ?_; refine ql_gyes rfl ?_)
    refine ql_mk #[.int .i64 0, .int .i64 0] rfl (by kernel_rfl) rfl ?_
    (refine ql_gyes rfl ?_)
    refine ql_neF [some .i64, some .i64] (xs := [.int .i64 0, .int .i64 0]) (ys := [.int .i64 0, .int .i64 0]) prf_flat rfl rfl rfl rfl rfl ?_
    rw [eqL_refl]
    (refine ql_gyes rfl ?_; (iterate 2 refine ql_pure tabOk rfl rfl ?_); refine q_nil ?_; refine q_cond_false rfl ?_; refine q_skip ?_; (iterate 2 refine q_seq ?_); refine q_region ?_; refine ql_pure tabOk rfl rfl ?_; refine ql_eqlF tabOk rfl rfl rfl (by omega) ?_; refine q_nil ?_; refine q_cond_false rfl ?_; refine q_skip ?_; refine q_seq ?_; refine q_region ?_; (iterate 2 refine ql_loadAB tabOk rfl rfl rfl (by repeat first | exact .head _ | refine .tail _ ?_) (by rfl) (by rfl) ?_))
    refine ql_callv (val := .tuple #[.int .i64 (provesV x frm day).1, .int .i64 (provesV x frm day).2]) tabOk rfl rfl rfl rfl (fun w hs => ?_) ?_; exact proves_ca w 0 w.heap.size x ua uc frm day (sat_rdD hs (by repeat first | exact .head _ | refine .tail _ ?_) rfl) (by omega)
    (refine ql_pure tabOk rfl rfl ?_; (iterate 2 refine ql_ext tabOk rfl rfl rfl ?_); (iterate 2 refine ql_pure tabOk rfl rfl ?_); refine q_nil ?_; refine q_seq ?_; refine q_region ?_; refine ql_loadAB tabOk rfl rfl rfl (by repeat first | exact .head _ | refine .tail _ ?_) (by rfl) (by rfl) ?_; refine ql_pure tabOk rfl rfl ?_; refine ql_loadB tabOk rfl rfl rfl (by repeat first | exact .head _ | refine .tail _ ?_) (by rfl) ?_; refine ql_pure tabOk rfl rfl ?_; refine ql_loadB tabOk rfl rfl rfl (by repeat first | exact .head _ | refine .tail _ ?_) (by rfl) ?_)
    refine ql_callv (val := .tuple #[.int .i64 (provesV x frm day).1, .int .i64 (provesV x frm day).2]) tabOk rfl rfl rfl rfl (fun w hs => ?_) ?_; exact rproves_ca w 0 w.heap.size x ra rc frm day (sat_rdD hs (by repeat first | exact .head _ | refine .tail _ ?_) rfl) (by omega)
    (refine ql_pure tabOk rfl rfl ?_; (iterate 2 refine ql_ext tabOk rfl rfl rfl ?_); (iterate 2 refine ql_pure tabOk rfl rfl ?_); refine q_nil ?_; (iterate 2 refine q_seq ?_); refine q_region ?_; (iterate 2 refine ql_pure tabOk rfl rfl ?_); refine ql_neqF tabOk rfl rfl rfl (by omega) ?_; refine ql_pure tabOk rfl rfl ?_; refine ql_gyes rfl ?_; refine ql_pure tabOk rfl rfl ?_; refine ql_gyes rfl ?_; refine ql_pure tabOk rfl rfl ?_; refine ql_gyes rfl ?_; refine ql_neqF tabOk rfl rfl rfl (by omega) ?_; refine ql_pure tabOk rfl rfl ?_; refine q_nil ?_; refine q_cond_false rfl ?_; refine q_skip ?_; refine q_seq ?_; refine q_region ?_; refine ql_loadAB tabOk rfl rfl rfl (by repeat first | exact .head _ | refine .tail _ ?_) (by rfl) (by rfl) ?_)
    refine ql_callv (val := .tuple #[.int .i64 (leastV x).1, .int .i64 (leastV x).2]) tabOk rfl rfl rfl rfl (fun w hs => ?_) ?_; exact least_ca w 0 w.heap.size x ua uc (sat_rdD hs (by repeat first | exact .head _ | refine .tail _ ?_) rfl) (by omega)
    (refine ql_pure tabOk rfl rfl ?_; (iterate 2 refine ql_ext tabOk rfl rfl rfl ?_); (iterate 2 refine ql_pure tabOk rfl rfl ?_); refine q_nil ?_; refine q_seq ?_; refine q_region ?_; refine ql_loadAB tabOk rfl rfl rfl (by repeat first | exact .head _ | refine .tail _ ?_) (by rfl) (by rfl) ?_)
    refine ql_callv (val := .tuple #[.int .i64 (leastV x).1, .int .i64 (leastV x).2]) tabOk rfl rfl rfl rfl (fun w hs => ?_) ?_; exact rleast_ca w 0 w.heap.size x ra rc (sat_rdD hs (by repeat first | exact .head _ | refine .tail _ ?_) rfl) (by omega)
    (refine ql_pure tabOk rfl rfl ?_; (iterate 2 refine ql_ext tabOk rfl rfl rfl ?_); (iterate 2 refine ql_pure tabOk rfl rfl ?_); refine q_nil ?_; (iterate 2 refine q_seq ?_); refine q_region ?_; (iterate 2 refine ql_pure tabOk rfl rfl ?_); refine ql_neqF tabOk rfl rfl rfl (by omega) ?_; refine ql_pure tabOk rfl rfl ?_; refine ql_gyes rfl ?_; refine ql_pure tabOk rfl rfl ?_; refine ql_gyes rfl ?_; refine ql_pure tabOk rfl rfl ?_; refine ql_gyes rfl ?_; refine ql_neqF tabOk rfl rfl rfl (by omega) ?_; refine ql_pure tabOk rfl rfl ?_; refine q_nil ?_; refine q_cond_false rfl ?_; refine q_skip ?_; refine q_seq ?_; refine q_region ?_; refine ql_loadAB tabOk rfl rfl rfl (by repeat first | exact .head _ | refine .tail _ ?_) (by rfl) (by rfl) ?_)
    refine ql_callv (val := .tuple #[.int .i64 (roomV x).1, .int .i64 (roomV x).2]) tabOk rfl rfl rfl rfl (fun w hs => ?_) ?_; exact room_ca w 0 w.heap.size x ua uc (sat_rdD hs (by repeat first | exact .head _ | refine .tail _ ?_) rfl) (by omega)
    (refine ql_pure tabOk rfl rfl ?_; (iterate 2 refine ql_ext tabOk rfl rfl rfl ?_); (iterate 2 refine ql_pure tabOk rfl rfl ?_); refine q_nil ?_; refine q_seq ?_; refine q_region ?_; refine ql_loadAB tabOk rfl rfl rfl (by repeat first | exact .head _ | refine .tail _ ?_) (by rfl) (by rfl) ?_)
    refine ql_callv (val := .tuple #[.int .i64 (roomV x).1, .int .i64 (roomV x).2]) tabOk rfl rfl rfl rfl (fun w hs => ?_) ?_; exact rroom_ca w 0 w.heap.size x ra rc (sat_rdD hs (by repeat first | exact .head _ | refine .tail _ ?_) rfl) (by omega)
    (refine ql_pure tabOk rfl rfl ?_; (iterate 2 refine ql_ext tabOk rfl rfl rfl ?_); (iterate 2 refine ql_pure tabOk rfl rfl ?_); refine q_nil ?_; (iterate 2 refine q_seq ?_); refine q_region ?_; (iterate 2 refine ql_pure tabOk rfl rfl ?_); refine ql_neqF tabOk rfl rfl rfl (by omega) ?_; refine ql_pure tabOk rfl rfl ?_; refine ql_gyes rfl ?_; refine ql_pure tabOk rfl rfl ?_; refine ql_gyes rfl ?_; refine ql_pure tabOk rfl rfl ?_; refine ql_gyes rfl ?_; refine ql_neqF tabOk rfl rfl rfl (by omega) ?_; refine ql_pure tabOk rfl rfl ?_; refine q_nil ?_; refine q_cond_false rfl ?_; refine q_skip ?_; refine q_seq ?_; refine q_region ?_; refine ql_loadAB tabOk rfl rfl rfl (by repeat first | exact .head _ | refine .tail _ ?_) (by rfl) (by rfl) ?_)
    refine ql_call (β := Value) tabOk [] _ M0 rfl rfl rfl rfl (Sp.refl _) (fun _ h => h.elim) (fun w' hs => ranges_ok w' 0 w'.heap.size x ua uc (sat_rdD hs (by repeat first | exact .head _ | refine .tail _ ?_) rfl) hx) ?_
    rintro v1 _ rfl
    dsimp only [List.cons_append, List.nil_append]
    (refine ql_pure tabOk rfl rfl ?_; (iterate 2 refine ql_ext tabOk rfl rfl rfl ?_); (iterate 2 refine ql_pure tabOk rfl rfl ?_); refine q_nil ?_; refine q_seq ?_; refine q_region ?_; refine ql_loadAB tabOk rfl rfl rfl (by repeat first | exact .head _ | refine .tail _ ?_) (by rfl) (by rfl) ?_)
    refine ql_call (β := Value) tabOk [] _ M0 rfl rfl rfl rfl (Sp.refl _) (fun _ h => h.elim) (fun w' hs => rranges_ok w' 0 w'.heap.size x ra rc (sat_rdD (t := 176) hs (by repeat first | exact .head _ | refine .tail _ ?_) rfl) hx) ?_
    rintro v2 _ rfl
    dsimp only [List.cons_append, List.nil_append]
    have hrl : (rangesV x).length ≤ 60 := by
      have h1 := (hap_len hx (worst_fine hx)).1
      have h2 := hx.d2
      simp only [rangesV, List.length_map, List.length_range]
      omega
    (refine ql_pure tabOk rfl rfl ?_; (iterate 2 refine ql_ext tabOk rfl rfl rfl ?_); (iterate 2 refine ql_pure tabOk rfl rfl ?_); refine q_nil ?_; refine q_seq ?_; refine q_region ?_; (iterate 2 refine ql_pure tabOk rfl rfl ?_); refine ql_eqlT tabOk rfl rfl rfl (by omega) ?_; refine ql_pure tabOk rfl rfl ?_; refine ql_gyes rfl ?_; refine ql_pure tabOk rfl rfl ?_; refine ql_gyes rfl ?_; refine ql_pure tabOk rfl rfl ?_; refine ql_gyes rfl ?_)
    refine ql_callv (val := .bool true) tabOk rfl rfl rfl rfl (fun w hs => ?_) ?_; exact eqS_ca w 0 w.heap.size 0 w.heap.size v1 v2 (rangesV x) (sat_rdS hs (by repeat first | exact .head _ | refine .tail _ ?_) rfl) (sat_rdS hs (by repeat first | exact .head _ | refine .tail _ ?_) rfl) (by omega)
    ((iterate 2 refine ql_pure tabOk rfl rfl ?_); refine ql_gyes rfl ?_; refine ql_loadAB tabOk rfl rfl rfl (by repeat first | exact .head _ | refine .tail _ ?_) (by rfl) (by rfl) ?_; refine ql_gyes rfl ?_; refine ql_loadAB tabOk rfl rfl rfl (by repeat first | exact .head _ | refine .tail _ ?_) (by rfl) (by rfl) ?_; refine ql_gyes rfl ?_)
    refine ql_callv (val := .bool true) tabOk rfl rfl rfl rfl (fun w hs => ?_) ?_; exact sameW_ca w 0 w.heap.size lo hi x ua a uc c (sat_rdD hs (by repeat first | exact .head _ | refine .tail _ ?_) rfl) (RdE.keep h hs.chg0) (by omega)
    ((iterate 2 refine ql_pure tabOk rfl rfl ?_); refine ql_gyes rfl ?_)
    refine ql_callv (val := .bool true) tabOk rfl rfl rfl rfl (fun w hs => ?_) ?_; exact awake_ca w
    ((iterate 2 refine ql_pure tabOk rfl rfl ?_); refine q_nil ?_; refine q_ret ?_)
    refine q_fin tabOk rfl (by repeat (first | exact RVs.nil | apply RVs.tmp rfl | apply RVs.cellA rfl rfl (by repeat first | exact .head _ | refine .tail _ ?_) (by rfl) | apply RVs.cell1 rfl rfl (by repeat first | exact .head _ | refine .tail _ ?_))) fun w hs => ?_
    exact ⟨rfl, hs.chg0⟩
  · rw [h1, h2]
    dsimp only
    (refine ql_setA tabOk rfl rfl rfl rfl rfl (by repeat constructor) rfl ?_; refine ql_pure tabOk rfl rfl ?_; refine q_nil ?_; (iterate 2 refine q_seq ?_); refine q_region ?_; (iterate 2 refine ql_pure tabOk rfl rfl ?_); refine ql_neqF tabOk rfl rfl rfl (by omega) ?_; refine ql_pure tabOk rfl rfl ?_; refine ql_gyes rfl ?_; refine ql_pure tabOk rfl rfl ?_; refine ql_gyes rfl ?_; refine ql_pure tabOk rfl rfl ?_; refine ql_gyes rfl ?_; refine ql_neqF tabOk rfl rfl rfl (by omega) ?_; (iterate 2 refine ql_pure tabOk rfl rfl ?_); refine ql_gyes rfl ?_; refine ql_pure tabOk rfl rfl ?_; refine ql_gyes rfl ?_; refine ql_pure tabOk rfl rfl ?_; refine ql_gyes rfl ?_; refine ql_neqF tabOk rfl rfl rfl (by omega) ?_; (iterate 2 refine ql_pure tabOk rfl rfl ?_); refine ql_gyes rfl ?_; refine ql_pure tabOk rfl rfl ?_; refine ql_gyes rfl ?_; refine ql_neqF tabOk rfl rfl rfl (by omega) ?_; refine ql_gyes rfl ?_; refine ql_pure tabOk rfl rfl ?_; (iterate 3 refine ql_gno rfl rfl rfl ?_); refine ql_gyes rfl ?_; (iterate 2 refine ql_pure tabOk rfl rfl ?_); refine q_nil ?_; refine q_cond_false rfl ?_; refine q_skip ?_; (iterate 2 refine q_seq ?_); refine q_region ?_; refine ql_pure tabOk rfl rfl ?_; refine ql_eqlT tabOk rfl rfl rfl (by omega) ?_; refine q_nil ?_; refine q_cond_true rfl ?_; refine q_seq ?_; refine q_region ?_; refine ql_loadAB tabOk rfl rfl rfl (by repeat first | exact .head _ | refine .tail _ ?_) (by rfl) (by rfl) ?_; refine ql_pure tabOk rfl rfl ?_; refine ql_loadB tabOk rfl rfl rfl (by repeat first | exact .head _ | refine .tail _ ?_) (by rfl) ?_; refine ql_pure tabOk rfl rfl ?_; refine ql_loadB tabOk rfl rfl rfl (by repeat first | exact .head _ | refine .tail _ ?_) (by rfl) ?_)
    refine ql_callv (val := .tuple #[.int .i64 n, .int .i64 0]) tabOk rfl rfl rfl rfl (fun w hs => ?_) ?_; exact by have := rproves_ca w 0 w.heap.size x ra rc g f (sat_rdD hs (by repeat first | exact .head _ | refine .tail _ ?_) rfl) (by omega); rw [h3] at this; exact this
    (refine ql_pure tabOk rfl rfl ?_; (iterate 2 refine ql_ext tabOk rfl rfl rfl ?_); (iterate 2 refine ql_pure tabOk rfl rfl ?_); refine q_nil ?_; refine q_seq ?_; refine q_region ?_; refine ql_pure tabOk rfl rfl ?_; refine ql_neqF tabOk rfl rfl rfl (by omega) ?_; refine ql_pure tabOk rfl rfl ?_; refine ql_gyes rfl ?_; refine ql_pure tabOk rfl rfl ?_; refine ql_gyes rfl ?_; refine ql_lssF tabOk rfl rfl rfl (by omega) ?_; (iterate 2 refine ql_pure tabOk rfl rfl ?_); refine ql_gyes rfl ?_; refine ql_pure tabOk rfl rfl ?_; refine ql_gyes rfl ?_; refine ql_loadB tabOk rfl rfl rfl (by repeat first | exact .head _ | refine .tail _ ?_) (by rfl) ?_; refine ql_gyes rfl ?_; refine ql_pure tabOk rfl rfl ?_; refine ql_gyes rfl ?_; refine ql_neqF tabOk rfl rfl rfl (by omega) ?_; refine ql_pure tabOk rfl rfl ?_; refine q_nil ?_; refine q_cond_false rfl ?_; refine q_skip ?_; refine q_seq ?_; refine q_region ?_; (iterate 2 refine ql_loadAB tabOk rfl rfl rfl (by repeat first | exact .head _ | refine .tail _ ?_) (by rfl) (by rfl) ?_))
    refine ql_callv (val := .tuple #[.int .i64 (provesV x frm day).1, .int .i64 (provesV x frm day).2]) tabOk rfl rfl rfl rfl (fun w hs => ?_) ?_; exact proves_ca w 0 w.heap.size x ua uc frm day (sat_rdD hs (by repeat first | exact .head _ | refine .tail _ ?_) rfl) (by omega)
    (refine ql_pure tabOk rfl rfl ?_; (iterate 2 refine ql_ext tabOk rfl rfl rfl ?_); (iterate 2 refine ql_pure tabOk rfl rfl ?_); refine q_nil ?_; refine q_seq ?_; refine q_region ?_; refine ql_loadAB tabOk rfl rfl rfl (by repeat first | exact .head _ | refine .tail _ ?_) (by rfl) (by rfl) ?_; refine ql_pure tabOk rfl rfl ?_; refine ql_loadB tabOk rfl rfl rfl (by repeat first | exact .head _ | refine .tail _ ?_) (by rfl) ?_; refine ql_pure tabOk rfl rfl ?_; refine ql_loadB tabOk rfl rfl rfl (by repeat first | exact .head _ | refine .tail _ ?_) (by rfl) ?_)
    refine ql_callv (val := .tuple #[.int .i64 (provesV x frm day).1, .int .i64 (provesV x frm day).2]) tabOk rfl rfl rfl rfl (fun w hs => ?_) ?_; exact rproves_ca w 0 w.heap.size x ra rc frm day (sat_rdD hs (by repeat first | exact .head _ | refine .tail _ ?_) rfl) (by omega)
    (refine ql_pure tabOk rfl rfl ?_; (iterate 2 refine ql_ext tabOk rfl rfl rfl ?_); (iterate 2 refine ql_pure tabOk rfl rfl ?_); refine q_nil ?_; (iterate 2 refine q_seq ?_); refine q_region ?_; (iterate 2 refine ql_pure tabOk rfl rfl ?_); refine ql_neqF tabOk rfl rfl rfl (by omega) ?_; refine ql_pure tabOk rfl rfl ?_; refine ql_gyes rfl ?_; refine ql_pure tabOk rfl rfl ?_; refine ql_gyes rfl ?_; refine ql_pure tabOk rfl rfl ?_; refine ql_gyes rfl ?_; refine ql_neqF tabOk rfl rfl rfl (by omega) ?_; refine ql_pure tabOk rfl rfl ?_; refine q_nil ?_; refine q_cond_false rfl ?_; refine q_skip ?_; refine q_seq ?_; refine q_region ?_; refine ql_loadAB tabOk rfl rfl rfl (by repeat first | exact .head _ | refine .tail _ ?_) (by rfl) (by rfl) ?_)
    refine ql_callv (val := .tuple #[.int .i64 (leastV x).1, .int .i64 (leastV x).2]) tabOk rfl rfl rfl rfl (fun w hs => ?_) ?_; exact least_ca w 0 w.heap.size x ua uc (sat_rdD hs (by repeat first | exact .head _ | refine .tail _ ?_) rfl) (by omega)
    (refine ql_pure tabOk rfl rfl ?_; (iterate 2 refine ql_ext tabOk rfl rfl rfl ?_); (iterate 2 refine ql_pure tabOk rfl rfl ?_); refine q_nil ?_; refine q_seq ?_; refine q_region ?_; refine ql_loadAB tabOk rfl rfl rfl (by repeat first | exact .head _ | refine .tail _ ?_) (by rfl) (by rfl) ?_)
    refine ql_callv (val := .tuple #[.int .i64 (leastV x).1, .int .i64 (leastV x).2]) tabOk rfl rfl rfl rfl (fun w hs => ?_) ?_; exact rleast_ca w 0 w.heap.size x ra rc (sat_rdD hs (by repeat first | exact .head _ | refine .tail _ ?_) rfl) (by omega)
    (refine ql_pure tabOk rfl rfl ?_; (iterate 2 refine ql_ext tabOk rfl rfl rfl ?_); (iterate 2 refine ql_pure tabOk rfl rfl ?_); refine q_nil ?_; (iterate 2 refine q_seq ?_); refine q_region ?_; (iterate 2 refine ql_pure tabOk rfl rfl ?_); refine ql_neqF tabOk rfl rfl rfl (by omega) ?_; refine ql_pure tabOk rfl rfl ?_; refine ql_gyes rfl ?_; refine ql_pure tabOk rfl rfl ?_; refine ql_gyes rfl ?_; refine ql_pure tabOk rfl rfl ?_; refine ql_gyes rfl ?_; refine ql_neqF tabOk rfl rfl rfl (by omega) ?_; refine ql_pure tabOk rfl rfl ?_; refine q_nil ?_; refine q_cond_false rfl ?_; refine q_skip ?_; refine q_seq ?_; refine q_region ?_; refine ql_loadAB tabOk rfl rfl rfl (by repeat first | exact .head _ | refine .tail _ ?_) (by rfl) (by rfl) ?_)
    refine ql_callv (val := .tuple #[.int .i64 (roomV x).1, .int .i64 (roomV x).2]) tabOk rfl rfl rfl rfl (fun w hs => ?_) ?_; exact room_ca w 0 w.heap.size x ua uc (sat_rdD hs (by repeat first | exact .head _ | refine .tail _ ?_) rfl) (by omega)
    (refine ql_pure tabOk rfl rfl ?_; (iterate 2 refine ql_ext tabOk rfl rfl rfl ?_); (iterate 2 refine ql_pure tabOk rfl rfl ?_); refine q_nil ?_; refine q_seq ?_; refine q_region ?_; refine ql_loadAB tabOk rfl rfl rfl (by repeat first | exact .head _ | refine .tail _ ?_) (by rfl) (by rfl) ?_)
    refine ql_callv (val := .tuple #[.int .i64 (roomV x).1, .int .i64 (roomV x).2]) tabOk rfl rfl rfl rfl (fun w hs => ?_) ?_; exact rroom_ca w 0 w.heap.size x ra rc (sat_rdD hs (by repeat first | exact .head _ | refine .tail _ ?_) rfl) (by omega)
    (refine ql_pure tabOk rfl rfl ?_; (iterate 2 refine ql_ext tabOk rfl rfl rfl ?_); (iterate 2 refine ql_pure tabOk rfl rfl ?_); refine q_nil ?_; (iterate 2 refine q_seq ?_); refine q_region ?_; (iterate 2 refine ql_pure tabOk rfl rfl ?_); refine ql_neqF tabOk rfl rfl rfl (by omega) ?_; refine ql_pure tabOk rfl rfl ?_; refine ql_gyes rfl ?_; refine ql_pure tabOk rfl rfl ?_; refine ql_gyes rfl ?_; refine ql_pure tabOk rfl rfl ?_; refine ql_gyes rfl ?_; refine ql_neqF tabOk rfl rfl rfl (by omega) ?_; refine ql_pure tabOk rfl rfl ?_; refine q_nil ?_; refine q_cond_false rfl ?_; refine q_skip ?_; refine q_seq ?_; refine q_region ?_; refine ql_loadAB tabOk rfl rfl rfl (by repeat first | exact .head _ | refine .tail _ ?_) (by rfl) (by rfl) ?_)
    refine ql_call (β := Value) tabOk [] _ M0 rfl rfl rfl rfl (Sp.refl _) (fun _ h => h.elim) (fun w' hs => ranges_ok w' 0 w'.heap.size x ua uc (sat_rdD hs (by repeat first | exact .head _ | refine .tail _ ?_) rfl) hx) ?_
    rintro v1 _ rfl
    dsimp only [List.cons_append, List.nil_append]
    (refine ql_pure tabOk rfl rfl ?_; (iterate 2 refine ql_ext tabOk rfl rfl rfl ?_); (iterate 2 refine ql_pure tabOk rfl rfl ?_); refine q_nil ?_; refine q_seq ?_; refine q_region ?_; refine ql_loadAB tabOk rfl rfl rfl (by repeat first | exact .head _ | refine .tail _ ?_) (by rfl) (by rfl) ?_)
    refine ql_call (β := Value) tabOk [] _ M0 rfl rfl rfl rfl (Sp.refl _) (fun _ h => h.elim) (fun w' hs => rranges_ok w' 0 w'.heap.size x ra rc (sat_rdD (t := 176) hs (by repeat first | exact .head _ | refine .tail _ ?_) rfl) hx) ?_
    rintro v2 _ rfl
    dsimp only [List.cons_append, List.nil_append]
    have hrl : (rangesV x).length ≤ 60 := by
      have h1 := (hap_len hx (worst_fine hx)).1
      have h2 := hx.d2
      simp only [rangesV, List.length_map, List.length_range]
      omega
    (refine ql_pure tabOk rfl rfl ?_; (iterate 2 refine ql_ext tabOk rfl rfl rfl ?_); (iterate 2 refine ql_pure tabOk rfl rfl ?_); refine q_nil ?_; refine q_seq ?_; refine q_region ?_; (iterate 2 refine ql_pure tabOk rfl rfl ?_); refine ql_eqlT tabOk rfl rfl rfl (by omega) ?_; refine ql_pure tabOk rfl rfl ?_; refine ql_gyes rfl ?_; refine ql_pure tabOk rfl rfl ?_; refine ql_gyes rfl ?_; refine ql_pure tabOk rfl rfl ?_; refine ql_gyes rfl ?_)
    refine ql_callv (val := .bool true) tabOk rfl rfl rfl rfl (fun w hs => ?_) ?_; exact eqS_ca w 0 w.heap.size 0 w.heap.size v1 v2 (rangesV x) (sat_rdS hs (by repeat first | exact .head _ | refine .tail _ ?_) rfl) (sat_rdS hs (by repeat first | exact .head _ | refine .tail _ ?_) rfl) (by omega)
    ((iterate 2 refine ql_pure tabOk rfl rfl ?_); refine ql_gyes rfl ?_; refine ql_loadAB tabOk rfl rfl rfl (by repeat first | exact .head _ | refine .tail _ ?_) (by rfl) (by rfl) ?_; refine ql_gyes rfl ?_; refine ql_loadAB tabOk rfl rfl rfl (by repeat first | exact .head _ | refine .tail _ ?_) (by rfl) (by rfl) ?_; refine ql_gyes rfl ?_)
    refine ql_callv (val := .bool true) tabOk rfl rfl rfl rfl (fun w hs => ?_) ?_; exact sameW_ca w 0 w.heap.size lo hi x ua a uc c (sat_rdD hs (by repeat first | exact .head _ | refine .tail _ ?_) rfl) (RdE.keep h hs.chg0) (by omega)
    ((iterate 2 refine ql_pure tabOk rfl rfl ?_); refine ql_gyes rfl ?_)
    refine ql_callv (val := .bool true) tabOk rfl rfl rfl rfl (fun w hs => ?_) ?_; exact awake_ca w
    ((iterate 2 refine ql_pure tabOk rfl rfl ?_); refine q_nil ?_; refine q_ret ?_)
    refine q_fin tabOk rfl (by repeat (first | exact RVs.nil | apply RVs.tmp rfl | apply RVs.cellA rfl rfl (by repeat first | exact .head _ | refine .tail _ ?_) (by rfl) | apply RVs.cell1 rfl rfl (by repeat first | exact .head _ | refine .tail _ ?_))) fun w hs => ?_
    exact ⟨rfl, hs.chg0⟩
end Go.Proofs.Ytgeajgmefokifaa
