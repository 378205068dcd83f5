/- Walks: all clicks, from one on. -/
import Derived.Test.YtmbifbippnncoaaV2
import Derived.Test.YtmbifbippnncoaaB5
namespace Go.Proofs.Ytmbifbippnncoaa
open Go Go.Eng

/-- The clicks that are so far. -/
def farL (C near : Int) (far : Nat) : List Int := if far = 0 then [near] else [near - far, near + far].filter (fun c => inB c (-C) C)
def clickP (C near : Int) (n : Nat) : List Int := (List.range n).flatMap (farL C near)
/-- All clicks, the ones nearest to one first. -/
def clickL (C near : Int) : List Int := clickP C near (2 * C + 1).toNat
theorem clickP_succ (C near : Int) (n : Nat) : clickP C near (n + 1) = clickP C near n ++ farL C near n := by simp [clickP, List.range_succ]
theorem clickP_split (C near : Int) {n m : Nat} (h : n < m) : ∃ suf, clickP C near m = clickP C near n ++ (farL C near n ++ suf) := by
  induction m with
  | zero => omega
  | succ m ih =>
    by_cases h2 : n = m
    · subst h2
      exact ⟨[], by rw [clickP_succ, List.append_nil]⟩
    · obtain ⟨suf, hs⟩ := ih (by omega)
      exact ⟨suf ++ farL C near m, by rw [clickP_succ, hs]; simp⟩

/-- .. the first j of them. -/
def partL (C near : Int) (far j : Nat) : List Int := ([near - far, near + far].take j).filter (fun c => inB c (-C) C)
theorem partL_succ (C near : Int) (far j : Nat) (c : Int) (hc : [near - (far : Int), near + far][j]? = some c) : partL C near far (j + 1) = partL C near far j ++ if inB c (-C) C then [c] else [] := by
  obtain ⟨hj, rfl⟩ := List.getElem?_eq_some_iff.1 hc
  rw [partL, List.take_succ_eq_append_getElem hj, List.filter_append, partL]
  congr 1
  simp [List.filter_cons]
theorem farL_pos (C near : Int) (far : Nat) (h : far ≠ 0) : farL C near far = partL C near far 2 := by simp [farL, partL, h]
theorem farL_part (C near : Int) (far j : Nat) (h : far ≠ 0) (c : Int) (hc : [near - (far : Int), near + far][j]? = some c) (hin : inB c (-C) C = true) : ∃ suf, farL C near far = partL C near far j ++ c :: suf := by
  obtain ⟨hj, rfl⟩ := List.getElem?_eq_some_iff.1 hc
  refine ⟨([near - (far : Int), near + far].drop (j + 1)).filter (fun c => inB c (-C) C), ?_⟩
  rw [farL, if_neg h, partL]
  conv => lhs; rw [← List.take_append_drop j [near - (far : Int), near + far], List.filter_append, List.drop_eq_getElem_cons hj, List.filter_cons]
  rw [if_pos hin]

theorem ci_arr : arrB Try.prog 84 2 3 1 = true := by kernel_rfl

set_option maxHeartbeats 1000000 in
theorem clicks_it (w0 w : World) (D : Nat → Prop) (b bd bn : Nat) (near : Int) (r : Rg) (hdk : DkAt w0 b r) (h0 : ∀ w', ChgP D w w' → Chg [] w0 w') (hC : 0 ≤ r.clicks ∧ r.clicks ≤ 6) (hn : inB near (-r.clicks) r.clicks = true)
    {t1 t2 : TypeId} (hbd : Blk w bd [.pointer (some ⟨b, 0, none⟩)] t1) (hbn : Blk w bn [.int .i64 near] t2) (hDd : ¬ D bd) (hDn : ¬ D bn) :
    ItOk Try.prog 49 [.pointer (some ⟨bd, 0, none⟩), .pointer (some ⟨bn, 0, none⟩)] (fun c => [Value.int .i64 c]) (clickL r.clicks near) w D := by
  intro fv σ L I E s0 hI0 hLD hsat hcb
  have hn' := inB_iff.1 hn
  obtain ⟨cs, bt, hblk, lo, hi, ag, cg, ad, cd, af, cf, an, cn, rfl, hg, hdr, hf, hn⟩ := hdk
  have hm : ∀ w', ChgP (DL (L s0)) w w' → ChgP D w w' := fun w' hc => ⟨hc.os, hc.tape, hc.output, hc.size, fun k hk hk2 => hc.block k hk (fun h => hk2 (hLD k h))⟩
  have hP1 : ∀ w', ChgP (DL (L s0)) w w' → Blk w' bd [.pointer (some ⟨b, 0, none⟩)] t1 := fun w' hc => (hc.block bd hbd.lt (fun h => hDd (hLD bd h))).trans hbd
  have hP2 : ∀ w', ChgP (DL (L s0)) w w' → Blk w' bn [.int .i64 near] t2 := fun w' hc => (hc.block bn hbn.lt (fun h => hDn (hLD bn h))).trans hbn
  have hP3 : ∀ w', ChgP (DL (L s0)) w w' → Blk w' b _ bt := fun w' hc => hblk.keep (h0 w' (hm w' hc))
  clear hblk
  refine q_of (H := [un (L s0)]) (Sat.un1.2 hsat) Try.func49 rfl (by simp [Try.ntmps49]) ?_
  (refine q_seq ?_; refine q_region ?_; refine ql_loadG tabOk rfl rfl rfl (by assumption) (by rfl) ?_; (iterate 3 refine ql_pure tabOk rfl rfl ?_); refine ql_loadG tabOk rfl rfl rfl (by assumption) (by rfl) ?_; (iterate 2 refine ql_ar tabOk rfl rfl rfl rfl (by omega) (by omega) ?_); refine ql_pure tabOk rfl rfl ?_; refine q_nil ?_; refine q_block ?_)
  refine q_loop (σ := Nat × σ) (fun s => s.1 ≤ (2 * r.clicks + 1).toNat ∧ I (clickP r.clicks near s.1) s.2) (fun s => (2 * r.clicks + 1).toNat - s.1) (fun s => [(0, fv), (1, .pointer (some ⟨bd, 0, none⟩)), (2, .pointer (some ⟨bn, 0, none⟩)), (13, .int .i64 (2 * r.clicks + 1)), (14, .int .i64 s.1)])
    (fun s => [un (L s.2)]) (0, s0) ⟨by omega, hI0⟩ ⟨rfl, rfl, rfl, rfl, rfl, trivial⟩ (Sp.refl _) ?_
  rintro ⟨far, s⟩ ⟨hfar, hI⟩ K hK
  simp only at hfar hI
  (refine q_seq ?_; refine q_region ?_; refine ql_pure tabOk rfl rfl ?_; refine q_nil ?_; refine q_seq ?_)
  refine q_if rfl (fun hc => ?_) (fun hc => ?_)
  · have hfl : far < (2 * r.clicks + 1).toNat := by simp only at hc; omega
    obtain ⟨suf, hsuf⟩ := clickP_split r.clicks near hfl
    (refine q_skip ?_; refine q_seq ?_; refine q_block ?_; refine q_seq ?_; refine q_region ?_; (iterate 2 refine ql_pure tabOk rfl rfl ?_); refine q_nil ?_; refine q_seq ?_; refine q_region ?_; refine ql_loadG tabOk rfl rfl rfl (by assumption) (by rfl) ?_; refine ql_pure tabOk rfl rfl ?_; refine ql_ar tabOk rfl rfl rfl rfl (by omega) (by omega) ?_; refine ql_loadG tabOk rfl rfl rfl (by assumption) (by rfl) ?_; refine ql_pure tabOk rfl rfl ?_; refine ql_ar tabOk rfl rfl rfl rfl (by omega) (by omega) ?_)
    refine ql_mk #[.int .i64 (near - far), .int .i64 (near + far)] rfl (by kernel_rfl) rfl ?_
    (refine ql_pure tabOk rfl rfl ?_; refine q_nil ?_; refine q_block ?_)
    refine q_loop (σ := Nat × σ) (fun q => q.1 ≤ 2 ∧ (far = 0 → q.1 = 0) ∧ I (clickP r.clicks near far ++ partL r.clicks near far q.1) q.2) (fun q => 2 - q.1) (fun q => [(0, fv), (1, .pointer (some ⟨bd, 0, none⟩)), (2, .pointer (some ⟨bn, 0, none⟩)), (4, .int .i64 far), (13, .int .i64 (2 * r.clicks + 1)), (14, .int .i64 far), (23, .agg #[.int .i64 (near - far), .int .i64 (near + far)]), (24, .int .i64 q.1)])
      (fun q => [un (L q.2)]) (0, s) ⟨by simp, fun _ => rfl, by simpa [partL] using hI⟩ ⟨rfl, rfl, rfl, rfl, rfl, rfl, rfl, rfl, trivial⟩ (Sp.refl _) ?_
    clear hI
    rintro ⟨j, s⟩ ⟨hj, hj0, hI⟩ K2 hK2
    simp only at hj hj0 hI
    (refine q_seq ?_; refine q_region ?_; refine ql_pure tabOk rfl rfl ?_; refine q_nil ?_; refine q_seq ?_)
    refine q_if rfl (fun hc => ?_) (fun hc => ?_)
    · have hj2 : j < 2 := by simp only at hc; omega
      clear hc
      have hcj : ∃ c, [near - (far : Int), near + far][j]? = some c ∧ -20 ≤ c ∧ c ≤ 20 := by
        obtain rfl | rfl : j = 0 ∨ j = 1 := by omega
        · exact ⟨_, rfl, by omega, by omega⟩
        · exact ⟨_, rfl, by omega, by omega⟩
      obtain ⟨c, hcj, hc1, hc2⟩ := hcj
      (refine q_skip ?_; refine q_seq ?_; refine q_block ?_; refine q_seq ?_; refine q_region ?_)
      refine ql_ixA (v := .int .i64 c) tabOk ci_arr rfl rfl rfl rfl (by simp only; omega) (by simp only; omega) (by
        obtain rfl | rfl : j = 0 ∨ j = 1 := by omega
        · simpa using hcj
        · simpa using hcj) ?_
      (refine ql_pure tabOk rfl rfl ?_; refine q_nil ?_; (iterate 2 refine q_seq ?_))
      refine q_draw [] [un (L s)] (Sp.refl _) (by kernel_rfl) (by kernel_rfl) ?_
      (refine qf_pure tabOk rfl rfl rfl ?_; refine qf_loadG tabOk rfl rfl rfl (by assumption) (by rfl) ?_; (iterate 3 refine qf_pure tabOk rfl rfl rfl ?_); refine qf_loadG tabOk rfl rfl rfl (by assumption) (by rfl) ?_; refine qf_neg tabOk rfl rfl (by omega) (by omega) ?_; refine qf_loadG tabOk rfl rfl rfl (by assumption) (by rfl) ?_; (iterate 3 refine qf_pure tabOk rfl rfl rfl ?_); refine qf_loadG tabOk rfl rfl rfl (by assumption) (by rfl) ?_)
      refine qf_callv tabOk rfl rfl rfl rfl (fun w hs => in_ca c (-r.clicks) r.clicks w) ?_
      (refine qf_pure tabOk rfl rfl rfl ?_)
      by_cases hin : inB c (-r.clicks) r.clicks = true
      · rw [hin]
        (refine qf_gyes rfl ?_; refine qf_pure tabOk rfl rfl rfl ?_; refine qf_gyes rfl ?_; refine qf_pure tabOk rfl rfl rfl ?_; refine qf_gyes rfl ?_; refine qf_pure tabOk rfl rfl rfl ?_)
        by_cases hf0 : far = 0
        · subst hf0
          obtain rfl : j = 0 := hj0 rfl
          obtain rfl : c = near := by simpa using hcj.symm
          (refine qf_gyes rfl ?_; refine qf_pure tabOk rfl rfl rfl ?_; refine qf_gyes rfl ?_; refine qf_loadG tabOk rfl rfl rfl (by assumption) (by rfl) ?_; refine qf_gyes rfl ?_; refine qf_pure tabOk rfl rfl rfl ?_; refine qf_gyes rfl ?_; (iterate 3 refine qf_pure tabOk rfl rfl rfl ?_))
          rw [decide_eq_true (rfl : c = c)]
          (refine qf_gyes rfl ?_; refine qf_pure tabOk rfl rfl rfl ?_; refine qf_gyes rfl ?_; refine qf_pure tabOk rfl rfl rfl ?_; refine qf_gyes rfl ?_)
          have hx : clickL r.clicks c = (clickP r.clicks c 0 ++ partL r.clicks c 0 0) ++ c :: suf := by rw [clickL, hsuf]; simp [farL, partL]
          refine qf_callF [un (L s)] [] (DL (L s)) rfl rfl rfl (Sp.refl _) (fun b hb => ⟨_, .head _, hb⟩) (yieldF hcb hx hI) ?_
          rintro s' v (⟨rfl, hI'⟩ | ⟨rfl, hE⟩)
          · (refine qf_gyes rfl ?_; (iterate 2 refine qf_pure tabOk rfl rfl rfl ?_); refine qf_nil ?_; refine q_cond_false rfl ?_; refine q_skip ?_; refine q_seq ?_; refine q_region ?_; (iterate 2 refine ql_pure tabOk rfl rfl ?_); refine q_nil ?_; refine q_cond_true rfl ?_; refine q_exit _ rfl ?_; refine q_blk ?_; refine q_region ?_; refine ql_ar tabOk rfl rfl rfl rfl (by omega) (by omega) ?_; refine ql_pure tabOk rfl rfl ?_; refine q_nil ?_)
            refine hK (1, s') _ _ ⟨by omega, ?_⟩ (by simp only; omega) ⟨rfl, rfl, rfl, rfl, rfl, trivial⟩ (by repeat (first | exact Sp.nil | exact Sp.refl _ | refine Sp.cons (by repeat constructor) ?_))
            rw [show clickP r.clicks c 1 = clickP r.clicks c 0 ++ partL r.clicks c 0 0 ++ [c] by simp [clickP, farL, partL]]
            exact hI'
          · (refine qf_gyes rfl ?_; (iterate 2 refine qf_pure tabOk rfl rfl rfl ?_); refine qf_nil ?_; refine q_cond_true rfl ?_; refine q_ret ?_)
            refine q_fin tabOk rfl (by repeat (first | exact RVs.nil | apply RVs.tmp rfl | apply RVs.cellA rfl rfl (by repeat first | exact .head _ | refine .tail _ ?_) (by rfl) | apply RVs.cell1 rfl rfl (by repeat first | exact .head _ | refine .tail _ ?_))) fun w hs => ?_
            exact ⟨s', .inr hE, Sat.un1.1 (hs.sp (Sp.refl _))⟩
        · rw [decide_eq_true (show (0 : Int) < far by omega)]
          ((iterate 3 refine qf_gno rfl rfl rfl ?_); refine qf_gyes rfl ?_; (iterate 3 refine qf_pure tabOk rfl rfl rfl ?_); refine qf_gyes rfl ?_; refine qf_pure tabOk rfl rfl rfl ?_; refine qf_gyes rfl ?_; refine qf_pure tabOk rfl rfl rfl ?_; refine qf_gyes rfl ?_)
          obtain ⟨suf2, hsuf2⟩ := farL_part r.clicks near far j hf0 c hcj hin
          have hx : clickL r.clicks near = (clickP r.clicks near far ++ partL r.clicks near far j) ++ c :: (suf2 ++ suf) := by rw [clickL, hsuf, hsuf2]; simp
          have hp := partL_succ r.clicks near far j c hcj
          rw [if_pos hin] at hp
          refine qf_callF [un (L s)] [] (DL (L s)) rfl rfl rfl (Sp.refl _) (fun b hb => ⟨_, .head _, hb⟩) (yieldF hcb hx hI) ?_
          rintro s' v (⟨rfl, hI'⟩ | ⟨rfl, hE⟩)
          · (refine qf_gyes rfl ?_; (iterate 2 refine qf_pure tabOk rfl rfl rfl ?_); refine qf_nil ?_; refine q_cond_false rfl ?_; refine q_skip ?_; refine q_seq ?_; refine q_region ?_; (iterate 2 refine ql_pure tabOk rfl rfl ?_); refine q_nil ?_)
            rw [decide_eq_false (show ¬ (far : Int) = 0 by omega)]
            (refine q_cond_false rfl ?_; refine q_skip ?_; refine q_blk ?_; refine q_region ?_; refine ql_ar tabOk rfl rfl rfl rfl (by omega) (by omega) ?_; refine ql_pure tabOk rfl rfl ?_; refine q_nil ?_)
            refine hK2 (j + 1, s') _ _ ⟨by simp only; omega, fun h => absurd h hf0, ?_⟩ (by simp only; omega) ⟨rfl, rfl, rfl, rfl, rfl, rfl, rfl, rfl, trivial⟩ (by repeat (first | exact Sp.nil | exact Sp.refl _ | refine Sp.cons (by repeat constructor) ?_))
            simp only
            rw [hp, ← List.append_assoc]
            exact hI'
          · (refine qf_gyes rfl ?_; (iterate 2 refine qf_pure tabOk rfl rfl rfl ?_); refine qf_nil ?_; refine q_cond_true rfl ?_; refine q_ret ?_)
            refine q_fin tabOk rfl (by repeat (first | exact RVs.nil | apply RVs.tmp rfl | apply RVs.cellA rfl rfl (by repeat first | exact .head _ | refine .tail _ ?_) (by rfl) | apply RVs.cell1 rfl rfl (by repeat first | exact .head _ | refine .tail _ ?_))) fun w hs => ?_
            exact ⟨s', .inr hE, Sat.un1.1 (hs.sp (Sp.refl _))⟩
      · have hin' : inB c (-r.clicks) r.clicks = false := by simpa using hin
        rw [hin']
        ((iterate 3 refine qf_gno rfl rfl rfl ?_); (iterate 3 refine qf_gnone rfl rfl ?_); refine qf_gno rfl rfl rfl ?_; (iterate 2 refine qf_pure tabOk rfl rfl rfl ?_); (iterate 4 refine qf_gno rfl rfl rfl ?_); refine qf_pure tabOk rfl rfl rfl ?_; refine qf_nil ?_; refine q_cond_false rfl ?_; refine q_skip ?_; refine q_seq ?_; refine q_region ?_; (iterate 2 refine ql_pure tabOk rfl rfl ?_); refine q_nil ?_)
        by_cases hf0 : far = 0
        · subst hf0
          obtain rfl : j = 0 := hj0 rfl
          obtain rfl : c = near := by simpa using hcj.symm
          exact absurd hn hin
        · rw [decide_eq_false (show ¬ (far : Int) = 0 by omega)]
          (refine q_cond_false rfl ?_; refine q_skip ?_; refine q_blk ?_; refine q_region ?_; refine ql_ar tabOk rfl rfl rfl rfl (by omega) (by omega) ?_; refine ql_pure tabOk rfl rfl ?_; refine q_nil ?_)
          have hp := partL_succ r.clicks near far j c hcj
          rw [if_neg hin, List.append_nil] at hp
          exact hK2 (j + 1, s) _ _ ⟨by simp only; omega, fun h => absurd h hf0, by simp only; rw [hp]; exact hI⟩ (by simp only; omega) ⟨rfl, rfl, rfl, rfl, rfl, rfl, rfl, rfl, trivial⟩ (by repeat (first | exact Sp.nil | exact Sp.refl _ | refine Sp.cons (by repeat constructor) ?_))
    · have hj2 : j = 2 := by simp only at hc; omega
      subst hj2
      have hf0 : far ≠ 0 := fun h => by have := hj0 h; omega
      (refine q_exit _ rfl ?_; refine q_blk ?_; refine q_region ?_; refine ql_ar tabOk rfl rfl rfl rfl (by omega) (by omega) ?_; refine ql_pure tabOk rfl rfl ?_; refine q_nil ?_)
      exact hK (far + 1, s) _ _ ⟨by simp only; omega, by simp only; rw [clickP_succ, farL_pos r.clicks near far hf0]; exact hI⟩ (by simp only; omega) ⟨rfl, rfl, rfl, rfl, rfl, trivial⟩ (by repeat (first | exact Sp.nil | exact Sp.refl _ | refine Sp.cons (by repeat constructor) ?_))
  · obtain rfl : far = (2 * r.clicks + 1).toNat := by simp only at hc; omega
    (refine q_exit _ rfl ?_)
    refine q_end tabOk rfl (by repeat (first | exact RVs.nil | apply RVs.tmp rfl | apply RVs.cellA rfl rfl (by repeat first | exact .head _ | refine .tail _ ?_) (by rfl) | apply RVs.cell1 rfl rfl (by repeat first | exact .head _ | refine .tail _ ?_))) fun w hs => ?_
    exact ⟨s, .inl hI, Sat.un1.1 (hs.sp (Sp.refl _))⟩

end Go.Proofs.Ytmbifbippnncoaa
