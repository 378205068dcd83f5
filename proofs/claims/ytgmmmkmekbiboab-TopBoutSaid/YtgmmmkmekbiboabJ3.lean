/- My texts Gw2, Gw3, B14, B15, B16, B17, B18, B19, B20, B21, B22, B23, B24, B25, B26, B27, B28, B29, Gs0, P0, TEvery, B30, B31, B32, B33, B34, B35, B36, B37, B38, B39, B40, B41, B42, B43, B44, B45, B46, B47, B48, X0, P1, X1, X2, X3, joined: a claim takes at most 60 files. -/
import Derived.Test.YtgmmmkmekbiboabJ2
import Derived.ChangeKeysEq

/- Taken over from wind: what Q10:follow_ca,Q9:chooseF_ca,D5:shared_ca,D4:of_ca,D8:btw0,D8:drw0,H1:OwnR.form2,U0:OwnR.at,D7:made_ca reach. Written by graft.py. -/
namespace Go.Proofs.Ytgmmmkmekbiboab
open Go Go.Eng
-- wind/Q5.lean
section
section
variable {w w' : World} {b : Nat} {K : Value → Prop} {q : Value → Value → Bool} {f : Value → Option Value}
theorem Blk.mapC {x : Nat} {cs : List Value} {t : TypeId} (h : Blk w x cs t) (hm : MapAt w b K q f) (c : ChgP (· = b) w w') : Blk w' x cs t := by
  obtain ⟨es, clock, h1, _⟩ := hm
  refine (c.block x h.lt ?_).trans h
  rintro rfl
  unfold Blk at h
  rw [h] at h1
  cases h1
theorem Rd.mapC {lo hi : Nat} {v : Value} {size n : Nat} {cs : List Value} (h : Rd w lo hi v size n cs) (hm : MapAt w b K q f) (c : ChgP (· = b) w w') : Rd w' lo hi v size n cs := by
  obtain ⟨es, clock, hb1, _⟩ := hm
  obtain ⟨h1, h2⟩ := h
  refine ⟨h1, ?_⟩
  rcases h2 with h2 | ⟨x, off, cap, hv, hb, hc⟩
  · exact .inl h2
  · refine .inr ⟨x, off, cap, hv, fun hp => ⟨(hb hp).1, (hb hp).2.1, Nat.lt_of_lt_of_le (hb hp).2.2 c.size⟩, fun j hj => ?_⟩
    have hb' := hb (by omega)
    have hc' := hc j hj
    have hne : ¬ x = b := by
      rintro rfl
      rw [List.getElem?_eq_getElem hj] at hc'
      simp [World.cell?, hb1] at hc'
    rw [← hc']
    exact World.cell?_of_block (w := w) (c.block x hb'.2.2 hne)
theorem RdE.mapC {lo hi : Nat} {v : Value} {sz : Nat} {es : List Value} (h : RdE w lo hi v sz es) (hm : MapAt w b K q f) (c : ChgP (· = b) w w') : RdE w' lo hi v sz es := ⟨Rd.mapC h.rd hm c, h.sz⟩
theorem RdII.mapC {lo hi : Nat} {v : Value} {ll : List (List Int)} (h : RdII w lo hi v ll) (hm : MapAt w b K q f) (c : ChgP (· = b) w w') : RdII w' lo hi v ll := by
  obtain ⟨vs, h1, h2, h3⟩ := h
  exact ⟨vs, RdE.mapC h1 hm c, h2, fun i hi hi' => RdE.mapC (h3 i hi hi') hm c⟩
theorem DkAt.mapC {x : Nat} {r : Rg} (h : DkAt w x r) (hm : MapAt w b K q f) (c : ChgP (· = b) w w') : DkAt w' x r := by
  obtain ⟨cs, t, h0, lo, hi, ag, cg, ad, cd, af, cf, an, cn, h1, h2, h3, h4, h5⟩ := h
  exact ⟨cs, t, Blk.mapC h0 hm c, lo, hi, ag, cg, ad, cd, af, cf, an, cn, h1, RdE.mapC h2 hm c, RdE.mapC h3 hm c, RdE.mapC h4 hm c, RdII.mapC h5 hm c⟩
theorem PlAt.mapC {bp bd bm : Nat} {r : Rg} {p : Ru} (h : PlAt w bp bd bm r p) (hm : MapAt w b K q f) (c : ChgP (· = b) w w') : PlAt w' bp bd bm r p := by
  obtain ⟨t, h1, h2⟩ := h
  exact ⟨t, Blk.mapC h1 hm c, DkAt.mapC h2 hm c⟩
end
/-- The closure that computes values. -/
abbrev valF (b1 b2 : Nat) : Value := .func (.func 29) #[] #[.pointer (some ⟨b1, 0, none⟩), .pointer (some ⟨b2, 0, none⟩)]
/-- A plan and its closure. -/
def FillAt (w : World) (bp bd bm b1 b2 : Nat) (r : Rg) (p : Ru) : Prop := PlAt w bp bd bm r p ∧ (∃ t, Blk w b1 [.pointer (some ⟨bp, 0, none⟩)] t) ∧ ∃ t, Blk w b2 [valF b1 b2] t
theorem FillAt.mapC {w w' : World} {b bp bd bm b1 b2 : Nat} {r : Rg} {p : Ru} {K : Value → Prop} {q : Value → Value → Bool} {f : Value → Option Value} (h : FillAt w bp bd bm b1 b2 r p) (hm : MapAt w b K q f) (c : ChgP (· = b) w w') : FillAt w' bp bd bm b1 b2 r p :=
  ⟨PlAt.mapC h.1 hm c, let ⟨t, h1⟩ := h.2.1; ⟨t, Blk.mapC h1 hm c⟩, let ⟨t, h1⟩ := h.2.2; ⟨t, Blk.mapC h1 hm c⟩⟩
abbrev mpV (bm : Nat) (vf : Vf) : Ck := mpP (keyF k4) eqV bm (liftF vf)
set_option maxHeartbeats 4000000 in
theorem value_ca (bp bd bm b1 b2 : Nat) (r : Rg) (p : Ru) (hr : r.Right) (hp : p.Right) : ∀ (n sh wt st : Nat) (cl : Int) (w : World) (vf : Vf), (5 - sh) * 4 + wt = n → sh < 5 → (wt : Int) ≤ p.waits → st < r.drifts.length → (-r.clicks ≤ cl ∧ cl ≤ r.clicks) →
    FillAt w bp bd bm b1 b2 r p → MapAt w bm (keyF k4) eqV (liftF vf) → GoodV r p vf →
    Ca Try.prog 29 [plcV sh wt st cl, .pointer (some ⟨b1, 0, none⟩), .pointer (some ⟨b2, 0, none⟩)] w fun v w' => ∃ vf', v = .int .i64 (valV r p sh wt st cl) ∧ GoodV r p vf' ∧ LeV vf vf' ∧ (vf' sh wt st cl).isSome = true ∧ Sat w (· = bm) [mpV bm vf'] w' := by
  intro n
  induction n using Nat.strongRecOn with
  | ind n ih =>
  intro sh wt st cl w vf hn1 h5 hwt hst hcl hF hm hgood
  have hF0 := hF
  have hm0 := hm
  obtain ⟨h, ⟨t1, hb1⟩, t2, hb2⟩ := hF
  obtain ⟨tp, hplb, hdk⟩ := h; have hdk0 := hdk; obtain ⟨cs, bt, hblk, lo, hi, ag, cg, ad, cd, af, cf, an, cn, rfl, hg, hdr, hf, hn⟩ := hdk
  have hC := hr.clicks
  have hD := hr.d2
  have hW := hp.waits
  have hw3 : wt ≤ 3 := by omega
  have hb1 := fun w' (c : ChgP (· = bm) w w') => Blk.mapC hb1 hm0 c
  have hb2 := fun w' (c : ChgP (· = bm) w w') => Blk.mapC hb2 hm0 c
  have hplb := fun w' (c : ChgP (· = bm) w w') => Blk.mapC hplb hm0 c
  have hblk := fun w' (c : ChgP (· = bm) w w') => Blk.mapC hblk hm0 c
  have hfine := val_fine r hr p hp
  refine q_of (H := [mpV bm vf]) (map_sat hm) Try.func29 rfl (by simp [Try.ntmps29]) ?_
  (refine q_seq (q_region ?_))
  refine ql_box rfl rfl (fun b3 => ?_)
  (refine ql_pure tabOk rfl rfl (q_nil (q_seq (q_seq ?_))))
  refine q_draw _ [] (Sp.refl _) (by kernel_rfl) (by kernel_rfl) ?_
  (refine qf_loadG tabOk rfl rfl rfl (by assumption) (by rfl) ?_; refine qf_pure tabOk rfl rfl rfl (qf_pure tabOk rfl rfl rfl ?_); refine qf_loadG tabOk rfl rfl rfl (by assumption) (by rfl) ?_; refine qf_loadABa tabOk rfl rfl rfl ?_)
  cases hv : vf sh wt st cl with
  | some v0 =>
    have hv1 := hgood.at (sh := sh) (wt := wt) (st := st) (d := cl) (by rw [hv]; rfl)
    refine qf_look2 (v := .int .i64 (valV r p sh wt st cl)) (o := true) plc_key plc_map zero_int rfl rfl rfl (by repeat constructor) (plcV_key _ _ _ _) ((liftF_get vf sh wt st cl).trans (by rw [hv1]; rfl)) ((liftF_some vf sh wt st cl).trans (by rw [hv1]; rfl)) ?_
    (refine qf_pure tabOk rfl rfl rfl (qf_ext tabOk rfl rfl rfl (qf_ext tabOk rfl rfl rfl (qf_pure tabOk rfl rfl rfl (qf_pure tabOk rfl rfl rfl (qf_nil (q_seq (q_region (ql_pure tabOk rfl rfl (q_nil (q_cond_true rfl (q_seq ?_))))))))))); refine q_region (ql_pure tabOk rfl rfl (ql_pure tabOk rfl rfl (q_nil (q_ret ?_)))))
    refine q_fin tabOk rfl (by repeat constructor) fun w hs => ?_
    exact ⟨vf, rfl, hgood, LeV.refl _, by rw [hv1]; rfl, hs.sp (by repeat constructor)⟩
  | none =>
    refine qf_look2 (v := .int .i64 0) (o := false) plc_key plc_map zero_int rfl rfl rfl (by repeat constructor) (plcV_key _ _ _ _) ((liftF_get vf sh wt st cl).trans (by rw [hv]; rfl)) ((liftF_some vf sh wt st cl).trans (by rw [hv]; rfl)) ?_
    (refine qf_pure tabOk rfl rfl rfl (qf_ext tabOk rfl rfl rfl (qf_ext tabOk rfl rfl rfl (qf_pure tabOk rfl rfl rfl (qf_pure tabOk rfl rfl rfl (qf_nil (q_seq (q_region (ql_pure tabOk rfl rfl (q_nil (q_cond_false rfl (q_skip ?_))))))))))); refine q_seq (q_seq (q_region ?_)); refine ql_loadG tabOk rfl rfl rfl (by assumption) (by rfl) ?_; refine ql_pure tabOk rfl rfl (ql_pure tabOk rfl rfl ?_); refine ql_loadG tabOk rfl rfl rfl (by assumption) (by rfl) ?_; (iterate 3 refine ql_pure tabOk rfl rfl ?_); refine ql_loadG tabOk rfl rfl rfl (by assumption) (by rfl) ?_; refine ql_pure tabOk rfl rfl (ql_pure tabOk rfl rfl (q_nil (q_block ?_))))
    refine q_loop (σ := Nat × Vf) (fun s => s.1 ≤ r.drifts.length ∧ GoodV r p s.2 ∧ LeV vf s.2 ∧ (sh < 4 → ∀ t c, t < s.1 → -r.clicks ≤ c ∧ c ≤ r.clicks → (s.2 ((sh + 1 : Nat) : Int) wt t c).isSome = true) ∧ (0 < wt → ∀ t, t < s.1 → (s.2 sh ((wt - 1 : Nat) : Int) t cl).isSome = true)) (fun s => r.drifts.length - s.1)
      (fun s => [(1, .pointer (some ⟨b1, 0, none⟩)), (2, .pointer (some ⟨b2, 0, none⟩)), (3, .pointer (some ⟨b3, 0, none⟩)), (30, .int .i64 r.drifts.length), (31, .int .i64 s.1)])
      (fun s => [.pt b3 [.int .i64 sh, .int .i64 wt, .int .i64 st, .int .i64 cl] 69, mpV bm s.2]) (0, vf) ⟨by simp, hgood, LeV.refl _, fun _ t c ht => absurd ht (Nat.not_lt_zero _), fun _ t ht => absurd ht (Nat.not_lt_zero _)⟩ ⟨rfl, rfl, rfl, rfl, rfl, trivial⟩ (by repeat constructor) ?_
    rintro ⟨k, vf1⟩ ⟨hk, hg1, hl1, hs1, hw1⟩ K hK
    simp only at hk hg1 hl1 hs1 hw1
    dsimp only
    (refine q_seq (q_region (ql_pure tabOk rfl rfl (q_nil (q_seq ?_)))))
    refine q_if rfl (fun hc => ?_) (fun hc => ?_)
    · have hk2 : k < r.drifts.length := by omega
      clear hc
      (refine q_skip (q_seq (q_block (q_seq (q_region (ql_pure tabOk rfl rfl (ql_pure tabOk rfl rfl (q_nil (q_seq (q_seq (q_region ?_)))))))))); refine ql_loadG tabOk rfl rfl rfl (by assumption) (by rfl) ?_; refine ql_pure tabOk rfl rfl (ql_pure tabOk rfl rfl ?_); refine ql_loadG tabOk rfl rfl rfl (by assumption) (by rfl) ?_; (iterate 3 refine ql_pure tabOk rfl rfl ?_); refine ql_loadG tabOk rfl rfl rfl (by assumption) (by rfl) ?_; refine ql_neg tabOk rfl rfl (by omega) (by omega) (ql_pure tabOk rfl rfl (q_nil (q_block ?_))))
      refine q_loop (σ := Nat × Vf) (fun s => s.1 ≤ (2 * r.clicks + 1).toNat ∧ (sh < 4 ∨ s.1 = 0) ∧ GoodV r p s.2 ∧ LeV vf1 s.2 ∧ (sh < 4 → ∀ j, j < s.1 → (s.2 ((sh + 1 : Nat) : Int) wt k (-r.clicks + (j : Int))).isSome = true)) (fun s => (2 * r.clicks + 1).toNat - s.1)
        (fun s => [(1, .pointer (some ⟨b1, 0, none⟩)), (2, .pointer (some ⟨b2, 0, none⟩)), (3, .pointer (some ⟨b3, 0, none⟩)), (7, .int .i64 k), (8, .int .i64 (-r.clicks + (s.1 : Int))), (30, .int .i64 r.drifts.length), (31, .int .i64 k)])
        (fun s => [.pt b3 [.int .i64 sh, .int .i64 wt, .int .i64 st, .int .i64 cl] 69, mpV bm s.2]) (0, vf1) ⟨by simp, .inr rfl, hg1, LeV.refl _, fun _ t ht => absurd ht (Nat.not_lt_zero _)⟩ ⟨rfl, rfl, rfl, rfl, lookI rfl (by simp), rfl, rfl, trivial⟩ (by repeat constructor) ?_
      rintro ⟨i, vf2⟩ ⟨hi2, hi0, hg2, hl2, hs2⟩ K2 hK2
      simp only at hi2 hi0 hg2 hl2 hs2
      dsimp only
      have hend : (sh < 4 → i = (2 * r.clicks + 1).toNat) → (sh < 4 → ∀ t c, t < k + 1 → -r.clicks ≤ c ∧ c ≤ r.clicks → (vf2 ((sh + 1 : Nat) : Int) wt t c).isSome = true) := by
        intro he h4 t c ht hc
        by_cases htk : t < k
        · exact hl2.some (hs1 h4 t c htk hc)
        · obtain rfl : t = k := by omega
          have := hs2 h4 (c + r.clicks).toNat (by rw [he h4]; omega)
          rw [show -r.clicks + ((c + r.clicks).toNat : Int) = c by omega] at this
          exact this
      by_cases hgo : sh < 4 ∧ i < (2 * r.clicks + 1).toNat
      · obtain ⟨h4, hi3⟩ := hgo
        (refine q_seq (q_seq (q_region (ql_pure tabOk rfl rfl ?_))); refine ql_loadG tabOk rfl rfl rfl (by assumption) (by rfl) ?_; refine ql_pure tabOk rfl rfl (ql_pure tabOk rfl rfl ?_); refine ql_loadG tabOk rfl rfl rfl (by assumption) (by rfl) ?_; (iterate 3 refine ql_pure tabOk rfl rfl ?_); refine ql_loadG tabOk rfl rfl rfl (by assumption) (by rfl) ?_; refine ql_pure tabOk rfl rfl (ql_pure tabOk rfl rfl ?_))
        refine ql_split rfl rfl (fun hc => ?_) (fun hc => ?_)
        · clear hc
          (refine ql_gyes rfl (ql_pure tabOk rfl rfl (ql_gyes rfl ?_)); refine ql_loadBa tabOk rfl rfl rfl ?_; refine ql_gyes rfl (ql_ar tabOk rfl rfl rfl rfl (by omega) (by omega) (ql_gyes rfl (ql_pure tabOk rfl rfl (ql_pure tabOk rfl rfl (q_nil ?_))))))
          refine q_if rfl (fun hc => ?_) (fun hc => ?_)
          · clear hc
            (refine q_skip (q_seq (q_block (q_region ?_))); refine ql_loadG tabOk rfl rfl rfl (by assumption) (by rfl) ?_; refine ql_pure tabOk rfl rfl ?_; refine ql_loadBa tabOk rfl rfl rfl ?_; refine ql_ar tabOk rfl rfl rfl rfl (by omega) (by omega) (ql_pure tabOk rfl rfl ?_); refine ql_loadBa tabOk rfl rfl rfl ?_; refine ql_pure tabOk rfl rfl (ql_pure tabOk rfl rfl ?_))
            refine ql_mk #[.int .i64 ((sh : Int) + 1), .int .i64 wt, .int .i64 k, .int .i64 (-r.clicks + (i : Int))] rfl (by kernel_rfl) rfl ?_
            skip
            refine ql_call (β := Vf) (ψ := fun vf' v => v = .int .i64 (valV r p (sh + 1) wt k (-r.clicks + (i : Int))) ∧ GoodV r p vf' ∧ LeV vf2 vf' ∧ (vf' ((sh + 1 : Nat) : Int) wt k (-r.clicks + (i : Int))).isSome = true) (L' := fun vf' => [mpV bm vf']) tabOk
              [mpV bm vf2] _ (· = bm) rfl rfl rfl rfl (Sp.cons (by repeat constructor) (Sp.refl _)) (fun b hb => ⟨_, .head _, hb⟩) (fun w' hs => (ih ((5 - (sh + 1)) * 4 + wt) (by omega) (sh + 1) wt k (-r.clicks + (i : Int)) w' vf2 rfl (by omega) hwt hk2 (by omega) (hF0.mapC hm0 hs.chg) (hs.mem (show mpV bm vf2 ∈ _ from .head _)) hg2).mono fun v w'' ⟨vf', g1, g2, g3, g4, g5⟩ => ⟨vf', ⟨g1, g2, g3, g4⟩, g5⟩) ?_
            rintro vf3 _ ⟨rfl, g2, g3, g4⟩
            (refine q_nil (q_blk (q_region (ql_pure tabOk rfl rfl (ql_ar tabOk rfl rfl rfl rfl (by omega) (by omega) (ql_pure tabOk rfl rfl (q_nil ?_)))))))
            refine hK2 (i + 1, vf3) _ _ ⟨by simp only; omega, .inl h4, g2, hl2.trans g3, fun h4 j hj => ?_⟩ (by simp only; omega) ⟨rfl, rfl, rfl, rfl, lookI rfl (by simp only; omega), rfl, rfl, trivial⟩ (by repeat constructor)
            by_cases hji : j < i
            · exact g3.some (hs2 h4 j hji)
            · obtain rfl : j = i := by simp only at hj; omega
              exact g4
          · exfalso; simp at hc; omega
        · exfalso; simp at hc; omega
      · have hend := hend (by omega)
        have hrest : ∀ vf3, GoodV r p vf3 → LeV vf2 vf3 → (0 < wt → (vf3 sh ((wt - 1 : Nat) : Int) k cl).isSome = true) → ((k + 1, vf3) : Nat × Vf).1 ≤ r.drifts.length ∧ GoodV r p vf3 ∧ LeV vf vf3 ∧ (sh < 4 → ∀ t c, t < k + 1 → -r.clicks ≤ c ∧ c ≤ r.clicks → (vf3 ((sh + 1 : Nat) : Int) wt t c).isSome = true) ∧ (0 < wt → ∀ t, t < k + 1 → (vf3 sh ((wt - 1 : Nat) : Int) t cl).isSome = true) := by
          intro vf3 g1 g2 g3
          refine ⟨by simp only; omega, g1, hl1.trans (hl2.trans g2), fun h4 t c ht hc => g2.some (hend h4 t c ht hc), fun h0 t ht => ?_⟩
          by_cases htk : t < k
          · exact (hl2.trans g2).some (hw1 h0 t htk)
          · obtain rfl : t = k := by omega
            exact g3 h0
        (refine q_seq (q_seq (q_region (ql_pure tabOk rfl rfl ?_))); refine ql_loadG tabOk rfl rfl rfl (by assumption) (by rfl) ?_; refine ql_pure tabOk rfl rfl (ql_pure tabOk rfl rfl ?_); refine ql_loadG tabOk rfl rfl rfl (by assumption) (by rfl) ?_; (iterate 3 refine ql_pure tabOk rfl rfl ?_); refine ql_loadG tabOk rfl rfl rfl (by assumption) (by rfl) ?_; refine ql_pure tabOk rfl rfl (ql_pure tabOk rfl rfl ?_))
        refine ql_split rfl rfl (fun hc => ?_) (fun hc => ?_)
        · (refine ql_gyes rfl (ql_pure tabOk rfl rfl (ql_gyes rfl ?_)); refine ql_loadBa tabOk rfl rfl rfl ?_; refine ql_gyes rfl (ql_ar tabOk rfl rfl rfl rfl (by omega) (by omega) (ql_gyes rfl (ql_pure tabOk rfl rfl (ql_pure tabOk rfl rfl (q_nil ?_))))))
          refine q_if rfl (fun hc => ?_) (fun hc => ?_)
          · exfalso; rename_i hc0; simp at hc0; omega
          · clear hc
            rename_i hc
            clear hc
            (refine q_exit _ rfl (q_seq (q_region (ql_pure tabOk rfl rfl ?_))); refine ql_loadBa tabOk rfl rfl rfl ?_; refine ql_pure tabOk rfl rfl (q_nil ?_))
            refine q_if rfl (fun hc => ?_) (fun hc => ?_)
            · have h0 : 0 < wt := by omega
              have hwe : ((wt - 1 : Nat) : Int) = (wt : Int) - 1 := by omega
              (refine q_region ?_; refine ql_loadG tabOk rfl rfl rfl (by assumption) (by rfl) ?_; refine ql_pure tabOk rfl rfl ?_; refine ql_loadBa tabOk rfl rfl rfl ?_; refine ql_pure tabOk rfl rfl ?_; refine ql_loadBa tabOk rfl rfl rfl ?_; refine ql_ar tabOk rfl rfl rfl rfl (by omega) (by omega) (ql_pure tabOk rfl rfl (ql_pure tabOk rfl rfl ?_)); refine ql_loadBa tabOk rfl rfl rfl ?_)
              refine ql_mk #[.int .i64 sh, .int .i64 ((wt : Int) - 1), .int .i64 k, .int .i64 cl] rfl (by kernel_rfl) rfl ?_
              skip
              refine ql_call (β := Vf) (ψ := fun vf' v => v = .int .i64 (valV r p sh (wt - 1) k cl) ∧ GoodV r p vf' ∧ LeV vf2 vf' ∧ (vf' sh ((wt - 1 : Nat) : Int) k cl).isSome = true) (L' := fun vf' => [mpV bm vf']) tabOk
                [mpV bm vf2] _ (· = bm) rfl rfl rfl rfl (Sp.cons (by repeat constructor) (Sp.refl _)) (fun b hb => ⟨_, .head _, hb⟩) (fun w' hs => by have := (ih ((5 - sh) * 4 + (wt - 1)) (by omega) sh (wt - 1) k cl w' vf2 rfl h5 (by omega) hk2 hcl (hF0.mapC hm0 hs.chg) (hs.mem (show mpV bm vf2 ∈ _ from .head _)) hg2).mono fun v w'' ⟨vf', g1, g2, g3, g4, g5⟩ => (⟨vf', ⟨g1, g2, g3, g4⟩, g5⟩ : ∃ vf', (v = Value.int .i64 (valV r p sh (wt - 1) k cl) ∧ GoodV r p vf' ∧ LeV vf2 vf' ∧ (vf' sh ((wt - 1 : Nat) : Int) k cl).isSome = true) ∧ Sat w' (· = bm) [mpV bm vf'] w''); simp only [hwe] at this ⊢; exact this) ?_
              rintro vf3 _ ⟨rfl, g2, g3, g4⟩
              (refine q_nil (q_blk (q_region (ql_ar tabOk rfl rfl rfl rfl (by omega) (by omega) (ql_pure tabOk rfl rfl (q_nil ?_))))))
              exact hK (k + 1, vf3) _ _ (hrest vf3 g2 g3 (fun _ => g4)) (by simp only; omega) ⟨rfl, rfl, rfl, rfl, rfl, trivial⟩ (by repeat constructor)
            · (refine q_skip (q_blk (q_region (ql_ar tabOk rfl rfl rfl rfl (by omega) (by omega) (ql_pure tabOk rfl rfl (q_nil ?_))))))
              exact hK (k + 1, vf2) _ _ (hrest vf2 hg2 (LeV.refl _) (fun h0 => absurd h0 (by omega))) (by simp only; omega) ⟨rfl, rfl, rfl, rfl, rfl, trivial⟩ (by repeat constructor)
        · clear hc
          ((iterate 4 refine ql_gno rfl rfl rfl ?_); refine ql_pure tabOk rfl rfl (q_nil (q_cond_false rfl (q_exit _ rfl (q_seq (q_region (ql_pure tabOk rfl rfl ?_)))))); refine ql_loadBa tabOk rfl rfl rfl ?_; refine ql_pure tabOk rfl rfl (q_nil ?_))
          refine q_if rfl (fun hc => ?_) (fun hc => ?_)
          · have h0 : 0 < wt := by omega
            have hwe : ((wt - 1 : Nat) : Int) = (wt : Int) - 1 := by omega
            (refine q_region ?_; refine ql_loadG tabOk rfl rfl rfl (by assumption) (by rfl) ?_; refine ql_pure tabOk rfl rfl ?_; refine ql_loadBa tabOk rfl rfl rfl ?_; refine ql_pure tabOk rfl rfl ?_; refine ql_loadBa tabOk rfl rfl rfl ?_; refine ql_ar tabOk rfl rfl rfl rfl (by omega) (by omega) (ql_pure tabOk rfl rfl (ql_pure tabOk rfl rfl ?_)); refine ql_loadBa tabOk rfl rfl rfl ?_)
            refine ql_mk #[.int .i64 sh, .int .i64 ((wt : Int) - 1), .int .i64 k, .int .i64 cl] rfl (by kernel_rfl) rfl ?_
            skip
            refine ql_call (β := Vf) (ψ := fun vf' v => v = .int .i64 (valV r p sh (wt - 1) k cl) ∧ GoodV r p vf' ∧ LeV vf2 vf' ∧ (vf' sh ((wt - 1 : Nat) : Int) k cl).isSome = true) (L' := fun vf' => [mpV bm vf']) tabOk
              [mpV bm vf2] _ (· = bm) rfl rfl rfl rfl (Sp.cons (by repeat constructor) (Sp.refl _)) (fun b hb => ⟨_, .head _, hb⟩) (fun w' hs => by have := (ih ((5 - sh) * 4 + (wt - 1)) (by omega) sh (wt - 1) k cl w' vf2 rfl h5 (by omega) hk2 hcl (hF0.mapC hm0 hs.chg) (hs.mem (show mpV bm vf2 ∈ _ from .head _)) hg2).mono fun v w'' ⟨vf', g1, g2, g3, g4, g5⟩ => (⟨vf', ⟨g1, g2, g3, g4⟩, g5⟩ : ∃ vf', (v = Value.int .i64 (valV r p sh (wt - 1) k cl) ∧ GoodV r p vf' ∧ LeV vf2 vf' ∧ (vf' sh ((wt - 1 : Nat) : Int) k cl).isSome = true) ∧ Sat w' (· = bm) [mpV bm vf'] w''); simp only [hwe] at this ⊢; exact this) ?_
            rintro vf3 _ ⟨rfl, g2, g3, g4⟩
            (refine q_nil (q_blk (q_region (ql_ar tabOk rfl rfl rfl rfl (by omega) (by omega) (ql_pure tabOk rfl rfl (q_nil ?_))))))
            exact hK (k + 1, vf3) _ _ (hrest vf3 g2 g3 (fun _ => g4)) (by simp only; omega) ⟨rfl, rfl, rfl, rfl, rfl, trivial⟩ (by repeat constructor)
          · (refine q_skip (q_blk (q_region (ql_ar tabOk rfl rfl rfl rfl (by omega) (by omega) (ql_pure tabOk rfl rfl (q_nil ?_))))))
            exact hK (k + 1, vf2) _ _ (hrest vf2 hg2 (LeV.refl _) (fun h0 => absurd h0 (by omega))) (by simp only; omega) ⟨rfl, rfl, rfl, rfl, rfl, trivial⟩ (by repeat constructor)
    · obtain rfl : k = r.drifts.length := by omega
      clear hc
      have hfb : sh < 4 → FineV r vf1 (sh + 1) wt := fun h4 => good_fine2 hr hp hg1 hwt
      have hfw : 0 < wt → FineV r vf1 sh (wt - 1) := fun h0 => good_fine2 hr hp hg1 (by omega)
      have hch : chV r p (gvF vf1 (sh + 1) wt) (gvF vf1 sh (wt - 1)) sh wt st cl = choV r p sh wt st cl := by
        unfold choV
        refine chV_congr r p _ _ _ _ sh wt st cl hcl (fun h4 t c ht hc => ?_) (fun h0 t ht => ?_)
        · show (vf1 ((sh + 1 : Nat) : Int) wt t c).getD 0 = _
          rw [hg1.at (hs1 h4 t c ht hc)]; rfl
        · show (vf1 sh ((wt - 1 : Nat) : Int) t cl).getD 0 = _
          rw [hg1.at (hw1 h0 t ht)]; rfl
      (refine q_exit _ rfl (q_seq (q_region ?_)); refine ql_loadG tabOk rfl rfl rfl (by assumption) (by rfl) ?_; refine ql_loadABa tabOk rfl rfl rfl ?_)
      refine ql_callv (val := .tuple #[.agg #[.bool (choV r p sh wt st cl).1.1, .int .i64 (choV r p sh wt st cl).1.2], .int .i64 (valV r p sh wt st cl)]) tabOk rfl rfl rfl rfl (fun w hs => ?_) ?_; exact by have := choose_ca w bp bd bm r p vf1 sh wt st cl (hF0.mapC hm0 hs.chg).1 (hs.mem (show mpV bm vf1 ∈ _ from by repeat constructor)) hr hp (by omega) hw3 hst hcl hfb hfw; rw [hch, ← valV_eq r p sh wt st cl h5 hwt hst hcl] at this; exact this
      (refine ql_pure tabOk rfl rfl (ql_ext tabOk rfl rfl rfl (ql_ext tabOk rfl rfl rfl ?_)))
      refine ql_alloc zero42 rfl (fun b9 => ?_)
      (refine ql_setA tabOk rfl rfl rfl rfl rfl (by repeat constructor) rfl ?_; refine ql_pure tabOk rfl rfl (q_nil (q_seq ?_)))
      refine q_draw _ [mpV bm vf1] (Sp.cons (by repeat constructor) (Sp.refl _)) (by kernel_rfl) (by kernel_rfl) ?_
      (refine qf_loadG tabOk rfl rfl rfl (by assumption) (by rfl) ?_; refine qf_pure tabOk rfl rfl rfl (qf_pure tabOk rfl rfl rfl ?_); refine qf_loadG tabOk rfl rfl rfl (by assumption) (by rfl) ?_; refine qf_loadABa tabOk rfl rfl rfl ?_; refine qf_pure tabOk rfl rfl rfl ?_)
      refine qf_mapUpd plc_key plc_map rfl rfl rfl (plcV_key _ _ _ _) (by repeat constructor) ?_
      (refine qf_nil (q_seq (q_region (ql_pure tabOk rfl rfl (ql_pure tabOk rfl rfl (q_nil (q_ret ?_)))))))
      refine q_fin tabOk rfl (by repeat constructor) fun w hs => ?_
      refine ⟨updF vf1 sh wt st cl (valV r p sh wt st cl), rfl, updF_good hg1 h5 hwt hst hcl, hl1.trans (updF_le hg1), by rw [updF_self]; rfl, ?_⟩
      exact (hs.sp (Sp.cons (by repeat constructor) .nil)).mapC (updF_lift vf1 sh wt st cl _)
end
theorem RgC.mapC {w w' : World} {b : Nat} {K : Value → Prop} {q : Value → Value → Bool} {f : Value → Option Value} {cs : List Value} {r : Rg} (h : RgC w cs r) (hm : MapAt w b K q f) (c : ChgP (· = b) w w') : RgC w' cs r := by
  obtain ⟨lo, hi, ag, cg, ad, cd, af, cf, an, cn, h1, h2, h3, h4, h5⟩ := h
  exact ⟨lo, hi, ag, cg, ad, cd, af, cf, an, cn, h1, RdE.mapC h2 hm c, RdE.mapC h3 hm c, RdE.mapC h4 hm c, RdII.mapC h5 hm c⟩
theorem plcL_mem (r : Rg) (p : Ru) (sh wt st : Nat) (cl : Int) : (sh, wt, st, cl) ∈ plcL r p ↔ sh < 5 ∧ (wt : Int) ≤ p.waits ∧ st < r.drifts.length ∧ (-r.clicks ≤ cl ∧ cl ≤ r.clicks) := by
  simp only [plcL, pl1, pl2, pl3, pl4, List.mem_flatMap, List.mem_range, List.mem_singleton, Prod.mk.injEq]
  constructor
  · rintro ⟨a, ha, b, hb, c, hc, d, hd, rfl, rfl, rfl, rfl⟩
    exact ⟨ha, by omega, hc, by omega, by omega⟩
  · rintro ⟨h1, h2, h3, h4, h5⟩
    exact ⟨sh, h1, wt, by omega, st, h3, (cl + r.clicks).toNat, by omega, rfl, rfl, rfl, by omega⟩
theorem DL_mpV (bm : Nat) (vf : Vf) : DL [mpV bm vf] = (· = bm) := by
  funext b
  refine propext ⟨?_, ?_⟩
  · rintro ⟨c, hc, hb⟩
    rw [List.mem_singleton.1 hc] at hb
    exact hb
  · rintro rfl
    exact ⟨_, .head _, rfl⟩
set_option maxHeartbeats 2000000 in
theorem begun_no (w : World) (cs : List Value) (r : Rg) (p : Ru) (h : RgC w cs r) (hsm : r.Small) (hr : rulesV r p ≠ 0) : Ca Try.prog 14 [.agg cs.toArray, .agg #[.int .i64 p.miss, .int .i64 p.click, .int .i64 p.wait, .int .i64 p.waits]] w fun v w' => v = .tuple #[.pointer none, .int .i64 (rulesV r p)] ∧ Chg [] w w' := by
  have h0 := h
  obtain ⟨lo, hi, ag, cg, ad, cd, af, cf, an, cn, rfl, hg, hdr, hf, hn⟩ := h
  refine q_of (Sat.nil w M0) Try.func14 rfl (by simp [Try.ntmps14]) ?_
  (refine q_seq (q_region ?_))
  refine ql_box rfl rfl (fun b2 => ?_)
  skip
  refine ql_box rfl rfl (fun b3 => ?_)
  (refine ql_pure tabOk rfl rfl (ql_pure tabOk rfl rfl (q_nil (q_seq (q_seq (q_region ?_))))); (iterate 2 refine ql_loadABa tabOk rfl rfl rfl ?_))
  refine ql_callv (val := .int .i64 (rulesV r p)) tabOk rfl rfl rfl rfl (fun w hs => ?_) ?_; exact chkRules_ca w _ r p (h0.keep hs.chg0) hsm
  (refine ql_pure tabOk rfl rfl (q_nil (q_seq (q_region (ql_pure tabOk rfl rfl (ql_pure tabOk rfl rfl (q_nil ?_)))))))
  rw [decide_eq_false hr]
  (refine q_cond_true rfl (q_seq (q_region ?_)); (iterate 3 refine ql_pure tabOk rfl rfl ?_); refine q_nil (q_ret ?_))
  refine q_fin tabOk rfl (by repeat constructor) fun w hs => ?_
  exact ⟨rfl, hs.chg0⟩
set_option maxHeartbeats 2000000 in
theorem begun_ok (w : World) (cs : List Value) (r : Rg) (p : Ru) (h : RgC w cs r) (hsm : r.Small) (hr : rulesV r p = 0) : Ca Try.prog 14 [.agg cs.toArray, .agg #[.int .i64 p.miss, .int .i64 p.click, .int .i64 p.wait, .int .i64 p.waits]] w fun v w' =>
    ∃ x : Nat × Nat × Nat, v = .tuple #[.pointer (some ⟨x.1, 0, none⟩), .int .i64 0] ∧
      Sat w M0 [.pt x.1 [.pointer (some ⟨x.2.1, 0, none⟩), .int .i64 p.miss, .int .i64 p.click, .int .i64 p.wait, .int .i64 p.waits, .map (some x.2.2)] 75, mpV x.2.2 (fun _ _ _ _ => none), .pt x.2.1 cs 82] w' := by
  have h0 := h
  obtain ⟨lo, hi, ag, cg, ad, cd, af, cf, an, cn, rfl, hg, hdr, hf, hn⟩ := h
  refine q_of (Sat.nil w M0) Try.func14 rfl (by simp [Try.ntmps14]) ?_
  (refine q_seq (q_region ?_))
  refine ql_box rfl rfl (fun b2 => ?_)
  skip
  refine ql_box rfl rfl (fun b3 => ?_)
  (refine ql_pure tabOk rfl rfl (ql_pure tabOk rfl rfl (q_nil (q_seq (q_seq (q_region ?_))))); (iterate 2 refine ql_loadABa tabOk rfl rfl rfl ?_))
  refine ql_callv (val := .int .i64 0) tabOk rfl rfl rfl rfl (fun w hs => ?_) ?_; exact by have := chkRules_ca w _ r p (h0.keep hs.chg0) hsm; rw [hr] at this; exact this
  (refine ql_pure tabOk rfl rfl (q_nil (q_seq (q_region (ql_pure tabOk rfl rfl (ql_pure tabOk rfl rfl (q_nil (q_cond_false rfl (q_skip (q_seq (q_region ?_)))))))))); refine ql_loadABa tabOk rfl rfl rfl ?_)
  refine ql_mk #[.int .i64 r.radius, .int .i64 r.unit, .int .i64 r.clicks, .int .i64 r.total, .slice ag r.group.length cg, .slice ad r.drifts.length cd, .slice af r.first.length cf, .slice an r.next.length cn] rfl (by kernel_rfl) rfl ?_
  refine ql_box rfl rfl (fun bd => ?_)
  (refine ql_loadABa tabOk rfl rfl rfl ?_)
  refine ql_makeMap (keyF k4) eqV rfl (fun bm => ?_)
  skip
  refine ql_mk #[.pointer (some ⟨bd, 0, none⟩), .int .i64 p.miss, .int .i64 p.click, .int .i64 p.wait, .int .i64 p.waits, .map (some bm)] rfl (by kernel_rfl) rfl ?_
  refine ql_box rfl rfl (fun bp => ?_)
  (refine ql_pure tabOk rfl rfl (ql_pure tabOk rfl rfl (q_nil (q_ret ?_))))
  refine q_fin tabOk rfl (by repeat constructor) fun w hs => ?_
  refine ⟨(bp, bd, bm), rfl, ?_⟩
  have h1 : Sat _ M0 [mpP (keyF k4) eqV bm (fun _ => none), .pt bp [.pointer (some ⟨bd, 0, none⟩), .int .i64 p.miss, .int .i64 p.click, .int .i64 p.wait, .int .i64 p.waits, .map (some bm)] 75, .pt bd [.int .i64 r.radius, .int .i64 r.unit, .int .i64 r.clicks, .int .i64 r.total, .slice ag r.group.length cg, .slice ad r.drifts.length cd, .slice af r.first.length cf, .slice an r.next.length cn] 82] _ := hs.sp (by repeat constructor)
  refine (h1.mapC (g := liftF (fun _ _ _ _ => none)) (fun k hk => ?_)).sp (by repeat constructor)
  unfold liftF
  split
  · split <;> rfl
  · rfl
set_option maxHeartbeats 2000000 in
theorem fill2_ca (w : World) (bp bd bm b1 b2 : Nat) (r : Rg) (p : Ru) (hr : r.Right) (hp : p.Right) (sh wt st : Nat) (cl : Int) (vf : Vf) (h5 : sh < 5) (hwt : (wt : Int) ≤ p.waits) (hst : st < r.drifts.length) (hcl : -r.clicks ≤ cl ∧ cl ≤ r.clicks)
    (hF : FillAt w bp bd bm b1 b2 r p) (hm : MapAt w bm (keyF k4) eqV (liftF vf)) (hgood : GoodV r p vf) :
    Ca Try.prog 31 [plcV sh wt st cl, .pointer (some ⟨b2, 0, none⟩)] w fun v w' => ∃ vf', v = .tuple #[] ∧ GoodV r p vf' ∧ LeV vf vf' ∧ (vf' sh wt st cl).isSome = true ∧ Sat w (· = bm) [mpV bm vf'] w' := by
  have hF0 := hF
  have hm0 := hm
  obtain ⟨h, ⟨t1, hb1⟩, t2, hb2⟩ := hF
  have hb2 := fun w' (c : ChgP (· = bm) w w') => Blk.mapC hb2 hm0 c
  refine q_of (H := [mpV bm vf]) (map_sat hm) Try.func31 rfl (by simp [Try.ntmps31]) ?_
  (refine q_seq (q_region ?_))
  refine ql_box rfl rfl (fun b3 => ?_)
  (refine q_nil (q_region ?_); refine ql_loadG tabOk rfl rfl rfl (by assumption) (by rfl) ?_; refine ql_loadABa tabOk rfl rfl rfl ?_)
  refine ql_call (β := Vf) (ψ := fun vf' v => v = .int .i64 (valV r p sh wt st cl) ∧ GoodV r p vf' ∧ LeV vf vf' ∧ (vf' sh wt st cl).isSome = true) (L' := fun vf' => [mpV bm vf']) tabOk
    [mpV bm vf] _ (· = bm) rfl rfl rfl rfl (Sp.cons (by repeat constructor) (Sp.refl _)) (fun b hb => ⟨_, .head _, hb⟩) (fun w' hs => (value_ca bp bd bm b1 b2 r p hr hp _ sh wt st cl w' vf rfl h5 hwt hst hcl (hF0.mapC hm0 hs.chg) (hs.mem (show mpV bm vf ∈ _ from .head _)) hgood).mono fun v w'' ⟨vf', g1, g2, g3, g4, g5⟩ => ⟨vf', ⟨g1, g2, g3, g4⟩, g5⟩) ?_
  rintro vf3 _ ⟨rfl, g2, g3, g4⟩
  (refine q_nil ?_)
  refine q_end tabOk rfl (by repeat constructor) fun w hs => ?_
  exact ⟨vf3, rfl, g2, g3, g4, hs.sp (by repeat constructor)⟩
set_option maxHeartbeats 2000000 in
theorem fill_ca (w : World) (bp bd bm : Nat) (r : Rg) (p : Ru) (hr : r.Right) (hp : p.Right) (vf : Vf) (h : PlAt w bp bd bm r p) (hm : MapAt w bm (keyF k4) eqV (liftF vf)) (hgood : GoodV r p vf) :
    Ca Try.prog 19 [.pointer (some ⟨bp, 0, none⟩)] w fun v w' => ∃ vf', v = .tuple #[] ∧ GoodV r p vf' ∧ (∀ sh wt st cl, (sh, wt, st, cl) ∈ plcL r p → (vf' sh wt st cl).isSome = true) ∧ Sat w (· = bm) [mpV bm vf'] w' := by
  have h0 := h
  have hm0 := hm
  obtain ⟨tp, hplb, hdk⟩ := h; have hdk0 := hdk; obtain ⟨cs, bt, hblk, lo, hi, ag, cg, ad, cd, af, cf, an, cn, rfl, hg, hdr, hf, hn⟩ := hdk
  refine q_of (H := [mpV bm vf]) (map_sat hm) Try.func19 rfl (by simp [Try.ntmps19]) ?_
  (refine q_seq (q_region ?_))
  refine ql_box rfl rfl (fun b1 => ?_)
  (refine q_nil (q_seq (q_region ?_)))
  refine ql_alloc zero83 rfl (fun b2 => ?_)
  (refine q_nil (q_seq (q_region (ql_pure tabOk rfl rfl ?_))); refine ql_set tabOk rfl rfl rfl rfl (by repeat constructor) ?_; refine q_nil (q_region ?_); refine ql_loadBa tabOk rfl rfl rfl ?_; refine ql_pure tabOk rfl rfl ?_)
  refine ql_call (β := Vf) (ψ := fun vf' v => GoodV r p vf' ∧ ∀ x ∈ plcL r p, (vf' x.1 x.2.1 x.2.2.1 x.2.2.2).isSome = true) (L' := fun vf' => [mpV bm vf']) tabOk
    [mpV bm vf] _ (· = bm) rfl rfl rfl rfl (Sp.cons (by repeat constructor) (Sp.refl _)) (fun b hb => ⟨_, .head _, hb⟩) (fun w' hs => ?_) ?_
  · have hsat : Sat w' (DL [mpV bm vf]) [mpV bm vf] w' := hs.self
    have hm' : MapAt w' bm (keyF k4) eqV (liftF vf) := hs.mem (show mpV bm vf ∈ _ from .head _)
    have hF : FillAt w' bp bd bm b1 b2 r p := ⟨PlAt.mapC h0 hm0 hs.chg, ⟨_, hs.blk (by repeat constructor)⟩, ⟨_, hs.blk (by repeat constructor)⟩⟩
    have hdk' := RgC.mapC ⟨lo, hi, ag, cg, ad, cd, af, cf, an, cn, rfl, hg, hdr, hf, hn⟩ hm0 hs.chg
    have hp' := Blk.mapC hplb hm0 hs.chg
    have hb' := Blk.mapC hblk hm0 hs.chg
    refine (situations_ca (σ := Vf) w' bp bd bm r p (.func (.func 31) #[] #[.pointer (some ⟨b2, 0, none⟩)]) (fun vf => [mpV bm vf]) (fun pre vf => GoodV r p vf ∧ ∀ x ∈ pre, (vf x.1 x.2.1 x.2.2.1 x.2.2.2).isSome = true) vf tp bt _ hdk' hr hp
      (fun w'' hc => by rw [DL_mpV] at hc; exact Blk.mapC hp' hm' hc) (fun w'' hc => by rw [DL_mpV] at hc; exact Blk.mapC hb' hm' hc) ⟨hgood, fun _ h => by cases h⟩ hsat ?_).mono fun v w'' ⟨vf', h1, h2⟩ => ⟨vf', h1, by rw [DL_mpV] at h2; exact h2⟩
    rintro pre ⟨sh, wt, st, cl⟩ post vf1 w1 hx ⟨hg1, hp1⟩ hs1
    obtain ⟨m1, m2, m3, m4⟩ := (plcL_mem r p sh wt st cl).1 (by rw [hx]; simp)
    rw [DL_mpV] at hs1
    have hm1 : MapAt w1 bm (keyF k4) eqV (liftF vf1) := hs1.mem (show mpV bm vf1 ∈ _ from .head _)
    refine CaF.of tabOk rfl ((fill2_ca w1 bp bd bm b1 b2 r p hr hp sh wt st cl vf1 m1 m2 m3 m4 (hF.mapC hm' hs1.chg) hm1 hg1).mono ?_)
    rintro v w2 ⟨vf2, _, g1, g2, g3, g4⟩
    refine ⟨vf2, ⟨g1, fun x hx => ?_⟩, by rw [DL_mpV]; exact g4⟩
    rcases List.mem_append.1 hx with hx | hx
    · exact g2.some (hp1 x hx)
    · rw [List.mem_singleton.1 hx]
      exact g3
  rintro vf' v ⟨g1, g2⟩
  (refine q_nil ?_)
  refine q_end tabOk rfl (by repeat constructor) fun w hs => ?_
  exact ⟨vf', rfl, g1, fun sh wt st cl hx => g2 _ hx, hs.sp (by repeat constructor)⟩
def chzV (c : Bool × Int) : Value := .agg #[.bool c.1, .int .i64 c.2]
/-- The best choice of a situation, or the error. -/
def chooseV (r : Rg) (p : Ru) (shot waits state click : Int) : (Bool × Int) × Int :=
  if rulesV r p ≠ 0 then ((false, 0), rulesV r p) else if !inB shot 0 4 then ((false, 0), 1) else if !inB state 0 ((r.drifts.length : Int) - 1) then ((false, 0), 1)
  else if !inB waits 0 p.waits then ((false, 0), 3) else if !inB click (-r.clicks) r.clicks then ((false, 0), 3) else ((choV r p shot.toNat waits.toNat state.toNat click).1, 0)
/-- The best choice, where the map holds all values. -/
theorem choose_full (w : World) (bp bd bm : Nat) (r : Rg) (p : Ru) (vf : Vf) (shot wt st : Nat) (cl : Int) (h : PlAt w bp bd bm r p) (hm : MapAt w bm (keyF k4) eqV (liftF vf)) (hr : r.Right) (hp : p.Right) (hgood : GoodV r p vf) (hfull : ∀ sh wt st cl, (sh, wt, st, cl) ∈ plcL r p → (vf sh wt st cl).isSome = true)
    (h5 : shot < 5) (hw : (wt : Int) ≤ p.waits) (hst : st < r.drifts.length) (hcl : -r.clicks ≤ cl ∧ cl ≤ r.clicks) :
    Ca Try.prog 20 [.pointer (some ⟨bp, 0, none⟩), plcV shot wt st cl] w fun v w' =>
      v = .tuple #[chzV (choV r p shot wt st cl).1, .int .i64 (choV r p shot wt st cl).2] ∧ Chg [] w w' := by
  have hw3 : wt ≤ 3 := by have := hp.waits; omega
  have hch : chV r p (gvF vf (shot + 1) wt) (gvF vf shot (wt - 1)) shot wt st cl = choV r p shot wt st cl := by
    unfold choV
    refine chV_congr r p _ _ _ _ shot wt st cl hcl (fun h4 t c ht hc => ?_) (fun h0 t ht => ?_)
    · show (vf ((shot + 1 : Nat) : Int) wt t c).getD 0 = _
      rw [hgood.at (hfull _ _ _ _ ((plcL_mem r p _ _ _ _).2 ⟨by omega, hw, ht, hc⟩))]; rfl
    · show (vf shot ((wt - 1 : Nat) : Int) t cl).getD 0 = _
      rw [hgood.at (hfull _ _ _ _ ((plcL_mem r p _ _ _ _).2 ⟨by omega, by omega, ht, hcl⟩))]; rfl
  have := choose_ca w bp bd bm r p vf shot wt st cl h hm hr hp (by omega) hw3 hst hcl (fun _ => good_fine2 hr hp hgood hw) (fun _ => good_fine2 hr hp hgood (by omega))
  rw [hch] at this
  exact this
set_option maxHeartbeats 4000000 in
theorem chooseF_ca (w : World) (cs : List Value) (r : Rg) (p : Ru) (shot waits state click : Int) (h : RgC w cs r) (hsm : r.Small) : Ca Try.prog 9 [.agg cs.toArray, .agg #[.int .i64 p.miss, .int .i64 p.click, .int .i64 p.wait, .int .i64 p.waits], .int .i64 shot, .int .i64 waits, .int .i64 state, .int .i64 click] w fun v w' =>
    v = .tuple #[chzV (chooseV r p shot waits state click).1, .int .i64 (chooseV r p shot waits state click).2] ∧ Chg [] w w' := by
  have h0 := h
  have s2 := hsm.drifts
  obtain ⟨lo, hi, ag, cg, ad, cd, af, cf, an, cn, rfl, hg, hdr, hf, hn⟩ := h
  refine q_of (Sat.nil w M0) Try.func9 rfl (by simp [Try.ntmps9]) ?_
  (refine q_seq (q_region ?_))
  refine ql_box rfl rfl (fun b6 => ?_)
  skip
  refine ql_box rfl rfl (fun b7 => ?_)
  skip
  refine ql_alloc zero42 rfl (fun b12 => ?_)
  (refine ql_pure tabOk rfl rfl (q_nil (q_seq (q_region ?_))); (iterate 2 refine ql_loadABa tabOk rfl rfl rfl ?_))
  by_cases hru : rulesV r p = 0
  · obtain ⟨hck, hp⟩ := (rules_iff r p).1 hru
    have hr := (right_check r).1 hck
    have hC := hr.clicks
    have hW := hp.waits
    refine ql_call (β := Nat × Nat × Nat) tabOk [] _ M0 rfl rfl rfl rfl (Sp.refl _) (fun _ h => h.elim) (fun w' hs => begun_ok w' _ r p (h0.keep hs.chg0) hsm hru) ?_
    rintro ⟨bp, bd, bm⟩ _ rfl
    (refine ql_pure tabOk rfl rfl (ql_ext tabOk rfl rfl rfl (ql_ext tabOk rfl rfl rfl (ql_pure tabOk rfl rfl (ql_pure tabOk rfl rfl (q_nil (q_seq (q_block (q_seq (q_region ?_))))))))); (iterate 3 refine ql_pure tabOk rfl rfl ?_); refine q_nil (q_cond_false rfl (q_seq (q_region (ql_pure tabOk rfl rfl ?_)))))
    refine ql_callv (val := .bool (inB shot 0 4)) tabOk rfl rfl rfl rfl (fun w hs => ?_) ?_; exact in_ca _ _ _ w
    (refine ql_pure tabOk rfl rfl (ql_pure tabOk rfl rfl ?_))
    cases c1 : inB shot 0 4 with
    | false =>
      ((iterate 7 refine ql_gno rfl rfl rfl ?_); refine ql_pure tabOk rfl rfl (ql_pure tabOk rfl rfl (q_nil (q_cond_true rfl (q_seq (q_region ?_))))))
      refine ql_mk #[.bool false, .int .i64 0] rfl (by kernel_rfl) rfl ?_
      (refine ql_setA tabOk rfl rfl rfl rfl rfl (by repeat constructor) rfl ?_; refine ql_pure tabOk rfl rfl (q_nil (q_ret ?_)))
      refine q_fin tabOk rfl (by repeat constructor) fun w hs => ?_
      refine ⟨?_, hs.chg0⟩
      have e : chooseV r p shot waits state click = ((false, 0), 1) := by unfold chooseV; rw [if_neg (by simpa using hru), c1]; rfl
      rw [e]; rfl
    | true =>
      (refine ql_gyes rfl (ql_pure tabOk rfl rfl (ql_gyes rfl (ql_pure tabOk rfl rfl (ql_gyes rfl ?_)))); refine ql_loadBa tabOk rfl rfl rfl ?_; refine ql_gyes rfl (ql_pure tabOk rfl rfl (ql_gyes rfl (ql_ar tabOk rfl rfl rfl rfl (by omega) (by omega) (ql_gyes rfl ?_)))))
      refine ql_callv (val := .bool (inB state 0 ((r.drifts.length : Int) - 1))) tabOk rfl rfl rfl rfl (fun w hs => ?_) ?_; exact in_ca _ _ _ w
      (refine ql_gyes rfl ?_; (iterate 3 refine ql_pure tabOk rfl rfl ?_); refine q_nil ?_)
      cases c2 : inB state 0 ((r.drifts.length : Int) - 1) with
      | false =>
        (refine q_cond_true rfl (q_seq (q_region ?_)))
        refine ql_mk #[.bool false, .int .i64 0] rfl (by kernel_rfl) rfl ?_
        (refine ql_setA tabOk rfl rfl rfl rfl rfl (by repeat constructor) rfl ?_; refine ql_pure tabOk rfl rfl (q_nil (q_ret ?_)))
        refine q_fin tabOk rfl (by repeat constructor) fun w hs => ?_
        refine ⟨?_, hs.chg0⟩
        have e : chooseV r p shot waits state click = ((false, 0), 1) := by unfold chooseV; rw [if_neg (by simpa using hru), c1, c2]; rfl
        rw [e]; rfl
      | true =>
        (refine q_cond_false rfl (q_seq (q_region (ql_pure tabOk rfl rfl (ql_pure tabOk rfl rfl ?_)))); refine ql_loadBa tabOk rfl rfl rfl ?_)
        refine ql_callv (val := .bool (inB waits 0 p.waits)) tabOk rfl rfl rfl rfl (fun w hs => ?_) ?_; exact in_ca _ _ _ w
        (refine ql_pure tabOk rfl rfl (ql_pure tabOk rfl rfl ?_))
        cases c3 : inB waits 0 p.waits with
        | false =>
          ((iterate 8 refine ql_gno rfl rfl rfl ?_); refine ql_pure tabOk rfl rfl (ql_pure tabOk rfl rfl (q_nil (q_cond_true rfl (q_seq (q_region ?_))))))
          refine ql_mk #[.bool false, .int .i64 0] rfl (by kernel_rfl) rfl ?_
          (refine ql_setA tabOk rfl rfl rfl rfl rfl (by repeat constructor) rfl ?_; refine ql_pure tabOk rfl rfl (q_nil (q_ret ?_)))
          refine q_fin tabOk rfl (by repeat constructor) fun w hs => ?_
          refine ⟨?_, hs.chg0⟩
          have e : chooseV r p shot waits state click = ((false, 0), 3) := by unfold chooseV; rw [if_neg (by simpa using hru), c1, c2, c3]; rfl
          rw [e]; rfl
        | true =>
          (refine ql_gyes rfl (ql_pure tabOk rfl rfl (ql_gyes rfl (ql_pure tabOk rfl rfl (ql_gyes rfl ?_)))); refine ql_loadBa tabOk rfl rfl rfl ?_; refine ql_gyes rfl (ql_neg tabOk rfl rfl (by omega) (by omega) (ql_gyes rfl (ql_pure tabOk rfl rfl (ql_gyes rfl ?_)))); refine ql_loadBa tabOk rfl rfl rfl ?_; refine ql_gyes rfl ?_)
          refine ql_callv (val := .bool (inB click (-r.clicks) r.clicks)) tabOk rfl rfl rfl rfl (fun w hs => ?_) ?_; exact in_ca _ _ _ w
          (refine ql_gyes rfl ?_; (iterate 3 refine ql_pure tabOk rfl rfl ?_); refine q_nil ?_)
          cases c4 : inB click (-r.clicks) r.clicks with
          | false =>
            (refine q_cond_true rfl (q_seq (q_region ?_)))
            refine ql_mk #[.bool false, .int .i64 0] rfl (by kernel_rfl) rfl ?_
            (refine ql_setA tabOk rfl rfl rfl rfl rfl (by repeat constructor) rfl ?_; refine ql_pure tabOk rfl rfl (q_nil (q_ret ?_)))
            refine q_fin tabOk rfl (by repeat constructor) fun w hs => ?_
            refine ⟨?_, hs.chg0⟩
            have e : chooseV r p shot waits state click = ((false, 0), 3) := by unfold chooseV; rw [if_neg (by simpa using hru), c1, c2, c3, c4]; rfl
            rw [e]; rfl
          | true =>
            have i1 := inB_iff.1 c1
            have i2 := inB_iff.1 c2
            have i3 := inB_iff.1 c3
            have i4 := inB_iff.1 c4
            (refine q_cond_false rfl (q_skip (q_blk (q_seq (q_region (ql_pure tabOk rfl rfl ?_))))))
            refine ql_call (β := Vf) (ψ := fun vf' v => GoodV r p vf' ∧ ∀ sh wt st cl, (sh, wt, st, cl) ∈ plcL r p → (vf' sh wt st cl).isSome = true) (L' := fun vf' => [mpV bm vf']) tabOk
              [mpV bm (fun _ _ _ _ => none)] _ (· = bm) rfl rfl rfl rfl (Sp.cons (by repeat constructor) (Sp.refl _)) (fun b hb => ⟨_, .head _, hb⟩) (fun w' hs => (fill_ca w' bp bd bm r p hr hp (fun _ _ _ _ => none) ⟨_, hs.blk (b := bp) (by repeat constructor), _, _, hs.blk (b := bd) (by repeat constructor), h0.keep hs.chg0⟩ (hs.mem (show mpV bm (fun _ _ _ _ => none) ∈ _ from .head _)) (fun _ _ _ _ _ h => by cases h)).mono fun v w'' ⟨vf', _, g1, g2, g3⟩ => ⟨vf', ⟨g1, g2⟩, g3⟩) ?_
            rintro vf v ⟨hgood, hfull⟩
            (refine q_nil (q_seq (q_region ?_)); (iterate 5 refine ql_pure tabOk rfl rfl ?_))
            refine ql_mk #[.int .i64 shot, .int .i64 waits, .int .i64 state, .int .i64 click] rfl (by kernel_rfl) rfl ?_
            skip
            refine ql_callv (val := .tuple #[.agg #[.bool (choV r p shot.toNat waits.toNat state.toNat click).1.1, .int .i64 (choV r p shot.toNat waits.toNat state.toNat click).1.2], .int .i64 (choV r p shot.toNat waits.toNat state.toNat click).2]) tabOk rfl rfl rfl rfl (fun w hs => ?_) ?_; exact by have := choose_full w bp bd bm r p vf shot.toNat waits.toNat state.toNat click ⟨_, hs.blk (b := bp) (by repeat constructor), _, _, hs.blk (b := bd) (by repeat constructor), h0.keep hs.chg0⟩ (hs.mem (show mpV bm vf ∈ _ from by repeat constructor)) hr hp hgood hfull (by omega) (by omega) (by omega) i4; rw [show ((shot.toNat : Nat) : Int) = shot by omega, show ((waits.toNat : Nat) : Int) = waits by omega, show ((state.toNat : Nat) : Int) = state by omega] at this; exact this
            (refine ql_pure tabOk rfl rfl (ql_ext tabOk rfl rfl rfl (ql_ext tabOk rfl rfl rfl ?_)))
            refine ql_alloc zero42 rfl (fun b16 => ?_)
            (refine ql_setA tabOk rfl rfl rfl rfl rfl (by repeat constructor) rfl ?_; refine ql_pure tabOk rfl rfl (q_nil (q_seq (q_region ?_))); refine ql_loadABa tabOk rfl rfl rfl ?_; refine ql_setA tabOk rfl rfl rfl rfl rfl (by repeat constructor) rfl ?_; refine ql_pure tabOk rfl rfl (q_nil (q_ret ?_)))
            refine q_fin tabOk rfl (by repeat constructor) fun w hs => ?_
            refine ⟨?_, hs.chg0⟩
            have e : chooseV r p shot waits state click = ((choV r p shot.toNat waits.toNat state.toNat click).1, 0) := by unfold chooseV; rw [if_neg (by simpa using hru), c1, c2, c3, c4]; rfl
            rw [e]; rfl
  · refine ql_callv (val := .tuple #[.pointer none, .int .i64 (rulesV r p)]) tabOk rfl rfl rfl rfl (fun w hs => ?_) ?_; exact begun_no w _ r p (h0.keep hs.chg0) hsm hru
    (refine ql_pure tabOk rfl rfl (ql_ext tabOk rfl rfl rfl (ql_ext tabOk rfl rfl rfl (ql_pure tabOk rfl rfl (ql_pure tabOk rfl rfl (q_nil (q_seq (q_block (q_seq (q_region ?_))))))))); (iterate 3 refine ql_pure tabOk rfl rfl ?_); refine q_nil ?_)
    rw [decide_eq_false hru]
    (refine q_cond_true rfl (q_seq (q_region ?_)))
    refine ql_mk #[.bool false, .int .i64 0] rfl (by kernel_rfl) rfl ?_
    (refine ql_pure tabOk rfl rfl ?_; refine ql_setA tabOk rfl rfl rfl rfl rfl (by repeat constructor) rfl ?_; refine ql_pure tabOk rfl rfl (q_nil (q_ret ?_)))
    refine q_fin tabOk rfl (by repeat constructor) fun w hs => ?_
    refine ⟨?_, hs.chg0⟩
    have e : chooseV r p shot waits state click = ((false, 0), rulesV r p) := by unfold chooseV; rw [if_pos hru]
    rw [e]; rfl
/-- How far one is. -/
structure FS where
  shot : Nat
  wt : Int
  cl : Int
  misses : Int
  cost : Int
  steps : Int
def stepF (r : Rg) (p : Ru) (offs : List Int) (x : FS) (st : Int) : FS :=
  if x.shot = 5 then x else
  let c := (choV r p x.shot x.wt.toNat st.toNat x.cl).1
  if c.1 then { x with wt := x.wt - 1, cost := x.cost + p.wait, steps := x.steps + 1 }
  else if hitB r (r.drifts.getD st.toNat 0 + offs.getD x.shot 0 + c.2 * r.unit) then { x with shot := x.shot + 1, cl := c.2, cost := x.cost + p.click * max (c.2 - x.cl) (x.cl - c.2), steps := x.steps + 1 }
  else { x with shot := x.shot + 1, cl := c.2, misses := x.misses + 1, cost := x.cost + p.click * max (c.2 - x.cl) (x.cl - c.2) + p.miss, steps := x.steps + 1 }
def endF (r : Rg) (p : Ru) (states offs : List Int) : FS := states.foldl (stepF r p offs) ⟨0, p.waits, 0, 0, 0, 0⟩
/-- What comes of following the plan: misses, cost, steps; the error. -/
def followV (r : Rg) (p : Ru) (states offs : List Int) : (Int × Int × Int) × Int :=
  if rulesV r p ≠ 0 then ((0, 0, 0), rulesV r p) else if (offs.length : Int) ≠ 5 then ((0, 0, 0), 2) else if 5 + p.waits < (states.length : Int) then ((0, 0, 0), 2)
  else if !(states.all (fun n => inB n 0 ((r.drifts.length : Int) - 1))) then ((0, 0, 0), 1) else if !(offs.all (fun n => inB n (-((r.group.length : Int) / 2)) ((r.group.length : Int) / 2))) then ((0, 0, 0), 3)
  else if (endF r p states offs).shot < 5 then ((0, 0, 0), 6) else (((endF r p states offs).misses, (endF r p states offs).cost, (endF r p states offs).steps), 0)
theorem cho_wait {r : Rg} {p : Ru} {shot wt st : Nat} {cl : Int} (h : (choV r p shot wt st cl).1.1 = true) : 0 < wt ∧ (choV r p shot wt st cl).1.2 = 0 := by
  revert h
  unfold choV chV
  simp only
  split
  · split
    · intro _; exact ⟨by assumption, rfl⟩
    · intro h; cases h
  · intro h; cases h
theorem cho_click {r : Rg} {p : Ru} {shot wt st : Nat} {cl : Int} (hc : -r.clicks ≤ cl ∧ cl ≤ r.clicks) (h : (choV r p shot wt st cl).1.1 = false) : -r.clicks ≤ (choV r p shot wt st cl).1.2 ∧ (choV r p shot wt st cl).1.2 ≤ r.clicks := by
  have h2 := (chClick_spec r p (valV r p (shot + 1) wt) shot wt st cl hc).2.1
  revert h
  unfold choV chV
  simp only
  split
  · split
    · intro h; cases h
    · intro _; exact h2
  · intro _; exact h2
structure FOk (r : Rg) (p : Ru) (k : Nat) (x : FS) : Prop where
  shot : x.shot ≤ 5
  wt : 0 ≤ x.wt ∧ x.wt ≤ p.waits
  cl : -r.clicks ≤ x.cl ∧ x.cl ≤ r.clicks
  misses : 0 ≤ x.misses ∧ x.misses ≤ k
  cost : 0 ≤ x.cost ∧ x.cost ≤ 20000 * k
  steps : 0 ≤ x.steps ∧ x.steps ≤ k
theorem stepF_ok {r : Rg} {p : Ru} (hr : r.Right) (hp : p.Right) {offs : List Int} {k : Nat} {x : FS} (h : FOk r p k x) (st : Int) : FOk r p (k + 1) (stepF r p offs x st) := by
  have h1 := h.shot
  have h2 := h.wt
  have h3 := h.cl
  have h4 := h.misses
  have h5 := h.cost
  have h6 := h.steps
  have hC := hr.clicks
  have w1 := hp.wait
  have w2 := hp.miss
  unfold stepF
  split
  · exact ⟨h1, h2, h3, by omega, by omega, by omega⟩
  · rename_i hn
    simp only
    split
    · rename_i hw
      have := (cho_wait hw).1
      refine ⟨h1, ?_, h3, ?_, ?_, ?_⟩ <;> simp only <;> omega
    · rename_i hw
      have hcl := cho_click (r := r) (p := p) (shot := x.shot) (wt := x.wt.toNat) (st := st.toNat) h3 (by simpa using hw)
      have hfar := far_bd hC.2 h3 hcl
      have a1 := mul_bd0 hp.click hfar
      split <;> refine ⟨?_, ?_, hcl, ?_, ?_, ?_⟩ <;> simp only <;> omega
theorem takeF_ok {r : Rg} {p : Ru} (hr : r.Right) (hp : p.Right) (states offs : List Int) : ∀ k, k ≤ states.length → FOk r p k ((states.take k).foldl (stepF r p offs) ⟨0, p.waits, 0, 0, 0, 0⟩)
  | 0, _ => by
    have h1 := hr.clicks
    have h2' : 0 ≤ p.waits ∧ p.waits ≤ p.waits := ⟨hp.waits.1, Int.le_refl _⟩
    exact ⟨by simp, h2' , by simp; omega, by simp, by simp, by simp⟩
  | k + 1, h => by
    rw [List.take_succ_eq_append_getElem (by omega), List.foldl_append]
    exact stepF_ok hr hp (takeF_ok hr hp states offs k (by omega)) _
theorem stepF_5 {r : Rg} {p : Ru} {offs : List Int} (l : List Int) {x : FS} (h : x.shot = 5) : l.foldl (stepF r p offs) x = x := by
  induction l with
  | nil => rfl
  | cons a l ih => rw [List.foldl_cons, show stepF r p offs x a = x by unfold stepF; rw [if_pos h], ih]
theorem follow1_p (w : World) (b : Nat) (t : TypeId) (r : Rg) (cs : List Value) (es : List Int) (hb : Blk w b cs t) (a : Option Addr) (c : Nat) (hc : cs[5]? = some (.slice a r.drifts.length c)) (hs : r.drifts.length ≤ 1000000) : PredAt Try.prog tab w (.func (.func 16) #[] #[.pointer (some ⟨b, 0, none⟩)]) (ints es) (pI 0 ((r.drifts.length : Int) - 1)) := by
  refine ⟨_, _, _, rfl, rfl, fun w' hw' x hx => ?_⟩
  have hb' := hb.keep hw'
  obtain ⟨y, hy, rfl⟩ := List.mem_map.1 hx
  refine q_of (Sat.nil w' M0) Try.func16 rfl (by simp [Try.ntmps16]) ?_
  (refine q_seq (q_region (ql_pure tabOk rfl rfl (q_nil (q_seq (q_region (ql_pure tabOk rfl rfl (ql_pure tabOk rfl rfl ?_))))))))
  refine ql_loadP tabOk rfl rfl rfl hb' hc ?_
  (refine ql_pure tabOk rfl rfl (ql_ar tabOk rfl rfl rfl rfl (by omega) (by omega) ?_))
  refine ql_callv tabOk rfl rfl rfl rfl (fun w hs => in_ca y 0 ((r.drifts.length : Int) - 1) w) ?_
  (refine ql_pure tabOk rfl rfl (q_nil (q_ret ?_)))
  refine q_fin tabOk rfl (by repeat constructor) fun w hs => ?_
  exact ⟨rfl, hs.chg0⟩
theorem follow2_p (w : World) (b : Nat) (t : TypeId) (far : Int) (es : List Int) (hb : Blk w b [.int .i64 far] t) (hf : 0 ≤ far ∧ far ≤ 1000000) : PredAt Try.prog tab w (.func (.func 18) #[] #[.pointer (some ⟨b, 0, none⟩)]) (ints es) (pI (-far) far) := by
  refine ⟨_, _, _, rfl, rfl, fun w' hw' x hx => ?_⟩
  have hb' := hb.keep hw'
  obtain ⟨y, hy, rfl⟩ := List.mem_map.1 hx
  refine q_of (Sat.nil w' M0) Try.func18 rfl (by simp [Try.ntmps18]) ?_
  (refine q_seq (q_region (ql_pure tabOk rfl rfl (q_nil (q_seq (q_region (ql_pure tabOk rfl rfl ?_)))))); refine ql_loadP tabOk rfl rfl rfl (by assumption) (by rfl) ?_; refine ql_neg tabOk rfl rfl (by omega) (by omega) ?_; refine ql_loadP tabOk rfl rfl rfl (by assumption) (by rfl) ?_)
  refine ql_callv tabOk rfl rfl rfl rfl (fun w hs => in_ca y (-far) far w) ?_
  (refine ql_pure tabOk rfl rfl (q_nil (q_ret ?_)))
  refine q_fin tabOk rfl (by repeat constructor) fun w hs => ?_
  exact ⟨rfl, hs.chg0⟩
theorem chc_flat : flatB Try.prog 42 [none, some .i64] = true := by kernel_rfl
set_option maxHeartbeats 4000000 in
theorem follow_ca (w : World) (l0 h1 l2 h2 : Nat) (cs : List Value) (r : Rg) (p : Ru) (vs vo : Value) (states offs : List Int) (h : RgC w cs r) (hsm : r.Small) (hl : RdI w l0 h1 vs states) (hu : RdI w l2 h2 vo offs) (hlen : states.length ≤ 1000000) (hlen2 : offs.length ≤ 1000000) :
    Ca Try.prog 8 [.agg cs.toArray, .agg #[.int .i64 p.miss, .int .i64 p.click, .int .i64 p.wait, .int .i64 p.waits], vs, vo] w fun v w' =>
    v = .tuple #[.agg #[.int .i64 (followV r p states offs).1.1, .int .i64 (followV r p states offs).1.2.1, .int .i64 (followV r p states offs).1.2.2], .int .i64 (followV r p states offs).2] ∧ Chg [] w w' := by
  have h0 := h
  have s2 := hsm.drifts
  have s1 := hsm.group
  obtain ⟨lo, hi, ag, cg, ad, cd, af, cf, an, cn, rfl, hg, hdr, hf, hn⟩ := h
  obtain ⟨av, cv, rfl, hsd⟩ := hl.outI
  obtain ⟨ao, co, rfl, hod⟩ := hu.outI
  refine q_of (Sat.nil w M0) Try.func8 rfl (by simp [Try.ntmps8]) ?_
  (refine q_seq (q_region ?_))
  refine ql_box rfl rfl (fun b4 => ?_)
  skip
  refine ql_box rfl rfl (fun b5 => ?_)
  skip
  refine ql_alloc zero36 rfl (fun b8 => ?_)
  (refine ql_pure tabOk rfl rfl (q_nil ?_))
  refine q_scope (fun l a w h => h) ?_
  (refine q_seq (q_region ?_); (iterate 2 refine ql_loadABa tabOk rfl rfl rfl ?_))
  by_cases hru : rulesV r p = 0
  · obtain ⟨hck, hp⟩ := (rules_iff r p).1 hru
    have hr := (right_check r).1 hck
    have hC := hr.clicks
    have hW := hp.waits
    have hD := hr.d2
    refine ql_call (β := Nat × Nat × Nat) tabOk [] _ M0 rfl rfl rfl rfl (Sp.refl _) (fun _ h => h.elim) (fun w' hs => begun_ok w' _ r p (h0.keep hs.chg0) hsm hru) ?_
    rintro ⟨bp, bd, bm⟩ _ rfl
    (refine ql_pure tabOk rfl rfl (ql_ext tabOk rfl rfl rfl (ql_ext tabOk rfl rfl rfl (ql_pure tabOk rfl rfl (ql_pure tabOk rfl rfl (q_nil (q_seq (q_region (ql_pure tabOk rfl rfl ?_)))))))); refine ql_loadBa tabOk rfl rfl rfl ?_; refine ql_pure tabOk rfl rfl (ql_quoN rfl rfl rfl (by omega) (by omega) (by omega) ?_))
    refine ql_alloc zero3 rfl (fun b12 => ?_)
    (refine ql_set tabOk rfl rfl rfl rfl (by repeat constructor) ?_; refine q_nil (q_seq (q_block (q_seq (q_region ?_)))); (iterate 3 refine ql_pure tabOk rfl rfl ?_); refine q_nil (q_cond_false rfl (q_seq (q_region ?_))); (iterate 4 refine ql_pure tabOk rfl rfl ?_))
    by_cases ho : (offs.length : Int) = 5
    · rw [decide_eq_true ho]
      (refine ql_gyes rfl (ql_pure tabOk rfl rfl (ql_gyes rfl (ql_pure tabOk rfl rfl (ql_gyes rfl (ql_pure tabOk rfl rfl (ql_gyes rfl ?_)))))); refine ql_loadBa tabOk rfl rfl rfl ?_; refine ql_gyes rfl (ql_ar tabOk rfl rfl rfl rfl (by omega) (by omega) (ql_gyes rfl ?_)); (iterate 3 refine ql_pure tabOk rfl rfl ?_); refine q_nil ?_)
      by_cases hn : 5 + p.waits < (states.length : Int)
      · rw [decide_eq_true hn]
        (refine q_cond_true rfl (q_seq (q_region ?_)))
        refine ql_mk #[.int .i64 0, .int .i64 0, .int .i64 0] rfl (by kernel_rfl) rfl ?_
        (refine ql_setA tabOk rfl rfl rfl rfl rfl (by repeat constructor) rfl ?_; refine ql_pure tabOk rfl rfl (q_nil (q_ret ?_)))
        refine q_fin tabOk rfl (by repeat constructor) fun w hs => ?_
        refine ⟨?_, hs.chg0⟩
        have e : followV r p states offs = ((0, 0, 0), 2) := by unfold followV; rw [if_neg (by simpa using hru), if_neg (by simpa using ho), if_pos hn]
        rw [e]; rfl
      rw [decide_eq_false hn]
      (refine q_cond_false rfl (q_seq (q_region (ql_pure tabOk rfl rfl (ql_pure tabOk rfl rfl ?_)))))
      refine ql_callv (val := .bool (states.all (fun n => inB n 0 ((r.drifts.length : Int) - 1)))) tabOk rfl rfl rfl rfl (fun w hs => ?_) ?_; exact by have := all_int w l0 h1 _ _ (ints states) (pI 0 ((r.drifts.length : Int) - 1)) (RdE.keep hl hs.chg0) (ints_one _) (by simp; omega) (follow1_p w b4 _ r _ states (hs.blk (by repeat constructor)) ad cd rfl (by omega)); rw [pI_all] at this; exact this
      (refine ql_pure tabOk rfl rfl (ql_pure tabOk rfl rfl (q_nil ?_)))
      cases hall : states.all (fun n => inB n 0 ((r.drifts.length : Int) - 1)) with
      | false =>
        (refine q_cond_true rfl (q_seq (q_region ?_)))
        refine ql_mk #[.int .i64 0, .int .i64 0, .int .i64 0] rfl (by kernel_rfl) rfl ?_
        (refine ql_setA tabOk rfl rfl rfl rfl rfl (by repeat constructor) rfl ?_; refine ql_pure tabOk rfl rfl (q_nil (q_ret ?_)))
        refine q_fin tabOk rfl (by repeat constructor) fun w hs => ?_
        refine ⟨?_, hs.chg0⟩
        have e : followV r p states offs = ((0, 0, 0), 1) := by unfold followV; rw [if_neg (by simpa using hru), if_neg (by simpa using ho), if_neg hn, hall]; rfl
        rw [e]; rfl
      | true =>
        (refine q_cond_false rfl (q_seq (q_region (ql_pure tabOk rfl rfl (ql_pure tabOk rfl rfl ?_)))))
        refine ql_callv (val := .bool (offs.all (fun n => inB n (-((r.group.length : Int) / 2)) ((r.group.length : Int) / 2)))) tabOk rfl rfl rfl rfl (fun w hs => ?_) ?_; exact by have := all_int w l2 h2 _ _ (ints offs) (pI (-((r.group.length : Int) / 2)) ((r.group.length : Int) / 2)) (RdE.keep hu hs.chg0) (ints_one _) (by simp; omega) (follow2_p w b12 _ _ offs (hs.blk (by repeat constructor)) (by omega)); rw [pI_all] at this; exact this
        (refine ql_pure tabOk rfl rfl (ql_pure tabOk rfl rfl (q_nil ?_)))
        cases hall2 : offs.all (fun n => inB n (-((r.group.length : Int) / 2)) ((r.group.length : Int) / 2)) with
        | false =>
          (refine q_cond_true rfl (q_seq (q_region ?_)))
          refine ql_mk #[.int .i64 0, .int .i64 0, .int .i64 0] rfl (by kernel_rfl) rfl ?_
          (refine ql_setA tabOk rfl rfl rfl rfl rfl (by repeat constructor) rfl ?_; refine ql_pure tabOk rfl rfl (q_nil (q_ret ?_)))
          refine q_fin tabOk rfl (by repeat constructor) fun w hs => ?_
          refine ⟨?_, hs.chg0⟩
          have e : followV r p states offs = ((0, 0, 0), 3) := by unfold followV; rw [if_neg (by simpa using hru), if_neg (by simpa using ho), if_neg hn, hall, hall2]; rfl
          rw [e]; rfl
        | true =>
          (refine q_cond_false rfl (q_skip (q_blk (q_seq (q_region (ql_pure tabOk rfl rfl ?_))))))
          refine ql_call (β := Vf) (ψ := fun vf' v => GoodV r p vf' ∧ ∀ sh wt st cl, (sh, wt, st, cl) ∈ plcL r p → (vf' sh wt st cl).isSome = true) (L' := fun vf' => [mpV bm vf']) tabOk
            [mpV bm (fun _ _ _ _ => none)] _ (· = bm) rfl rfl rfl rfl (Sp.cons (by repeat constructor) (Sp.refl _)) (fun b hb => ⟨_, .head _, hb⟩) (fun w' hs => (fill_ca w' bp bd bm r p hr hp (fun _ _ _ _ => none) ⟨_, hs.blk (b := bp) (by repeat constructor), _, _, hs.blk (b := bd) (by repeat constructor), h0.keep hs.chg0⟩ (hs.mem (show mpV bm (fun _ _ _ _ => none) ∈ _ from .head _)) (fun _ _ _ _ _ h => by cases h)).mono fun v w'' ⟨vf', _, g1, g2, g3⟩ => ⟨vf', ⟨g1, g2⟩, g3⟩) ?_
          rintro vf v ⟨hgood, hfull⟩
          (refine q_nil (q_seq (q_region ?_)))
          refine ql_alloc zero36 rfl (fun b13 => ?_)
          (refine q_nil (q_seq (q_region (ql_pure tabOk rfl rfl ?_))); refine ql_loadBa tabOk rfl rfl rfl ?_)
          refine ql_mk #[.int .i64 0, .int .i64 p.waits, .int .i64 0, .int .i64 0] rfl (by kernel_rfl) rfl ?_
          refine ql_alloc zero69 rfl (fun b14 => ?_)
          (refine ql_setA tabOk rfl rfl rfl rfl rfl (by repeat constructor) rfl ?_; refine q_nil (q_seq (q_label (q_seq (q_seq (q_region ?_))))); (iterate 3 refine ql_pure tabOk rfl rfl ?_); refine q_nil (q_block ?_))
          have hst5 : (states.length : Int) ≤ 8 := by omega
          refine q_loop (σ := Nat × Int × FS) (fun s => s.1 ≤ states.length ∧ s.2.2 = (states.take s.1).foldl (stepF r p offs) ⟨0, p.waits, 0, 0, 0, 0⟩) (fun s => states.length - s.1)
            (fun s => [(3, .slice ao offs.length co), (4, .pointer (some ⟨b4, 0, none⟩)), (5, .pointer (some ⟨b5, 0, none⟩)), (8, .pointer (some ⟨b8, 0, none⟩)), (10, .pointer (some ⟨bp, 0, none⟩)), (13, .pointer (some ⟨b13, 0, none⟩)), (14, .pointer (some ⟨b14, 0, none⟩)), (64, .slice av states.length cv), (65, .int .i64 states.length), (66, .int .i64 s.1)])
            (fun s => [.pt b14 [.int .i64 s.2.2.shot, .int .i64 s.2.2.wt, .int .i64 s.2.1, .int .i64 s.2.2.cl] 69, .pt b13 [.int .i64 s.2.2.misses, .int .i64 s.2.2.cost, .int .i64 s.2.2.steps] 36, mpV bm vf, .pt bp [.pointer (some ⟨bd, 0, none⟩), .int .i64 p.miss, .int .i64 p.click, .int .i64 p.wait, .int .i64 p.waits, .map (some bm)] 75,
              .pt bd [.int .i64 r.radius, .int .i64 r.unit, .int .i64 r.clicks, .int .i64 r.total, .slice ag r.group.length cg, .slice ad r.drifts.length cd, .slice af r.first.length cf, .slice an r.next.length cn] 82, .pt b8 [.int .i64 0, .int .i64 0, .int .i64 0] 36, .pt b5 [.int .i64 p.miss, .int .i64 p.click, .int .i64 p.wait, .int .i64 p.waits] 30,
              .pt b4 [.int .i64 r.radius, .int .i64 r.unit, .int .i64 r.clicks, .int .i64 r.total, .slice ag r.group.length cg, .slice ad r.drifts.length cd, .slice af r.first.length cf, .slice an r.next.length cn] 28]) (0, 0, ⟨0, p.waits, 0, 0, 0, 0⟩) ⟨by simp, rfl⟩ ⟨rfl, rfl, rfl, rfl, rfl, rfl, rfl, rfl, rfl, rfl, trivial⟩ (by repeat constructor) ?_
          rintro ⟨k, z, sh, wt, cl, mi, co', st'⟩ ⟨hk, hx⟩ K hK
          simp only at hk hx
          have hfo := takeF_ok hr hp states offs k hk
          rw [← hx] at hfo
          have f1 := hfo.shot
          have f2 := hfo.wt
          have f3 := hfo.cl
          have f4 := hfo.misses
          have f5 := hfo.cost
          have f6 := hfo.steps
          simp only at f1 f2 f3 f4 f5 f6
          dsimp only
          (refine q_seq (q_region (ql_pure tabOk rfl rfl (q_nil (q_seq ?_)))))
          refine q_if rfl (fun hc => ?_) (fun hc => ?_)
          · have hk2 : k < states.length := by omega
            clear hc
            obtain ⟨av', cv', hsl, hvd⟩ := RdI.outI hl
            cases hsl
            obtain ⟨bv, ov, rfl⟩ := hvd (by omega)
            obtain ⟨ad', cd', hsl, hdd⟩ := RdI.outI hdr
            cases hsl
            obtain ⟨bdr, odr, rfl⟩ := hdd (by have := hr.d1; omega)
            obtain ⟨ao', co2, hsl, hod2⟩ := RdI.outI hu
            cases hsl
            obtain ⟨bo, oo, rfl⟩ := hod2 (by omega)
            have hsk := inB_iff.1 (List.all_eq_true.1 hall _ (List.getElem_mem hk2))
            obtain ⟨sn, hsn⟩ : ∃ sn : Nat, states[k] = (sn : Int) := ⟨states[k].toNat, by omega⟩
            have hsd2 : sn < r.drifts.length := by omega
            (refine q_skip (q_seq (q_block (q_seq (q_region ?_)))))
            (refine ql_index tabOk rfl rfl rfl rfl rfl (by omega) (by omega) ?_; refine ql_load1 tabOk rfl rfl rfl (fun w hs => RdI.at (RdE.keep hl hs.chg0) k hk2) ?_)
            (refine ql_pure tabOk rfl rfl (q_nil (q_seq (q_seq (q_region (ql_pure tabOk rfl rfl ?_))))); refine ql_loadBa tabOk rfl rfl rfl ?_; refine ql_pure tabOk rfl rfl (q_nil ?_))
            by_cases h5 : sh = 5
            · rw [decide_eq_true (show (sh : Int) = 5 by omega)]
              have hend : endF r p states offs = ⟨sh, wt, cl, mi, co', st'⟩ := by
                unfold endF
                rw [← List.take_append_drop k states, List.foldl_append, ← hx]
                exact stepF_5 _ h5
              (refine q_cond_true rfl (q_exit _ rfl (q_seq (q_seq (q_region (ql_pure tabOk rfl rfl ?_))))); refine ql_loadBa tabOk rfl rfl rfl ?_; refine ql_pure tabOk rfl rfl (q_nil ?_))
              refine q_if rfl (fun hc => ?_) (fun hc => ?_)
              · (refine q_seq (q_region ?_))
                refine ql_mk #[.int .i64 0, .int .i64 0, .int .i64 0] rfl (by kernel_rfl) rfl ?_
                (refine ql_setA tabOk rfl rfl rfl rfl rfl (by repeat constructor) rfl ?_; refine ql_pure tabOk rfl rfl (q_nil (q_ret ?_)))
                refine q_fin tabOk rfl (by repeat constructor) fun w hs => ?_
                refine ⟨?_, hs.chg0⟩
                have e : followV r p states offs = ((0, 0, 0), 6) := by unfold followV; rw [if_neg (by simpa using hru), if_neg (by simpa using ho), if_neg hn, hall, hall2, hend]; exact if_pos (by show sh < 5; omega)
                rw [e]; rfl
              · (refine q_skip (q_seq (q_region ?_)); refine ql_loadABa tabOk rfl rfl rfl ?_; refine ql_setA tabOk rfl rfl rfl rfl rfl (by repeat constructor) rfl ?_; refine ql_pure tabOk rfl rfl (q_nil (q_ret ?_)))
                refine q_fin tabOk rfl (by repeat constructor) fun w hs => ?_
                refine ⟨?_, hs.chg0⟩
                have e : followV r p states offs = ((mi, co', st'), 0) := by unfold followV; rw [if_neg (by simpa using hru), if_neg (by simpa using ho), if_neg hn, hall, hall2, hend]; exact if_neg (by show ¬ sh < 5; omega)
                rw [e]; rfl
            rw [decide_eq_false (show ¬ (sh : Int) = 5 by omega)]
            obtain ⟨ch, hch⟩ : ∃ ch, ch = choV r p sh wt.toNat sn cl := ⟨_, rfl⟩
            have hstep : (states.take (k + 1)).foldl (stepF r p offs) ⟨0, p.waits, 0, 0, 0, 0⟩ = stepF r p offs ⟨sh, wt, cl, mi, co', st'⟩ (sn : Int) := by
              rw [List.take_succ_eq_append_getElem hk2, List.foldl_append, ← hx, hsn]
              rfl
            have hsh : sh < offs.length := by omega
            (refine q_cond_false rfl (q_skip (q_seq (q_region (ql_pure tabOk rfl rfl (ql_pure tabOk rfl rfl ?_))))); refine ql_st2 tabOk rfl rfl rfl rfl (by repeat constructor) ?_; refine q_nil (q_seq (q_region (ql_pure tabOk rfl rfl ?_))); refine ql_loadABa tabOk rfl rfl rfl ?_)
            rw [hsn]
            skip
            refine ql_callv (val := .tuple #[.agg #[.bool ch.1.1, .int .i64 ch.1.2], .int .i64 ch.2]) tabOk rfl rfl rfl rfl (fun w hs => ?_) ?_; exact by have := choose_full w bp bd bm r p vf sh wt.toNat sn cl ⟨_, hs.blk (b := bp) (by repeat constructor), _, _, hs.blk (b := bd) (by repeat constructor), h0.keep hs.chg0⟩ (hs.mem (show mpV bm vf ∈ _ from by repeat constructor)) hr hp hgood hfull (by omega) (by omega) hsd2 f3; rw [← hch, show ((wt.toNat : Nat) : Int) = wt by omega] at this; exact this
            (refine ql_pure tabOk rfl rfl (ql_ext tabOk rfl rfl rfl (ql_ext tabOk rfl rfl rfl ?_)))
            refine ql_alloc zero42 rfl (fun b17 => ?_)
            (refine ql_setA tabOk rfl rfl rfl rfl rfl (by repeat constructor) rfl ?_; refine ql_pure tabOk rfl rfl (q_nil (q_seq (q_region (ql_pure tabOk rfl rfl ?_)))); refine ql_loadBa tabOk rfl rfl rfl ?_; refine ql_ar tabOk rfl rfl rfl rfl (by omega) (by omega) (ql_pure tabOk rfl rfl ?_); refine ql_st2 tabOk rfl rfl rfl rfl (by repeat constructor) ?_; refine q_nil (q_seq (q_seq (q_region ?_))); refine ql_loadABa tabOk rfl rfl rfl ?_)
            refine ql_mk #[.bool true, .int .i64 0] rfl (by kernel_rfl) rfl ?_
            refine ql_eqF (xs := [.bool ch.1.1, .int .i64 ch.1.2]) (ys := [.bool true, .int .i64 0]) [none, some .i64] chc_flat rfl rfl rfl rfl rfl ?_
            (refine q_nil ?_)
            cases hcw : ch.1.1 with
            | true =>
              have hw0 := cho_wait (by rw [← hch]; exact hcw)
              rw [← hch] at hw0
              rw [hw0.2]
              have e1 : stepF r p offs ⟨sh, wt, cl, mi, co', st'⟩ (sn : Int) = ⟨sh, wt - 1, cl, mi, co' + p.wait, st' + 1⟩ := by
                unfold stepF
                rw [if_neg h5]
                simp only [Int.toNat_natCast]
                rw [← hch, if_pos hcw]
              have w1 := hp.wait
              (refine q_cond_true rfl (q_seq (q_region (ql_pure tabOk rfl rfl ?_))); refine ql_loadBa tabOk rfl rfl rfl ?_; refine ql_ar tabOk rfl rfl rfl rfl (by omega) (by omega) (ql_pure tabOk rfl rfl ?_); refine ql_st1 tabOk rfl rfl rfl rfl (by repeat constructor) ?_; refine q_nil (q_seq (q_region (ql_pure tabOk rfl rfl ?_))); refine ql_loadBa tabOk rfl rfl rfl ?_; refine ql_pure tabOk rfl rfl ?_; refine ql_loadBa tabOk rfl rfl rfl ?_; refine ql_ar tabOk rfl rfl rfl rfl (by omega) (by omega) (ql_pure tabOk rfl rfl ?_); refine ql_st1 tabOk rfl rfl rfl rfl (by repeat constructor) ?_; refine q_nil (q_exit _ rfl (q_region (ql_ar tabOk rfl rfl rfl rfl (by omega) (by omega) (ql_pure tabOk rfl rfl (q_nil ?_))))))
              exact hK (k + 1, sn, ⟨sh, wt - 1, cl, mi, co' + p.wait, st' + 1⟩) _ _ ⟨by simp only; omega, by simp only; rw [hstep, e1]⟩ (by simp only; omega) ⟨rfl, rfl, rfl, rfl, rfl, rfl, rfl, rfl, rfl, rfl, trivial⟩ (by repeat constructor)
            | false =>
              have hcl := cho_click (r := r) (p := p) (shot := sh) (wt := wt.toNat) (st := sn) f3 (by rw [← hch]; exact hcw)
              rw [← hch] at hcl
              have hfar := far_bd hC.2 f3 hcl
              have a1 := mul_bd0 hp.click hfar
              have hdb := hr.drift _ (List.getElem_mem hsd2)
              have hob := inB_iff.1 (List.all_eq_true.1 hall2 _ (List.getElem_mem hsh))
              have hg2 := hr.g2
              have hun := hr.unit
              have a2 := mul_bd (show -6 ≤ ch.1.2 ∧ ch.1.2 ≤ 6 by omega) (show -20 ≤ r.unit ∧ r.unit ≤ 20 by omega)
              have hgd : r.drifts.getD sn 0 = r.drifts[sn] := by simp [hsd2]
              have hgo : offs.getD sh 0 = offs[sh] := by simp [hsh]
              have w1 := hp.miss
              (refine q_cond_false rfl (q_skip (q_seq (q_region (ql_pure tabOk rfl rfl ?_)))); refine ql_loadBa tabOk rfl rfl rfl ?_; refine ql_pure tabOk rfl rfl ?_; refine ql_loadBa tabOk rfl rfl rfl ?_; refine ql_pure tabOk rfl rfl ?_; refine ql_loadBa tabOk rfl rfl rfl ?_; refine ql_pure tabOk rfl rfl ?_; refine ql_loadBa tabOk rfl rfl rfl ?_; refine ql_ar tabOk rfl rfl rfl rfl (by omega) (by omega) (ql_pure tabOk rfl rfl ?_); refine ql_loadBa tabOk rfl rfl rfl ?_; refine ql_pure tabOk rfl rfl ?_; refine ql_loadBa tabOk rfl rfl rfl ?_; refine ql_ar tabOk rfl rfl rfl rfl (by omega) (by omega) (ql_pure tabOk rfl rfl (ql_ar tabOk rfl rfl rfl rfl (by omega) (by omega) (ql_ar tabOk rfl rfl rfl rfl (by omega) (by omega) (ql_pure tabOk rfl rfl ?_)))); refine ql_st1 tabOk rfl rfl rfl rfl (by repeat constructor) ?_; refine q_nil (q_seq (q_seq (q_region (ql_pure tabOk rfl rfl ?_)))); refine ql_loadBa tabOk rfl rfl rfl ?_; refine ql_pure tabOk rfl rfl ?_; refine ql_st3 tabOk rfl rfl rfl rfl (by repeat constructor) ?_; refine q_nil (q_seq ?_))
              refine q_draw _ [] (Sp.refl _) (by kernel_rfl) (by kernel_rfl) ?_
              ((iterate 3 refine qf_pure tabOk rfl rfl rfl ?_); refine qf_loadBa tabOk rfl rfl rfl ?_; refine qf_pure tabOk rfl rfl rfl ?_; refine qf_loadBa tabOk rfl rfl rfl ?_; refine qf_pure tabOk rfl rfl rfl ?_)
              (refine qf_index tabOk rfl rfl rfl rfl rfl (by omega) (by omega) ?_; refine qf_load1 tabOk rfl rfl rfl (fun w hs => RdI.at (RdE.keep hdr hs.chg0) sn hsd2) ?_)
              (refine qf_pure tabOk rfl rfl rfl (qf_pure tabOk rfl rfl rfl ?_); refine qf_loadBa tabOk rfl rfl rfl ?_)
              (refine qf_index tabOk rfl rfl rfl rfl rfl (by omega) (by omega) ?_; refine qf_load1 tabOk rfl rfl rfl (fun w hs => RdI.at (RdE.keep hu hs.chg0) sh hsh) ?_)
              (refine qf_ar tabOk rfl rfl rfl rfl (by omega) (by omega) (qf_pure tabOk rfl rfl rfl ?_); refine qf_loadBa tabOk rfl rfl rfl ?_; refine qf_pure tabOk rfl rfl rfl ?_; refine qf_loadBa tabOk rfl rfl rfl ?_; refine qf_ar tabOk rfl rfl rfl rfl (by omega) (by omega) (qf_ar tabOk rfl rfl rfl rfl (by omega) (by omega) ?_))
              refine qf_callv (val := .bool (hitB r (r.drifts[sn] + offs[sh] + ch.1.2 * r.unit))) tabOk rfl rfl rfl rfl (fun w hs => ?_) ?_; exact hits_ca w bd r _ ⟨_, _, hs.blk (b := bd) (by repeat constructor), h0.keep hs.chg0⟩ hr.radius
              (refine qf_pure tabOk rfl rfl rfl (qf_nil ?_))
              cases hhit : hitB r (r.drifts[sn] + offs[sh] + ch.1.2 * r.unit) with
              | true =>
                have e1 : stepF r p offs ⟨sh, wt, cl, mi, co', st'⟩ (sn : Int) = ⟨sh + 1, wt, ch.1.2, mi, co' + p.click * max (ch.1.2 - cl) (cl - ch.1.2), st' + 1⟩ := by
                  unfold stepF
                  rw [if_neg h5]
                  simp only [Int.toNat_natCast]
                  rw [← hch, if_neg (by rw [hcw]; decide), hgd, hgo, if_pos hhit]
                (refine q_cond_false rfl (q_skip (q_region (ql_pure tabOk rfl rfl ?_))); refine ql_loadBa tabOk rfl rfl rfl ?_; refine ql_ar tabOk rfl rfl rfl rfl (by omega) (by omega) (ql_pure tabOk rfl rfl ?_); refine ql_st0 tabOk rfl rfl rfl rfl (by repeat constructor) ?_; refine q_nil (q_blk (q_region (ql_ar tabOk rfl rfl rfl rfl (by omega) (by omega) (ql_pure tabOk rfl rfl (q_nil ?_))))))
                exact hK (k + 1, sn, ⟨sh + 1, wt, ch.1.2, mi, co' + p.click * max (ch.1.2 - cl) (cl - ch.1.2), st' + 1⟩) _ _ ⟨by simp only; omega, by simp only; rw [hstep, e1]⟩ (by simp only; omega) ⟨rfl, rfl, rfl, rfl, rfl, rfl, rfl, rfl, rfl, rfl, trivial⟩ (by repeat constructor)
              | false =>
                have e1 : stepF r p offs ⟨sh, wt, cl, mi, co', st'⟩ (sn : Int) = ⟨sh + 1, wt, ch.1.2, mi + 1, co' + p.click * max (ch.1.2 - cl) (cl - ch.1.2) + p.miss, st' + 1⟩ := by
                  unfold stepF
                  rw [if_neg h5]
                  simp only [Int.toNat_natCast]
                  rw [← hch, if_neg (by rw [hcw]; decide), hgd, hgo, if_neg (by rw [hhit]; decide)]
                (refine q_cond_true rfl (q_seq (q_region (ql_pure tabOk rfl rfl ?_))); refine ql_loadBa tabOk rfl rfl rfl ?_; refine ql_ar tabOk rfl rfl rfl rfl (by omega) (by omega) (ql_pure tabOk rfl rfl ?_); refine ql_st0 tabOk rfl rfl rfl rfl (by repeat constructor) ?_; refine q_nil (q_region (ql_pure tabOk rfl rfl ?_)); refine ql_loadBa tabOk rfl rfl rfl ?_; refine ql_pure tabOk rfl rfl ?_; refine ql_loadBa tabOk rfl rfl rfl ?_; refine ql_ar tabOk rfl rfl rfl rfl (by omega) (by omega) (ql_pure tabOk rfl rfl ?_); refine ql_st1 tabOk rfl rfl rfl rfl (by repeat constructor) ?_; refine q_nil (q_region (ql_pure tabOk rfl rfl ?_)); refine ql_loadBa tabOk rfl rfl rfl ?_; refine ql_ar tabOk rfl rfl rfl rfl (by omega) (by omega) (ql_pure tabOk rfl rfl ?_); refine ql_st0 tabOk rfl rfl rfl rfl (by repeat constructor) ?_; refine q_nil (q_blk (q_region (ql_ar tabOk rfl rfl rfl rfl (by omega) (by omega) (ql_pure tabOk rfl rfl (q_nil ?_))))))
                exact hK (k + 1, sn, ⟨sh + 1, wt, ch.1.2, mi + 1, co' + p.click * max (ch.1.2 - cl) (cl - ch.1.2) + p.miss, st' + 1⟩) _ _ ⟨by simp only; omega, by simp only; rw [hstep, e1]⟩ (by simp only; omega) ⟨rfl, rfl, rfl, rfl, rfl, rfl, rfl, rfl, rfl, rfl, trivial⟩ (by repeat constructor)
          · obtain rfl : k = states.length := by omega
            have hend : endF r p states offs = ⟨sh, wt, cl, mi, co', st'⟩ := by
              rw [List.take_of_length_le (Nat.le_refl _)] at hx
              exact hx.symm
            clear hc
            (refine q_exit _ rfl (q_seq (q_seq (q_region (ql_pure tabOk rfl rfl ?_)))); refine ql_loadBa tabOk rfl rfl rfl ?_; refine ql_pure tabOk rfl rfl (q_nil ?_))
            refine q_if rfl (fun hc => ?_) (fun hc => ?_)
            · (refine q_seq (q_region ?_))
              refine ql_mk #[.int .i64 0, .int .i64 0, .int .i64 0] rfl (by kernel_rfl) rfl ?_
              (refine ql_setA tabOk rfl rfl rfl rfl rfl (by repeat constructor) rfl ?_; refine ql_pure tabOk rfl rfl (q_nil (q_ret ?_)))
              refine q_fin tabOk rfl (by repeat constructor) fun w hs => ?_
              refine ⟨?_, hs.chg0⟩
              have e : followV r p states offs = ((0, 0, 0), 6) := by unfold followV; rw [if_neg (by simpa using hru), if_neg (by simpa using ho), if_neg hn, hall, hall2, hend]; exact if_pos (by show sh < 5; omega)
              rw [e]; rfl
            · (refine q_skip (q_seq (q_region ?_)); refine ql_loadABa tabOk rfl rfl rfl ?_; refine ql_setA tabOk rfl rfl rfl rfl rfl (by repeat constructor) rfl ?_; refine ql_pure tabOk rfl rfl (q_nil (q_ret ?_)))
              refine q_fin tabOk rfl (by repeat constructor) fun w hs => ?_
              refine ⟨?_, hs.chg0⟩
              have e : followV r p states offs = ((mi, co', st'), 0) := by unfold followV; rw [if_neg (by simpa using hru), if_neg (by simpa using ho), if_neg hn, hall, hall2, hend]; exact if_neg (by show ¬ sh < 5; omega)
              rw [e]; rfl
    · rw [decide_eq_false ho]
      ((iterate 6 refine ql_gno rfl rfl rfl ?_); refine ql_pure tabOk rfl rfl (ql_pure tabOk rfl rfl (q_nil (q_cond_true rfl (q_seq (q_region ?_))))))
      refine ql_mk #[.int .i64 0, .int .i64 0, .int .i64 0] rfl (by kernel_rfl) rfl ?_
      (refine ql_setA tabOk rfl rfl rfl rfl rfl (by repeat constructor) rfl ?_; refine ql_pure tabOk rfl rfl (q_nil (q_ret ?_)))
      refine q_fin tabOk rfl (by repeat constructor) fun w hs => ?_
      refine ⟨?_, hs.chg0⟩
      have e : followV r p states offs = ((0, 0, 0), 2) := by unfold followV; rw [if_neg (by simpa using hru), if_pos ho]
      rw [e]; rfl
  · refine ql_callv (val := .tuple #[.pointer none, .int .i64 (rulesV r p)]) tabOk rfl rfl rfl rfl (fun w hs => ?_) ?_; exact begun_no w _ r p (h0.keep hs.chg0) hsm hru
    (refine ql_pure tabOk rfl rfl (ql_ext tabOk rfl rfl rfl (ql_ext tabOk rfl rfl rfl (ql_pure tabOk rfl rfl (ql_pure tabOk rfl rfl (q_nil (q_seq (q_region (ql_pure tabOk rfl rfl ?_)))))))); refine ql_loadBa tabOk rfl rfl rfl ?_; refine ql_pure tabOk rfl rfl (ql_quoN rfl rfl rfl (by omega) (by omega) (by omega) ?_))
    refine ql_alloc zero3 rfl (fun b12 => ?_)
    (refine ql_set tabOk rfl rfl rfl rfl (by repeat constructor) ?_; refine q_nil (q_seq (q_block (q_seq (q_region ?_)))); (iterate 3 refine ql_pure tabOk rfl rfl ?_); refine q_nil ?_)
    rw [decide_eq_false hru]
    (refine q_cond_true rfl (q_seq (q_region ?_)))
    refine ql_mk #[.int .i64 0, .int .i64 0, .int .i64 0] rfl (by kernel_rfl) rfl ?_
    (refine ql_pure tabOk rfl rfl ?_; refine ql_setA tabOk rfl rfl rfl rfl rfl (by repeat constructor) rfl ?_; refine ql_pure tabOk rfl rfl (q_nil (q_ret ?_)))
    refine q_fin tabOk rfl (by repeat constructor) fun w hs => ?_
    refine ⟨?_, hs.chg0⟩
    have e : followV r p states offs = ((0, 0, 0), rulesV r p) := by unfold followV; rw [if_pos hru]
    rw [e]; rfl
theorem Blk.rdI {w : World} {b : Nat} {l : List Int} {t : TypeId} {c : Nat} (h : Blk w b (ints l) t) : RdI w 0 w.heap.size (.slice (some ⟨b, 0, none⟩) l.length c) l :=
  RdI.of ((Blk.rd h (by simp) c).wide (Nat.zero_le _) h.lt)
theorem RdII.of {w : World} {lo hi : Nat} {v : Value} {ll : List (List Int)} {vs : List Value} (h : Rd w lo hi v 1 vs.length vs) (h1 : vs.length = ll.length) (h2 : ∀ i (h : i < vs.length) (h' : i < ll.length), RdI w lo hi vs[i] ll[i]) (h3 : ∀ e ∈ vs, oneV e = true) : RdII w lo hi v ll :=
  ⟨vs, RdE.one h h3, h1, h2⟩
/-- Pieces that hold a range. -/
def OwnR (L : List Ck) (cs : List Value) (r : Rg) : Prop := ∀ w, (∀ c ∈ L, c.p w) → RgC w cs r
theorem OwnR.at {L : List Ck} {cs : List Value} {r : Rg} {w0 w : World} {M : Nat → Prop} {H : List Ck} (h : OwnR L cs r) (hs : Sat w0 M H w) (hm : un L ∈ H) : RgC w cs r := h w (hs.mem hm).1
-- wind/D1.lean
section
attribute [local irreducible] IntKind.wrap Int.tmod Int.tdiv
/-- The deck's own variable, after at most K cards. -/
def DkS (w : World) (b : Nat) (bs : Value) (K : Nat) : Prop :=
  ∃ next st, Blk w b [bs, .int .i64 next, .int .u32 st] 60 ∧ 0 ≤ next ∧ next ≤ K ∧ 0 ≤ st ∧ st < 4294967296
/-- Its bytes. -/
def DkB (w : World) (lo hi : Nat) (bs : Value) : Prop := ∃ nb cs, Rd w lo hi bs 1 nb cs ∧ (∀ c ∈ cs, ∃ x, c = .int .u8 x ∧ 0 ≤ x ∧ x < 256)
theorem DkB.keep {w w' : World} {lo hi : Nat} {bs : Value} (h : DkB w lo hi bs) (c : Chg [] w w') : DkB w' lo hi bs := by
  obtain ⟨nb, cs, h1, h2⟩ := h
  exact ⟨nb, cs, h1.keep c, h2⟩
set_option maxHeartbeats 1000000 in
theorem draw_ca (n : Int) (K : Nat) (hK : K < 4611686018427387904) (w : World) (b lo hi : Nat) (bs : Value) (hby : DkB w lo hi bs) (hlh : hi ≤ b) (hd : DkS w b bs K) :
    Ca Try.prog 6 [.pointer (some ⟨b, 0, none⟩), .int .i64 n] w fun v w' => ∃ r, v = .int .i64 r ∧ 0 ≤ r ∧ (r < n ∨ r = 0) ∧ Chg [b] w w' ∧ w'.heap.size = w.heap.size ∧ DkS w' b bs (K + 1) := by
  obtain ⟨nb, cs, hrd, hcs⟩ := hby
  obtain ⟨next, st, hb, hn0, hnK, hs0, hs1⟩ := hd
  have hd : DkS w b bs (K + 1) := ⟨next, st, hb, hn0, by omega, hs0, hs1⟩
  obtain ⟨a, cap, rfl, hsl⟩ := hrd.out
  refine ca_of Try.func6 rfl (by simp [Try.ntmps6]) ?_
  (refine y_seq (y_region (yl_pure tabOk rfl rfl (y_seq (y_seq (y_region ?_))))); (iterate 3 refine yl_pure tabOk rfl rfl ?_))
  refine yl_split rfl rfl (fun hc => ?_) (fun hc => ?_)
  · ((iterate 6 refine yl_guard_no rfl rfl rfl ?_); refine yl_pure tabOk rfl rfl (y_cond_true rfl (y_seq (y_region (yl_pure tabOk rfl rfl (y_ret ?_))))))
    exact y_fin1 rfl rfl ⟨0, rfl, by omega, .inr rfl, Chg.refl _ _, rfl, hd⟩
  (refine yl_guard_yes rfl (yl_pure tabOk rfl rfl (yl_guard_yes rfl (yl_pure tabOk rfl rfl (yl_guard_yes rfl (yl_pure tabOk rfl rfl (yl_guard_yes rfl ?_)))))); refine yl_loadB tabOk rfl rfl rfl (by assumption) (by rfl) ?_; refine yl_guard_yes rfl (yl_pure tabOk rfl rfl (yl_guard_yes rfl (yl_pure tabOk rfl rfl (yl_pure tabOk rfl rfl (yl_nil ?_))))))
  have hn := of_decide_eq_false hc
  refine y_if rfl (fun hc => ?_) (fun hc => ?_)
  · (refine y_seq (y_region (yl_pure tabOk rfl rfl (y_ret ?_))))
    exact y_fin1 rfl rfl ⟨0, rfl, by omega, .inr rfl, Chg.refl _ _, rfl, hd⟩
  have hnb : 0 < nb := by omega
  obtain ⟨bb, off, rfl, hcell⟩ := hsl hnb
  (refine y_skip (y_seq ?_))
  refine y_draw [] (by kernel_rfl) (by kernel_rfl) (fun w1 hc1 hs1 => ?_)
  have hb1 := hb.keep hc1
  ((iterate 3 refine yf_pure tabOk rfl rfl rfl ?_); refine yf_loadB tabOk rfl rfl rfl (by assumption) (by first | assumption | simp) (by rfl) ?_; (iterate 3 refine yf_pure tabOk rfl rfl rfl ?_); refine yf_loadB tabOk rfl rfl rfl (by assumption) (by first | assumption | simp) (by rfl) ?_; (iterate 3 refine yf_pure tabOk rfl rfl rfl ?_); refine yf_loadB tabOk rfl rfl rfl (by assumption) (by first | assumption | simp) (by rfl) ?_; refine yf_pure tabOk rfl rfl rfl ?_)
  have hlen : cs.length = nb := by have := hrd.1; omega
  have hm := tmod_pos hn0 (by omega : (0 : Int) < nb)
  refine yf_rem rfl rfl (by omega) rfl ?_
  refine yf_index tabOk rfl rfl rfl rfl rfl hm.1 hm.2 ?_
  obtain ⟨x, hx, hx0, hx1⟩ := hcs (cs[(next.tmod nb).toNat]'(by omega)) (List.getElem_mem _)
  refine yf_load1 tabOk rfl rfl rfl (fun w' hw' => ?_) (v := .int .u8 x) ?_
  · have h1 := ((hrd.keep hc1).keep hw').cell rfl (next.tmod nb).toNat (by omega)
    rw [Nat.mul_one, h1, List.getElem?_eq_getElem (by omega), hx]
  ((iterate 4 refine yf_pure tabOk rfl rfl rfl ?_); refine yf_loadB tabOk rfl rfl rfl (by assumption) (by first | assumption | simp) (by rfl) ?_; (iterate 3 refine yf_pure tabOk rfl rfl rfl ?_); refine yf_loadB tabOk rfl rfl rfl (by assumption) (by first | assumption | simp) (by rfl) ?_; refine yf_pure tabOk rfl rfl rfl ?_)
  refine yf_quo rfl rfl (by omega) rfl ?_
  ((iterate 3 refine yf_pure tabOk rfl rfl rfl ?_); refine y_seq (y_region ?_); (iterate 3 refine yl_pure tabOk rfl rfl ?_); refine yl_loadB tabOk rfl rfl rfl (by assumption) (by rfl) ?_; (iterate 3 refine yl_pure tabOk rfl rfl ?_))
  refine yl_store1 tabOk rfl rfl rfl rfl (by assumption) (by simp) (fun w2 hc2 hs2 hb2 => ?_)
  (refine y_seq (y_region ?_); (iterate 4 refine yl_pure tabOk rfl rfl ?_); refine yl_loadB tabOk rfl rfl rfl (by assumption) (by rfl) ?_; (iterate 7 refine yl_pure tabOk rfl rfl ?_))
  refine yl_rem rfl rfl (by omega) rfl ?_
  (refine yl_pure tabOk rfl rfl (yl_pure tabOk rfl rfl ?_))
  refine yl_store1 tabOk rfl rfl rfl rfl (by assumption) (by simp) (fun w3 hc3 hs3 hb3 => ?_)
  have hc03 : Chg [b] w w3 := (hc1.nil.trans hc2).trans hc3
  generalize hq : IntKind.u32.wrap (IntKind.i64.wrap (next.tdiv nb)) = q at *
  clear hq
  generalize hz : Int.tmod _ 65519 = z at *
  have hz0 : 0 ≤ z ∧ z < 65519 := by rw [← hz]; exact tmod_pos (wu32_range _).1 (by omega)
  clear hz
  have hd3 : DkS w3 b (.slice (some ⟨bb, off, none⟩) nb cap) (K + 1) := by
    refine ⟨next + 1, z, ?_, by omega, by omega, hz0.1, by omega⟩
    rw [w64 (by omega) (by omega)] at hb3
    exact hb3
  have hfin : ∀ y : Int, ∃ r, Value.int .i64 ((IntKind.i64.wrap (IntKind.u32.wrap y)).tmod n) = .int .i64 r ∧ 0 ≤ r ∧ (r < n ∨ r = 0) ∧ Chg [b] w w3 ∧ w3.heap.size = w.heap.size ∧ DkS w3 b (.slice (some ⟨bb, off, none⟩) nb cap) (K + 1) := by
    intro y
    have h1 := wu32_range y
    have h2 : IntKind.i64.wrap (IntKind.u32.wrap y) = IntKind.u32.wrap y := w64 (by omega) (by omega)
    rw [h2]
    have h3 := tmod_pos h1.1 (by omega : (0 : Int) < n)
    exact ⟨_, rfl, h3.1, .inl h3.2, hc03, by omega, hd3⟩
  (refine y_seq (y_seq (y_region ?_)); (iterate 3 refine yl_pure tabOk rfl rfl ?_))
  refine yl_split rfl rfl (fun hc => ?_) (fun hc => ?_)
  · (refine yl_guard_yes rfl (yl_pure tabOk rfl rfl (yl_guard_yes rfl (yl_pure tabOk rfl rfl (yl_pure tabOk rfl rfl (yl_nil ?_))))))
    refine y_if rfl (fun hc => ?_) (fun hc => ?_)
    · (refine y_seq (y_region ?_); (iterate 3 refine yl_pure tabOk rfl rfl ?_))
      refine yl_rem rfl rfl (by omega) rfl ?_
      (refine yl_pure tabOk rfl rfl (y_ret ?_))
      exact y_fin1 rfl rfl (hfin _)
    · (refine y_skip (y_seq (y_region ?_)); (iterate 3 refine yl_pure tabOk rfl rfl ?_); refine yl_loadB tabOk rfl rfl rfl (by assumption) (by rfl) ?_; (iterate 5 refine yl_pure tabOk rfl rfl ?_))
      refine yl_rem rfl rfl (by omega) rfl ?_
      (refine yl_pure tabOk rfl rfl (y_ret ?_))
      exact y_fin1 rfl rfl (hfin _)
  · (refine yl_guard_no rfl rfl rfl (yl_guard_no rfl rfl rfl (yl_pure tabOk rfl rfl (y_cond_false rfl (y_skip (y_seq (y_region ?_)))))); (iterate 3 refine yl_pure tabOk rfl rfl ?_); refine yl_loadB tabOk rfl rfl rfl (by assumption) (by rfl) ?_; (iterate 5 refine yl_pure tabOk rfl rfl ?_))
    refine yl_rem rfl rfl (by omega) rfl ?_
    (refine yl_pure tabOk rfl rfl (y_ret ?_))
    exact y_fin1 rfl rfl (hfin _)
end
/-- A deck, after at most K cards. -/
def dkP (bs : Value) (b K : Nat) : Ck := .gn (fun x => x = b) (fun w => DkS w b bs K) (fun w w' N h hc hN => by
  obtain ⟨next, st, h1, h2⟩ := h
  exact ⟨next, st, (hc.block b h1.lt (hN b rfl)).trans h1, h2⟩)
theorem drawP_ca (n : Int) (K : Nat) (hK : K < 4611686018427387904) (w : World) (b lo hi : Nat) (bs : Value) (hby : DkB w lo hi bs) (hlh : hi ≤ b) (hd : DkS w b bs K) :
    Ca Try.prog 6 [.pointer (some ⟨b, 0, none⟩), .int .i64 n] w fun v w' => ∃ x : Int, (v = .int .i64 x ∧ 0 ≤ x ∧ (x < n ∨ x = 0)) ∧ Sat w (fun x => x = b) [dkP bs b (K + 1)] w' :=
  (draw_ca n K hK w b lo hi bs hby hlh hd).mono fun v w' ⟨r, h1, h2, h3, h4, h5, h6⟩ =>
    ⟨r, ⟨h1, h2, h3⟩, ⟨h4.os, h4.tape, h4.output, h4.size, fun k hk hkb => h4.block k hk (by simpa using hkb)⟩, by simpa [dkP, Ck.p] using h6, .cons (by simp) .nil, fun c hc x hx => by
      obtain rfl : c = dkP bs b (K + 1) := by simpa using hc
      obtain rfl : x = b := hx
      obtain ⟨_, _, h7, _⟩ := h6
      exact ⟨h7.lt, .inl rfl⟩⟩
theorem dk_sat {w : World} {b K : Nat} {bs : Value} (hd : DkS w b bs K) : Sat w (fun x => x = b) [dkP bs b K] w :=
  ⟨ChgP.refl _ _, by simpa [dkP, Ck.p] using hd, .cons (by simp) .nil, fun c hc x hx => by
    obtain rfl : c = dkP bs b K := by simpa using hc
    obtain rfl : x = b := hx
    obtain ⟨_, _, h7, _⟩ := hd
    exact ⟨h7.lt, .inl rfl⟩⟩
theorem between_ca (l h : Int) (hl : -1000000 ≤ l) (hh : h ≤ 1000000) (hlh2 : l ≤ h) (K : Nat) (hK : K < 4611686018427387904) (w : World) (b lo hi : Nat) (bs : Value) (hby : DkB w lo hi bs) (hlh : hi ≤ b) (hd : DkS w b bs K) :
    Ca Try.prog 7 [.pointer (some ⟨b, 0, none⟩), .int .i64 l, .int .i64 h] w fun v w' => ∃ x : Int, (v = .int .i64 x ∧ l ≤ x ∧ x ≤ h) ∧ Sat w (fun x => x = b) [dkP bs b (K + 1)] w' := by
  refine q_of (dk_sat hd) Try.func7 rfl (by simp [Try.ntmps7]) ?_
  (refine q_seq (q_region (ql_pure tabOk rfl rfl (q_nil (q_seq (q_region ?_))))); (iterate 4 refine ql_pure tabOk rfl rfl ?_); refine ql_ar tabOk rfl rfl rfl rfl (by omega) (by omega) (ql_ar tabOk rfl rfl rfl rfl (by omega) (by omega) ?_))
  refine ql_call (β := Int) (ψ := fun x v => v = .int .i64 x ∧ 0 ≤ x ∧ (x < h - l + 1 ∨ x = 0)) (L' := fun _ => [dkP bs b (K + 1)]) tabOk [dkP bs b K] [] (fun x => x = b) rfl rfl rfl rfl (Sp.refl _) (fun x hx => ⟨_, .head _, hx⟩) (fun w' hs => drawP_ca (h - l + 1) K hK w' b lo hi bs (by
    obtain ⟨nb, cs, h1, h2⟩ := hby
    exact ⟨nb, cs, h1.chg (N := [b]) ⟨hs.chg.os, hs.chg.tape, hs.chg.output, hs.chg.size, fun k hk hkb => hs.chg.block k hk (by simpa using hkb)⟩ (fun k hk => .inr (by simp at hk; omega)), h2⟩) hlh (hs.all _ (.head _))) ?_
  rintro x _ ⟨rfl, hx0, hx1⟩
  (refine ql_ar tabOk rfl rfl rfl rfl (by omega) (by omega) (ql_pure tabOk rfl rfl (q_nil (q_ret ?_))))
  refine q_fin tabOk rfl (by repeat constructor) fun w hs => ?_
  exact ⟨_, ⟨rfl, by omega, by omega⟩, hs⟩
theorem of_ca (w : World) (a : Option Addr) (n c : Nat) : Ca Try.prog 4 [.slice a n c] w fun v w' => ∃ b : Nat, v = .pointer (some ⟨b, 0, none⟩) ∧ Sat w M0 [dkP (.slice a n c) b 0] w' := by
  refine q_of (Sat.nil w M0) Try.func4 rfl (by simp [Try.ntmps4]) ?_
  (refine q_seq (q_region (ql_pure tabOk rfl rfl (q_nil (q_seq (q_region (ql_pure tabOk rfl rfl ?_)))))))
  refine ql_mk #[.slice a n c, .int .i64 0, .int .u32 17] rfl (by kernel_rfl) rfl ?_
  skip
  refine ql_box rfl rfl (fun b1 => ?_)
  (refine ql_pure tabOk rfl rfl (q_nil (q_ret ?_)))
  refine q_fin tabOk rfl (by repeat constructor) fun w hs => ?_
  refine ⟨b1, rfl, ⟨hs.chg, fun d hd => ?_, .cons (by simp) .nil, fun d hd x hx => ?_⟩⟩
  · obtain rfl : d = dkP (.slice a n c) b1 0 := by simpa using hd
    exact ⟨0, 17, hs.all _ (.head _), by omega, by omega, by omega, by omega⟩
  · obtain rfl : d = dkP (.slice a n c) b1 0 := by simpa using hd
    obtain rfl : x = b1 := hx
    exact hs.bd _ (.head _) x rfl
end Go.Proofs.Ytgmmmkmekbiboab

/- Taken over from wind: what Q10:follow_ca,Q9:chooseF_ca,D5:shared_ca,D4:of_ca,D8:btw0,D8:drw0,H1:OwnR.form2,U0:OwnR.at,D7:made_ca reach. Written by graft.py. -/
namespace Go.Proofs.Ytgmmmkmekbiboab
open Go Go.Eng
theorem DkB.keepP {w w' : World} {lo hi b : Nat} {bs : Value} (h : DkB w lo hi bs) (hlh : hi ≤ b) (hc : ChgP (fun x => x = b) w w') : DkB w' lo hi bs := by
  obtain ⟨nb, cs, h1, h2⟩ := h
  exact ⟨nb, cs, h1.chg (N := [b]) ⟨hc.os, hc.tape, hc.output, hc.size, fun k hk hkb => hc.block k hk (by simpa using hkb)⟩ (fun k hk => .inr (by simp at hk; omega)), h2⟩
theorem sum_set1 : ∀ (l : List Int) (i : Nat) (h : i < l.length), (l.set i (l[i] + 1)).sum = l.sum + 1
  | x :: l, 0, _ => by simp; omega
  | x :: l, i + 1, h => by
    have := sum_set1 l i (by simpa using h)
    simp at this ⊢
    omega
theorem le_sum : ∀ (l : List Int), (∀ x ∈ l, 0 ≤ x) → ∀ x ∈ l, x ≤ l.sum
  | y :: l, h, x, hx => by
    have h0 := h y List.mem_cons_self
    have hs := sum_nonneg' l (fun z hz => h z (List.mem_cons_of_mem _ hz))
    rcases List.mem_cons.1 hx with rfl | hx
    · simp; omega
    · have := le_sum l (fun z hz => h z (List.mem_cons_of_mem _ hz)) x hx
      simp; omega
set_option maxHeartbeats 1000000 in
theorem shared_ca (s t : Nat) (hs1 : 1 ≤ s) (hs2 : s ≤ 1000) (ht : t ≤ 1000) (K : Nat) (hK : K < 1000000) (w : World) (b lo hi : Nat) (bs : Value) (hby : DkB w lo hi bs) (hlh : hi ≤ b) (hd : DkS w b bs K) :
    Ca Try.prog 13 [.pointer (some ⟨b, 0, none⟩), .int .i64 s, .int .i64 t] w fun v w' => ∃ x : Nat × List Int, (v = .slice (some ⟨x.1, 0, none⟩) s s ∧ x.2.length = s ∧ (∀ y ∈ x.2, 0 ≤ y) ∧ x.2.sum = t) ∧ Sat w (fun x => x = b) [.pt x.1 (ints x.2) 3, dkP bs b (K + t)] w' := by
  refine q_of (dk_sat hd) Try.func13 rfl (by simp [Try.ntmps13]) ?_
  (refine q_seq (q_region (ql_pure tabOk rfl rfl (q_nil (q_seq (q_region (ql_pure tabOk rfl rfl ?_)))))))
  refine ql_makeI (et := 3) (m := s) slI rfl rfl rfl (by omega) (fun x => ?_)
  (refine ql_pure tabOk rfl rfl (q_nil (q_seq (q_seq (q_region (ql_pure tabOk rfl rfl (ql_pure tabOk rfl rfl (q_nil (q_block ?_)))))))))
  refine q_loop (σ := Nat × List Int) (fun q => q.1 ≤ t ∧ q.2.length = s ∧ (∀ y ∈ q.2, 0 ≤ y) ∧ q.2.sum = q.1) (fun q => t - q.1) (fun q => [(0, .pointer (some ⟨b, 0, none⟩)), (1, .int .i64 s), (7, .slice (some ⟨x, 0, none⟩) s s), (10, .int .i64 t), (11, .int .i64 q.1)])
    (fun q => [.pt x (ints q.2) 3, dkP bs b (K + q.1)]) (0, List.replicate s 0) ⟨by omega, by simp, by simp, by simp⟩ ⟨rfl, rfl, rfl, rfl, rfl, trivial⟩ (by repeat constructor) ?_
  rintro ⟨k, l⟩ ⟨hk, hl, hl0, hls⟩ K2 hK2
  simp only at hk hl hl0 hls
  (refine q_seq (q_region (ql_pure tabOk rfl rfl (q_nil (q_seq ?_)))))
  refine q_if rfl (fun hc => ?_) (fun hc => ?_)
  · have hk : k < t := by simp only at hc; omega
    (refine q_skip (q_seq (q_block (q_region ?_))); (iterate 3 refine ql_pure tabOk rfl rfl ?_))
    refine ql_call (β := Int) (ψ := fun y v => v = .int .i64 y ∧ 0 ≤ y ∧ (y < s ∨ y = 0)) (L' := fun _ => [dkP bs b (K + k + 1)]) tabOk [dkP bs b (K + k)] [.pt x (ints l) 3] (fun x => x = b) rfl rfl rfl rfl (by repeat constructor) (fun x hx => ⟨_, .head _, hx⟩) (fun w' hs => drawP_ca s (K + k) (by omega) w' b lo hi bs (hby.keepP hlh hs.chg) hlh (hs.all _ (.head _))) ?_
    rintro y _ ⟨rfl, hy0, hy1⟩
    obtain ⟨i, rfl⟩ := Int.eq_ofNat_of_zero_le hy0
    have hi1 : i < l.length := by omega
    have hli := hl0 l[i] (List.getElem_mem hi1)
    have hlu := le_sum l hl0 l[i] (List.getElem_mem hi1)
    skip
    refine ql_index tabOk rfl rfl rfl rfl rfl (by omega) (by omega) ?_
    refine ql_loadI tabOk (i) rfl rfl rfl (by repeat constructor) (by first | rfl | omega | simp) hi1 ?_
    (refine ql_ar tabOk rfl rfl rfl rfl (by omega) (by omega) ?_)
    refine ql_index tabOk rfl rfl rfl rfl rfl (by omega) (by omega) ?_
    refine ql_storeI tabOk (i) rfl rfl rfl (by repeat constructor) (by first | rfl | omega | simp) hi1 ?_
    (refine q_nil (q_blk (q_region (ql_ar tabOk rfl rfl rfl rfl (by omega) (by omega) (ql_pure tabOk rfl rfl (q_nil ?_))))))
    refine hK2 (k + 1, l.set i (l[i] + 1)) _ _ ⟨by simp only; omega, by simp [hl], fun y hy => ?_, by simp only [sum_set1]; omega⟩ (by simp only; omega) ⟨rfl, rfl, rfl, rfl, rfl, trivial⟩ (by repeat constructor)
    rcases List.mem_or_eq_of_mem_set hy with hy | rfl
    · exact hl0 y hy
    · omega
  · obtain rfl : k = t := by simp only at hc; omega
    (refine q_exit _ rfl (q_seq (q_region (ql_pure tabOk rfl rfl (ql_pure tabOk rfl rfl (q_nil (q_ret ?_)))))))
    refine q_fin tabOk rfl (by repeat constructor) fun w hs => ?_
    exact ⟨(x, l), ⟨rfl, hl, hl0, hls⟩, hs⟩
/-- What Made makes. -/
structure MadeR (states clicks side : Nat) (r : Rg) : Prop where
  right : r.Right
  small : r.Small
  states : r.drifts.length ≤ states
  clicks : r.clicks ≤ clicks
  group : r.group.length ≤ 2 * side + 1
  radius : r.radius ≤ 12
  unit : r.unit ≤ 5
  total : r.total ≤ 6
  drift : ∀ x ∈ r.drifts, -15 ≤ x ∧ x ≤ 15
  gsum : r.group.sum ≤ 4 * r.group.length + 1
  weight : ∀ x ∈ r.group, x ≤ 5
theorem DkS.mono {w : World} {b K K' : Nat} {bs : Value} (h : DkS w b bs K) (hk : K ≤ K') : DkS w b bs K' := by
  obtain ⟨next, st, h1, h2, h3, h4⟩ := h
  exact ⟨next, st, h1, h2, by omega, h4⟩
theorem Sat.dk {w0 w : World} {M : Nat → Prop} {R : List Ck} {b K K' : Nat} {bs : Value} (h : Sat w0 M (dkP bs b K :: R) w) (hk : K ≤ K') : Sat w0 M (dkP bs b K' :: R) w := h.turn (fun _ h => h) (fun h => DkS.mono h hk)
theorem own_rdI {w : World} {t n : Nat} {v : Value} {l : List Int} (h : w.ownsRow 0 t 1 v n (ints l)) (hn : n = l.length) : RdI w 0 w.heap.size v l := by
  subst hn
  exact RdI.of (own_rd h)
theorem rows_rd' {w : World} {v : Value} {xs : List (Nat × List Int)} {n : Nat} (hu : (un (rowsK xs)).p w) (h1 : w.ownsRow 0 25 1 v n (rowsV xs)) : RdII w 0 w.heap.size v (xs.map (·.2)) := by
  have hn : n = (rowsV xs).length := by have := h1.1; omega
  refine ⟨rowsV xs, RdE.one (by rw [← hn]; exact own_rd h1) (fun e he => by obtain ⟨p, _, rfl⟩ := List.mem_map.1 he; rfl), by simp [rowsV], fun i hi hi' => ?_⟩
  have hi2 : i < xs.length := by simpa using hi'
  have h2 : Blk w xs[i].1 (ints xs[i].2) 3 := hu.1 (.pt xs[i].1 (ints xs[i].2) 3) (List.mem_map.2 ⟨xs[i], List.getElem_mem hi2, rfl⟩)
  simp only [rowsV, List.getElem_map]
  exact RdE.wide (RdI.of (Blk.rd h2 (by simp) _)) (Nat.zero_le _) h2.lt
abbrev madeB (b9 : Nat) (a b c d : Int) (g h f n : Value) : Ck := .pt b9 [.int .i64 a, .int .i64 b, .int .i64 c, .int .i64 d, g, h, f, n] 28
-- wind/D8.lean
section
section
variable {K b : Nat} {bs : Value} {w0 w : World} {R : List Ck}
theorem dk_new (hs : Sat w0 M0 (dkP bs b K :: R) w) : w0.heap.size ≤ b := (hs.bd _ (.head _) b rfl).2.resolve_left (fun h => h)
theorem btw0 {l h : Int} (hby : DkB w0 0 w0.heap.size bs) (hs : Sat w0 M0 (dkP bs b K :: R) w) (hl : -1000000 ≤ l) (hh : h ≤ 1000000) (hlh : l ≤ h) (hK : K < 1000000) :
    Ca Try.prog 7 [.pointer (some ⟨b, 0, none⟩), .int .i64 l, .int .i64 h] w fun v w' => ∃ x : Int, (v = .int .i64 x ∧ l ≤ x ∧ x ≤ h) ∧ Sat w (fun x => x = b) [dkP bs b (K + 1)] w' :=
  between_ca l h hl hh hlh K (by omega) w b 0 w0.heap.size _ (hby.keep hs.chg0) (dk_new hs) (hs.all _ (.head _))
theorem drw0 {n : Int} (hby : DkB w0 0 w0.heap.size bs) (hs : Sat w0 M0 (dkP bs b K :: R) w) (hn : 1 ≤ n) (hK : K < 1000000) :
    Ca Try.prog 6 [.pointer (some ⟨b, 0, none⟩), .int .i64 n] w fun v w' => ∃ x : Int, (v = .int .i64 x ∧ 0 ≤ x ∧ x ≤ n - 1) ∧ Sat w (fun x => x = b) [dkP bs b (K + 1)] w' :=
  (drawP_ca n K (by omega) w b 0 w0.heap.size _ (hby.keep hs.chg0) (dk_new hs) (hs.all _ (.head _))).mono fun v w' ⟨x, ⟨h1, h2, h3⟩, h4⟩ => ⟨x, ⟨h1, h2, by omega⟩, h4⟩
end
end
structure Turned (r r' : Rg) : Prop where
  n : r'.drifts.length = r.drifts.length
  next : r'.next = r.next
  first : r'.first = r.first
  total : r'.total = r.total
  gsum : r'.group.sum = r.group.sum
  clicks : r'.clicks = r.clicks
  miss : ∀ st c, st < r.drifts.length → missS r' (r'.drifts.getD st 0) (-c) = missS r (r.drifts.getD st 0) c
theorem Turned.symm {r r' : Rg} (h : Turned r r') : Turned r' r :=
  ⟨h.n.symm, h.next.symm, h.first.symm, h.total.symm, h.gsum.symm, h.clicks.symm, fun st c hs => by
    have := h.miss st (-c) (by rw [← h.n]; exact hs)
    rw [Int.neg_neg] at this
    exact this.symm⟩
structure Named (r r' : Rg) (σ : Nat → Nat) : Prop where
  n : r'.drifts.length = r.drifts.length
  nn : r'.next.length = r.next.length
  total : r'.total = r.total
  gsum : r'.group = r.group
  clicks : r'.clicks = r.clicks
  radius : r'.radius = r.radius
  unit : r'.unit = r.unit
  perm : ((List.range r.drifts.length).map σ).Perm (List.range r.drifts.length)
  drift : ∀ s, s < r.drifts.length → r'.drifts.getD (σ s) 0 = r.drifts.getD s 0
  first : ∀ s, s < r.drifts.length → r'.first.getD (σ s) 0 = r.first.getD s 0
  next : ∀ s t, s < r.drifts.length → t < r.drifts.length → (r'.next.getD (σ s) []).getD (σ t) 0 = (r.next.getD s []).getD t 0
theorem Named.lt {r r' : Rg} {σ : Nat → Nat} (h : Named r r' σ) {s : Nat} (hs : s < r.drifts.length) : σ s < r.drifts.length :=
  List.mem_range.1 (h.perm.mem_iff.1 (List.mem_map.2 ⟨s, List.mem_range.2 hs, rfl⟩))
theorem OwnR.form2 {L : List Ck} {cs : List Value} {r : Rg} {w0 w : World} {M : Nat → Prop} {H : List Ck} (h : OwnR L cs r) (hr : r.Right) (hs : Sat w0 M H w) (hm : un L ∈ H) :
    ∃ bg og cg bd od cd bf of_ cf bn on_ cn, cs = [.int .i64 r.radius, .int .i64 r.unit, .int .i64 r.clicks, .int .i64 r.total, .slice (some ⟨bg, og, none⟩) r.group.length cg, .slice (some ⟨bd, od, none⟩) r.drifts.length cd, .slice (some ⟨bf, of_, none⟩) r.first.length cf, .slice (some ⟨bn, on_, none⟩) r.next.length cn] := by
  have h1 := hr.g1
  have h2 := hr.d1
  have h3 := hr.first
  have h4 := hr.next
  obtain ⟨lo, hi, ag, cg, ad, cd, af, cf, an, cn, he, g1, g2, g3, g4⟩ := h.at hs hm
  obtain ⟨_, _, e1, k1⟩ := RdI.outI g1
  obtain ⟨_, _, e2, k2⟩ := RdI.outI g2
  obtain ⟨_, _, e3, k3⟩ := RdI.outI g3
  obtain ⟨_, _, e4, k4⟩ := RdII.outI g4
  cases e1; cases e2; cases e3; cases e4
  obtain ⟨bg, og, rfl⟩ := k1 (by omega)
  obtain ⟨bd, od, rfl⟩ := k2 (by omega)
  obtain ⟨bf, of_, rfl⟩ := k3 (by omega)
  obtain ⟨bn, on_, rfl⟩ := k4 (by omega)
  exact ⟨_, _, _, _, _, _, _, _, _, _, _, _, he⟩
end Go.Proofs.Ytgmmmkmekbiboab

/- The engine, part B14: a subtree of orders walked once for all the ways that lead there. -/
namespace Go.Eng
open Go Go.RowKit

section
variable {P : Program} {ro : Cx} {n : Nat} {F : Fin} {w0 : World} {M : Nat → Prop} {k : List It} {ops : Array Oper} {e : Env} {H Hq : List Ck}
end
end Go.Eng

/- The engine, part B15: comparisons that are decided at once. -/
namespace Go.Eng
open Go Go.RowKit

section
variable {P : Program} {T : Tab} {ro : Cx} {n : Nat} {F : Fin} {w0 : World} {M : Nat → Prop} {k : List It} {ops : Array Oper} {rest : List Oper} {e : Env} {H Hq : List Ck}
theorem bin_lssF {a b : Int} (h : ¬ a < b) : binV .lss .i64 a b = some (.bool false) := by simp [binV]; omega
theorem ql_lssF (hT : T.Ok P) {d : Nat} {t t' : Nat} {x y : Operand} {a b : Int} {ty : TypeId} {pos : String} {af : Array Edge} (hx : opv e x = some (.int .i64 a)) (hy : opv e y = some (.int .i64 b)) (hd : Nat.blt d n = true) (hp : ¬ a < b)
    (h : QL P ro n F w0 M k ops rest ((d, .bool false) :: e) H) : QL P ro n F w0 M k ops (⟨some d, .binOp .lss t x y t', ty, pos, af, none⟩ :: rest) e H := ql_pure hT ((evp_arith hx hy).trans (bin_lssF hp)) hd h
theorem bin_leqT {a b : Int} (h : a ≤ b) : binV .leq .i64 a b = some (.bool true) := by simp [binV]; omega
theorem ql_leqT (hT : T.Ok P) {d : Nat} {t t' : Nat} {x y : Operand} {a b : Int} {ty : TypeId} {pos : String} {af : Array Edge} (hx : opv e x = some (.int .i64 a)) (hy : opv e y = some (.int .i64 b)) (hd : Nat.blt d n = true) (hp : a ≤ b)
    (h : QL P ro n F w0 M k ops rest ((d, .bool true) :: e) H) : QL P ro n F w0 M k ops (⟨some d, .binOp .leq t x y t', ty, pos, af, none⟩ :: rest) e H := ql_pure hT ((evp_arith hx hy).trans (bin_leqT hp)) hd h
theorem bin_leqF {a b : Int} (h : ¬ a ≤ b) : binV .leq .i64 a b = some (.bool false) := by simp [binV]; omega
theorem ql_leqF (hT : T.Ok P) {d : Nat} {t t' : Nat} {x y : Operand} {a b : Int} {ty : TypeId} {pos : String} {af : Array Edge} (hx : opv e x = some (.int .i64 a)) (hy : opv e y = some (.int .i64 b)) (hd : Nat.blt d n = true) (hp : ¬ a ≤ b)
    (h : QL P ro n F w0 M k ops rest ((d, .bool false) :: e) H) : QL P ro n F w0 M k ops (⟨some d, .binOp .leq t x y t', ty, pos, af, none⟩ :: rest) e H := ql_pure hT ((evp_arith hx hy).trans (bin_leqF hp)) hd h
theorem bin_gtrT {a b : Int} (h : b < a) : binV .gtr .i64 a b = some (.bool true) := by simp [binV]; omega
theorem ql_gtrT (hT : T.Ok P) {d : Nat} {t t' : Nat} {x y : Operand} {a b : Int} {ty : TypeId} {pos : String} {af : Array Edge} (hx : opv e x = some (.int .i64 a)) (hy : opv e y = some (.int .i64 b)) (hd : Nat.blt d n = true) (hp : b < a)
    (h : QL P ro n F w0 M k ops rest ((d, .bool true) :: e) H) : QL P ro n F w0 M k ops (⟨some d, .binOp .gtr t x y t', ty, pos, af, none⟩ :: rest) e H := ql_pure hT ((evp_arith hx hy).trans (bin_gtrT hp)) hd h
theorem bin_gtrF {a b : Int} (h : ¬ b < a) : binV .gtr .i64 a b = some (.bool false) := by simp [binV]; omega
theorem ql_gtrF (hT : T.Ok P) {d : Nat} {t t' : Nat} {x y : Operand} {a b : Int} {ty : TypeId} {pos : String} {af : Array Edge} (hx : opv e x = some (.int .i64 a)) (hy : opv e y = some (.int .i64 b)) (hd : Nat.blt d n = true) (hp : ¬ b < a)
    (h : QL P ro n F w0 M k ops rest ((d, .bool false) :: e) H) : QL P ro n F w0 M k ops (⟨some d, .binOp .gtr t x y t', ty, pos, af, none⟩ :: rest) e H := ql_pure hT ((evp_arith hx hy).trans (bin_gtrF hp)) hd h
theorem bin_eqlT {a b : Int} (h : a = b) : binV .eql .i64 a b = some (.bool true) := by simp [binV]; omega
theorem ql_eqlT (hT : T.Ok P) {d : Nat} {t t' : Nat} {x y : Operand} {a b : Int} {ty : TypeId} {pos : String} {af : Array Edge} (hx : opv e x = some (.int .i64 a)) (hy : opv e y = some (.int .i64 b)) (hd : Nat.blt d n = true) (hp : a = b)
    (h : QL P ro n F w0 M k ops rest ((d, .bool true) :: e) H) : QL P ro n F w0 M k ops (⟨some d, .binOp .eql t x y t', ty, pos, af, none⟩ :: rest) e H := ql_pure hT ((evp_arith hx hy).trans (bin_eqlT hp)) hd h
theorem bin_eqlF {a b : Int} (h : a ≠ b) : binV .eql .i64 a b = some (.bool false) := by simp [binV]; omega
theorem ql_eqlF (hT : T.Ok P) {d : Nat} {t t' : Nat} {x y : Operand} {a b : Int} {ty : TypeId} {pos : String} {af : Array Edge} (hx : opv e x = some (.int .i64 a)) (hy : opv e y = some (.int .i64 b)) (hd : Nat.blt d n = true) (hp : a ≠ b)
    (h : QL P ro n F w0 M k ops rest ((d, .bool false) :: e) H) : QL P ro n F w0 M k ops (⟨some d, .binOp .eql t x y t', ty, pos, af, none⟩ :: rest) e H := ql_pure hT ((evp_arith hx hy).trans (bin_eqlF hp)) hd h
theorem bin_neqT {a b : Int} (h : a ≠ b) : binV .neq .i64 a b = some (.bool true) := by simp [binV]; omega
theorem ql_neqT (hT : T.Ok P) {d : Nat} {t t' : Nat} {x y : Operand} {a b : Int} {ty : TypeId} {pos : String} {af : Array Edge} (hx : opv e x = some (.int .i64 a)) (hy : opv e y = some (.int .i64 b)) (hd : Nat.blt d n = true) (hp : a ≠ b)
    (h : QL P ro n F w0 M k ops rest ((d, .bool true) :: e) H) : QL P ro n F w0 M k ops (⟨some d, .binOp .neq t x y t', ty, pos, af, none⟩ :: rest) e H := ql_pure hT ((evp_arith hx hy).trans (bin_neqT hp)) hd h
theorem bin_neqF {a b : Int} (h : a = b) : binV .neq .i64 a b = some (.bool false) := by simp [binV]; omega
theorem ql_neqF (hT : T.Ok P) {d : Nat} {t t' : Nat} {x y : Operand} {a b : Int} {ty : TypeId} {pos : String} {af : Array Edge} (hx : opv e x = some (.int .i64 a)) (hy : opv e y = some (.int .i64 b)) (hd : Nat.blt d n = true) (hp : a = b)
    (h : QL P ro n F w0 M k ops rest ((d, .bool false) :: e) H) : QL P ro n F w0 M k ops (⟨some d, .binOp .neq t x y t', ty, pos, af, none⟩ :: rest) e H := ql_pure hT ((evp_arith hx hy).trans (bin_neqF hp)) hd h
end
end Go.Eng

/- The engine, part B16: shifts, and the last bit. -/
namespace Go.Eng
open Go Go.RowKit

section
variable {P : Program} {ro : Cx} {n : Nat} {F : Fin} {w0 : World} {M : Nat → Prop} {k : List It} {ops : Array Oper} {rest : List Oper} {e : Env} {H Hq : List Ck}
end
end Go.Eng

/- Engine 2: a block of numbers with room behind them. -/
namespace Go.Eng
open Go Go.RowKit

section
variable {P : Program} {T : Tab} {ro : Cx} {n : Nat} {F : Fin} {w0 : World} {M : Nat → Prop} {k : List It} {ops : Array Oper} {rest : List Oper} {e : Env} {H Hq : List Ck}
end
end Go.Eng

/- Engine 2: a region that draws, with any marks. -/
namespace Go.Eng
open Go Go.RowKit

section
variable {P : Program} {ro : Cx} {n : Nat} {F : Fin} {w0 : World} {M : Nat → Prop} {k : List It} {ops : Array Oper} {l : List Oper} {e : Env} {H H1 H2 : List Ck} {bs : List Bool}
structure QB (P : Program) (ro : Cx) (n : Nat) (F : Fin) (w0 : World) (M : Nat → Prop) (k : List It) (ops : Array Oper) (H1 H2 : List Ck) (bs : List Bool) (l : List Oper) (e : Env) (H : List Ck) : Prop where
  h : ∀ w, Sat w0 M H w → YB P ro n F k ops (Sat w0 M H1) (Sat w0 M H2) bs l e w
end
end Go.Eng

/- Engine 2: changing an element of a slice of our own, in a region that draws. -/
namespace Go.Eng
open Go Go.RowKit

section
variable {P : Program} {T : Tab}
variable {ro : Cx} {n : Nat} {F : Fin} {w0 : World} {M : Nat → Prop} {k : List It} {ops : Array Oper} {rest : List Oper} {e : Env} {H Hq : List Ck}
end
end Go.Eng

/- Engine, part B20: two Bools compared. -/
namespace Go.Eng
open Go Go.RowKit

section
variable {P : Program} {T : Tab} {ro : Cx} {n : Nat} {F : Fin} {w0 : World} {M : Nat → Prop} {k : List It} {ops : Array Oper} {rest : List Oper} {e : Env} {H Hq : List Ck}
def boolB (P : Program) (t : Nat) : Bool := match P.underlying t with | some .bool => true | _ => false
end
end Go.Eng

/- The engine, part B21: ranges over functions that hand out memory of their own. -/
namespace Go.Eng
open Go Go.RowKit

section
variable {P : Program} {T : Tab}
variable {ro : Cx} {n : Nat} {F : Fin} {k : List It} {ops : Array Oper} {rest : List Oper} {e : Env} {w0 : World} {M : Nat → Prop} {H Hq : List Ck}

/-- At the world w the function gf, with what it has captured, is an iterator over xs, whose elements are handed out with pieces of memory; the body changes nothing but what lies in D, and these pieces. -/
def ItOkP {α β : Type} (P : Program) (gf : Nat) (lb : List Value) (enc : α → List Value) (val : α → β) (pc : α → List Ck) (xs : List β) (w : World) (D : Nat → Prop) : Prop :=
  ∀ (fv : Value) (σ : Type) (L : σ → List Ck) (I : List β → σ → Prop) (E : σ → Prop) (s0 : σ), oneV fv = true → I [] s0 → (∀ b, DL (L s0) b → D b) → Sat w (DL (L s0)) (L s0) w →
    (∀ pre x post s w', xs = pre ++ val x :: post → I pre s → Sat w (DL (L s0)) (L s ++ pc x) w' → CaF P fv (enc x) w' (fun v w'' => ∃ s', ((v = .bool true ∧ I (pre ++ [val x]) s') ∨ (v = .bool false ∧ E s')) ∧ Sat w' (DL (L s ++ pc x)) (L s') w'')) →
    Ca P gf (fv :: lb) w (fun _ w' => ∃ s', (I xs s' ∨ E s') ∧ Sat w (DL (L s0)) (L s') w')

end
end Go.Eng

/- The engine, part B22: rows made, copied, cut at the front; append to a slice without room. -/
namespace Go.Eng
open Go Go.RowKit

section
variable {P : Program} {T : Tab} {ro : Cx} {n : Nat} {F : Fin} {w0 : World} {M : Nat → Prop} {k : List It} {ops : Array Oper} {rest : List Oper} {e : Env} {H Hq : List Ck}
end
end Go.Eng

/- The engine, part B23: a region that draws, with any marks, whose first part changes pieces too. -/
namespace Go.Eng
open Go Go.RowKit

section
variable {P : Program} {ro : Cx} {n : Nat} {F : Fin} {w0 : World} {M : Nat → Prop} {k : List It} {ops : Array Oper} {l : List Oper} {e : Env} {H H1 H2 : List Ck} {bs : List Bool}
end
end Go.Eng

/- The engine, part B24: a region that draws its order, in which some operations that act may stand in any order, and what is read may change later on. -/
namespace Go.Eng
open Go Go.RowKit

section
variable {P : Program} {ops : Array Oper} {Cq Ce : Nat → World → Prop} {K : Act → World → Prop}

def wpT2 (P : Program) (ops : Array Oper) (Cq Ce : Nat → World → Prop) (K : Act → World → Prop) : OT → Act → World → Prop
  | .nil, a, w => K a w
  | .op i t, a, w => match ops[i]? with
    | none => False
    | some o => if Region.wanted o (yielded ops a.tmps) = true then
        (if eff o.op = true then effStep P o a w (fun v w' => Ce i w' ∧ wpT2 P ops Cq Ce K t (a.put o.dst v) w')
         else ∃ v, (∀ w', Cq i w' → (execOp a.eval o).run P w' = .ok (.value v) w') ∧ wpT2 P ops Cq Ce K t (a.put o.dst v) w)
      else wpT2 P ops Cq Ce K t (a.put o.dst undef) w
  | .alt t u, a, w => wpT2 P ops Cq Ce K t a w ∧ wpT2 P ops Cq Ce K u a w
variable {ro : Cx} {Q : Fin}
end
end Go.Eng

/- The engine, part B25: walks of a region by a tree of orders, in two parts: what the first part reads may change in the second. -/
namespace Go.Eng
open Go Go.RowKit

section
variable {P : Program} {ro : Cx} {n : Nat} {F : Fin} {w0 : World} {M : Nat → Prop} {k : List It} {ops : Array Oper} {e : Env} {H H1 H2 : List Ck} {bs : List Bool}
structure QX (P : Program) (ro : Cx) (n : Nat) (F : Fin) (w0 : World) (M : Nat → Prop) (k : List It) (ops : Array Oper) (H1 H2 : List Ck) (bs : List Bool) (t : OT) (e : Env) (H : List Ck) : Prop where
  h : ∀ w, Sat w0 M H w → ∀ a, Fits n e a → a.defers = ro.ds → wpT2 P ops (flagC (Sat w0 M H1) (Sat w0 M H2) bs) (flagC (Sat w0 M H1) (Sat w0 M H2) bs) (fun a w => S P ro.ro F k .normal a w) t a w
end
end Go.Eng

/- The engine, part B26: arrays of Bools compared. -/
namespace Go.Eng
open Go Go.RowKit

section
variable {P : Program}
def eqBL : List Bool → List Bool → Bool
  | a :: l, b :: m => (a == b) && eqBL l m
  | _, _ => true
def arrQB (P : Program) (t n e : Nat) : Bool :=
  !(P.eqGuardType P.depth t) && oneB P e && Nat.beq (P.cellsOf e) 1 && (P.info? e).isSome && (match P.underlying t with | some (.array n' e') => Nat.beq n' n && Nat.beq e' e | _ => false) && (match P.underlying e with | some .bool => true | _ => false)
theorem eqItems_bool {e : Nat} (he : P.underlying e = some .bool) (h1 : oneB P e = true) (d : Nat) (w : World) (xs ys : Array Value) : ∀ (l m : List Bool) (k : Nat), l.length = m.length → (∀ i (h : i < l.length), xs[k + i]? = some (.bool l[i])) → (∀ i (h : i < m.length), ys[k + i]? = some (.bool m[i])) →
    (Go.Op.eqItems (d + 1) e 1 xs ys (List.range' k l.length)).run P w = .ok (eqBL l m) w
  | [], [], _, _, _, _ => by simp [Go.Op.eqItems, eqBL]
  | a :: l, b :: m, k, h, hx, hy => by
    have ih := eqItems_bool he h1 d w xs ys l m (k + 1) (by simpa using h) (fun i hi => by have := hx (i + 1) (by simpa using hi); rw [show k + 1 + i = k + (i + 1) by omega]; simpa using this) (fun i hi => by have := hy (i + 1) (by simpa using hi); rw [show k + 1 + i = k + (i + 1) by omega]; simpa using this)
    have h0 := hx 0 (by simp)
    have g0 := hy 0 (by simp)
    simp only [Nat.add_zero, List.getElem_cons_zero] at h0 g0
    rw [List.length_cons, List.range'_succ]
    have p1 := run_part1 (P := P) (o := k * 1) h1 (by rw [Nat.mul_one]; exact h0) w
    have p2 := run_part1 (P := P) (o := k * 1) h1 (by rw [Nat.mul_one]; exact g0) w
    simp only [Go.Op.eqItems, Sem.run_bind, p1, p2, Result.andThen_ok, run_equalIn_bool' w d e a b he, eqBL]
    cases hab : (a == b)
    · simp
    · simpa using ih
theorem run_eqArr {t n e : Nat} (h : arrQB P t n e = true) {l m : List Bool} (hl : l.length = n) (hm : m.length = n) (d : Nat) (w : World) : (Go.Op.equalIn (d + 2) t (.agg (l.map Value.bool).toArray) (.agg (m.map Value.bool).toArray)).run P w = .ok (eqBL l m) w := by
  simp only [arrQB, Bool.and_eq_true, Bool.not_eq_true'] at h
  obtain ⟨⟨⟨⟨⟨h1, h2⟩, h3⟩, h4⟩, h5⟩, h6⟩ := h
  split at h5
  · rename_i n' e' hu
    simp only [Bool.and_eq_true] at h5
    have hn := Nat.eq_of_beq_eq_true h5.1
    have he := Nat.eq_of_beq_eq_true h5.2
    subst hn
    subst he
    split at h6
    · rename_i hb
      obtain ⟨i, hi⟩ := Option.isSome_iff_exists.1 h4
      rw [run_equalIn_array w (d + 1) _ _ hu hi, Nat.eq_of_beq_eq_true h3, List.range_eq_range', ← hl]
      exact eqItems_bool hb h2 d w _ _ l m 0 (by omega) (fun i hi => by simp [hi]) (fun i hi => by simp [hi])
    · cases h6
  · cases h5
variable {ro : Cx} {n : Nat} {F : Fin} {w0 : World} {M : Nat → Prop} {k : List It} {ops : Array Oper} {rest : List Oper} {e : Env} {H Hq : List Ck}
end
end Go.Eng

/- The engine, part B27: structs of flat structs compared. -/
namespace Go.Eng
open Go Go.RowKit

section
variable {P : Program}
def nestF (P : Program) : Nat → List Field → List (List (Option IntKind)) → Bool
  | _, [], [] => true
  | o, f :: fs, k :: ks => !(f.name == "_") && Nat.beq f.offset o && flatB P f.type k && Nat.beq (P.cellsOf f.type) k.length && (P.info? f.type).isSome && nestF P (o + k.length) fs ks
  | _, _, _ => false
def nestB (P : Program) (t : Nat) (ks : List (List (Option IntKind))) : Bool :=
  !(P.stoodInHeld t) && !(P.eqGuardType P.depth t) && (match P.underlying t with | some (.struct fs) => nestF P 0 fs.toList ks | _ => false)
theorem run_partA {t n : Nat} {ks : List (Option IntKind)} (h : flatB P t ks = true) (hc : P.cellsOf t = n) (hi : (P.info? t).isSome = true) (xs : List Value) (o : Nat) (w : World) : (part t xs.toArray o).run P w = .ok (.agg ((xs.drop o).take n).toArray) w := by
  obtain ⟨h1, h2, h3, h4⟩ := flat_under h
  obtain ⟨i, hi⟩ := Option.isSome_iff_exists.1 hi
  have e : xs.toArray.extract o (o + n) = ((xs.drop o).take n).toArray := by
    apply Array.ext'
    simp [List.extract_eq_take_drop]
  simp [part, isAgg, run_underlying h3, run_sizeOf w hi, hc, e]
variable {ro : Cx} {n : Nat} {F : Fin} {w0 : World} {M : Nat → Prop} {k : List It} {ops : Array Oper} {rest : List Oper} {e : Env} {H Hq : List Ck}
end
end Go.Eng

/- The engine, part B28: a byte of a string. -/
namespace Go.Eng
open Go Go.RowKit

section
variable {P : Program} {T : Tab}
variable {ro : Cx} {n : Nat} {F : Fin} {w0 : World} {M : Nat → Prop} {k : List It} {ops : Array Oper} {rest : List Oper} {e : Env} {H Hq : List Ck}
end
end Go.Eng

/- The engine, part B29: bits of numbers joined. -/
namespace Go.Eng
open Go Go.RowKit

section
variable {P : Program} {ro : Cx} {n : Nat} {F : Fin} {w0 : World} {M : Nat → Prop} {k : List It} {ops : Array Oper} {rest : List Oper} {e : Env} {H Hq : List Ck}
end
end Go.Eng

/- Taken over from rifle,ski: what K6:Blk.rdN reach. Written by graft.py. -/
namespace Go.Proofs.Ytgmmmkmekbiboab
open Go Go.Eng
theorem Blk.rdN {w : World} {b : Nat} {cs : List Value} {t : TypeId} {c sz q : Nat} (h : Blk w b cs t) (hl : cs.length = q * sz) : Rd w 0 w.heap.size (.slice (some ⟨b, 0, none⟩) q c) sz q cs :=
  ⟨hl, .inr ⟨b, 0, c, rfl, fun _ => ⟨Nat.zero_le _, h.lt, h.lt⟩, fun j _ => by rw [Blk.cell h]; simp⟩⟩
end Go.Proofs.Ytgmmmkmekbiboab

/- Plain: shots at the five targets, one at each; Y is 0. -/
namespace Go.Proofs.Ytgmmmkmekbiboab
open Go Go.Eng
theorem getD_app {A B : List Int} (i : Nat) (h : i < A.length) : (A ++ B).getD i 0 = A.getD i 0 := by rw [List.getD_eq_getElem?_getD, List.getElem?_append_left h, ← List.getD_eq_getElem?_getD]
/-- The radius of a target, by position. -/
def radP (p : Int) : Int := if p = 0 then 225 else 575
/-- A shot beside the middle of its target hits. -/
def hitA (rad a : Int) : Bool := (decide (-rad ≤ a) && decide (a ≤ rad)) && true
theorem hitA_iff {rad a : Int} : hitA rad a = true ↔ -rad ≤ a ∧ a ≤ rad := by simp [hitA]
theorem sq_nn {rad a : Int} (h : 0 ≤ rad) (ha : 0 ≤ a) : a * a ≤ rad * rad ↔ a ≤ rad := by
  constructor
  · intro h1
    rcases Int.lt_or_le rad a with h2 | h2
    · have := Int.mul_le_mul (show rad + 1 ≤ a by omega) (show rad + 1 ≤ a by omega) (by omega) ha
      rw [Int.add_mul, Int.mul_add] at this
      omega
    · exact h2
  · intro h1
    exact Int.mul_le_mul h1 h1 ha h
theorem sq_iff {rad a : Int} (h : 0 ≤ rad) : a * a ≤ rad * rad ↔ -rad ≤ a ∧ a ≤ rad := by
  rcases Int.le_total 0 a with h1 | h1
  · rw [sq_nn h h1]
    omega
  · rw [← Int.neg_mul_neg a a, sq_nn h (show 0 ≤ -a by omega)]
    omega
/-- Which target falls by each of the first shots. -/
def falA (rad : Int) (A : List Int) (k : Nat) : List Int := (List.range k).map fun i => if hitA rad (A.getD i 0) = true then (i : Int) + 1 else 0
theorem falA_len (rad : Int) (A : List Int) (k : Nat) : (falA rad A k).length = k := by simp [falA]
theorem falA_succ (rad : Int) (A : List Int) (k : Nat) : falA rad A (k + 1) = falA rad A k ++ [if hitA rad (A.getD k 0) = true then (k : Int) + 1 else 0] := by simp [falA, List.range_succ]
theorem falA_get {rad : Int} {A : List Int} {k i : Nat} (h : i < (falA rad A k).length) : (falA rad A k)[i] = if hitA rad (A.getD i 0) = true then (i : Int) + 1 else 0 := by simp [falA]
/-- How many of the first shots hit. -/
def cntA (rad : Int) (A : List Int) : Nat → Nat
  | 0 => 0
  | k + 1 => cntA rad A k + (if hitA rad (A.getD k 0) = true then 1 else 0)
theorem cntA_le (rad : Int) (A : List Int) : ∀ k, cntA rad A k ≤ k
  | 0 => Nat.le_refl _
  | k + 1 => by
    have := cntA_le rad A k
    simp only [cntA]
    split <;> omega
/-- What has fallen before shot k. -/
def dwnA (rad : Int) (A : List Int) (k n : Nat) : Bool := decide (1 ≤ n) && (decide (n ≤ k) && hitA rad (A.getD (n - 1) 0))
theorem dwnA_zero (rad : Int) (A : List Int) (n : Nat) : dwnA rad A 0 n = false := by
  unfold dwnA
  by_cases h : 1 ≤ n
  · rw [decide_eq_false (show ¬ n ≤ 0 by omega)]; simp
  · rw [decide_eq_false h]; rfl
theorem dwnA_same (rad : Int) (A : List Int) {k n : Nat} (h : n ≠ k + 1) : dwnA rad A (k + 1) n = dwnA rad A k n := by
  unfold dwnA
  rw [show decide (n ≤ k + 1) = decide (n ≤ k) from by rw [decide_eq_decide]; omega]
theorem dwnA_new (rad : Int) (A : List Int) (k : Nat) : dwnA rad A (k + 1) (k + 1) = hitA rad (A.getD k 0) := by simp [dwnA]
theorem dwnA_not (rad : Int) (A : List Int) {k n : Nat} (h : k < n) : dwnA rad A k n = false := by
  unfold dwnA
  rw [decide_eq_false (show ¬ n ≤ k by omega)]
  simp
/-- A shot at one target misses the others. -/
theorem far_A {a rad : Int} {k n : Nat} (ha : -1000 ≤ a ∧ a ≤ 1000) (hr : 0 ≤ rad ∧ rad ≤ 575) (h : n ≠ k + 1) : ¬ (2500 * (k : Int) + a - 2500 * ((n : Int) - 1)) * (2500 * (k : Int) + a - 2500 * ((n : Int) - 1)) ≤ rad * rad := by
  rw [sq_iff hr.1]
  omega
end Go.Proofs.Ytgmmmkmekbiboab

/- Walks: IndexFunc, ContainsFunc, klister/target.all: alike for each element type. Written by gen_every.py. -/
namespace Go.Proofs.Ytgmmmkmekbiboab
open Go Go.Eng

set_option maxHeartbeats 1000000 in
theorem idxF_shot (w : World) (lo hi : Nat) (v cv : Value) (es : List Value) (p : Value → Bool) (hrd : RdE w lo hi v 2 es) (hagg : ∀ i (hi : i < es.length), ∃ c, es[i] = .agg c) (hlen : es.length < 4611686018427387904) (hp : PredAt Try.prog tab w cv es p) :
    Ca Try.prog 44 [v, cv] w fun r w' => ((∃ i : Nat, r = .int .i64 i ∧ ∃ hi : i < es.length, p es[i] = true) ∨ (r = .int .i64 (-1) ∧ ∀ x ∈ es, p x = false)) ∧ Chg [] w w' := by
  obtain ⟨a, cap, rfl, hsl⟩ := hrd.out
  obtain ⟨g, first, caps, rfl, hg, hcl⟩ := hp
  refine ca_of Try.func44 rfl (by simp [Try.ntmps44]) ?_
  (refine y_seq (y_region (yl_pure tabOk rfl rfl (y_seq (y_seq (y_region ?_))))); (iterate 3 refine yl_pure tabOk rfl rfl ?_); refine y_block ?_)
  refine y_loop (fun m l wr => ∃ k : Nat, k ≤ es.length ∧ m = es.length - k ∧ l = [(0, .slice a es.length cap), (1, .func (.func g) first caps), (7, .int .i64 es.length), (8, .int .i64 k)] ∧ (∀ i (hi : i < es.length), i < k → p es[i] = false) ∧ Chg [] w wr) (m := es.length)
    ⟨0, by omega, rfl, rfl, fun i _ hi => by omega, Chg.refl _ _⟩ ⟨rfl, rfl, rfl, rfl, trivial⟩ ?_
  rintro m l wr ⟨k, hkl, rfl, rfl, hpk, hcw⟩ K hK
  (refine y_seq (y_region (yl_pure tabOk rfl rfl (y_seq ?_))))
  refine y_if rfl (fun hc => ?_) (fun hc => ?_)
  · have hk : k < es.length := by omega
    obtain ⟨b, off, rfl⟩ := hsl (by omega)
    (refine y_skip (y_seq (y_block (y_seq (y_region (yl_pure tabOk rfl rfl (yl_pure tabOk rfl rfl (y_seq (y_region ?_)))))))); (iterate 3 refine yl_pure tabOk rfl rfl ?_))
    refine yl_index tabOk rfl rfl rfl rfl rfl (by omega) (by omega) ?_
    refine yl_loadA tabOk rfl rfl rfl (cs := es[k].cells.toList) (by simpa using hrd.sz es[k] (List.getElem_mem hk)) (fun j hj => (hrd.keep hcw).cell k j hk hj) ?_
    have hval : Value.agg es[k].cells.toList.toArray = es[k] := by
      obtain ⟨c, hc⟩ := hagg k hk
      rw [hc]; simp [Value.cells]
    rw [hval]
    refine yl_call tabOk rfl hg rfl rfl (hcl wr hcw es[k] (List.getElem_mem hk)) ?_
    rintro _ w2 ⟨rfl, hc2⟩
    (refine yl_nil ?_)
    refine y_cond rfl (fun hc => ?_) (fun hc => ?_)
    · (refine y_seq (y_region (yl_pure tabOk rfl rfl (yl_pure tabOk rfl rfl (y_ret ?_)))))
      exact y_fin1 rfl rfl ⟨.inl ⟨k, rfl, hk, hc⟩, hcw.trans hc2⟩
    · (refine y_skip (y_region (yl_pure tabOk rfl rfl (yl_pure tabOk rfl rfl (yl_nil ?_)))))
      refine y_k (hK _ _ _ _ ⟨k + 1, by omega, rfl, rfl, fun i hi hik => ?_, hcw.trans hc2⟩ (by omega) ⟨rfl, rfl, rfl, ?_, trivial⟩)
      · by_cases h : i < k
        · exact hpk i hi h
        · obtain rfl : i = k := by omega
          exact hc
      · show some (Value.int _ (IntKind.i64.wrap (↑k + 1))) = _
        rw [w64 (by omega) (by omega)]
        rfl
  · (refine y_exit _ rfl (y_seq (y_region (yl_pure tabOk rfl rfl (y_ret ?_)))))
    refine y_fin1 rfl rfl ⟨.inr ⟨rfl, fun x hx => ?_⟩, hcw⟩
    obtain ⟨i, hi, rfl⟩ := List.getElem_of_mem hx
    exact hpk i hi (by omega)

theorem conF_shot (w : World) (lo hi : Nat) (v cv : Value) (es : List Value) (p : Value → Bool) (hrd : RdE w lo hi v 2 es) (hagg : ∀ i (hi : i < es.length), ∃ c, es[i] = .agg c) (hlen : es.length < 4611686018427387904) (hp : PredAt Try.prog tab w cv es p) :
    Ca Try.prog 35 [v, cv] w fun r w' => r = .bool (es.any p) ∧ Chg [] w w' := by
  refine ca_of Try.func35 rfl (by simp [Try.ntmps35]) ?_
  (refine y_seq (y_region (yl_pure tabOk rfl rfl (y_seq (y_region (yl_pure tabOk rfl rfl (yl_pure tabOk rfl rfl ?_)))))))
  refine yl_call tabOk rfl rfl rfl rfl (idxF_shot w lo hi v cv es p hrd hagg hlen hp) ?_
  rintro r w2 ⟨⟨i, rfl, hi, hpi⟩ | ⟨rfl, hall⟩, hc2⟩
  · (refine yl_pure tabOk rfl rfl (yl_pure tabOk rfl rfl (y_ret ?_)))
    refine y_fin1 rfl rfl ⟨?_, hc2⟩
    have h1 : es.any p = true := List.any_eq_true.2 ⟨_, List.getElem_mem hi, hpi⟩
    rw [h1]
    exact congrArg Value.bool (decide_eq_true (by omega))
  · (refine yl_pure tabOk rfl rfl (yl_pure tabOk rfl rfl (y_ret ?_)))
    refine y_fin1 rfl rfl ⟨?_, hc2⟩
    have h1 : es.any p = false := List.any_eq_false.2 (fun x hx => by simp [hall x hx])
    rw [h1]
    rfl

theorem all1_shot (w : World) (b t : Nat) (cv x : Value) (es : List Value) (p : Value → Bool) (hx : ∃ c, x = .agg c ∧ c.size = 2) (hm : x ∈ es) (hb : Blk w b [cv] t) (hp : PredAt Try.prog tab w cv es p) :
    Ca Try.prog 36 [x, .pointer (some ⟨b, 0, none⟩)] w fun r w' => r = .bool (!(p x)) ∧ Chg [] w w' := by
  obtain ⟨g, first, caps, rfl, hg, hcl⟩ := hp
  obtain ⟨c, rfl, hcs⟩ := hx
  refine ca_of Try.func36 rfl (by simp [Try.ntmps36]) ?_
  (refine y_seq (y_region ?_))
  refine yl_box rfl rfl (fun w1 hc1 hs1 hb1 => ?_)
  have hb' := hb.keep hc1
  (refine yl_pure tabOk rfl rfl (y_seq (y_region ?_)); refine yl_loadB tabOk rfl rfl rfl (by assumption) (by rfl) ?_)
  refine yl_loadAB tabOk rfl rfl rfl hb1 (us := c.toList) (List.take_of_length_le (by simp [Value.cells, hcs])) (by simpa using hcs) ?_
  refine yl_call tabOk rfl hg rfl rfl (hcl w1 hc1 _ hm) ?_
  rintro _ w2 ⟨rfl, hc2⟩
  (refine yl_pure tabOk rfl rfl (yl_pure tabOk rfl rfl (y_ret ?_)))
  exact y_fin1 rfl rfl ⟨rfl, hc1.trans hc2⟩

theorem all_shot (w : World) (lo hi : Nat) (v cv : Value) (es : List Value) (p : Value → Bool) (hrd : RdE w lo hi v 2 es) (hagg : ∀ i (hi : i < es.length), ∃ c, es[i] = .agg c) (hlen : es.length < 4611686018427387904) (hp : PredAt Try.prog tab w cv es p) :
    Ca Try.prog 22 [v, cv] w fun r w' => r = .bool (es.all p) ∧ Chg [] w w' := by
  refine ca_of Try.func22 rfl (by simp [Try.ntmps22]) ?_
  (refine y_seq (y_region ?_))
  refine yl_box rfl rfl (fun w1 hc1 hs1 hb1 => ?_)
  have hcv : cv.cells.toList = [cv] := by obtain ⟨g, first, caps, rfl, _, _⟩ := hp; rfl
  rw [hcv] at hb1
  have hp1 : PredAt Try.prog tab w1 (.func (.func 36) #[] #[.pointer (some ⟨w.heap.size, 0, none⟩)]) es (fun x => !(p x)) := by
    refine ⟨36, #[], #[_], rfl, rfl, fun w' hw' x hx => ?_⟩
    refine all1_shot w' w.heap.size _ cv x es p ?_ hx (hb1.keep hw') (hp.keep (hc1.trans hw'))
    obtain ⟨i, hi, rfl⟩ := List.getElem_of_mem hx
    obtain ⟨c, hc⟩ := hagg i hi; exact ⟨c, hc, by have := hrd.sz _ hx; rw [hc] at this; exact this⟩
  (refine yl_pure tabOk rfl rfl (y_seq (y_region (yl_pure tabOk rfl rfl (yl_pure tabOk rfl rfl ?_)))))
  refine yl_call tabOk rfl rfl rfl rfl (conF_shot w1 lo hi v _ es _ (hrd.keep hc1) hagg hlen hp1) ?_
  rintro _ w2 ⟨rfl, hc2⟩
  (refine yl_pure tabOk rfl rfl (yl_pure tabOk rfl rfl (y_ret ?_)))
  refine y_fin1 rfl rfl ⟨?_, hc1.trans hc2⟩
  rw [List.all_eq_not_any_not]

end Go.Proofs.Ytgmmmkmekbiboab

/- The engine, part B30: arrays of arrays of Bools: compared, and as keys of maps. -/
namespace Go.Eng
open Go Go.RowKit

section
variable {P : Program}
def arr2B (P : Program) (t e b n1 n2 : Nat) : Bool :=
  !(P.eqGuardType P.depth t) && (match P.underlying t with | some (.array n' e') => Nat.beq n' n1 && Nat.beq e' e | _ => false) && (Nat.beq (P.cellsOf e) n2 && (P.info? e).isSome) && arrQB P e n2 b && (match P.underlying e with | some (.array _ _) => true | _ => false) && (P.info? b).isSome && Nat.beq (P.cellsOf b) 1
structure Arr2 (P : Program) (t e b n1 n2 : Nat) : Prop where
  g : P.eqGuardType P.depth t = false
  u : P.underlying t = some (.array n1 e)
  c : P.cellsOf e = n2
  i : (P.info? e).isSome = true
  q : arrQB P e n2 b = true
  v : ∃ n' e', P.underlying e = some (.array n' e')
theorem run_partArr {t n n' e' : Nat} (hu : P.underlying t = some (.array n' e')) (hc : P.cellsOf t = n) (hi : (P.info? t).isSome = true) (xs : List Value) (o : Nat) (w : World) : (part t xs.toArray o).run P w = .ok (.agg ((xs.drop o).take n).toArray) w := by
  obtain ⟨i, hi⟩ := Option.isSome_iff_exists.1 hi
  have e : xs.toArray.extract o (o + n) = ((xs.drop o).take n).toArray := by
    apply Array.ext'
    simp [List.extract_eq_take_drop]
  simp [part, isAgg, run_underlying hu, run_sizeOf w hi, hc, e]
theorem forIn_ok {w : World} {f : Nat → PUnit → Sem (ForInStep PUnit)} : ∀ l : List Nat, (∀ i ∈ l, (f i PUnit.unit).run P w = .ok (ForInStep.yield PUnit.unit) w) → (forIn (m := Sem) l PUnit.unit f).run P w = .ok PUnit.unit w
  | [], _ => by simp
  | i :: l, h => by
    have ih := forIn_ok l (fun j hj => h j (List.mem_cons_of_mem _ hj))
    simp only [List.forIn_cons, Sem.run_bind, h i List.mem_cons_self, Result.andThen_ok]
    exact ih
theorem chk_row {e b n2 : Nat} (h : arrQB P e n2 b = true) (empty : Bool) (d : Nat) (w : World) (l : List Bool) (hl : l.length = n2) : (Instr.checkKey empty (d + 2) e (.agg (l.map Value.bool).toArray)).run P w = .ok () w := by
  simp only [arrQB, Bool.and_eq_true, Bool.not_eq_true'] at h
  obtain ⟨⟨⟨⟨⟨h1, h2⟩, h3⟩, h4⟩, h5⟩, h6⟩ := h
  split at h5
  · rename_i n' e' hu
    simp only [Bool.and_eq_true] at h5
    have hn := Nat.eq_of_beq_eq_true h5.1
    have he := Nat.eq_of_beq_eq_true h5.2
    subst hn
    subst he
    split at h6
    · rename_i hb
      obtain ⟨i, hi⟩ := Option.isSome_iff_exists.1 h4
      rw [Instr.checkKey]
      simp only [Sem.run_bind, run_underlying hu, Result.andThen_ok, Std.Legacy.Range.forIn_eq_forIn_range', Std.Legacy.Range.size, Nat.sub_zero, Nat.add_one_sub_one, Nat.div_one]
      rw [forIn_ok]
      · rfl
      · intro j hj
        have hj2 : j < l.length := by simp at hj; omega
        have p1 := run_part1 (P := P) (xs := (l.map Value.bool).toArray) (o := j * 1) (v := .bool l[j]) h2 (by simp [hj2]) w
        have c1 : (Instr.checkKey empty (d + 1) e' (.bool l[j])).run P w = .ok () w := by rw [Instr.checkKey]; simp [run_underlying hb]
        have s1 := run_sizeOf w hi
        rw [Nat.eq_of_beq_eq_true h3] at s1
        simp only [Sem.run_bind, s1, Result.andThen_ok, p1, c1]
        rfl
    · cases h6
  · cases h5
theorem fit_bools : ∀ (n : Nat) (xs : List Value), fitV (List.replicate n none) xs = true → ∃ l : List Bool, xs = l.map Value.bool ∧ l.length = n
  | 0, [], _ => ⟨[], rfl, rfl⟩
  | 0, _ :: _, h => by simp [fitV] at h
  | n + 1, [], h => by simp [List.replicate_succ, fitV] at h
  | n + 1, v :: xs, h => by
    rw [List.replicate_succ] at h
    obtain ⟨v', m, he, hm, hv⟩ := fitV_cons h
    cases he
    obtain ⟨l, rfl, hl⟩ := fit_bools n xs hm
    rcases hv with ⟨q, a, hq, _⟩ | ⟨b, _, rfl⟩
    · cases hq
    · exact ⟨b :: l, rfl, by simp [hl]⟩
theorem eqL_bools : ∀ (l m : List Bool), eqL (l.map Value.bool) (m.map Value.bool) = eqBL l m
  | [], [] => rfl
  | [], _ :: _ => rfl
  | _ :: _, [] => rfl
  | a :: l, b :: m => by simp [eqL, eqBL, eqL_bools l m]
variable {ro : Cx} {n : Nat} {F : Fin} {w0 : World} {M : Nat → Prop} {k : List It} {ops : Array Oper} {rest : List Oper} {e : Env} {H Hq : List Ck}
end
end Go.Eng

/- The engine, part B31: an element of an array that is a value, of several cells, or a struct. -/
namespace Go.Eng
open Go Go.RowKit

section
variable {P : Program} {T : Tab} {ro : Cx} {n : Nat} {F : Fin} {w0 : World} {M : Nat → Prop} {k : List It} {ops : Array Oper} {rest : List Oper} {e : Env} {H Hq : List Ck}
end
end Go.Eng

/- The engine, part B32: a cell of an element of a slice of our own changed; elements of several cells. -/
namespace Go.Eng
open Go Go.RowKit

section
variable {P : Program} {T : Tab}
variable {ro : Cx} {n : Nat} {F : Fin} {w0 : World} {M : Nat → Prop} {k : List It} {ops : Array Oper} {rest : List Oper} {e : Env} {H Hq : List Ck}
/-! x[l:h] -/
theorem RdI.part {w : World} {lo hi b off n c c2 k h m : Nat} {l : List Int} (hr : RdI w lo hi (.slice (some ⟨b, off, none⟩) n c) l) (hk : k < h) (hh : h ≤ l.length) (hm : m = h - k) : RdI w lo hi (.slice (some ⟨b, off + k * 1, none⟩) m c2) ((l.drop k).take m) := by
  have hl : ((l.drop k).take m).length = m := by rw [List.length_take, List.length_drop]; omega
  have h1 := hr.rd
  rw [cellsOf_one _ (by simp [oneV])] at h1
  refine RdI.of (by
    rw [hl]
    refine ⟨by simp [ints, hl]; omega, ?_⟩
    obtain ⟨e1, e2⟩ := h1
    rcases e2 with ⟨h3, h4⟩ | ⟨b', off', cap, h3, h4, h5⟩
    · simp at h4
      subst h4
      simp at hh
      omega
    · injection h3 with e1 e2 e3
      injection e1 with e1
      injection e1 with e1 e2
      subst e1 e2
      refine .inr ⟨b, off + k * 1, c2, rfl, fun _ => h4 (by simp; omega), fun j hj => ?_⟩
      have hj2 : j < m := by simp [ints] at hj; omega
      rw [show off + k * 1 + j = off + (k + j) from by omega, h5 (k + j) (by simp; omega)]
      simp [ints, List.getElem?_map, List.getElem?_take, List.getElem?_drop, hj2])
end
end Go.Eng

/- The engine: loops in which each round leaves marks; the end of a function with many marks. -/
namespace Go.Eng
open Go Go.RowKit

section
variable {P : Program} {n : Nat} {F : Fin} {k : List It} {e : Env} {w : World}
end
section
variable {P : Program} {n : Nat} {F : Fin} {w0 : World} {M : Nat → Prop} {k : List It} {e : Env} {H : List Ck}
end
end Go.Eng

/- The engine: make of a list whose elements are one cell each. -/
namespace Go.Eng
open Go Go.RowKit
section
variable {P : Program} {T : Tab} {ro : Cx} {n : Nat} {F : Fin} {w0 : World} {M : Nat → Prop} {k : List It} {ops : Array Oper} {rest : List Oper} {e : Env} {H Hq : List Ck}
theorem ql_storeBo (hT : T.Ok P) {t : Nat} {x y : Operand} {b off : Nat} {l : List Bool} {z : Bool} {bt : TypeId} {H' : List Ck} {ty : TypeId} {pos : String} {af : Array Edge} (i : Nat)
    (hx : opv e x = some (.pointer (some ⟨b, off, none⟩))) (hy : opv e y = some (.bool z)) (h1 : has T.one t = true) (hr : Rp H (.pt b (bools l) bt) (.pt b (bools (l.set i z)) bt) H') (ho : off = i) (hi : i < l.length)
    (h : QL P ro n F w0 M k ops rest e H') : QL P ro n F w0 M k ops (⟨none, .store t x y, ty, pos, af, none⟩ :: rest) e H :=
  ql_store1 hT hx hy h1 rfl (by subst ho; rw [← List.map_set]; exact hr) (by subst ho; simpa using hi) h
theorem bcell {w : World} {b : Nat} {sl : List Bool} {t : TypeId} (hb : Blk w b (bools sl) t) (f : Nat) (hf : f < sl.length) : w.cell? ⟨b, 0 + (f : Int).toNat * 1, none⟩ = some (.bool (sl.getD f false)) := by
  rw [Blk.cell hb, Int.toNat_natCast, Nat.zero_add, Nat.mul_one, List.getElem?_map, List.getD_eq_getElem?_getD, List.getElem?_eq_getElem hf]
  rfl
end
end Go.Eng

/- The engine, part B35: a bit of a number is cleared. -/
namespace Go.Eng
open Go Go.RowKit

section
variable {P : Program} {ro : Cx} {n : Nat} {F : Fin} {w0 : World} {M : Nat → Prop} {k : List It} {ops : Array Oper} {rest : List Oper} {e : Env} {H Hq : List Ck}
/-- A number without a bit. -/
def delB (a s : Nat) : Nat := if a.testBit s = true then a ^^^ 2 ^ s else a
end
end Go.Eng

/- The engine, part B36: shifts and make of a list of numbers in a region that draws. -/
namespace Go.Eng
open Go Go.RowKit

section
variable {P : Program} {ro : Cx} {n : Nat} {F : Fin} {w0 : World} {M : Nat → Prop} {k : List It} {ops : Array Oper} {rest : List Oper} {e : Env} {H Hq : List Ck}
end
end Go.Eng

/- The engine, part B37: make of a list whose elements are structs, with its zero cells. -/
namespace Go.Eng
open Go Go.RowKit
section
variable {P : Program} {T : Tab} {ro : Cx} {n : Nat} {F : Fin} {w0 : World} {M : Nat → Prop} {k : List It} {ops : Array Oper} {rest : List Oper} {e : Env} {H Hq : List Ck}
end
end Go.Eng

/- The engine, part B38: structs of flat structs and arrays of Bools, as keys of maps. -/
namespace Go.Eng
open Go Go.RowKit

section
variable {P : Program}
/-- A part of a key: a flat struct, or an array of Bools. -/
inductive PK where
  | fl : List (Option IntKind) → PK
  | ar : Nat → Nat → PK
def PK.ks : PK → List (Option IntKind)
  | .fl ks => ks
  | .ar n _ => List.replicate n none
def PK.b (P : Program) (t : Nat) : PK → Bool
  | .fl ks => flatB P t ks && Nat.beq (P.cellsOf t) ks.length && (P.info? t).isSome
  | .ar n e => arrQB P t n e && Nat.beq (P.cellsOf t) n && (P.info? t).isSome
theorem PK.part {t : Nat} {p : PK} (h : p.b P t = true) (xs : List Value) (o : Nat) (w : World) : (part t xs.toArray o).run P w = .ok (.agg ((xs.drop o).take p.ks.length).toArray) w := by
  cases p with
  | fl ks =>
    simp only [PK.b, Bool.and_eq_true] at h
    obtain ⟨⟨h1, h2⟩, h3⟩ := h
    exact run_partA h1 (Nat.eq_of_beq_eq_true h2) h3 xs o w
  | ar n e =>
    simp only [PK.b, Bool.and_eq_true] at h
    obtain ⟨⟨h1, h2⟩, h3⟩ := h
    simp only [arrQB, Bool.and_eq_true, Bool.not_eq_true'] at h1
    obtain ⟨⟨_, h5⟩, _⟩ := h1
    split at h5
    · rename_i n' e' hu
      have := run_partArr (P := P) hu (Nat.eq_of_beq_eq_true h2) h3 xs o w
      rw [this]
      simp [PK.ks]
    · cases h5
theorem PK.eq {t : Nat} {p : PK} (h : p.b P t = true) {xs ys : List Value} (hx : fitV p.ks xs = true) (hy : fitV p.ks ys = true) (d : Nat) (w : World) : (Go.Op.equalIn (d + 2) t (.agg xs.toArray) (.agg ys.toArray)).run P w = .ok (eqL xs ys) w := by
  cases p with
  | fl ks =>
    simp only [PK.b, Bool.and_eq_true] at h
    exact run_eqFlat h.1.1 hx hy d w
  | ar n e =>
    simp only [PK.b, Bool.and_eq_true] at h
    obtain ⟨l, rfl, hl⟩ := fit_bools _ _ hx
    obtain ⟨m, rfl, hm⟩ := fit_bools _ _ hy
    rw [eqL_bools]
    exact run_eqArr h.1.1 hl hm d w
theorem PK.chk {t : Nat} {p : PK} (h : p.b P t = true) {xs : List Value} (hx : fitV p.ks xs = true) (empty : Bool) (d : Nat) (w : World) : (Instr.checkKey empty (d + 2) t (.agg xs.toArray)).run P w = .ok () w := by
  cases p with
  | fl ks =>
    simp only [PK.b, Bool.and_eq_true] at h
    exact chk_agg h.1.1 hx empty d w
  | ar n e =>
    simp only [PK.b, Bool.and_eq_true] at h
    obtain ⟨l, rfl, hl⟩ := fit_bools _ _ hx
    exact chk_row h.1.1 empty d w l hl
def mixF (P : Program) : Nat → List Field → List PK → Bool
  | _, [], [] => true
  | o, f :: fs, p :: ps => !(f.name == "_") && Nat.beq f.offset o && p.b P f.type && mixF P (o + p.ks.length) fs ps
  | _, _, _ => false
def mixB (P : Program) (t : Nat) (ps : List PK) : Bool :=
  !(P.stoodInHeld t) && !(P.eqGuardType P.depth t) && (match P.underlying t with | some (.struct fs) => mixF P 0 fs.toList ps | _ => false)
def mixK (ps : List PK) : List (Option IntKind) := ps.flatMap PK.ks
end
end Go.Eng

/- The engine, part B39: Bools compared, in regions that draw. -/
namespace Go.Eng
open Go Go.RowKit
section
variable {P : Program}
variable {ro : Cx} {n : Nat} {F : Fin} {k : List It} {ops : Array Oper} {rest : List Oper} {e : Env} {w0 : World} {M : Nat → Prop} {H Hq : List Ck}
end
end Go.Eng

/- The engine, part B40: a field, of one cell, of a struct that is a value. -/
namespace Go.Eng
open Go Go.RowKit

def fldB (P : Program) (t i off ft : Nat) : Bool :=
  match P.underlying t with
  | some (.struct fs) => (match fs[i]? with | some f => Nat.beq f.offset off && Nat.beq f.type ft | none => false)
  | _ => false
section
variable {P : Program} {T : Tab} {ro : Cx} {n : Nat} {F : Fin} {w0 : World} {M : Nat → Prop} {k : List It} {ops : Array Oper} {rest : List Oper} {e : Env} {H Hq : List Ck}
end
end Go.Eng

/- The engine, part B41: an empty list that is no nil, of structs. -/
namespace Go.Eng
open Go Go.RowKit
section
variable {P : Program} {T : Tab} {ro : Cx} {n : Nat} {F : Fin} {w0 : World} {M : Nat → Prop} {k : List It} {ops : Array Oper} {rest : List Oper} {e : Env} {H Hq : List Ck}
end
end Go.Eng

/- The engine, part B42: Bools compared, unequal, in regions that draw. -/
namespace Go.Eng
open Go Go.RowKit
section
variable {P : Program} {ro : Cx} {n : Nat} {F : Fin} {w0 : World} {M : Nat → Prop} {k : List It} {ops : Array Oper} {rest : List Oper} {e : Env} {H Hq : List Ck}
end
end Go.Eng

/- The engine, part B43: a struct is stored into an own row. -/
namespace Go.Eng
open Go Go.RowKit
section
variable {P : Program} {T : Tab} {ro : Cx} {n : Nat} {F : Fin} {w0 : World} {M : Nat → Prop} {k : List It} {ops : Array Oper} {rest : List Oper} {e : Env} {H Hq : List Ck}
end
end Go.Eng

/- The engine, part B44: pieces told otherwise in a region that draws; the least of three numbers. -/
namespace Go.Eng
open Go Go.RowKit
section
variable {P : Program} {T : Tab} {ro : Cx} {n : Nat} {F : Fin} {w0 : World} {M : Nat → Prop} {k : List It} {ops : Array Oper} {rest : List Oper} {e : Env} {H H' Hq : List Ck}
end
end Go.Eng

/- The engine, part B45: an empty list that is no nil, in a region that draws. -/
namespace Go.Eng
open Go Go.RowKit
section
variable {P : Program} {T : Tab} {ro : Cx} {n : Nat} {F : Fin} {w0 : World} {M : Nat → Prop} {k : List It} {ops : Array Oper} {rest : List Oper} {e : Env} {H H' Hq : List Ck}
end
end Go.Eng

/- The engine, part B46: a map of which the keys (numbers) are known, in their order; how many it has. -/
namespace Go.Eng
open Go Go.RowKit
section
variable {P : Program} {T : Tab} {ro : Cx} {n : Nat} {F : Fin} {w0 : World} {M : Nat → Prop} {k : List It} {ops : Array Oper} {rest : List Oper} {e : Env} {H H' Hq : List Ck}
def KeysAt (w : World) (b : Nat) (l : List Int) : Prop := ∃ es clock, w.heap[b]? = some (.map es clock) ∧ es.toList.map (·.key) = ints l
def ksP (b : Nat) (l : List Int) : Ck := .gn (· = b) (fun w => KeysAt w b l)
  (fun _ _ _ ⟨es, clock, h1, h2⟩ hc hn => ⟨es, clock, (hc.block b (Array.getElem?_eq_some_iff.1 h1).1 (hn b rfl)).trans h1, h2⟩)
def insK (l : List Int) (x : Int) : List Int := if x ∈ l then l else l ++ [x]
end
end Go.Eng

/- The engine, part B47: halves of numbers without a sign. -/
namespace Go.Eng
open Go Go.RowKit
section
variable {P : Program} {ro : Cx} {n : Nat} {F : Fin} {w0 : World} {M : Nat → Prop} {k : List It} {ops : Array Oper} {rest : List Oper} {e : Env} {H Hq : List Ck}
end
end Go.Eng

/- The engine, part B48: the first elements of an array, as a slice. -/
namespace Go.Eng
open Go Go.RowKit
section
variable {P : Program} {ro : Cx} {n : Nat} {F : Fin} {w0 : World} {M : Nat → Prop} {k : List It} {ops : Array Oper} {rest : List Oper} {e : Env} {H Hq : List Ck}
end
end Go.Eng

/- Walks of target: Falls, Loops. -/
namespace Go.Proofs.Ytgmmmkmekbiboab
open Go Go.Eng
theorem twithin_ca (n lo hi : Int) (w : World) : Ca Try.prog 24 [.int .i64 n, .int .i64 lo, .int .i64 hi] w fun v w' => v = .bool (inB n lo hi) ∧ Chg [] w w' := by
  refine q_of (Sat.nil w M0) Try.func24 rfl (by simp [Try.ntmps24]) ?_
  (refine q_seq (q_region (ql_pure tabOk rfl rfl (q_nil (q_seq (q_region ?_))))); (iterate 4 refine ql_pure tabOk rfl rfl ?_))
  refine ql_split rfl rfl (fun hc => ?_) (fun hc => ?_)
  · (refine ql_gyes rfl (ql_pure tabOk rfl rfl (ql_gyes rfl (ql_pure tabOk rfl rfl (ql_gyes rfl ?_)))); (iterate 3 refine ql_pure tabOk rfl rfl ?_); refine q_nil (q_ret ?_))
    exact q_fin1 rfl rfl fun w' hs => ⟨by simp at hc; simp [inB, hc], hs.chg0⟩
  · ((iterate 3 refine ql_gno rfl rfl rfl ?_); refine ql_pure tabOk rfl rfl (ql_pure tabOk rfl rfl (q_nil (q_ret ?_))))
    exact q_fin1 rfl rfl fun w' hs => ⟨by simp at hc; simp [inB]; omega, hs.chg0⟩
theorem falls1_p (w : World) (L : List (Int × Int)) (hL : ∀ q ∈ L, (-20000 ≤ q.1 ∧ q.1 ≤ 20000) ∧ q.2 = 0) : PredAt Try.prog tab w (.func (.func 23) #[] #[]) (L.map rtV) (fun _ => true) := by
  refine ⟨_, _, _, rfl, rfl, fun w' hw' x hx => ?_⟩
  obtain ⟨⟨x, y⟩, hy, rfl⟩ := List.mem_map.1 hx
  obtain ⟨h1, rfl⟩ := hL _ hy
  dsimp only at h1
  refine q_of (Sat.nil w' M0) Try.func23 rfl (by simp [Try.ntmps23]) ?_
  (refine q_seq (q_region ?_))
  refine ql_box rfl rfl (fun b2 => ?_)
  (refine ql_pure tabOk rfl rfl (q_nil (q_seq (q_region (ql_pure tabOk rfl rfl ?_)))); refine ql_loadBa tabOk rfl rfl rfl ?_)
  refine ql_callv (val := .bool true) tabOk rfl rfl rfl rfl (fun w hs => ?_) ?_; exact by have := twithin_ca x (-20000) 20000 w; rw [inB_iff.2 h1] at this; exact this
  (refine ql_pure tabOk rfl rfl (ql_gyes rfl (ql_pure tabOk rfl rfl (ql_gyes rfl ?_))); refine ql_loadBa tabOk rfl rfl rfl ?_; refine ql_gyes rfl ?_)
  refine ql_callv (val := .bool true) tabOk rfl rfl rfl rfl (fun w hs => ?_) ?_; exact by have := twithin_ca 0 (-20000) 20000 w; exact this
  (refine ql_pure tabOk rfl rfl (ql_pure tabOk rfl rfl (q_nil (q_ret ?_))))
  refine q_fin tabOk rfl (by repeat constructor) fun w hs => ?_
  exact ⟨rfl, hs.chg0⟩
/-- Shots, one at each target. -/
def shA (A : List Int) : List (Int × Int) := (List.range A.length).map fun (i : Nat) => (2500 * (i : Int) + A.getD i 0, 0)
theorem shA_len (A : List Int) : (shA A).length = A.length := by simp [shA]
theorem shA_get {A : List Int} {i : Nat} (h : i < (shA A).length) : (shA A)[i] = (2500 * (i : Int) + A.getD i 0, 0) := by simp [shA]
theorem shA_snoc (A : List Int) (a : Int) : shA (A ++ [a]) = shA A ++ [(2500 * (A.length : Int) + a, 0)] := by
  unfold shA
  rw [List.length_append, List.length_singleton, List.range_succ, List.map_append]
  congr 1
  · refine List.map_congr_left fun i hi => ?_
    rw [getD_app _ (List.mem_range.1 hi)]
  · simp
/-- Which targets have fallen. -/
def dwL (rad : Int) (A : List Int) (k : Nat) : List Bool := [dwnA rad A k 0, dwnA rad A k 1, dwnA rad A k 2, dwnA rad A k 3, dwnA rad A k 4, dwnA rad A k 5]
theorem dwL_get (rad : Int) (A : List Int) (k : Nat) {n : Nat} (h : n < 6) : (dwL rad A k).getD n false = dwnA rad A k n := by
  match n, h with
  | 0, _ => rfl
  | 1, _ => rfl
  | 2, _ => rfl
  | 3, _ => rfl
  | 4, _ => rfl
  | 5, _ => rfl
theorem dwL_zero (rad : Int) (A : List Int) : dwL rad A 0 = [false, false, false, false, false, false] := by
  unfold dwL
  simp only [dwnA_zero]
theorem dwL_succ (rad : Int) (A : List Int) {k : Nat} (hk : k < 5) : dwL rad A (k + 1) = if hitA rad (A.getD k 0) = true then (dwL rad A k).set (k + 1) true else dwL rad A k := by
  have hs : ∀ n, n ≠ k + 1 → dwnA rad A (k + 1) n = dwnA rad A k n := fun n hn => dwnA_same rad A hn
  have hn := dwnA_new rad A k
  have ho := dwnA_not rad A (show k < k + 1 by omega)
  unfold dwL
  have : k = 0 ∨ k = 1 ∨ k = 2 ∨ k = 3 ∨ k = 4 := by omega
  rcases this with rfl | rfl | rfl | rfl | rfl
  · rw [hs 0 (by omega), hn, hs 2 (by omega), hs 3 (by omega), hs 4 (by omega), hs 5 (by omega)]
    split
    · rename_i hh; rw [hh]; rfl
    · rename_i hh; rw [ho, (Bool.not_eq_true _).mp hh]
  · rw [hs 0 (by omega), hs 1 (by omega), hn, hs 3 (by omega), hs 4 (by omega), hs 5 (by omega)]
    split
    · rename_i hh; rw [hh]; rfl
    · rename_i hh; rw [ho, (Bool.not_eq_true _).mp hh]
  · rw [hs 0 (by omega), hs 1 (by omega), hs 2 (by omega), hn, hs 4 (by omega), hs 5 (by omega)]
    split
    · rename_i hh; rw [hh]; rfl
    · rename_i hh; rw [ho, (Bool.not_eq_true _).mp hh]
  · rw [hs 0 (by omega), hs 1 (by omega), hs 2 (by omega), hs 3 (by omega), hn, hs 5 (by omega)]
    split
    · rename_i hh; rw [hh]; rfl
    · rename_i hh; rw [ho, (Bool.not_eq_true _).mp hh]
  · rw [hs 0 (by omega), hs 1 (by omega), hs 2 (by omega), hs 3 (by omega), hs 4 (by omega), hn]
    split
    · rename_i hh; rw [hh]; rfl
    · rename_i hh; rw [ho, (Bool.not_eq_true _).mp hh]
/-- The target that a shot falls, of the first ones. -/
def hitN (rd a : Int) (k n : Nat) : Int := if k + 1 < n ∧ hitA rd a = true then (k : Int) + 1 else 0
theorem hitN_one (rd a : Int) (k : Nat) : hitN rd a k 1 = 0 := if_neg (by omega)
theorem hitN_same {rd a : Int} {k n : Nat} (h : n ≠ k + 1) : hitN rd a k (n + 1) = hitN rd a k n := by
  unfold hitN
  by_cases c : k + 1 < n
  · by_cases d : hitA rd a = true
    · rw [if_pos ⟨by omega, d⟩, if_pos ⟨c, d⟩]
    · rw [if_neg (fun x => d x.2), if_neg (fun x => d x.2)]
  · rw [if_neg (fun x => by have := x.1; omega), if_neg (fun x => c x.1)]
theorem hitN_at (rd a : Int) (k : Nat) : hitN rd a k (k + 1 + 1) = if hitA rd a = true then (k : Int) + 1 else 0 := by
  unfold hitN
  by_cases d : hitA rd a = true
  · rw [if_pos ⟨by omega, d⟩, if_pos d]
  · rw [if_neg (fun x => d x.2), if_neg d]
theorem hitN_bd (rd a : Int) (k n : Nat) : 0 ≤ hitN rd a k n ∧ hitN rd a k n ≤ (k : Int) + 1 := by
  unfold hitN
  split <;> omega
theorem b6_arr : arrB Try.prog 79 6 4 1 = true := by kernel_rfl
set_option maxHeartbeats 4000000 in
theorem falls_ca (w : World) (lo hi : Nat) (v : Value) (A : List Int) (p : Int) (h : RdS w lo hi v (shA A)) (hA : ∀ a ∈ A, -1000 ≤ a ∧ a ≤ 1000) (hl : A.length ≤ 5) (hp : p = 0 ∨ p = 1) : Ca Try.prog 10 [.int .i64 p, v] w fun x w' => ∃ u : Value, x = .tuple #[u, .int .i64 0] ∧ Sat w M0 [.ow u 3 1 A.length (ints (falA (radP p) A A.length))] w' := by
  have h0 := h
  obtain ⟨va, c, rfl, ha⟩ := RdS.outI h
  rw [shA_len] at ha
  have hsh : ∀ q ∈ shA A, (-20000 ≤ q.1 ∧ q.1 ≤ 20000) ∧ q.2 = 0 := fun q hq => by
    obtain ⟨i, hi, rfl⟩ := List.mem_map.1 hq
    have hi := List.mem_range.1 hi
    have := hA _ (List.getElem_mem hi)
    simp only [List.getD_eq_getElem?_getD, List.getElem?_eq_getElem hi, Option.getD_some]
    refine ⟨?_, trivial⟩
    omega
  refine q_of (Sat.nil w M0) Try.func10 rfl (by simp [Try.ntmps10]) ?_
  rw [shA_len]
  have hrad : radP p = 225 ∨ radP p = 575 := by rcases hp with rfl | rfl <;> decide
  have hxr : ∃ rd, rd = radP p := ⟨_, rfl⟩
  obtain ⟨rd, hrd⟩ := hxr
  rw [← hrd] at hrad ⊢
  (refine q_seq (q_region (ql_pure tabOk rfl rfl (ql_pure tabOk rfl rfl (q_nil (q_seq ?_))))))
  refine q_cut (σ := Unit) (fun _ => [(0, .int .i64 p), (1, .slice va A.length c)]) (fun _ => []) ?_ ?_
  · rintro ⟨⟩
    (refine q_seq (q_region ?_))
    refine ql_mk #[.int .i64 225, .int .i64 575] rfl (by kernel_rfl) rfl ?_
    (refine ql_pure tabOk rfl rfl ?_)
    refine ql_ixA tabOk (len := 2) (et := 3) (v := .int .i64 rd) (by kernel_rfl) rfl rfl rfl rfl (by omega) (by omega) (by rw [hrd]; rcases hp with rfl | rfl <;> rfl) ?_
    (refine ql_pure tabOk rfl rfl (q_nil (q_seq (q_region ?_))))
    refine ql_alloc zero79 rfl (fun b7 => ?_)
    (refine q_nil (q_seq (q_region (ql_pure tabOk rfl rfl (q_nil (q_seq (q_region (ql_pure tabOk rfl rfl (q_nil (q_seq (q_seq (q_region ?_))))))))))); (iterate 3 refine ql_pure tabOk rfl rfl ?_); refine q_nil (q_block ?_))
    refine q_conv (H' := [.ow (.slice none 0 0) 3 1 0 (ints (falA rd A 0)), .pt b7 (bools (dwL rd A 0)) 79]) (fun w' hs => by rw [dwL_zero]; exact Sat.ownil hs 3 1) ?_
    refine q_loop (σ := Nat × Value) (fun s => s.1 ≤ A.length) (fun s => A.length - s.1) (fun s => [(6, .int .i64 rd), (7, .pointer (some ⟨b7, 0, none⟩)), (8, .int .i64 (cntA rd A s.1)), (9, s.2), (33, .slice va A.length c), (34, .int .i64 A.length), (35, .int .i64 s.1)]) (fun s => [.ow s.2 3 1 s.1 (ints (falA rd A s.1)), .pt b7 (bools (dwL rd A s.1)) 79]) (0, .slice none 0 0) (by simp) ⟨rfl, rfl, rfl, rfl, rfl, rfl, rfl, trivial⟩ (by repeat constructor) ?_
    rintro ⟨k, u⟩ hk K hK
    dsimp only at hk ⊢
    (refine q_seq (q_region (ql_pure tabOk rfl rfl (q_nil (q_seq ?_)))))
    refine q_if rfl (fun hc => ?_) (fun hc => ?_)
    · have hk2 : k < A.length := by omega
      clear hc
      have hcl := cntA_le rd A k
      obtain ⟨vb, vo, rfl⟩ := ha (by omega)
      have hkl : k < (shA A).length := by rw [shA_len]; exact hk2
      obtain ⟨a, hae⟩ : ∃ a, a = A.getD k 0 := ⟨_, rfl⟩
      have hab : -1000 ≤ a ∧ a ≤ 1000 := by
        rw [hae, List.getD_eq_getElem?_getD, List.getElem?_eq_getElem hk2]
        exact hA _ (List.getElem_mem hk2)
      (refine q_skip (q_seq (q_block (q_seq (q_region ?_)))))
      refine ql_index tabOk rfl rfl rfl rfl rfl (by omega) (by omega) ?_
      refine ql_loadA (cs := [.int .i64 (2500 * (k : Int) + a), .int .i64 0]) tabOk rfl rfl rfl rfl (fun w hs q hq => by have := RdS.at (RdE.keep h0 hs.chg0) k hkl q hq; rw [shA_get hkl, ← hae] at this; simpa using this) ?_
      skip
      refine ql_alloc zero46 rfl (fun b11 => ?_)
      (refine ql_setA tabOk rfl rfl rfl rfl rfl (by repeat constructor) rfl ?_; refine q_nil (q_seq (q_seq (q_region (ql_pure tabOk rfl rfl (ql_eqlF tabOk rfl rfl rfl (by omega) (q_nil (q_cond_false rfl (q_skip (q_seq (q_region (ql_pure tabOk rfl rfl ?_))))))))))); refine q_nil (q_seq (q_seq (q_region (ql_pure tabOk rfl rfl (q_nil (q_block ?_)))))))
      refine q_loop (σ := Nat) (fun n => 1 ≤ n ∧ n ≤ 6) (fun n => 6 - n) (fun n => [(6, .int .i64 rd), (7, .pointer (some ⟨b7, 0, none⟩)), (8, .int .i64 (cntA rd A k)), (9, u), (33, .slice (some ⟨vb, vo, none⟩) A.length c), (34, .int .i64 A.length), (35, .int .i64 k), (11, .pointer (some ⟨b11, 0, none⟩)), (12, .int .i64 (hitN rd a k n)), (13, .int .i64 n)]) (fun n => [.pt b11 [.int .i64 (2500 * (k : Int) + a), .int .i64 0] 46, .ow u 3 1 k (ints (falA rd A k)), .pt b7 (bools (dwL rd A k)) 79]) 1 (by omega) ⟨rfl, rfl, rfl, rfl, rfl, rfl, rfl, rfl, lookI rfl (hitN_one rd a k).symm, rfl, trivial⟩ (by repeat constructor) ?_
      intro n hn K1 hK1
      (refine q_seq (q_seq (q_region (ql_pure tabOk rfl rfl (ql_pure tabOk rfl rfl (q_nil ?_))))))
      refine q_if rfl (fun hc => ?_) (fun hc => ?_)
      · have hn5 : n ≤ 5 := by omega
        clear hc
        (refine q_skip (q_seq (q_block (q_seq (q_region (ql_pure tabOk rfl rfl ?_))))); refine ql_loadBa tabOk rfl rfl rfl ?_; refine ql_pure tabOk rfl rfl ?_; (iterate 3 refine ql_ar tabOk rfl rfl rfl rfl (by omega) (by omega) ?_); refine ql_pure tabOk rfl rfl (q_nil (q_seq (q_region (ql_pure tabOk rfl rfl ?_)))))
        obtain ⟨x, hx⟩ : ∃ x, x = 2500 * (k : Int) + a - 2500 * ((n : Int) - 1) := ⟨_, rfl⟩
        rw [← hx]
        have hxb : -20000 ≤ x ∧ x ≤ 20000 := by omega
        have hxx : 0 ≤ x * x ∧ x * x ≤ 400000000 := by
          rcases Int.le_total 0 x with h1 | h1
          · exact ⟨Int.mul_nonneg h1 h1, by have := Int.mul_le_mul hxb.2 hxb.2 h1 (by omega); omega⟩
          · have h2 := Int.mul_nonneg (show 0 ≤ -x by omega) (show 0 ≤ -x by omega)
            have h3 := Int.mul_le_mul (show -x ≤ 20000 by omega) (show -x ≤ 20000 by omega) (by omega) (by omega)
            rw [Int.neg_mul_neg] at h2 h3
            omega
        have hrr : 0 ≤ rd * rd ∧ rd * rd ≤ 400000 := by rcases hrad with h | h <;> rw [h] <;> decide
        refine ql_indexA (len := 6) b6_arr rfl rfl rfl (by omega) (by omega) ?_
        refine ql_load1 (v := .bool (dwnA rd A k n)) tabOk rfl rfl rfl (fun w hs => by have := bcell (hs.blk (b := b7) (by repeat constructor)) n (show n < (dwL rd A k).length by simp [dwL]; omega); rw [dwL_get rd A k (by omega)] at this; exact this) ?_
        by_cases hnk : n = k + 1
        · subst hnk
          rw [dwnA_not rd A (show k < k + 1 by omega)]
          have hxa : x = a := by omega
          subst hxa
          cases hh : hitA rd x with
          | true =>
            have hle := (sq_iff (show 0 ≤ rd by omega)).2 (hitA_iff.1 hh)
            have he := hitN_at rd x k
            rw [hh, if_pos rfl] at he
            (refine ql_pure tabOk rfl rfl (ql_pure tabOk rfl rfl (ql_gyes rfl (ql_pure tabOk rfl rfl (ql_gyes rfl (ql_pure tabOk rfl rfl (ql_gyes rfl (ql_ar tabOk rfl rfl rfl rfl (by omega) (by omega) (ql_gyes rfl (ql_pure tabOk rfl rfl (ql_gyes rfl ?_)))))))))); refine ql_loadBa tabOk rfl rfl rfl ?_; refine ql_gyes rfl (ql_pure tabOk rfl rfl (ql_gyes rfl ?_)); refine ql_loadBa tabOk rfl rfl rfl ?_; refine ql_gyes rfl (ql_ar tabOk rfl rfl rfl rfl (by omega) (by omega) (ql_gyes rfl (ql_ar tabOk rfl rfl rfl rfl (by omega) (by omega) (ql_gyes rfl (ql_pure tabOk rfl rfl (ql_gyes rfl (ql_pure tabOk rfl rfl (ql_gyes rfl (ql_ar tabOk rfl rfl rfl rfl (by omega) (by omega) (ql_gyes rfl (ql_leqT tabOk rfl rfl rfl (by omega) ?_))))))))))); refine ql_pure tabOk rfl rfl (q_nil (q_cond_true rfl (q_region (ql_pure tabOk rfl rfl (ql_pure tabOk rfl rfl (q_nil (q_blk (q_region (ql_pure tabOk rfl rfl (ql_ar tabOk rfl rfl rfl rfl (by omega) (by omega) (ql_pure tabOk rfl rfl ?_))))))))))); refine q_nil ?_)
            exact hK1 (k + 1 + 1) _ _ (by omega) (by omega) ⟨rfl, rfl, rfl, rfl, rfl, rfl, rfl, rfl, lookI rfl (by rw [he]; omega), rfl, trivial⟩ (by repeat constructor)
          | false =>
            have hle : ¬ x * x ≤ rd * rd := fun h => by rw [hitA_iff.2 ((sq_iff (show 0 ≤ rd by omega)).1 h)] at hh; cases hh
            have he := hitN_at rd x k
            rw [hh, if_neg (by decide)] at he
            have he2 := hitN_bd rd x k (k + 1)
            have he3 : hitN rd x k (k + 1) = 0 := if_neg (by omega)
            (refine ql_pure tabOk rfl rfl (ql_pure tabOk rfl rfl (ql_gyes rfl (ql_pure tabOk rfl rfl (ql_gyes rfl (ql_pure tabOk rfl rfl (ql_gyes rfl (ql_ar tabOk rfl rfl rfl rfl (by omega) (by omega) (ql_gyes rfl (ql_pure tabOk rfl rfl (ql_gyes rfl ?_)))))))))); refine ql_loadBa tabOk rfl rfl rfl ?_; refine ql_gyes rfl (ql_pure tabOk rfl rfl (ql_gyes rfl ?_)); refine ql_loadBa tabOk rfl rfl rfl ?_; refine ql_gyes rfl (ql_ar tabOk rfl rfl rfl rfl (by omega) (by omega) (ql_gyes rfl (ql_ar tabOk rfl rfl rfl rfl (by omega) (by omega) (ql_gyes rfl (ql_pure tabOk rfl rfl (ql_gyes rfl (ql_pure tabOk rfl rfl (ql_gyes rfl (ql_ar tabOk rfl rfl rfl rfl (by omega) (by omega) (ql_gyes rfl (ql_leqF tabOk rfl rfl rfl (by omega) ?_))))))))))); refine ql_pure tabOk rfl rfl (q_nil (q_cond_false rfl (q_skip (q_blk (q_region (ql_pure tabOk rfl rfl (ql_ar tabOk rfl rfl rfl rfl (by omega) (by omega) (ql_pure tabOk rfl rfl (q_nil ?_))))))))))
            exact hK1 (k + 1 + 1) _ _ (by omega) (by omega) ⟨rfl, rfl, rfl, rfl, rfl, rfl, rfl, rfl, lookI rfl (by rw [he, he3]), rfl, trivial⟩ (by repeat constructor)
        · have hfar := far_A (rad := rd) hab (by omega) hnk
          rw [← hx] at hfar
          have he := hitN_same (rd := rd) (a := a) hnk
          cases dwnA rd A k n with
          | true =>
            (refine ql_pure tabOk rfl rfl (ql_pure tabOk rfl rfl ?_); (iterate 13 refine ql_gno rfl rfl rfl ?_); refine ql_pure tabOk rfl rfl (q_nil (q_cond_false rfl (q_skip (q_blk (q_region (ql_pure tabOk rfl rfl (ql_ar tabOk rfl rfl rfl rfl (by omega) (by omega) (ql_pure tabOk rfl rfl (q_nil ?_))))))))))
            exact hK1 (n + 1) _ _ (by omega) (by omega) ⟨rfl, rfl, rfl, rfl, rfl, rfl, rfl, rfl, lookI rfl he.symm, rfl, trivial⟩ (by repeat constructor)
          | false =>
            (refine ql_pure tabOk rfl rfl (ql_pure tabOk rfl rfl (ql_gyes rfl (ql_pure tabOk rfl rfl (ql_gyes rfl (ql_pure tabOk rfl rfl (ql_gyes rfl (ql_ar tabOk rfl rfl rfl rfl (by omega) (by omega) (ql_gyes rfl (ql_pure tabOk rfl rfl (ql_gyes rfl ?_)))))))))); refine ql_loadBa tabOk rfl rfl rfl ?_; refine ql_gyes rfl (ql_pure tabOk rfl rfl (ql_gyes rfl ?_)); refine ql_loadBa tabOk rfl rfl rfl ?_; refine ql_gyes rfl (ql_ar tabOk rfl rfl rfl rfl (by omega) (by omega) (ql_gyes rfl (ql_ar tabOk rfl rfl rfl rfl (by omega) (by omega) (ql_gyes rfl (ql_pure tabOk rfl rfl (ql_gyes rfl (ql_pure tabOk rfl rfl (ql_gyes rfl (ql_ar tabOk rfl rfl rfl rfl (by omega) (by omega) (ql_gyes rfl (ql_leqF tabOk rfl rfl rfl (by omega) ?_))))))))))); refine ql_pure tabOk rfl rfl (q_nil (q_cond_false rfl (q_skip (q_blk (q_region (ql_pure tabOk rfl rfl (ql_ar tabOk rfl rfl rfl rfl (by omega) (by omega) (ql_pure tabOk rfl rfl (q_nil ?_))))))))))
            exact hK1 (n + 1) _ _ (by omega) (by omega) ⟨rfl, rfl, rfl, rfl, rfl, rfl, rfl, rfl, lookI rfl he.symm, rfl, trivial⟩ (by repeat constructor)
      · obtain rfl : n = 6 := by omega
        clear hc
        have he : hitN rd a k 6 = if hitA rd a = true then (k : Int) + 1 else 0 := by
          unfold hitN
          by_cases d : hitA rd a = true
          · rw [if_pos ⟨by omega, d⟩, if_pos d]
          · rw [if_neg (fun x => d x.2), if_neg d]
        rw [he]
        have hf := falA_succ rd A k
        have hw := dwL_succ rd A (show k < 5 by omega)
        have hcn : cntA rd A (k + 1) = cntA rd A k + (if hitA rd (A.getD k 0) = true then 1 else 0) := rfl
        rw [← hae] at hf hw hcn
        cases hh : hitA rd a with
        | true =>
          rw [hh, if_pos rfl] at hf hw hcn
          rw [if_pos rfl]
          (refine q_exit _ rfl (q_seq (q_seq (q_region (ql_pure tabOk rfl rfl (ql_gtrT tabOk rfl rfl rfl (by omega) (q_nil (q_cond_true rfl (q_seq (q_region (ql_pure tabOk rfl rfl ?_)))))))))))
          refine ql_indexA (len := 6) b6_arr rfl rfl rfl (by omega) (by omega) ?_
          refine ql_storeBo tabOk (k + 1) rfl rfl rfl (by repeat constructor) (by omega) (by simp [dwL]; omega) ?_
          (refine q_nil (q_region (ql_pure tabOk rfl rfl (ql_ar tabOk rfl rfl rfl rfl (by omega) (by omega) (ql_pure tabOk rfl rfl (q_nil (q_region (ql_pure tabOk rfl rfl (ql_pure tabOk rfl rfl ?_)))))))))
          refine ql_mkS 3 [.int .i64 ((k : Int) + 1)] rfl (by kernel_rfl) rfl (fun bn => ?_)
          skip
          refine ql_append (q := 1) (news := [.int .i64 ((k : Int) + 1)]) slI rfl rfl rfl (fun v' => by repeat constructor) (fun w' hs => ⟨_, _, Blk.rdN (hs.blk (b := bn) (by repeat constructor)) rfl⟩) (by simp [oneV]) (by omega) (by omega) (fun u' => ?_)
          (refine ql_pure tabOk rfl rfl (q_nil (q_blk (q_region (ql_ar tabOk rfl rfl rfl rfl (by omega) (by omega) (ql_pure tabOk rfl rfl (q_nil ?_)))))))
          exact hK (k + 1, u') _ _ (by simp only; omega) (by simp only; omega) ⟨rfl, rfl, lookI rfl (by simp only [hcn]; omega), rfl, rfl, rfl, rfl, trivial⟩ (by dsimp only; rw [hf, hw, show ints (falA rd A k ++ [(k : Int) + 1]) = ints (falA rd A k) ++ [.int .i64 ((k : Int) + 1)] from by simp [ints]]; repeat constructor)
        | false =>
          rw [hh, if_neg (by decide)] at hf hw hcn
          rw [if_neg (by decide)]
          (refine q_exit _ rfl (q_seq (q_seq (q_region (ql_pure tabOk rfl rfl (ql_gtrF tabOk rfl rfl rfl (by omega) (q_nil (q_cond_false rfl (q_skip (q_region (ql_pure tabOk rfl rfl (ql_pure tabOk rfl rfl ?_))))))))))))
          refine ql_mkS 3 [.int .i64 0] rfl (by kernel_rfl) rfl (fun bn => ?_)
          skip
          refine ql_append (q := 1) (news := [.int .i64 0]) slI rfl rfl rfl (fun v' => by repeat constructor) (fun w' hs => ⟨_, _, Blk.rdN (hs.blk (b := bn) (by repeat constructor)) rfl⟩) (by simp [oneV]) (by omega) (by omega) (fun u' => ?_)
          (refine ql_pure tabOk rfl rfl (q_nil (q_blk (q_region (ql_ar tabOk rfl rfl rfl rfl (by omega) (by omega) (ql_pure tabOk rfl rfl (q_nil ?_)))))))
          exact hK (k + 1, u') _ _ (by simp only; omega) (by simp only; omega) ⟨rfl, rfl, lookI rfl (by simp only [hcn]; omega), rfl, rfl, rfl, rfl, trivial⟩ (by dsimp only; rw [hf, hw, show ints (falA rd A k ++ [0]) = ints (falA rd A k) ++ [.int .i64 0] from by simp [ints]]; repeat constructor)
    · obtain rfl : k = A.length := by omega
      (refine q_exit _ rfl (q_seq (q_region ?_)); (iterate 3 refine ql_pure tabOk rfl rfl ?_); refine q_nil (q_ret ?_))
      refine q_fin tabOk rfl (by repeat constructor) fun w hs => ?_
      exact ⟨u, rfl, hs.sp (by repeat constructor)⟩
  · intro K hK
    rcases hp with rfl | rfl
    · (refine q_block (q_seq (q_region (ql_pure tabOk rfl rfl (ql_neqF tabOk rfl rfl rfl (by omega) (ql_pure tabOk rfl rfl (ql_gno rfl rfl rfl (ql_gno rfl rfl rfl (ql_pure tabOk rfl rfl (ql_pure tabOk rfl rfl (q_nil (q_cond_false rfl ?_))))))))))); refine q_seq (q_region (ql_pure tabOk rfl rfl (ql_pure tabOk rfl rfl (ql_gtrF tabOk rfl rfl rfl (by omega) (ql_pure tabOk rfl rfl (q_nil (q_cond_false rfl (q_seq (q_region (ql_pure tabOk rfl rfl ?_)))))))))))
      refine ql_callv (val := .bool true) tabOk rfl rfl rfl rfl (fun w hs => ?_) ?_; exact by have := all_shot w lo hi (.slice va A.length c) (.func (.func 23) #[] #[]) ((shA A).map rtV) (fun _ => true) (by rw [← shA_len A]; exact RdE.keep h0 hs.chg0) (fun i hi => ⟨_, by rw [List.getElem_map]; rfl⟩) (by rw [List.length_map, shA_len]; omega) (falls1_p w (shA A) hsh); rw [show ((shA A).map rtV).all (fun _ => true) = true from by simp] at this; exact this
      (refine ql_pure tabOk rfl rfl (ql_pure tabOk rfl rfl (q_nil (q_cond_false rfl (q_skip (q_blk ?_))))))
      exact hK () _ _ ⟨rfl, rfl, trivial⟩ (by repeat constructor)
    · (refine q_block (q_seq (q_region (ql_pure tabOk rfl rfl (ql_neqT tabOk rfl rfl rfl (by omega) (ql_pure tabOk rfl rfl (ql_gyes rfl (ql_pure tabOk rfl rfl (ql_gyes rfl (ql_neqF tabOk rfl rfl rfl (by omega) (ql_pure tabOk rfl rfl (ql_pure tabOk rfl rfl ?_))))))))))); refine q_nil (q_cond_false rfl (q_seq (q_region (ql_pure tabOk rfl rfl (ql_pure tabOk rfl rfl (ql_gtrF tabOk rfl rfl rfl (by omega) (ql_pure tabOk rfl rfl (q_nil (q_cond_false rfl (q_seq (q_region ?_))))))))))); refine ql_pure tabOk rfl rfl ?_)
      refine ql_callv (val := .bool true) tabOk rfl rfl rfl rfl (fun w hs => ?_) ?_; exact by have := all_shot w lo hi (.slice va A.length c) (.func (.func 23) #[] #[]) ((shA A).map rtV) (fun _ => true) (by rw [← shA_len A]; exact RdE.keep h0 hs.chg0) (fun i hi => ⟨_, by rw [List.getElem_map]; rfl⟩) (by rw [List.length_map, shA_len]; omega) (falls1_p w (shA A) hsh); rw [show ((shA A).map rtV).all (fun _ => true) = true from by simp] at this; exact this
      (refine ql_pure tabOk rfl rfl (ql_pure tabOk rfl rfl (q_nil (q_cond_false rfl (q_skip (q_blk ?_))))))
      exact hK () _ _ ⟨rfl, rfl, trivial⟩ (by repeat constructor)
theorem loops_ca (w : World) (lo hi : Nat) (v : Value) (A : List Int) (p : Int) (h : RdS w lo hi v (shA A)) (hA : ∀ a ∈ A, -1000 ≤ a ∧ a ≤ 1000) (hl : A.length ≤ 5) (hp : p = 0 ∨ p = 1) : Ca Try.prog 11 [.int .i64 p, v] w fun x w' => x = .tuple #[.int .i64 (5 - cntA (radP p) A A.length), .int .i64 0] ∧ Chg [] w w' := by
  refine q_of (Sat.nil w M0) Try.func11 rfl (by simp [Try.ntmps11]) ?_
  (refine q_seq (q_region (ql_pure tabOk rfl rfl (ql_pure tabOk rfl rfl (q_nil (q_seq (q_region (ql_pure tabOk rfl rfl (ql_pure tabOk rfl rfl ?_)))))))))
  refine ql_call (β := Value) (ψ := fun y v => v = .tuple #[y, .int .i64 0]) (L' := fun y => [.ow y 3 1 A.length (ints (falA (radP p) A A.length))]) tabOk [] _ M0 rfl rfl rfl rfl (Sp.refl _) (fun _ h => h.elim) (fun w' hs => falls_ca w' lo hi v A p (RdE.keep h hs.chg0) hA hl hp) ?_
  rintro u _ rfl
  dsimp only [List.cons_append, List.nil_append]
  refine ql_fact (fun w hs => hs.slice2 (v := u) (by repeat constructor)) ?_
  rintro ⟨ua, uc, rfl⟩
  (refine ql_pure tabOk rfl rfl (ql_ext tabOk rfl rfl rfl (ql_ext tabOk rfl rfl rfl (ql_pure tabOk rfl rfl (ql_pure tabOk rfl rfl (q_nil (q_seq (q_seq (q_region (ql_pure tabOk rfl rfl (ql_neqF tabOk rfl rfl rfl (by omega) (q_nil ?_))))))))))); refine q_cond_false rfl (q_skip (q_seq (q_region (ql_pure tabOk rfl rfl (q_nil (q_seq (q_seq (q_region ?_)))))))); (iterate 3 refine ql_pure tabOk rfl rfl ?_); refine q_nil (q_block ?_))
  obtain ⟨rd, hrd⟩ : ∃ rd, rd = radP p := ⟨_, rfl⟩
  rw [← hrd]
  refine q_loop (σ := Nat) (fun k => k ≤ A.length) (fun k => A.length - k) (fun k => [(8, .int .i64 (5 - (cntA rd A k : Int))), (20, .slice ua A.length uc), (21, .int .i64 A.length), (22, .int .i64 k)]) (fun _ => [.ow (.slice ua A.length uc) 3 1 A.length (ints (falA rd A A.length))]) 0 (by omega) ⟨rfl, rfl, rfl, rfl, trivial⟩ (by repeat constructor) ?_
  intro k hk K hK
  (refine q_seq (q_region (ql_pure tabOk rfl rfl (q_nil (q_seq ?_)))))
  refine q_if rfl (fun hc => ?_) (fun hc => ?_)
  · have hk2 : k < A.length := by omega
    clear hc
    have hkl : k < (falA rd A A.length).length := by rw [falA_len]; exact hk2
    have hcl := cntA_le rd A k
    have hcn : cntA rd A (k + 1) = cntA rd A k + (if hitA rd (A.getD k 0) = true then 1 else 0) := rfl
    have hg := falA_get hkl
    refine q_fact (fun w hs => hs.ownSome (v := .slice ua A.length uc) (by repeat constructor) (by omega)) ?_
    rintro ⟨ub, uc2, he⟩
    obtain ⟨rfl, rfl⟩ : ua = some ⟨ub, 0, none⟩ ∧ uc = uc2 := by
      cases he
      exact ⟨rfl, rfl⟩
    (refine q_skip (q_seq (q_block (q_seq (q_region ?_)))))
    refine ql_index tabOk rfl rfl rfl rfl rfl (by omega) (by omega) ?_
    refine ql_load1 (v := .int .i64 (falA rd A A.length)[k]) tabOk rfl rfl rfl (fun w hs => RdI.at (own_rdI (l := falA rd A A.length) (hs.mem (c := .ow (.slice (some ⟨ub, 0, none⟩) A.length uc) 3 1 A.length (ints (falA rd A A.length))) (by repeat constructor)) (falA_len rd A A.length).symm) k hkl) ?_
    rw [hg]
    cases hh : hitA rd (A.getD k 0) with
    | true =>
      rw [hh, if_pos rfl] at hcn
      rw [if_pos rfl]
      (refine ql_pure tabOk rfl rfl (q_nil (q_seq (q_region (ql_pure tabOk rfl rfl (ql_gtrT tabOk rfl rfl rfl (by omega) (q_nil (q_cond_true rfl (q_region (ql_pure tabOk rfl rfl (ql_ar tabOk rfl rfl rfl rfl (by omega) (by omega) (ql_pure tabOk rfl rfl ?_))))))))))); refine q_nil (q_blk (q_region (ql_ar tabOk rfl rfl rfl rfl (by omega) (by omega) (ql_pure tabOk rfl rfl (q_nil ?_))))))
      exact hK (k + 1) _ _ (by omega) (by omega) ⟨lookI rfl (by rw [hcn]; omega), rfl, rfl, rfl, trivial⟩ (by repeat constructor)
    | false =>
      rw [hh, if_neg (by decide)] at hcn
      rw [if_neg (by decide)]
      (refine ql_pure tabOk rfl rfl (q_nil (q_seq (q_region (ql_pure tabOk rfl rfl (ql_gtrF tabOk rfl rfl rfl (by omega) (q_nil (q_cond_false rfl (q_skip (q_blk (q_region (ql_ar tabOk rfl rfl rfl rfl (by omega) (by omega) ?_))))))))))); refine ql_pure tabOk rfl rfl (q_nil ?_))
      exact hK (k + 1) _ _ (by omega) (by omega) ⟨lookI rfl (by rw [hcn]; omega), rfl, rfl, rfl, trivial⟩ (by repeat constructor)
  · obtain rfl : k = A.length := by omega
    (refine q_exit _ rfl (q_seq (q_region ?_)); (iterate 3 refine ql_pure tabOk rfl rfl ?_); refine q_nil (q_ret ?_))
    refine q_fin tabOk rfl (by repeat constructor) fun w hs => ?_
    exact ⟨rfl, hs.chg0⟩
end Go.Proofs.Ytgmmmkmekbiboab

/- The plain law of TopBout: who follows the plan, and aims one shot at each target. -/
namespace Go.Proofs.Ytgmmmkmekbiboab
open Go Go.Eng
/-- Where one is before a state of the wind: x as Follow counts, the shots beside the middles of their targets, and the cost without misses. -/
structure BtI (r : Rg) (p : Ru) (offs states : List Int) (k : Nat) (x : FS) (A : List Int) (co : Int) : Prop where
  run : x = (states.take k).foldl (stepF r p offs) ⟨0, p.waits, 0, 0, 0, 0⟩
  len : A.length = x.shot
  bd : ∀ a ∈ A, -1000 ≤ a ∧ a ≤ 1000
  cost : co + p.miss * x.misses = x.cost
  cb : 0 ≤ co ∧ co ≤ 1000 * x.steps
  misses : x.misses = (x.shot : Int) - cntA 225 A x.shot
  shot : x.shot ≤ 5
  wt : 0 ≤ x.wt ∧ x.wt ≤ p.waits
  cl : -r.clicks ≤ x.cl ∧ x.cl ≤ r.clicks
  steps : x.steps = x.shot + (p.waits - x.wt)
  cnt : x.shot < 5 → x.steps = k
theorem cntA_snoc (rad : Int) (A : List Int) (a : Int) : ∀ k, k ≤ A.length → cntA rad (A ++ [a]) k = cntA rad A k
  | 0, _ => rfl
  | k + 1, h => by
    simp only [cntA]
    rw [cntA_snoc rad A a k (by omega), getD_app _ (by omega)]
structure BtR (r : Rg) (p : Ru) (offs states : List Int) : Prop where
  right : r.Right
  rad : r.radius = 45
  clk : r.clicks ≤ 3
  dr : ∀ x ∈ r.drifts, -120 ≤ x ∧ x ≤ 120
  rules : p.Right
  click : p.click ≤ 59
  wait : p.wait ≤ 59
  offs : ∀ i, -2 ≤ offs.getD i 0 ∧ offs.getD i 0 ≤ 2
theorem bt_zero {r : Rg} {p : Ru} {offs states : List Int} (h : BtR r p offs states) : BtI r p offs states 0 ⟨0, p.waits, 0, 0, 0, 0⟩ [] 0 := by
  have h1 := h.rules.waits
  have h2 := h.right.clicks
  exact ⟨rfl, rfl, by simp, by simp, by simp, by simp [cntA], by simp, by simp only; omega, by simp only; omega, by simp, fun _ => rfl⟩
theorem take_next {states : List Int} {k : Nat} (hk : k < states.length) {r : Rg} {p : Ru} {offs : List Int} {x : FS} (h : x = (states.take k).foldl (stepF r p offs) ⟨0, p.waits, 0, 0, 0, 0⟩) : (states.take (k + 1)).foldl (stepF r p offs) ⟨0, p.waits, 0, 0, 0, 0⟩ = stepF r p offs x (states.getD k 0) := by
  rw [List.take_succ_eq_append_getElem hk, List.foldl_append, ← h, List.getD_eq_getElem?_getD, List.getElem?_eq_getElem hk]
  rfl
theorem fold_done {r : Rg} {p : Ru} {offs : List Int} : ∀ (l : List Int) (x : FS), x.shot = 5 → l.foldl (stepF r p offs) x = x
  | [], _, _ => rfl
  | s :: l, x, h => by
    rw [List.foldl_cons, show stepF r p offs x s = x from if_pos h]
    exact fold_done l x h
theorem bt_end {r : Rg} {p : Ru} {offs states : List Int} {k : Nat} {x : FS} {A : List Int} {cost : Int} (h : BtI r p offs states k x A cost) (h5 : x.shot = 5) : endF r p states offs = x := by
  unfold endF
  conv => lhs; rw [← List.take_append_drop k states]
  rw [List.foldl_append, ← h.run]
  exact fold_done _ _ h5
theorem bt_all {r : Rg} {p : Ru} {offs states : List Int} {x : FS} {A : List Int} {cost : Int} (h : BtI r p offs states states.length x A cost) (hl : (states.length : Int) = 5 + p.waits) : x.shot = 5 := by
  have h1 := h.shot
  have h2 := h.steps
  have h3 := h.wt
  have h4 := h.cnt
  omega
theorem step_wait {r : Rg} {p : Ru} {offs : List Int} {x : FS} {st : Int} (h5 : x.shot < 5) (hc : (choV r p x.shot x.wt.toNat st.toNat x.cl).1.1 = true) : stepF r p offs x st = { x with wt := x.wt - 1, cost := x.cost + p.wait, steps := x.steps + 1 } := by
  unfold stepF
  rw [if_neg (by omega)]
  dsimp only
  rw [if_pos hc]
theorem bt_wait {r : Rg} {p : Ru} {offs states : List Int} (hr : BtR r p offs states) {k : Nat} {x : FS} {A : List Int} {cost : Int} (h : BtI r p offs states k x A cost) (hk : k < states.length) (h5 : x.shot < 5) (hc : (choV r p x.shot x.wt.toNat (states.getD k 0).toNat x.cl).1.1 = true) : 0 < x.wt ∧ BtI r p offs states (k + 1) { x with wt := x.wt - 1, cost := x.cost + p.wait, steps := x.steps + 1 } A (cost + p.wait) := by
  have hw := (cho_wait hc).1
  have h1 := h.wt
  have h2 := hr.rules.wait
  have h3 := hr.wait
  have h4 := h.cost
  have h6 := h.cb
  have h7 := h.steps
  have h8 := h.cnt h5
  refine ⟨by omega, ?_, h.len, h.bd, by simp only; omega, by simp only; omega, h.misses, h.shot, by simp only; omega, h.cl, by simp only; omega, fun _ => by simp only; omega⟩
  rw [take_next hk h.run, step_wait h5 hc]
theorem bt_click {r : Rg} {p : Ru} {offs states : List Int} (hr : BtR r p offs states) {k : Nat} {x : FS} {A : List Int} {cost : Int} (h : BtI r p offs states k x A cost) (hk : k < states.length) (h5 : x.shot < 5) (hst : 0 ≤ states.getD k 0 ∧ states.getD k 0 < r.drifts.length) {c z : Int} (hc : (choV r p x.shot x.wt.toNat (states.getD k 0).toNat x.cl).1 = (false, c)) (hz : z = r.drifts.getD (states.getD k 0).toNat 0 + offs.getD x.shot 0 + c * r.unit) :
    (-r.clicks ≤ c ∧ c ≤ r.clicks) ∧ (-1000 ≤ 5 * z ∧ 5 * z ≤ 1000) ∧ (0 ≤ p.click * max (c - x.cl) (x.cl - c) ∧ p.click * max (c - x.cl) (x.cl - c) ≤ 59 * 6) ∧ ∃ y : FS, BtI r p offs states (k + 1) y (A ++ [5 * z]) (cost + p.click * max (c - x.cl) (x.cl - c)) ∧ y.shot = x.shot + 1 ∧ y.cl = c ∧ y.wt = x.wt ∧ y.steps = x.steps + 1 := by
  have hc1 : (choV r p x.shot x.wt.toNat (states.getD k 0).toNat x.cl).1.1 = false := by rw [hc]
  have hc2 : (choV r p x.shot x.wt.toNat (states.getD k 0).toNat x.cl).1.2 = c := by rw [hc]
  have hcb := cho_click h.cl hc1
  rw [hc2] at hcb
  have hk3 := hr.clk
  have hcl := h.cl
  have hu := hr.right.unit
  have hrad := hr.rad
  have hof := hr.offs x.shot
  have hdr : -120 ≤ r.drifts.getD (states.getD k 0).toNat 0 ∧ r.drifts.getD (states.getD k 0).toNat 0 ≤ 120 := by
    have hl : (states.getD k 0).toNat < r.drifts.length := by omega
    rw [List.getD_eq_getElem?_getD, List.getElem?_eq_getElem hl]
    exact hr.dr _ (List.getElem_mem hl)
  have hcu : -(3 * 20) ≤ c * r.unit ∧ c * r.unit ≤ 3 * 20 := by
    rcases Int.le_total 0 c with h0 | h0
    · have := Int.mul_nonneg h0 (show 0 ≤ r.unit by omega)
      have := Int.mul_le_mul (show c ≤ 3 by omega) hu.2 (by omega) (by omega)
      omega
    · have := Int.mul_nonneg (show 0 ≤ -c by omega) (show 0 ≤ r.unit by omega)
      have := Int.mul_le_mul (show -c ≤ 3 by omega) hu.2 (by omega) (by omega)
      rw [Int.neg_mul] at *
      omega
  have hzb : -1000 ≤ 5 * z ∧ 5 * z ≤ 1000 := by omega
  have hpc := hr.rules.click
  have hpc2 := hr.click
  have hM : 0 ≤ max (c - x.cl) (x.cl - c) ∧ max (c - x.cl) (x.cl - c) ≤ 6 := by omega
  have hcm : 0 ≤ p.click * max (c - x.cl) (x.cl - c) ∧ p.click * max (c - x.cl) (x.cl - c) ≤ 59 * 6 := ⟨Int.mul_nonneg hpc.1 hM.1, Int.mul_le_mul hpc2 hM.2 hM.1 (by omega)⟩
  refine ⟨hcb, hzb, hcm, ?_⟩
  obtain ⟨M, hMe⟩ : ∃ M, M = p.click * max (c - x.cl) (x.cl - c) := ⟨_, rfl⟩
  rw [← hMe] at hcm ⊢
  have hlen := h.len
  have hlast : (A ++ [5 * z]).getD x.shot 0 = 5 * z := by
    rw [← hlen, List.getD_eq_getElem?_getD, List.getElem?_append_right (Nat.le_refl _)]
    simp
  have hcnt : cntA 225 (A ++ [5 * z]) (x.shot + 1) = cntA 225 A x.shot + (if hitA 225 (5 * z) = true then 1 else 0) := by
    simp only [cntA]
    rw [cntA_snoc _ _ _ _ (by omega), hlast]
  have hbd : ∀ a ∈ A ++ [5 * z], -1000 ≤ a ∧ a ≤ 1000 := fun a ha => by
    rcases List.mem_append.1 ha with ha | ha
    · exact h.bd a ha
    · rw [List.mem_singleton.1 ha]; exact hzb
  have h1 := h.wt
  have h4 := h.cost
  have h6 := h.cb
  have h7 := h.steps
  have h8 := h.cnt h5
  have h9 := h.misses
  have hhit : hitB r z = hitA 225 (5 * z) := by
    rw [Bool.eq_iff_iff, hitA_iff]
    unfold hitB
    rw [inB_iff]
    omega
  have hstep : stepF r p offs x (states.getD k 0) = if hitA 225 (5 * z) = true then { x with shot := x.shot + 1, cl := c, cost := x.cost + M, steps := x.steps + 1 } else { x with shot := x.shot + 1, cl := c, misses := x.misses + 1, cost := x.cost + M + p.miss, steps := x.steps + 1 } := by
    unfold stepF
    rw [if_neg (by omega)]
    dsimp only
    rw [if_neg (by rw [hc1]; decide), hc2, ← hz, hhit, ← hMe]
  cases hh : hitA 225 (5 * z) with
  | true =>
    rw [hh, if_pos rfl] at hcnt hstep
    refine ⟨{ x with shot := x.shot + 1, cl := c, cost := x.cost + M, steps := x.steps + 1 }, ⟨by rw [take_next hk h.run, hstep], ?_, hbd, ?_, ?_, ?_, ?_, ?_, ?_, ?_, ?_⟩, rfl, rfl, rfl, rfl⟩
    · simp only [List.length_append, List.length_singleton]; omega
    · simp only; omega
    · simp only; omega
    · simp only [hcnt]; omega
    · simp only; omega
    · simp only; omega
    · simp only; omega
    · simp only; omega
    · intro _; simp only; omega
  | false =>
    rw [hh, if_neg (by decide)] at hcnt hstep
    refine ⟨{ x with shot := x.shot + 1, cl := c, misses := x.misses + 1, cost := x.cost + M + p.miss, steps := x.steps + 1 }, ⟨by rw [take_next hk h.run, hstep], ?_, hbd, ?_, ?_, ?_, ?_, ?_, ?_, ?_, ?_⟩, rfl, rfl, rfl, rfl⟩
    · simp only [List.length_append, List.length_singleton]; omega
    · simp only [Int.mul_add]; omega
    · simp only; omega
    · simp only [hcnt]; omega
    · simp only; omega
    · simp only; omega
    · simp only; omega
    · simp only; omega
    · intro _; simp only; omega
theorem bt_run {r : Rg} {p : Ru} {offs states : List Int} (hr : BtR r p offs states) (hst : ∀ s ∈ states, 0 ≤ s ∧ s < r.drifts.length) : ∀ k, k ≤ states.length → ∃ (k2 : Nat) (x : FS) (A : List Int) (co : Int), BtI r p offs states k2 x A co ∧ (k2 = k ∨ x.shot = 5)
  | 0, _ => ⟨0, _, [], 0, bt_zero hr, .inl rfl⟩
  | k + 1, h => by
    obtain ⟨k2, x, A, co, hi, hk⟩ := bt_run hr hst k (by omega)
    by_cases h5 : x.shot = 5
    · exact ⟨k2, x, A, co, hi, .inr h5⟩
    · obtain rfl : k2 = k := hk.resolve_right h5
      have hs5 := hi.shot
      have hkl : k2 < states.length := by omega
      have hs := hst _ (List.getElem_mem hkl)
      have hg : states.getD k2 0 = states[k2] := by rw [List.getD_eq_getElem?_getD, List.getElem?_eq_getElem hkl]; rfl
      rcases hc : (choV r p x.shot x.wt.toNat (states.getD k2 0).toNat x.cl).1 with ⟨b, c⟩
      cases b with
      | true => exact ⟨k2 + 1, _, _, _, (bt_wait hr hi hkl (by omega) (by rw [hc])).2, .inl rfl⟩
      | false =>
        obtain ⟨_, _, _, y, hy, _⟩ := bt_click hr hi hkl (by omega) (by rw [hg]; exact hs) hc rfl
        exact ⟨k2 + 1, y, _, _, hy, .inl rfl⟩
/-- All shots are taken. -/
theorem bt_five {r : Rg} {p : Ru} {offs states : List Int} (hr : BtR r p offs states) (hst : ∀ s ∈ states, 0 ≤ s ∧ s < r.drifts.length) (hl : (states.length : Int) = 5 + p.waits) : (endF r p states offs).shot = 5 := by
  obtain ⟨k, x, A, co, hi, hk⟩ := bt_run hr hst states.length (Nat.le_refl _)
  have h5 : x.shot = 5 := by
    rcases hk with rfl | hk
    · exact bt_all hi hl
    · exact hk
  rw [bt_end hi h5]
  exact h5
end Go.Proofs.Ytgmmmkmekbiboab

/- Walks: blowing (TopBout), after Made of the wind chapter. Printed by a program out of wind/D7. -/
namespace Go.Proofs.Ytgmmmkmekbiboab
open Go Go.Eng
structure BlwR (r : Rg) : Prop where
  right : r.Right
  small : r.Small
  rad : r.radius = 45
  clk : r.clicks ≤ 3
  grp : r.group = [1, 2, 4, 2, 1]
  dr : ∀ x ∈ r.drifts, -120 ≤ x ∧ x ≤ 120
  dn : r.drifts.length ≤ 3
structure BlwP (p : Ru) : Prop where
  miss : 0 ≤ p.miss ∧ p.miss ≤ 390
  click : 0 ≤ p.click ∧ p.click ≤ 59
  wait : 0 ≤ p.wait ∧ p.wait ≤ 59
  waits : 0 ≤ p.waits ∧ p.waits ≤ 2
def tX1_2f99557 : OT := chainT [1, 2, 4, 5, 6, 7, 8, 9, 0, 11, 3, 10, 12] (.nil)
set_option maxHeartbeats 8000000 in
set_option maxRecDepth 20000 in
theorem blowing_ca (K : Nat) (hK : K < 100000) (w : World) (b lo hi : Nat) (bs : Value) (hby : DkB w lo hi bs) (hlh : hi ≤ b) (hd : DkS w b bs K) :
    Ca Try.prog 5 [.pointer (some ⟨b, 0, none⟩)] w fun v w' => ∃ x : List Ck × List Value × Rg × Ru, (v = .tuple #[.agg x.2.1.toArray, .agg #[.int .i64 x.2.2.2.miss, .int .i64 x.2.2.2.click, .int .i64 x.2.2.2.wait, .int .i64 x.2.2.2.waits]] ∧ OwnR x.1 x.2.1 x.2.2.1 ∧ BlwR x.2.2.1 ∧ BlwP x.2.2.2) ∧ Sat w (fun x => x = b) [un x.1, dkP bs b (K + 100)] w' := by
  refine q_of (dk_sat hd) Try.func5 rfl (by simp [Try.ntmps5]) ?_
  (refine q_seq (q_region ?_))
  refine ql_alloc zero28 rfl (fun b2 => ?_)
  skip
  refine ql_alloc zero30 rfl (fun b3 => ?_)
  (refine q_nil (q_seq (q_region (ql_pure tabOk rfl rfl ?_))))
  refine ql_call (β := Int) (ψ := fun zq v => v = .int .i64 zq ∧ 5 ≤ zq ∧ zq ≤ 20) (L' := fun _ => [dkP bs b (K + 1)]) tabOk [dkP bs b (K)] _ (fun x => x = b) rfl rfl rfl rfl (Sp.cons (by repeat constructor) (Sp.refl _)) (fun x hx => ⟨_, .head _, hx⟩) (fun w' hs => between_ca (5) (20) (by omega) (by omega) (by omega) (K) (by omega) w' b lo hi bs (hby.keepP hlh hs.chg) hlh (hs.all _ (.head _))) ?_; rintro unt _ ⟨rfl, hunt⟩
  (refine ql_pure tabOk rfl rfl ?_)
  refine ql_call (β := Int) (ψ := fun zq v => v = .int .i64 zq ∧ 0 ≤ zq ∧ (zq < 4 ∨ zq = 0)) (L' := fun _ => [dkP bs b (K + 1 + 1)]) tabOk [dkP bs b (K + 1)] _ (fun x => x = b) rfl rfl rfl rfl (Sp.cons (by repeat constructor) (Sp.refl _)) (fun x hx => ⟨_, .head _, hx⟩) (fun w' hs => drawP_ca (4) (K + 1) (by omega) w' b lo hi bs (hby.keepP hlh hs.chg) hlh (hs.all _ (.head _))) ?_; rintro clk _ ⟨rfl, hclk⟩
  (refine ql_pure tabOk rfl rfl ?_)
  refine ql_call (β := Int) (ψ := fun zq v => v = .int .i64 zq ∧ 1 ≤ zq ∧ zq ≤ 5) (L' := fun _ => [dkP bs b (K + 1 + 1 + 1)]) tabOk [dkP bs b (K + 1 + 1)] _ (fun x => x = b) rfl rfl rfl rfl (Sp.cons (by repeat constructor) (Sp.refl _)) (fun x hx => ⟨_, .head _, hx⟩) (fun w' hs => between_ca (1) (5) (by omega) (by omega) (by omega) (K + 1 + 1) (by omega) w' b lo hi bs (hby.keepP hlh hs.chg) hlh (hs.all _ (.head _))) ?_; rintro tot _ ⟨rfl, htot⟩
  skip
  refine ql_mkS 3 (ints [1, 2, 4, 2, 1]) rfl (by kernel_rfl) rfl (fun bg => ?_)
  skip
  refine ql_mk #[.int .i64 45, .int .i64 unt, .int .i64 clk, .int .i64 tot, .slice (some ⟨bg, 0, none⟩) 5 5, .slice none 0 0, .slice none 0 0, .slice none 0 0] rfl (by kernel_rfl) rfl ?_
  skip
  refine ql_alloc zero28 rfl (fun b4 => ?_)
  (refine ql_setA tabOk rfl rfl rfl rfl rfl (by repeat constructor) rfl ?_; refine q_nil (q_seq (q_seq (q_region (ql_pure tabOk rfl rfl ?_)))))
  refine ql_call (β := Int) (ψ := fun x v => v = .int .i64 x ∧ 1 ≤ x ∧ x ≤ 3) (L' := fun _ => [dkP bs b (K + 4)]) tabOk [dkP bs b (K + 3)] _ (fun x => x = b) rfl rfl rfl rfl (Sp.cons (by repeat constructor) (Sp.refl _)) (fun x hx => ⟨_, .head _, hx⟩) (fun w' hs => between_ca 1 3 (by omega) (by omega) (by omega) (K + 3) (by omega) w' b lo hi bs (hby.keepP hlh hs.chg) hlh (hs.all _ (.head _))) ?_
  rintro dn _ ⟨rfl, hdn⟩
  obtain ⟨dn, rfl⟩ := Int.eq_ofNat_of_zero_le (show 0 ≤ dn by omega)
  (refine ql_pure tabOk rfl rfl (q_nil (q_block ?_)))
  refine q_conv (H' := [.ow (.slice none 0 0) 3 1 0 (ints []), dkP bs b (K + 4 + 0), madeB b4 45 unt clk tot (.slice (some ⟨bg, 0, none⟩) 5 5) (.slice none 0 0) (.slice none 0 0) (.slice none 0 0), .pt bg (ints [1, 2, 4, 2, 1]) 3, .pt b2 [.int .i64 0, .int .i64 0, .int .i64 0, .int .i64 0, .slice none 0 0, .slice none 0 0, .slice none 0 0, .slice none 0 0] 28, .pt b3 [.int .i64 0, .int .i64 0, .int .i64 0, .int .i64 0] 30]) (fun w' hs => Sat.ownil (hs.sp (by repeat constructor)) _ _) ?_
  refine q_loop (σ := Nat × Value × List Int) (fun s => s.1 ≤ dn ∧ s.2.2.length = s.1 ∧ ∀ y ∈ s.2.2, -120 ≤ y ∧ y ≤ 120) (fun s => dn - s.1) (fun s => [(0, .pointer (some ⟨b, 0, none⟩)), (2, .pointer (some ⟨b2, 0, none⟩)), (3, .pointer (some ⟨b3, 0, none⟩)), (4, .pointer (some ⟨b4, 0, none⟩)), (14, .int .i64 dn), (15, .int .i64 s.1)])
    (fun s => [.ow s.2.1 3 1 s.1 (ints s.2.2), dkP bs b (K + 4 + s.1), madeB b4 45 unt clk tot (.slice (some ⟨bg, 0, none⟩) 5 5) s.2.1 (.slice none 0 0) (.slice none 0 0), .pt bg (ints [1, 2, 4, 2, 1]) 3, .pt b2 [.int .i64 0, .int .i64 0, .int .i64 0, .int .i64 0, .slice none 0 0, .slice none 0 0, .slice none 0 0, .slice none 0 0] 28, .pt b3 [.int .i64 0, .int .i64 0, .int .i64 0, .int .i64 0] 30]) (0, .slice none 0 0, []) ⟨by omega, rfl, by simp⟩ ⟨rfl, rfl, rfl, rfl, rfl, rfl, trivial⟩ (Sp.refl _) ?_
  rintro ⟨d, dv, dl⟩ ⟨hd', hdl, hdb⟩ K2 hK2
  simp only at hd' hdl hdb
  dsimp only
  (refine q_seq (q_region (ql_pure tabOk rfl rfl (q_nil (q_seq ?_)))))
  refine q_if rfl (fun hc => ?_) (fun hc => ?_)
  · have hd2 : d < dn := by omega
    clear hc
    (refine q_skip (q_seq (q_block ?_)))
    refine q_drawS2 5 _ [dkP bs b (K + 4 + d)] [.pt bg (ints [1, 2, 4, 2, 1]) 3, .pt b2 [.int .i64 0, .int .i64 0, .int .i64 0, .int .i64 0, .slice none 0 0, .slice none 0 0, .slice none 0 0, .slice none 0 0] 28, .pt b3 [.int .i64 0, .int .i64 0, .int .i64 0, .int .i64 0] 30] [madeB b4 45 unt clk tot (.slice (some ⟨bg, 0, none⟩) 5 5) dv (.slice none 0 0) (.slice none 0 0), .ow dv 3 1 d (ints dl)] (Sp.cons (by repeat constructor) (Sp.refl _)) (Sp.cons (by repeat constructor) (Sp.cons (by repeat constructor) (by repeat constructor))) (by kernel_rfl) (by kernel_rfl) (by kernel_rfl) fun K1 hK1 => ?_
    (refine qf_pure tabOk rfl rfl rfl ?_; refine qf_loadBa tabOk rfl rfl rfl ?_; refine qf_pure tabOk rfl rfl rfl ?_)
    refine qf_call (β := Int) (ψ := fun x v => v = .int .i64 x ∧ -120 ≤ x ∧ x ≤ 120) (L' := fun _ => [dkP bs b (K + 4 + d + 1)]) tabOk [dkP bs b (K + 4 + d)] _ (fun x => x = b) rfl rfl rfl rfl (Sp.cons (by repeat constructor) (Sp.refl _)) (fun x hx => ⟨_, .head _, hx⟩) (fun w' hs => between_ca (-120) 120 (by omega) (by omega) (by omega) (K + 4 + d) (by omega) w' b lo hi bs (hby.keepP hlh hs.chg) hlh (hs.all _ (.head _))) ?_
    rintro y _ ⟨rfl, hy⟩
    skip
    refine qf_mkS 3 [.int .i64 y] rfl (by kernel_rfl) rfl (fun bn => ?_)
    (refine qf_nil ?_)
    refine hK1 _ _ [.pt bn [.int .i64 y] 3, dkP bs b (K + 4 + d + 1), madeB b4 45 unt clk tot (.slice (some ⟨bg, 0, none⟩) 5 5) dv (.slice none 0 0) (.slice none 0 0), .ow dv 3 1 d (ints dl)] (Sp.cons (by repeat constructor) (Sp.cons (by repeat constructor) (Sp.cons (by repeat constructor) (Sp.cons (by repeat constructor) (by repeat constructor))))) ?_
    refine qf_append (q := 1) slI rfl rfl rfl (fun v' => by repeat constructor) (fun w' hs => ⟨_, _, Blk.rd (hs.blk (b := bn) (by repeat constructor)) rfl 1⟩) (by simp [oneV]) (by omega) (by omega) (fun va' => ?_)
    refine qf_fact (fun w hs => hs.slice (v := va') (by repeat constructor)) ?_
    rintro ⟨a1, m1, c1, rfl⟩
    (refine qf_pure tabOk rfl rfl rfl ?_; refine qf_st5 tabOk rfl rfl rfl rfl (by repeat constructor) ?_; refine qf_nil (q_blk (q_region (ql_ar tabOk rfl rfl rfl rfl (by omega) (by omega) (ql_pure tabOk rfl rfl (q_nil ?_))))))
    have e1 : ints (dl ++ [y]) = ints dl ++ [.int .i64 y] := by simp [ints]
    refine hK2 (d + 1, .slice a1 m1 c1, dl ++ [y]) _ _ ⟨by simp only; omega, by simp [hdl], fun z hz => ?_⟩ (by simp only; omega) ⟨rfl, rfl, rfl, rfl, rfl, rfl, trivial⟩ (by rw [e1]; repeat constructor)
    rcases List.mem_append.1 hz with hz | hz
    · exact hdb z hz
    · rw [List.mem_singleton.1 hz]; omega
  obtain rfl : d = dn := by omega
  clear hc
  refine q_fact (fun w hs => hs.ownSome (v := dv) (by repeat constructor) (by omega)) ?_
  rintro ⟨db, dc, rfl⟩
  obtain ⟨T, rfl⟩ := Int.eq_ofNat_of_zero_le (show 0 ≤ tot by omega)
  (refine q_exit _ rfl (q_seq (q_region (ql_pure tabOk rfl rfl (ql_pure tabOk rfl rfl ?_)))); refine ql_loadBa tabOk rfl rfl rfl ?_; refine ql_pure tabOk rfl rfl (ql_pure tabOk rfl rfl ?_); refine ql_loadBa tabOk rfl rfl rfl ?_)
  refine ql_call (β := Nat × List Int) (ψ := fun x v => v = .slice (some ⟨x.1, 0, none⟩) d d ∧ x.2.length = d ∧ (∀ y ∈ x.2, 0 ≤ y) ∧ x.2.sum = T) (L' := fun x => [.pt x.1 (ints x.2) 3, dkP bs b (K + 4 + d + T)]) tabOk [dkP bs b (K + 4 + d)] _ (fun x => x = b) rfl rfl rfl rfl (Sp.cons (by repeat constructor) (Sp.refl _)) (fun x hx => ⟨_, .head _, hx⟩) (fun w' hs => shared_ca d T (by omega) (by omega) (by omega) (K + 4 + d) (by omega) w' b lo hi bs (hby.keepP hlh hs.chg) hlh (hs.all _ (.head _))) ?_
  rintro ⟨fb, fl⟩ _ ⟨rfl, hfl, hfn, hfs⟩
  simp only at hfl hfn hfs
  (refine ql_pure tabOk rfl rfl ?_; refine ql_st6 tabOk rfl rfl rfl rfl (by repeat constructor) ?_; refine q_nil (q_seq (q_seq (q_region (ql_pure tabOk rfl rfl ?_)))); refine ql_loadBa tabOk rfl rfl rfl ?_; refine ql_pure tabOk rfl rfl (ql_pure tabOk rfl rfl (q_nil (q_block ?_))))
  refine q_conv (H' := [un (rowsK []), .ow (.slice none 0 0) 25 1 0 (rowsV []), dkP bs b (K + 40 + 6 * 0), madeB b4 45 unt clk T (.slice (some ⟨bg, 0, none⟩) 5 5) (.slice (some ⟨db, 0, none⟩) d dc) (.slice (some ⟨fb, 0, none⟩) d d) (.slice none 0 0), .pt fb (ints fl) 3, .ow (.slice (some ⟨db, 0, none⟩) d dc) 3 1 d (ints dl), .pt bg (ints [1, 2, 4, 2, 1]) 3, .pt b2 [.int .i64 0, .int .i64 0, .int .i64 0, .int .i64 0, .slice none 0 0, .slice none 0 0, .slice none 0 0, .slice none 0 0] 28, .pt b3 [.int .i64 0, .int .i64 0, .int .i64 0, .int .i64 0] 30]) (fun w' hs => by
    have h1 : Sat w (fun x => x = b) (dkP bs b (K + 4 + d + T) :: [madeB b4 45 unt clk T (.slice (some ⟨bg, 0, none⟩) 5 5) (.slice (some ⟨db, 0, none⟩) d dc) (.slice (some ⟨fb, 0, none⟩) d d) (.slice none 0 0), .pt fb (ints fl) 3, .ow (.slice (some ⟨db, 0, none⟩) d dc) 3 1 d (ints dl), .pt bg (ints [1, 2, 4, 2, 1]) 3, .pt b2 [.int .i64 0, .int .i64 0, .int .i64 0, .int .i64 0, .slice none 0 0, .slice none 0 0, .slice none 0 0, .slice none 0 0] 28, .pt b3 [.int .i64 0, .int .i64 0, .int .i64 0, .int .i64 0] 30]) w' := hs.sp (by repeat constructor)
    exact Sat.un_nil (Sat.ownil (Sat.dk h1 (by omega)) _ _)) ?_
  refine q_loop (σ := Nat × Value × List (Nat × List Int)) (fun s => s.1 ≤ d ∧ s.2.2.length = s.1 ∧ ∀ y ∈ s.2.2, y.2.length = d ∧ (∀ z ∈ y.2, 0 ≤ z) ∧ y.2.sum = T) (fun s => d - s.1) (fun s => [(0, .pointer (some ⟨b, 0, none⟩)), (2, .pointer (some ⟨b2, 0, none⟩)), (3, .pointer (some ⟨b3, 0, none⟩)), (4, .pointer (some ⟨b4, 0, none⟩)), (35, .int .i64 d), (36, .int .i64 s.1)])
    (fun s => [un (rowsK s.2.2), .ow s.2.1 25 1 s.1 (rowsV s.2.2), dkP bs b (K + 40 + 6 * s.1), madeB b4 45 unt clk T (.slice (some ⟨bg, 0, none⟩) 5 5) (.slice (some ⟨db, 0, none⟩) d dc) (.slice (some ⟨fb, 0, none⟩) d d) s.2.1, .pt fb (ints fl) 3, .ow (.slice (some ⟨db, 0, none⟩) d dc) 3 1 d (ints dl), .pt bg (ints [1, 2, 4, 2, 1]) 3, .pt b2 [.int .i64 0, .int .i64 0, .int .i64 0, .int .i64 0, .slice none 0 0, .slice none 0 0, .slice none 0 0, .slice none 0 0] 28, .pt b3 [.int .i64 0, .int .i64 0, .int .i64 0, .int .i64 0] 30]) (0, .slice none 0 0, []) ⟨by omega, rfl, by simp⟩ ⟨rfl, rfl, rfl, rfl, rfl, rfl, trivial⟩ (Sp.refl _) ?_
  rintro ⟨m, nv, xs⟩ ⟨hm, hxl, hxb⟩ K2 hK2
  simp only at hm hxl hxb
  dsimp only
  (refine q_seq (q_region (ql_pure tabOk rfl rfl (q_nil (q_seq ?_)))))
  refine q_if rfl (fun hc => ?_) (fun hc => ?_)
  · have hm2 : m < d := by omega
    clear hc
    (refine q_skip (q_seq (q_block ?_)))
    refine q_drawS2 10 _ [dkP bs b (K + 40 + 6 * m)] [un (rowsK xs), .pt fb (ints fl) 3, .ow (.slice (some ⟨db, 0, none⟩) d dc) 3 1 d (ints dl), .pt bg (ints [1, 2, 4, 2, 1]) 3, .pt b2 [.int .i64 0, .int .i64 0, .int .i64 0, .int .i64 0, .slice none 0 0, .slice none 0 0, .slice none 0 0, .slice none 0 0] 28, .pt b3 [.int .i64 0, .int .i64 0, .int .i64 0, .int .i64 0] 30] [madeB b4 45 unt clk T (.slice (some ⟨bg, 0, none⟩) 5 5) (.slice (some ⟨db, 0, none⟩) d dc) (.slice (some ⟨fb, 0, none⟩) d d) nv, .ow nv 25 1 m (rowsV xs)] (Sp.cons (by repeat constructor) (Sp.refl _)) (Sp.cons (by repeat constructor) (Sp.cons (by repeat constructor) (by repeat constructor))) (by kernel_rfl) (by kernel_rfl) (by kernel_rfl) fun K1 hK1 => ?_
    (refine qf_pure tabOk rfl rfl rfl ?_; refine qf_loadBa tabOk rfl rfl rfl ?_; refine qf_pure tabOk rfl rfl rfl (qf_pure tabOk rfl rfl rfl ?_); refine qf_loadBa tabOk rfl rfl rfl ?_; refine qf_pure tabOk rfl rfl rfl (qf_pure tabOk rfl rfl rfl ?_); refine qf_loadBa tabOk rfl rfl rfl ?_)
    refine qf_call (β := Nat × List Int) (ψ := fun x v => v = .slice (some ⟨x.1, 0, none⟩) d d ∧ x.2.length = d ∧ (∀ y ∈ x.2, 0 ≤ y) ∧ x.2.sum = T) (L' := fun x => [.pt x.1 (ints x.2) 3, dkP bs b (K + 40 + 6 * m + T)]) tabOk [dkP bs b (K + 40 + 6 * m)] _ (fun x => x = b) rfl rfl rfl rfl (Sp.cons (by repeat constructor) (Sp.refl _)) (fun x hx => ⟨_, .head _, hx⟩) (fun w' hs => shared_ca d T (by omega) (by omega) (by omega) (K + 40 + 6 * m) (by omega) w' b lo hi bs (hby.keepP hlh hs.chg) hlh (hs.all _ (.head _))) ?_
    rintro ⟨x, rl⟩ _ ⟨rfl, hrl, hrn, hrs⟩
    simp only at hrl hrn hrs
    skip
    refine qf_mkS 25 [.slice (some ⟨x, 0, none⟩) d d] rfl (by kernel_rfl) rfl (fun bn => ?_)
    (refine qf_nil ?_)
    refine hK1 _ _ [.pt bn [.slice (some ⟨x, 0, none⟩) d d] 25, .pt x (ints rl) 3, dkP bs b (K + 40 + 6 * m + T), madeB b4 45 unt clk T (.slice (some ⟨bg, 0, none⟩) 5 5) (.slice (some ⟨db, 0, none⟩) d dc) (.slice (some ⟨fb, 0, none⟩) d d) nv, .ow nv 25 1 m (rowsV xs)] (Sp.cons (by repeat constructor) (Sp.cons (by repeat constructor) (Sp.cons (by repeat constructor) (Sp.cons (by repeat constructor) (Sp.cons (by repeat constructor) (by repeat constructor)))))) ?_
    refine qf_append (q := 1) slII rfl rfl rfl (fun v' => by repeat constructor) (fun w' hs => ⟨_, _, Blk.rd (hs.blk (b := bn) (by repeat constructor)) rfl 1⟩) (by simp [oneV]) (by omega) (by omega) (fun va' => ?_)
    refine qf_fact (fun w hs => hs.slice (v := va') (by repeat constructor)) ?_
    rintro ⟨a1, m1, c1, rfl⟩
    (refine qf_pure tabOk rfl rfl rfl ?_; refine qf_st7 tabOk rfl rfl rfl rfl (by repeat constructor) ?_; refine qf_nil (q_blk (q_region (ql_ar tabOk rfl rfl rfl rfl (by omega) (by omega) (ql_pure tabOk rfl rfl (q_nil ?_))))))
    have e1 : rowsV (xs ++ [(x, rl)]) = rowsV xs ++ [.slice (some ⟨x, 0, none⟩) d d] := by simp [rowsV, hrl]
    have e2 : rowsK (xs ++ [(x, rl)]) = rowsK xs ++ [.pt x (ints rl) 3] := by simp [rowsK]
    refine q_conv (H' := [un (rowsK (xs ++ [(x, rl)])), .ow (.slice a1 m1 c1) 25 1 (m + 1) (rowsV (xs ++ [(x, rl)])), dkP bs b (K + 40 + 6 * (m + 1)), madeB b4 45 unt clk T (.slice (some ⟨bg, 0, none⟩) 5 5) (.slice (some ⟨db, 0, none⟩) d dc) (.slice (some ⟨fb, 0, none⟩) d d) (.slice a1 m1 c1), .pt fb (ints fl) 3, .ow (.slice (some ⟨db, 0, none⟩) d dc) 3 1 d (ints dl), .pt bg (ints [1, 2, 4, 2, 1]) 3, .pt b2 [.int .i64 0, .int .i64 0, .int .i64 0, .int .i64 0, .slice none 0 0, .slice none 0 0, .slice none 0 0, .slice none 0 0] 28, .pt b3 [.int .i64 0, .int .i64 0, .int .i64 0, .int .i64 0] 30]) (fun w' hs => by
      rw [e1, e2]
      have h1 : Sat w (fun x => x = b) (dkP bs b (K + 40 + 6 * m + T) :: .pt x (ints rl) 3 :: un (rowsK xs) :: [.ow (.slice a1 m1 c1) 25 1 (m + 1) (rowsV xs ++ [.slice (some ⟨x, 0, none⟩) d d]), madeB b4 45 unt clk T (.slice (some ⟨bg, 0, none⟩) 5 5) (.slice (some ⟨db, 0, none⟩) d dc) (.slice (some ⟨fb, 0, none⟩) d d) (.slice a1 m1 c1), .pt fb (ints fl) 3, .ow (.slice (some ⟨db, 0, none⟩) d dc) 3 1 d (ints dl), .pt bg (ints [1, 2, 4, 2, 1]) 3, .pt b2 [.int .i64 0, .int .i64 0, .int .i64 0, .int .i64 0, .slice none 0 0, .slice none 0 0, .slice none 0 0, .slice none 0 0] 28, .pt b3 [.int .i64 0, .int .i64 0, .int .i64 0, .int .i64 0] 30]) w' := hs.sp (by repeat constructor)
      have h2 := Sat.dk h1 (K' := K + 40 + 6 * (m + 1)) (by omega)
      have h3 : Sat w (fun x => x = b) (.pt x (ints rl) 3 :: un (rowsK xs) :: [.ow (.slice a1 m1 c1) 25 1 (m + 1) (rowsV xs ++ [.slice (some ⟨x, 0, none⟩) d d]), dkP bs b (K + 40 + 6 * (m + 1)), madeB b4 45 unt clk T (.slice (some ⟨bg, 0, none⟩) 5 5) (.slice (some ⟨db, 0, none⟩) d dc) (.slice (some ⟨fb, 0, none⟩) d d) (.slice a1 m1 c1), .pt fb (ints fl) 3, .ow (.slice (some ⟨db, 0, none⟩) d dc) 3 1 d (ints dl), .pt bg (ints [1, 2, 4, 2, 1]) 3, .pt b2 [.int .i64 0, .int .i64 0, .int .i64 0, .int .i64 0, .slice none 0 0, .slice none 0 0, .slice none 0 0, .slice none 0 0] 28, .pt b3 [.int .i64 0, .int .i64 0, .int .i64 0, .int .i64 0] 30]) w' := h2.sp (by repeat constructor)
      exact h3.un_in.un_perm (List.perm_append_singleton _ _).symm) ?_
    refine hK2 (m + 1, .slice a1 m1 c1, xs ++ [(x, rl)]) _ _ ⟨by simp only; omega, by simp [hxl], fun z hz => ?_⟩ (by simp only; omega) ⟨rfl, rfl, rfl, rfl, rfl, rfl, trivial⟩ (Sp.refl _)
    rcases List.mem_append.1 hz with hz | hz
    · exact hxb z hz
    · rw [List.mem_singleton.1 hz]; exact ⟨hrl, hrn, hrs⟩
  obtain rfl : m = d := by omega
  clear hc
  refine q_fact (fun w hs => hs.ownSome (v := nv) (by repeat constructor) (by omega)) ?_
  rintro ⟨nb, nc, rfl⟩
  (refine q_exit _ rfl (q_seq ?_))
  refine q_cut (σ := { y : Int × Int × Int × Int // (0 ≤ y.1 ∧ y.1 ≤ 39) ∧ (0 ≤ y.2.1 ∧ y.2.1 ≤ 59) ∧ (0 ≤ y.2.2.1 ∧ y.2.2.1 ≤ 59) ∧ 0 ≤ y.2.2.2 ∧ y.2.2.2 ≤ 2 }) (fun y => [(2, .pointer (some ⟨b2, 0, none⟩)), (3, .pointer (some ⟨b3, 0, none⟩))]) (fun y => [.pt b2 [.int .i64 45, .int .i64 unt, .int .i64 clk, .int .i64 T, (.slice (some ⟨bg, 0, none⟩) 5 5), (.slice (some ⟨db, 0, none⟩) m dc), (.slice (some ⟨fb, 0, none⟩) m m), (.slice (some ⟨nb, 0, none⟩) m nc)] 28, .pt b3 [.int .i64 (10 * y.1.1), .int .i64 y.1.2.1, .int .i64 y.1.2.2.1, .int .i64 y.1.2.2.2] 30, un (rowsK xs), .ow (.slice (some ⟨nb, 0, none⟩) m nc) 25 1 m (rowsV xs), .pt fb (ints fl) 3, .ow (.slice (some ⟨db, 0, none⟩) m dc) 3 1 m (ints dl), .pt bg (ints [1, 2, 4, 2, 1]) 3, dkP bs b (K + 40 + 6 * m + 1 + 1 + 1 + 1), madeB b4 45 unt clk T (.slice (some ⟨bg, 0, none⟩) 5 5) (.slice (some ⟨db, 0, none⟩) m dc) (.slice (some ⟨fb, 0, none⟩) m m) (.slice (some ⟨nb, 0, none⟩) m nc)]) ?_ ?_
  rotate_left
  · intro K2 hK2
    refine q_drawT (tX1_2f99557) _ [dkP bs b (K + 40 + 6 * m), .pt b2 [.int .i64 0, .int .i64 0, .int .i64 0, .int .i64 0, .slice none 0 0, .slice none 0 0, .slice none 0 0, .slice none 0 0] 28, .pt b3 [.int .i64 0, .int .i64 0, .int .i64 0, .int .i64 0] 30] (Sp.cons (by repeat constructor) (Sp.cons (by repeat constructor) (Sp.cons (by repeat constructor) (Sp.refl _)))) (by kernel_rfl) (by kernel_rfl) ?_
    refine qt_seg (by repeat (first | exact PickL.nil | (apply PickL.cons; rfl))) fun K1 hK1 => ?_
    (refine qf_pure tabOk rfl rfl rfl ?_)
    refine qf_call (β := Int) (ψ := fun zq v => v = .int .i64 zq ∧ 0 ≤ zq ∧ (zq < 40 ∨ zq = 0)) (L' := fun _ => [dkP bs b (K + 40 + 6 * m + 1)]) tabOk [dkP bs b (K + 40 + 6 * m)] _ (fun x => x = b) rfl rfl rfl rfl (Sp.cons (by repeat constructor) (Sp.refl _)) (fun x hx => ⟨_, .head _, hx⟩) (fun w' hs => drawP_ca (40) (K + 40 + 6 * m) (by omega) w' b lo hi bs (hby.keepP hlh hs.chg) hlh (hs.all _ (.head _))) ?_; rintro ms _ ⟨rfl, hms⟩
    (refine qf_pure tabOk rfl rfl rfl ?_)
    refine qf_call (β := Int) (ψ := fun zq v => v = .int .i64 zq ∧ 0 ≤ zq ∧ (zq < 60 ∨ zq = 0)) (L' := fun _ => [dkP bs b (K + 40 + 6 * m + 1 + 1)]) tabOk [dkP bs b (K + 40 + 6 * m + 1)] _ (fun x => x = b) rfl rfl rfl rfl (Sp.cons (by repeat constructor) (Sp.refl _)) (fun x hx => ⟨_, .head _, hx⟩) (fun w' hs => drawP_ca (60) (K + 40 + 6 * m + 1) (by omega) w' b lo hi bs (hby.keepP hlh hs.chg) hlh (hs.all _ (.head _))) ?_; rintro cl _ ⟨rfl, hcl⟩
    (refine qf_pure tabOk rfl rfl rfl ?_)
    refine qf_call (β := Int) (ψ := fun zq v => v = .int .i64 zq ∧ 0 ≤ zq ∧ (zq < 60 ∨ zq = 0)) (L' := fun _ => [dkP bs b (K + 40 + 6 * m + 1 + 1 + 1)]) tabOk [dkP bs b (K + 40 + 6 * m + 1 + 1)] _ (fun x => x = b) rfl rfl rfl rfl (Sp.cons (by repeat constructor) (Sp.refl _)) (fun x hx => ⟨_, .head _, hx⟩) (fun w' hs => drawP_ca (60) (K + 40 + 6 * m + 1 + 1) (by omega) w' b lo hi bs (hby.keepP hlh hs.chg) hlh (hs.all _ (.head _))) ?_; rintro wa _ ⟨rfl, hwa⟩
    (refine qf_pure tabOk rfl rfl rfl ?_)
    refine qf_call (β := Int) (ψ := fun zq v => v = .int .i64 zq ∧ 0 ≤ zq ∧ (zq < 3 ∨ zq = 0)) (L' := fun _ => [dkP bs b (K + 40 + 6 * m + 1 + 1 + 1 + 1)]) tabOk [dkP bs b (K + 40 + 6 * m + 1 + 1 + 1)] _ (fun x => x = b) rfl rfl rfl rfl (Sp.cons (by repeat constructor) (Sp.refl _)) (fun x hx => ⟨_, .head _, hx⟩) (fun w' hs => drawP_ca (3) (K + 40 + 6 * m + 1 + 1 + 1) (by omega) w' b lo hi bs (hby.keepP hlh hs.chg) hlh (hs.all _ (.head _))) ?_; rintro ws _ ⟨rfl, hws⟩
    (refine qf_loadABa tabOk rfl rfl rfl ?_; refine qf_setA tabOk rfl rfl rfl rfl rfl (by repeat constructor) rfl ?_; refine qf_ar tabOk rfl rfl rfl rfl (by omega) (by omega) ?_)
    skip
    skip
    refine qf_mk #[.int .i64 (10 * ms), .int .i64 cl, .int .i64 wa, .int .i64 ws] rfl (by kernel_rfl) rfl ?_
    (refine qf_setA tabOk rfl rfl rfl rfl rfl (by repeat constructor) rfl ?_; refine qf_nil ?_)
    skip
    exact hK1 _ _ (qt_nil (hK2 ⟨(ms, cl, wa, ws), by dsimp only; omega⟩ _ _ ⟨rfl, rfl, trivial⟩ (by repeat constructor)))
  rintro ⟨⟨ms, cl, wa, ws⟩, hms, hcl, hwa, hws⟩
  dsimp only at hms hcl hwa hws ⊢
  (refine q_ret ?_)
  refine q_fin tabOk rfl (by repeat constructor) fun w hs => ?_
  have hdl' : dl.length = m := hdl
  have hms2 : ∀ (q : List Int), (∀ y ∈ q, 0 ≤ y) → q.sum = (T : Int) → ∀ y ∈ q, 0 ≤ y ∧ y ≤ (T : Int) := fun q h1 h2 y hy => ⟨h1 y hy, by have := le_sum q h1 y hy; omega⟩
  have hmm : ∀ q ∈ xs.map (·.2), q.length = m ∧ (∀ z ∈ q, 0 ≤ z) ∧ q.sum = (T : Int) := fun q hq => by
    obtain ⟨y, hy, rfl⟩ := List.mem_map.1 hq
    exact hxb y hy
  refine ⟨([un (rowsK xs), .ow (.slice (some ⟨nb, 0, none⟩) m nc) 25 1 m (rowsV xs), .pt fb (ints fl) 3, .ow (.slice (some ⟨db, 0, none⟩) m dc) 3 1 m (ints dl), .pt bg (ints [1, 2, 4, 2, 1]) 3], [.int .i64 45, .int .i64 unt, .int .i64 clk, .int .i64 T, (.slice (some ⟨bg, 0, none⟩) 5 5), (.slice (some ⟨db, 0, none⟩) m dc), (.slice (some ⟨fb, 0, none⟩) m m), (.slice (some ⟨nb, 0, none⟩) m nc)], ⟨45, unt, clk, T, [1, 2, 4, 2, 1], dl, fl, xs.map (·.2)⟩, ⟨10 * ms, cl, wa, ws⟩), ⟨rfl, ?_, ?_, ?_⟩, ?_⟩
  · intro w' h
    have g1 := h _ (.head _)
    have g2 := h _ (.tail _ (.head _))
    have g3 := h _ (.tail _ (.tail _ (.head _)))
    have g4 := h _ (.tail _ (.tail _ (.tail _ (.head _))))
    have g5 := h _ (.tail _ (.tail _ (.tail _ (.tail _ (.head _)))))
    refine ⟨0, w'.heap.size, some ⟨bg, 0, none⟩, 5, some ⟨db, 0, none⟩, dc, some ⟨fb, 0, none⟩, m, some ⟨nb, 0, none⟩, nc, ?_, ?_, ?_, ?_, ?_⟩
    · simp only [hdl', hfl, List.length_map, hxl]
      rfl
    · have g5' : Blk w' bg (ints [1, 2, 4, 2, 1]) _ := g5
      exact Blk.rdI (l := [1, 2, 4, 2, 1]) (c := 5) g5'
    · simp only [hdl']; exact own_rdI g4 hdl'.symm
    · have g3' : Blk w' fb (ints fl) _ := g3
      exact Blk.rdI g3'
    · have := rows_rd' g1 g2
      simpa only [List.length_map, hxl] using this
  · refine ⟨⟨by dsimp only; decide, by dsimp only; decide, by dsimp only; decide, by simp only; omega, by simp only; omega, by simp only; omega, by simp only [List.length_map]; omega, fun q hq => by simp only; rw [(hmm q hq).1, hdl'], by dsimp only; decide, by simp only; omega, by simp only; omega, by simp only; omega, fun y hy => by have := hdb y hy; omega, by dsimp only; decide, hms2 fl hfn hfs, fun q hq => hms2 q (hmm q hq).2.1 (hmm q hq).2.2, by dsimp only; decide, hfs, fun q hq => (hmm q hq).2.2⟩,
      ⟨by dsimp only; decide, by simp only; omega, by simp only; omega, by simp only [List.length_map]; omega, fun q hq => by rw [(hmm q hq).1]; omega⟩, rfl, by simp only; omega, rfl, hdb, by simp only; omega⟩
  · exact ⟨by simp only; omega, hcl, hwa, ⟨hws.1, hws.2⟩⟩
  · have h1 : Sat _ (fun x => x = b) (dkP bs b (K + 40 + 6 * m + 1 + 1 + 1 + 1) :: [un (rowsK xs), .ow (.slice (some ⟨nb, 0, none⟩) m nc) 25 1 m (rowsV xs), .pt fb (ints fl) 3, .ow (.slice (some ⟨db, 0, none⟩) m dc) 3 1 m (ints dl), .pt bg (ints [1, 2, 4, 2, 1]) 3]) _ := hs.sp (by repeat constructor)
    have h2 := Sat.dk h1 (K' := K + 100) (by omega)
    have h3 : Sat _ (fun x => x = b) ([un (rowsK xs), .ow (.slice (some ⟨nb, 0, none⟩) m nc) 25 1 m (rowsV xs), .pt fb (ints fl) 3, .ow (.slice (some ⟨db, 0, none⟩) m dc) 3 1 m (ints dl), .pt bg (ints [1, 2, 4, 2, 1]) 3] ++ [dkP bs b (K + 100)]) _ := h2.sp (by repeat constructor)
    exact Sat.un_iff.2 h3
end Go.Proofs.Ytgmmmkmekbiboab

/- Walks: relay.Shot of five rounds. -/
namespace Go.Proofs.Ytgmmmkmekbiboab
open Go Go.Eng
theorem rin_ca (n lo hi : Int) (w : World) : Ca Try.prog 25 [.int .i64 n, .int .i64 lo, .int .i64 hi] w fun v w' => v = .bool (inB n lo hi) ∧ Chg [] w w' := by
  refine q_of (Sat.nil w M0) Try.func25 rfl (by simp [Try.ntmps25]) ?_
  (refine q_seq (q_region (ql_pure tabOk rfl rfl (q_nil (q_seq (q_region ?_))))); (iterate 4 refine ql_pure tabOk rfl rfl ?_))
  refine ql_split rfl rfl (fun hc => ?_) (fun hc => ?_)
  · (refine ql_gyes rfl (ql_pure tabOk rfl rfl (ql_gyes rfl (ql_pure tabOk rfl rfl (ql_gyes rfl ?_)))); (iterate 3 refine ql_pure tabOk rfl rfl ?_); refine q_nil (q_ret ?_))
    exact q_fin1 rfl rfl fun w' hs => ⟨by simp at hc; simp [inB, hc], hs.chg0⟩
  · ((iterate 3 refine ql_gno rfl rfl rfl ?_); refine ql_pure tabOk rfl rfl (ql_pure tabOk rfl rfl (q_nil (q_ret ?_))))
    exact q_fin1 rfl rfl fun w' hs => ⟨by simp at hc; simp [inB]; omega, hs.chg0⟩
/-- How many of the first rounds hit. -/
def rhN (L : List Bool) : Nat → Nat
  | 0 => 0
  | k + 1 => rhN L k + (if L.getD k false = true then 1 else 0)
theorem rhN_le (L : List Bool) : ∀ k, rhN L k ≤ k
  | 0 => Nat.le_refl _
  | k + 1 => by
    have := rhN_le L k
    simp only [rhN]
    split <;> omega
set_option maxHeartbeats 2000000 in
theorem rshot_ca (w : World) (lo hi : Nat) (v : Value) (L : List Bool) (h : RdB w lo hi v L) (hl : L.length = 5) : Ca Try.prog 12 [v] w fun x w' => x = .tuple #[.agg #[.int .i64 0, .int .i64 (5 - (rhN L 5 : Int)), .int .i64 (if 0 < 5 - (rhN L 5 : Int) then 3 else 0)], .int .i64 0] ∧ Chg [] w w' := by
  have h0 := h
  obtain ⟨va, c, rfl, ha⟩ := RdB.outB h
  rw [hl] at ha h0 ⊢
  obtain ⟨vb, vo, rfl⟩ := ha (by omega)
  refine q_of (Sat.nil w M0) Try.func12 rfl (by simp [Try.ntmps12]) ?_
  (refine q_seq (q_region ?_))
  refine ql_alloc zero54 rfl (fun b2 => ?_)
  (refine ql_pure tabOk rfl rfl (q_nil (q_seq (q_seq (q_region (ql_pure tabOk rfl rfl (ql_pure tabOk rfl rfl ?_)))))))
  refine ql_callv (val := .bool true) tabOk rfl rfl rfl rfl (fun w hs => ?_) ?_; exact rin_ca 5 5 8 w
  (refine ql_pure tabOk rfl rfl (q_nil (q_cond_false rfl (q_skip (q_seq (q_region (ql_pure tabOk rfl rfl (q_nil (q_seq (q_seq (q_region ?_)))))))))); (iterate 3 refine ql_pure tabOk rfl rfl ?_); refine q_nil (q_block ?_))
  refine q_loop (σ := Nat) (fun k => k ≤ 5) (fun k => 5 - k) (fun k => [(0, .slice (some ⟨vb, vo, none⟩) 5 c), (2, .pointer (some ⟨b2, 0, none⟩)), (3, .int .i64 0), (4, .int .i64 (5 - (rhN L k : Int))), (13, .slice (some ⟨vb, vo, none⟩) 5 c), (14, .int .i64 5), (15, .int .i64 k)]) (fun _ => [.pt b2 [.int .i64 0, .int .i64 0, .int .i64 0] 54]) 0 (by omega) ⟨rfl, rfl, rfl, rfl, rfl, rfl, rfl, trivial⟩ (by repeat constructor) ?_
  intro k hk K hK
  (refine q_seq (q_region (ql_pure tabOk rfl rfl (q_nil (q_seq ?_)))))
  refine q_if rfl (fun hc => ?_) (fun hc => ?_)
  · have hk5 : k < 5 := by omega
    clear hc
    have hle := rhN_le L k
    have hn : rhN L (k + 1) = rhN L k + (if L.getD k false = true then 1 else 0) := rfl
    have hkl : k < L.length := by omega
    have hg : L[k] = L.getD k false := by rw [List.getD_eq_getElem?_getD, List.getElem?_eq_getElem hkl]; rfl
    (refine q_skip (q_seq (q_block (q_seq (q_region ?_)))))
    refine ql_index tabOk rfl rfl rfl rfl rfl (by omega) (by omega) ?_
    refine ql_load1 (v := .bool L[k]) tabOk rfl rfl rfl (fun w hs => RdB.at (RdE.keep h0 hs.chg0) k hkl) ?_
    rw [hg]
    cases hb : L.getD k false with
    | true =>
      rw [hb, if_pos rfl] at hn
      (refine ql_pure tabOk rfl rfl (q_nil (q_seq (q_seq (q_region (ql_pure tabOk rfl rfl (ql_eqlF tabOk rfl rfl rfl (by omega) (q_nil (q_cond_false rfl (q_skip (q_seq (q_region ?_))))))))))); refine ql_pure tabOk rfl rfl (q_nil (q_cond_true rfl (q_region (ql_pure tabOk rfl rfl (ql_ar tabOk rfl rfl rfl rfl (by omega) (by omega) (ql_pure tabOk rfl rfl (q_nil (q_blk (q_region (ql_ar tabOk rfl rfl rfl rfl (by omega) (by omega) (ql_pure tabOk rfl rfl ?_))))))))))); refine q_nil ?_)
      exact hK (k + 1) _ _ (by omega) (by omega) ⟨rfl, rfl, rfl, lookI rfl (by rw [hn]; omega), rfl, rfl, rfl, trivial⟩ (by repeat constructor)
    | false =>
      rw [hb, if_neg (by decide)] at hn
      (refine ql_pure tabOk rfl rfl (q_nil (q_seq (q_seq (q_region (ql_pure tabOk rfl rfl (ql_eqlF tabOk rfl rfl rfl (by omega) (q_nil (q_cond_false rfl (q_skip (q_seq (q_region ?_))))))))))); refine ql_pure tabOk rfl rfl (q_nil (q_cond_false rfl (q_skip (q_blk (q_region (ql_ar tabOk rfl rfl rfl rfl (by omega) (by omega) (ql_pure tabOk rfl rfl (q_nil ?_)))))))))
      exact hK (k + 1) _ _ (by omega) (by omega) ⟨rfl, rfl, rfl, lookI rfl (by rw [hn]; omega), rfl, rfl, rfl, trivial⟩ (by repeat constructor)
  · obtain rfl : k = 5 := by omega
    clear hc hK
    have hle := rhN_le L 5
    (refine q_exit _ rfl (q_seq (q_region (ql_pure tabOk rfl rfl (ql_pure tabOk rfl rfl (ql_ar tabOk rfl rfl rfl rfl (by omega) (by omega) (ql_pure tabOk rfl rfl ?_)))))))
    refine ql_mk #[.int .i64 0, .int .i64 (5 - (rhN L 5 : Int)), .int .i64 0] rfl (by kernel_rfl) rfl ?_
    skip
    refine ql_alloc zero54 rfl (fun b7 => ?_)
    (refine ql_setA tabOk rfl rfl rfl rfl rfl (by repeat constructor) rfl ?_; refine q_nil (q_seq (q_seq (q_region (ql_pure tabOk rfl rfl (ql_pure tabOk rfl rfl (q_nil ?_)))))))
    refine q_if rfl (fun hc => ?_) (fun hc => ?_)
    · rw [if_pos (by omega)]
      (refine q_region (ql_pure tabOk rfl rfl (ql_pure tabOk rfl rfl (ql_ar tabOk rfl rfl rfl rfl (by omega) (by omega) (ql_pure tabOk rfl rfl ?_)))); refine ql_st2 tabOk rfl rfl rfl rfl (by repeat constructor) ?_; refine q_nil (q_seq (q_region ?_)); refine ql_loadABa tabOk rfl rfl rfl ?_; refine ql_setA tabOk rfl rfl rfl rfl rfl (by repeat constructor) rfl ?_; refine ql_pure tabOk rfl rfl (q_nil (q_ret ?_)))
      refine q_fin tabOk rfl (by repeat constructor) fun w hs => ?_
      exact ⟨rfl, hs.chg0⟩
    · rw [if_neg (by omega)]
      (refine q_skip (q_seq (q_region ?_)); refine ql_loadABa tabOk rfl rfl rfl ?_; refine ql_setA tabOk rfl rfl rfl rfl rfl (by repeat constructor) rfl ?_; refine ql_pure tabOk rfl rfl (q_nil (q_ret ?_)))
      refine q_fin tabOk rfl (by repeat constructor) fun w hs => ?_
      exact ⟨rfl, hs.chg0⟩
end Go.Proofs.Ytgmmmkmekbiboab

/- TopBout. Written by gen_X3.py. -/
namespace Go.Proofs.Ytgmmmkmekbiboab
open Go Go.Eng
theorem blowing0 {w0 w : World} {R : List Ck} {b K : Nat} {bs : Value} (hby : DkB w0 0 w0.heap.size bs) (hs : Sat w0 M0 (dkP bs b K :: R) w) (hK : K < 100000) :
    Ca Try.prog 5 [.pointer (some ⟨b, 0, none⟩)] w fun v w' => ∃ x : List Ck × List Value × Rg × Ru, (v = .tuple #[.agg x.2.1.toArray, .agg #[.int .i64 x.2.2.2.miss, .int .i64 x.2.2.2.click, .int .i64 x.2.2.2.wait, .int .i64 x.2.2.2.waits]] ∧ OwnR x.1 x.2.1 x.2.2.1 ∧ BlwR x.2.2.1 ∧ BlwP x.2.2.2) ∧ Sat w (fun x => x = b) [un x.1, dkP bs b (K + 100)] w' :=
  blowing_ca K hK w b 0 w0.heap.size bs (hby.keep hs.chg0) (dk_new hs) (hs.all _ (.head _))
theorem cells_sh (L : List (Int × Int)) : cellsOf (L.map rtV) = L.flatMap fun x => [.int .i64 x.1, .int .i64 x.2] := by simp [cellsOf, rtV, List.flatMap_map, Value.cells]
abbrev shC (L : List (Int × Int)) : List Value := L.flatMap fun x => [.int .i64 x.1, .int .i64 x.2]
theorem sh_of {w : World} {lo hi n : Nat} {v : Value} {L : List (Int × Int)} (hn : n = L.length) (h : Rd w lo hi v 2 n (shC L)) : RdS w lo hi v L := ⟨by rw [cells_sh, List.length_map, ← hn]; exact h, fun e he => by obtain ⟨x, _, rfl⟩ := List.mem_map.1 he; rfl⟩
theorem shC_snoc (L : List (Int × Int)) (x : Int × Int) : shC (L ++ [x]) = shC L ++ [.int .i64 x.1, .int .i64 x.2] := by simp [shC]
theorem slSh : SlT Try.prog 40 46 2 16 (.agg #[.int .i64 0, .int .i64 0]) := ⟨by kernel_rfl, by kernel_rfl, by kernel_rfl, by decide⟩
theorem slBo : SlT Try.prog 52 4 1 1 (.bool false) := ⟨by kernel_rfl, by kernel_rfl, by kernel_rfl, by decide⟩
theorem ints_sn (l : List Int) (r : Int) : ints (l ++ [r]) = ints l ++ [.int .i64 r] := by simp [ints]
theorem rgc_dr {w : World} {r : Rg} {ag af an : Option Addr} {b off cg cd cf cn : Nat} {x1 x2 x3 x4 : Int} (h : RgC w [.int .i64 x1, .int .i64 x2, .int .i64 x3, .int .i64 x4, .slice ag r.group.length cg, .slice (some ⟨b, off, none⟩) r.drifts.length cd, .slice af r.first.length cf, .slice an r.next.length cn] r)
    (k : Nat) (hk : k < r.drifts.length) : w.cell? ⟨b, off + k * 1, none⟩ = some (.int .i64 (r.drifts.getD k 0)) := by
  obtain ⟨lo, hi, ag, cg, ad, cd, af, cf, an, cn, h1, h2, h3, h4, h5⟩ := h
  cases h1
  have := RdI.at h3 k hk
  rw [this, List.getD_eq_getElem?_getD, List.getElem?_eq_getElem hk]
  rfl
/-- The rounds: which shots hit. -/
def rndL (A : List Int) (k : Nat) : List Bool := (List.range k).map fun i => hitA 225 (A.getD i 0)
theorem rndL_succ (A : List Int) (k : Nat) : bools (rndL A (k + 1)) = bools (rndL A k) ++ [.bool (hitA 225 (A.getD k 0))] := by simp [rndL, List.range_succ]
theorem rndL_cnt (A : List Int) (m : Nat) : ∀ k, k ≤ m → rhN (rndL A m) k = cntA 225 A k
  | 0, _ => rfl
  | k + 1, h => by
    rw [rhN, cntA, rndL_cnt A m k (by omega), show (rndL A m).getD k false = hitA 225 (A.getD k 0) from by simp [rndL, List.getD_eq_getElem?_getD, show k < m by omega]]
set_option maxHeartbeats 8000000 in
set_option maxRecDepth 20000 in
theorem topBout_ca (w : World) (a a2 : Option Addr) (nb cb n2 c2 : Nat) (hbyb1 : DkB w 0 w.heap.size (.slice a nb cb)) (hbybq : DkB w 0 w.heap.size (.slice a2 n2 c2)) :
    Ca Try.prog 3 [.slice a nb cb, .slice a2 n2 c2] w fun r w' => r = .bool true ∧ Chg [] w w' := by
  refine q_of (Sat.nil w M0) Try.func3 rfl (by simp [Try.ntmps3]) ?_
  (refine q_seq (q_region (ql_pure tabOk rfl rfl (q_nil (q_seq (q_region (ql_pure tabOk rfl rfl ?_)))))))
  refine ql_call (β := Nat) tabOk [] _ M0 rfl rfl rfl rfl (Sp.refl _) (fun _ h => h.elim) (fun w' hs => of_ca w' a nb cb) ?_
  rintro b1 _ rfl
  dsimp only [List.cons_append, List.nil_append]
  (refine ql_pure tabOk rfl rfl ?_)
  refine ql_call (β := Nat) tabOk [] _ M0 rfl rfl rfl rfl (Sp.refl _) (fun _ h => h.elim) (fun w' hs => of_ca w' a2 n2 c2) ?_
  rintro bq _ rfl
  dsimp only [List.cons_append, List.nil_append]
  (refine ql_pure tabOk rfl rfl (ql_pure tabOk rfl rfl (q_nil (q_seq (q_region (ql_pure tabOk rfl rfl ?_))))))
  refine ql_call (β := List Ck × List Value × Rg × Ru) (ψ := fun x v => v = .tuple #[.agg x.2.1.toArray, .agg #[.int .i64 x.2.2.2.miss, .int .i64 x.2.2.2.click, .int .i64 x.2.2.2.wait, .int .i64 x.2.2.2.waits]] ∧ OwnR x.1 x.2.1 x.2.2.1 ∧ BlwR x.2.2.1 ∧ BlwP x.2.2.2) (L' := fun x => [un x.1, dkP (.slice a nb cb) b1 (0 + 100)]) tabOk [dkP (.slice a nb cb) b1 0] _ (fun x => x = b1) rfl rfl rfl rfl (Sp.cons (by repeat constructor) (Sp.refl _)) (fun x hx => ⟨_, .head _, hx⟩) (fun w' hs => blowing0 hbyb1 hs (by omega)) ?_
  rintro ⟨Lr, csr, r, p⟩ _ ⟨rfl, ownr, hr, hp⟩
  dsimp only at ownr hr hp ⊢
  refine ql_fact (fun w hs => ownr.form2 hr.right hs (by repeat constructor)) ?_
  rintro ⟨bgr, ogr, cgr, bdr, odr, cdr, bfr, ofr, cfr, bnr, onr, cnr, hcsr⟩
  subst hcsr
  dsimp only [List.cons_append, List.nil_append]
  have hR := hr.right
  have hd1 : 0 < r.drifts.length := hR.d1
  have hd3 := hr.dn
  have hpw := hp.waits
  have hpm := hp.miss
  have hpc := hp.click
  have hpt := hp.wait
  obtain ⟨n, hn⟩ : ∃ n : Nat, (n : Int) = 5 + p.waits := ⟨(5 + p.waits).toNat, by omega⟩
  (refine ql_pure tabOk rfl rfl (ql_ext tabOk rfl rfl rfl (ql_ext tabOk rfl rfl rfl ?_)))
  refine ql_alloc zero28 rfl (fun b7 => ?_)
  skip
  refine ql_alloc zero30 rfl (fun b8 => ?_)
  ((iterate 2 refine ql_setA tabOk rfl rfl rfl rfl rfl (by repeat constructor) rfl ?_); refine q_nil (q_seq (q_region (ql_pure tabOk rfl rfl (ql_pure tabOk rfl rfl (q_nil (q_seq (q_seq (q_region (ql_pure tabOk rfl rfl ?_))))))))); refine ql_loadBa tabOk rfl rfl rfl ?_; refine ql_ar tabOk rfl rfl rfl rfl (by omega) (by omega) (ql_pure tabOk rfl rfl (q_nil (q_block ?_))))
  rw [← hn]
  refine q_conv (H' := [.ow (.slice none 0 0) 3 1 0 (ints []), dkP (.slice a2 n2 c2) bq (0 + 0), .pt b7 [.int .i64 r.radius, .int .i64 r.unit, .int .i64 r.clicks, .int .i64 r.total, .slice (some ⟨bgr, ogr, none⟩) r.group.length cgr, .slice (some ⟨bdr, odr, none⟩) r.drifts.length cdr, .slice (some ⟨bfr, ofr, none⟩) r.first.length cfr, .slice (some ⟨bnr, onr, none⟩) r.next.length cnr] 28, .pt b8 [.int .i64 p.miss, .int .i64 p.click, .int .i64 p.wait, .int .i64 p.waits] 30, un Lr]) (fun w' hs => (Sat.ownil hs 3 1).sp (by repeat constructor)) ?_
  refine q_loop (σ := (Option Addr × Nat) × List Int) (fun s => s.2.length ≤ n ∧ ∀ x ∈ s.2, 0 ≤ x ∧ x < r.drifts.length) (fun s => n - s.2.length) (fun s => [(6, .pointer (some ⟨bq, 0, none⟩)), (7, .pointer (some ⟨b7, 0, none⟩)), (8, .pointer (some ⟨b8, 0, none⟩)), (9, .slice s.1.1 s.2.length s.1.2), (10, .slice none 0 0), (41, .int .i64 n), (42, .int .i64 s.2.length)])
    (fun s => [.ow (.slice s.1.1 s.2.length s.1.2) 3 1 s.2.length (ints s.2), dkP (.slice a2 n2 c2) bq (0 + s.2.length), .pt b7 [.int .i64 r.radius, .int .i64 r.unit, .int .i64 r.clicks, .int .i64 r.total, .slice (some ⟨bgr, ogr, none⟩) r.group.length cgr, .slice (some ⟨bdr, odr, none⟩) r.drifts.length cdr, .slice (some ⟨bfr, ofr, none⟩) r.first.length cfr, .slice (some ⟨bnr, onr, none⟩) r.next.length cnr] 28, .pt b8 [.int .i64 p.miss, .int .i64 p.click, .int .i64 p.wait, .int .i64 p.waits] 30, un Lr]) ((none, 0), []) (by simp) ⟨rfl, rfl, rfl, rfl, rfl, rfl, rfl, trivial⟩ (by repeat constructor) ?_
  rintro ⟨⟨sa, sc⟩, S⟩ ⟨hSl, hS⟩ K hK
  dsimp only at hSl hS ⊢
  (refine q_seq (q_region (ql_pure tabOk rfl rfl (q_nil (q_seq ?_)))))
  refine q_if rfl (fun hc => ?_) (fun hc => ?_)
  · have hSl2 : S.length < n := by omega
    clear hc
    obtain ⟨k, hk⟩ : ∃ k, k = S.length := ⟨_, rfl⟩
    rw [← hk]
    (refine q_skip (q_seq (q_block (q_region ?_))); (iterate 3 refine ql_pure tabOk rfl rfl ?_); refine ql_loadBa tabOk rfl rfl rfl ?_; refine ql_pure tabOk rfl rfl ?_)
    refine ql_call (β := Int) (ψ := fun zq v => v = .int .i64 zq ∧ 0 ≤ zq ∧ zq ≤ (r.drifts.length : Int) - 1) (L' := fun _ => [dkP (.slice a2 n2 c2) bq (0 + k + 1)]) tabOk [dkP (.slice a2 n2 c2) bq (0 + k)] _ (fun x => x = bq) rfl rfl rfl rfl (Sp.cons (by repeat constructor) (Sp.refl _)) (fun x hx => ⟨_, .head _, hx⟩) (fun w' hs => drw0 hbybq hs (by omega) (by omega)) ?_; rintro st _ ⟨rfl, hst⟩
    skip
    refine ql_mkS 3 [.int .i64 st] rfl (by kernel_rfl) rfl (fun bn => ?_)
    skip
    refine ql_append (q := 1) (news := [.int .i64 st]) slI rfl rfl rfl (fun v' => by repeat constructor) (fun w' hs => ⟨_, _, Blk.rdN (hs.blk (b := bn) (by repeat constructor)) rfl⟩) (by simp [oneV]) (by omega) (by omega) (fun u' => ?_)
    refine ql_fact (fun w hs => hs.slice2 (v := u') (by repeat constructor)) ?_
    rintro ⟨ua, uc, rfl⟩
    (refine ql_pure tabOk rfl rfl (q_nil (q_blk (q_region (ql_ar tabOk rfl rfl rfl rfl (by omega) (by omega) (ql_pure tabOk rfl rfl (q_nil ?_)))))))
    have el : (S ++ [st]).length = k + 1 := by simp [hk]
    exact hK ((ua, uc), S ++ [st]) _ _ ⟨by simp only [el]; omega, fun x hx => by
      rcases List.mem_append.1 hx with hx | hx
      · exact hS x hx
      · rw [List.mem_singleton.1 hx]; omega⟩ (by simp only [el]; omega) ⟨rfl, rfl, rfl, by simp only [el]; rfl, rfl, rfl, lookI rfl (by simp only [el]; omega), trivial⟩ (by simp only [el, ints_sn]; rw [← Nat.add_assoc 0 k 1]; repeat constructor)
  · have hSn : S.length = n := by omega
    clear hc hK
    rw [hSn]
    obtain ⟨Ks, hKs⟩ : ∃ Ks, Ks = 0 + n := ⟨_, rfl⟩
    rw [← hKs]
    refine q_fact (fun w hs => hs.ownSome (v := .slice sa n sc) (by repeat constructor) (by omega)) ?_
    rintro ⟨sb, sc2, he⟩
    obtain ⟨rfl, rfl⟩ : sa = some ⟨sb, 0, none⟩ ∧ sc = sc2 := by
      cases he
      exact ⟨rfl, rfl⟩
    (refine q_exit _ rfl (q_seq (q_seq (q_region (ql_pure tabOk rfl rfl (q_nil (q_block ?_)))))))
    refine q_conv (H' := [.ow (.slice none 0 0) 3 1 0 (ints []), dkP (.slice a2 n2 c2) bq (Ks + 0), .ow (.slice (some ⟨sb, 0, none⟩) n sc) 3 1 n (ints S), .pt b7 [.int .i64 r.radius, .int .i64 r.unit, .int .i64 r.clicks, .int .i64 r.total, .slice (some ⟨bgr, ogr, none⟩) r.group.length cgr, .slice (some ⟨bdr, odr, none⟩) r.drifts.length cdr, .slice (some ⟨bfr, ofr, none⟩) r.first.length cfr, .slice (some ⟨bnr, onr, none⟩) r.next.length cnr] 28, .pt b8 [.int .i64 p.miss, .int .i64 p.click, .int .i64 p.wait, .int .i64 p.waits] 30, un Lr]) (fun w' hs => (Sat.ownil hs 3 1).sp (by repeat constructor)) ?_
    refine q_loop (σ := (Option Addr × Nat) × List Int) (fun s => s.2.length ≤ 5 ∧ ∀ x ∈ s.2, -2 ≤ x ∧ x ≤ 2) (fun s => 5 - s.2.length) (fun s => [(6, .pointer (some ⟨bq, 0, none⟩)), (7, .pointer (some ⟨b7, 0, none⟩)), (8, .pointer (some ⟨b8, 0, none⟩)), (9, (.slice (some ⟨sb, 0, none⟩) n sc)), (10, .slice s.1.1 s.2.length s.1.2), (53, .int .i64 s.2.length)])
      (fun s => [.ow (.slice s.1.1 s.2.length s.1.2) 3 1 s.2.length (ints s.2), dkP (.slice a2 n2 c2) bq (Ks + s.2.length), .ow (.slice (some ⟨sb, 0, none⟩) n sc) 3 1 n (ints S), .pt b7 [.int .i64 r.radius, .int .i64 r.unit, .int .i64 r.clicks, .int .i64 r.total, .slice (some ⟨bgr, ogr, none⟩) r.group.length cgr, .slice (some ⟨bdr, odr, none⟩) r.drifts.length cdr, .slice (some ⟨bfr, ofr, none⟩) r.first.length cfr, .slice (some ⟨bnr, onr, none⟩) r.next.length cnr] 28, .pt b8 [.int .i64 p.miss, .int .i64 p.click, .int .i64 p.wait, .int .i64 p.waits] 30, un Lr]) ((none, 0), []) (by simp) ⟨rfl, rfl, rfl, rfl, rfl, rfl, trivial⟩ (by repeat constructor) ?_
    rintro ⟨⟨oa, oc⟩, O⟩ ⟨hOl, hO⟩ K hK
    dsimp only at hOl hO ⊢
    (refine q_seq (q_region (ql_pure tabOk rfl rfl (q_nil (q_seq ?_)))))
    refine q_if rfl (fun hc => ?_) (fun hc => ?_)
    · have hOl2 : O.length < 5 := by omega
      clear hc
      obtain ⟨k, hk⟩ : ∃ k, k = O.length := ⟨_, rfl⟩
      rw [← hk]
      (refine q_skip (q_seq (q_block (q_region (ql_pure tabOk rfl rfl (ql_pure tabOk rfl rfl ?_))))))
      refine ql_call (β := Int) (ψ := fun zq v => v = .int .i64 zq ∧ (-2) ≤ zq ∧ zq ≤ 2) (L' := fun _ => [dkP (.slice a2 n2 c2) bq (Ks + k + 1)]) tabOk [dkP (.slice a2 n2 c2) bq (Ks + k)] _ (fun x => x = bq) rfl rfl rfl rfl (Sp.cons (by repeat constructor) (Sp.refl _)) (fun x hx => ⟨_, .head _, hx⟩) (fun w' hs => btw0 hbybq hs (by omega) (by omega) (by omega) (by omega)) ?_; rintro of _ ⟨rfl, hof⟩
      skip
      refine ql_mkS 3 [.int .i64 of] rfl (by kernel_rfl) rfl (fun bn => ?_)
      skip
      refine ql_append (q := 1) (news := [.int .i64 of]) slI rfl rfl rfl (fun v' => by repeat constructor) (fun w' hs => ⟨_, _, Blk.rdN (hs.blk (b := bn) (by repeat constructor)) rfl⟩) (by simp [oneV]) (by omega) (by omega) (fun u' => ?_)
      refine ql_fact (fun w hs => hs.slice2 (v := u') (by repeat constructor)) ?_
      rintro ⟨ua, uc, rfl⟩
      (refine ql_pure tabOk rfl rfl (q_nil (q_blk (q_region (ql_ar tabOk rfl rfl rfl rfl (by omega) (by omega) (ql_pure tabOk rfl rfl (q_nil ?_)))))))
      have el : (O ++ [of]).length = k + 1 := by simp [hk]
      exact hK ((ua, uc), O ++ [of]) _ _ ⟨by simp only [el]; omega, fun x hx => by
        rcases List.mem_append.1 hx with hx | hx
        · exact hO x hx
        · rw [List.mem_singleton.1 hx]; omega⟩ (by simp only [el]; omega) ⟨rfl, rfl, rfl, rfl, by simp only [el]; rfl, lookI rfl (by simp only [el]; omega), trivial⟩ (by simp only [el, ints_sn]; rw [← Nat.add_assoc Ks k 1]; repeat constructor)
    · have hO5 : O.length = 5 := by omega
      clear hc hK
      rw [hO5]
      refine q_fact (fun w hs => hs.ownSome (v := .slice oa 5 oc) (by repeat constructor) (by omega)) ?_
      rintro ⟨ob, oc2, he⟩
      obtain ⟨rfl, rfl⟩ : oa = some ⟨ob, 0, none⟩ ∧ oc = oc2 := by
        cases he
        exact ⟨rfl, rfl⟩
      have hP : p.Right := ⟨by omega, by omega, by omega, by omega⟩
      have hBt : BtR r p O S := ⟨hR, hr.rad, hr.clk, hr.dr, hP, by omega, by omega, fun i => by
        by_cases hi : i < O.length
        · rw [List.getD_eq_getElem?_getD, List.getElem?_eq_getElem hi]
          exact hO _ (List.getElem_mem hi)
        · rw [List.getD_eq_getElem?_getD, List.getElem?_eq_none (by omega)]
          decide⟩
      have hrul : rulesV r p = 0 := (rules_iff r p).2 ⟨(right_check r).2 hR, hP⟩
      obtain ⟨y0, hy0⟩ : ∃ y0, y0 = endF r p S O := ⟨_, rfl⟩
      have hy5 : y0.shot = 5 := hy0 ▸ bt_five hBt hS (by omega)
      have hfol : followV r p S O = ((y0.misses, y0.cost, y0.steps), 0) := by
        have hg5 : (r.group.length : Int) / 2 = 2 := by rw [hr.grp]; rfl
        unfold followV
        rw [if_neg (by rw [hrul]; decide), if_neg (by omega), if_neg (by omega), if_neg, if_neg, if_neg, ← hy0]
        · rw [← hy0, hy5]; decide
        · rw [hg5]
          simp only [Bool.not_eq_true', Bool.not_eq_false, List.all_eq_true]
          exact fun x hx => inB_iff.2 (hO x hx)
        · simp only [Bool.not_eq_true', Bool.not_eq_false, List.all_eq_true]
          exact fun x hx => inB_iff.2 (by have := hS x hx; omega)
      (refine q_exit _ rfl (q_seq (q_region ?_)); (iterate 2 refine ql_loadABa tabOk rfl rfl rfl ?_); refine ql_pure tabOk rfl rfl (ql_pure tabOk rfl rfl ?_))
      simp only [List.drop_zero, List.take_succ_cons, List.take_zero]
      refine ql_callv (val := .tuple #[.agg #[.int .i64 y0.misses, .int .i64 y0.cost, .int .i64 y0.steps], .int .i64 0]) tabOk rfl rfl rfl rfl (fun w hs => ?_) ?_; exact by have := follow_ca w 0 w.heap.size 0 w.heap.size _ r p (.slice (some ⟨sb, 0, none⟩) n sc) (.slice (some ⟨ob, 0, none⟩) 5 oc) S O (ownr.at hs (by repeat constructor)) hr.small (own_rdI (hs.mem (c := .ow (.slice (some ⟨sb, 0, none⟩) n sc) 3 1 n (ints S)) (by repeat constructor)) hSn.symm) (own_rdI (hs.mem (c := .ow (.slice (some ⟨ob, 0, none⟩) 5 oc) 3 1 5 (ints O)) (by repeat constructor)) hO5.symm) (by omega) (by omega); rw [hfol] at this; exact this
      (refine ql_pure tabOk rfl rfl (ql_ext tabOk rfl rfl rfl (ql_ext tabOk rfl rfl rfl ?_)))
      refine ql_alloc zero36 rfl (fun b11 => ?_)
      (refine ql_setA tabOk rfl rfl rfl rfl rfl (by repeat constructor) rfl ?_; refine ql_pure tabOk rfl rfl (q_nil (q_seq (q_seq (q_region (ql_pure tabOk rfl rfl (ql_neqF tabOk rfl rfl rfl (by omega) (q_nil (q_cond_false rfl (q_skip (q_seq (q_region ?_))))))))))); refine ql_pure tabOk rfl rfl (q_nil (q_seq ?_)))
      refine q_draw _ [] (Sp.refl _) (by kernel_rfl) (by kernel_rfl) ?_
      (refine qf_pure tabOk rfl rfl rfl ?_; refine qf_loadBa tabOk rfl rfl rfl ?_; (iterate 5 refine qf_pure tabOk rfl rfl rfl ?_); refine qf_nil (q_seq (q_seq (q_region ?_))); (iterate 3 refine ql_pure tabOk rfl rfl ?_); refine q_nil ?_)
      refine q_cut (σ := { z : FS × List Int × Int × Value // z.1.shot = 5 ∧ ∃ k, BtI r p O S k z.1 z.2.1 z.2.2.1 }) (fun z => [(7, .pointer (some ⟨b7, 0, none⟩)), (8, .pointer (some ⟨b8, 0, none⟩)), (11, .pointer (some ⟨b11, 0, none⟩)), (13, z.1.2.2.2), (17, .int .i64 z.1.2.2.1), (18, .int .i64 z.1.1.steps)]) (fun z => [.ow z.1.2.2.2 46 2 z.1.2.1.length (shC (shA z.1.2.1)), .ow (.slice (some ⟨sb, 0, none⟩) n sc) 3 1 n (ints S), .ow (.slice (some ⟨ob, 0, none⟩) 5 oc) 3 1 5 (ints O), .pt b11 [.int .i64 y0.misses, .int .i64 y0.cost, .int .i64 y0.steps] 36, .pt b7 [.int .i64 r.radius, .int .i64 r.unit, .int .i64 r.clicks, .int .i64 r.total, .slice (some ⟨bgr, ogr, none⟩) r.group.length cgr, .slice (some ⟨bdr, odr, none⟩) r.drifts.length cdr, .slice (some ⟨bfr, ofr, none⟩) r.first.length cfr, .slice (some ⟨bnr, onr, none⟩) r.next.length cnr] 28, .pt b8 [.int .i64 p.miss, .int .i64 p.click, .int .i64 p.wait, .int .i64 p.waits] 30, un Lr]) ?_ ?_
      rotate_left
      · intro K2 hK2
        (refine q_block ?_)
        refine q_conv (H' := [.ow (.slice none 0 0) 46 2 ([] : List Int).length (shC (shA ([] : List Int))), .ow (.slice (some ⟨sb, 0, none⟩) n sc) 3 1 n (ints S), .ow (.slice (some ⟨ob, 0, none⟩) 5 oc) 3 1 5 (ints O), .pt b11 [.int .i64 y0.misses, .int .i64 y0.cost, .int .i64 y0.steps] 36, .pt b7 [.int .i64 r.radius, .int .i64 r.unit, .int .i64 r.clicks, .int .i64 r.total, .slice (some ⟨bgr, ogr, none⟩) r.group.length cgr, .slice (some ⟨bdr, odr, none⟩) r.drifts.length cdr, .slice (some ⟨bfr, ofr, none⟩) r.first.length cfr, .slice (some ⟨bnr, onr, none⟩) r.next.length cnr] 28, .pt b8 [.int .i64 p.miss, .int .i64 p.click, .int .i64 p.wait, .int .i64 p.waits] 30, un Lr]) (fun w' hs => (Sat.ownil hs 46 2).sp (by repeat constructor)) ?_
        refine q_loop (σ := { z : Nat × FS × List Int × Int × Value // BtI r p O S z.1 z.2.1 z.2.2.1 z.2.2.2.1 ∧ z.1 ≤ n }) (fun _ => True) (fun z => n - z.1.1) (fun z => [(7, .pointer (some ⟨b7, 0, none⟩)), (8, .pointer (some ⟨b8, 0, none⟩)), (10, (.slice (some ⟨ob, 0, none⟩) 5 oc)), (11, .pointer (some ⟨b11, 0, none⟩)), (13, z.1.2.2.2.2), (14, .int .i64 z.1.2.1.shot), (15, .int .i64 z.1.2.1.wt), (16, .int .i64 z.1.2.1.cl), (17, .int .i64 z.1.2.2.2.1), (18, .int .i64 z.1.2.1.steps), (73, (.slice (some ⟨sb, 0, none⟩) n sc)), (74, .int .i64 n), (75, .int .i64 z.1.1)]) (fun z => [.ow z.1.2.2.2.2 46 2 z.1.2.2.1.length (shC (shA z.1.2.2.1)), .ow (.slice (some ⟨sb, 0, none⟩) n sc) 3 1 n (ints S), .ow (.slice (some ⟨ob, 0, none⟩) 5 oc) 3 1 5 (ints O), .pt b11 [.int .i64 y0.misses, .int .i64 y0.cost, .int .i64 y0.steps] 36, .pt b7 [.int .i64 r.radius, .int .i64 r.unit, .int .i64 r.clicks, .int .i64 r.total, .slice (some ⟨bgr, ogr, none⟩) r.group.length cgr, .slice (some ⟨bdr, odr, none⟩) r.drifts.length cdr, .slice (some ⟨bfr, ofr, none⟩) r.first.length cfr, .slice (some ⟨bnr, onr, none⟩) r.next.length cnr] 28, .pt b8 [.int .i64 p.miss, .int .i64 p.click, .int .i64 p.wait, .int .i64 p.waits] 30, un Lr]) ⟨(0, ⟨0, p.waits, 0, 0, 0, 0⟩, [], 0, .slice none 0 0), bt_zero hBt, Nat.zero_le _⟩ trivial ⟨rfl, rfl, rfl, rfl, rfl, rfl, rfl, rfl, rfl, rfl, rfl, rfl, rfl, trivial⟩ (by repeat constructor) ?_
        rintro ⟨⟨k, x, A, co, u⟩, hx, hkn⟩ _ K hK
        dsimp only at hx hkn ⊢
        have hx5 := hx.shot
        have hxw := hx.wt
        have hxc := hx.cl
        have hxs := hx.steps
        have hxb := hx.cb
        have hxl := hx.len
        (refine q_seq (q_region (ql_pure tabOk rfl rfl (q_nil (q_seq ?_)))))
        refine q_if rfl (fun hc => ?_) (fun hc => ?_)
        · have hk2 : k < n := by omega
          clear hc
          have hkS : k < S.length := by omega
          have hg : S[k] = S.getD k 0 := by rw [List.getD_eq_getElem?_getD, List.getElem?_eq_getElem hkS]; rfl
          have hst := hg ▸ hS _ (List.getElem_mem hkS)
          obtain ⟨st, hste⟩ : ∃ st : Nat, (st : Int) = S.getD k 0 := ⟨(S.getD k 0).toNat, by omega⟩
          have hstl : st < r.drifts.length := by omega
          (refine q_skip (q_seq (q_block (q_seq (q_region ?_)))))
          refine ql_index tabOk rfl rfl rfl rfl rfl (by omega) (by omega) ?_
          refine ql_load1 (v := .int .i64 st) tabOk rfl rfl rfl (fun w hs => by have := RdI.at (own_rdI (hs.mem (c := .ow (.slice (some ⟨sb, 0, none⟩) n sc) 3 1 n (ints S)) (by repeat constructor)) hSn.symm) k hkS; rw [hg, ← hste] at this; exact this) ?_
          by_cases h5 : x.shot = 5
          · (refine ql_pure tabOk rfl rfl (q_nil (q_seq (q_seq (q_region (ql_pure tabOk rfl rfl (ql_eqlT tabOk rfl rfl rfl (by omega) (q_nil (q_cond_true rfl (q_exit _ rfl ?_))))))))))
            exact hK2 ⟨(x, A, co, u), h5, k, hx⟩ _ _ ⟨rfl, rfl, rfl, rfl, rfl, rfl, trivial⟩ (by repeat constructor)
          · have hx4 : x.shot < 5 := by omega
            obtain ⟨wt, hwt⟩ : ∃ wt : Nat, (wt : Int) = x.wt := ⟨x.wt.toNat, by omega⟩
            have hcho : chooseV r p x.shot x.wt st x.cl = ((choV r p x.shot x.wt.toNat (S.getD k 0).toNat x.cl).1, 0) := by
              unfold chooseV
              rw [if_neg (by rw [hrul]; decide), if_neg (by simp [inB]; omega), if_neg (by simp [inB]; omega), if_neg (by simp [inB]; omega), if_neg (by simp [inB]; omega), ← hste]
              rfl
            rcases hch : (choV r p x.shot x.wt.toNat (S.getD k 0).toNat x.cl).1 with ⟨bw, c⟩
            rw [hch] at hcho
            (refine ql_pure tabOk rfl rfl (q_nil (q_seq (q_seq (q_region (ql_pure tabOk rfl rfl (ql_eqlF tabOk rfl rfl rfl (by omega) (q_nil (q_cond_false rfl (q_skip (q_seq (q_region ?_))))))))))); (iterate 2 refine ql_loadABa tabOk rfl rfl rfl ?_); (iterate 4 refine ql_pure tabOk rfl rfl ?_))
            simp only [List.drop_zero, List.take_succ_cons, List.take_zero]
            refine ql_callv (val := .tuple #[.agg #[.bool bw, .int .i64 c], .int .i64 0]) tabOk rfl rfl rfl rfl (fun w hs => ?_) ?_; exact by have := chooseF_ca w _ r p x.shot x.wt st x.cl (ownr.at hs (by repeat constructor)) hr.small; rw [hcho] at this; exact this
            (refine ql_pure tabOk rfl rfl (ql_ext tabOk rfl rfl rfl (ql_ext tabOk rfl rfl rfl ?_)))
            refine ql_alloc zero42 rfl (fun b21 => ?_)
            have hC := hR.clicks
            cases bw with
            | true =>
              obtain ⟨hw0, hnx⟩ := bt_wait hBt hx hkS hx4 (by rw [hch])
              have hc0 : c = 0 := by
                have := (cho_wait (show (choV r p x.shot x.wt.toNat (S.getD k 0).toNat x.cl).1.1 = true by rw [hch])).2
                rw [hch] at this
                exact this
              subst hc0
              (refine ql_setA tabOk rfl rfl rfl rfl rfl (by repeat constructor) rfl ?_; refine ql_pure tabOk rfl rfl (q_nil (q_seq (q_seq (q_region (ql_pure tabOk rfl rfl (ql_neqF tabOk rfl rfl rfl (by omega) (ql_pure tabOk rfl rfl (ql_gyes rfl (ql_pure tabOk rfl rfl (ql_gyes rfl ?_)))))))))); refine ql_loadBa tabOk rfl rfl rfl ?_; refine ql_gyes rfl (ql_pure tabOk rfl rfl (ql_gyes rfl ?_)); refine ql_loadBa tabOk rfl rfl rfl ?_; refine ql_gyes rfl (ql_neg tabOk rfl rfl (by omega) (by omega) (ql_gyes rfl (ql_lssF tabOk rfl rfl rfl (by omega) (ql_pure tabOk rfl rfl (ql_pure tabOk rfl rfl (ql_gyes rfl (ql_pure tabOk rfl rfl (ql_gyes rfl ?_)))))))); refine ql_loadBa tabOk rfl rfl rfl ?_; refine ql_gyes rfl (ql_pure tabOk rfl rfl (ql_gyes rfl ?_)); refine ql_loadBa tabOk rfl rfl rfl ?_; refine ql_gyes rfl (ql_gtrF tabOk rfl rfl rfl (by omega) (ql_pure tabOk rfl rfl (q_nil (q_cond_false rfl (q_skip (q_seq (q_region (ql_pure tabOk rfl rfl (ql_ar tabOk rfl rfl rfl rfl (by omega) (by omega) (ql_pure tabOk rfl rfl (q_nil ?_))))))))))); refine q_seq (q_seq (q_region (ql_pure tabOk rfl rfl ?_))); refine ql_loadBa tabOk rfl rfl rfl ?_; refine q_nil (q_cond_true rfl (q_seq (q_seq (q_region (ql_pure tabOk rfl rfl (ql_eqlF tabOk rfl rfl rfl (by omega) (q_nil (q_cond_false rfl (q_skip (q_seq ?_)))))))))))
              refine q_draw _ [] (Sp.refl _) (by kernel_rfl) (by kernel_rfl) ?_
              (refine qf_pure tabOk rfl rfl rfl (qf_ar tabOk rfl rfl rfl rfl (by omega) (by omega) (qf_pure tabOk rfl rfl rfl (qf_pure tabOk rfl rfl rfl ?_))); refine qf_loadBa tabOk rfl rfl rfl ?_; refine qf_ar tabOk rfl rfl rfl rfl (by omega) (by omega) (qf_pure tabOk rfl rfl rfl (qf_pure tabOk rfl rfl rfl (qf_nil (q_exit _ rfl (q_region (ql_ar tabOk rfl rfl rfl rfl (by omega) (by omega) (ql_pure tabOk rfl rfl (q_nil ?_)))))))))
              exact hK ⟨(k + 1, _, A, _, u), hnx, by dsimp only; omega⟩ _ _ trivial (by dsimp only; omega) ⟨rfl, rfl, rfl, rfl, rfl, rfl, rfl, rfl, rfl, rfl, rfl, rfl, rfl, trivial⟩ (by repeat constructor)
            | false =>
              obtain ⟨z, hz⟩ : ∃ z, z = r.drifts.getD (S.getD k 0).toNat 0 + O.getD x.shot 0 + c * r.unit := ⟨_, rfl⟩
              obtain ⟨hcb, hzb, hmb, y, hy, hys, hyc, hyw, hyt⟩ := bt_click hBt hx hkS hx4 (by rw [← hste]; omega) hch hz
              have hu := hR.unit
              have hck := hr.clk
              have hcu : -(3 * 20) ≤ c * r.unit ∧ c * r.unit ≤ 3 * 20 := by
                rcases Int.le_total 0 c with h0 | h0
                · have := Int.mul_nonneg h0 (show 0 ≤ r.unit by omega)
                  have := Int.mul_le_mul (show c ≤ 3 by omega) hu.2 (by omega) (by omega)
                  omega
                · have g1 := Int.mul_nonneg (show 0 ≤ -c by omega) (show 0 ≤ r.unit by omega)
                  have g2 := Int.mul_le_mul (show -c ≤ 3 by omega) hu.2 (by omega) (by omega)
                  rw [Int.neg_mul] at g1 g2
                  omega
              have hdrb : -120 ≤ r.drifts.getD st 0 ∧ r.drifts.getD st 0 ≤ 120 := by
                rw [List.getD_eq_getElem?_getD, List.getElem?_eq_getElem hstl]
                exact hr.dr _ (List.getElem_mem hstl)
              have hofb := hBt.offs x.shot
              have hxO : x.shot < O.length := by omega
              have hgO : O[x.shot] = O.getD x.shot 0 := by rw [List.getD_eq_getElem?_getD, List.getElem?_eq_getElem hxO]; rfl
              have hznat : z = r.drifts.getD st 0 + O.getD x.shot 0 + c * r.unit := by rw [hz, ← hste]; rfl
              (refine ql_setA tabOk rfl rfl rfl rfl rfl (by repeat constructor) rfl ?_; refine ql_pure tabOk rfl rfl (q_nil (q_seq (q_seq (q_region (ql_pure tabOk rfl rfl (ql_neqF tabOk rfl rfl rfl (by omega) (ql_pure tabOk rfl rfl (ql_gyes rfl (ql_pure tabOk rfl rfl (ql_gyes rfl ?_)))))))))); refine ql_loadBa tabOk rfl rfl rfl ?_; refine ql_gyes rfl (ql_pure tabOk rfl rfl (ql_gyes rfl ?_)); refine ql_loadBa tabOk rfl rfl rfl ?_; refine ql_gyes rfl (ql_neg tabOk rfl rfl (by omega) (by omega) (ql_gyes rfl (ql_lssF tabOk rfl rfl rfl (by omega) (ql_pure tabOk rfl rfl (ql_pure tabOk rfl rfl (ql_gyes rfl (ql_pure tabOk rfl rfl (ql_gyes rfl ?_)))))))); refine ql_loadBa tabOk rfl rfl rfl ?_; refine ql_gyes rfl (ql_pure tabOk rfl rfl (ql_gyes rfl ?_)); refine ql_loadBa tabOk rfl rfl rfl ?_; refine ql_gyes rfl (ql_gtrF tabOk rfl rfl rfl (by omega) (ql_pure tabOk rfl rfl (q_nil (q_cond_false rfl (q_skip (q_seq (q_region (ql_pure tabOk rfl rfl (ql_ar tabOk rfl rfl rfl rfl (by omega) (by omega) (ql_pure tabOk rfl rfl (q_nil ?_))))))))))); refine q_seq (q_seq (q_region (ql_pure tabOk rfl rfl ?_))); refine ql_loadBa tabOk rfl rfl rfl ?_; refine q_nil (q_cond_false rfl (q_skip (q_seq (q_region (ql_pure tabOk rfl rfl (ql_pure tabOk rfl rfl ?_)))))); refine ql_loadBa tabOk rfl rfl rfl ?_; refine ql_pure tabOk rfl rfl ?_; refine ql_loadBa tabOk rfl rfl rfl ?_; refine ql_pure tabOk rfl rfl (ql_ar tabOk rfl rfl rfl rfl (by omega) (by omega) (ql_pure tabOk rfl rfl (ql_pure tabOk rfl rfl ?_))); refine ql_loadBa tabOk rfl rfl rfl ?_; refine ql_ar tabOk rfl rfl rfl rfl (by omega) (by omega) (ql_pure tabOk rfl rfl (ql_ar tabOk rfl rfl rfl rfl (by omega) (by omega) (ql_ar tabOk rfl rfl rfl rfl (by omega) (by omega) (ql_pure tabOk rfl rfl (q_nil (q_seq (q_region (ql_pure tabOk rfl rfl ?_)))))))); refine ql_loadBa tabOk rfl rfl rfl ?_; refine ql_pure tabOk rfl rfl (q_nil (q_seq ?_)))
              refine q_draw _ [.ow u 46 2 A.length (shC (shA A))] (Sp.cons (by repeat constructor) (Sp.refl _)) (by kernel_rfl) (by kernel_rfl) ?_
              (refine qf_pure tabOk rfl rfl rfl (qf_pure tabOk rfl rfl rfl (qf_ar tabOk rfl rfl rfl rfl (by omega) (by omega) (qf_pure tabOk rfl rfl rfl ?_))); refine qf_loadBa tabOk rfl rfl rfl ?_; refine qf_pure tabOk rfl rfl rfl ?_)
              refine qf_index tabOk rfl rfl rfl rfl rfl (by omega) (by omega) ?_
              refine qf_load1 (v := .int .i64 (r.drifts.getD st 0)) tabOk rfl rfl rfl (fun w hs => rgc_dr (ownr.at hs (by repeat constructor)) st hstl) ?_
              (refine qf_pure tabOk rfl rfl rfl (qf_pure tabOk rfl rfl rfl ?_))
              refine qf_index tabOk rfl rfl rfl rfl rfl (by omega) (by omega) ?_
              refine qf_load1 (v := .int .i64 (O.getD x.shot 0)) tabOk rfl rfl rfl (fun w hs => by have := RdI.at (own_rdI (hs.mem (c := .ow (.slice (some ⟨ob, 0, none⟩) 5 oc) 3 1 5 (ints O)) (by repeat constructor)) hO5.symm) x.shot hxO; rw [hgO] at this; exact this) ?_
              (refine qf_ar tabOk rfl rfl rfl rfl (by omega) (by omega) (qf_pure tabOk rfl rfl rfl (qf_pure tabOk rfl rfl rfl ?_)); refine qf_loadBa tabOk rfl rfl rfl ?_; (iterate 4 refine qf_ar tabOk rfl rfl rfl rfl (by omega) (by omega) ?_))
              refine qf_mk #[.int .i64 (2500 * (x.shot : Int) + 5 * (r.drifts.getD st 0 + O.getD x.shot 0 + c * r.unit)), .int .i64 0] rfl (by kernel_rfl) rfl ?_
              skip
              refine qf_mkS 46 [.int .i64 (2500 * (x.shot : Int) + 5 * (r.drifts.getD st 0 + O.getD x.shot 0 + c * r.unit)), .int .i64 0] rfl (by kernel_rfl) rfl (fun bn => ?_)
              skip
              refine qf_append (q := 1) (news := [.int .i64 (2500 * (x.shot : Int) + 5 * (r.drifts.getD st 0 + O.getD x.shot 0 + c * r.unit)), .int .i64 0]) slSh rfl rfl rfl (fun v' => by repeat constructor) (fun w' hs => ⟨_, _, Blk.rdN (hs.blk (b := bn) (by repeat constructor)) rfl⟩) (by simp [oneV]) (by omega) (by omega) (fun u' => ?_)
              (refine qf_pure tabOk rfl rfl rfl (qf_nil (q_region (ql_pure tabOk rfl rfl (ql_ar tabOk rfl rfl rfl rfl (by omega) (by omega) (ql_pure tabOk rfl rfl (q_nil (q_blk (q_region (ql_ar tabOk rfl rfl rfl rfl (by omega) (by omega) (ql_pure tabOk rfl rfl (q_nil ?_))))))))))))
              exact hK ⟨(k + 1, y, A ++ [5 * z], co + p.click * max (c - x.cl) (x.cl - c), u'), hy, by dsimp only; omega⟩ _ _ trivial (by dsimp only; omega) ⟨rfl, rfl, rfl, rfl, rfl, lookI rfl (by dsimp only; rw [hys]; rfl), lookI rfl hyw.symm, lookI rfl hyc.symm, rfl, lookI rfl hyt.symm, rfl, rfl, rfl, trivial⟩ (by dsimp only; rw [shA_snoc, shC_snoc, hznat, hxl, List.length_append, hxl]; repeat constructor)
        · have hkn2 : k = n := by omega
          clear hc
          have h5 : x.shot = 5 := bt_all (by rw [hSn, ← hkn2]; exact hx) (by omega)
          (refine q_exit _ rfl ?_)
          exact hK2 ⟨(x, A, co, u), h5, k, hx⟩ _ _ ⟨rfl, rfl, rfl, rfl, rfl, rfl, trivial⟩ (by repeat constructor)
      · rintro ⟨⟨x, A, co, u⟩, h5, k, hx⟩
        dsimp only at h5 hx ⊢
        have hy : y0 = x := by rw [hy0]; exact bt_end hx h5
        have hAl : A.length = 5 := by rw [hx.len, h5]
        have hms := hx.misses
        have hco := hx.cost
        have hcb := hx.cb
        have hle := cntA_le 225 A 5
        rw [h5] at hms
        have hA := hx.bd
        have hmm : 0 ≤ p.miss * (5 - (cntA 225 A 5 : Int)) ∧ p.miss * (5 - (cntA 225 A 5 : Int)) ≤ 390 * 5 := ⟨Int.mul_nonneg (by omega) (by omega), Int.mul_le_mul (by omega) (by omega) (by omega) (by omega)⟩
        rw [show x.misses = 5 - (cntA 225 A 5 : Int) from by omega] at hco
        have hst5 := hx.steps
        have hwtb := hx.wt
        subst hy
        (refine q_seq (q_region (ql_pure tabOk rfl rfl ?_)))
        rw [hAl]
        refine ql_call (β := Value) (ψ := fun y v => v = .tuple #[y, .int .i64 0]) (L' := fun y => [.ow y 3 1 5 (ints (falA 225 A 5))]) tabOk [] _ M0 rfl rfl rfl rfl (Sp.refl _) (fun _ h => h.elim) (fun w' hs => by
          have := falls_ca w' 0 w'.heap.size u A 0 (sh_of (n := 5) (by rw [shA_len, hAl]) (own_rd (hs.mem (c := .ow u 46 2 5 (shC (shA A))) (by repeat constructor)))) hA (by omega) (.inl rfl)
          rw [hAl] at this
          exact this) ?_
        rintro fv _ rfl
        dsimp only [List.cons_append, List.nil_append]
        refine ql_fact (fun w hs => hs.ownSome (v := fv) (by repeat constructor) (by omega)) ?_
        rintro ⟨fb, fc, rfl⟩
        (refine ql_pure tabOk rfl rfl (ql_ext tabOk rfl rfl rfl (ql_ext tabOk rfl rfl rfl (ql_pure tabOk rfl rfl (ql_pure tabOk rfl rfl (q_nil (q_seq (q_region (ql_pure tabOk rfl rfl ?_)))))))))
        refine ql_callv (val := .tuple #[.int .i64 (5 - (cntA 225 A 5 : Int)), .int .i64 0]) tabOk rfl rfl rfl rfl (fun w hs => ?_) ?_; exact by have := loops_ca w 0 w.heap.size u A 0 (sh_of (n := 5) (by rw [shA_len, hAl]) (own_rd (hs.mem (c := .ow u 46 2 5 (shC (shA A))) (by repeat constructor)))) hA (by omega) (.inl rfl); rw [hAl] at this; exact this
        (refine ql_pure tabOk rfl rfl (ql_ext tabOk rfl rfl rfl (ql_ext tabOk rfl rfl rfl (ql_pure tabOk rfl rfl (ql_pure tabOk rfl rfl (q_nil (q_seq (q_seq (q_region (ql_pure tabOk rfl rfl (ql_neqF tabOk rfl rfl rfl (by omega) (ql_pure tabOk rfl rfl ?_))))))))))); refine ql_gyes rfl (ql_pure tabOk rfl rfl (ql_gyes rfl (ql_neqF tabOk rfl rfl rfl (by omega) (ql_pure tabOk rfl rfl (ql_pure tabOk rfl rfl (ql_gyes rfl (ql_pure tabOk rfl rfl (ql_gyes rfl (ql_pure tabOk rfl rfl (ql_gyes rfl (ql_neqF tabOk rfl rfl rfl (by omega) ?_))))))))))); refine ql_pure tabOk rfl rfl (q_nil (q_cond_false rfl (q_skip (q_seq (q_region (ql_pure tabOk rfl rfl (q_nil (q_seq (q_seq (q_region ?_)))))))))); (iterate 3 refine ql_pure tabOk rfl rfl ?_); refine q_nil (q_block ?_))
        refine q_conv (H' := [.ow (.slice none 0 0) 4 1 0 (bools (rndL A 0)), .ow (.slice (some ⟨fb, 0, none⟩) 5 fc) 3 1 5 (ints (falA 225 A 5)), .pt b11 [.int .i64 y0.misses, .int .i64 y0.cost, .int .i64 y0.steps] 36, .pt b7 [.int .i64 r.radius, .int .i64 r.unit, .int .i64 r.clicks, .int .i64 r.total, .slice (some ⟨bgr, ogr, none⟩) r.group.length cgr, .slice (some ⟨bdr, odr, none⟩) r.drifts.length cdr, .slice (some ⟨bfr, ofr, none⟩) r.first.length cfr, .slice (some ⟨bnr, onr, none⟩) r.next.length cnr] 28, .pt b8 [.int .i64 p.miss, .int .i64 p.click, .int .i64 p.wait, .int .i64 p.waits] 30, un Lr]) (fun w' hs => (Sat.ownil hs 4 1).sp (by repeat constructor)) ?_
        refine q_loop (σ := Nat × Value) (fun z => z.1 ≤ 5) (fun z => 5 - z.1) (fun z => [(8, .pointer (some ⟨b8, 0, none⟩)), (11, .pointer (some ⟨b11, 0, none⟩)), (17, .int .i64 co), (18, .int .i64 y0.steps), (24, .int .i64 (5 - (cntA 225 A 5 : Int))), (26, z.2), (183, .slice (some ⟨fb, 0, none⟩) 5 fc), (184, .int .i64 5), (185, .int .i64 z.1)]) (fun z => [.ow z.2 4 1 z.1 (bools (rndL A z.1)), .ow (.slice (some ⟨fb, 0, none⟩) 5 fc) 3 1 5 (ints (falA 225 A 5)), .pt b11 [.int .i64 y0.misses, .int .i64 y0.cost, .int .i64 y0.steps] 36, .pt b7 [.int .i64 r.radius, .int .i64 r.unit, .int .i64 r.clicks, .int .i64 r.total, .slice (some ⟨bgr, ogr, none⟩) r.group.length cgr, .slice (some ⟨bdr, odr, none⟩) r.drifts.length cdr, .slice (some ⟨bfr, ofr, none⟩) r.first.length cfr, .slice (some ⟨bnr, onr, none⟩) r.next.length cnr] 28, .pt b8 [.int .i64 p.miss, .int .i64 p.click, .int .i64 p.wait, .int .i64 p.waits] 30, un Lr]) (0, .slice none 0 0) (by simp) ⟨rfl, rfl, rfl, rfl, rfl, rfl, rfl, rfl, rfl, trivial⟩ (by repeat constructor) ?_
        rintro ⟨i, rv⟩ hi K hK
        dsimp only at hi ⊢
        (refine q_seq (q_region (ql_pure tabOk rfl rfl (q_nil (q_seq ?_)))))
        refine q_if rfl (fun hc => ?_) (fun hc => ?_)
        · have hi5 : i < 5 := by omega
          clear hc
          have hil : i < (falA 225 A 5).length := by rw [falA_len]; exact hi5
          have hg := falA_get hil
          (refine q_skip (q_seq (q_block (q_seq (q_region (ql_pure tabOk rfl rfl ?_))))))
          refine ql_index tabOk rfl rfl rfl rfl rfl (by omega) (by omega) ?_
          refine ql_load1 (v := .int .i64 (falA 225 A 5)[i]) tabOk rfl rfl rfl (fun w hs => RdI.at (own_rdI (l := falA 225 A 5) (hs.mem (c := .ow (.slice (some ⟨fb, 0, none⟩) 5 fc) 3 1 5 (ints (falA 225 A 5))) (by repeat constructor)) (falA_len 225 A 5).symm) i hil) ?_
          rw [hg]
          have hrs := rndL_succ A i
          cases hh : hitA 225 (A.getD i 0) with
          | true =>
            rw [hh] at hrs
            rw [if_pos rfl]
            (refine ql_pure tabOk rfl rfl (ql_pure tabOk rfl rfl (q_nil (q_seq (q_seq (q_region (ql_pure tabOk rfl rfl (ql_neqT tabOk rfl rfl rfl (by omega) (ql_pure tabOk rfl rfl (ql_gyes rfl (ql_pure tabOk rfl rfl (ql_gyes rfl ?_))))))))))); refine ql_pure tabOk rfl rfl (ql_gyes rfl (ql_ar tabOk rfl rfl rfl rfl (by omega) (by omega) (ql_gyes rfl (ql_neqF tabOk rfl rfl rfl (by omega) (ql_pure tabOk rfl rfl (q_nil (q_cond_false rfl (q_skip (q_region (ql_pure tabOk rfl rfl (ql_pure tabOk rfl rfl ?_))))))))))); refine ql_gtrT tabOk rfl rfl rfl (by omega) ?_)
            refine ql_mkS 4 [.bool true] rfl (by kernel_rfl) rfl (fun bn => ?_)
            skip
            refine ql_append (q := 1) (news := [.bool true]) slBo rfl rfl rfl (fun v' => by repeat constructor) (fun w' hs => ⟨_, _, Blk.rdN (hs.blk (b := bn) (by repeat constructor)) rfl⟩) (by simp [oneV]) (by omega) (by omega) (fun u' => ?_)
            (refine ql_pure tabOk rfl rfl (q_nil (q_blk (q_region (ql_ar tabOk rfl rfl rfl rfl (by omega) (by omega) (ql_pure tabOk rfl rfl (q_nil ?_)))))))
            exact hK (i + 1, u') _ _ (by simp only; omega) (by simp only; omega) ⟨rfl, rfl, rfl, rfl, rfl, rfl, rfl, rfl, rfl, trivial⟩ (by dsimp only; rw [hrs]; repeat constructor)
          | false =>
            rw [hh] at hrs
            rw [if_neg (by decide)]
            (refine ql_pure tabOk rfl rfl (ql_pure tabOk rfl rfl (q_nil (q_seq (q_seq (q_region (ql_pure tabOk rfl rfl (ql_neqF tabOk rfl rfl rfl (by omega) (ql_pure tabOk rfl rfl ?_)))))))); (iterate 4 refine ql_gno rfl rfl rfl ?_); refine ql_pure tabOk rfl rfl (q_nil (q_cond_false rfl (q_skip (q_region (ql_pure tabOk rfl rfl (ql_pure tabOk rfl rfl (ql_gtrF tabOk rfl rfl rfl (by omega) ?_))))))))
            refine ql_mkS 4 [.bool false] rfl (by kernel_rfl) rfl (fun bn => ?_)
            skip
            refine ql_append (q := 1) (news := [.bool false]) slBo rfl rfl rfl (fun v' => by repeat constructor) (fun w' hs => ⟨_, _, Blk.rdN (hs.blk (b := bn) (by repeat constructor)) rfl⟩) (by simp [oneV]) (by omega) (by omega) (fun u' => ?_)
            (refine ql_pure tabOk rfl rfl (q_nil (q_blk (q_region (ql_ar tabOk rfl rfl rfl rfl (by omega) (by omega) (ql_pure tabOk rfl rfl (q_nil ?_)))))))
            exact hK (i + 1, u') _ _ (by simp only; omega) (by simp only; omega) ⟨rfl, rfl, rfl, rfl, rfl, rfl, rfl, rfl, rfl, trivial⟩ (by dsimp only; rw [hrs]; repeat constructor)
        · obtain rfl : i = 5 := by omega
          clear hc hK
          (refine q_exit _ rfl (q_seq (q_region (ql_pure tabOk rfl rfl ?_))))
          have hrl : (rndL A 5).length = 5 := by simp [rndL]
          obtain ⟨us, hus⟩ : ∃ us : Int, us = if 0 < 5 - (cntA 225 A 5 : Int) then 3 else 0 := ⟨_, rfl⟩
          refine ql_callv (val := .tuple #[.agg #[.int .i64 0, .int .i64 (5 - (cntA 225 A 5 : Int)), .int .i64 us], .int .i64 0]) tabOk rfl rfl rfl rfl (fun w hs => ?_) ?_; exact by have := rshot_ca w 0 w.heap.size rv (rndL A 5) (RdB.of (by rw [hrl]; exact own_rd (hs.mem (c := .ow rv 4 1 5 (bools (rndL A 5))) (by repeat constructor)))) hrl; rw [rndL_cnt A 5 5 (Nat.le_refl _), ← hus] at this; exact this
          (refine ql_pure tabOk rfl rfl (ql_ext tabOk rfl rfl rfl (ql_ext tabOk rfl rfl rfl ?_)))
          refine ql_alloc zero54 rfl (fun b29 => ?_)
          (refine ql_setA tabOk rfl rfl rfl rfl rfl (by repeat constructor) rfl ?_; refine ql_pure tabOk rfl rfl (q_nil (q_seq (q_region (ql_pure tabOk rfl rfl (ql_eqlT tabOk rfl rfl rfl (by omega) (ql_pure tabOk rfl rfl (ql_gyes rfl (ql_pure tabOk rfl rfl (ql_gyes rfl (ql_pure tabOk rfl rfl (ql_gyes rfl ?_))))))))))); refine ql_loadBa tabOk rfl rfl rfl ?_; refine ql_gyes rfl (ql_eqlT tabOk rfl rfl rfl (by omega) (ql_pure tabOk rfl rfl (ql_pure tabOk rfl rfl (ql_gyes rfl (ql_pure tabOk rfl rfl (ql_gyes rfl ?_)))))); refine ql_loadBa tabOk rfl rfl rfl ?_; refine ql_gyes rfl (ql_pure tabOk rfl rfl (ql_gyes rfl (ql_eqlT tabOk rfl rfl rfl (by omega) (ql_pure tabOk rfl rfl (ql_pure tabOk rfl rfl (ql_gyes rfl (ql_pure tabOk rfl rfl (ql_gyes rfl ?_)))))))); refine ql_loadBa tabOk rfl rfl rfl ?_; refine ql_gyes rfl (ql_eqlT tabOk rfl rfl rfl (by omega) (ql_pure tabOk rfl rfl (ql_pure tabOk rfl rfl (ql_gyes rfl (ql_pure tabOk rfl rfl (ql_gyes rfl ?_)))))); refine ql_loadBa tabOk rfl rfl rfl ?_; refine ql_gyes rfl (ql_pure tabOk rfl rfl (ql_gyes rfl (ql_eqlT tabOk rfl rfl rfl (by omega) (ql_pure tabOk rfl rfl (ql_pure tabOk rfl rfl (ql_gyes rfl (ql_pure tabOk rfl rfl (ql_gyes rfl ?_)))))))); refine ql_loadBa tabOk rfl rfl rfl ?_; refine ql_gyes rfl (ql_pure tabOk rfl rfl (ql_gyes rfl (ql_pure tabOk rfl rfl (ql_gyes rfl ?_)))); refine ql_loadBa tabOk rfl rfl rfl ?_; refine ql_gyes rfl (ql_pure tabOk rfl rfl (ql_gyes rfl (ql_ar tabOk rfl rfl rfl rfl (by omega) (by omega) (ql_gyes rfl (ql_ar tabOk rfl rfl rfl rfl (by omega) (by omega) (ql_gyes rfl (ql_eqlT tabOk rfl rfl rfl (by omega) (ql_pure tabOk rfl rfl (ql_pure tabOk rfl rfl (q_nil (q_ret ?_))))))))))))
          refine q_fin tabOk rfl (by repeat constructor) fun w hs => ?_
          exact ⟨rfl, hs.chg0⟩
end Go.Proofs.Ytgmmmkmekbiboab
