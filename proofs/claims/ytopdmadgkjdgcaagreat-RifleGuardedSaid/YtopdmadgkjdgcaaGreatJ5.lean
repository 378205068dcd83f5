/- My texts LwL, joined: a claim takes at most 60 files. -/
import Derived.Test.YtopdmadgkjdgcaaGreatJ4

/- RifleGuarded. Written by gen_LwL.py. -/
namespace Go.Proofs.YtopdmadgkjdgcaaGreat
set_option maxRecDepth 4000
open Go Go.Eng
set_option maxHeartbeats 8000000 in
set_option maxRecDepth 20000 in
theorem rifleGuarded_ca (w : World) (a a2 : Option Addr) (nb cb n2 c2 : Nat) (x2 x3 : Int) (hx2 : 0 ≤ x2 ∧ x2 < 256) (hx3 : 0 ≤ x3 ∧ x3 < 256) (hbyb1 : DkB w 0 w.heap.size (.slice a nb cb)) (hbybD : DkB w 0 w.heap.size (.slice a2 n2 c2)) :
    Ca Tryz.prog 14 [.slice a nb cb, (.slice a2 n2 c2), .int .u8 x2, .int .u8 x3] w fun r w' => r = .bool true ∧ Chg [] w w' := by
  refine q_of (Sat.nil w M0) Tryz.func14 rfl (by simp [Tryz.ntmps14]) ?_
  (refine q_seq (q_region (ql_pure tabOk rfl rfl (q_nil (q_seq (q_region (ql_pure tabOk rfl rfl ?_)))))))
  refine ql_call (β := Nat) tabOk [] _ M0 rfl rfl rfl rfl (Sp.refl _) (fun _ h => h.elim) (fun w' hs => of_ca w' a nb cb) ?_
  rintro b1 _ rfl
  dsimp only [List.cons_append, List.nil_append]
  refine ql_call (β := Value × List Hd) (ψ := fun y v => v = y.1 ∧ GrdL 14 y.2) (L' := fun y => [.ow y.1 28 3 y.2.length (hdC y.2), dkP (.slice a nb cb) b1 (0 + 100)]) tabOk [dkP (.slice a nb cb) b1 0] _ (fun x => x = b1) rfl rfl rfl rfl (Sp.cons (by repeat constructor) (Sp.refl _)) (fun x hx => ⟨_, .head _, hx⟩) (fun w' hs => guarded0 (most := 14) hbyb1 hs (by omega) (by omega) (by omega)) ?_
  rintro ⟨v', L⟩ v ⟨hv, hm⟩
  dsimp only at hv hm
  subst hv
  dsimp only [List.cons_append, List.nil_append]
  have hn1 := hm.n1
  have hn2 := hm.n2
  refine ql_fact (fun w hs => hs.ownSome (v := v) (by repeat constructor) (by omega)) ?_
  rintro ⟨g, gc, rfl⟩
  have e2 : IntKind.i64.wrap x2 = x2 := w64 (by omega) (by omega)
  have e3 : IntKind.i64.wrap x3 = x3 := w64 (by omega) (by omega)
  (refine ql_pure tabOk rfl rfl (q_nil (q_seq (q_region (ql_pure tabOk rfl rfl ?_)))))
  refine ql_call (β := Nat) tabOk [] _ M0 rfl rfl rfl rfl (Sp.refl _) (fun _ h => h.elim) (fun w' hs => of_ca w' a2 n2 c2) ?_
  rintro bD _ rfl
  dsimp only [List.cons_append, List.nil_append]
  (refine ql_pure tabOk rfl rfl (q_nil (q_seq (q_region (ql_pure tabOk rfl rfl (ql_pure tabOk rfl rfl (ql_remN rfl rfl rfl (by omega) (by omega) (ql_pure tabOk rfl rfl (q_nil (q_seq (q_region (ql_pure tabOk rfl rfl ?_))))))))))); refine ql_ar tabOk rfl rfl rfl rfl (by omega) (by omega) (ql_pure tabOk rfl rfl (ql_pure tabOk rfl rfl (ql_remN rfl rfl rfl (by omega) (by omega) (ql_ar tabOk rfl rfl rfl rfl (by omega) (by omega) (ql_pure tabOk rfl rfl (q_nil (q_seq (q_region ?_)))))))); (iterate 3 refine ql_pure tabOk rfl rfl ?_))
  obtain ⟨f, hf⟩ : ∃ f, f = IntKind.i64.wrap x2 % 60 := ⟨_, rfl⟩
  rw [← hf]
  obtain ⟨t, ht⟩ : ∃ t, t = f + 1 + IntKind.i64.wrap x3 % 120 := ⟨_, rfl⟩
  rw [← ht]
  have hf2 : 0 ≤ f ∧ f < 60 := by omega
  have ht2 : f + 1 ≤ t ∧ t ≤ f + 120 := by omega
  clear hf ht e2 e3
  have h0 : SpOk L f t := ⟨hm.ok (by omega), by omega, by omega⟩
  skip
  refine ql_call (β := Int × Int) tabOk [] _ M0 rfl rfl rfl rfl (Sp.refl _) (fun _ h => h.elim) (fun w' hs => gap_ok w' 0 w'.heap.size L _ f t (own_rdH (hs.mem (c := .ow (.slice (some ⟨g, 0, none⟩) L.length gc) 28 3 L.length (hdC L)) (by repeat constructor)) rfl) (by omega) h0) ?_
  rintro ⟨gp, ge⟩ _ ⟨rfl, hgp⟩
  dsimp only [List.cons_append, List.nil_append]
  (refine ql_pure tabOk rfl rfl (ql_ext tabOk rfl rfl rfl (ql_ext tabOk rfl rfl rfl ?_)))
  refine ql_alloc zero3 rfl (fun b13 => ?_)
  (refine ql_set tabOk rfl rfl rfl rfl (by repeat constructor) ?_; refine ql_pure tabOk rfl rfl (q_nil (q_seq (q_region ?_))); (iterate 3 refine ql_pure tabOk rfl rfl ?_))
  refine ql_call (β := (Value × List Int) × Int) tabOk [] _ M0 rfl rfl rfl rfl (Sp.refl _) (fun _ h => h.elim) (fun w' hs => chn_ok w' 0 w'.heap.size L _ f t (own_rdH (hs.mem (c := .ow (.slice (some ⟨g, 0, none⟩) L.length gc) 28 3 L.length (hdC L)) (by repeat constructor)) rfl) (by omega) h0) ?_
  rintro ⟨⟨vc, C⟩, e⟩ _ ⟨rfl, hcn⟩
  dsimp only [List.cons_append, List.nil_append]
  (refine ql_pure tabOk rfl rfl (ql_ext tabOk rfl rfl rfl (ql_ext tabOk rfl rfl rfl (ql_pure tabOk rfl rfl (ql_pure tabOk rfl rfl (q_nil (q_seq (q_region ?_))))))); (iterate 3 refine ql_pure tabOk rfl rfl ?_))
  refine ql_call (β := (Value × List Int) × Int) tabOk [] _ M0 rfl rfl rfl rfl (Sp.refl _) (fun _ h => h.elim) (fun w' hs => mrk_ok w' 0 w'.heap.size L _ f t (own_rdH (hs.mem (c := .ow (.slice (some ⟨g, 0, none⟩) L.length gc) 28 3 L.length (hdC L)) (by repeat constructor)) rfl) (by omega) h0) ?_
  rintro ⟨⟨vm, M⟩, e4⟩ _ ⟨rfl, hmk⟩
  dsimp only [List.cons_append, List.nil_append]
  dsimp only at hgp hcn hmk ⊢
  refine ql_fact (fun w hs => hs.slice2 (v := vc) (by repeat constructor)) ?_
  rintro ⟨xa, xc, rfl⟩
  refine ql_fact (fun w hs => hs.slice2 (v := vm) (by repeat constructor)) ?_
  rintro ⟨ya, yc, rfl⟩
  obtain ⟨hs2, hmk⟩ := hmk
  have hC30 : C.length ≤ 14 := by have := chn_le hcn (by omega); omega
  have hcase : (Gd L f t ∧ e = 0 ∧ e4 = 0 ∧ ge = 6 ∧ gp = 0 ∧ ∃ hs ms, Lk L t f hs ms t ∧ C.Perm (nI hs) ∧ C.Pairwise (· ≤ ·) ∧ Lk L t f hs2 M t) ∨ (¬ Gd L f t ∧ e = 6 ∧ e4 = 6 ∧ ge = 0 ∧ C = [] ∧ (f ≤ gp ∧ gp < t) ∧ Gd L f gp ∧ ∀ x ∈ L, x.cov gp = false) := by
    by_cases hG : Gd L f t
    · left
      rcases hcn with ⟨h1, hs1, ms1, hk1, hp1, hso⟩ | ⟨_, _, hno⟩
      rotate_left
      · exact absurd hG hno
      rcases hmk with ⟨h2, hk2⟩ | ⟨_, _, _, hno⟩
      rotate_left
      · exact absurd hG hno
      rcases hgp with ⟨_, h3, _, h4⟩ | ⟨h3, h4, _⟩
      · obtain ⟨x, hx, hxc⟩ := hG gp h3.1 h3.2
        rw [h4 x hx] at hxc
        cases hxc
      · exact ⟨hG, h1, h2, h3, h4, hs1, ms1, hk1, hp1, hso, hk2⟩
    · right
      rcases hcn with ⟨_, hs1, ms1, hk1, _⟩ | ⟨h1, h2, _⟩
      · exact absurd ((hk1.full (by omega)).1 rfl) hG
      rcases hmk with ⟨_, hk2⟩ | ⟨h3, _, _, _⟩
      · exact absurd ((hk2.full (by omega)).1 rfl) hG
      rcases hgp with ⟨h4, h5, h6, h7⟩ | ⟨_, _, h5⟩
      · exact ⟨hG, h1, h3, h4, h2, h5, h6, h7⟩
      · exact absurd h5 hG
  clear hcn hmk hgp
  rcases hcase with ⟨hG, rfl, rfl, rfl, rfl, hs1, ms1, hk1, hp1, hso, hk2⟩ | ⟨hG, rfl, rfl, rfl, hC0, hgp1, hgp2, hgp3⟩
  · (refine ql_pure tabOk rfl rfl (ql_ext tabOk rfl rfl rfl (ql_ext tabOk rfl rfl rfl (ql_pure tabOk rfl rfl (ql_pure tabOk rfl rfl (q_nil (q_seq (q_seq (q_region (ql_pure tabOk rfl rfl (ql_neqT tabOk rfl rfl rfl (by omega) (ql_pure tabOk rfl rfl ?_))))))))))); refine ql_gyes rfl (ql_pure tabOk rfl rfl (ql_gyes rfl (ql_neqF tabOk rfl rfl rfl (by omega) (ql_pure tabOk rfl rfl (ql_pure tabOk rfl rfl (ql_gyes rfl (ql_pure tabOk rfl rfl (ql_gyes rfl (ql_eqlF tabOk rfl rfl rfl (by omega) (ql_gyes rfl (ql_pure tabOk rfl rfl ?_))))))))))); refine ql_gyes rfl (ql_eqlF tabOk rfl rfl rfl (by omega) (ql_gyes rfl ?_)))
    refine ql_neb (p := false) (q := false) (by kernel_rfl) rfl rfl rfl ?_
    rw [show (!(false == false)) = false from rfl]
    have hsub := all_sub hk1.idx hp1
    have hgc : Gd (hC L C) f t := (gd_congr hsub.2).2 hk1.gd
    have hcl : C.length = hs1.length := by rw [hp1.length_eq, nI_len]
    have hml : M.length = C.length := by rw [hcl, ← hk2.len]; exact (lk_same hk1 hk2).symm
    have hpos : 0 < C.length := by
      obtain ⟨x, hx, _⟩ := hgc f (Int.le_refl _) (by omega)
      have := List.length_pos_of_mem hx
      simpa [hC] using this
    have hmk1 : mkK L f t M M.length = true := mkK_iff.2 hk2.mk
    (refine ql_pure tabOk rfl rfl (ql_pure tabOk rfl rfl (ql_gyes rfl (ql_pure tabOk rfl rfl (ql_gyes rfl (ql_pure tabOk rfl rfl (ql_gyes rfl (ql_neqF tabOk rfl rfl rfl (by omega) (ql_pure tabOk rfl rfl (ql_pure tabOk rfl rfl (ql_gyes rfl (ql_pure tabOk rfl rfl ?_))))))))))); refine ql_gyes rfl (ql_neqT tabOk rfl rfl rfl (by omega) (ql_gyes rfl (ql_pure tabOk rfl rfl (ql_gyes rfl (ql_pure tabOk rfl rfl (ql_gyes rfl (ql_neqF tabOk rfl rfl rfl (by omega) (ql_gyes rfl (ql_pure tabOk rfl rfl (ql_pure tabOk rfl rfl (q_nil ?_))))))))))); refine q_cond_false rfl (q_skip (q_seq (q_seq (q_region (ql_pure tabOk rfl rfl (ql_eqlF tabOk rfl rfl rfl (by omega) (q_nil (q_cond_false rfl (q_seq (q_region ?_)))))))))); (iterate 4 refine ql_pure tabOk rfl rfl ?_))
    refine ql_call (β := Bool × Int) (ψ := fun y v => v = .tuple #[.bool y.1, .int .i64 y.2] ∧ GrdsR L f t C y) (L' := fun _ => []) tabOk [] _ M0 rfl rfl rfl rfl (Sp.refl _) (fun _ h => h.elim) (fun w' hs => (rgrd_ok w' 0 w'.heap.size 0 w'.heap.size L _ _ f t C (own_rdH (hs.mem (c := .ow (.slice (some ⟨g, 0, none⟩) L.length gc) 28 3 L.length (hdC L)) (by repeat constructor)) rfl) (own_rdI (hs.mem (c := .ow (.slice xa C.length xc) 3 1 C.length (ints C)) (by repeat constructor)) rfl) (by omega) h0).mono fun x w2 ⟨⟨y, h1, h2⟩, h3⟩ => ⟨y, ⟨h1, h2⟩, (Sat.nil w' M0).keep h3⟩) ?_
    rintro ⟨z, zx⟩ _ ⟨rfl, hz⟩
    dsimp only [List.cons_append, List.nil_append]
    have hz1 : zx = 0 ∧ z = true := by
      rcases hz with ⟨h1, _⟩ | ⟨_, h2, h3⟩
      · rw [hsub.1] at h1; cases h1
      · exact ⟨h2, h3.2 hgc⟩
    obtain ⟨rfl, rfl⟩ := hz1
    clear hz
    (refine ql_pure tabOk rfl rfl (ql_ext tabOk rfl rfl rfl (ql_ext tabOk rfl rfl rfl (ql_pure tabOk rfl rfl (ql_pure tabOk rfl rfl (q_nil (q_seq (q_region ?_))))))); (iterate 4 refine ql_pure tabOk rfl rfl ?_))
    refine ql_callv (val := .tuple #[.bool true, .int .i64 0]) tabOk rfl rfl rfl rfl (fun w hs => ?_) ?_; exact by have := mks_ok w 0 w.heap.size 0 w.heap.size L _ _ M f t (own_rdH (hs.mem (c := .ow (.slice (some ⟨g, 0, none⟩) L.length gc) 28 3 L.length (hdC L)) (by repeat constructor)) rfl) (own_rdI (hs.mem (c := .ow (.slice ya M.length yc) 3 1 M.length (ints M)) (by repeat constructor)) rfl) (by omega) h0; rw [hmk1] at this; exact this
    (refine ql_pure tabOk rfl rfl (ql_ext tabOk rfl rfl rfl (ql_ext tabOk rfl rfl rfl (ql_pure tabOk rfl rfl (ql_pure tabOk rfl rfl (q_nil (q_seq (q_seq (q_region (ql_pure tabOk rfl rfl (ql_neqF tabOk rfl rfl rfl (by omega) (ql_pure tabOk rfl rfl ?_))))))))))); refine ql_gyes rfl (ql_pure tabOk rfl rfl (ql_gyes rfl (ql_neqF tabOk rfl rfl rfl (by omega) (ql_pure tabOk rfl rfl (ql_pure tabOk rfl rfl (ql_gyes rfl (ql_pure tabOk rfl rfl (ql_gyes rfl ?_)))))))); (iterate 3 refine ql_pure tabOk rfl rfl ?_); refine ql_gyes rfl (ql_pure tabOk rfl rfl (ql_gyes rfl ?_)); (iterate 3 refine ql_pure tabOk rfl rfl ?_); refine ql_gyes rfl (ql_pure tabOk rfl rfl (ql_gyes rfl (ql_pure tabOk rfl rfl (ql_gyes rfl (ql_pure tabOk rfl rfl (ql_gyes rfl (ql_pure tabOk rfl rfl (ql_gyes rfl (ql_neqF tabOk rfl rfl rfl (by omega) (ql_pure tabOk rfl rfl (ql_pure tabOk rfl rfl ?_))))))))))); refine ql_gyes rfl (ql_pure tabOk rfl rfl (ql_gyes rfl (ql_pure tabOk rfl rfl (ql_gyes rfl (ql_eqlF tabOk rfl rfl rfl (by omega) (ql_pure tabOk rfl rfl (q_nil (q_cond_false rfl (q_skip (q_seq (q_region ?_))))))))))); (iterate 3 refine ql_pure tabOk rfl rfl ?_); refine q_nil (q_block ?_))
    refine q_loop (σ := Nat) (fun i => i ≤ C.length) (fun i => C.length - i) (fun i => [(9, (.slice (some ⟨g, 0, none⟩) L.length gc)), (10, .pointer (some ⟨bD, 0, none⟩)), (11, .int .i64 f), (12, .int .i64 t), (15, (.slice xa C.length xc)), (18, .int .i64 0), (166, (.slice xa C.length xc)), (167, .int .i64 C.length), (168, .int .i64 i)]) (fun _ => [.ow (.slice xa C.length xc) 3 1 C.length (ints C), dkP (.slice a2 n2 c2) bD (0), .ow (.slice (some ⟨g, 0, none⟩) L.length gc) 28 3 L.length (hdC L)]) 0 (by omega) ⟨rfl, rfl, rfl, rfl, rfl, rfl, rfl, rfl, rfl, trivial⟩ (by repeat constructor) ?_
    intro i hi0 K1 hK1
    (refine q_seq (q_region (ql_pure tabOk rfl rfl (q_nil (q_seq ?_)))))
    refine q_if rfl (fun hc => ?_) (fun hc => ?_)
    · have hi : i < C.length := by omega
      clear hc
      obtain ⟨hok1, hless⟩ := chain_less hk1 hp1 hi
      (refine q_skip (q_seq (q_block (q_seq (q_region (ql_pure tabOk rfl rfl (ql_pure tabOk rfl rfl (q_nil (q_seq ?_)))))))))
      refine q_draw _ [] (Sp.refl _) (by kernel_rfl) (by kernel_rfl) ?_
      ((iterate 5 refine qf_pure tabOk rfl rfl rfl ?_))
      refine qf_fact (fun w hs => hs.ownSome (v := (.slice xa C.length xc)) (by repeat constructor) (by omega)) ?_
      rintro ⟨xb, xd, e⟩
      cases e
      refine qf_fact (fun w hs => own_capR (a := some ⟨xb, 0, none⟩) (e := 3) (sz := 1) (m := C.length) (n := C.length) (c := xc) (xs := ints C) hs (by repeat constructor)) ?_
      intro hcap
      refine qf_sliceTo (et := 3) (sz := 1) (l := i) (by kernel_rfl) (by kernel_rfl) rfl rfl rfl (by omega) (by omega) ?_
      rw [if_neg (by omega), Option.map_some, Addr.add_lit, Int.toNat_natCast]
      skip
      refine qf_call (β := Value) (ψ := fun y v => v = y) (L' := fun y => [.ow y 3 1 (C.take i).length (ints (C.take i))]) tabOk [] _ M0 rfl rfl rfl rfl (Sp.refl _) (fun _ h => h.elim) (fun w' hs => sclone_ca w' 0 w'.heap.size _ (C.take i) (rI_to (own_rdI (hs.mem (c := .ow (.slice (some ⟨xb, 0, none⟩) C.length xc) 3 1 C.length (ints C)) (by repeat constructor)) rfl) (by omega)) (by rw [List.length_take]; omega)) ?_
      rintro _ vt rfl
      dsimp only [List.cons_append, List.nil_append]
      (refine qf_pure tabOk rfl rfl rfl (qf_pure tabOk rfl rfl rfl (qf_ar tabOk rfl rfl rfl rfl (by omega) (by omega) ?_)))
      refine qf_sliceFrom (et := 3) (sz := 1) (l := (i : Int) + 1) (by kernel_rfl) (by kernel_rfl) rfl rfl rfl (by omega) (by omega) ?_
      rw [show ((i : Int) + 1).toNat = i + 1 from by omega]
      obtain ⟨ad, had, hade⟩ : ∃ ad, (if xc = i + 1 then some ⟨xb, 0, none⟩ else Option.map (fun x => Addr.add x ((i + 1) * 1)) (some (⟨xb, 0, none⟩ : Addr))) = some ad ∧ (i + 1 < C.length → ad = ⟨xb, 0 + (i + 1) * 1, none⟩) := by
        by_cases c : xc = i + 1
        · exact ⟨⟨xb, 0, none⟩, if_pos c, fun h => by omega⟩
        · exact ⟨⟨xb, 0 + (i + 1) * 1, none⟩, by rw [if_neg c, Option.map_some, Addr.add_lit], fun _ => rfl⟩
      rw [had]
      skip
      refine qf_append (q := C.length - (i + 1)) (news := ints (C.drop (i + 1))) slI rfl rfl rfl (fun v' => by repeat constructor) (fun w' hs => ⟨_, _, by have := RdI.row (rI_from (c2 := xc - (i + 1)) (own_rdI (hs.mem (c := .ow (.slice (some ⟨xb, 0, none⟩) C.length xc) 3 1 C.length (ints C)) (by repeat constructor)) rfl) (by omega) hade); rw [List.length_drop] at this; exact this⟩) (fun c hc => by obtain ⟨x, _, rfl⟩ := List.mem_map.1 hc; rfl) (by rw [List.length_take]; omega) (by rw [List.length_take]; omega) (fun u1 => ?_)
      have hl1 : (C.take i ++ C.drop (i + 1)).length = (C.take i).length + (C.length - (i + 1)) := by rw [List.length_append, List.length_drop]
      rw [show ints (C.take i) ++ ints (C.drop (i + 1)) = ints (C.take i ++ C.drop (i + 1)) from by simp [ints], ← hl1]
      generalize C.take i ++ C.drop (i + 1) = Q at *
      have hQ : Q.length ≤ 30 := by rw [hl1, List.length_take]; omega
      skip
      refine qf_call (β := Bool × Int) (ψ := fun y v => v = .tuple #[.bool y.1, .int .i64 y.2] ∧ GrdsR L f t Q y) (L' := fun _ => []) tabOk [] _ M0 rfl rfl rfl rfl (Sp.refl _) (fun _ h => h.elim) (fun w' hs => (rgrd_ok w' 0 w'.heap.size 0 w'.heap.size L _ _ f t Q (own_rdH (hs.mem (c := .ow (.slice (some ⟨g, 0, none⟩) L.length gc) 28 3 L.length (hdC L)) (by repeat constructor)) rfl) (own_rdI (hs.mem (c := .ow u1 3 1 Q.length (ints Q)) (by repeat constructor)) rfl) (by omega) h0).mono fun x w2 ⟨⟨y, h1, h2⟩, h3⟩ => ⟨y, ⟨h1, h2⟩, (Sat.nil w' M0).keep h3⟩) ?_
      rintro ⟨z, zx⟩ _ ⟨rfl, hz⟩
      dsimp only [List.cons_append, List.nil_append]
      have hz1 : zx = 0 ∧ z = false := by
        rcases hz with ⟨h1, _⟩ | ⟨_, h2, h3⟩
        · rw [hok1] at h1; cases h1
        · exact ⟨h2, by cases z; rfl; exact absurd (h3.1 rfl) hless⟩
      obtain ⟨rfl, rfl⟩ := hz1
      clear hz
      (refine qf_pure tabOk rfl rfl rfl (qf_ext tabOk rfl rfl rfl (qf_ext tabOk rfl rfl rfl (qf_pure tabOk rfl rfl rfl (qf_pure tabOk rfl rfl rfl (qf_nil (q_seq (q_region (ql_pure tabOk rfl rfl (ql_neqF tabOk rfl rfl rfl (by omega) (ql_pure tabOk rfl rfl (ql_gyes rfl ?_))))))))))); refine ql_pure tabOk rfl rfl (ql_pure tabOk rfl rfl (q_nil (q_cond_false rfl (q_skip (q_blk (q_region (ql_ar tabOk rfl rfl rfl rfl (by omega) (by omega) (ql_pure tabOk rfl rfl (q_nil ?_))))))))))
      exact hK1 (i + 1) _ _ (by omega) (by omega) ⟨rfl, rfl, rfl, rfl, rfl, rfl, rfl, rfl, rfl, trivial⟩ (by repeat constructor)
    · clear hc hK1
      (refine q_exit _ rfl (q_seq (q_seq (q_region (ql_pure tabOk rfl rfl (q_nil (q_block ?_)))))))
      refine q_loop (σ := Nat) (fun r => r ≤ 6) (fun r => 6 - r) (fun r => [(9, (.slice (some ⟨g, 0, none⟩) L.length gc)), (10, .pointer (some ⟨bD, 0, none⟩)), (11, .int .i64 f), (12, .int .i64 t), (15, (.slice xa C.length xc)), (18, .int .i64 0), (193, .int .i64 r)]) (fun r => [dkP (.slice a2 n2 c2) bD (300 * r), .ow (.slice (some ⟨g, 0, none⟩) L.length gc) 28 3 L.length (hdC L)]) 0 (by omega) ⟨rfl, rfl, rfl, rfl, rfl, rfl, rfl, trivial⟩ (by repeat constructor) ?_
      intro r hr K1 hK1
      (refine q_seq (q_region (ql_pure tabOk rfl rfl (q_nil (q_seq ?_)))))
      refine q_if rfl (fun hc => ?_) (fun hc => ?_)
      · have hr6 : r < 6 := by omega
        clear hc
        (refine q_skip (q_seq (q_block (q_seq (q_region (ql_pure tabOk rfl rfl (ql_pure tabOk rfl rfl (q_nil (q_seq (q_seq (q_region ?_)))))))))); (iterate 3 refine ql_pure tabOk rfl rfl ?_); refine q_nil (q_block ?_))
        refine q_conv (H' := [.ow (.slice none 0 0) 3 1 0 (ints []), dkP (.slice a2 n2 c2) bD (300 * r + 0), .ow (.slice (some ⟨g, 0, none⟩) L.length gc) 28 3 L.length (hdC L)]) (fun w' hs => (Sat.ownil hs 3 1).sp (by repeat constructor)) ?_
        refine q_loop (σ := Nat × Value × List Int) (fun ⟨i, v, S⟩ => i ≤ L.length ∧ S.length ≤ i ∧ ∀ c ∈ S, 0 ≤ c ∧ c < (i : Int)) (fun ⟨i, _, _⟩ => L.length - i) (fun ⟨i, v, S⟩ => [(9, (.slice (some ⟨g, 0, none⟩) L.length gc)), (10, .pointer (some ⟨bD, 0, none⟩)), (11, .int .i64 f), (12, .int .i64 t), (15, (.slice xa C.length xc)), (18, .int .i64 0), (193, .int .i64 r), (28, v), (29, .slice none 0 0), (195, (.slice (some ⟨g, 0, none⟩) L.length gc)), (196, .int .i64 L.length), (197, .int .i64 i)]) (fun ⟨i, v, S⟩ => [.ow v 3 1 S.length (ints S), dkP (.slice a2 n2 c2) bD (300 * r + i), .ow (.slice (some ⟨g, 0, none⟩) L.length gc) 28 3 L.length (hdC L)]) (0, .slice none 0 0, []) ⟨by omega, by simp, fun c h => by cases h⟩ ⟨rfl, rfl, rfl, rfl, rfl, rfl, rfl, rfl, rfl, rfl, rfl, rfl, trivial⟩ (by repeat constructor) ?_
        rintro ⟨i, v, S⟩ ⟨hi1, hi2, hi3⟩ K2 hK2
        dsimp only at hi1 hi2 hi3 hK2 ⊢
        (refine q_seq (q_region (ql_pure tabOk rfl rfl (q_nil (q_seq ?_)))))
        refine q_if rfl (fun hc => ?_) (fun hc => ?_)
        · have hil : i < L.length := by omega
          clear hc
          (refine q_skip (q_seq (q_block (q_seq (q_region (ql_pure tabOk rfl rfl (ql_pure tabOk rfl rfl (q_nil (q_seq (q_region (ql_pure tabOk rfl rfl ?_)))))))))))
          refine ql_call (β := Bool) (ψ := fun x v => v = .bool x) (L' := fun _ => [dkP (.slice a2 n2 c2) bD (300 * r + i + 1)]) tabOk [dkP (.slice a2 n2 c2) bD (300 * r + i)] _ (fun x => x = bD) rfl rfl rfl rfl (Sp.cons (by repeat constructor) (Sp.refl _)) (fun x hx => ⟨_, .head _, hx⟩) (fun w' hs => coin70 hbybD hs (by omega) (by omega)) ?_
          rintro cc _ rfl
          dsimp only [List.cons_append, List.nil_append]
          cases cc
          · (refine q_nil (q_cond_false rfl (q_skip (q_blk (q_region (ql_ar tabOk rfl rfl rfl rfl (by omega) (by omega) (ql_pure tabOk rfl rfl (q_nil ?_))))))))
            exact hK2 (i + 1, v, S) _ _ ⟨by dsimp only; omega, by dsimp only; omega, fun c hc => by have := hi3 c hc; dsimp only; omega⟩ (by dsimp only; omega) ⟨rfl, rfl, rfl, rfl, rfl, rfl, rfl, rfl, rfl, rfl, rfl, rfl, trivial⟩ (by dsimp only; rw [show 300 * r + (i + 1) = 300 * r + i + 1 from by omega]; repeat constructor)
          · (refine q_nil (q_cond_true rfl (q_region (ql_pure tabOk rfl rfl (ql_pure tabOk rfl rfl ?_)))))
            refine ql_mkS 3 [.int .i64 i] rfl (by kernel_rfl) rfl (fun bn => ?_)
            skip
            refine ql_append (q := 1) (news := [.int .i64 i]) slI rfl rfl rfl (fun v' => by repeat constructor) (fun w' hs => ⟨_, _, Blk.rdN (hs.blk (b := bn) (by repeat constructor)) rfl⟩) (by simp [oneV]) (by omega) (by omega) (fun u1 => ?_)
            rw [show ints S ++ [.int .i64 i] = ints (S ++ [(i : Int)]) from by simp [ints]]
            (refine ql_pure tabOk rfl rfl (q_nil (q_blk (q_region (ql_ar tabOk rfl rfl rfl rfl (by omega) (by omega) (ql_pure tabOk rfl rfl (q_nil ?_)))))))
            exact hK2 (i + 1, u1, S ++ [(i : Int)]) _ _ ⟨by dsimp only; omega, by simp; omega, fun c hc => by
              rcases List.mem_append.1 hc with hc | hc
              · have := hi3 c hc; dsimp only; omega
              · rw [List.mem_singleton.1 hc]; dsimp only; omega⟩ (by dsimp only; omega) ⟨rfl, rfl, rfl, rfl, rfl, rfl, rfl, rfl, rfl, rfl, rfl, rfl, trivial⟩ (by dsimp only; rw [show 300 * r + (i + 1) = 300 * r + i + 1 from by omega, List.length_append, List.length_singleton]; repeat constructor)
        · obtain rfl : i = L.length := by omega
          clear hc hK2
          refine q_conv (H' := [.ow (.slice none 0 0) 3 1 0 (ints []), .ow v 3 1 S.length (ints S), dkP (.slice a2 n2 c2) bD (300 * r + L.length + 0), .ow (.slice (some ⟨g, 0, none⟩) L.length gc) 28 3 L.length (hdC L)]) (fun w' hs => (Sat.ownil hs 3 1).sp (by repeat constructor)) ?_
          (refine q_exit _ rfl (q_seq (q_seq (q_region (ql_pure tabOk rfl rfl (ql_pure tabOk rfl rfl (q_nil (q_block ?_))))))))
          refine q_loop (σ := Int × Value × List Int) (fun ⟨m, u, Ms⟩ => (f ≤ m ∧ m ≤ t + 30) ∧ (Ms.length : Int) ≤ m - f ∧ Ms.length ≤ 120) (fun ⟨m, _, _⟩ => (t - m).toNat) (fun ⟨m, u, Ms⟩ => [(9, (.slice (some ⟨g, 0, none⟩) L.length gc)), (10, .pointer (some ⟨bD, 0, none⟩)), (11, .int .i64 f), (12, .int .i64 t), (15, (.slice xa C.length xc)), (18, .int .i64 0), (193, .int .i64 r), (28, v), (29, u), (31, .int .i64 m)]) (fun ⟨m, u, Ms⟩ => [.ow u 3 1 Ms.length (ints Ms), .ow v 3 1 S.length (ints S), dkP (.slice a2 n2 c2) bD (300 * r + L.length + Ms.length), .ow (.slice (some ⟨g, 0, none⟩) L.length gc) 28 3 L.length (hdC L)]) (f, .slice none 0 0, []) ⟨by omega, by simp, by simp⟩ ⟨rfl, rfl, rfl, rfl, rfl, rfl, rfl, rfl, rfl, rfl, trivial⟩ (by repeat constructor) ?_
          rintro ⟨m, u, Ms⟩ ⟨hm1, hm2, hm3⟩ K2 hK2
          dsimp only at hm1 hm2 hm3 hK2 ⊢
          (refine q_seq (q_seq (q_region ?_)); (iterate 3 refine ql_pure tabOk rfl rfl ?_); refine q_nil ?_)
          refine q_if rfl (fun hc => ?_) (fun hc => ?_)
          · have hmt : m < t := by simpa using hc
            clear hc
            (refine q_skip (q_seq (q_block (q_region (ql_pure tabOk rfl rfl (ql_pure tabOk rfl rfl ?_))))))
            refine ql_mkS 3 [.int .i64 m] rfl (by kernel_rfl) rfl (fun bn => ?_)
            skip
            refine ql_append (q := 1) (news := [.int .i64 m]) slI rfl rfl rfl (fun v' => by repeat constructor) (fun w' hs => ⟨_, _, Blk.rdN (hs.blk (b := bn) (by repeat constructor)) rfl⟩) (by simp [oneV]) (by omega) (by omega) (fun u1 => ?_)
            rw [show ints Ms ++ [.int .i64 m] = ints (Ms ++ [m]) from by simp [ints]]
            (refine ql_pure tabOk rfl rfl (q_nil (q_blk (q_region (ql_pure tabOk rfl rfl (ql_pure tabOk rfl rfl ?_))))))
            refine ql_call (β := Int) (ψ := fun zq v => v = .int .i64 zq ∧ 0 ≤ zq ∧ zq ≤ 25 - 1) (L' := fun _ => [dkP (.slice a2 n2 c2) bD (300 * r + L.length + Ms.length + 1)]) tabOk [dkP (.slice a2 n2 c2) bD (300 * r + L.length + Ms.length)] _ (fun x => x = bD) rfl rfl rfl rfl (Sp.cons (by repeat constructor) (Sp.refl _)) (fun x hx => ⟨_, .head _, hx⟩) (fun w' hs => drw0 hbybD hs (by omega) (by omega)) ?_; rintro dd _ ⟨rfl, hdd⟩
            (refine ql_ar tabOk rfl rfl rfl rfl (by omega) (by omega) (ql_ar tabOk rfl rfl rfl rfl (by omega) (by omega) (ql_pure tabOk rfl rfl (q_nil ?_))))
            exact hK2 (m + (1 + dd), u1, Ms ++ [m]) _ _ ⟨by dsimp only; omega, by simp; omega, by simp; omega⟩ (by dsimp only; omega) ⟨rfl, rfl, rfl, rfl, rfl, rfl, rfl, rfl, rfl, rfl, trivial⟩ (by dsimp only; rw [show (Ms ++ [m]).length = Ms.length + 1 from by simp, show 300 * r + L.length + (Ms.length + 1) = 300 * r + L.length + Ms.length + 1 from by omega]; repeat constructor)
          · clear hc hK2
            have hsubL : ∀ x ∈ hC L S, x ∈ L := fun x hx => by
              unfold hC at hx
              obtain ⟨c, hc, rfl⟩ := List.mem_map.1 hx
              have := hi3 c hc
              exact hdL_mem (by omega)
            have hokS : okC L S = true := List.all_eq_true.2 fun c hc => by have := hi3 c hc; exact inB_iff.2 (by omega)
            (refine q_exit _ rfl (q_seq (q_region ?_)); (iterate 4 refine ql_pure tabOk rfl rfl ?_))
            refine ql_call (β := Bool × Int) (ψ := fun y v => v = .tuple #[.bool y.1, .int .i64 y.2] ∧ GrdsR L f t S y) (L' := fun _ => []) tabOk [] _ M0 rfl rfl rfl rfl (Sp.refl _) (fun _ h => h.elim) (fun w' hs => (rgrd_ok w' 0 w'.heap.size 0 w'.heap.size L _ _ f t S (own_rdH (hs.mem (c := .ow (.slice (some ⟨g, 0, none⟩) L.length gc) 28 3 L.length (hdC L)) (by repeat constructor)) rfl) (own_rdI (hs.mem (c := .ow v 3 1 S.length (ints S)) (by repeat constructor)) rfl) (by omega) h0).mono fun x w2 ⟨⟨y, h1, h2⟩, h3⟩ => ⟨y, ⟨h1, h2⟩, (Sat.nil w' M0).keep h3⟩) ?_
            rintro ⟨z, zx⟩ _ ⟨rfl, hz⟩
            dsimp only [List.cons_append, List.nil_append]
            have hz1 : zx = 0 ∧ (z = true ↔ Gd (hC L S) f t) := by
              rcases hz with ⟨h1, _⟩ | ⟨_, h2, h3⟩
              · rw [hokS] at h1; cases h1
              · exact ⟨h2, h3⟩
            obtain ⟨rfl, hz1⟩ := hz1
            clear hz
            (refine ql_pure tabOk rfl rfl (ql_ext tabOk rfl rfl rfl (ql_ext tabOk rfl rfl rfl (ql_pure tabOk rfl rfl (ql_pure tabOk rfl rfl (q_nil (q_seq (q_region ?_))))))); (iterate 4 refine ql_pure tabOk rfl rfl ?_))
            refine ql_callv (val := .tuple #[.bool (mkK L f t Ms Ms.length), .int .i64 0]) tabOk rfl rfl rfl rfl (fun w hs => ?_) ?_; exact mks_ok w 0 w.heap.size 0 w.heap.size L _ _ Ms f t (own_rdH (hs.mem (c := .ow (.slice (some ⟨g, 0, none⟩) L.length gc) 28 3 L.length (hdC L)) (by repeat constructor)) rfl) (own_rdI (hs.mem (c := .ow u 3 1 Ms.length (ints Ms)) (by repeat constructor)) rfl) (by omega) h0
            refine ql_fact (fun w hs => hs.slice2 (v := v) (by repeat constructor)) ?_
            rintro ⟨s1, s2, rfl⟩
            refine ql_fact (fun w hs => hs.slice2 (v := u) (by repeat constructor)) ?_
            rintro ⟨u1, u2, rfl⟩
            · have hlow : z = true → C.length ≤ S.length := fun hz => by
                have h1 := hk1.min (C := hC L S) hsubL (hz1.1 hz)
                have h2 : C.length = hs1.length := by rw [hp1.length_eq, nI_len]
                have h3 : (hC L S).length = S.length := by simp [hC]
                omega
              have hup : mkK L f t Ms Ms.length = true → Ms.length ≤ C.length := fun hz => by
                have h1 := (mkK_iff.1 hz).le hk1.sub hk1.gd
                have h2 : C.length = hs1.length := by rw [hp1.length_eq, nI_len]
                rw [List.length_map] at h1
                omega
              cases z with
              | true =>
                have hl := hlow rfl
                cases hmm : mkK L f t Ms Ms.length with
                | true =>
                  have hu := hup hmm
                  (refine ql_pure tabOk rfl rfl (ql_ext tabOk rfl rfl rfl (ql_ext tabOk rfl rfl rfl (ql_pure tabOk rfl rfl (ql_pure tabOk rfl rfl (q_nil (q_seq (q_region (ql_pure tabOk rfl rfl (ql_neqF tabOk rfl rfl rfl (by omega) (ql_pure tabOk rfl rfl (ql_gyes rfl ?_))))))))))); refine ql_pure tabOk rfl rfl (ql_gyes rfl (ql_neqF tabOk rfl rfl rfl (by omega) (ql_pure tabOk rfl rfl (ql_pure tabOk rfl rfl (ql_gyes rfl (ql_pure tabOk rfl rfl (ql_gyes rfl (ql_pure tabOk rfl rfl (ql_gyes rfl (ql_pure tabOk rfl rfl (ql_gyes rfl ?_))))))))))); refine ql_neqF tabOk rfl rfl rfl (by omega) (ql_gyes rfl (ql_pure tabOk rfl rfl (ql_gyes rfl (ql_pure tabOk rfl rfl (ql_gyes rfl (ql_pure tabOk rfl rfl (ql_gyes rfl (ql_pure tabOk rfl rfl (ql_gyes rfl (ql_pure tabOk rfl rfl (ql_gyes rfl ?_))))))))))); refine ql_lssF tabOk rfl rfl rfl (by omega) (ql_gyes rfl (ql_pure tabOk rfl rfl (ql_gyes rfl ?_))); (iterate 3 refine ql_pure tabOk rfl rfl ?_); refine ql_gyes rfl (ql_pure tabOk rfl rfl (ql_gyes rfl (ql_eqlT tabOk rfl rfl rfl (by omega) (ql_gyes rfl (ql_pure tabOk rfl rfl (ql_gyes rfl (ql_pure tabOk rfl rfl (ql_gyes rfl (ql_pure tabOk rfl rfl (ql_gyes rfl (ql_pure tabOk rfl rfl ?_))))))))))); refine ql_gyes rfl (ql_pure tabOk rfl rfl (ql_gyes rfl (ql_pure tabOk rfl rfl (ql_gyes rfl (ql_pure tabOk rfl rfl (ql_gyes rfl (ql_pure tabOk rfl rfl (ql_gyes rfl (ql_gtrF tabOk rfl rfl rfl (by omega) (ql_gyes rfl (ql_pure tabOk rfl rfl ?_))))))))))); refine ql_pure tabOk rfl rfl (q_nil (q_cond_false rfl (q_skip (q_blk (q_region (ql_ar tabOk rfl rfl rfl rfl (by omega) (by omega) (ql_pure tabOk rfl rfl (q_nil ?_)))))))))
                  refine q_conv (H' := [dkP (.slice a2 n2 c2) bD (300 * (r + 1)), .ow (.slice (some ⟨g, 0, none⟩) L.length gc) 28 3 L.length (hdC L)]) (fun w' hs => (Sat.dk (K' := 300 * (r + 1)) (hs.sp (H' := [dkP (.slice a2 n2 c2) bD (300 * r + L.length + Ms.length), .ow (.slice (some ⟨g, 0, none⟩) L.length gc) 28 3 L.length (hdC L)]) (by repeat constructor)) (by omega)).sp (by repeat constructor)) ?_
                  exact hK1 (r + 1) _ _ (by omega) (by omega) ⟨rfl, rfl, rfl, rfl, rfl, rfl, rfl, trivial⟩ (by repeat constructor)
                | false =>
                  (refine ql_pure tabOk rfl rfl (ql_ext tabOk rfl rfl rfl (ql_ext tabOk rfl rfl rfl (ql_pure tabOk rfl rfl (ql_pure tabOk rfl rfl (q_nil (q_seq (q_region (ql_pure tabOk rfl rfl (ql_neqF tabOk rfl rfl rfl (by omega) (ql_pure tabOk rfl rfl (ql_gyes rfl ?_))))))))))); refine ql_pure tabOk rfl rfl (ql_gyes rfl (ql_neqF tabOk rfl rfl rfl (by omega) (ql_pure tabOk rfl rfl (ql_pure tabOk rfl rfl (ql_gyes rfl (ql_pure tabOk rfl rfl (ql_gyes rfl (ql_pure tabOk rfl rfl (ql_gyes rfl (ql_pure tabOk rfl rfl (ql_gyes rfl ?_))))))))))); refine ql_neqF tabOk rfl rfl rfl (by omega) (ql_gyes rfl (ql_pure tabOk rfl rfl (ql_gyes rfl (ql_pure tabOk rfl rfl (ql_gyes rfl (ql_pure tabOk rfl rfl (ql_gyes rfl (ql_pure tabOk rfl rfl (ql_gyes rfl (ql_pure tabOk rfl rfl (ql_gyes rfl ?_))))))))))); refine ql_lssF tabOk rfl rfl rfl (by omega) (ql_gyes rfl (ql_pure tabOk rfl rfl (ql_gyes rfl ?_))); (iterate 3 refine ql_pure tabOk rfl rfl ?_); refine ql_gyes rfl (ql_pure tabOk rfl rfl (ql_gyes rfl (ql_eqlT tabOk rfl rfl rfl (by omega) (ql_gyes rfl (ql_pure tabOk rfl rfl (ql_gyes rfl (ql_pure tabOk rfl rfl (ql_gyes rfl (ql_pure tabOk rfl rfl (ql_gyes rfl (ql_pure tabOk rfl rfl ?_))))))))))); (iterate 5 refine ql_gno rfl rfl rfl ?_); refine ql_gyes rfl (ql_pure tabOk rfl rfl (ql_pure tabOk rfl rfl (q_nil (q_cond_false rfl (q_skip (q_blk (q_region (ql_ar tabOk rfl rfl rfl rfl (by omega) (by omega) (ql_pure tabOk rfl rfl (q_nil ?_)))))))))))
                  refine q_conv (H' := [dkP (.slice a2 n2 c2) bD (300 * (r + 1)), .ow (.slice (some ⟨g, 0, none⟩) L.length gc) 28 3 L.length (hdC L)]) (fun w' hs => (Sat.dk (K' := 300 * (r + 1)) (hs.sp (H' := [dkP (.slice a2 n2 c2) bD (300 * r + L.length + Ms.length), .ow (.slice (some ⟨g, 0, none⟩) L.length gc) 28 3 L.length (hdC L)]) (by repeat constructor)) (by omega)).sp (by repeat constructor)) ?_
                  exact hK1 (r + 1) _ _ (by omega) (by omega) ⟨rfl, rfl, rfl, rfl, rfl, rfl, rfl, trivial⟩ (by repeat constructor)
              | false =>
                cases hmm : mkK L f t Ms Ms.length with
                | true =>
                  have hu := hup hmm
                  (refine ql_pure tabOk rfl rfl (ql_ext tabOk rfl rfl rfl (ql_ext tabOk rfl rfl rfl (ql_pure tabOk rfl rfl (ql_pure tabOk rfl rfl (q_nil (q_seq (q_region (ql_pure tabOk rfl rfl (ql_neqF tabOk rfl rfl rfl (by omega) (ql_pure tabOk rfl rfl (ql_gyes rfl ?_))))))))))); refine ql_pure tabOk rfl rfl (ql_gyes rfl (ql_neqF tabOk rfl rfl rfl (by omega) (ql_pure tabOk rfl rfl (ql_pure tabOk rfl rfl (ql_gyes rfl (ql_pure tabOk rfl rfl (ql_gyes rfl (ql_pure tabOk rfl rfl ?_)))))))); (iterate 3 refine ql_gno rfl rfl rfl ?_); (iterate 5 refine ql_gnone rfl rfl ?_); refine ql_gno rfl rfl rfl (ql_gyes rfl ?_); (iterate 3 refine ql_pure tabOk rfl rfl ?_); refine ql_gyes rfl (ql_pure tabOk rfl rfl (ql_gyes rfl (ql_eqlT tabOk rfl rfl rfl (by omega) (ql_gyes rfl (ql_pure tabOk rfl rfl (ql_gyes rfl (ql_pure tabOk rfl rfl (ql_gyes rfl (ql_pure tabOk rfl rfl (ql_gyes rfl (ql_pure tabOk rfl rfl ?_))))))))))); refine ql_gyes rfl (ql_pure tabOk rfl rfl (ql_gyes rfl (ql_pure tabOk rfl rfl (ql_gyes rfl (ql_pure tabOk rfl rfl (ql_gyes rfl (ql_pure tabOk rfl rfl (ql_gyes rfl (ql_gtrF tabOk rfl rfl rfl (by omega) (ql_gyes rfl (ql_pure tabOk rfl rfl ?_))))))))))); refine ql_pure tabOk rfl rfl (q_nil (q_cond_false rfl (q_skip (q_blk (q_region (ql_ar tabOk rfl rfl rfl rfl (by omega) (by omega) (ql_pure tabOk rfl rfl (q_nil ?_)))))))))
                  refine q_conv (H' := [dkP (.slice a2 n2 c2) bD (300 * (r + 1)), .ow (.slice (some ⟨g, 0, none⟩) L.length gc) 28 3 L.length (hdC L)]) (fun w' hs => (Sat.dk (K' := 300 * (r + 1)) (hs.sp (H' := [dkP (.slice a2 n2 c2) bD (300 * r + L.length + Ms.length), .ow (.slice (some ⟨g, 0, none⟩) L.length gc) 28 3 L.length (hdC L)]) (by repeat constructor)) (by omega)).sp (by repeat constructor)) ?_
                  exact hK1 (r + 1) _ _ (by omega) (by omega) ⟨rfl, rfl, rfl, rfl, rfl, rfl, rfl, trivial⟩ (by repeat constructor)
                | false =>
                  (refine ql_pure tabOk rfl rfl (ql_ext tabOk rfl rfl rfl (ql_ext tabOk rfl rfl rfl (ql_pure tabOk rfl rfl (ql_pure tabOk rfl rfl (q_nil (q_seq (q_region (ql_pure tabOk rfl rfl (ql_neqF tabOk rfl rfl rfl (by omega) (ql_pure tabOk rfl rfl (ql_gyes rfl ?_))))))))))); refine ql_pure tabOk rfl rfl (ql_gyes rfl (ql_neqF tabOk rfl rfl rfl (by omega) (ql_pure tabOk rfl rfl (ql_pure tabOk rfl rfl (ql_gyes rfl (ql_pure tabOk rfl rfl (ql_gyes rfl (ql_pure tabOk rfl rfl ?_)))))))); (iterate 3 refine ql_gno rfl rfl rfl ?_); (iterate 5 refine ql_gnone rfl rfl ?_); refine ql_gno rfl rfl rfl (ql_gyes rfl ?_); (iterate 3 refine ql_pure tabOk rfl rfl ?_); refine ql_gyes rfl (ql_pure tabOk rfl rfl (ql_gyes rfl (ql_eqlT tabOk rfl rfl rfl (by omega) (ql_gyes rfl (ql_pure tabOk rfl rfl (ql_gyes rfl (ql_pure tabOk rfl rfl (ql_gyes rfl (ql_pure tabOk rfl rfl (ql_gyes rfl (ql_pure tabOk rfl rfl ?_))))))))))); (iterate 5 refine ql_gno rfl rfl rfl ?_); refine ql_gyes rfl (ql_pure tabOk rfl rfl (ql_pure tabOk rfl rfl (q_nil (q_cond_false rfl (q_skip (q_blk (q_region (ql_ar tabOk rfl rfl rfl rfl (by omega) (by omega) (ql_pure tabOk rfl rfl (q_nil ?_)))))))))))
                  refine q_conv (H' := [dkP (.slice a2 n2 c2) bD (300 * (r + 1)), .ow (.slice (some ⟨g, 0, none⟩) L.length gc) 28 3 L.length (hdC L)]) (fun w' hs => (Sat.dk (K' := 300 * (r + 1)) (hs.sp (H' := [dkP (.slice a2 n2 c2) bD (300 * r + L.length + Ms.length), .ow (.slice (some ⟨g, 0, none⟩) L.length gc) 28 3 L.length (hdC L)]) (by repeat constructor)) (by omega)).sp (by repeat constructor)) ?_
                  exact hK1 (r + 1) _ _ (by omega) (by omega) ⟨rfl, rfl, rfl, rfl, rfl, rfl, rfl, trivial⟩ (by repeat constructor)
      · (refine q_exit _ rfl (q_seq (q_region ?_)))
        refine ql_callv (val := .bool true) tabOk rfl rfl rfl rfl (fun w hs => ?_) ?_; exact rawake_ca w
        (refine ql_pure tabOk rfl rfl (q_nil (q_ret ?_)))
        refine q_fin tabOk rfl (by repeat constructor) fun w hs => ?_
        exact ⟨rfl, hs.chg0⟩
  · (refine ql_pure tabOk rfl rfl (ql_ext tabOk rfl rfl rfl (ql_ext tabOk rfl rfl rfl (ql_pure tabOk rfl rfl (ql_pure tabOk rfl rfl (q_nil (q_seq (q_seq (q_region (ql_pure tabOk rfl rfl (ql_neqF tabOk rfl rfl rfl (by omega) (ql_pure tabOk rfl rfl ?_))))))))))); refine ql_gno rfl rfl rfl (ql_gno rfl rfl rfl (ql_pure tabOk rfl rfl (ql_pure tabOk rfl rfl (ql_gyes rfl (ql_pure tabOk rfl rfl (ql_gyes rfl (ql_eqlT tabOk rfl rfl rfl (by omega) (ql_gyes rfl (ql_pure tabOk rfl rfl (ql_gyes rfl (ql_eqlT tabOk rfl rfl rfl (by omega) ?_))))))))))); refine ql_gyes rfl ?_)
    refine ql_neb (p := true) (q := true) (by kernel_rfl) rfl rfl rfl ?_
    rw [show (!(true == true)) = false from rfl]
    have hany : (L.any fun h => h.cov gp) = false := List.any_eq_false.2 fun x hx => by rw [hgp3 x hx]; simp
    (refine ql_pure tabOk rfl rfl (ql_pure tabOk rfl rfl (ql_gyes rfl (ql_pure tabOk rfl rfl (ql_gyes rfl (ql_pure tabOk rfl rfl (ql_gyes rfl (ql_neqF tabOk rfl rfl rfl (by omega) (ql_pure tabOk rfl rfl (ql_pure tabOk rfl rfl (ql_gyes rfl (ql_pure tabOk rfl rfl ?_))))))))))); refine ql_gyes rfl (ql_neqF tabOk rfl rfl rfl (by omega) (ql_gyes rfl (ql_pure tabOk rfl rfl (ql_gno rfl rfl rfl (ql_gno rfl rfl rfl (ql_gyes rfl (ql_pure tabOk rfl rfl (ql_pure tabOk rfl rfl (q_nil (q_cond_false rfl (q_skip ?_))))))))))); refine q_seq (q_seq (q_region (ql_pure tabOk rfl rfl (ql_eqlT tabOk rfl rfl rfl (by omega) (q_nil (q_cond_true rfl (q_seq (q_seq (q_region ?_))))))))); refine ql_loadBa tabOk rfl rfl rfl ?_; refine ql_pure tabOk rfl rfl (ql_lssF tabOk rfl rfl rfl (by omega) (ql_pure tabOk rfl rfl (ql_gyes rfl ?_))); refine ql_loadBa tabOk rfl rfl rfl ?_; refine ql_gyes rfl (ql_pure tabOk rfl rfl (ql_gyes rfl (ql_geqF tabOk rfl rfl rfl (by omega) (ql_pure tabOk rfl rfl (ql_pure tabOk rfl rfl (ql_gyes rfl (ql_pure tabOk rfl rfl (ql_gyes rfl (ql_pure tabOk rfl rfl (ql_gyes rfl ?_)))))))))))
    refine ql_callv (val := .bool false) tabOk rfl rfl rfl rfl (fun w hs => ?_) ?_; exact by have := conF_hold w 0 w.heap.size _ (.func (.func 92) #[] #[.pointer (some ⟨b13, 0, none⟩)]) (L.map hdV) (pCov1 gp) (own_rdH (hs.mem (c := .ow (.slice (some ⟨g, 0, none⟩) L.length gc) 28 3 L.length (hdC L)) (by repeat constructor)) rfl) (hdV_agg L) (by rw [List.length_map]; omega) (grdd1_p w L gp b13 3 (hs.blk (b := b13) (by repeat constructor))); rw [pCov1_any, hany] at this; exact this
    (refine ql_pure tabOk rfl rfl (q_nil (q_cond_false rfl (q_skip (q_seq (q_region ?_))))); refine ql_loadBa tabOk rfl rfl rfl ?_; refine ql_pure tabOk rfl rfl (ql_pure tabOk rfl rfl (q_nil ?_)))
    refine q_cut (σ := Unit) (fun _ => [(9, (.slice (some ⟨g, 0, none⟩) L.length gc)), (10, .pointer (some ⟨bD, 0, none⟩)), (11, .int .i64 f), (12, .int .i64 t), (15, (.slice xa C.length xc)), (18, .int .i64 6)]) (fun _ => [dkP (.slice a2 n2 c2) bD (0), .ow (.slice (some ⟨g, 0, none⟩) L.length gc) 28 3 L.length (hdC L)]) ?_ ?_
    rotate_left
    · intro K1 hK1
      refine q_if rfl (fun hc => ?_) (fun hc => ?_)
      · have hg : f < gp := by omega
        clear hc
        have h0' : SpOk L f gp := ⟨hm.ok (by omega), by omega, by omega⟩
        (refine q_seq (q_region (ql_pure tabOk rfl rfl (ql_pure tabOk rfl rfl ?_))); refine ql_loadBa tabOk rfl rfl rfl ?_)
        refine ql_call (β := (Value × List Int) × Int) tabOk [] _ M0 rfl rfl rfl rfl (Sp.refl _) (fun _ h => h.elim) (fun w' hs => chn_ok w' 0 w'.heap.size L _ f gp (own_rdH (hs.mem (c := .ow (.slice (some ⟨g, 0, none⟩) L.length gc) 28 3 L.length (hdC L)) (by repeat constructor)) rfl) (by omega) h0') ?_
        rintro ⟨⟨vq, Q⟩, e9⟩ _ ⟨rfl, hq⟩
        dsimp only [List.cons_append, List.nil_append]
        dsimp only at hq ⊢
        have he9 : e9 = 0 := by
          rcases hq with ⟨h1, _⟩ | ⟨_, _, h1⟩
          · exact h1
          · exact absurd hgp2 h1
        subst he9
        (refine ql_pure tabOk rfl rfl (ql_ext tabOk rfl rfl rfl (ql_ext tabOk rfl rfl rfl (ql_pure tabOk rfl rfl (ql_pure tabOk rfl rfl (q_nil (q_seq (q_region (ql_pure tabOk rfl rfl (ql_neqF tabOk rfl rfl rfl (by omega) (q_nil (q_cond_false rfl ?_))))))))))); refine q_skip ?_)
        exact hK1 () _ _ ⟨rfl, rfl, rfl, rfl, rfl, rfl, trivial⟩ (by repeat constructor)
      · clear hc
        (refine q_skip ?_)
        exact hK1 () _ _ ⟨rfl, rfl, rfl, rfl, rfl, rfl, trivial⟩ (by repeat constructor)
    rintro ⟨⟩
    (refine q_seq (q_seq (q_region (ql_pure tabOk rfl rfl (q_nil (q_block ?_))))))
    refine q_loop (σ := Nat) (fun r => r ≤ 6) (fun r => 6 - r) (fun r => [(9, (.slice (some ⟨g, 0, none⟩) L.length gc)), (10, .pointer (some ⟨bD, 0, none⟩)), (11, .int .i64 f), (12, .int .i64 t), (15, (.slice xa C.length xc)), (18, .int .i64 6), (193, .int .i64 r)]) (fun r => [dkP (.slice a2 n2 c2) bD (300 * r), .ow (.slice (some ⟨g, 0, none⟩) L.length gc) 28 3 L.length (hdC L)]) 0 (by omega) ⟨rfl, rfl, rfl, rfl, rfl, rfl, rfl, trivial⟩ (by repeat constructor) ?_
    intro r hr K1 hK1
    (refine q_seq (q_region (ql_pure tabOk rfl rfl (q_nil (q_seq ?_)))))
    refine q_if rfl (fun hc => ?_) (fun hc => ?_)
    · have hr6 : r < 6 := by omega
      clear hc
      (refine q_skip (q_seq (q_block (q_seq (q_region (ql_pure tabOk rfl rfl (ql_pure tabOk rfl rfl (q_nil (q_seq (q_seq (q_region ?_)))))))))); (iterate 3 refine ql_pure tabOk rfl rfl ?_); refine q_nil (q_block ?_))
      refine q_conv (H' := [.ow (.slice none 0 0) 3 1 0 (ints []), dkP (.slice a2 n2 c2) bD (300 * r + 0), .ow (.slice (some ⟨g, 0, none⟩) L.length gc) 28 3 L.length (hdC L)]) (fun w' hs => (Sat.ownil hs 3 1).sp (by repeat constructor)) ?_
      refine q_loop (σ := Nat × Value × List Int) (fun ⟨i, v, S⟩ => i ≤ L.length ∧ S.length ≤ i ∧ ∀ c ∈ S, 0 ≤ c ∧ c < (i : Int)) (fun ⟨i, _, _⟩ => L.length - i) (fun ⟨i, v, S⟩ => [(9, (.slice (some ⟨g, 0, none⟩) L.length gc)), (10, .pointer (some ⟨bD, 0, none⟩)), (11, .int .i64 f), (12, .int .i64 t), (15, (.slice xa C.length xc)), (18, .int .i64 6), (193, .int .i64 r), (28, v), (29, .slice none 0 0), (195, (.slice (some ⟨g, 0, none⟩) L.length gc)), (196, .int .i64 L.length), (197, .int .i64 i)]) (fun ⟨i, v, S⟩ => [.ow v 3 1 S.length (ints S), dkP (.slice a2 n2 c2) bD (300 * r + i), .ow (.slice (some ⟨g, 0, none⟩) L.length gc) 28 3 L.length (hdC L)]) (0, .slice none 0 0, []) ⟨by omega, by simp, fun c h => by cases h⟩ ⟨rfl, rfl, rfl, rfl, rfl, rfl, rfl, rfl, rfl, rfl, rfl, rfl, trivial⟩ (by repeat constructor) ?_
      rintro ⟨i, v, S⟩ ⟨hi1, hi2, hi3⟩ K2 hK2
      dsimp only at hi1 hi2 hi3 hK2 ⊢
      (refine q_seq (q_region (ql_pure tabOk rfl rfl (q_nil (q_seq ?_)))))
      refine q_if rfl (fun hc => ?_) (fun hc => ?_)
      · have hil : i < L.length := by omega
        clear hc
        (refine q_skip (q_seq (q_block (q_seq (q_region (ql_pure tabOk rfl rfl (ql_pure tabOk rfl rfl (q_nil (q_seq (q_region (ql_pure tabOk rfl rfl ?_)))))))))))
        refine ql_call (β := Bool) (ψ := fun x v => v = .bool x) (L' := fun _ => [dkP (.slice a2 n2 c2) bD (300 * r + i + 1)]) tabOk [dkP (.slice a2 n2 c2) bD (300 * r + i)] _ (fun x => x = bD) rfl rfl rfl rfl (Sp.cons (by repeat constructor) (Sp.refl _)) (fun x hx => ⟨_, .head _, hx⟩) (fun w' hs => coin70 hbybD hs (by omega) (by omega)) ?_
        rintro cc _ rfl
        dsimp only [List.cons_append, List.nil_append]
        cases cc
        · (refine q_nil (q_cond_false rfl (q_skip (q_blk (q_region (ql_ar tabOk rfl rfl rfl rfl (by omega) (by omega) (ql_pure tabOk rfl rfl (q_nil ?_))))))))
          exact hK2 (i + 1, v, S) _ _ ⟨by dsimp only; omega, by dsimp only; omega, fun c hc => by have := hi3 c hc; dsimp only; omega⟩ (by dsimp only; omega) ⟨rfl, rfl, rfl, rfl, rfl, rfl, rfl, rfl, rfl, rfl, rfl, rfl, trivial⟩ (by dsimp only; rw [show 300 * r + (i + 1) = 300 * r + i + 1 from by omega]; repeat constructor)
        · (refine q_nil (q_cond_true rfl (q_region (ql_pure tabOk rfl rfl (ql_pure tabOk rfl rfl ?_)))))
          refine ql_mkS 3 [.int .i64 i] rfl (by kernel_rfl) rfl (fun bn => ?_)
          skip
          refine ql_append (q := 1) (news := [.int .i64 i]) slI rfl rfl rfl (fun v' => by repeat constructor) (fun w' hs => ⟨_, _, Blk.rdN (hs.blk (b := bn) (by repeat constructor)) rfl⟩) (by simp [oneV]) (by omega) (by omega) (fun u1 => ?_)
          rw [show ints S ++ [.int .i64 i] = ints (S ++ [(i : Int)]) from by simp [ints]]
          (refine ql_pure tabOk rfl rfl (q_nil (q_blk (q_region (ql_ar tabOk rfl rfl rfl rfl (by omega) (by omega) (ql_pure tabOk rfl rfl (q_nil ?_)))))))
          exact hK2 (i + 1, u1, S ++ [(i : Int)]) _ _ ⟨by dsimp only; omega, by simp; omega, fun c hc => by
            rcases List.mem_append.1 hc with hc | hc
            · have := hi3 c hc; dsimp only; omega
            · rw [List.mem_singleton.1 hc]; dsimp only; omega⟩ (by dsimp only; omega) ⟨rfl, rfl, rfl, rfl, rfl, rfl, rfl, rfl, rfl, rfl, rfl, rfl, trivial⟩ (by dsimp only; rw [show 300 * r + (i + 1) = 300 * r + i + 1 from by omega, List.length_append, List.length_singleton]; repeat constructor)
      · obtain rfl : i = L.length := by omega
        clear hc hK2
        refine q_conv (H' := [.ow (.slice none 0 0) 3 1 0 (ints []), .ow v 3 1 S.length (ints S), dkP (.slice a2 n2 c2) bD (300 * r + L.length + 0), .ow (.slice (some ⟨g, 0, none⟩) L.length gc) 28 3 L.length (hdC L)]) (fun w' hs => (Sat.ownil hs 3 1).sp (by repeat constructor)) ?_
        (refine q_exit _ rfl (q_seq (q_seq (q_region (ql_pure tabOk rfl rfl (ql_pure tabOk rfl rfl (q_nil (q_block ?_))))))))
        refine q_loop (σ := Int × Value × List Int) (fun ⟨m, u, Ms⟩ => (f ≤ m ∧ m ≤ t + 30) ∧ (Ms.length : Int) ≤ m - f ∧ Ms.length ≤ 120) (fun ⟨m, _, _⟩ => (t - m).toNat) (fun ⟨m, u, Ms⟩ => [(9, (.slice (some ⟨g, 0, none⟩) L.length gc)), (10, .pointer (some ⟨bD, 0, none⟩)), (11, .int .i64 f), (12, .int .i64 t), (15, (.slice xa C.length xc)), (18, .int .i64 6), (193, .int .i64 r), (28, v), (29, u), (31, .int .i64 m)]) (fun ⟨m, u, Ms⟩ => [.ow u 3 1 Ms.length (ints Ms), .ow v 3 1 S.length (ints S), dkP (.slice a2 n2 c2) bD (300 * r + L.length + Ms.length), .ow (.slice (some ⟨g, 0, none⟩) L.length gc) 28 3 L.length (hdC L)]) (f, .slice none 0 0, []) ⟨by omega, by simp, by simp⟩ ⟨rfl, rfl, rfl, rfl, rfl, rfl, rfl, rfl, rfl, rfl, trivial⟩ (by repeat constructor) ?_
        rintro ⟨m, u, Ms⟩ ⟨hm1, hm2, hm3⟩ K2 hK2
        dsimp only at hm1 hm2 hm3 hK2 ⊢
        (refine q_seq (q_seq (q_region ?_)); (iterate 3 refine ql_pure tabOk rfl rfl ?_); refine q_nil ?_)
        refine q_if rfl (fun hc => ?_) (fun hc => ?_)
        · have hmt : m < t := by simpa using hc
          clear hc
          (refine q_skip (q_seq (q_block (q_region (ql_pure tabOk rfl rfl (ql_pure tabOk rfl rfl ?_))))))
          refine ql_mkS 3 [.int .i64 m] rfl (by kernel_rfl) rfl (fun bn => ?_)
          skip
          refine ql_append (q := 1) (news := [.int .i64 m]) slI rfl rfl rfl (fun v' => by repeat constructor) (fun w' hs => ⟨_, _, Blk.rdN (hs.blk (b := bn) (by repeat constructor)) rfl⟩) (by simp [oneV]) (by omega) (by omega) (fun u1 => ?_)
          rw [show ints Ms ++ [.int .i64 m] = ints (Ms ++ [m]) from by simp [ints]]
          (refine ql_pure tabOk rfl rfl (q_nil (q_blk (q_region (ql_pure tabOk rfl rfl (ql_pure tabOk rfl rfl ?_))))))
          refine ql_call (β := Int) (ψ := fun zq v => v = .int .i64 zq ∧ 0 ≤ zq ∧ zq ≤ 25 - 1) (L' := fun _ => [dkP (.slice a2 n2 c2) bD (300 * r + L.length + Ms.length + 1)]) tabOk [dkP (.slice a2 n2 c2) bD (300 * r + L.length + Ms.length)] _ (fun x => x = bD) rfl rfl rfl rfl (Sp.cons (by repeat constructor) (Sp.refl _)) (fun x hx => ⟨_, .head _, hx⟩) (fun w' hs => drw0 hbybD hs (by omega) (by omega)) ?_; rintro dd _ ⟨rfl, hdd⟩
          (refine ql_ar tabOk rfl rfl rfl rfl (by omega) (by omega) (ql_ar tabOk rfl rfl rfl rfl (by omega) (by omega) (ql_pure tabOk rfl rfl (q_nil ?_))))
          exact hK2 (m + (1 + dd), u1, Ms ++ [m]) _ _ ⟨by dsimp only; omega, by simp; omega, by simp; omega⟩ (by dsimp only; omega) ⟨rfl, rfl, rfl, rfl, rfl, rfl, rfl, rfl, rfl, rfl, trivial⟩ (by dsimp only; rw [show (Ms ++ [m]).length = Ms.length + 1 from by simp, show 300 * r + L.length + (Ms.length + 1) = 300 * r + L.length + Ms.length + 1 from by omega]; repeat constructor)
        · clear hc hK2
          have hsubL : ∀ x ∈ hC L S, x ∈ L := fun x hx => by
            unfold hC at hx
            obtain ⟨c, hc, rfl⟩ := List.mem_map.1 hx
            have := hi3 c hc
            exact hdL_mem (by omega)
          have hokS : okC L S = true := List.all_eq_true.2 fun c hc => by have := hi3 c hc; exact inB_iff.2 (by omega)
          (refine q_exit _ rfl (q_seq (q_region ?_)); (iterate 4 refine ql_pure tabOk rfl rfl ?_))
          refine ql_call (β := Bool × Int) (ψ := fun y v => v = .tuple #[.bool y.1, .int .i64 y.2] ∧ GrdsR L f t S y) (L' := fun _ => []) tabOk [] _ M0 rfl rfl rfl rfl (Sp.refl _) (fun _ h => h.elim) (fun w' hs => (rgrd_ok w' 0 w'.heap.size 0 w'.heap.size L _ _ f t S (own_rdH (hs.mem (c := .ow (.slice (some ⟨g, 0, none⟩) L.length gc) 28 3 L.length (hdC L)) (by repeat constructor)) rfl) (own_rdI (hs.mem (c := .ow v 3 1 S.length (ints S)) (by repeat constructor)) rfl) (by omega) h0).mono fun x w2 ⟨⟨y, h1, h2⟩, h3⟩ => ⟨y, ⟨h1, h2⟩, (Sat.nil w' M0).keep h3⟩) ?_
          rintro ⟨z, zx⟩ _ ⟨rfl, hz⟩
          dsimp only [List.cons_append, List.nil_append]
          have hz1 : zx = 0 ∧ (z = true ↔ Gd (hC L S) f t) := by
            rcases hz with ⟨h1, _⟩ | ⟨_, h2, h3⟩
            · rw [hokS] at h1; cases h1
            · exact ⟨h2, h3⟩
          obtain ⟨rfl, hz1⟩ := hz1
          clear hz
          (refine ql_pure tabOk rfl rfl (ql_ext tabOk rfl rfl rfl (ql_ext tabOk rfl rfl rfl (ql_pure tabOk rfl rfl (ql_pure tabOk rfl rfl (q_nil (q_seq (q_region ?_))))))); (iterate 4 refine ql_pure tabOk rfl rfl ?_))
          refine ql_callv (val := .tuple #[.bool (mkK L f t Ms Ms.length), .int .i64 0]) tabOk rfl rfl rfl rfl (fun w hs => ?_) ?_; exact mks_ok w 0 w.heap.size 0 w.heap.size L _ _ Ms f t (own_rdH (hs.mem (c := .ow (.slice (some ⟨g, 0, none⟩) L.length gc) 28 3 L.length (hdC L)) (by repeat constructor)) rfl) (own_rdI (hs.mem (c := .ow u 3 1 Ms.length (ints Ms)) (by repeat constructor)) rfl) (by omega) h0
          refine ql_fact (fun w hs => hs.slice2 (v := v) (by repeat constructor)) ?_
          rintro ⟨s1, s2, rfl⟩
          refine ql_fact (fun w hs => hs.slice2 (v := u) (by repeat constructor)) ?_
          rintro ⟨u1, u2, rfl⟩
          · have hlow : z = true → False := fun hz => hG ((hz1.1 hz).sub hsubL)
            cases z with
            | true => exact (hlow rfl).elim
            | false =>
              (refine ql_pure tabOk rfl rfl (ql_ext tabOk rfl rfl rfl (ql_ext tabOk rfl rfl rfl (ql_pure tabOk rfl rfl (ql_pure tabOk rfl rfl (q_nil (q_seq (q_region (ql_pure tabOk rfl rfl (ql_neqF tabOk rfl rfl rfl (by omega) (ql_pure tabOk rfl rfl (ql_gyes rfl ?_))))))))))); refine ql_pure tabOk rfl rfl (ql_gyes rfl (ql_neqF tabOk rfl rfl rfl (by omega) (ql_pure tabOk rfl rfl (ql_pure tabOk rfl rfl (ql_gyes rfl (ql_pure tabOk rfl rfl (ql_gyes rfl (ql_pure tabOk rfl rfl ?_)))))))); (iterate 3 refine ql_gno rfl rfl rfl ?_); (iterate 5 refine ql_gnone rfl rfl ?_); refine ql_gno rfl rfl rfl (ql_gyes rfl ?_); (iterate 3 refine ql_pure tabOk rfl rfl ?_); refine ql_gyes rfl (ql_pure tabOk rfl rfl (ql_gyes rfl (ql_eqlF tabOk rfl rfl rfl (by omega) (ql_gyes rfl (ql_pure tabOk rfl rfl (ql_gno rfl rfl rfl (ql_gyes rfl (ql_pure tabOk rfl rfl (ql_gyes rfl (ql_pure tabOk rfl rfl ?_)))))))))); (iterate 5 refine ql_gno rfl rfl rfl ?_); refine ql_gyes rfl (ql_pure tabOk rfl rfl (ql_pure tabOk rfl rfl (q_nil (q_cond_false rfl (q_skip (q_blk (q_region (ql_ar tabOk rfl rfl rfl rfl (by omega) (by omega) (ql_pure tabOk rfl rfl (q_nil ?_)))))))))))
              refine q_conv (H' := [dkP (.slice a2 n2 c2) bD (300 * (r + 1)), .ow (.slice (some ⟨g, 0, none⟩) L.length gc) 28 3 L.length (hdC L)]) (fun w' hs => (Sat.dk (K' := 300 * (r + 1)) (hs.sp (H' := [dkP (.slice a2 n2 c2) bD (300 * r + L.length + Ms.length), .ow (.slice (some ⟨g, 0, none⟩) L.length gc) 28 3 L.length (hdC L)]) (by repeat constructor)) (by omega)).sp (by repeat constructor)) ?_
              exact hK1 (r + 1) _ _ (by omega) (by omega) ⟨rfl, rfl, rfl, rfl, rfl, rfl, rfl, trivial⟩ (by repeat constructor)
    · (refine q_exit _ rfl (q_seq (q_region ?_)))
      refine ql_callv (val := .bool true) tabOk rfl rfl rfl rfl (fun w hs => ?_) ?_; exact rawake_ca w
      (refine ql_pure tabOk rfl rfl (q_nil (q_ret ?_)))
      refine q_fin tabOk rfl (by repeat constructor) fun w hs => ?_
      exact ⟨rfl, hs.chg0⟩
end Go.Proofs.YtopdmadgkjdgcaaGreat
