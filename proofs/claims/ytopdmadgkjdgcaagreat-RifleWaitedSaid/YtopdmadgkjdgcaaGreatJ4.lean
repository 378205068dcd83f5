/- My texts F13, F14, F15, F16, F17, F18, F19, F20, D3, D4, K29, W12, D5, B41, F21, F22, F23, F24, F25, F26, B42, B43, F27, B44, F28, F29, F30, LwE, LwF, joined: a claim takes at most 60 files. -/
import Derived.Test.YtopdmadgkjdgcaaGreatJ3

/- Walks of rifle: the best next check, with its memo. -/
namespace Go.Proofs.YtopdmadgkjdgcaaGreat
set_option maxRecDepth 4000
open Go Go.Eng
def stPs : List PK := [.fl [some .i64, some .i64], .ar 8 4, .ar 8 4]
abbrev ksK : Value → Prop := keyF (mixK stPs)
theorem st_key : KeyT Tryz.prog 182 ksK eqV := keyT_mix (by kernel_rfl)
theorem knV_key {k : Kn} (hk : k.Bd) : ksK (knV k) := by
  obtain ⟨klo, khi, p, f⟩ := k
  obtain ⟨p0, p1, p2, p3, p4, p5, p6, p7, rfl⟩ := lit8 hk.p8
  obtain ⟨f0, f1, f2, f3, f4, f5, f6, f7, rfl⟩ := lit8 hk.f8
  exact ⟨_, rfl, rfl⟩
theorem knV_inj {k j : Kn} (hk : k.Bd) (hj : j.Bd) (h : eqV (knV k) (knV j) = true) : k = j := by
  have h1 := st_key.eq _ _ (knV_key hk) (knV_key hj) h
  obtain ⟨klo, khi, p, f⟩ := k
  obtain ⟨p0, p1, p2, p3, p4, p5, p6, p7, rfl⟩ := lit8 hk.p8
  obtain ⟨f0, f1, f2, f3, f4, f5, f6, f7, rfl⟩ := lit8 hk.f8
  obtain ⟨jlo, jhi, p', f'⟩ := j
  obtain ⟨q0, q1, q2, q3, q4, q5, q6, q7, rfl⟩ := lit8 hj.p8
  obtain ⟨g0, g1, g2, g3, g4, g5, g6, g7, rfl⟩ := lit8 hj.f8
  injection h1 with h1
  have h2 := congrArg Array.toList h1
  simp only [knC, bools, List.map_cons, List.map_nil, List.cons_append, List.nil_append, List.cons.injEq, Value.int.injEq, Value.bool.injEq, true_and, and_true] at h2
  simp only [Kn.mk.injEq, List.cons.injEq, and_true]
  obtain ⟨rfl, rfl, rfl, rfl, rfl, rfl, rfl, rfl, rfl, rfl, rfl, rfl, rfl, rfl, rfl, rfl, rfl, rfl⟩ := h2
  simp
theorem st_map : Tryz.prog.underlying 243 = some (.map 182 204) := by kernel_rfl
abbrev pkV (z : Int × Int) : Value := .agg #[.int .i64 z.1, .int .i64 z.2]
theorem zero_pk : ZeroOf Tryz.prog 204 (pkV (0, 0)) := ⟨by kernel_rfl⟩
theorem pk_flat : flatB Tryz.prog 204 [some .i64, some .i64] = true := by kernel_rfl
/-- Each state that is noted has its best next check. -/
def GoodB (s : Sc) (f : Value → Option Value) : Prop := ∀ k : Kn, k.Fit → ∀ v, f (knV k) = some v → v = pkV (bstK s k)
theorem goodB_nil (s : Sc) : GoodB s (fun _ => none) := fun _ _ _ h => by cases h
theorem goodB_upd {s : Sc} {f : Value → Option Value} (h : GoodB s f) {k : Kn} (hk : k.Fit) : GoodB s (fun x => if eqV x (knV k) then some (pkV (bstK s k)) else f x) := fun j hj v hv => by
  dsimp only at hv
  split at hv
  · rename_i he
    obtain rfl := knV_inj hj.bd hk.bd he
    cases hv
    rfl
  · exact h j hj v hv
abbrev bstF (b1 b2 b3 : Nat) : Value := .func (.func 169) #[] #[.pointer (some ⟨b1, 0, none⟩), .pointer (some ⟨b2, 0, none⟩), .pointer (some ⟨b3, 0, none⟩)]
abbrev mpB (bm : Nat) (f : Value → Option Value) : Ck := mpP ksK eqV bm f
/-- The planner's variables. -/
structure PnE (w : World) (bm b1 b2 b3 bd : Nat) (s : Sc) (tv rv : Value) (k0 : Kn) : Prop where
  h1 : ∃ t, Blk w b1 [.map (some bm)] t
  h2 : ∃ t, Blk w b2 [.pointer (some ⟨bd, 0, none⟩)] t
  h3 : ∃ t, Blk w b3 [bstF b1 b2 b3] t
  hd : Blk w bd (dskC s tv rv k0) 184
theorem PnE.mapC {w w' : World} {b : Nat} {K : Value → Prop} {q : Value → Value → Bool} {f : Value → Option Value} {bm b1 b2 b3 bd : Nat} {s : Sc} {tv rv : Value} {k0 : Kn} (h : PnE w bm b1 b2 b3 bd s tv rv k0) (hm : MapAt w b K q f) (c : ChgP (· = b) w w') : PnE w' bm b1 b2 b3 bd s tv rv k0 :=
  ⟨h.h1.imp fun _ h => Blk.mapC h hm c, h.h2.imp fun _ h => Blk.mapC h hm c, h.h3.imp fun _ h => Blk.mapC h hm c, Blk.mapC h.hd hm c⟩
theorem Rd.mapC {w w' : World} {b : Nat} {K : Value → Prop} {q : Value → Value → Bool} {f : Value → Option Value} {lo hi : Nat} {v : Value} {size n : Nat} {cs : List Value} (h : Rd w lo hi v size n cs) (hm : MapAt w b K q f) (c : ChgP (· = b) w w') : Rd w' lo hi v size n cs := by
  obtain ⟨es, clock, hb1, _⟩ := hm
  obtain ⟨h1, h2⟩ := h
  refine ⟨h1, ?_⟩
  rcases h2 with h2 | ⟨x, off, cap, hv, hb, hc⟩
  · exact .inl h2
  · refine .inr ⟨x, off, cap, hv, fun hp => ⟨(hb hp).1, (hb hp).2.1, Nat.lt_of_lt_of_le (hb hp).2.2 c.size⟩, fun j hj => ?_⟩
    have hb' := hb (by omega)
    have hc' := hc j hj
    have hne : ¬ x = b := by
      rintro rfl
      rw [List.getElem?_eq_getElem hj] at hc'
      simp [World.cell?, hb1] at hc'
    rw [← hc']
    exact World.cell?_of_block (w := w) (c.block x hb'.2.2 hne)
theorem ScR.mapC {w w' : World} {b : Nat} {K : Value → Prop} {q : Value → Value → Bool} {f : Value → Option Value} {lo hi : Nat} {tv rv : Value} {s : Sc} (h : ScR w lo hi tv rv s) (hm : MapAt w b K q f) (c : ChgP (· = b) w w') : ScR w' lo hi tv rv s :=
  ⟨⟨Rd.mapC h.t.rd hm c, h.t.sz⟩, ⟨Rd.mapC h.r.rd hm c, h.r.sz⟩⟩
theorem afterV_open {s : Sc} {k : Kn} {i : Nat} (hk : k.Fit) (ho : openK s k i = true) : afterV s k i true = (passK s k i, true) ∧ afterV s k i false = (failK s k i, true) := by
  have hf := (open_iff.1 ho).1
  constructor
  · unfold afterV
    rw [if_neg (by rw [hf]; simp), if_pos rfl, decide_eq_true (passK_fit hk ho).le]
    rfl
  · unfold afterV
    rw [if_neg (by rw [hf]; simp), if_neg (by simp), decide_eq_true (failK_fit hk ho).le]
    rfl
theorem dep_8 {s : Sc} (h8 : s.rifles.length ≤ 8) {k : Kn} (hk : k.Fit) : 0 ≤ depV s k ∧ depV s k ≤ 8 := by
  have h1 := dep_open h8 _ k rfl hk
  have h2 := openL_len s k
  have h3 := dep_nn s k
  omega
def tF13_d35aed8 : OT := .alt (chainT [10, 11, 12, 13, 14] (.nil)) (chainT [13, 10, 11, 12, 14] (.nil))
def tF13_0b6f6fa : OT := .alt (chainT [9] (tF13_d35aed8)) (chainT [13, 9, 10, 11, 12, 14] (.nil))
def tF13_59abf1e : OT := .alt (chainT [5, 6, 7, 8, 0] (tF13_0b6f6fa)) (chainT [13, 5, 6, 7, 8, 0, 9, 10, 11, 12, 14] (.nil))
def tF13_298e05f : OT := .alt (chainT [1, 2, 3, 4] (tF13_59abf1e)) (chainT [13, 1, 2, 3, 4, 5, 6, 7, 8, 0, 9, 10, 11, 12, 14] (.nil))
set_option maxHeartbeats 8000000 in
theorem best_ca (lo hi bm b1 b2 b3 bd : Nat) (s : Sc) (tv rv : Value) (k0 : Kn) (hs0 : s.Ok) : ∀ (n : Nat) (k : Kn) (w : World) (f : Value → Option Value), cntK s k = n → k.Fit → ScR w lo hi tv rv s → PnE w bm b1 b2 b3 bd s tv rv k0 → MapAt w bm ksK eqV f → GoodB s f →
    Ca Tryz.prog 169 [knV k, .pointer (some ⟨b1, 0, none⟩), .pointer (some ⟨b2, 0, none⟩), .pointer (some ⟨b3, 0, none⟩)] w fun v w' => ∃ g, (v = pkV (bstK s k) ∧ GoodB s g) ∧ Sat w (· = bm) [mpB bm g] w' := by
  have h8 := hs0.rn8
  intro n
  induction n using Nat.strongRecOn with
  | ind n ih =>
  intro k w f hcn hk h hE hm hg
  have hkb := hk.bd
  obtain ⟨t1, hb1⟩ := hE.h1
  obtain ⟨t2, hb2⟩ := hE.h2
  obtain ⟨t3, hb3⟩ := hE.h3
  have hb1 := fun w' (c : ChgP (· = bm) w w') => Blk.mapC hb1 hm c
  have hb2 := fun w' (c : ChgP (· = bm) w w') => Blk.mapC hb2 hm c
  have hb3 := fun w' (c : ChgP (· = bm) w w') => Blk.mapC hb3 hm c
  refine q_ofM (H := [mpB bm f]) (map_sat hm) Tryz.func169 rfl (by simp [Tryz.ntmps169]) ?_
  (refine q_seq (q_region ?_))
  refine ql_box rfl rfl (fun b4 => ?_)
  rw [agg_cells]
  skip
  refine ql_alloc zero204 rfl (fun b5 => ?_)
  (refine q_nil (q_seq (q_seq (q_region ?_))); refine ql_loadG tabOk rfl rfl rfl (by assumption) (by rfl) ?_)
  refine ql_loadA (cs := knC k) tabOk rfl rfl rfl (knC_len hkb) (fun w hs q hq => by rw [(hs.blk (b := b4) (by repeat constructor)).cell, Nat.zero_add]) ?_
  refine ql_look2 st_key st_map zero_pk rfl rfl rfl (by repeat constructor) (knV_key hkb) ?_
  cases hf : f (knV k) with
  | some v =>
    obtain rfl := hg k hk v hf
    (refine ql_pure tabOk rfl rfl (ql_ext tabOk rfl rfl rfl (ql_ext tabOk rfl rfl rfl ?_)))
    refine ql_alloc zero204 rfl (fun b6 => ?_)
    (refine ql_setA tabOk rfl rfl rfl rfl rfl (by repeat constructor) rfl ?_; refine ql_pure tabOk rfl rfl (q_nil (q_seq (q_region (ql_pure tabOk rfl rfl (q_nil (q_cond_true rfl (q_seq (q_region ?_)))))))); refine ql_loadABa tabOk rfl rfl rfl ?_; refine ql_setA tabOk rfl rfl rfl rfl rfl (by repeat constructor) rfl ?_; refine q_nil (q_ret ?_))
    refine q_finM tabOk rfl (by repeat constructor) fun w hs => ?_
    exact ⟨f, ⟨rfl, hg⟩, hs.sp (by repeat constructor)⟩
  | none =>
    (refine ql_pure tabOk rfl rfl (ql_ext tabOk rfl rfl rfl (ql_ext tabOk rfl rfl rfl ?_)))
    refine ql_alloc zero204 rfl (fun b6 => ?_)
    (refine ql_setA tabOk rfl rfl rfl rfl rfl (by repeat constructor) rfl ?_; refine ql_pure tabOk rfl rfl (q_nil (q_seq (q_region (ql_pure tabOk rfl rfl (q_nil (q_cond_false rfl (q_skip (q_seq (q_region ?_))))))))))
    refine ql_alloc zero204 rfl (fun b8 => ?_)
    (refine q_nil (q_seq (q_seq (q_region ?_))); refine ql_loadG tabOk rfl rfl rfl (by assumption) (by rfl) ?_)
    refine ql_loadA (cs := knC k) tabOk rfl rfl rfl (knC_len hkb) (fun w hs q hq => by rw [(hs.blk (b := b4) (by repeat constructor)).cell, Nat.zero_add]) ?_
    refine ql_call (β := Nat × Nat) (ψ := fun y v => v = openF y.1 y.2) (L' := fun y => [.pt y.1 [.pointer (some ⟨bd, 0, none⟩)] 177, .pt y.2 (knC k) 182]) tabOk [] _ M0 rfl rfl rfl rfl (Sp.refl _) (fun _ h => h.elim) (fun w' hs => open_ca w' bd k) ?_
    rintro ⟨o1, o2⟩ _ rfl
    dsimp only [List.cons_append, List.nil_append]
    (refine q_nil (q_block ?_))
    refine q_range natE ((Value → Option Value) × (Int × Int)) (openL s k) (fun pre z => z.2 = pre.foldl (pickS (depV s) s k) (0, 0) ∧ GoodB s z.1) (fun _ _ => False) (fun z => [mpB bm z.1, .pt b8 [.int .i64 z.2.1, .int .i64 z.2.2] 204]) [.pt o1 [.pointer (some ⟨bd, 0, none⟩)] 177, .pt o2 (knC k) 182, .pt b4 (knC k) 182, .pt b5 [.int .i64 0, .int .i64 0] 204] (f, (0, 0))
      rfl (by kernel_rfl) rfl (fun _ _ => rfl) ⟨rfl, hg⟩ (by repeat constructor) ?_ ?_ ?_ (fun _ _ _ h => h.elim)
    · intro w1 D hs hD
      have hup : ∀ w', ChgP D w1 w' → ChgP (· = bm) w w' := fun w' hc => hs.chg.upP hc fun k hk => (hD k hk).2
      have hE1 := hE.mapC hm hs.chg
      have hnd : ¬ D bd := fun e => by
        rcases (hD bd e).2 with e2 | e2
        · obtain ⟨es, cl, h1, _⟩ := hm
          have h2 := hE.hd
          rw [e2] at h2
          unfold Blk at h2
          rw [h2] at h1
          cases h1
        · have := hE.hd.lt
          omega
      exact open_it w1 D lo hi o1 o2 bd s tv rv k0 k (fun w' hc => h.mapC hm (hup w' hc)) hs0 hkb (hs.blk (b := o1) (by repeat constructor)) (hs.blk (b := o2) (by repeat constructor)) hE1.hd ⟨fun e => (hD _ e).1 ⟨.pt o1 _ _, (by repeat constructor), rfl⟩, fun e => (hD _ e).1 ⟨.pt o2 _ _, (by repeat constructor), rfl⟩, hnd⟩
    · intro pre x post z w1 lb rdy bsy K F' hx hI hsat hR hbegin hend hret hexit
      obtain ⟨z1, out⟩ := z
      obtain ⟨hout, hgz⟩ := hI
      dsimp only at hout hgz
      have hxm : x ∈ openL s k := by rw [hx]; simp
      obtain ⟨hx1, hxo⟩ := openL_mem.1 hxm
      have hfr := (open_iff.1 hxo).1
      have c1 := cnt_pass hk h8 hx1 hfr
      have c2 := cnt_fail hk h8 hx1 hfr
      have fp := passK_fit hk hxo
      have ff := failK_fit hk hxo
      have dp := dep_8 h8 fp
      have df := dep_8 h8 ff
      have hW : ∀ w', ChgP (DL (rdy :: [mpB bm z1, .pt b8 [.int .i64 out.1, .int .i64 out.2] 204])) w1 w' → ChgP (· = bm) w w' := fun w' hc => (hR w' hc).chg
      have hb1' := fun w' hc => hb1 w' (hW w' hc)
      have hb2' := fun w' hc => hb2 w' (hW w' hc)
      have hb3' := fun w' hc => hb3 w' (hW w' hc)
      have hb4' := fun w' hc => (hR w' hc).blk (b := b4) (by repeat constructor)
      dsimp only [natE, List.zip_cons_cons, List.zip_nil_left, List.zip_nil_right, List.foldl_cons, List.foldl_nil]
      (refine q_region (ql_pure tabOk rfl rfl (q_nil ?_)))
      refine hbegin _ _ ?_
      (refine q_block (q_seq (q_region ?_)); refine ql_loadG tabOk rfl rfl rfl (by assumption) (by rfl) ?_)
      refine ql_loadA (cs := knC k) tabOk rfl rfl rfl (knC_len hkb) (fun w hs q hq => by rw [(hb4' _ hs.chg).cell, Nat.zero_add]) ?_
      (refine ql_pure tabOk rfl rfl ?_)
      refine ql_callv (val := .tuple #[knV (passK s k x), .bool true]) tabOk rfl rfl rfl rfl (fun w hs => ?_) ?_; exact by have := after_ca w lo hi bd s tv rv k0 k (h.mapC hm (hW _ hs.chg)) ((hE.mapC hm (hW _ hs.chg)).hd) hs0 hkb x hx1 true; rw [(afterV_open hk hxo).1] at this; exact this
      (refine ql_pure tabOk rfl rfl (ql_ext tabOk rfl rfl rfl (ql_ext tabOk rfl rfl rfl ?_)))
      refine ql_alloc zero182 rfl (fun b10 => ?_)
      skip
      refine ql_setA (us := knC (passK s k x)) tabOk rfl rfl rfl (knC_len fp.bd) (knC_one _) (by repeat constructor) rfl ?_
      (refine ql_pure tabOk rfl rfl (q_nil (q_seq (q_region ?_))); refine ql_loadG tabOk rfl rfl rfl (by assumption) (by rfl) ?_)
      refine ql_loadA (cs := knC k) tabOk rfl rfl rfl (knC_len hkb) (fun w hs q hq => by rw [(hb4' _ hs.chg).cell, Nat.zero_add]) ?_
      (refine ql_pure tabOk rfl rfl ?_)
      refine ql_callv (val := .tuple #[knV (failK s k x), .bool true]) tabOk rfl rfl rfl rfl (fun w hs => ?_) ?_; exact by have := after_ca w lo hi bd s tv rv k0 k (h.mapC hm (hW _ hs.chg)) ((hE.mapC hm (hW _ hs.chg)).hd) hs0 hkb x hx1 false; rw [(afterV_open hk hxo).2] at this; exact this
      (refine ql_pure tabOk rfl rfl (ql_ext tabOk rfl rfl rfl (ql_ext tabOk rfl rfl rfl ?_)))
      refine ql_alloc zero182 rfl (fun b12 => ?_)
      skip
      refine ql_setA (us := knC (failK s k x)) tabOk rfl rfl rfl (knC_len ff.bd) (knC_one _) (by repeat constructor) rfl ?_
      (refine ql_pure tabOk rfl rfl (q_nil (q_seq ?_)))
      have dpd : ∀ j, (bstK s j).2 = depV s j := fun _ => rfl
      refine q_cut (σ := { y : (Value → Option Value) × Nat // GoodB s y.1 }) (fun y => [(8, .pointer (some ⟨b8, 0, none⟩)), (14, .pointer (some ⟨y.1.2, 0, none⟩))]) (fun y => [bsy, .pt y.1.2 [.int .i64 x, .int .i64 (1 + max (depV s (passK s k x)) (depV s (failK s k x)))] 204, mpB bm y.1.1, .pt b8 [.int .i64 out.1, .int .i64 out.2] 204]) ?_ ?_
      rotate_left
      · intro K2 hK2
        refine q_drawT (tF13_298e05f) _ [mpB bm z1] (Sp.cons (by repeat constructor) (Sp.refl _)) (by kernel_rfl) (by kernel_rfl) ?_
        refine qt_alt ?_ ?_
        · skip
          refine qt_seg (by repeat (first | exact PickL.nil | (apply PickL.cons; rfl))) fun K1 hK1 => ?_
          (refine qf_loadG tabOk rfl rfl rfl (by assumption) (by rfl) ?_)
          refine qf_loadA (cs := knC (passK s k x)) tabOk rfl rfl rfl (knC_len fp.bd) (fun w hs q hq => by rw [(hs.blk (b := b10) (by repeat constructor)).cell, Nat.zero_add]) ?_
          skip
          refine qf_callF (β := Value → Option Value) (ψ := fun g v => v = pkV (bstK s (passK s k x)) ∧ GoodB s g) (L' := fun g => [mpB bm g]) [mpB bm z1] _ (· = bm) rfl rfl rfl (Sp.cons (by repeat constructor) (Sp.refl _)) (fun x hx => ⟨_, .head _, hx⟩) (fun w' hs => CaF.of tabOk rfl (ih _ (by omega) (passK s k x) w' z1 rfl fp (h.mapC hm (hW _ hs.chg)) (hE.mapC hm (hW _ hs.chg)) (hs.mem (c := mpB bm z1) (by repeat constructor)) hgz)) ?_
          clear hgz
          rintro z1 v ⟨rfl, hgz⟩
          skip
          refine qf_fld tabOk 1 3 (by kernel_rfl) rfl rfl rfl rfl ?_
          (refine qf_nil ?_)
          refine hK1 _ _ ?_
          refine qt_alt ?_ ?_
          · skip
            refine qt_seg (by repeat (first | exact PickL.nil | (apply PickL.cons; rfl))) fun K1 hK1 => ?_
            (refine qf_loadG tabOk rfl rfl rfl (by assumption) (by rfl) ?_)
            refine qf_loadA (cs := knC (failK s k x)) tabOk rfl rfl rfl (knC_len ff.bd) (fun w hs q hq => by rw [(hs.blk (b := b12) (by repeat constructor)).cell, Nat.zero_add]) ?_
            skip
            refine qf_callF (β := Value → Option Value) (ψ := fun g v => v = pkV (bstK s (failK s k x)) ∧ GoodB s g) (L' := fun g => [mpB bm g]) [mpB bm z1] _ (· = bm) rfl rfl rfl (Sp.cons (by repeat constructor) (Sp.refl _)) (fun x hx => ⟨_, .head _, hx⟩) (fun w' hs => CaF.of tabOk rfl (ih _ (by omega) (failK s k x) w' z1 rfl ff (h.mapC hm (hW _ hs.chg)) (hE.mapC hm (hW _ hs.chg)) (hs.mem (c := mpB bm z1) (by repeat constructor)) hgz)) ?_
            clear hgz
            rintro z1 v ⟨rfl, hgz⟩
            skip
            refine qf_fld tabOk 1 3 (by kernel_rfl) rfl rfl rfl rfl ?_
            (refine qf_pure tabOk rfl rfl rfl (qf_nil ?_))
            refine hK1 _ _ ?_
            refine qt_alt ?_ ?_
            · skip
              refine qt_seg (by repeat (first | exact PickL.nil | (apply PickL.cons; rfl))) fun K1 hK1 => ?_
              skip
              refine qf_mkS 3 [.int .i64 (depV s (failK s k x))] rfl (by kernel_rfl) rfl (fun bn => ?_)
              (refine qf_nil ?_)
              refine hK1 _ _ ?_
              refine qt_alt ?_ ?_
              · skip
                refine qt_seg (by repeat (first | exact PickL.nil | (apply PickL.cons; rfl))) fun K1 hK1 => ?_
                skip
                refine qf_callv tabOk rfl rfl rfl rfl (fun w' hs => great_ca w' _ _ (depV s (passK s k x)) _ [depV s (failK s k x)] (Blk.rdI (c := 1) (hs.blk (b := bn) (cs := ints [depV s (failK s k x)]) (by repeat constructor))) (by simp)) ?_
                rw [show mxF (depV s (passK s k x)) [depV s (failK s k x)] = max (depV s (passK s k x)) (depV s (failK s k x)) from rfl]
                (refine qf_ar tabOk rfl rfl rfl rfl (by omega) (by omega) ?_)
                refine qf_mk #[.int .i64 x, .int .i64 (1 + max (depV s (passK s k x)) (depV s (failK s k x)))] rfl (by kernel_rfl) rfl ?_
                skip
                refine qf_alloc zero204 rfl (fun b14 => ?_)
                (refine qf_setA tabOk rfl rfl rfl rfl rfl (by repeat constructor) rfl ?_; refine qf_nil ?_)
                skip
                skip
                exact hK1 _ _ (qt_nil (hK2 ⟨(z1, b14), hgz⟩ _ _ ⟨rfl, rfl, trivial⟩ (by repeat constructor)))
              · skip
                refine qt_seg (by repeat (first | exact PickL.nil | (apply PickL.cons; rfl))) fun K1 hK1 => ?_
                skip
                refine qf_alloc zero204 rfl (fun b14 => ?_)
                skip
                refine qf_callv tabOk rfl rfl rfl rfl (fun w' hs => great_ca w' _ _ (depV s (passK s k x)) _ [depV s (failK s k x)] (Blk.rdI (c := 1) (hs.blk (b := bn) (cs := ints [depV s (failK s k x)]) (by repeat constructor))) (by simp)) ?_
                rw [show mxF (depV s (passK s k x)) [depV s (failK s k x)] = max (depV s (passK s k x)) (depV s (failK s k x)) from rfl]
                (refine qf_ar tabOk rfl rfl rfl rfl (by omega) (by omega) ?_)
                refine qf_mk #[.int .i64 x, .int .i64 (1 + max (depV s (passK s k x)) (depV s (failK s k x)))] rfl (by kernel_rfl) rfl ?_
                (refine qf_setA tabOk rfl rfl rfl rfl rfl (by repeat constructor) rfl ?_; refine qf_nil ?_)
                skip
                skip
                exact hK1 _ _ (qt_nil (hK2 ⟨(z1, b14), hgz⟩ _ _ ⟨rfl, rfl, trivial⟩ (by repeat constructor)))
            · skip
              refine qt_seg (by repeat (first | exact PickL.nil | (apply PickL.cons; rfl))) fun K1 hK1 => ?_
              skip
              refine qf_alloc zero204 rfl (fun b14 => ?_)
              skip
              refine qf_mkS 3 [.int .i64 (depV s (failK s k x))] rfl (by kernel_rfl) rfl (fun bn => ?_)
              skip
              refine qf_callv tabOk rfl rfl rfl rfl (fun w' hs => great_ca w' _ _ (depV s (passK s k x)) _ [depV s (failK s k x)] (Blk.rdI (c := 1) (hs.blk (b := bn) (cs := ints [depV s (failK s k x)]) (by repeat constructor))) (by simp)) ?_
              rw [show mxF (depV s (passK s k x)) [depV s (failK s k x)] = max (depV s (passK s k x)) (depV s (failK s k x)) from rfl]
              (refine qf_ar tabOk rfl rfl rfl rfl (by omega) (by omega) ?_)
              refine qf_mk #[.int .i64 x, .int .i64 (1 + max (depV s (passK s k x)) (depV s (failK s k x)))] rfl (by kernel_rfl) rfl ?_
              (refine qf_setA tabOk rfl rfl rfl rfl rfl (by repeat constructor) rfl ?_; refine qf_nil ?_)
              skip
              skip
              exact hK1 _ _ (qt_nil (hK2 ⟨(z1, b14), hgz⟩ _ _ ⟨rfl, rfl, trivial⟩ (by repeat constructor)))
          · skip
            refine qt_seg (by repeat (first | exact PickL.nil | (apply PickL.cons; rfl))) fun K1 hK1 => ?_
            skip
            refine qf_alloc zero204 rfl (fun b14 => ?_)
            (refine qf_loadG tabOk rfl rfl rfl (by assumption) (by rfl) ?_)
            refine qf_loadA (cs := knC (failK s k x)) tabOk rfl rfl rfl (knC_len ff.bd) (fun w hs q hq => by rw [(hs.blk (b := b12) (by repeat constructor)).cell, Nat.zero_add]) ?_
            skip
            refine qf_callF (β := Value → Option Value) (ψ := fun g v => v = pkV (bstK s (failK s k x)) ∧ GoodB s g) (L' := fun g => [mpB bm g]) [mpB bm z1] _ (· = bm) rfl rfl rfl (Sp.cons (by repeat constructor) (Sp.refl _)) (fun x hx => ⟨_, .head _, hx⟩) (fun w' hs => CaF.of tabOk rfl (ih _ (by omega) (failK s k x) w' z1 rfl ff (h.mapC hm (hW _ hs.chg)) (hE.mapC hm (hW _ hs.chg)) (hs.mem (c := mpB bm z1) (by repeat constructor)) hgz)) ?_
            clear hgz
            rintro z1 v ⟨rfl, hgz⟩
            skip
            refine qf_fld tabOk 1 3 (by kernel_rfl) rfl rfl rfl rfl ?_
            (refine qf_pure tabOk rfl rfl rfl ?_)
            refine qf_mkS 3 [.int .i64 (depV s (failK s k x))] rfl (by kernel_rfl) rfl (fun bn => ?_)
            skip
            refine qf_callv tabOk rfl rfl rfl rfl (fun w' hs => great_ca w' _ _ (depV s (passK s k x)) _ [depV s (failK s k x)] (Blk.rdI (c := 1) (hs.blk (b := bn) (cs := ints [depV s (failK s k x)]) (by repeat constructor))) (by simp)) ?_
            rw [show mxF (depV s (passK s k x)) [depV s (failK s k x)] = max (depV s (passK s k x)) (depV s (failK s k x)) from rfl]
            (refine qf_ar tabOk rfl rfl rfl rfl (by omega) (by omega) ?_)
            refine qf_mk #[.int .i64 x, .int .i64 (1 + max (depV s (passK s k x)) (depV s (failK s k x)))] rfl (by kernel_rfl) rfl ?_
            (refine qf_setA tabOk rfl rfl rfl rfl rfl (by repeat constructor) rfl ?_; refine qf_nil ?_)
            skip
            skip
            exact hK1 _ _ (qt_nil (hK2 ⟨(z1, b14), hgz⟩ _ _ ⟨rfl, rfl, trivial⟩ (by repeat constructor)))
        · skip
          refine qt_seg (by repeat (first | exact PickL.nil | (apply PickL.cons; rfl))) fun K1 hK1 => ?_
          skip
          refine qf_alloc zero204 rfl (fun b14 => ?_)
          (refine qf_loadG tabOk rfl rfl rfl (by assumption) (by rfl) ?_)
          refine qf_loadA (cs := knC (passK s k x)) tabOk rfl rfl rfl (knC_len fp.bd) (fun w hs q hq => by rw [(hs.blk (b := b10) (by repeat constructor)).cell, Nat.zero_add]) ?_
          skip
          refine qf_callF (β := Value → Option Value) (ψ := fun g v => v = pkV (bstK s (passK s k x)) ∧ GoodB s g) (L' := fun g => [mpB bm g]) [mpB bm z1] _ (· = bm) rfl rfl rfl (Sp.cons (by repeat constructor) (Sp.refl _)) (fun x hx => ⟨_, .head _, hx⟩) (fun w' hs => CaF.of tabOk rfl (ih _ (by omega) (passK s k x) w' z1 rfl fp (h.mapC hm (hW _ hs.chg)) (hE.mapC hm (hW _ hs.chg)) (hs.mem (c := mpB bm z1) (by repeat constructor)) hgz)) ?_
          clear hgz
          rintro z1 v ⟨rfl, hgz⟩
          skip
          refine qf_fld tabOk 1 3 (by kernel_rfl) rfl rfl rfl rfl ?_
          (refine qf_loadG tabOk rfl rfl rfl (by assumption) (by rfl) ?_)
          refine qf_loadA (cs := knC (failK s k x)) tabOk rfl rfl rfl (knC_len ff.bd) (fun w hs q hq => by rw [(hs.blk (b := b12) (by repeat constructor)).cell, Nat.zero_add]) ?_
          skip
          refine qf_callF (β := Value → Option Value) (ψ := fun g v => v = pkV (bstK s (failK s k x)) ∧ GoodB s g) (L' := fun g => [mpB bm g]) [mpB bm z1] _ (· = bm) rfl rfl rfl (Sp.cons (by repeat constructor) (Sp.refl _)) (fun x hx => ⟨_, .head _, hx⟩) (fun w' hs => CaF.of tabOk rfl (ih _ (by omega) (failK s k x) w' z1 rfl ff (h.mapC hm (hW _ hs.chg)) (hE.mapC hm (hW _ hs.chg)) (hs.mem (c := mpB bm z1) (by repeat constructor)) hgz)) ?_
          clear hgz
          rintro z1 v ⟨rfl, hgz⟩
          skip
          refine qf_fld tabOk 1 3 (by kernel_rfl) rfl rfl rfl rfl ?_
          (refine qf_pure tabOk rfl rfl rfl ?_)
          refine qf_mkS 3 [.int .i64 (depV s (failK s k x))] rfl (by kernel_rfl) rfl (fun bn => ?_)
          skip
          refine qf_callv tabOk rfl rfl rfl rfl (fun w' hs => great_ca w' _ _ (depV s (passK s k x)) _ [depV s (failK s k x)] (Blk.rdI (c := 1) (hs.blk (b := bn) (cs := ints [depV s (failK s k x)]) (by repeat constructor))) (by simp)) ?_
          rw [show mxF (depV s (passK s k x)) [depV s (failK s k x)] = max (depV s (passK s k x)) (depV s (failK s k x)) from rfl]
          (refine qf_ar tabOk rfl rfl rfl rfl (by omega) (by omega) ?_)
          refine qf_mk #[.int .i64 x, .int .i64 (1 + max (depV s (passK s k x)) (depV s (failK s k x)))] rfl (by kernel_rfl) rfl ?_
          (refine qf_setA tabOk rfl rfl rfl rfl rfl (by repeat constructor) rfl ?_; refine qf_nil ?_)
          skip
          skip
          exact hK1 _ _ (qt_nil (hK2 ⟨(z1, b14), hgz⟩ _ _ ⟨rfl, rfl, trivial⟩ (by repeat constructor)))
      rintro ⟨⟨z1, b14⟩, hgz⟩
      dsimp only at hgz ⊢
      (refine q_seq (q_region ?_); refine ql_loadABa tabOk rfl rfl rfl ?_)
      refine ql_mk #[.int .i64 0, .int .i64 0] rfl (by kernel_rfl) rfl ?_
      skip
      refine ql_eqF [some .i64, some .i64] pk_flat rfl rfl rfl rfl rfl ?_
      (refine ql_pure tabOk rfl rfl ?_)
      have e0 : eqL (List.take 2 (List.drop 0 [Value.int .i64 out.1, Value.int .i64 out.2])) [Value.int .i64 0, Value.int .i64 0] = decide (out = (0, 0)) := by
        obtain ⟨u1, u2⟩ := out
        simp [eqL, Prod.ext_iff]
      rw [e0]
      have hps : pickS (depV s) s k out x = if out = (0, 0) ∨ 1 + max (depV s (passK s k x)) (depV s (failK s k x)) < out.2 then ((x : Int), 1 + max (depV s (passK s k x)) (depV s (failK s k x))) else out := rfl
      have hfl : ∀ z : Int × Int, pickS (depV s) s k out x = z → (pre ++ [x]).foldl (pickS (depV s) s k) (0, 0) = z := fun z hz => by
        rw [List.foldl_append, ← hout]
        exact hz
      cases hz : decide (out = (0, 0)) with
      | true =>
        have hz := of_decide_eq_true hz
        rw [if_pos (.inl hz)] at hps
        ((iterate 5 refine ql_gno rfl rfl rfl ?_); refine ql_pure tabOk rfl rfl (q_nil (q_cond_true rfl (q_region ?_))); refine ql_loadABa tabOk rfl rfl rfl ?_; refine ql_setA tabOk rfl rfl rfl rfl rfl (by repeat constructor) rfl ?_; refine q_nil (q_blk ?_))
        exact hend _ _ (z1, ((x : Int), 1 + max (depV s (passK s k x)) (depV s (failK s k x)))) ⟨(hfl _ hps).symm, hgz⟩ (by repeat constructor)
      | false =>
        have hz := of_decide_eq_false hz
        by_cases hl : 1 + max (depV s (passK s k x)) (depV s (failK s k x)) < out.2
        · rw [if_pos (.inr hl)] at hps
          (refine ql_gyes rfl (ql_pure tabOk rfl rfl (ql_gyes rfl ?_)); refine ql_loadBa tabOk rfl rfl rfl ?_; refine ql_gyes rfl (ql_pure tabOk rfl rfl (ql_gyes rfl ?_)); refine ql_loadBa tabOk rfl rfl rfl ?_; refine ql_gyes rfl (ql_lssT tabOk rfl rfl rfl (by omega) (ql_pure tabOk rfl rfl (q_nil (q_cond_true rfl (q_region ?_))))); refine ql_loadABa tabOk rfl rfl rfl ?_; refine ql_setA tabOk rfl rfl rfl rfl rfl (by repeat constructor) rfl ?_; refine q_nil (q_blk ?_))
          exact hend _ _ (z1, ((x : Int), 1 + max (depV s (passK s k x)) (depV s (failK s k x)))) ⟨(hfl _ hps).symm, hgz⟩ (by repeat constructor)
        · rw [if_neg (by rintro (h | h); exact hz h; exact hl h)] at hps
          (refine ql_gyes rfl (ql_pure tabOk rfl rfl (ql_gyes rfl ?_)); refine ql_loadBa tabOk rfl rfl rfl ?_; refine ql_gyes rfl (ql_pure tabOk rfl rfl (ql_gyes rfl ?_)); refine ql_loadBa tabOk rfl rfl rfl ?_; refine ql_gyes rfl (ql_lssF tabOk rfl rfl rfl (by omega) (ql_pure tabOk rfl rfl (q_nil (q_cond_false rfl (q_skip (q_blk ?_)))))))
          exact hend _ _ (z1, out) ⟨(hfl _ hps).symm, hgz⟩ (by repeat constructor)
    · rintro D ⟨z1, out⟩ ⟨hout, hgz⟩
      dsimp only [List.cons_append, List.nil_append] at hout hgz ⊢
      rw [← bstK_eq h8 hk] at hout
      subst hout
      (refine q_blk (q_seq (q_region ?_)); refine ql_loadG tabOk rfl rfl rfl (by assumption) (by rfl) ?_)
      refine ql_loadA (cs := knC k) tabOk rfl rfl rfl (knC_len hkb) (fun w hs q hq => by rw [(hs.blk (b := b4) (by repeat constructor)).cell, Nat.zero_add]) ?_
      (refine ql_loadABa tabOk rfl rfl rfl ?_)
      refine ql_mapUpd st_key st_map rfl rfl rfl (knV_key hkb) (by repeat constructor) ?_
      (refine q_nil (q_seq (q_region ?_)); refine ql_loadABa tabOk rfl rfl rfl ?_; refine ql_setA tabOk rfl rfl rfl rfl rfl (by repeat constructor) rfl ?_; refine q_nil (q_ret ?_))
      refine q_finMD tabOk (by repeat constructor) rfl (by repeat constructor) fun w hs => ?_
      exact ⟨_, ⟨rfl, goodB_upd hgz hk⟩, hs.sp (by repeat constructor)⟩
end Go.Proofs.YtopdmadgkjdgcaaGreat

/- Walks of rifle: the planner, the fewest further checks. -/
namespace Go.Proofs.YtopdmadgkjdgcaaGreat
set_option maxRecDepth 4000
open Go Go.Eng
/-- What the planner lays. -/
abbrev plnL (bd : Nat) (y : Nat × Nat × Nat × Nat) : List Ck := [mpB y.1 (fun _ => none), .pt y.2.1 [.map (some y.1)] 243, .pt y.2.2.1 [.pointer (some ⟨bd, 0, none⟩)] 177, .pt y.2.2.2 [bstF y.2.1 y.2.2.1 y.2.2.2] 205]
theorem rplanner_ca (w : World) (bd : Nat) : Ca Tryz.prog 128 [.pointer (some ⟨bd, 0, none⟩)] w fun x w' => ∃ y : Nat × Nat × Nat × Nat, x = bstF y.2.1 y.2.2.1 y.2.2.2 ∧ Sat w M0 (plnL bd y) w' := by
  refine q_of (Sat.nil w M0) Tryz.func128 rfl (by simp [Tryz.ntmps128]) ?_
  (refine q_seq (q_region ?_))
  refine ql_box rfl rfl (fun b2 => ?_)
  (refine ql_pure tabOk rfl rfl (q_nil (q_seq (q_region ?_))))
  refine ql_makeMap ksK eqV rfl (fun bm => ?_)
  skip
  refine ql_alloc zero243 rfl (fun b1 => ?_)
  (refine ql_set tabOk rfl rfl rfl rfl (by repeat constructor) ?_; refine q_nil (q_seq (q_region ?_)))
  refine ql_alloc zero205 rfl (fun b3 => ?_)
  (refine q_nil (q_seq (q_region (ql_pure tabOk rfl rfl ?_))); refine ql_set tabOk rfl rfl rfl rfl (by repeat constructor) ?_; refine q_nil (q_seq (q_region ?_)); refine ql_loadBa tabOk rfl rfl rfl ?_; refine ql_pure tabOk rfl rfl (q_nil (q_ret ?_)))
  refine q_fin tabOk rfl (by repeat constructor) fun w hs => ?_
  exact ⟨(bm, b1, b2, b3), rfl, hs.sp (by repeat constructor)⟩
theorem dsk_take (s : Sc) (tv rv : Value) : List.take 18 (List.drop (0 + 4) (Value.int .i64 s.err :: .int .i64 s.least :: tv :: rv :: knC (firstK s))) = knC (firstK s) := rfl
def tF14_393f534 : OT := chainT [0, 1, 2, 3, 4, 5, 6, 7, 8, 9] (.nil)
theorem rfewest_ok (w : World) (lo hi : Nat) (s : Sc) (tv rv : Value) (h : ScR w lo hi tv rv s) (hs0 : SOk s) : Ca Tryz.prog 52 [.agg (scC s tv rv).toArray] w fun x w' => x = .tuple #[.int .i64 (depV s (firstK s)), .int .i64 0] ∧ Chg [] w w' := by
  have hfit := firstK_fit hs0.le
  refine q_of (Sat.nil w M0) Tryz.func52 rfl (by simp [Tryz.ntmps52]) ?_
  (refine q_seq (q_region ?_))
  refine ql_box rfl rfl (fun b1 => ?_)
  rw [agg_cells]
  (refine ql_pure tabOk rfl rfl (ql_pure tabOk rfl rfl (q_nil (q_seq (q_region ?_)))); refine ql_loadABa tabOk rfl rfl rfl ?_)
  refine ql_call (β := Nat) tabOk [] _ M0 rfl rfl rfl rfl (Sp.refl _) (fun _ h => h.elim) (fun w' hs => rask_ok w' lo hi s tv _ (h.keep hs.chg0) hs0.ok hs0.le) ?_
  rintro bd _ rfl
  dsimp only [List.cons_append, List.nil_append]
  (refine ql_pure tabOk rfl rfl (ql_ext tabOk rfl rfl rfl (ql_ext tabOk rfl rfl rfl (ql_pure tabOk rfl rfl (ql_pure tabOk rfl rfl (q_nil (q_seq (q_seq (q_region (ql_pure tabOk rfl rfl (ql_neqF tabOk rfl rfl rfl (by omega) (q_nil ?_))))))))))); refine q_cond_false rfl (q_skip (q_seq ?_)))
  refine q_cut (σ := Unit) (fun _ => [(2, .int .i64 (depV s (firstK s))), (3, .int .i64 0)]) (fun _ => []) ?_ ?_
  rotate_left
  · intro K2 hK2
    refine q_drawT (tF14_393f534) _ [] (Sp.refl _) (by kernel_rfl) (by kernel_rfl) ?_
    refine qt_seg (by repeat (first | exact PickL.nil | (apply PickL.cons; rfl))) fun K1 hK1 => ?_
    (refine qf_pure tabOk rfl rfl rfl ?_)
    refine qf_call (β := Nat × Nat × Nat × Nat) (ψ := fun y v => v = bstF y.2.1 y.2.2.1 y.2.2.2) (L' := fun y => plnL bd y) tabOk [] _ M0 rfl rfl rfl rfl (Sp.refl _) (fun _ h => h.elim) (fun w' hs => rplanner_ca w' bd) ?_
    rintro ⟨bm, p1, p2, p3⟩ _ rfl
    dsimp only [plnL, List.cons_append, List.nil_append]
    ((iterate 3 refine qf_pure tabOk rfl rfl rfl ?_); refine qf_loadABa tabOk rfl rfl rfl ?_)
    rw [dsk_take s tv rv]
    refine qf_callF (β := Value → Option Value) (ψ := fun g v => v = pkV (bstK s (firstK s)) ∧ GoodB s g) (L' := fun g => [mpB bm g]) [mpB bm (fun _ => none)] _ (· = bm) rfl rfl rfl (Sp.cons (by repeat constructor) (Sp.refl _)) (fun x hx => ⟨_, .head _, hx⟩) (fun w' hs => CaF.of tabOk rfl (best_ca lo hi bm p1 p2 p3 bd s tv _ (firstK s) hs0.ok _ _ w' _ rfl hfit (h.keep hs.chg0) ⟨⟨_, hs.blk (b := p1) (by repeat constructor)⟩, ⟨_, hs.blk (b := p2) (by repeat constructor)⟩, ⟨_, hs.blk (b := p3) (by repeat constructor)⟩, hs.blk (b := bd) (by repeat constructor)⟩ (hs.mem (c := mpB bm (fun _ => none)) (by repeat constructor)) (goodB_nil s))) ?_
    rintro g v ⟨rfl, hg⟩
    skip
    refine qf_fld tabOk 1 3 (by kernel_rfl) rfl rfl rfl rfl ?_
    (refine qf_pure tabOk rfl rfl rfl (qf_pure tabOk rfl rfl rfl (qf_nil ?_)))
    exact hK1 _ _ (qt_nil (hK2 () _ _ ⟨rfl, rfl, trivial⟩ (by repeat constructor)))
  rintro _
  (refine q_ret ?_)
  refine q_fin tabOk rfl (by repeat constructor) fun w hs => ?_
  exact ⟨rfl, hs.chg0⟩
end Go.Proofs.YtopdmadgkjdgcaaGreat

/- Walks of rifle: the depth of a plan. -/
/- long -/
namespace Go.Proofs.YtopdmadgkjdgcaaGreat
set_option maxRecDepth 4000
open Go Go.Eng
/-- May a node follow the node i? -/
def nxB (i : Nat) (plan : List Nd) (k : Int) : Bool := decide (k = -1) || inB k ((i : Int) + 1) ((plan.length : Int) - 1)
theorem rnext_ca (w : World) (lo hi b1 b2 i : Nat) (plan : List Nd) (vp : Value) (k : Int) (t1 t2 : TypeId) (h1 : Blk w b1 [.int .i64 i] t1) (h2 : Blk w b2 [vp] t2) (hp : RdN w lo hi vp plan) (hl : plan.length ≤ 300) (hi3 : i ≤ 300) :
    Ca Tryz.prog 133 [.int .i64 k, .pointer (some ⟨b1, 0, none⟩), .pointer (some ⟨b2, 0, none⟩)] w fun x w' => x = .bool (nxB i plan k) ∧ Chg [] w w' := by
  obtain ⟨p, cap, rfl, hs0⟩ := hp.outI
  refine q_of (Sat.nil w M0) Tryz.func133 rfl (by simp [Tryz.ntmps133]) ?_
  by_cases hk : k = -1
  · (refine q_seq (q_region (ql_pure tabOk rfl rfl (q_nil (q_seq (q_region (ql_pure tabOk rfl rfl (ql_eqlT tabOk rfl rfl rfl (by omega) (ql_pure tabOk rfl rfl ?_)))))))); (iterate 7 refine ql_gno rfl rfl rfl ?_); refine ql_pure tabOk rfl rfl (ql_pure tabOk rfl rfl (q_nil (q_ret ?_))))
    refine q_fin tabOk rfl (by repeat (first | exact RVs.nil | apply RVs.tmp rfl | apply RVs.cellA rfl rfl (by repeat first | exact .head _ | refine .tail _ ?_) (by rfl) | apply RVs.cell1 rfl rfl (by repeat first | exact .head _ | refine .tail _ ?_))) fun w hs => ?_
    exact ⟨by simp [nxB, hk, retV], hs.chg0⟩
  · (refine q_seq (q_region (ql_pure tabOk rfl rfl (q_nil (q_seq (q_region (ql_pure tabOk rfl rfl (ql_eqlF tabOk rfl rfl rfl (by omega) (ql_pure tabOk rfl rfl (ql_gyes rfl (ql_pure tabOk rfl rfl (ql_gyes rfl ?_))))))))))); refine ql_loadP tabOk rfl rfl rfl (by assumption) (by rfl) ?_; refine ql_gyes rfl (ql_ar tabOk rfl rfl rfl rfl (by omega) (by omega) (ql_gyes rfl ?_)); refine ql_loadP tabOk rfl rfl rfl (by assumption) (by rfl) ?_; refine ql_gyes rfl (ql_pure tabOk rfl rfl (ql_gyes rfl (ql_ar tabOk rfl rfl rfl rfl (by omega) (by omega) (ql_gyes rfl ?_)))))
    refine ql_callv (val := .bool (inB k ((i : Int) + 1) ((plan.length : Int) - 1))) tabOk rfl rfl rfl rfl (fun w hs => ?_) ?_; exact rfin_ca _ _ _ w
    (refine ql_pure tabOk rfl rfl (ql_pure tabOk rfl rfl (q_nil (q_ret ?_))))
    refine q_fin tabOk rfl (by repeat (first | exact RVs.nil | apply RVs.tmp rfl | apply RVs.cellA rfl rfl (by repeat first | exact .head _ | refine .tail _ ?_) (by rfl) | apply RVs.cell1 rfl rfl (by repeat first | exact .head _ | refine .tail _ ?_))) fun w hs => ?_
    exact ⟨by simp [nxB, hk, retV], hs.chg0⟩
/-- Is a node of a plan in order? -/
def ndB (s : Sc) (plan : List Nd) (i : Nat) : Bool := inB (ndV plan i).r 0 ((s.rifles.length : Int) - 1) && (nxB i plan (ndV plan i).p && nxB i plan (ndV plan i).f)
theorem rp_iff {s : Sc} {plan : List Nd} : RpOk s plan ↔ ∀ i, i < plan.length → ndB s plan i = true := by
  unfold RpOk
  refine forall_congr' fun i => forall_congr' fun hi => ?_
  unfold ndB nxB
  simp only [Bool.and_eq_true, Bool.or_eq_true, decide_eq_true_iff, inB_iff]
  constructor
  · rintro ⟨h1, h2, h3⟩
    refine ⟨by omega, ?_, ?_⟩ <;> omega
  · rintro ⟨h1, h2, h3⟩
    refine ⟨by omega, ?_, ?_⟩ <;> omega
abbrev folV (b1 b2 b3 : Nat) : Value := .func (.func 134) #[] #[.pointer (some ⟨b1, 0, none⟩), .pointer (some ⟨b2, 0, none⟩), .pointer (some ⟨b3, 0, none⟩)]
/-- The variables of a walk along a plan. -/
structure FoE (w : World) (b1 b2 b3 bd : Nat) (s : Sc) (tv rv : Value) (k0 : Kn) (vp : Value) : Prop where
  h1 : ∃ t, Blk w b1 [.pointer (some ⟨bd, 0, none⟩)] t
  h2 : ∃ t, Blk w b2 [vp] t
  h3 : ∃ t, Blk w b3 [folV b1 b2 b3] t
  hd : Blk w bd (dskC s tv rv k0) 184
theorem FoE.keep {w w' : World} {b1 b2 b3 bd : Nat} {s : Sc} {tv rv : Value} {k0 : Kn} {vp : Value} (h : FoE w b1 b2 b3 bd s tv rv k0 vp) (c : Chg [] w w') : FoE w' b1 b2 b3 bd s tv rv k0 vp :=
  ⟨h.h1.imp fun _ h => h.keep c, h.h2.imp fun _ h => h.keep c, h.h3.imp fun _ h => h.keep c, h.hd.keep c⟩
theorem fol_neg (s : Sc) (plan : List Nd) (k : Kn) : ∀ g, folF s plan g (-1) k = if openL s k = [] then 0 else -1
  | 0 => rfl
  | g + 1 => by
    simp only [folF]
    rw [if_pos (by omega)]
set_option maxHeartbeats 4000000 in
theorem follow_end (lo hi b1 b2 b3 bd : Nat) (s : Sc) (tv rv : Value) (k0 : Kn) (vp : Value) (hs0 : s.Ok) (k : Kn) (w : World) (hk : k.Fit) (h : ScR w lo hi tv rv s) (hE : FoE w b1 b2 b3 bd s tv rv k0 vp) :
    Ca Tryz.prog 134 [.int .i64 (-1), knV k, .pointer (some ⟨b1, 0, none⟩), .pointer (some ⟨b2, 0, none⟩), .pointer (some ⟨b3, 0, none⟩)] w fun v w' => v = .int .i64 (if openL s k = [] then 0 else -1) ∧ Chg [] w w' := by
  have h8 := hs0.rn8
  have hkb := hk.bd
  obtain ⟨⟨t1, hb1⟩, ⟨t2, hb2⟩, ⟨t3, hb3⟩, hbd⟩ := id hE
  refine q_ofM (Sat.nil w M0) Tryz.func134 rfl (by simp [Tryz.ntmps134]) ?_
  (refine q_seq (q_region ?_))
  refine ql_box rfl rfl (fun b6 => ?_)
  rw [agg_cells]
  skip
  refine ql_alloc zero3 rfl (fun b7 => ?_)
  (refine q_nil (q_seq (q_seq (q_region (ql_pure tabOk rfl rfl (ql_eqlT tabOk rfl rfl rfl (by omega) (q_nil (q_cond_true rfl (q_seq (q_seq (q_region ?_)))))))))); refine ql_loadP tabOk rfl rfl rfl (by assumption) (by rfl) ?_)
  refine ql_loadA (cs := knC k) tabOk rfl rfl rfl (knC_len hkb) (fun w hs q hq => by rw [(hs.blk (b := b6) (by repeat first | exact .head _ | refine .tail _ ?_)).cell, Nat.zero_add]) ?_
  refine ql_call (β := Nat × Nat) (ψ := fun y v => v = openF y.1 y.2) (L' := fun y => [.pt y.1 [.pointer (some ⟨bd, 0, none⟩)] 177, .pt y.2 (knC k) 182]) tabOk [] _ M0 rfl rfl rfl rfl (Sp.refl _) (fun _ h => h.elim) (fun w' hs => open_ca w' bd k) ?_
  rintro ⟨o1, o2⟩ _ rfl
  dsimp only [List.cons_append, List.nil_append]
  (refine q_nil (q_block ?_))
  refine q_range natE Int (openL s k) (fun pre z => pre = [] ∧ z = 0) (fun c z => c = .ret ∧ z = -1 ∧ openL s k ≠ []) (fun z => [.pt b7 [.int .i64 z] 3]) [.pt o1 [.pointer (some ⟨bd, 0, none⟩)] 177, .pt o2 (knC k) 182] 0
    rfl (by kernel_rfl) rfl (fun _ _ => rfl) ⟨rfl, rfl⟩ (by repeat (first | exact Sp.nil | exact Sp.refl _ | refine Sp.cons (by repeat constructor) ?_)) ?_ ?_ ?_ ?_
  · intro w1 D hs hD
    have old : ∀ b cs t, Blk w b cs t → Blk w1 b cs t ∧ ¬ D b := fun b cs t hb => ⟨hb.keep hs.chg0, fun h => by
      have := (hD b h).2.resolve_left (fun h => h)
      have := hb.lt
      omega⟩
    exact open_it w1 D lo hi o1 o2 bd s tv rv k0 k (fun w' hc => h.keep (hs.chg0.old hc (fun k hk => (hD k hk).2.resolve_left (fun h => h)))) hs0 hkb (hs.blk (b := o1) (by repeat first | exact .head _ | refine .tail _ ?_)) (hs.blk (b := o2) (by repeat first | exact .head _ | refine .tail _ ?_)) (old _ _ _ hbd).1 ⟨fun e => (hD _ e).1 ⟨.pt o1 _ _, (by repeat first | exact .head _ | refine .tail _ ?_), rfl⟩, fun e => (hD _ e).1 ⟨.pt o2 _ _, (by repeat first | exact .head _ | refine .tail _ ?_), rfl⟩, (old _ _ _ hbd).2⟩
  · intro pre x post z w1 lb rdy bsy K F' hx hI hsat hR hbegin hend hret hexit
    obtain ⟨rfl, rfl⟩ := hI
    dsimp only [natE, List.zip_cons_cons, List.zip_nil_left, List.zip_nil_right, List.foldl_cons, List.foldl_nil]
    (refine q_skip ?_)
    refine hbegin _ _ ?_
    (refine q_block (q_seq (q_region ?_)); refine ql_set tabOk rfl rfl rfl rfl (by repeat constructor) ?_; refine q_nil (q_ret ?_))
    refine hret _ _ (-1) ⟨rfl, rfl, by rw [hx]; simp⟩ (by repeat (first | exact Sp.nil | exact Sp.refl _ | refine Sp.cons (by repeat constructor) ?_))
  · rintro D z ⟨h1, rfl⟩
    rw [if_pos h1]
    dsimp only [List.cons_append, List.nil_append]
    (refine q_blk (q_seq (q_region ?_)); refine ql_set tabOk rfl rfl rfl rfl (by repeat constructor) ?_; refine q_nil (q_ret ?_))
    refine q_finMD tabOk (by repeat constructor) rfl (by repeat (first | exact RVs.nil | apply RVs.tmp rfl | apply RVs.cellA rfl rfl (by repeat first | exact .head _ | refine .tail _ ?_) (by rfl) | apply RVs.cell1 rfl rfl (by repeat first | exact .head _ | refine .tail _ ?_))) fun w hs => ?_
    exact ⟨rfl, hs.chg0⟩
  · rintro D z c ⟨rfl, rfl, h1⟩
    rw [if_neg h1]
    dsimp only [List.cons_append, List.nil_append]
    (refine q_ret ?_)
    refine q_finMD tabOk (by repeat constructor) rfl (by repeat (first | exact RVs.nil | apply RVs.tmp rfl | apply RVs.cellA rfl rfl (by repeat first | exact .head _ | refine .tail _ ?_) (by rfl) | apply RVs.cell1 rfl rfl (by repeat first | exact .head _ | refine .tail _ ?_))) fun w hs => ?_
    exact ⟨rfl, hs.chg0⟩
theorem fol_bd (s : Sc) (plan : List Nd) : ∀ (g : Nat) (n : Int) (k : Kn), -1 ≤ folF s plan g n k ∧ folF s plan g n k ≤ g
  | 0, n, k => by
    simp only [folF]
    split <;> omega
  | g + 1, n, k => by
    simp only [folF]
    have h1 := fol_bd s plan g (ndV plan n).p (afterV s k (ndV plan n).r.toNat true).1
    have h2 := fol_bd s plan g (ndV plan n).f (afterV s k (ndV plan n).r.toNat false).1
    split
    · split <;> omega
    split
    · omega
    split
    · omega
    split <;> split <;> omega
/-- The round of a check that passes, and of one that fails. -/
def pbJ (j : Nat) : Bool := decide (j = 0)
def nxJ (x : Nd) (j : Nat) : Int := if j = 0 then x.p else x.f
def cJ (s : Sc) (k : Kn) (i j : Nat) : Kn × Bool := afterV s k i (pbJ j)
def fJ (s : Sc) (plan : List Nd) (g : Nat) (x : Nd) (k : Kn) (i j : Nat) : Int := folF s plan g (nxJ x j) (cJ s k i j).1
def outJ (s : Sc) (plan : List Nd) (g : Nat) (x : Nd) (k : Kn) (i : Nat) : Nat → Int
  | 0 => 0
  | j + 1 => if (cJ s k i j).2 = true then max (outJ s plan g x k i j) (1 + fJ s plan g x k i j) else outJ s plan g x k i j
theorem out_bd (s : Sc) (plan : List Nd) (g : Nat) (x : Nd) (k : Kn) (i : Nat) : ∀ j, 0 ≤ outJ s plan g x k i j ∧ outJ s plan g x k i j ≤ g + 1
  | 0 => by simp [outJ]; omega
  | j + 1 => by
    have h1 := out_bd s plan g x k i j
    have h2 := fol_bd s plan g (nxJ x j) (cJ s k i j).1
    simp only [outJ, fJ]
    split <;> omega
theorem fol_stop {s : Sc} {plan : List Nd} {g m i : Nat} {k : Kn} (hi : (ndV plan m).r = i) {j : Nat} (hj : j < 2) (h1 : (cJ s k i j).2 = true) (h2 : fJ s plan g (ndV plan m) k i j < 0) : folF s plan (g + 1) m k = -1 := by
  simp only [folF]
  rw [if_neg (by omega), hi, Int.toNat_natCast]
  obtain rfl | rfl : j = 0 ∨ j = 1 := by omega
  · rw [if_pos ⟨h1, h2⟩]
  · split
    · rfl
    · rw [if_pos ⟨h1, h2⟩]
theorem fol_out {s : Sc} {plan : List Nd} {g m i : Nat} {k : Kn} (hi : (ndV plan m).r = i) (h : ∀ j, j < 2 → ¬ ((cJ s k i j).2 = true ∧ fJ s plan g (ndV plan m) k i j < 0)) : folF s plan (g + 1) m k = outJ s plan g (ndV plan m) k i 2 := by
  have h0 : ¬ ((afterV s k i true).2 = true ∧ folF s plan g (ndV plan m).p (afterV s k i true).1 < 0) := h 0 (by omega)
  have h1 : ¬ ((afterV s k i false).2 = true ∧ folF s plan g (ndV plan m).f (afterV s k i false).1 < 0) := h 1 (by omega)
  simp only [folF]
  rw [if_neg (by omega), hi, Int.toNat_natCast, if_neg h0, if_neg h1]
  show _ = if (afterV s k i false).2 = true then max (if (afterV s k i true).2 = true then max 0 (1 + folF s plan g (ndV plan m).p (afterV s k i true).1) else 0) (1 + folF s plan g (ndV plan m).f (afterV s k i false).1) else (if (afterV s k i true).2 = true then max 0 (1 + folF s plan g (ndV plan m).p (afterV s k i true).1) else 0)
  by_cases e1 : (afterV s k i true).2 = true <;> by_cases e2 : (afterV s k i false).2 = true
  · rw [if_pos e1, if_pos e2, if_pos e1, if_pos e2]
    have : ¬ _ < _ := fun e => h0 ⟨e1, e⟩
    omega
  · rw [if_pos e1, if_neg e2, if_pos e1, if_neg e2]
    have : ¬ _ < _ := fun e => h0 ⟨e1, e⟩
    omega
  · rw [if_neg e1, if_pos e2, if_neg e1, if_pos e2]
  · rw [if_neg e1, if_neg e2, if_neg e1, if_neg e2]
    omega
theorem ndV_get {plan : List Nd} {m : Nat} (hm : m < plan.length) : ndV plan m = plan[m] := by
  unfold ndV
  rw [Int.toNat_natCast, List.getD_eq_getElem?_getD, List.getElem?_eq_getElem hm]
  rfl
theorem after_len {s : Sc} {k : Kn} {i : Nat} {b : Bool} (hk : k.Fit) : (afterV s k i b).1.p.length = 8 ∧ (afterV s k i b).1.f.length = 8 := by
  have h1 := hk.p8
  have h2 := hk.f8
  unfold afterV
  split
  · exact ⟨h1, h2⟩
  split
  · exact ⟨by unfold passK; simp only; rw [List.length_set]; exact h1, h2⟩
  · exact ⟨h1, by unfold failK; simp only; rw [List.length_set]; exact h2⟩
def tF15_e6b7b30 : OT := .alt (chainT [0, 1, 2, 3, 4, 5, 6, 7, 8, 9, 10, 11, 12, 13, 14] (.nil)) (chainT [12, 0, 1, 2, 3, 4, 5, 6, 7, 8, 9, 10, 11, 13, 14] (.nil))
set_option maxHeartbeats 4000000 in
theorem follow_ca (lo hi b1 b2 b3 bd : Nat) (s : Sc) (tv rv : Value) (k0 : Kn) (plan : List Nd) (vp : Value) (hs0 : s.Ok) (hp : RpOk s plan) (hpl : plan.length ≤ 300) : ∀ (g : Nat), g ≤ 1000 → ∀ (n : Int) (k : Kn) (w : World), (n = -1 ∨ 0 ≤ n ∧ n < plan.length ∧ plan.length ≤ g + n.toNat) → k.Fit → ScR w lo hi tv rv s → RdN w lo hi vp plan → FoE w b1 b2 b3 bd s tv rv k0 vp →
    Ca Tryz.prog 134 [.int .i64 n, knV k, .pointer (some ⟨b1, 0, none⟩), .pointer (some ⟨b2, 0, none⟩), .pointer (some ⟨b3, 0, none⟩)] w fun v w' => v = .int .i64 (folF s plan g n k) ∧ Chg [] w w' := by
  have h8 := hs0.rn8
  intro g
  induction g with
  | zero =>
    intro hg n k w hn hk h hr hE
    obtain rfl : n = -1 := by omega
    rw [fol_neg]
    exact follow_end lo hi b1 b2 b3 bd s tv rv k0 vp hs0 k w hk h hE
  | succ g ih =>
  intro hg n k w hn hk h hr hE
  by_cases hn1 : n = -1
  · subst hn1
    rw [fol_neg]
    exact follow_end lo hi b1 b2 b3 bd s tv rv k0 vp hs0 k w hk h hE
  have hkb := hk.bd
  obtain ⟨⟨t1, hb1⟩, ⟨t2, hb2⟩, ⟨t3, hb3⟩, hbd⟩ := id hE
  obtain ⟨n0, n1, n2⟩ := hn.resolve_left hn1
  obtain ⟨m, rfl⟩ := Int.eq_ofNat_of_zero_le n0
  have hm : m < plan.length := by omega
  obtain ⟨⟨r0, r1⟩, p0, f0⟩ := hp m hm
  obtain ⟨i, hri⟩ := Int.eq_ofNat_of_zero_le r0
  have hil : i < s.rifles.length := by omega
  have hnd := ndV_get hm
  obtain ⟨pa, pcap, rfl, hps⟩ := hr.outI
  obtain ⟨pb', po, rfl⟩ := hps (by omega)
  refine q_ofM (Sat.nil w M0) Tryz.func134 rfl (by simp [Tryz.ntmps134]) ?_
  (refine q_seq (q_region ?_))
  refine ql_box rfl rfl (fun b6 => ?_)
  rw [agg_cells]
  skip
  refine ql_alloc zero3 rfl (fun b7 => ?_)
  (refine q_nil (q_seq (q_seq (q_region (ql_pure tabOk rfl rfl (ql_eqlF tabOk rfl rfl rfl (by omega) (q_nil (q_cond_false rfl (q_skip (q_seq (q_region (ql_pure tabOk rfl rfl ?_))))))))))); refine q_nil (q_seq (q_seq (q_region ?_))))
  refine ql_mkS 4 [.bool true, .bool false] rfl (by kernel_rfl) rfl (fun bn => ?_)
  (refine ql_pure tabOk rfl rfl (ql_pure tabOk rfl rfl (q_nil (q_block ?_))))
  refine q_loop (σ := Nat) (fun j => j ≤ 2 ∧ ∀ i', i' < j → ¬ ((cJ s k i i').2 = true ∧ fJ s plan g (ndV plan m) k i i' < 0)) (fun j => 2 - j) (fun j => [(0, .int .i64 m), (2, .pointer (some ⟨b1, 0, none⟩)), (3, .pointer (some ⟨b2, 0, none⟩)), (4, .pointer (some ⟨b3, 0, none⟩)), (6, .pointer (some ⟨b6, 0, none⟩)), (7, .pointer (some ⟨b7, 0, none⟩)), (8, .int .i64 (outJ s plan g (ndV plan m) k i j)), (21, .slice (some ⟨bn, 0, none⟩) 2 2), (22, .int .i64 2), (23, .int .i64 j)]) (fun _ => [.pt b7 [.int .i64 0] 3, .pt b6 (knC k) 182, .pt bn [.bool true, .bool false] 4]) 0 ⟨by omega, fun _ h => by omega⟩ ⟨rfl, rfl, rfl, rfl, rfl, rfl, rfl, rfl, rfl, rfl, trivial⟩ (by repeat (first | exact Sp.nil | exact Sp.refl _ | refine Sp.cons (by repeat constructor) ?_)) ?_
  rintro j ⟨hj, hno⟩ K hK
  have hob := out_bd s plan g (ndV plan m) k i j
  (refine q_seq (q_region (ql_pure tabOk rfl rfl (q_nil (q_seq ?_)))))
  refine q_if rfl (fun hc => ?_) (fun hc => ?_)
  · have hj2 : j < 2 := by omega
    clear hc
    have hFb := fol_bd s plan g (nxJ (ndV plan m) j) (cJ s k i j).1
    obtain ⟨pb, nx, hpv, hpj, hnx, hpt, hpf, hnxr⟩ : ∃ (pb : Bool) (nx : Int), [Value.bool true, Value.bool false][j]? = some (.bool pb) ∧ pbJ j = pb ∧ nxJ (ndV plan m) j = nx ∧ (pb = true → nx = plan[m].p) ∧ (pb = false → nx = plan[m].f) ∧ (nx = -1 ∨ 0 ≤ nx ∧ nx < plan.length ∧ plan.length ≤ g + nx.toNat) := by
      obtain rfl | rfl : j = 0 ∨ j = 1 := by omega
      · exact ⟨true, _, rfl, rfl, rfl, fun _ => by simp [nxJ, hnd], fun h => by simp at h, by simp only [nxJ, if_pos]; omega⟩
      · exact ⟨false, _, rfl, rfl, rfl, fun h => by simp at h, fun _ => by simp [nxJ, hnd], by simp only [nxJ]; rw [if_neg (by omega)]; omega⟩
    (refine q_skip (q_seq (q_block (q_seq (q_region ?_)))))
    refine ql_index tabOk rfl rfl rfl rfl rfl (by omega) (by omega) ?_
    skip
    refine ql_load1 (v := .bool pb) tabOk rfl rfl rfl (fun w hs => by rw [(hs.blk (b := bn) (by repeat first | exact .head _ | refine .tail _ ?_)).cell]; simpa using hpv) ?_
    have hclen : (knC (cJ s k i j).1).length = 18 := by
      obtain ⟨h1, h2⟩ := after_len (s := s) (i := i) (b := pbJ j) hk
      simp [knC, bools, cJ, h1, h2]
    have hcv : cJ s k i j = afterV s k i pb := by rw [← hpj]; rfl
    (refine ql_pure tabOk rfl rfl (q_nil (q_seq (q_region ?_))); refine ql_loadP tabOk rfl rfl rfl (by assumption) (by rfl) ?_; refine ql_pure tabOk rfl rfl ?_)
    refine ql_index tabOk rfl rfl rfl rfl rfl (by omega) (by omega) ?_
    (refine ql_pure tabOk rfl rfl ?_)
    refine ql_load1 (v := .int .i64 plan[m].f) tabOk rfl rfl rfl (fun w hs => by simpa using RdN.at2 (RdE.keep hr hs.chg0) m hm) ?_
    cases pb with
    | true =>
      (refine ql_pure tabOk rfl rfl (q_nil (q_seq (q_seq (q_region (ql_pure tabOk rfl rfl (q_nil (q_cond_true rfl (q_region ?_)))))))); refine ql_loadP tabOk rfl rfl rfl (by assumption) (by rfl) ?_; refine ql_pure tabOk rfl rfl ?_)
      refine ql_index tabOk rfl rfl rfl rfl rfl (by omega) (by omega) ?_
      (refine ql_pure tabOk rfl rfl ?_)
      refine ql_load1 (v := .int .i64 plan[m].p) tabOk rfl rfl rfl (fun w hs => by simpa using RdN.at1 (RdE.keep hr hs.chg0) m hm) ?_
      rw [← hpt rfl]
      (refine ql_pure tabOk rfl rfl (q_nil (q_seq ?_)))
      refine q_cut (σ := Nat) (fun b12 => [(0, .int .i64 m), (2, .pointer (some ⟨b1, 0, none⟩)), (3, .pointer (some ⟨b2, 0, none⟩)), (4, .pointer (some ⟨b3, 0, none⟩)), (6, .pointer (some ⟨b6, 0, none⟩)), (7, .pointer (some ⟨b7, 0, none⟩)), (8, .int .i64 (outJ s plan g (ndV plan m) k i j)), (11, .int .i64 nx), (12, .pointer (some ⟨b12, 0, none⟩)), (13, .bool (cJ s k i j).2), (21, .slice (some ⟨bn, 0, none⟩) 2 2), (22, .int .i64 2), (23, .int .i64 j)]) (fun b12 => [.pt b7 [.int .i64 0] 3, .pt b6 (knC k) 182, .pt bn [.bool true, .bool false] 4, .pt b12 (knC (cJ s k i j).1) 182]) ?_ ?_
      rotate_left
      · intro K2 hK2
        refine q_drawT (tF15_e6b7b30) _ [] (Sp.refl _) (by kernel_rfl) (by kernel_rfl) ?_
        refine qt_alt ?_ ?_
        · skip
          refine qt_seg (by repeat (first | exact PickL.nil | (apply PickL.cons; rfl))) fun K1 hK1 => ?_
          (refine qf_loadP tabOk rfl rfl rfl (by assumption) (by rfl) ?_)
          refine qf_loadA (cs := knC k) tabOk rfl rfl rfl (knC_len hkb) (fun w hs q hq => by rw [(hs.blk (b := b6) (by repeat first | exact .head _ | refine .tail _ ?_)).cell, Nat.zero_add]) ?_
          (refine qf_loadP tabOk rfl rfl rfl (by assumption) (by rfl) ?_; refine qf_pure tabOk rfl rfl rfl ?_)
          refine qf_index tabOk rfl rfl rfl rfl rfl (by omega) (by omega) ?_
          (refine qf_pure tabOk rfl rfl rfl ?_)
          refine qf_load1 (v := .int .i64 i) tabOk rfl rfl rfl (fun w hs => by have := RdN.at0 (RdE.keep hr hs.chg0) m hm; rw [← hnd, hri] at this; simpa using this) ?_
          (refine qf_pure tabOk rfl rfl rfl ?_)
          refine qf_callv (val := .tuple #[knV (cJ s k i j).1, .bool (cJ s k i j).2]) tabOk rfl rfl rfl rfl (fun w' hs => by rw [hcv]; exact after_ca w' lo hi bd s tv rv k0 k (h.keep hs.chg0) (hbd.keep hs.chg0) hs0 hkb i hil _) ?_
          (refine qf_pure tabOk rfl rfl rfl (qf_ext tabOk rfl rfl rfl (qf_ext tabOk rfl rfl rfl ?_)))
          refine qf_alloc zero182 rfl (fun b12 => ?_)
          skip
          refine qf_setA (us := knC (cJ s k i j).1) tabOk rfl rfl rfl hclen (knC_one _) (by repeat constructor) rfl ?_
          (refine qf_pure tabOk rfl rfl rfl (qf_nil ?_))
          exact hK1 _ _ (qt_nil (hK2 b12 _ _ ⟨rfl, rfl, rfl, rfl, rfl, rfl, rfl, rfl, rfl, rfl, rfl, rfl, rfl, trivial⟩ (by repeat (first | exact Sp.nil | exact Sp.refl _ | refine Sp.cons (by repeat constructor) ?_))))
        · skip
          refine qt_seg (by repeat (first | exact PickL.nil | (apply PickL.cons; rfl))) fun K1 hK1 => ?_
          skip
          refine qf_alloc zero182 rfl (fun b12 => ?_)
          (refine qf_loadP tabOk rfl rfl rfl (by assumption) (by rfl) ?_)
          refine qf_loadA (cs := knC k) tabOk rfl rfl rfl (knC_len hkb) (fun w hs q hq => by rw [(hs.blk (b := b6) (by repeat first | exact .head _ | refine .tail _ ?_)).cell, Nat.zero_add]) ?_
          (refine qf_loadP tabOk rfl rfl rfl (by assumption) (by rfl) ?_; refine qf_pure tabOk rfl rfl rfl ?_)
          refine qf_index tabOk rfl rfl rfl rfl rfl (by omega) (by omega) ?_
          (refine qf_pure tabOk rfl rfl rfl ?_)
          refine qf_load1 (v := .int .i64 i) tabOk rfl rfl rfl (fun w hs => by have := RdN.at0 (RdE.keep hr hs.chg0) m hm; rw [← hnd, hri] at this; simpa using this) ?_
          (refine qf_pure tabOk rfl rfl rfl ?_)
          refine qf_callv (val := .tuple #[knV (cJ s k i j).1, .bool (cJ s k i j).2]) tabOk rfl rfl rfl rfl (fun w' hs => by rw [hcv]; exact after_ca w' lo hi bd s tv rv k0 k (h.keep hs.chg0) (hbd.keep hs.chg0) hs0 hkb i hil _) ?_
          (refine qf_pure tabOk rfl rfl rfl (qf_ext tabOk rfl rfl rfl (qf_ext tabOk rfl rfl rfl ?_)))
          refine qf_setA (us := knC (cJ s k i j).1) tabOk rfl rfl rfl hclen (knC_one _) (by repeat constructor) rfl ?_
          (refine qf_pure tabOk rfl rfl rfl (qf_nil ?_))
          exact hK1 _ _ (qt_nil (hK2 b12 _ _ ⟨rfl, rfl, rfl, rfl, rfl, rfl, rfl, rfl, rfl, rfl, rfl, rfl, rfl, trivial⟩ (by repeat (first | exact Sp.nil | exact Sp.refl _ | refine Sp.cons (by repeat constructor) ?_))))
      intro b12
      cases hc2 : (cJ s k i j).2 with
      | false =>
        (refine q_seq (q_seq (q_region (ql_pure tabOk rfl rfl (ql_pure tabOk rfl rfl (q_nil (q_cond_true rfl (q_exit _ rfl (q_region (ql_ar tabOk rfl rfl rfl rfl (by omega) (by omega) (ql_pure tabOk rfl rfl (q_nil ?_))))))))))))
        exact hK (j + 1) _ _ ⟨by omega, fun i' h' => by
          by_cases he : i' = j
          · rw [he, hc2]; simp
          · exact hno i' (by omega)⟩ (by omega) ⟨rfl, rfl, rfl, rfl, rfl, rfl, by simp only [outJ]; rw [hc2]; rfl, rfl, rfl, rfl, trivial⟩ (by repeat (first | exact Sp.nil | exact Sp.refl _ | refine Sp.cons (by repeat constructor) ?_))
      | true =>
        have hcf : (cJ s k i j).1.Fit := after_fit hk hc2
        (refine q_seq (q_seq (q_region (ql_pure tabOk rfl rfl (ql_pure tabOk rfl rfl (q_nil (q_cond_false rfl (q_skip (q_seq (q_region ?_))))))))); refine ql_loadP tabOk rfl rfl rfl (by assumption) (by rfl) ?_; refine ql_pure tabOk rfl rfl ?_)
        refine ql_loadA (cs := knC (cJ s k i j).1) tabOk rfl rfl rfl hclen (fun w hs q hq => by rw [(hs.blk (b := b12) (by repeat first | exact .head _ | refine .tail _ ?_)).cell, Nat.zero_add]) ?_
        refine ql_callFv (val := .int .i64 (fJ s plan g (ndV plan m) k i j)) rfl rfl rfl (fun w' hs => CaF.of tabOk rfl (by have := ih (by omega) nx (cJ s k i j).1 w' hnxr hcf (h.keep hs.chg0) (RdE.keep hr hs.chg0) (hE.keep hs.chg0); unfold fJ; rw [hnx]; exact this)) ?_
        have hfb : -1 ≤ fJ s plan g (ndV plan m) k i j ∧ fJ s plan g (ndV plan m) k i j ≤ g := by unfold fJ; exact hFb
        by_cases hneg : fJ s plan g (ndV plan m) k i j < 0
        · (refine ql_pure tabOk rfl rfl (q_nil (q_seq (q_seq (q_region (ql_pure tabOk rfl rfl (ql_lssT tabOk rfl rfl rfl (by omega) (q_nil (q_cond_true rfl (q_seq (q_region ?_)))))))))); refine ql_set tabOk rfl rfl rfl rfl (by repeat constructor) ?_; refine q_nil (q_ret ?_))
          refine q_finM tabOk rfl (by repeat (first | exact RVs.nil | apply RVs.tmp rfl | apply RVs.cellA rfl rfl (by repeat first | exact .head _ | refine .tail _ ?_) (by rfl) | apply RVs.cell1 rfl rfl (by repeat first | exact .head _ | refine .tail _ ?_))) fun w hs => ?_
          exact ⟨by rw [fol_stop hri hj2 hc2 hneg]; rfl, hs.chg0⟩
        · (refine ql_pure tabOk rfl rfl (q_nil (q_seq (q_seq (q_region (ql_pure tabOk rfl rfl (ql_lssF tabOk rfl rfl rfl (by omega) (q_nil (q_cond_false rfl (q_skip (q_region (ql_pure tabOk rfl rfl ?_))))))))))); refine ql_pure tabOk rfl rfl (ql_ar tabOk rfl rfl rfl rfl (by omega) (by omega) ?_))
          refine ql_mkS 3 [.int .i64 (1 + fJ s plan g (ndV plan m) k i j)] rfl (by kernel_rfl) rfl (fun bq => ?_)
          skip
          refine ql_callv (val := .int .i64 (max (outJ s plan g (ndV plan m) k i j) (1 + fJ s plan g (ndV plan m) k i j))) tabOk rfl rfl rfl rfl (fun w hs => ?_) ?_; exact by have := great_ca w _ _ (outJ s plan g (ndV plan m) k i j) _ [1 + fJ s plan g (ndV plan m) k i j] (Blk.rdI (c := 1) (hs.blk (b := bq) (cs := ints [1 + fJ s plan g (ndV plan m) k i j]) (by repeat first | exact .head _ | refine .tail _ ?_))) (by simp); exact this
          (refine ql_pure tabOk rfl rfl (q_nil (q_blk (q_region (ql_ar tabOk rfl rfl rfl rfl (by omega) (by omega) (ql_pure tabOk rfl rfl (q_nil ?_)))))))
          exact hK (j + 1) _ _ ⟨by omega, fun i' h' => by
            by_cases he : i' = j
            · rw [he]; exact fun e => hneg e.2
            · exact hno i' (by omega)⟩ (by omega) ⟨rfl, rfl, rfl, rfl, rfl, rfl, by simp only [outJ]; rw [hc2]; rfl, rfl, rfl, rfl, trivial⟩ (by repeat (first | exact Sp.nil | exact Sp.refl _ | refine Sp.cons (by repeat constructor) ?_))
    | false =>
      rw [← hpf rfl]
      (refine ql_pure tabOk rfl rfl (q_nil (q_seq (q_seq (q_region (ql_pure tabOk rfl rfl (q_nil (q_cond_false rfl (q_skip (q_seq ?_))))))))))
      refine q_cut (σ := Nat) (fun b12 => [(0, .int .i64 m), (2, .pointer (some ⟨b1, 0, none⟩)), (3, .pointer (some ⟨b2, 0, none⟩)), (4, .pointer (some ⟨b3, 0, none⟩)), (6, .pointer (some ⟨b6, 0, none⟩)), (7, .pointer (some ⟨b7, 0, none⟩)), (8, .int .i64 (outJ s plan g (ndV plan m) k i j)), (11, .int .i64 nx), (12, .pointer (some ⟨b12, 0, none⟩)), (13, .bool (cJ s k i j).2), (21, .slice (some ⟨bn, 0, none⟩) 2 2), (22, .int .i64 2), (23, .int .i64 j)]) (fun b12 => [.pt b7 [.int .i64 0] 3, .pt b6 (knC k) 182, .pt bn [.bool true, .bool false] 4, .pt b12 (knC (cJ s k i j).1) 182]) ?_ ?_
      rotate_left
      · intro K2 hK2
        refine q_drawT (tF15_e6b7b30) _ [] (Sp.refl _) (by kernel_rfl) (by kernel_rfl) ?_
        refine qt_alt ?_ ?_
        · skip
          refine qt_seg (by repeat (first | exact PickL.nil | (apply PickL.cons; rfl))) fun K1 hK1 => ?_
          (refine qf_loadP tabOk rfl rfl rfl (by assumption) (by rfl) ?_)
          refine qf_loadA (cs := knC k) tabOk rfl rfl rfl (knC_len hkb) (fun w hs q hq => by rw [(hs.blk (b := b6) (by repeat first | exact .head _ | refine .tail _ ?_)).cell, Nat.zero_add]) ?_
          (refine qf_loadP tabOk rfl rfl rfl (by assumption) (by rfl) ?_; refine qf_pure tabOk rfl rfl rfl ?_)
          refine qf_index tabOk rfl rfl rfl rfl rfl (by omega) (by omega) ?_
          (refine qf_pure tabOk rfl rfl rfl ?_)
          refine qf_load1 (v := .int .i64 i) tabOk rfl rfl rfl (fun w hs => by have := RdN.at0 (RdE.keep hr hs.chg0) m hm; rw [← hnd, hri] at this; simpa using this) ?_
          (refine qf_pure tabOk rfl rfl rfl ?_)
          refine qf_callv (val := .tuple #[knV (cJ s k i j).1, .bool (cJ s k i j).2]) tabOk rfl rfl rfl rfl (fun w' hs => by rw [hcv]; exact after_ca w' lo hi bd s tv rv k0 k (h.keep hs.chg0) (hbd.keep hs.chg0) hs0 hkb i hil _) ?_
          (refine qf_pure tabOk rfl rfl rfl (qf_ext tabOk rfl rfl rfl (qf_ext tabOk rfl rfl rfl ?_)))
          refine qf_alloc zero182 rfl (fun b12 => ?_)
          skip
          refine qf_setA (us := knC (cJ s k i j).1) tabOk rfl rfl rfl hclen (knC_one _) (by repeat constructor) rfl ?_
          (refine qf_pure tabOk rfl rfl rfl (qf_nil ?_))
          exact hK1 _ _ (qt_nil (hK2 b12 _ _ ⟨rfl, rfl, rfl, rfl, rfl, rfl, rfl, rfl, rfl, rfl, rfl, rfl, rfl, trivial⟩ (by repeat (first | exact Sp.nil | exact Sp.refl _ | refine Sp.cons (by repeat constructor) ?_))))
        · skip
          refine qt_seg (by repeat (first | exact PickL.nil | (apply PickL.cons; rfl))) fun K1 hK1 => ?_
          skip
          refine qf_alloc zero182 rfl (fun b12 => ?_)
          (refine qf_loadP tabOk rfl rfl rfl (by assumption) (by rfl) ?_)
          refine qf_loadA (cs := knC k) tabOk rfl rfl rfl (knC_len hkb) (fun w hs q hq => by rw [(hs.blk (b := b6) (by repeat first | exact .head _ | refine .tail _ ?_)).cell, Nat.zero_add]) ?_
          (refine qf_loadP tabOk rfl rfl rfl (by assumption) (by rfl) ?_; refine qf_pure tabOk rfl rfl rfl ?_)
          refine qf_index tabOk rfl rfl rfl rfl rfl (by omega) (by omega) ?_
          (refine qf_pure tabOk rfl rfl rfl ?_)
          refine qf_load1 (v := .int .i64 i) tabOk rfl rfl rfl (fun w hs => by have := RdN.at0 (RdE.keep hr hs.chg0) m hm; rw [← hnd, hri] at this; simpa using this) ?_
          (refine qf_pure tabOk rfl rfl rfl ?_)
          refine qf_callv (val := .tuple #[knV (cJ s k i j).1, .bool (cJ s k i j).2]) tabOk rfl rfl rfl rfl (fun w' hs => by rw [hcv]; exact after_ca w' lo hi bd s tv rv k0 k (h.keep hs.chg0) (hbd.keep hs.chg0) hs0 hkb i hil _) ?_
          (refine qf_pure tabOk rfl rfl rfl (qf_ext tabOk rfl rfl rfl (qf_ext tabOk rfl rfl rfl ?_)))
          refine qf_setA (us := knC (cJ s k i j).1) tabOk rfl rfl rfl hclen (knC_one _) (by repeat constructor) rfl ?_
          (refine qf_pure tabOk rfl rfl rfl (qf_nil ?_))
          exact hK1 _ _ (qt_nil (hK2 b12 _ _ ⟨rfl, rfl, rfl, rfl, rfl, rfl, rfl, rfl, rfl, rfl, rfl, rfl, rfl, trivial⟩ (by repeat (first | exact Sp.nil | exact Sp.refl _ | refine Sp.cons (by repeat constructor) ?_))))
      intro b12
      cases hc2 : (cJ s k i j).2 with
      | false =>
        (refine q_seq (q_seq (q_region (ql_pure tabOk rfl rfl (ql_pure tabOk rfl rfl (q_nil (q_cond_true rfl (q_exit _ rfl (q_region (ql_ar tabOk rfl rfl rfl rfl (by omega) (by omega) (ql_pure tabOk rfl rfl (q_nil ?_))))))))))))
        exact hK (j + 1) _ _ ⟨by omega, fun i' h' => by
          by_cases he : i' = j
          · rw [he, hc2]; simp
          · exact hno i' (by omega)⟩ (by omega) ⟨rfl, rfl, rfl, rfl, rfl, rfl, by simp only [outJ]; rw [hc2]; rfl, rfl, rfl, rfl, trivial⟩ (by repeat (first | exact Sp.nil | exact Sp.refl _ | refine Sp.cons (by repeat constructor) ?_))
      | true =>
        have hcf : (cJ s k i j).1.Fit := after_fit hk hc2
        (refine q_seq (q_seq (q_region (ql_pure tabOk rfl rfl (ql_pure tabOk rfl rfl (q_nil (q_cond_false rfl (q_skip (q_seq (q_region ?_))))))))); refine ql_loadP tabOk rfl rfl rfl (by assumption) (by rfl) ?_; refine ql_pure tabOk rfl rfl ?_)
        refine ql_loadA (cs := knC (cJ s k i j).1) tabOk rfl rfl rfl hclen (fun w hs q hq => by rw [(hs.blk (b := b12) (by repeat first | exact .head _ | refine .tail _ ?_)).cell, Nat.zero_add]) ?_
        refine ql_callFv (val := .int .i64 (fJ s plan g (ndV plan m) k i j)) rfl rfl rfl (fun w' hs => CaF.of tabOk rfl (by have := ih (by omega) nx (cJ s k i j).1 w' hnxr hcf (h.keep hs.chg0) (RdE.keep hr hs.chg0) (hE.keep hs.chg0); unfold fJ; rw [hnx]; exact this)) ?_
        have hfb : -1 ≤ fJ s plan g (ndV plan m) k i j ∧ fJ s plan g (ndV plan m) k i j ≤ g := by unfold fJ; exact hFb
        by_cases hneg : fJ s plan g (ndV plan m) k i j < 0
        · (refine ql_pure tabOk rfl rfl (q_nil (q_seq (q_seq (q_region (ql_pure tabOk rfl rfl (ql_lssT tabOk rfl rfl rfl (by omega) (q_nil (q_cond_true rfl (q_seq (q_region ?_)))))))))); refine ql_set tabOk rfl rfl rfl rfl (by repeat constructor) ?_; refine q_nil (q_ret ?_))
          refine q_finM tabOk rfl (by repeat (first | exact RVs.nil | apply RVs.tmp rfl | apply RVs.cellA rfl rfl (by repeat first | exact .head _ | refine .tail _ ?_) (by rfl) | apply RVs.cell1 rfl rfl (by repeat first | exact .head _ | refine .tail _ ?_))) fun w hs => ?_
          exact ⟨by rw [fol_stop hri hj2 hc2 hneg]; rfl, hs.chg0⟩
        · (refine ql_pure tabOk rfl rfl (q_nil (q_seq (q_seq (q_region (ql_pure tabOk rfl rfl (ql_lssF tabOk rfl rfl rfl (by omega) (q_nil (q_cond_false rfl (q_skip (q_region (ql_pure tabOk rfl rfl ?_))))))))))); refine ql_pure tabOk rfl rfl (ql_ar tabOk rfl rfl rfl rfl (by omega) (by omega) ?_))
          refine ql_mkS 3 [.int .i64 (1 + fJ s plan g (ndV plan m) k i j)] rfl (by kernel_rfl) rfl (fun bq => ?_)
          skip
          refine ql_callv (val := .int .i64 (max (outJ s plan g (ndV plan m) k i j) (1 + fJ s plan g (ndV plan m) k i j))) tabOk rfl rfl rfl rfl (fun w hs => ?_) ?_; exact by have := great_ca w _ _ (outJ s plan g (ndV plan m) k i j) _ [1 + fJ s plan g (ndV plan m) k i j] (Blk.rdI (c := 1) (hs.blk (b := bq) (cs := ints [1 + fJ s plan g (ndV plan m) k i j]) (by repeat first | exact .head _ | refine .tail _ ?_))) (by simp); exact this
          (refine ql_pure tabOk rfl rfl (q_nil (q_blk (q_region (ql_ar tabOk rfl rfl rfl rfl (by omega) (by omega) (ql_pure tabOk rfl rfl (q_nil ?_)))))))
          exact hK (j + 1) _ _ ⟨by omega, fun i' h' => by
            by_cases he : i' = j
            · rw [he]; exact fun e => hneg e.2
            · exact hno i' (by omega)⟩ (by omega) ⟨rfl, rfl, rfl, rfl, rfl, rfl, by simp only [outJ]; rw [hc2]; rfl, rfl, rfl, rfl, trivial⟩ (by repeat (first | exact Sp.nil | exact Sp.refl _ | refine Sp.cons (by repeat constructor) ?_))
  · obtain rfl : j = 2 := by omega
    rw [fol_out hri hno]
    (refine q_exit _ rfl (q_seq (q_region (ql_pure tabOk rfl rfl ?_))); refine ql_set tabOk rfl rfl rfl rfl (by repeat constructor) ?_; refine q_nil (q_ret ?_))
    refine q_finM tabOk rfl (by repeat (first | exact RVs.nil | apply RVs.tmp rfl | apply RVs.cellA rfl rfl (by repeat first | exact .head _ | refine .tail _ ?_) (by rfl) | apply RVs.cell1 rfl rfl (by repeat first | exact .head _ | refine .tail _ ?_))) fun w hs => ?_
    exact ⟨rfl, hs.chg0⟩
end Go.Proofs.YtopdmadgkjdgcaaGreat

/- Walks of rifle: Depth. -/
namespace Go.Proofs.YtopdmadgkjdgcaaGreat
set_option maxRecDepth 4000
open Go Go.Eng
theorem dsk_take2 (s : Sc) (tv rv : Value) : List.take 18 (List.drop (0 + 4) (dskC s tv rv (firstK s))) = knC (firstK s) := rfl
/-- Where a plan begins. -/
def startN (plan : List Nd) : Int := if plan.length = 0 then -1 else 0
def depP (s : Sc) (plan : List Nd) : Int := folF s plan plan.length (startN plan) (firstK s)
def rpB (s : Sc) (plan : List Nd) : Bool := (List.range plan.length).all (ndB s plan)
theorem rpB_iff {s : Sc} {plan : List Nd} : rpB s plan = true ↔ RpOk s plan := by
  rw [rp_iff]
  simp [rpB]
theorem rdepth_ok (w : World) (lo hi : Nat) (s : Sc) (tv rv vp : Value) (plan : List Nd) (h : ScR w lo hi tv rv s) (hs0 : SOk s) (hr : RdN w lo hi vp plan) (hpl : plan.length ≤ 300) : Ca Tryz.prog 59 [.agg (scC s tv rv).toArray, vp] w fun x w' => x = (if rpB s plan = true then (if depP s plan < 0 then .tuple #[.int .i64 0, .int .i64 8] else .tuple #[.int .i64 (depP s plan), .int .i64 0]) else .tuple #[.int .i64 0, .int .i64 1]) ∧ Chg [] w w' := by
  have hfit := firstK_fit hs0.le
  have hrn := hs0.ok.rn8
  obtain ⟨pa, pcap, rfl, hps⟩ := hr.outI
  obtain ⟨ra, rcap, rfl, _⟩ := h.r.outI
  refine q_of (Sat.nil w M0) Tryz.func59 rfl (by simp [Tryz.ntmps59]) ?_
  (refine q_seq (q_region ?_))
  refine ql_box rfl rfl (fun b2 => ?_)
  rw [agg_cells]
  refine ql_box rfl rfl (fun b3 => ?_)
  (refine ql_pure tabOk rfl rfl (ql_pure tabOk rfl rfl (q_nil (q_seq (q_region ?_)))); refine ql_loadABa tabOk rfl rfl rfl ?_)
  refine ql_call (β := Nat) tabOk [] _ M0 rfl rfl rfl rfl (Sp.refl _) (fun _ h => h.elim) (fun w' hs => rask_ok w' lo hi s tv _ (h.keep hs.chg0) hs0.ok hs0.le) ?_
  rintro bd _ rfl
  dsimp only [List.cons_append, List.nil_append]
  (refine ql_pure tabOk rfl rfl (ql_ext tabOk rfl rfl rfl (ql_ext tabOk rfl rfl rfl ?_)))
  refine ql_alloc zero177 rfl (fun b6 => ?_)
  (refine ql_set tabOk rfl rfl rfl rfl (by repeat constructor) ?_; refine ql_pure tabOk rfl rfl (q_nil (q_seq (q_block (q_seq (q_region (ql_pure tabOk rfl rfl (ql_neqF tabOk rfl rfl rfl (by omega) (ql_pure tabOk rfl rfl (q_nil (q_cond_false rfl (q_seq ?_))))))))))); refine q_region ?_; refine ql_loadBa tabOk rfl rfl rfl ?_; refine ql_pure tabOk rfl rfl (ql_gtrF tabOk rfl rfl rfl (by omega) (ql_pure tabOk rfl rfl (q_nil (q_cond_false rfl (q_skip (q_blk (q_seq (q_seq (q_region ?_))))))))); refine ql_loadBa tabOk rfl rfl rfl ?_; refine ql_pure tabOk rfl rfl (ql_pure tabOk rfl rfl (q_nil (q_block ?_))))
  refine q_loop (σ := Nat) (fun i => i ≤ plan.length ∧ ∀ i', i' < i → ndB s plan i' = true) (fun i => plan.length - i) (fun i => [(2, .pointer (some ⟨b2, 0, none⟩)), (3, .pointer (some ⟨b3, 0, none⟩)), (6, .pointer (some ⟨b6, 0, none⟩)), (27, .slice pa plan.length pcap), (28, .int .i64 plan.length), (29, .int .i64 i)]) (fun _ => [.pt b2 (scC s tv (.slice ra s.rifles.length rcap)) 46, .pt b3 [.slice pa plan.length pcap] 88, .pt b6 [.pointer (some ⟨bd, 0, none⟩)] 177, .pt bd (dskC s tv (.slice ra s.rifles.length rcap) (firstK s)) 184]) 0 ⟨by omega, fun _ h => by omega⟩ ⟨rfl, rfl, rfl, rfl, rfl, rfl, trivial⟩ (by repeat constructor) ?_
  rintro i ⟨hi1, hno⟩ K hK
  (refine q_seq (q_region (ql_pure tabOk rfl rfl (q_nil (q_seq ?_)))))
  refine q_if rfl (fun hc => ?_) (fun hc => ?_)
  · have hil : i < plan.length := by omega
    clear hc
    obtain ⟨pb', po, rfl⟩ := hps (by omega)
    have hnd := ndV_get hil
    (refine q_skip (q_seq (q_block (q_seq (q_region (ql_pure tabOk rfl rfl ?_))))))
    refine ql_index tabOk rfl rfl rfl rfl rfl (by omega) (by omega) ?_
    skip
    refine ql_loadA (cs := [.int .i64 plan[i].r, .int .i64 plan[i].p, .int .i64 plan[i].f]) tabOk rfl rfl rfl rfl (fun w hs q hq => by simpa using RdN.at (RdE.keep hr hs.chg0) i hil q hq) ?_
    skip
    refine ql_alloc zero3 rfl (fun b8 => ?_)
    skip
    refine ql_alloc zero91 rfl (fun b9 => ?_)
    (refine ql_set tabOk rfl rfl rfl rfl (by repeat constructor) ?_; refine ql_setA tabOk rfl rfl rfl rfl rfl (by repeat constructor) rfl ?_; refine q_nil (q_seq (q_region (ql_pure tabOk rfl rfl (ql_pure tabOk rfl rfl (q_nil (q_seq (q_region (ql_pure tabOk rfl rfl ?_)))))))); refine ql_loadBa tabOk rfl rfl rfl ?_; refine ql_pure tabOk rfl rfl ?_; refine ql_loadBa tabOk rfl rfl rfl ?_; refine ql_pure tabOk rfl rfl (ql_ar tabOk rfl rfl rfl rfl (by omega) (by omega) ?_))
    refine ql_callv (val := .bool (inB plan[i].r 0 ((s.rifles.length : Int) - 1))) tabOk rfl rfl rfl rfl (fun w hs => ?_) ?_; exact rfin_ca _ _ _ w
    have hndb : ndB s plan i = (inB plan[i].r 0 ((s.rifles.length : Int) - 1) && (nxB i plan plan[i].p && nxB i plan plan[i].f)) := by unfold ndB; rw [hnd]
    have hbad : ndB s plan i = false → rpB s plan = false := fun e => by
      cases h1 : rpB s plan with
      | false => rfl
      | true =>
        have := rp_iff.1 (rpB_iff.1 h1) i hil
        rw [e] at this
        cases this
    cases h1 : inB plan[i].r 0 ((s.rifles.length : Int) - 1) with
    | false =>
      rw [hbad (by rw [hndb, h1]; rfl)]
      (refine ql_pure tabOk rfl rfl (ql_pure tabOk rfl rfl ?_); (iterate 5 refine ql_gno rfl rfl rfl ?_); refine ql_pure tabOk rfl rfl (ql_pure tabOk rfl rfl ?_); (iterate 5 refine ql_gno rfl rfl rfl ?_); refine ql_pure tabOk rfl rfl (q_nil (q_cond_true rfl (q_seq (q_region (ql_pure tabOk rfl rfl (ql_pure tabOk rfl rfl (q_nil (q_ret ?_)))))))))
      refine q_fin tabOk rfl (by repeat constructor) fun w hs => ?_
      exact ⟨rfl, hs.chg0⟩
    | true =>
      (refine ql_pure tabOk rfl rfl (ql_pure tabOk rfl rfl (ql_gyes rfl (ql_pure tabOk rfl rfl (ql_gyes rfl (ql_pure tabOk rfl rfl (ql_gyes rfl ?_)))))); refine ql_loadBa tabOk rfl rfl rfl ?_; refine ql_gyes rfl ?_)
      refine ql_callFv (val := .bool (nxB i plan plan[i].p)) rfl rfl rfl (fun w' hs => CaF.of tabOk rfl (rnext_ca w' lo hi b8 b3 i plan _ plan[i].p _ _ (hs.blk (b := b8) (by repeat constructor)) (hs.blk (b := b3) (by repeat constructor)) (RdE.keep hr hs.chg0) hpl (by omega))) ?_
      cases h2 : nxB i plan plan[i].p with
      | false =>
        rw [hbad (by rw [hndb, h1, h2]; rfl)]
        (refine ql_gyes rfl ?_; (iterate 3 refine ql_pure tabOk rfl rfl ?_); (iterate 5 refine ql_gno rfl rfl rfl ?_); refine ql_pure tabOk rfl rfl (q_nil (q_cond_true rfl (q_seq (q_region (ql_pure tabOk rfl rfl (ql_pure tabOk rfl rfl (q_nil (q_ret ?_)))))))))
        refine q_fin tabOk rfl (by repeat constructor) fun w hs => ?_
        exact ⟨rfl, hs.chg0⟩
      | true =>
        (refine ql_gyes rfl ?_; (iterate 3 refine ql_pure tabOk rfl rfl ?_); refine ql_gyes rfl (ql_pure tabOk rfl rfl (ql_gyes rfl (ql_pure tabOk rfl rfl (ql_gyes rfl ?_)))); refine ql_loadBa tabOk rfl rfl rfl ?_; refine ql_gyes rfl ?_)
        refine ql_callFv (val := .bool (nxB i plan plan[i].f)) rfl rfl rfl (fun w' hs => CaF.of tabOk rfl (rnext_ca w' lo hi b8 b3 i plan _ plan[i].f _ _ (hs.blk (b := b8) (by repeat constructor)) (hs.blk (b := b3) (by repeat constructor)) (RdE.keep hr hs.chg0) hpl (by omega))) ?_
        cases h3 : nxB i plan plan[i].f with
        | false =>
          rw [hbad (by rw [hndb, h1, h2, h3]; rfl)]
          (refine ql_gyes rfl (ql_pure tabOk rfl rfl (ql_pure tabOk rfl rfl (q_nil (q_cond_true rfl (q_seq (q_region (ql_pure tabOk rfl rfl (ql_pure tabOk rfl rfl (q_nil (q_ret ?_)))))))))))
          refine q_fin tabOk rfl (by repeat constructor) fun w hs => ?_
          exact ⟨rfl, hs.chg0⟩
        | true =>
          (refine ql_gyes rfl (ql_pure tabOk rfl rfl (ql_pure tabOk rfl rfl (q_nil (q_cond_false rfl (q_skip (q_blk (q_region (ql_ar tabOk rfl rfl rfl rfl (by omega) (by omega) (ql_pure tabOk rfl rfl (q_nil ?_)))))))))))
          exact hK (i + 1) _ _ ⟨by omega, fun i' h' => by
            by_cases he : i' = i
            · rw [he, hndb, h1, h2, h3]; rfl
            · exact hno i' (by omega)⟩ (by omega) ⟨rfl, rfl, rfl, rfl, rfl, rfl, trivial⟩ (by repeat constructor)
  · obtain rfl : i = plan.length := by omega
    have hrp : RpOk s plan := rp_iff.2 hno
    rw [if_pos (rpB_iff.2 hrp)]
    (refine q_exit _ rfl (q_seq (q_region ?_)))
    refine ql_alloc zero215 rfl (fun b11 => ?_)
    have hdb := fol_bd s plan plan.length (startN plan) (firstK s)
    have hst : startN plan = -1 ∨ 0 ≤ startN plan ∧ startN plan < plan.length ∧ plan.length ≤ plan.length + (startN plan).toNat := by
      unfold startN
      split <;> omega
    by_cases hz : plan.length = 0
    · have hst2 : startN plan = -1 := by unfold startN; rw [if_pos hz]
      (refine q_nil (q_seq (q_region (ql_pure tabOk rfl rfl ?_))); refine ql_set tabOk rfl rfl rfl rfl (by repeat constructor) ?_; refine q_nil (q_seq (q_region (ql_pure tabOk rfl rfl (q_nil (q_seq (q_seq (q_region ?_))))))); refine ql_loadBa tabOk rfl rfl rfl ?_; refine ql_pure tabOk rfl rfl (ql_eqlT tabOk rfl rfl rfl (by omega) (q_nil (q_cond_true rfl (q_region (ql_pure tabOk rfl rfl (q_nil (q_seq (q_seq ?_)))))))))
      refine q_draw _ [] (Sp.refl _) (by kernel_rfl) (by kernel_rfl) ?_
      (refine qf_loadBa tabOk rfl rfl rfl ?_; refine qf_pure tabOk rfl rfl rfl ?_; refine qf_loadBa tabOk rfl rfl rfl ?_; refine qf_pure tabOk rfl rfl rfl (qf_pure tabOk rfl rfl rfl ?_); refine qf_loadABa tabOk rfl rfl rfl ?_)
      rw [dsk_take2 s tv _]
      refine qf_callFv (val := .int .i64 (depP s plan)) rfl rfl rfl (fun w' hs => CaF.of tabOk rfl (by have := follow_ca lo hi b6 b3 b11 bd s tv _ (firstK s) plan _ hs0.ok hrp hpl plan.length (by omega) (startN plan) (firstK s) w' hst hfit (h.keep hs.chg0) (RdE.keep hr hs.chg0) ⟨⟨_, hs.blk (b := b6) (by repeat constructor)⟩, ⟨_, hs.blk (b := b3) (by repeat constructor)⟩, ⟨_, hs.blk (b := b11) (by repeat constructor)⟩, hs.blk (b := bd) (by repeat constructor)⟩; rw [show folF s plan plan.length (startN plan) (firstK s) = depP s plan from rfl, hst2] at this; exact this)) ?_
      by_cases hneg : depP s plan < 0
      · rw [if_pos hneg]
        (refine qf_pure tabOk rfl rfl rfl (qf_nil (q_seq (q_region (ql_pure tabOk rfl rfl (ql_geqF tabOk rfl rfl rfl (by omega) (q_nil (q_cond_false rfl (q_skip (q_seq (q_region (ql_pure tabOk rfl rfl ?_))))))))))); refine ql_pure tabOk rfl rfl (q_nil (q_ret ?_)))
        refine q_fin tabOk rfl (by repeat constructor) fun w hs => ?_
        exact ⟨rfl, hs.chg0⟩
      · rw [if_neg hneg]
        (refine qf_pure tabOk rfl rfl rfl (qf_nil (q_seq (q_region (ql_pure tabOk rfl rfl (ql_geqT tabOk rfl rfl rfl (by omega) (q_nil (q_cond_true rfl (q_seq (q_region ?_))))))))); (iterate 3 refine ql_pure tabOk rfl rfl ?_); refine q_nil (q_ret ?_))
        refine q_fin tabOk rfl (by repeat constructor) fun w hs => ?_
        exact ⟨rfl, hs.chg0⟩
    · have hst2 : startN plan = 0 := by unfold startN; rw [if_neg hz]
      (refine q_nil (q_seq (q_region (ql_pure tabOk rfl rfl ?_))); refine ql_set tabOk rfl rfl rfl rfl (by repeat constructor) ?_; refine q_nil (q_seq (q_region (ql_pure tabOk rfl rfl (q_nil (q_seq (q_seq (q_region ?_))))))); refine ql_loadBa tabOk rfl rfl rfl ?_; refine ql_pure tabOk rfl rfl (ql_eqlF tabOk rfl rfl rfl (by omega) (q_nil (q_cond_false rfl (q_skip (q_seq (q_seq ?_)))))))
      refine q_draw _ [] (Sp.refl _) (by kernel_rfl) (by kernel_rfl) ?_
      (refine qf_loadBa tabOk rfl rfl rfl ?_; refine qf_pure tabOk rfl rfl rfl ?_; refine qf_loadBa tabOk rfl rfl rfl ?_; refine qf_pure tabOk rfl rfl rfl (qf_pure tabOk rfl rfl rfl ?_); refine qf_loadABa tabOk rfl rfl rfl ?_)
      rw [dsk_take2 s tv _]
      refine qf_callFv (val := .int .i64 (depP s plan)) rfl rfl rfl (fun w' hs => CaF.of tabOk rfl (by have := follow_ca lo hi b6 b3 b11 bd s tv _ (firstK s) plan _ hs0.ok hrp hpl plan.length (by omega) (startN plan) (firstK s) w' hst hfit (h.keep hs.chg0) (RdE.keep hr hs.chg0) ⟨⟨_, hs.blk (b := b6) (by repeat constructor)⟩, ⟨_, hs.blk (b := b3) (by repeat constructor)⟩, ⟨_, hs.blk (b := b11) (by repeat constructor)⟩, hs.blk (b := bd) (by repeat constructor)⟩; rw [show folF s plan plan.length (startN plan) (firstK s) = depP s plan from rfl, hst2] at this; exact this)) ?_
      by_cases hneg : depP s plan < 0
      · rw [if_pos hneg]
        (refine qf_pure tabOk rfl rfl rfl (qf_nil (q_seq (q_region (ql_pure tabOk rfl rfl (ql_geqF tabOk rfl rfl rfl (by omega) (q_nil (q_cond_false rfl (q_skip (q_seq (q_region (ql_pure tabOk rfl rfl ?_))))))))))); refine ql_pure tabOk rfl rfl (q_nil (q_ret ?_)))
        refine q_fin tabOk rfl (by repeat constructor) fun w hs => ?_
        exact ⟨rfl, hs.chg0⟩
      · rw [if_neg hneg]
        (refine qf_pure tabOk rfl rfl rfl (qf_nil (q_seq (q_region (ql_pure tabOk rfl rfl (ql_geqT tabOk rfl rfl rfl (by omega) (q_nil (q_cond_true rfl (q_seq (q_region ?_))))))))); (iterate 3 refine ql_pure tabOk rfl rfl ?_); refine q_nil (q_ret ?_))
        refine q_fin tabOk rfl (by repeat constructor) fun w hs => ?_
        exact ⟨rfl, hs.chg0⟩
end Go.Proofs.YtopdmadgkjdgcaaGreat

/- Walks of rifle: lists compared. The lines are those of ski/K25 for runs, turned. -/
namespace Go.Proofs.YtopdmadgkjdgcaaGreat
set_option maxRecDepth 4000
open Go Go.Eng

end Go.Proofs.YtopdmadgkjdgcaaGreat

/- The examples of rifle's chapter, computed. -/
namespace Go.Proofs.YtopdmadgkjdgcaaGreat
set_option maxRecDepth 4000
open Go Go.Eng
def fourS : Sc := ⟨2, 3500, [(1000, 1005), (2000, 2009)], [3510, 3509, 3504, 3506]⟩
def oneS : Sc := ⟨2, 3500, [(1000, 1005)], [3510, 3509, 3504, 3506]⟩
def planN : List Nd := [⟨3, -1, -1⟩]
def fiveH : List Hd := [⟨0, 0, 10⟩, ⟨0, 5, 30⟩, ⟨0, 8, 20⟩, ⟨0, 20, 40⟩, ⟨0, 29, 60⟩]
def twoA : List (List Int) := [[500, 300, 200, 150], [400, 350, 320]]
theorem rw_four : SOk fourS := chkO_zero.1 (by decide +kernel)
theorem rw_one : SOk oneS := chkO_zero.1 (by decide +kernel)
theorem rw_wgt : wgtL fourS 4 = [(3501, 3505), (3500, 3504), (3495, 3499), (3497, 3501)] := by decide +kernel
theorem rw_pas : nI (pasL fourS 4) = [0, 1] := by decide +kernel
theorem rw_opn : nI (openL fourS (firstK fourS)) = [3] := by decide +kernel
theorem rw_rp : rpB fourS planN = true := by decide +kernel
theorem rw_dep : depP fourS planN = 1 := by decide +kernel
theorem rw_few : depV oneS (firstK oneS) = 2 := by decide +kernel
theorem rw_sp : SpOk fiveH 0 60 := chkSp_zero.1 (by decide +kernel)
theorem rw_mk : mkK fiveH 0 60 [0, 10, 30] 3 = true := by decide +kernel
theorem rw_aim : AimOk twoA := chkA_zero.1 (by decide +kernel)
theorem rw_many : manyN twoA = 6 := by decide +kernel
theorem rw_curve : curveL twoA 6 = [900, 700, 600, 550, 500, 470] := by decide +kernel
theorem rw_price : mostV twoA (wtsV twoA 3) = 50 := by decide +kernel
theorem rw_lk : Lk fiveH 60 0 [0, 1, 4] [0, 10, 30] 60 := .step (by decide) (by decide) (by decide) (by decide) (.step (by decide) (by decide) (by decide) (by decide) (.step (by decide) (by decide) (by decide) (by decide) (.done (by decide))))
theorem rw_chn {C : List Int} {e : Int} (h : ChnR fiveH 0 60 C e) : e = 0 ∧ C.length = 3 := by
  rcases h with ⟨h1, hs, ms, h2, h3, h4⟩ | ⟨h1, h2, h3⟩
  · refine ⟨h1, ?_⟩
    have := lk_mono h2 rw_lk (Int.le_refl _) (Int.le_refl _) fun _ h => h
    have := lk_mono rw_lk h2 (Int.le_refl _) (Int.le_refl _) fun _ h => h
    rw [h3.length_eq]
    simp [nI] at *
    omega
  · refine absurd (fun m a b => ?_) h3
    obtain ⟨x, hx, hc⟩ := Lk.gd rw_lk m a b
    obtain ⟨i, hi, rfl⟩ := List.mem_map.1 hx
    have := Lk.idx rw_lk i hi
    exact ⟨_, hdL_mem this, hc⟩
end Go.Proofs.YtopdmadgkjdgcaaGreat

/- Walks of rifle: the examples of the chapter. -/
namespace Go.Proofs.YtopdmadgkjdgcaaGreat
set_option maxRecDepth 4000
open Go Go.Eng
theorem Blk.rdH' {w : World} {b c n : Nat} {l : List Hd} {t : TypeId} (h : Blk w b (hdC l) t) (hn : n = l.length) : RdH w 0 w.heap.size (.slice (some ⟨b, 0, none⟩) n c) l := by
  subst hn
  exact RdH.of (Blk.rdN (sz := 3) h (hdC_length l))
theorem Blk.rdNd {w : World} {b c n : Nat} {l : List Nd} {t : TypeId} (h : Blk w b (nodC l) t) (hn : n = l.length) : RdN w 0 w.heap.size (.slice (some ⟨b, 0, none⟩) n c) l := by
  subst hn
  exact RdN.of (Blk.rdN (sz := 3) h (nodC_length l))
theorem rfour_ca (w : World) : Ca Tryz.prog 98 [] w fun x w' => ∃ y : Nat × Nat, x = .agg (scC fourS (.slice (some ⟨y.1, 0, none⟩) 2 2) (.slice (some ⟨y.2, 0, none⟩) 4 4)).toArray ∧ Sat w M0 [.pt y.1 (spC fourS.tests) 78, .pt y.2 (ints fourS.rifles) 3] w' := by
  refine q_of (Sat.nil w M0) Tryz.func98 rfl (by simp [Tryz.ntmps98]) ?_
  (refine q_seq (q_region ?_))
  refine ql_alloc zero46 rfl (fun b0 => ?_)
  (refine q_nil (q_seq (q_region ?_)))
  refine ql_mk #[.int .i64 1000, .int .i64 1005] rfl (by kernel_rfl) rfl ?_
  skip
  refine ql_mk #[.int .i64 2000, .int .i64 2009] rfl (by kernel_rfl) rfl ?_
  skip
  refine ql_mkS 78 (spC fourS.tests) rfl (by kernel_rfl) rfl (fun c1 => ?_)
  skip
  refine ql_mkS 3 (ints fourS.rifles) rfl (by kernel_rfl) rfl (fun c2 => ?_)
  skip
  refine ql_mk #[.int .i64 2, .int .i64 3500, .slice (some ⟨c1, 0, none⟩) 2 2, .slice (some ⟨c2, 0, none⟩) 4 4] rfl (by kernel_rfl) rfl ?_
  (refine ql_setA tabOk rfl rfl rfl rfl rfl (by repeat constructor) rfl ?_; refine q_nil (q_ret ?_))
  refine q_fin tabOk rfl (by repeat constructor) fun w hs => ?_
  exact ⟨(c1, c2), rfl, hs.sp (by repeat constructor)⟩
theorem rfive_ca (w : World) : Ca Tryz.prog 99 [] w fun x w' => ∃ b : Nat, x = .slice (some ⟨b, 0, none⟩) 5 5 ∧ Sat w M0 [.pt b (hdC fiveH) 28] w' := by
  refine q_of (Sat.nil w M0) Tryz.func99 rfl (by simp [Tryz.ntmps99]) ?_
  (refine q_seq (q_region (ql_pure tabOk rfl rfl (q_nil (q_seq (q_region ?_))))))
  refine ql_mk #[.int .i64 0, .int .i64 0, .int .i64 10] rfl (by kernel_rfl) rfl ?_
  skip
  refine ql_mk #[.int .i64 0, .int .i64 5, .int .i64 30] rfl (by kernel_rfl) rfl ?_
  skip
  refine ql_mk #[.int .i64 0, .int .i64 8, .int .i64 20] rfl (by kernel_rfl) rfl ?_
  skip
  refine ql_mk #[.int .i64 0, .int .i64 20, .int .i64 40] rfl (by kernel_rfl) rfl ?_
  skip
  refine ql_mk #[.int .i64 0, .int .i64 29, .int .i64 60] rfl (by kernel_rfl) rfl ?_
  skip
  refine ql_mkS 28 (hdC fiveH) rfl (by kernel_rfl) rfl (fun c1 => ?_)
  (refine ql_pure tabOk rfl rfl (q_nil (q_ret ?_)))
  refine q_fin tabOk rfl (by repeat constructor) fun w hs => ?_
  exact ⟨c1, rfl, hs.sp (by repeat constructor)⟩
theorem rtwo_ca (w : World) : Ca Tryz.prog 100 [] w fun x w' => ∃ y : Nat × Nat × Nat, x = .slice (some ⟨y.2.2, 0, none⟩) 2 2 ∧ Sat w M0 [.pt y.2.2 [.slice (some ⟨y.1, 0, none⟩) 4 4, .slice (some ⟨y.2.1, 0, none⟩) 3 3] 29, .pt y.2.1 (ints [400, 350, 320]) 3, .pt y.1 (ints [500, 300, 200, 150]) 3] w' := by
  refine q_of (Sat.nil w M0) Tryz.func100 rfl (by simp [Tryz.ntmps100]) ?_
  (refine q_seq (q_region (ql_pure tabOk rfl rfl (q_nil (q_seq (q_region ?_))))))
  refine ql_mkS 3 (ints [500, 300, 200, 150]) rfl (by kernel_rfl) rfl (fun c1 => ?_)
  refine ql_mkS 3 (ints [400, 350, 320]) rfl (by kernel_rfl) rfl (fun c2 => ?_)
  refine ql_mkS 29 [.slice (some ⟨c1, 0, none⟩) 4 4, .slice (some ⟨c2, 0, none⟩) 3 3] rfl (by kernel_rfl) rfl (fun c4 => ?_)
  (refine ql_pure tabOk rfl rfl (q_nil (q_ret ?_)))
  refine q_fin tabOk rfl (by repeat constructor) fun w hs => ?_
  exact ⟨(c1, c2, c4), rfl, hs.sp (by repeat constructor)⟩
theorem rspan_ca (lo hi : Int) (w : World) : Ca Tryz.prog 47 [.int .i64 lo, .int .i64 hi] w fun x w' => x = rtV (lo, hi) ∧ Chg [] w w' := by
  refine q_of (Sat.nil w M0) Tryz.func47 rfl (by simp [Tryz.ntmps47]) ?_
  (refine q_seq (q_region ?_))
  refine ql_alloc zero56 rfl (fun b4 => ?_)
  (refine q_nil (q_seq (q_region (ql_pure tabOk rfl rfl (ql_pure tabOk rfl rfl ?_)))))
  refine ql_mk #[.int .i64 lo, .int .i64 hi] rfl (by kernel_rfl) rfl ?_
  (refine ql_setA tabOk rfl rfl rfl rfl rfl (by repeat constructor) rfl ?_; refine q_nil (q_ret ?_))
  refine q_fin tabOk rfl (by repeat constructor) fun w hs => ?_
  exact ⟨rfl, hs.chg0⟩
theorem blk_II2 {w : World} {c1 c2 c4 : Nat} {t1 t2 t4 : TypeId} {l1 l2 : List Int} {n1 n2 : Nat} (e1 : n1 = l1.length) (e2 : n2 = l2.length) (h1 : Blk w c1 (ints l1) t1) (h2 : Blk w c2 (ints l2) t2)
    (h4 : Blk w c4 [.slice (some ⟨c1, 0, none⟩) n1 n1, .slice (some ⟨c2, 0, none⟩) n2 n2] t4) : RdII w 0 w.heap.size (.slice (some ⟨c4, 0, none⟩) 2 2) [l1, l2] := by
  subst e1 e2
  refine ⟨[.slice (some ⟨c1, 0, none⟩) l1.length l1.length, .slice (some ⟨c2, 0, none⟩) l2.length l2.length], RdE.one (by have := Blk.rdN (c := 2) (sz := 1) (q := 2) h4 rfl; exact this) (by simp [oneV]), rfl, fun i hi hi' => ?_⟩
  obtain rfl | rfl : i = 0 ∨ i = 1 := by simp at hi; omega
  · exact Blk.rdI h1
  · exact Blk.rdI h2
end Go.Proofs.YtopdmadgkjdgcaaGreat

/- Walks of rifle: the laws begin awake. -/
namespace Go.Proofs.YtopdmadgkjdgcaaGreat
set_option maxRecDepth 4000
open Go Go.Eng
theorem Blk.rdS1 {w : World} {b : Nat} {t : TypeId} (h : Blk w b (spC fourS.tests) t) : RdS w 0 w.heap.size (.slice (some ⟨b, 0, none⟩) 1 2) oneS.tests := by
  refine RdS.of ⟨rfl, .inr ⟨b, 0, 2, rfl, fun _ => ⟨Nat.zero_le _, h.lt, h.lt⟩, fun j hj => ?_⟩⟩
  rw [h.cell, Nat.zero_add]
  have hj2 : j < 2 := hj
  obtain rfl | rfl : j = 0 ∨ j = 1 := by omega
  · rfl
  · rfl
set_option maxHeartbeats 4000000 in
set_option maxRecDepth 4000 in
theorem rawake_ca (w : World) : Ca Tryz.prog 23 [] w fun v w' => v = .bool true ∧ Chg [] w w' := by
  refine q_of (Sat.nil w M0) Tryz.func23 rfl (by simp [Tryz.ntmps23]) ?_
  have hF : ∀ w' c1 c2, Blk w' c1 (spC fourS.tests) 78 → Blk w' c2 (ints fourS.rifles) 3 → ScR w' 0 w'.heap.size (.slice (some ⟨c1, 0, none⟩) 2 2) (.slice (some ⟨c2, 0, none⟩) 4 4) fourS := fun w' c1 c2 h1 h2 => ⟨Blk.rdS' h1 rfl, Blk.rdI (l := fourS.rifles) h2⟩
  (refine q_seq (q_region (ql_pure tabOk rfl rfl (q_nil (q_seq (q_region ?_))))))
  refine ql_call (β := Nat × Nat) tabOk [] _ M0 rfl rfl rfl rfl (Sp.refl _) (fun _ h => h.elim) (fun w' hs => rfour_ca w') ?_
  rintro ⟨c1, c2⟩ _ rfl
  dsimp only [List.cons_append, List.nil_append]
  refine ql_call (β := Value) tabOk [] _ M0 rfl rfl rfl rfl (Sp.refl _) (fun _ h => h.elim) (fun w' hs => weights_ok w' 0 w'.heap.size fourS _ _ (hF w' c1 c2 (hs.blk (by repeat constructor)) (hs.blk (by repeat constructor))) rw_four) ?_
  rintro va _ rfl
  rw [show fourS.rifles.length = 4 from rfl, rw_wgt]
  dsimp only [List.cons_append, List.nil_append]
  refine ql_fact (fun w hs => hs.ownSome (v := va) (by repeat constructor) (by decide)) ?_
  rintro ⟨a1, a2, rfl⟩
  (refine ql_pure tabOk rfl rfl (ql_ext tabOk rfl rfl rfl (ql_ext tabOk rfl rfl rfl (ql_pure tabOk rfl rfl (ql_pure tabOk rfl rfl (q_nil (q_seq (q_region ?_))))))))
  refine ql_call (β := Nat × Nat) tabOk [] _ M0 rfl rfl rfl rfl (Sp.refl _) (fun _ h => h.elim) (fun w' hs => rfour_ca w') ?_
  rintro ⟨d1, d2⟩ _ rfl
  dsimp only [List.cons_append, List.nil_append]
  refine ql_call (β := Value) tabOk [] _ M0 rfl rfl rfl rfl (Sp.refl _) (fun _ h => h.elim) (fun w' hs => passed_ok w' 0 w'.heap.size fourS _ _ (hF w' d1 d2 (hs.blk (by repeat constructor)) (hs.blk (by repeat constructor))) rw_four) ?_
  rintro vb _ rfl
  rw [show fourS.rifles.length = 4 from rfl, show (pasL fourS 4).length = 2 from by have := congrArg List.length rw_pas; simpa [nI] using this, rw_pas]
  dsimp only [List.cons_append, List.nil_append]
  refine ql_fact (fun w hs => hs.ownSome (v := vb) (by repeat constructor) (by decide)) ?_
  rintro ⟨b1, b2, rfl⟩
  (refine ql_pure tabOk rfl rfl (ql_ext tabOk rfl rfl rfl (ql_ext tabOk rfl rfl rfl (ql_pure tabOk rfl rfl (ql_pure tabOk rfl rfl (q_nil (q_seq (q_region ?_))))))))
  refine ql_call (β := Nat × Nat) tabOk [] _ M0 rfl rfl rfl rfl (Sp.refl _) (fun _ h => h.elim) (fun w' hs => rfour_ca w') ?_
  rintro ⟨e1, e2⟩ _ rfl
  dsimp only [List.cons_append, List.nil_append]
  refine ql_call (β := Value) tabOk [] _ M0 rfl rfl rfl rfl (Sp.refl _) (fun _ h => h.elim) (fun w' hs => ropen_ok w' 0 w'.heap.size fourS _ _ (hF w' e1 e2 (hs.blk (by repeat constructor)) (hs.blk (by repeat constructor))) rw_four) ?_
  rintro vc _ rfl
  rw [show (openL fourS (firstK fourS)).length = 1 from by have := congrArg List.length rw_opn; simpa [nI] using this, rw_opn]
  dsimp only [List.cons_append, List.nil_append]
  refine ql_fact (fun w hs => hs.ownSome (v := vc) (by repeat constructor) (by decide)) ?_
  rintro ⟨o1, o2, rfl⟩
  (refine ql_pure tabOk rfl rfl (ql_ext tabOk rfl rfl rfl (ql_ext tabOk rfl rfl rfl (ql_pure tabOk rfl rfl (ql_pure tabOk rfl rfl (q_nil (q_seq (q_region ?_))))))))
  refine ql_call (β := Nat × Nat) tabOk [] _ M0 rfl rfl rfl rfl (Sp.refl _) (fun _ h => h.elim) (fun w' hs => rfour_ca w') ?_
  rintro ⟨f1, f2⟩ _ rfl
  dsimp only [List.cons_append, List.nil_append]
  refine ql_mk #[.int .i64 3, .int .i64 (-1), .int .i64 (-1)] rfl (by kernel_rfl) rfl ?_
  refine ql_mkS 91 (nodC planN) rfl (by kernel_rfl) rfl (fun c4 => ?_)
  skip
  refine ql_callv (val := .tuple #[.int .i64 1, .int .i64 0]) tabOk rfl rfl rfl rfl (fun w hs => ?_) ?_; exact by have := rdepth_ok w 0 w.heap.size fourS _ _ _ planN (hF w f1 f2 (hs.blk (by repeat constructor)) (hs.blk (by repeat constructor))) rw_four (Blk.rdNd (c := 1) (n := 1) (hs.blk (b := c4) (by repeat constructor)) rfl) (by decide); rw [rw_rp, rw_dep] at this; exact this
  (refine ql_pure tabOk rfl rfl (ql_ext tabOk rfl rfl rfl (ql_ext tabOk rfl rfl rfl (ql_pure tabOk rfl rfl (ql_pure tabOk rfl rfl (q_nil (q_seq (q_seq (q_region (ql_pure tabOk rfl rfl (ql_neqF tabOk rfl rfl rfl (by omega) (ql_pure tabOk rfl rfl ?_))))))))))); refine ql_gyes rfl (ql_pure tabOk rfl rfl (ql_gyes rfl (ql_neqF tabOk rfl rfl rfl (by omega) (ql_pure tabOk rfl rfl (ql_pure tabOk rfl rfl (ql_gyes rfl (ql_pure tabOk rfl rfl (ql_gyes rfl (ql_neqF tabOk rfl rfl rfl (by omega) (ql_pure tabOk rfl rfl (ql_pure tabOk rfl rfl ?_))))))))))); refine ql_gyes rfl (ql_pure tabOk rfl rfl (ql_gyes rfl (ql_neqF tabOk rfl rfl rfl (by omega) (ql_pure tabOk rfl rfl (ql_pure tabOk rfl rfl (ql_gyes rfl (ql_pure tabOk rfl rfl (ql_gyes rfl ?_)))))))))
  refine ql_callv (val := rtV (3501, 3505)) tabOk rfl rfl rfl rfl (fun w hs => ?_) ?_; exact rspan_ca 3501 3505 w
  refine ql_gyes rfl ?_
  refine ql_callv (val := rtV (3500, 3504)) tabOk rfl rfl rfl rfl (fun w hs => ?_) ?_; exact rspan_ca 3500 3504 w
  refine ql_gyes rfl ?_
  refine ql_callv (val := rtV (3495, 3499)) tabOk rfl rfl rfl rfl (fun w hs => ?_) ?_; exact rspan_ca 3495 3499 w
  refine ql_gyes rfl ?_
  refine ql_callv (val := rtV (3497, 3501)) tabOk rfl rfl rfl rfl (fun w hs => ?_) ?_; exact rspan_ca 3497 3501 w
  refine ql_gyes rfl ?_
  refine ql_mkS 56 (spC [(3501, 3505), (3500, 3504), (3495, 3499), (3497, 3501)]) rfl (by kernel_rfl) rfl (fun c5 => ?_)
  refine ql_gyes rfl ?_
  refine ql_callv (val := .bool true) tabOk rfl rfl rfl rfl (fun w hs => ?_) ?_; exact eqS_ca w 0 w.heap.size 0 w.heap.size _ _ [(3501, 3505), (3500, 3504), (3495, 3499), (3497, 3501)] (own_rdS (t := 56) (hs.mem (c := .ow (.slice (some ⟨a1, 0, none⟩) 4 a2) 56 2 4 (spC [(3501, 3505), (3500, 3504), (3495, 3499), (3497, 3501)])) (by repeat constructor)) rfl) (Blk.rdS' (c := 4) (hs.blk (b := c5) (by repeat constructor)) rfl) (by decide)
  (refine ql_gyes rfl ?_; (iterate 3 refine ql_pure tabOk rfl rfl ?_); refine ql_gyes rfl (ql_pure tabOk rfl rfl (ql_gyes rfl ?_)))
  refine ql_mkS 3 (ints [0, 1]) rfl (by kernel_rfl) rfl (fun c6 => ?_)
  refine ql_gyes rfl ?_
  refine ql_callv (val := .bool true) tabOk rfl rfl rfl rfl (fun w hs => ?_) ?_; exact eqI_ca w 0 w.heap.size 0 w.heap.size _ _ [0, 1] (hs.rdI (v := .slice (some ⟨b1, 0, none⟩) 2 b2) (l := [0, 1]) (t := 3) (n := 2) (by repeat constructor) rfl) (Blk.rdI (c := 2) (l := [0, 1]) (hs.blk (b := c6) (by repeat constructor))) (by decide)
  (refine ql_gyes rfl ?_; (iterate 3 refine ql_pure tabOk rfl rfl ?_); refine ql_gyes rfl (ql_pure tabOk rfl rfl (ql_gyes rfl ?_)))
  refine ql_mkS 3 (ints [3]) rfl (by kernel_rfl) rfl (fun c7 => ?_)
  refine ql_gyes rfl ?_
  refine ql_callv (val := .bool true) tabOk rfl rfl rfl rfl (fun w hs => ?_) ?_; exact eqI_ca w 0 w.heap.size 0 w.heap.size _ _ [3] (hs.rdI (v := .slice (some ⟨o1, 0, none⟩) 1 o2) (l := [3]) (t := 3) (n := 1) (by repeat constructor) rfl) (Blk.rdI (c := 1) (l := [3]) (hs.blk (b := c7) (by repeat constructor))) (by decide)
  (refine ql_gyes rfl ?_; (iterate 3 refine ql_pure tabOk rfl rfl ?_); refine ql_gyes rfl (ql_pure tabOk rfl rfl (ql_gyes rfl (ql_neqF tabOk rfl rfl rfl (by omega) (ql_pure tabOk rfl rfl (q_nil (q_cond_false rfl (q_skip (q_seq (q_region ?_))))))))))
  refine ql_call (β := Nat × Nat) tabOk [] _ M0 rfl rfl rfl rfl (Sp.refl _) (fun _ h => h.elim) (fun w' hs => rfour_ca w') ?_
  rintro ⟨g1, g2⟩ _ rfl
  dsimp only [List.cons_append, List.nil_append]
  skip
  refine ql_alloc zero46 rfl (fun b9 => ?_)
  (refine ql_setA tabOk rfl rfl rfl rfl rfl (by repeat constructor) rfl ?_; refine q_nil (q_seq (q_region (ql_pure tabOk rfl rfl ?_))); refine ql_loadBa tabOk rfl rfl rfl ?_)
  refine ql_sliceTo (et := 78) (sz := 2) (by kernel_rfl) (by kernel_rfl) rfl rfl rfl (by omega) (by omega) ?_
  rw [show Value.slice (if (2 : Nat) = 0 then some (⟨g1, 0, none⟩ : Addr) else (some (⟨g1, 0, none⟩ : Addr)).map (·.add 0)) (1 : Int).toNat 2 = .slice (some ⟨g1, 0, none⟩) 1 2 from rfl]
  (refine ql_pure tabOk rfl rfl ?_; refine ql_st2 tabOk rfl rfl rfl rfl (by repeat constructor) ?_; refine q_nil (q_seq (q_region ?_)); refine ql_loadABa tabOk rfl rfl rfl ?_)
  refine ql_callv (val := .tuple #[.int .i64 2, .int .i64 0]) tabOk rfl rfl rfl rfl (fun w hs => ?_) ?_; exact by have := rfewest_ok w 0 w.heap.size oneS (.slice (some ⟨g1, 0, none⟩) 1 2) (.slice (some ⟨g2, 0, none⟩) 4 4) ⟨Blk.rdS1 (hs.blk (b := g1) (by repeat constructor)), Blk.rdI (l := oneS.rifles) (hs.blk (b := g2) (by repeat constructor))⟩ rw_one; rw [rw_few] at this; exact this
  (refine ql_pure tabOk rfl rfl (ql_ext tabOk rfl rfl rfl (ql_ext tabOk rfl rfl rfl (ql_pure tabOk rfl rfl (ql_pure tabOk rfl rfl (q_nil (q_seq (q_region ?_))))))))
  refine ql_call (β := Nat) tabOk [] _ M0 rfl rfl rfl rfl (Sp.refl _) (fun _ h => h.elim) (fun w' hs => rfive_ca w') ?_
  rintro h1 _ rfl
  dsimp only [List.cons_append, List.nil_append]
  refine ql_call (β := (Value × List Int) × Int) tabOk [] _ M0 rfl rfl rfl rfl (Sp.refl _) (fun _ h => h.elim) (fun w' hs => chn_ok w' 0 w'.heap.size fiveH _ 0 60 (Blk.rdH' (c := 5) (hs.blk (b := h1) (by repeat constructor)) rfl) (by decide) rw_sp) ?_
  rintro ⟨⟨vl, C⟩, e⟩ _ ⟨rfl, hC⟩
  obtain ⟨he, hCl⟩ := rw_chn hC
  dsimp only at he hCl ⊢
  subst he
  rw [hCl]
  dsimp only [List.cons_append, List.nil_append]
  refine ql_fact (fun w hs => hs.ownSome (v := vl) (by repeat constructor) (by decide)) ?_
  rintro ⟨l1, l2, rfl⟩
  (refine ql_pure tabOk rfl rfl (ql_ext tabOk rfl rfl rfl (ql_ext tabOk rfl rfl rfl (ql_pure tabOk rfl rfl (ql_pure tabOk rfl rfl (q_nil (q_seq (q_region ?_))))))))
  refine ql_call (β := Nat) tabOk [] _ M0 rfl rfl rfl rfl (Sp.refl _) (fun _ h => h.elim) (fun w' hs => rfive_ca w') ?_
  rintro h2 _ rfl
  dsimp only [List.cons_append, List.nil_append]
  refine ql_mkS 3 (ints [0, 10, 30]) rfl (by kernel_rfl) rfl (fun c8 => ?_)
  skip
  refine ql_callv (val := .tuple #[.bool true, .int .i64 0]) tabOk rfl rfl rfl rfl (fun w hs => ?_) ?_; exact by have := mks_ok w 0 w.heap.size 0 w.heap.size fiveH _ _ [0, 10, 30] 0 60 (Blk.rdH' (c := 5) (hs.blk (b := h2) (by repeat constructor)) rfl) (Blk.rdI (c := 3) (l := [0, 10, 30]) (hs.blk (b := c8) (by repeat constructor))) (by decide) rw_sp; rw [show ([0, 10, 30] : List Int).length = 3 from rfl, rw_mk] at this; exact this
  (refine ql_pure tabOk rfl rfl (ql_ext tabOk rfl rfl rfl (ql_ext tabOk rfl rfl rfl (ql_pure tabOk rfl rfl (ql_pure tabOk rfl rfl (q_nil (q_seq (q_region ?_))))))))
  have hT : ∀ w' x1 x2 x4, Blk w' x4 [.slice (some ⟨x1, 0, none⟩) 4 4, .slice (some ⟨x2, 0, none⟩) 3 3] 29 → Blk w' x2 (ints [400, 350, 320]) 3 → Blk w' x1 (ints [500, 300, 200, 150]) 3 → RdII w' 0 w'.heap.size (.slice (some ⟨x4, 0, none⟩) 2 2) twoA := fun w' x1 x2 x4 h4 h2 h1 => blk_II2 (l1 := [500, 300, 200, 150]) (l2 := [400, 350, 320]) rfl rfl h1 h2 h4
  refine ql_call (β := Nat × Nat × Nat) tabOk [] _ M0 rfl rfl rfl rfl (Sp.refl _) (fun _ h => h.elim) (fun w' hs => rtwo_ca w') ?_
  rintro ⟨x1, x2, x4⟩ _ rfl
  dsimp only [List.cons_append, List.nil_append]
  refine ql_call (β := Value) tabOk [] _ M0 rfl rfl rfl rfl (Sp.refl _) (fun _ h => h.elim) (fun w' hs => acurve_ok w' 0 w'.heap.size _ twoA (hT w' x1 x2 x4 (hs.blk (by repeat constructor)) (hs.blk (by repeat constructor)) (hs.blk (by repeat constructor))) rw_aim) ?_
  rintro vk _ rfl
  rw [rw_many, rw_curve]
  dsimp only [List.cons_append, List.nil_append]
  refine ql_fact (fun w hs => hs.ownSome (v := vk) (by repeat constructor) (by decide)) ?_
  rintro ⟨k1, k2, rfl⟩
  (refine ql_pure tabOk rfl rfl (ql_ext tabOk rfl rfl rfl (ql_ext tabOk rfl rfl rfl (ql_pure tabOk rfl rfl (ql_pure tabOk rfl rfl (q_nil (q_seq (q_region ?_))))))))
  refine ql_call (β := Nat × Nat × Nat) tabOk [] _ M0 rfl rfl rfl rfl (Sp.refl _) (fun _ h => h.elim) (fun w' hs => rtwo_ca w') ?_
  rintro ⟨y1, y2, y4⟩ _ rfl
  dsimp only [List.cons_append, List.nil_append]
  refine ql_callv (val := .tuple #[.int .i64 50, .int .i64 0]) tabOk rfl rfl rfl rfl (fun w hs => ?_) ?_; exact by have := aprice_ok w 0 w.heap.size _ twoA 3 (hT w y1 y2 y4 (hs.blk (by repeat constructor)) (hs.blk (by repeat constructor)) (hs.blk (by repeat constructor))) rw_aim (by decide); rw [rw_price] at this; exact this
  (refine ql_pure tabOk rfl rfl (ql_ext tabOk rfl rfl rfl (ql_ext tabOk rfl rfl rfl (ql_pure tabOk rfl rfl (ql_pure tabOk rfl rfl (q_nil (q_seq (q_region (ql_pure tabOk rfl rfl (ql_eqlT tabOk rfl rfl rfl (by omega) (ql_pure tabOk rfl rfl (ql_gyes rfl ?_))))))))))); refine ql_pure tabOk rfl rfl (ql_gyes rfl (ql_eqlT tabOk rfl rfl rfl (by omega) (ql_pure tabOk rfl rfl (ql_pure tabOk rfl rfl (ql_gyes rfl (ql_pure tabOk rfl rfl (ql_gyes rfl (ql_eqlT tabOk rfl rfl rfl (by omega) (ql_pure tabOk rfl rfl (ql_pure tabOk rfl rfl (ql_gyes rfl ?_))))))))))); refine ql_pure tabOk rfl rfl (ql_gyes rfl (ql_eqlT tabOk rfl rfl rfl (by omega) (ql_pure tabOk rfl rfl (ql_pure tabOk rfl rfl (ql_gyes rfl (ql_pure tabOk rfl rfl (ql_gyes rfl (ql_eqlT tabOk rfl rfl rfl (by omega) (ql_pure tabOk rfl rfl (ql_pure tabOk rfl rfl (ql_gyes rfl ?_))))))))))); refine ql_pure tabOk rfl rfl (ql_gyes rfl (ql_eqlT tabOk rfl rfl rfl (by omega) (ql_pure tabOk rfl rfl (ql_pure tabOk rfl rfl (ql_gyes rfl (ql_pure tabOk rfl rfl (ql_gyes rfl (ql_pure tabOk rfl rfl (ql_gyes rfl (ql_eqlT tabOk rfl rfl rfl (by omega) (ql_pure tabOk rfl rfl ?_))))))))))); refine ql_pure tabOk rfl rfl (ql_gyes rfl ?_); (iterate 3 refine ql_pure tabOk rfl rfl ?_); refine ql_gyes rfl (ql_pure tabOk rfl rfl (ql_gyes rfl ?_)))
  refine ql_mkS 3 (ints [900, 700, 600, 550, 500, 470]) rfl (by kernel_rfl) rfl (fun c9 => ?_)
  refine ql_gyes rfl ?_
  refine ql_callv (val := .bool true) tabOk rfl rfl rfl rfl (fun w hs => ?_) ?_; exact eqI_ca w 0 w.heap.size 0 w.heap.size _ _ [900, 700, 600, 550, 500, 470] (hs.rdI (v := .slice (some ⟨k1, 0, none⟩) 6 k2) (l := [900, 700, 600, 550, 500, 470]) (t := 3) (n := 6) (by repeat constructor) rfl) (Blk.rdI (c := 6) (l := [900, 700, 600, 550, 500, 470]) (hs.blk (b := c9) (by repeat constructor))) (by decide)
  (refine ql_pure tabOk rfl rfl (ql_pure tabOk rfl rfl (ql_gyes rfl (ql_pure tabOk rfl rfl (ql_gyes rfl (ql_eqlT tabOk rfl rfl rfl (by omega) (ql_pure tabOk rfl rfl (ql_pure tabOk rfl rfl (q_nil (q_ret ?_))))))))))
  refine q_fin tabOk rfl (by repeat constructor) fun w hs => ?_
  exact ⟨rfl, hs.chg0⟩
end Go.Proofs.YtopdmadgkjdgcaaGreat

/- Walks: labs are copied, and get a run more. -/
namespace Go.Proofs.YtopdmadgkjdgcaaGreat
set_option maxRecDepth 4000
open Go Go.Eng

def tD3_563eb24 : OT := chainT [0, 1, 2, 3, 4, 5, 6, 7, 8] (.nil)
end Go.Proofs.YtopdmadgkjdgcaaGreat

/- Lists of labs, and what is told of them. -/
namespace Go.Proofs.YtopdmadgkjdgcaaGreat
set_option maxRecDepth 4000
open Go Go.Eng

abbrev LbM := Lb × Option Addr × Nat
def labCs (M : List LbM) : List Value := M.flatMap fun m => [.int .i64 m.1.skis, .int .i64 m.1.err, .slice m.2.1 m.1.runs.length m.2.2]
def labOs (t : Nat) (M : List LbM) : List Ck := M.map fun m => .ow (.slice m.2.1 m.1.runs.length m.2.2) t 3 m.1.runs.length (rnC m.1.runs)
/-- Places that were told. -/
def plOs (t : Nat) (M : List LbM) (ps : List Value) : List Ck := (M.zip ps).map fun x => .ow x.2 t 2 x.1.1.n (spC (plC x.1.1 x.1.1.ord x.1.1.n))
/-- An array that is filled. -/
def filA (f : Nat → Int) (n j : Nat) : List Int := (List.range n).map fun i => if i < j then f i else 0
def lbM (M : List LbM) (i : Nat) : Lb := (M.getD i (⟨0, 0, []⟩, none, 0)).1
def oM (M : List LbM) (i : Nat) : Int := cnt (lbM M i).ord (lbM M i).n (2 ^ (lbM M i).n - 1)
def rM (M : List LbM) (k i : Nat) : Int := (planO (lbM M i).n k (lbM M i).ord : Nat)
/-- What all labs of a list have. -/
structure AllOk (sk : Nat) (m : LbM) : Prop where
  ok : m.1.Ok
  noC : NoC m.1.ord m.1.n
  skis : m.1.skis = (sk : Int)
theorem AllOk.n {sk : Nat} {m : LbM} (h : AllOk sk m) : m.1.n = sk := by unfold Lb.n; rw [h.skis]; omega
end Go.Proofs.YtopdmadgkjdgcaaGreat

/- Walks: all pairs of skis of which one is faster; whether a pair is among them. -/
namespace Go.Proofs.YtopdmadgkjdgcaaGreat
set_option maxRecDepth 4000
open Go Go.Eng

/-- The pairs with a faster ski of a list of skis. -/
def prA (o n : Nat) (L : List Nat) : List (Int × Int) := L.flatMap fun a => ((List.range n).filter fun b => fa o a b).map fun (b : Nat) => ((a : Int), (b : Int))
/-- All pairs of skis of which one is faster. -/
def fasL (o n : Nat) : List (Int × Int) := prA o n (List.range n)
/-- Those of the skis ahead of the k-th one, and the first ones of its own. -/
def fasI (o n a b : Nat) : List (Int × Int) := prA o n (List.range a) ++ ((List.range b).filter fun b => fa o a b).map fun (b : Nat) => ((a : Int), (b : Int))
/-- Where a pair is, or -1. -/
def idxP (L : List (Int × Int)) (p : Int × Int) : Int := if p ∈ L then (L.idxOf p : Int) else -1
end Go.Proofs.YtopdmadgkjdgcaaGreat

/- The plain law of SkiEnded. -/
namespace Go.Proofs.YtopdmadgkjdgcaaGreat
set_option maxRecDepth 4000

/-- Further runs that show a ski to be faster than all that are not faster than it. -/
def earL (l : Lb) (x : Nat) : Nat → Lb
  | 0 => l
  | k + 1 => if k = x ∨ fa l.ord k x = true then earL l x k else (earL l x k).add ⟨x, k, (earL l x k).err + 1⟩
def latL (l : Lb) (x : Nat) : Nat → Lb
  | 0 => l
  | k + 1 => if k = x ∨ fa l.ord x k = true then latL l x k else (latL l x k).add ⟨k, x, (latL l x k).err + 1⟩
theorem run_more {e : Int} {a b : Nat} (he : 0 ≤ e) : runV e ⟨a, b, e + 1⟩ = some (a, b) := by
  unfold runV
  rw [if_pos (show e < e + 1 by omega), Int.toNat_natCast, Int.toNat_natCast]
structure More (l m : Lb) (k : Nat) (R : Nat × Nat → Prop) : Prop where
  sk : m.skis = l.skis
  err : m.err = l.err
  ok : m.Ok
  len : m.runs.length ≤ l.runs.length + k
  has : ∀ p, p ∈ m.pairs ↔ p ∈ l.pairs ∨ R p
theorem More.n {l m : Lb} {k : Nat} {R : Nat × Nat → Prop} (h : More l m k R) : m.n = l.n := by unfold Lb.n; rw [h.sk]
theorem More.le {l m : Lb} {k : Nat} {R : Nat × Nat → Prop} (h : More l m k R) (hl : l.Ok) : LeO l.ord m.ord := order_le hl.in8 h.ok.in8 fun p hp => (h.has p).2 (.inl hp)
theorem More.add {l m : Lb} {k a b : Nat} {R R' : Nat × Nat → Prop} (h : More l m k R) (ha : a < l.n) (hb : b < l.n) (hne : a ≠ b) (hlen : l.runs.length + k < 40) (hR : ∀ p, R' p ↔ R p ∨ p = (a, b)) : More l (m.add ⟨a, b, m.err + 1⟩) (k + 1) R' := by
  have hs0 := h.ok.s0
  have hs1 := h.ok.s1
  have he0 := h.ok.e0
  have he1 := h.ok.e1
  have hsk := h.sk
  have hl := h.len
  have ha2 : (a : Int) < m.skis := by unfold Lb.n at ha; omega
  have hb2 : (b : Int) < m.skis := by unfold Lb.n at hb; omega
  refine ⟨h.sk, h.err, h.ok.add (by omega) (run_ok (by omega) (by omega) (by omega) (by omega)), ?_, fun p => ?_⟩
  · show (m.runs ++ [_]).length ≤ _
    rw [List.length_append, List.length_singleton]
    omega
  · rw [add_pairs, run_more he0, hR, List.mem_append, h.has]
    simp only [Option.toList, List.mem_singleton]
    exact or_assoc
theorem More.up {l m : Lb} {k : Nat} {R R' : Nat × Nat → Prop} (h : More l m k R) (hR : ∀ p, R' p ↔ R p) : More l m (k + 1) R' :=
  ⟨h.sk, h.err, h.ok, by have := h.len; omega, fun p => by rw [h.has, hR]⟩
theorem More.start {l : Lb} {R : Nat × Nat → Prop} (h : l.Ok) (hR : ∀ p, ¬ R p) : More l l 0 R := ⟨rfl, rfl, h, by omega, fun p => by simp [hR p]⟩
end Go.Proofs.YtopdmadgkjdgcaaGreat

/- Labs that grow, and what is read of them. -/
namespace Go.Proofs.YtopdmadgkjdgcaaGreat
set_option maxRecDepth 4000
open Go Go.Eng

/-- The slice of a lab's runs. -/
abbrev slV (m : LbM) : Value := .slice m.2.1 m.1.runs.length m.2.2
end Go.Proofs.YtopdmadgkjdgcaaGreat

/- The engine, part B41: an empty list that is no nil, of structs. -/
namespace Go.Eng
set_option maxRecDepth 4000
open Go Go.RowKit
section
variable {P : Program} {T : Tab} {ro : Cx} {n : Nat} {F : Fin} {w0 : World} {M : Nat → Prop} {k : List It} {ops : Array Oper} {rest : List Oper} {e : Env} {H Hq : List Ck}
end
end Go.Eng

/- Walks of rifle: guards that are made; lists of holds copied. -/
namespace Go.Proofs.YtopdmadgkjdgcaaGreat
set_option maxRecDepth 4000
open Go Go.Eng
/-- What a made guard is. -/
structure GrdL (most : Nat) (l : List Hd) : Prop where
  n1 : 1 ≤ l.length
  n2 : l.length ≤ most
  all : ∀ h ∈ l, (0 ≤ h.who ∧ h.who ≤ 99) ∧ (0 ≤ h.f ∧ h.f ≤ h.t) ∧ h.t ≤ 1000
theorem GrdL.ok {most : Nat} {l : List Hd} (h : GrdL most l) (hm : most ≤ 30) : GOk l := ⟨h.n1, by have := h.n2; omega, fun x hx => by have := h.all x hx; omega⟩
end Go.Proofs.YtopdmadgkjdgcaaGreat

/- Walks of rifle: scales that are made. -/
namespace Go.Proofs.YtopdmadgkjdgcaaGreat
set_option maxRecDepth 4000
open Go Go.Eng
/-- What a made scale is: the offset that it really has, and each rifle's weight and reading. -/
structure MadS (most : Nat) (s : Sc) (o : Int) (X : List (Int × Int)) : Prop where
  err : 0 ≤ s.err ∧ s.err ≤ 7
  least : s.least = 3500
  off : -15 ≤ o ∧ o ≤ 15
  tn : s.tests.length ≤ 3
  tst : ∀ t ∈ s.tests, (1000 ≤ t.1 ∧ t.1 ≤ 4900) ∧ -s.err ≤ t.2 - t.1 - o ∧ t.2 - t.1 - o ≤ s.err
  n1 : 1 ≤ X.length
  n2 : X.length ≤ most
  rif : s.rifles = X.map (·.2)
  rifle : ∀ p ∈ X, (3475 ≤ p.1 ∧ p.1 ≤ 3525) ∧ -s.err ≤ p.2 - p.1 - o ∧ p.2 - p.1 - o ≤ s.err
theorem ints_snoc2 (l : List Int) (r : Int) : ints (l ++ [r]) = ints l ++ [.int .i64 r] := by simp [ints]
end Go.Proofs.YtopdmadgkjdgcaaGreat

/- Walks of rifle: tests that contradict each other. -/
namespace Go.Proofs.YtopdmadgkjdgcaaGreat
set_option maxRecDepth 4000
open Go Go.Eng
def tstN (s : Sc) (i : Nat) : Int × Int := s.tests.getD i (0, 0)
/-- Do two tests allow no offset in common? -/
def clB (s : Sc) (i k : Nat) : Bool := decide ((comV (alwV s (tstN s i)) (alwV s (tstN s k))).2 < (comV (alwV s (tstN s i)) (alwV s (tstN s k))).1)
def ClR (s : Sc) (i k : Nat) (e : Int) : Prop := (e = 6 ∧ i = 0 ∧ k = 0 ∧ ∀ a b, a ≤ b → b < s.tests.length → clB s a b = false) ∨ (e = 0 ∧ i ≤ k ∧ k < s.tests.length ∧ clB s i k = true ∧ ∀ a b, a ≤ b → b < s.tests.length → (a < i ∨ a = i ∧ b < k) → clB s a b = false)
def tF23_bb62d8e : OT := .alt (chainT [10, 11, 12] (.nil)) (chainT [11, 10, 12] (.nil))
def tF23_827570c : OT := .alt (chainT [3, 4, 5, 6, 7, 8, 9] (tF23_bb62d8e)) (chainT [11, 3, 4, 5, 6, 7, 8, 9, 10, 12] (.nil))
def tF23_6a6effc : OT := .alt (chainT [0, 1, 2] (tF23_827570c)) (chainT [11, 0, 1, 2, 3, 4, 5, 6, 7, 8, 9, 10, 12] (.nil))
end Go.Proofs.YtopdmadgkjdgcaaGreat

/- Walks of rifle: whether a number is in a list; spans; what a made scale shows. -/
namespace Go.Proofs.YtopdmadgkjdgcaaGreat
set_option maxRecDepth 4000
open Go Go.Eng
end Go.Proofs.YtopdmadgkjdgcaaGreat

/- Walks of rifle: scales copied. -/
namespace Go.Proofs.YtopdmadgkjdgcaaGreat
set_option maxRecDepth 4000
open Go Go.Eng
def tF25_6b4554a : OT := chainT [0, 1, 2, 3, 4, 5, 6, 7, 8, 9, 10, 11] (.nil)
end Go.Proofs.YtopdmadgkjdgcaaGreat

/- Walks of rifle: spans in spans. -/
namespace Go.Proofs.YtopdmadgkjdgcaaGreat
set_option maxRecDepth 4000
open Go Go.Eng
end Go.Proofs.YtopdmadgkjdgcaaGreat

/- The engine, part B42: Bools compared, unequal, in regions that draw. -/
namespace Go.Eng
set_option maxRecDepth 4000
open Go Go.RowKit
section
variable {P : Program} {ro : Cx} {n : Nat} {F : Fin} {w0 : World} {M : Nat → Prop} {k : List It} {ops : Array Oper} {rest : List Oper} {e : Env} {H Hq : List Ck}
end
end Go.Eng

/- The engine, part B43: a struct is stored into an own row. -/
namespace Go.Eng
set_option maxRecDepth 4000
open Go Go.RowKit
section
variable {P : Program} {T : Tab} {ro : Cx} {n : Nat} {F : Fin} {w0 : World} {M : Nat → Prop} {k : List It} {ops : Array Oper} {rest : List Oper} {e : Env} {H Hq : List Ck}
end
end Go.Eng

/- Walks of rifle: tests told backwards. -/
namespace Go.Proofs.YtopdmadgkjdgcaaGreat
set_option maxRecDepth 4000
open Go Go.Eng
end Go.Proofs.YtopdmadgkjdgcaaGreat

/- The engine, part B44: pieces told otherwise in a region that draws; the least of three numbers. -/
namespace Go.Eng
set_option maxRecDepth 4000
open Go Go.RowKit
section
variable {P : Program} {T : Tab} {ro : Cx} {n : Nat} {F : Fin} {w0 : World} {M : Nat → Prop} {k : List It} {ops : Array Oper} {rest : List Oper} {e : Env} {H H' Hq : List Ck}
theorem min3_run {d : Nat} {x y z : Operand} {a b c : Int} {ty : TypeId} {pos : String} {af : Array Edge} {tys : Array TypeId} (hx : opv e x = some (.int .i64 a)) (hy : opv e y = some (.int .i64 b)) (hz : opv e z = some (.int .i64 c)) (ac : Act) (hf : Fits n e ac) (w : World) :
    (execOp ac.eval ⟨some d, .call { callee := .builtin .min, args := #[x, y, z], argTypes := tys }, ty, pos, af, none⟩).run P w = .ok (.value (.int .i64 (min (min a b) c))) w := by
  have q : ∀ p q : Int, (if q < p then q else p) = min p q := fun p q => by simp only [Int.min_def]; split <;> split <;> omega
  unfold execOp
  have e0 := hf.op hx
  have e1 := hf.op hy
  have e2 := hf.op hz
  simp only [resolve, List.map_toArray, List.map_cons, List.map_nil, e0, e1, e2]
  simp [invoke, builtin, Builtin.min_, Builtin.min2, q]
theorem qf_min3 {d : Nat} {x y z : Operand} {a b c : Int} {ty : TypeId} {pos : String} {af : Array Edge} {tys : Array TypeId} (hx : opv e x = some (.int .i64 a)) (hy : opv e y = some (.int .i64 b)) (hz : opv e z = some (.int .i64 c)) (hd : Nat.blt d n = true)
    (h : QF P ro n F w0 M k ops Hq rest ((d, .int .i64 (min (min a b) c)) :: e) H) : QF P ro n F w0 M k ops Hq (⟨some d, .call { callee := .builtin .min, args := #[x, y, z], argTypes := tys }, ty, pos, af, none⟩ :: rest) e H := .mk fun w hw =>
  yf_quiet rfl hd (fun ac hf w' _ => min3_run hx hy hz ac hf w') (h.h w hw)
end
end Go.Eng

/- Walks of rifle: aims that are made. -/
namespace Go.Proofs.YtopdmadgkjdgcaaGreat
set_option maxRecDepth 4000
open Go Go.Eng
/-- A row of an aim. -/
structure RowA (l : List Int) : Prop where
  n1 : 1 ≤ l.length
  n8 : l.length ≤ 8
  bd : ∀ w, w < l.length → 0 ≤ l.getD w 0 ∧ l.getD w 0 ≤ 1000
  dec : ∀ w, w + 1 < l.length → l.getD (w + 1) 0 ≤ l.getD w 0
  cvx : ∀ w, w + 2 < l.length → l.getD (w + 1) 0 - l.getD (w + 2) 0 ≤ l.getD w 0 - l.getD (w + 1) 0
/-- A row under way: by how much the last breath helped. -/
structure RowI (l : List Int) (h : Int) : Prop where
  n1 : 1 ≤ l.length
  bd : ∀ w, w < l.length → 0 ≤ l.getD w 0 ∧ l.getD w 0 ≤ 1000
  dec : ∀ w, w + 1 < l.length → l.getD (w + 1) 0 ≤ l.getD w 0
  cvx : ∀ w, w + 2 < l.length → l.getD (w + 1) 0 - l.getD (w + 2) 0 ≤ l.getD w 0 - l.getD (w + 1) 0
  h0 : 0 ≤ h ∧ h ≤ 199
  last : ∀ w, l.length = w + 2 → l.getD w 0 - l.getD (w + 1) 0 = h
theorem RowI.row {l : List Int} {h : Int} (r : RowI l h) (h8 : l.length ≤ 8) : RowA l := ⟨r.n1, h8, r.bd, r.dec, r.cvx⟩
theorem RowI.one {n h : Int} (hn : 0 ≤ n ∧ n ≤ 1000) (hh : 0 ≤ h ∧ h ≤ 199) : RowI [n] h := ⟨by simp, fun w hw => by
  obtain rfl : w = 0 := by simpa using hw
  exact hn, fun w hw => by simp at hw, fun w hw => by simp at hw, hh, fun w hw => by simp at hw⟩
theorem RowI.snoc {l : List Int} {h k : Int} (r : RowI l h) (hk : 0 ≤ k ∧ k ≤ h) (hl : k ≤ l.getD (l.length - 1) 0) : RowI (l ++ [l.getD (l.length - 1) 0 - k]) k := by
  have hn := r.n1
  have e1 : ∀ w, w < l.length → (l ++ [l.getD (l.length - 1) 0 - k]).getD w 0 = l.getD w 0 := fun w hw => getD_app hw
  have e2 : (l ++ [l.getD (l.length - 1) 0 - k]).getD l.length 0 = l.getD (l.length - 1) 0 - k := by rw [getD_app2 (Nat.le_refl _), Nat.sub_self]; rfl
  have hb := r.bd (l.length - 1) (by omega)
  have el : (l ++ [l.getD (l.length - 1) 0 - k]).length = l.length + 1 := by simp
  refine ⟨by rw [el]; omega, fun w hw => ?_, fun w hw => ?_, fun w hw => ?_, by have := r.h0; omega, fun w hw => ?_⟩
  · rw [el] at hw
    by_cases c : w < l.length
    · rw [e1 w c]; exact r.bd w c
    · obtain rfl : w = l.length := by omega
      rw [e2]; omega
  · rw [el] at hw
    by_cases c : w + 1 < l.length
    · rw [e1 w (by omega), e1 _ c]; exact r.dec w c
    · have c2 : w + 1 = l.length := by omega
      rw [e1 w (by omega), c2, e2, show w = l.length - 1 from by omega]; omega
  · rw [el] at hw
    by_cases c : w + 2 < l.length
    · rw [e1 w (by omega), e1 _ (by omega), e1 _ c]; exact r.cvx w c
    · have c2 : w + 2 = l.length := by omega
      have h1 := r.last w c2.symm
      rw [e1 w (by omega), e1 _ (by omega), c2, e2, show l.length - 1 = w + 1 from by omega]
      omega
  · rw [el] at hw
    rw [e1 w (by omega), show w + 1 = l.length from by omega, e2, show w = l.length - 1 from by omega]
    omega
theorem aimOk_of {A : List (List Int)} (h1 : 1 ≤ A.length) (h8 : A.length ≤ 8) (h : ∀ l ∈ A, RowA l) : AimOk A := by
  have g : ∀ i, i < A.length → RowA (A.getD i []) := fun i hi => by rw [getA hi]; exact h _ (List.getElem_mem hi)
  refine ⟨h1, h8, fun i hi => ?_, fun i w hi hw => (g i hi).bd w hw, fun i w hi hw => (g i hi).dec w hw, fun i w hi hw => (g i hi).cvx w hw⟩
  have := g i hi
  exact ⟨this.n1, by have := this.n8; unfold amW; omega⟩
set_option maxHeartbeats 4000000 in
theorem aim_made (most : Nat) (h1 : 1 ≤ most) (h2 : most ≤ 8) (K : Nat) (hK : K < 100000) (w : World) (b lo hi : Nat) (bs : Value) (hby : DkB w lo hi bs) (hlh : hi ≤ b) (hd : DkS w b bs K) :
    Ca Tryz.prog 24 [.pointer (some ⟨b, 0, none⟩), .int .i64 most] w fun v w' => ∃ y : Value × List (Value × List Int), (v = y.1 ∧ (1 ≤ y.2.length ∧ y.2.length ≤ most) ∧ ∀ p ∈ y.2, RowA p.2) ∧ Sat w (fun x => x = b) [un (rowsO 3 y.2), .ow y.1 29 1 y.2.length (y.2.map (·.1)), dkP bs b (K + 100)] w' := by
  refine q_of (dk_sat hd) Tryz.func24 rfl (by simp [Tryz.ntmps24]) ?_
  (refine q_seq (q_region (ql_pure tabOk rfl rfl (q_nil (q_seq (q_region (ql_pure tabOk rfl rfl (q_nil (q_seq (q_seq (q_region (ql_pure tabOk rfl rfl ?_))))))))))); refine ql_pure tabOk rfl rfl ?_)
  refine ql_call (β := Int) (ψ := fun zq v => v = .int .i64 zq ∧ 1 ≤ zq ∧ zq ≤ most) (L' := fun _ => [dkP bs b (K + 1)]) tabOk [dkP bs b (K)] _ (fun x => x = b) rfl rfl rfl rfl (Sp.cons (by repeat constructor) (Sp.refl _)) (fun x hx => ⟨_, .head _, hx⟩) (fun w' hs => between_ca (1) (most) (by omega) (by omega) (by omega) (K) (by omega) w' b lo hi bs (hby.keepP hlh hs.chg) hlh (hs.all _ (.head _))) ?_; rintro n _ ⟨rfl, hn⟩
  (refine ql_pure tabOk rfl rfl (q_nil (q_block ?_)))
  obtain ⟨m, rfl⟩ := Int.eq_ofNat_of_zero_le (show 0 ≤ n by omega)
  refine q_conv (H' := [un (rowsO 3 []), .ow (.slice none 0 0) 29 1 0 (([] : List (Value × List Int)).map (·.1)), dkP bs b (K + 1 + 11 * 0)]) (fun w' hs => Sat.un_nil (Sat.ownil hs _ _)) ?_
  refine q_loop (σ := Value × List (Value × List Int)) (fun s => s.2.length ≤ m ∧ ∀ p ∈ s.2, RowA p.2) (fun s => m - s.2.length) (fun s => [(0, .pointer (some ⟨b, 0, none⟩)), (5, s.1), (11, .int .i64 m), (12, .int .i64 s.2.length)])
    (fun s => [un (rowsO 3 s.2), .ow s.1 29 1 s.2.length (s.2.map (·.1)), dkP bs b (K + 1 + 11 * s.2.length)]) (.slice none 0 0, []) ⟨by simp, by simp⟩ ⟨rfl, rfl, rfl, rfl, trivial⟩ (by repeat constructor) ?_
  rintro ⟨va, xs⟩ ⟨hl, hR⟩ K1 hK1
  dsimp only at hl hR ⊢
  (refine q_seq (q_region (ql_pure tabOk rfl rfl (q_nil (q_seq ?_)))))
  refine q_if rfl (fun hc => ?_) (fun hc => ?_)
  · have hl2 : xs.length < m := by omega
    clear hc
    obtain ⟨k, hk⟩ : ∃ k, k = xs.length := ⟨_, rfl⟩
    rw [← hk]
    (refine q_skip (q_seq (q_block (q_seq (q_region (ql_pure tabOk rfl rfl ?_))))))
    refine ql_call (β := Int) (ψ := fun zq v => v = .int .i64 zq ∧ 100 ≤ zq ∧ zq ≤ 1000) (L' := fun _ => [dkP bs b (K + 1 + 11 * k + 1)]) tabOk [dkP bs b (K + 1 + 11 * k)] _ (fun x => x = b) rfl rfl rfl rfl (Sp.cons (by repeat constructor) (Sp.refl _)) (fun x hx => ⟨_, .head _, hx⟩) (fun w' hs => between_ca (100) (1000) (by omega) (by omega) (by omega) (K + 1 + 11 * k) (by omega) w' b lo hi bs (hby.keepP hlh hs.chg) hlh (hs.all _ (.head _))) ?_; rintro x _ ⟨rfl, hx⟩
    (refine ql_pure tabOk rfl rfl ?_)
    refine ql_call (β := Int) (ψ := fun zq v => v = .int .i64 zq ∧ 0 ≤ zq ∧ (zq < 200 ∨ zq = 0)) (L' := fun _ => [dkP bs b (K + 1 + 11 * k + 1 + 1)]) tabOk [dkP bs b (K + 1 + 11 * k + 1)] _ (fun x => x = b) rfl rfl rfl rfl (Sp.cons (by repeat constructor) (Sp.refl _)) (fun x hx => ⟨_, .head _, hx⟩) (fun w' hs => drawP_ca (200) (K + 1 + 11 * k + 1) (by omega) w' b lo hi bs (hby.keepP hlh hs.chg) hlh (hs.all _ (.head _))) ?_; rintro h _ ⟨rfl, hh⟩
    (refine ql_pure tabOk rfl rfl (ql_pure tabOk rfl rfl (q_nil (q_seq (q_region (ql_pure tabOk rfl rfl ?_))))))
    refine ql_mkS 3 [.int .i64 x] rfl (by kernel_rfl) rfl (fun bl => ?_)
    (refine ql_pure tabOk rfl rfl (q_nil (q_seq (q_seq (q_region (ql_pure tabOk rfl rfl ?_))))))
    refine ql_call (β := Int) (ψ := fun zq v => v = .int .i64 zq ∧ 0 ≤ zq ∧ (zq < 8 ∨ zq = 0)) (L' := fun _ => [dkP bs b (K + 1 + 11 * k + 1 + 1 + 1)]) tabOk [dkP bs b (K + 1 + 11 * k + 1 + 1)] _ (fun x => x = b) rfl rfl rfl rfl (Sp.cons (by repeat constructor) (Sp.refl _)) (fun x hx => ⟨_, .head _, hx⟩) (fun w' hs => drawP_ca (8) (K + 1 + 11 * k + 1 + 1) (by omega) w' b lo hi bs (hby.keepP hlh hs.chg) hlh (hs.all _ (.head _))) ?_; rintro z _ ⟨rfl, hz⟩
    (refine ql_pure tabOk rfl rfl (q_nil (q_block ?_)))
    obtain ⟨q, rfl⟩ := Int.eq_ofNat_of_zero_le (show 0 ≤ z by omega)
    refine q_conv (H' := [.ow (.slice (some ⟨bl, 0, none⟩) (0 + 1) 1) 3 1 (0 + 1) (ints [x]), un (rowsO 3 xs), .ow va 29 1 k (xs.map (·.1)), dkP bs b (K + 1 + 11 * k + 3 + 0)]) (fun w hs => (Sat.pt_ow (sz := 1) (m := 1) rfl (by omega) (hs.sp (H' := [.pt bl [.int .i64 x] 3, un (rowsO 3 xs), .ow va 29 1 k (xs.map (·.1)), dkP bs b (K + 1 + 11 * k + 3 + 0)]) (by repeat constructor)))) ?_
    refine q_loop (σ := (Nat × Nat) × List Int × Int) (fun s => (1 ≤ s.2.1.length ∧ s.2.1.length ≤ q + 1) ∧ RowI s.2.1 s.2.2) (fun s => q + 1 - s.2.1.length) (fun s => [(0, .pointer (some ⟨b, 0, none⟩)), (5, va), (11, .int .i64 m), (12, .int .i64 k), (7, .int .i64 s.2.2), (8, .slice (some ⟨s.1.1, 0, none⟩) s.2.1.length s.1.2), (21, .int .i64 q), (22, .int .i64 ((s.2.1.length : Int) - 1))])
      (fun s => [.ow (.slice (some ⟨s.1.1, 0, none⟩) s.2.1.length s.1.2) 3 1 s.2.1.length (ints s.2.1), un (rowsO 3 xs), .ow va 29 1 k (xs.map (·.1)), dkP bs b (K + 1 + 11 * k + 3 + (s.2.1.length - 1))]) ((bl, 1), [x], h) ⟨by simp, RowI.one (by omega) (show 0 ≤ h ∧ h ≤ 199 by omega)⟩ ⟨rfl, rfl, rfl, rfl, rfl, rfl, rfl, rfl, trivial⟩ (by repeat constructor) ?_
    rintro ⟨⟨g, c⟩, l, h⟩ ⟨⟨hl1, hlq⟩, hI⟩ K2 hK2
    dsimp only at hl1 hlq hI ⊢
    (refine q_seq (q_region (ql_pure tabOk rfl rfl (q_nil (q_seq ?_)))))
    refine q_if rfl (fun hc => ?_) (fun hc => ?_)
    · have hlq2 : l.length < q + 1 := by omega
      clear hc
      obtain ⟨j, hj⟩ : ∃ j, l.length = j + 1 := ⟨l.length - 1, by omega⟩
      have hjl : j < l.length := by omega
      have hbd := hI.bd j hjl
      have hh := hI.h0
      have hgj : l[j] = l.getD (l.length - 1) 0 := by rw [hj, Nat.add_sub_cancel, getI hjl]
      rw [getI hjl] at hbd
      (refine q_skip (q_seq (q_block (q_seq ?_))))
      refine q_draw _ [dkP bs b (K + 1 + 11 * k + 3 + (l.length - 1))] (Sp.cons (by repeat constructor) (Sp.refl _)) (by kernel_rfl) (by kernel_rfl) ?_
      ((iterate 4 refine qf_pure tabOk rfl rfl rfl ?_); refine qf_ar tabOk rfl rfl rfl rfl (by omega) (by omega) ?_)
      refine qf_index tabOk rfl rfl rfl rfl rfl (by omega) (by omega) ?_
      skip
      refine qf_load1 (v := .int .i64 l[j]) tabOk rfl rfl rfl (fun w hs => by
        have := RdI.at (hs.rdI (v := .slice (some ⟨g, 0, none⟩) l.length c) (l := l) (t := 3) (n := l.length) (by repeat constructor) rfl) j hjl
        rw [show (((l.length : Int) - 1).toNat) = j from by omega]
        exact this) ?_
      (refine qf_pure tabOk rfl rfl rfl (qf_pure tabOk rfl rfl rfl ?_))
      refine qf_call (β := Int) (ψ := fun zq v => v = .int .i64 zq ∧ 0 ≤ zq ∧ (zq < 60 ∨ zq = 0)) (L' := fun _ => [dkP bs b (K + 1 + 11 * k + 3 + (l.length - 1) + 1)]) tabOk [dkP bs b (K + 1 + 11 * k + 3 + (l.length - 1))] _ (fun x => x = b) rfl rfl rfl rfl (Sp.cons (by repeat constructor) (Sp.refl _)) (fun x hx => ⟨_, .head _, hx⟩) (fun w' hs => drawP_ca (60) (K + 1 + 11 * k + 3 + (l.length - 1)) (by omega) w' b lo hi bs (hby.keepP hlh hs.chg) hlh (hs.all _ (.head _))) ?_; rintro y _ ⟨rfl, hy⟩
      (refine qf_ar tabOk rfl rfl rfl rfl (by omega) (by omega) (qf_pure tabOk rfl rfl rfl ?_))
      refine qf_min3 rfl rfl rfl rfl ?_
      obtain ⟨z, hz⟩ : ∃ z, z = min (min h l[j]) (max 0 (h - y)) := ⟨_, rfl⟩
      rw [← hz]
      have hz2 : 0 ≤ z ∧ z ≤ h ∧ z ≤ l[j] := by omega
      clear hz
      (refine qf_pure tabOk rfl rfl rfl (qf_nil (q_region ?_)); (iterate 4 refine ql_pure tabOk rfl rfl ?_); refine ql_ar tabOk rfl rfl rfl rfl (by omega) (by omega) ?_)
      refine ql_index tabOk rfl rfl rfl rfl rfl (by omega) (by omega) ?_
      skip
      refine ql_load1 (v := .int .i64 l[j]) tabOk rfl rfl rfl (fun w hs => by
        have := RdI.at (hs.rdI (v := .slice (some ⟨g, 0, none⟩) l.length c) (l := l) (t := 3) (n := l.length) (by repeat constructor) rfl) j hjl
        rw [show (((l.length : Int) - 1).toNat) = j from by omega]
        exact this) ?_
      (refine ql_pure tabOk rfl rfl (ql_ar tabOk rfl rfl rfl rfl (by omega) (by omega) ?_))
      refine ql_mkS 3 [.int .i64 (l[j] - z)] rfl (by kernel_rfl) rfl (fun bn => ?_)
      skip
      refine ql_append (q := 1) (news := [.int .i64 (l[j] - z)]) slI rfl rfl rfl (fun v' => by repeat constructor) (fun w' hs => ⟨_, _, Blk.rdN (hs.blk (b := bn) (by repeat constructor)) rfl⟩) (by simp [oneV]) (by omega) (by omega) (fun u' => ?_)
      refine ql_fact (fun w hs => hs.ownSome (v := u') (by repeat constructor) (by omega)) ?_
      rintro ⟨g2, c2, rfl⟩
      (refine ql_pure tabOk rfl rfl (q_nil (q_blk (q_region (ql_ar tabOk rfl rfl rfl rfl (by omega) (by omega) (ql_pure tabOk rfl rfl (q_nil ?_)))))))
      have e1 := ints_snoc2 l (l[j] - z)
      have hI2 := hI.snoc (k := z) (by omega) (by rw [← hgj]; omega)
      rw [← hgj] at hI2
      have el : (l ++ [l[j] - z]).length = l.length + 1 := by simp
      exact hK2 ((g2, c2), l ++ [l[j] - z], z) _ _ ⟨by simp only [el]; omega, hI2⟩ (by simp only [el]; omega) ⟨rfl, rfl, rfl, rfl, rfl, by simp only [el]; rfl, rfl, lookI rfl (by simp only [el]; omega), trivial⟩ (by simp only [el, e1]; rw [show l.length + 1 - 1 = l.length - 1 + 1 from by omega]; repeat constructor)
    · have hlq3 : l.length = q + 1 := by omega
      clear hc hK2
      (refine q_exit _ rfl (q_region (ql_pure tabOk rfl rfl (ql_pure tabOk rfl rfl ?_))))
      refine ql_mkS 29 [.slice (some ⟨g, 0, none⟩) l.length c] rfl (by kernel_rfl) rfl (fun bn => ?_)
      skip
      refine ql_append (q := 1) (news := [.slice (some ⟨g, 0, none⟩) l.length c]) slII rfl rfl rfl (fun v' => by repeat constructor) (fun w' hs => ⟨_, _, Blk.rdN (hs.blk (b := bn) (by repeat constructor)) rfl⟩) (by simp [oneV]) (by omega) (by omega) (fun u' => ?_)
      (refine ql_pure tabOk rfl rfl (q_nil (q_blk (q_region (ql_ar tabOk rfl rfl rfl rfl (by omega) (by omega) (ql_pure tabOk rfl rfl (q_nil ?_)))))))
      have hlen1 : (xs ++ [(Value.slice (some ⟨g, 0, none⟩) l.length c, l)]).length = k + 1 := by simp [hk]
      refine q_conv (H' := [un (rowsO 3 (xs ++ [(Value.slice (some ⟨g, 0, none⟩) l.length c, l)])), .ow u' 29 1 (k + 1) ((xs ++ [(Value.slice (some ⟨g, 0, none⟩) l.length c, l)]).map (·.1)), dkP bs b (K + 1 + 11 * (k + 1))]) (fun w' hs => by
        refine rows_add ?_
        rw [List.map_append]
        have h3 := hs.sp (H' := [dkP bs b (K + 1 + 11 * k + 3 + (l.length - 1)), .ow (.slice (some ⟨g, 0, none⟩) l.length c) 3 1 l.length (ints l), un (rowsO 3 xs), .ow u' 29 1 (k + 1) (xs.map (·.1) ++ [.slice (some ⟨g, 0, none⟩) l.length c])]) (by repeat constructor)
        exact (Sat.dk (K' := K + 1 + 11 * (k + 1)) h3 (by omega)).sp (by repeat constructor)) ?_
      exact hK1 (u', xs ++ [(Value.slice (some ⟨g, 0, none⟩) l.length c, l)]) _ _ ⟨by simp only [hlen1]; omega, fun p hp => by
        rcases List.mem_append.1 hp with hp | hp
        · exact hR p hp
        · rw [List.mem_singleton.1 hp]; exact hI.row (by omega)⟩ (by simp only [hlen1]; omega) ⟨rfl, rfl, rfl, lookI rfl (by simp only [hlen1]; omega), trivial⟩ (by simp only [hlen1]; repeat constructor)
  · have hlm : xs.length = m := by omega
    clear hc hK1
    (refine q_exit _ rfl (q_seq (q_region (ql_pure tabOk rfl rfl (ql_pure tabOk rfl rfl (q_nil (q_ret ?_)))))))
    refine q_fin tabOk rfl (by repeat constructor) fun w hs => ?_
    refine ⟨(va, xs), ⟨rfl, by simp only; omega, hR⟩, ?_⟩
    exact ((Sat.dk (K' := K + 100) (hs.sp (H' := [dkP bs b (K + 1 + 11 * xs.length), un (rowsO 3 xs), .ow va 29 1 xs.length (xs.map (·.1))]) (by repeat constructor)) (by omega)).sp (by repeat constructor))
end Go.Proofs.YtopdmadgkjdgcaaGreat

/- Walks of rifle: enough breaths. -/
namespace Go.Proofs.YtopdmadgkjdgcaaGreat
set_option maxRecDepth 4000
open Go Go.Eng
def pLe (m : Int) : Value → Bool
  | .int _ i => decide (i ≤ m) && true
  | _ => false
/-- What Enough answers. -/
def EnoR (A : List (List Int)) (m : Int) (k e : Int) : Prop := (e = 0 ∧ ∃ t : Nat, k = t ∧ t < manyN A ∧ cvV A t ≤ m ∧ ∀ j : Nat, j < t → m < cvV A j) ∨ (e = 6 ∧ k = 0 ∧ ∀ t : Nat, t < manyN A → m < cvV A t)
end Go.Proofs.YtopdmadgkjdgcaaGreat

/- Walks of rifle: waits that are given: whether they are right, their misses, and whether a price holds for them. -/
namespace Go.Proofs.YtopdmadgkjdgcaaGreat
set_option maxRecDepth 4000
open Go Go.Eng
def wtB (A : List (List Int)) (W : List Int) (k : Nat) : Bool := (List.range k).all fun i => inB (W.getD i 0) 0 ((amW A i : Int) - 1)
theorem wtB_succ (A : List (List Int)) (W : List Int) (k : Nat) : wtB A W (k + 1) = (wtB A W k && inB (W.getD k 0) 0 ((amW A k : Int) - 1)) := by
  unfold wtB
  rw [List.range_succ, List.all_append]
  simp
/-- The error of an aim and waits. -/
def chkWt (A : List (List Int)) (W : List Int) : Int := if chkA A ≠ 0 then chkA A else if W.length ≠ A.length then 2 else if wtB A W A.length = true then 0 else 3
theorem wtB_of {A : List (List Int)} {V : List Nat} (h : WOk A V) : wtB A (nI V) A.length = true := by
  refine List.all_eq_true.2 fun i hi => ?_
  have hi := List.mem_range.1 hi
  have h1 := h.lt i hi
  have h2 := h.len
  rw [getI (by rw [nI_len]; omega), nI_get (by omega)]
  exact inB_iff.2 (by omega)
theorem chkWt_of {A : List (List Int)} {V : List Nat} (hA : AimOk A) (h : WOk A V) : chkWt A (nI V) = 0 := by
  unfold chkWt
  rw [if_neg (by rw [chkA_zero.2 hA]; simp), if_neg (by rw [nI_len, h.len]; simp), if_pos (wtB_of h)]
set_option maxHeartbeats 1000000 in
theorem waited_ca (w : World) (lo hi lo2 hi2 : Nat) (v wv : Value) (A : List (List Int)) (W : List Int) (h : RdII w lo hi v A) (hW : RdI w lo2 hi2 wv W) (hlA : A.length ≤ maxLen) : Ca Tryz.prog 136 [v, wv] w fun x w' => x = .int .i64 (chkWt A W) ∧ Chg [] w w' := by
  obtain ⟨a, c, rfl, ha⟩ := RdII.outI h
  obtain ⟨wa, wc, rfl, hwa⟩ := RdI.outI hW
  refine q_of (Sat.nil w M0) Tryz.func136 rfl (by simp [Tryz.ntmps136]) ?_
  (refine q_seq (q_region (ql_pure tabOk rfl rfl (q_nil (q_seq (q_seq (q_region (ql_pure tabOk rfl rfl ?_))))))))
  refine ql_callv (val := .int .i64 (chkA A)) tabOk rfl rfl rfl rfl (fun w hs => ?_) ?_; exact checkA_ca w lo hi _ A (h.keep hs.chg0) hlA
  by_cases h0 : chkA A = 0
  · have hA := chkA_zero.1 h0
    have n1 := hA.n1
    have n8 := hA.n8
    rw [h0]
    by_cases hl : W.length = A.length
    · have e : chkWt A W = if wtB A W A.length = true then 0 else 3 := by
        unfold chkWt
        rw [if_neg (by rw [h0]; simp), if_neg (by rw [hl]; simp)]
      rw [e]
      obtain ⟨gb, go, rfl⟩ := ha (by omega)
      obtain ⟨wb, wo, rfl⟩ := hwa (by omega)
      rw [hl] at hW ⊢
      (refine ql_pure tabOk rfl rfl (q_nil (q_seq (q_region (ql_pure tabOk rfl rfl (ql_neqF tabOk rfl rfl rfl (by omega) (q_nil (q_cond_false rfl (q_skip (q_seq (q_seq (q_region ?_))))))))))); (iterate 4 refine ql_pure tabOk rfl rfl ?_); refine ql_neqF tabOk rfl rfl rfl (by omega) (q_nil (q_cond_false rfl (q_skip (q_seq (q_seq (q_region ?_)))))); (iterate 3 refine ql_pure tabOk rfl rfl ?_); refine q_nil (q_block ?_))
      refine q_loop (σ := Nat) (fun k => k ≤ A.length ∧ wtB A W k = true) (fun k => A.length - k) (fun k => [(0, .slice (some ⟨gb, go, none⟩) A.length c), (18, .slice (some ⟨wb, wo, none⟩) A.length wc), (19, .int .i64 A.length), (20, .int .i64 k)]) (fun _ => []) 0 ⟨by omega, rfl⟩ ⟨rfl, rfl, rfl, rfl, trivial⟩ (by repeat constructor) ?_
      rintro k ⟨hk, hok⟩ K hK
      (refine q_seq (q_region (ql_pure tabOk rfl rfl (q_nil (q_seq ?_)))))
      refine q_if rfl (fun hc => ?_) (fun hc => ?_)
      · have hk2 : k < A.length := by omega
        clear hc
        have hrow := hA.row k hk2
        obtain ⟨rb, ro, rc, hr1, hr2⟩ := aim_row h hk2 (by omega)
        have hs1 := wtB_succ A W k
        rw [hok, Bool.true_and] at hs1
        (refine q_skip (q_seq (q_block (q_seq (q_region (ql_pure tabOk rfl rfl ?_))))))
        refine ql_index tabOk rfl rfl rfl rfl rfl (by omega) (by omega) ?_
        refine ql_load1 (v := .int .i64 (W.getD k 0)) tabOk rfl rfl rfl (fun w hs => by
          have := RdI.at (RdE.keep hW hs.chg0) k (by omega)
          rw [getI (by omega)]
          exact this) ?_
        (refine ql_pure tabOk rfl rfl (ql_pure tabOk rfl rfl (q_nil (q_seq (q_region ?_)))); (iterate 3 refine ql_pure tabOk rfl rfl ?_))
        refine ql_index tabOk rfl rfl rfl rfl rfl (by omega) (by omega) ?_
        refine ql_load1 tabOk rfl rfl rfl (fun w hs => hr1 _ hs.chg0) ?_
        (refine ql_pure tabOk rfl rfl (ql_ar tabOk rfl rfl rfl rfl (by omega) (by omega) ?_))
        refine ql_callv (val := .bool (inB (W.getD k 0) 0 ((amW A k : Int) - 1))) tabOk rfl rfl rfl rfl (fun w hs => ?_) ?_; exact rfin_ca (W.getD k 0) 0 ((amW A k : Int) - 1) w
        cases hb : inB (W.getD k 0) 0 ((amW A k : Int) - 1) with
        | true =>
          (refine ql_pure tabOk rfl rfl (q_nil (q_cond_false rfl (q_skip (q_blk (q_region (ql_ar tabOk rfl rfl rfl rfl (by omega) (by omega) (ql_pure tabOk rfl rfl (q_nil ?_)))))))))
          exact hK (k + 1) _ _ ⟨by omega, by rw [hs1, hb]⟩ (by omega) ⟨rfl, rfl, rfl, rfl, trivial⟩ (by repeat constructor)
        | false =>
          have hf : wtB A W A.length = false := all_false (p := fun i => inB (W.getD i 0) 0 ((amW A i : Int) - 1)) hb hk2
          rw [hf]
          (refine ql_pure tabOk rfl rfl (q_nil (q_cond_true rfl (q_seq (q_region (ql_pure tabOk rfl rfl (q_nil (q_ret ?_))))))))
          refine q_fin tabOk rfl (by repeat constructor) fun w hs => ?_
          exact ⟨rfl, hs.chg0⟩
      · obtain rfl : k = A.length := by omega
        rw [hok]
        (refine q_exit _ rfl (q_seq (q_region (ql_pure tabOk rfl rfl (q_nil (q_ret ?_))))))
        refine q_fin tabOk rfl (by repeat constructor) fun w hs => ?_
        exact ⟨rfl, hs.chg0⟩
    · have e : chkWt A W = 2 := by
        unfold chkWt
        rw [if_neg (by rw [h0]; simp), if_pos hl]
      rw [e]
      (refine ql_pure tabOk rfl rfl (q_nil (q_seq (q_region (ql_pure tabOk rfl rfl (ql_neqF tabOk rfl rfl rfl (by omega) (q_nil (q_cond_false rfl (q_skip (q_seq (q_seq (q_region ?_))))))))))); (iterate 4 refine ql_pure tabOk rfl rfl ?_); refine ql_neqT tabOk rfl rfl rfl (by omega) (q_nil (q_cond_true rfl (q_seq (q_region (ql_pure tabOk rfl rfl (q_nil (q_ret ?_))))))))
      refine q_fin tabOk rfl (by repeat constructor) fun w hs => ?_
      exact ⟨rfl, hs.chg0⟩
  · have e : chkWt A W = chkA A := by
      unfold chkWt
      rw [if_pos h0]
    rw [e]
    (refine ql_pure tabOk rfl rfl (q_nil (q_seq (q_region (ql_pure tabOk rfl rfl (ql_neqT tabOk rfl rfl rfl (by omega) (q_nil (q_cond_true rfl (q_seq (q_region (ql_pure tabOk rfl rfl (ql_pure tabOk rfl rfl ?_))))))))))); refine q_nil (q_ret ?_))
    refine q_fin tabOk rfl (by repeat constructor) fun w hs => ?_
    exact ⟨rfl, hs.chg0⟩
theorem amiss_ok (w : World) (lo hi lo2 hi2 : Nat) (v wv : Value) (A : List (List Int)) (V : List Nat) (h : RdII w lo hi v A) (hW : RdI w lo2 hi2 wv (nI V)) (hA : AimOk A) (hV : WOk A V) : Ca Tryz.prog 65 [v, wv] w fun x w' => x = .tuple #[.int .i64 (missV A V), .int .i64 0] ∧ Chg [] w w' := by
  have n8 := hA.n8
  refine q_of (Sat.nil w M0) Tryz.func65 rfl (by simp [Tryz.ntmps65]) ?_
  (refine q_seq (q_region (ql_pure tabOk rfl rfl (ql_pure tabOk rfl rfl (q_nil (q_seq (q_seq (q_region (ql_pure tabOk rfl rfl (ql_pure tabOk rfl rfl ?_))))))))))
  refine ql_callv (val := .int .i64 0) tabOk rfl rfl rfl rfl (fun w hs => ?_) ?_; exact by have := waited_ca w lo hi lo2 hi2 v wv A (nI V) (h.keep hs.chg0) (RdE.keep hW hs.chg0) (by simp only [maxLen]; omega); rw [chkWt_of hA hV] at this; exact this
  (refine ql_pure tabOk rfl rfl (q_nil (q_seq (q_region (ql_pure tabOk rfl rfl (ql_neqF tabOk rfl rfl rfl (by omega) (q_nil (q_cond_false rfl (q_skip (q_seq (q_region (ql_pure tabOk rfl rfl ?_))))))))))); refine ql_pure tabOk rfl rfl ?_)
  refine ql_callv (val := .int .i64 (missV A V)) tabOk rfl rfl rfl rfl (fun w hs => ?_) ?_; exact missed_ca w lo hi lo2 hi2 v wv A V (h.keep hs.chg0) (RdE.keep hW hs.chg0) hA hV
  (refine ql_pure tabOk rfl rfl (ql_pure tabOk rfl rfl (q_nil (q_ret ?_))))
  refine q_fin tabOk rfl (by repeat constructor) fun w hs => ?_
  exact ⟨rfl, hs.chg0⟩
/-- Whether a price holds, shot by shot. -/
def hoR (A : List (List Int)) (V : List Nat) (q : Int) (i k : Nat) : Bool := (List.range k).all fun v => decide (amA A i (wtO V i) + q * wtO V i ≤ amA A i v + q * v)
def hoB (A : List (List Int)) (V : List Nat) (q : Int) (k : Nat) : Bool := (List.range k).all fun i => hoR A V q i (amW A i)
theorem hoR_succ (A : List (List Int)) (V : List Nat) (q : Int) (i k : Nat) : hoR A V q i (k + 1) = (hoR A V q i k && decide (amA A i (wtO V i) + q * wtO V i ≤ amA A i k + q * k)) := by
  unfold hoR
  rw [List.range_succ, List.all_append]
  simp
theorem hoB_succ (A : List (List Int)) (V : List Nat) (q : Int) (k : Nat) : hoB A V q (k + 1) = (hoB A V q k && hoR A V q k (amW A k)) := by
  unfold hoB
  rw [List.range_succ, List.all_append]
  simp
theorem hoB_iff {A : List (List Int)} {V : List Nat} {q : Int} : hoB A V q A.length = true ↔ HoldsV A V q := by
  unfold hoB hoR HoldsV
  simp only [List.all_eq_true, List.mem_range, decide_eq_true_iff]
/-- What Holds answers of waits that are right. -/
def hoV (A : List (List Int)) (V : List Nat) (p : Int) : Bool := hoB A V (min p 1001) A.length && true
set_option maxHeartbeats 2000000 in
theorem aholds_ok (w : World) (lo hi lo2 hi2 : Nat) (v wv : Value) (A : List (List Int)) (V : List Nat) (p : Int) (h : RdII w lo hi v A) (hW : RdI w lo2 hi2 wv (nI V)) (hA : AimOk A) (hV : WOk A V) (hp : 0 ≤ p) : Ca Tryz.prog 66 [v, wv, .int .i64 p] w fun x w' => x = .tuple #[.bool (hoV A V p), .int .i64 0] ∧ Chg [] w w' := by
  have n1 := hA.n1
  have n8 := hA.n8
  have hl := hV.len
  obtain ⟨a, c, rfl, ha⟩ := RdII.outI h
  obtain ⟨gb, go, rfl⟩ := ha (by omega)
  obtain ⟨wa, wc, rfl, hwa⟩ := RdI.outI hW
  rw [nI_len, hl] at hwa hW ⊢
  obtain ⟨wb, wo, rfl⟩ := hwa (by omega)
  refine q_of (Sat.nil w M0) Tryz.func66 rfl (by simp [Tryz.ntmps66]) ?_
  (refine q_seq (q_region (ql_pure tabOk rfl rfl (ql_pure tabOk rfl rfl (q_nil (q_seq (q_region (ql_pure tabOk rfl rfl (ql_pure tabOk rfl rfl ?_)))))))))
  refine ql_callv (val := .int .i64 0) tabOk rfl rfl rfl rfl (fun w hs => ?_) ?_; exact by have := waited_ca w lo hi lo2 hi2 _ _ A (nI V) (h.keep hs.chg0) (RdE.keep hW hs.chg0) (by simp only [maxLen]; omega); rw [chkWt_of hA hV] at this; exact this
  have e0 : hoV A V p = hoB A V (min p 1001) A.length := by unfold hoV; rw [Bool.and_true]
  rw [e0]
  (refine ql_pure tabOk rfl rfl (q_nil (q_seq (q_block (q_seq (q_region (ql_pure tabOk rfl rfl (ql_neqF tabOk rfl rfl rfl (by omega) (ql_pure tabOk rfl rfl (q_nil (q_cond_false rfl (q_seq ?_))))))))))); refine q_region (ql_pure tabOk rfl rfl (ql_lssF tabOk rfl rfl rfl (by omega) (ql_pure tabOk rfl rfl (q_nil (q_cond_false rfl (q_skip (q_blk (q_seq (q_region ?_))))))))); (iterate 3 refine ql_pure tabOk rfl rfl ?_); refine q_nil (q_seq (q_seq (q_region ?_))); (iterate 3 refine ql_pure tabOk rfl rfl ?_); refine q_nil (q_block ?_))
  obtain ⟨q, hq⟩ : ∃ q, q = min p 1001 := ⟨_, rfl⟩
  rw [← hq]
  have hq2 : 0 ≤ q ∧ q ≤ 1001 := by omega
  clear hq e0
  refine q_loop (σ := Nat) (fun k => k ≤ A.length ∧ hoB A V q k = true) (fun k => A.length - k) (fun k => [(0, .slice (some ⟨gb, go, none⟩) A.length c), (2, .int .i64 q), (25, .slice (some ⟨wb, wo, none⟩) A.length wc), (26, .int .i64 A.length), (27, .int .i64 k)]) (fun _ => []) 0 ⟨by omega, rfl⟩ ⟨rfl, rfl, rfl, rfl, rfl, trivial⟩ (by repeat constructor) ?_
  rintro k ⟨hk, hok⟩ K hK
  (refine q_seq (q_region (ql_pure tabOk rfl rfl (q_nil (q_seq ?_)))))
  refine q_if rfl (fun hc => ?_) (fun hc => ?_)
  · have hk2 : k < A.length := by omega
    clear hc
    have hrow := hA.row k hk2
    have hx := hV.lt k hk2
    obtain ⟨rb, ro, rc, hr1, hr2⟩ := aim_row h hk2 (by omega)
    have hs1 := hoB_succ A V q k
    rw [hok, Bool.true_and] at hs1
    (refine q_skip (q_seq (q_block (q_seq (q_region (ql_pure tabOk rfl rfl ?_))))))
    refine ql_index tabOk rfl rfl rfl rfl rfl (by omega) (by omega) ?_
    refine ql_load1 (v := .int .i64 (wtO V k)) tabOk rfl rfl rfl (fun w hs => by
      have := RdI.at (RdE.keep hW hs.chg0) k (by rw [nI_len]; omega)
      rw [nI_get (by omega)] at this
      exact this) ?_
    (refine ql_pure tabOk rfl rfl (ql_pure tabOk rfl rfl (q_nil (q_seq (q_region (ql_pure tabOk rfl rfl (ql_pure tabOk rfl rfl ?_)))))))
    refine ql_index tabOk rfl rfl rfl rfl rfl (by omega) (by omega) ?_
    refine ql_load1 tabOk rfl rfl rfl (fun w hs => hr1 _ hs.chg0) ?_
    have m1 : 0 ≤ q * (wtO V k : Int) ∧ q * (wtO V k : Int) ≤ 30000 := ⟨Int.mul_nonneg hq2.1 (by omega), Int.le_trans (Int.mul_le_mul hq2.2 (show (wtO V k : Int) ≤ 21 by omega) (by omega) (by omega)) (by decide)⟩
    have b1 := hA.bd k _ hk2 hx
    (refine ql_pure tabOk rfl rfl (ql_pure tabOk rfl rfl (q_nil (q_block ?_))))
    refine q_loop (σ := Nat) (fun v => v ≤ amW A k ∧ hoR A V q k v = true) (fun v => amW A k - v) (fun v => [(0, .slice (some ⟨gb, go, none⟩) A.length c), (2, .int .i64 q), (25, .slice (some ⟨wb, wo, none⟩) A.length wc), (26, .int .i64 A.length), (27, .int .i64 k), (9, .int .i64 k), (10, .int .i64 (wtO V k)), (35, .slice (some ⟨rb, ro, none⟩) (amW A k) rc), (36, .int .i64 (amW A k)), (37, .int .i64 v)]) (fun _ => []) 0 ⟨by omega, rfl⟩ ⟨rfl, rfl, rfl, rfl, rfl, rfl, rfl, rfl, rfl, rfl, trivial⟩ (by repeat constructor) ?_
    rintro v ⟨hv, hov⟩ K2 hK2
    (refine q_seq (q_region (ql_pure tabOk rfl rfl (q_nil (q_seq ?_)))))
    refine q_if rfl (fun hc => ?_) (fun hc => ?_)
    · have hv2 : v < amW A k := by omega
      clear hc
      have hs2 := hoR_succ A V q k v
      rw [hov, Bool.true_and] at hs2
      have m2 : 0 ≤ q * (v : Int) ∧ q * (v : Int) ≤ 30000 := ⟨Int.mul_nonneg hq2.1 (by omega), Int.le_trans (Int.mul_le_mul hq2.2 (show (v : Int) ≤ 21 by omega) (by omega) (by omega)) (by decide)⟩
      have b2 := hA.bd k _ hk2 hv2
      (refine q_skip (q_seq (q_block (q_seq (q_region (ql_pure tabOk rfl rfl ?_))))))
      refine ql_index tabOk rfl rfl rfl rfl rfl (by omega) (by omega) ?_
      refine ql_load1 tabOk rfl rfl rfl (fun w hs => hr2 v hv2 _ hs.chg0) ?_
      by_cases hle : amA A k (wtO V k) + q * wtO V k ≤ amA A k v + q * v
      · (refine ql_pure tabOk rfl rfl (ql_pure tabOk rfl rfl (q_nil (q_seq (q_region ?_)))); (iterate 3 refine ql_pure tabOk rfl rfl ?_); refine ql_ar tabOk rfl rfl rfl rfl (by omega) (by omega) (ql_ar tabOk rfl rfl rfl rfl (by omega) (by omega) (ql_pure tabOk rfl rfl (ql_pure tabOk rfl rfl ?_))))
        refine ql_index tabOk rfl rfl rfl rfl rfl (by omega) (by omega) ?_
        refine ql_load1 tabOk rfl rfl rfl (fun w hs => hr1 _ hs.chg0) ?_
        (refine ql_pure tabOk rfl rfl ?_)
        refine ql_index tabOk rfl rfl rfl rfl rfl (by omega) (by omega) ?_
        refine ql_load1 tabOk rfl rfl rfl (fun w hs => hr2 _ hx _ hs.chg0) ?_
        (refine ql_pure tabOk rfl rfl (ql_pure tabOk rfl rfl (ql_ar tabOk rfl rfl rfl rfl (by omega) (by omega) (ql_ar tabOk rfl rfl rfl rfl (by omega) (by omega) (ql_lssF tabOk rfl rfl rfl (by omega) (q_nil (q_cond_false rfl (q_skip (q_blk (q_region (ql_ar tabOk rfl rfl rfl rfl (by omega) (by omega) (ql_pure tabOk rfl rfl ?_))))))))))); refine q_nil ?_)
        exact hK2 (v + 1) _ _ ⟨by omega, by rw [hs2, decide_eq_true hle]⟩ (by omega) ⟨rfl, rfl, rfl, rfl, rfl, rfl, rfl, rfl, rfl, rfl, trivial⟩ (by repeat constructor)
      · have hf : hoR A V q k (amW A k) = false := all_false (p := fun v => decide (amA A k (wtO V k) + q * wtO V k ≤ amA A k v + q * v)) (decide_eq_false hle) hv2
        have hf2 : hoB A V q A.length = false := all_false (p := fun i => hoR A V q i (amW A i)) hf hk2
        rw [hf2]
        (refine ql_pure tabOk rfl rfl (ql_pure tabOk rfl rfl (q_nil (q_seq (q_region ?_)))); (iterate 3 refine ql_pure tabOk rfl rfl ?_); refine ql_ar tabOk rfl rfl rfl rfl (by omega) (by omega) (ql_ar tabOk rfl rfl rfl rfl (by omega) (by omega) (ql_pure tabOk rfl rfl (ql_pure tabOk rfl rfl ?_))))
        refine ql_index tabOk rfl rfl rfl rfl rfl (by omega) (by omega) ?_
        refine ql_load1 tabOk rfl rfl rfl (fun w hs => hr1 _ hs.chg0) ?_
        (refine ql_pure tabOk rfl rfl ?_)
        refine ql_index tabOk rfl rfl rfl rfl rfl (by omega) (by omega) ?_
        refine ql_load1 tabOk rfl rfl rfl (fun w hs => hr2 _ hx _ hs.chg0) ?_
        (refine ql_pure tabOk rfl rfl (ql_pure tabOk rfl rfl (ql_ar tabOk rfl rfl rfl rfl (by omega) (by omega) (ql_ar tabOk rfl rfl rfl rfl (by omega) (by omega) (ql_lssT tabOk rfl rfl rfl (by omega) (q_nil (q_cond_true rfl (q_seq (q_region (ql_pure tabOk rfl rfl (ql_pure tabOk rfl rfl (q_nil ?_))))))))))); refine q_ret ?_)
        refine q_fin tabOk rfl (by repeat constructor) fun w hs => ?_
        exact ⟨rfl, hs.chg0⟩
    · obtain rfl : v = amW A k := by omega
      clear hc hK2
      (refine q_exit _ rfl (q_blk (q_region (ql_ar tabOk rfl rfl rfl rfl (by omega) (by omega) (ql_pure tabOk rfl rfl (q_nil ?_))))))
      exact hK (k + 1) _ _ ⟨by omega, by rw [hs1, hov]⟩ (by omega) ⟨rfl, rfl, rfl, rfl, rfl, trivial⟩ (by repeat constructor)
  · obtain rfl : k = A.length := by omega
    rw [hok]
    (refine q_exit _ rfl (q_seq (q_region (ql_pure tabOk rfl rfl (ql_pure tabOk rfl rfl (q_nil (q_ret ?_)))))))
    refine q_fin tabOk rfl (by repeat constructor) fun w hs => ?_
    exact ⟨rfl, hs.chg0⟩
end Go.Proofs.YtopdmadgkjdgcaaGreat

/- RifleCurved. Written by gen_LwE.py. -/
namespace Go.Proofs.YtopdmadgkjdgcaaGreat
set_option maxRecDepth 4000
open Go Go.Eng
theorem aim0 {w0 w : World} {R : List Ck} {b K most : Nat} {bs : Value} (hby : DkB w0 0 w0.heap.size bs) (hs : Sat w0 M0 (dkP bs b K :: R) w) (h1 : 1 ≤ most) (h2 : most ≤ 8) (hK : K < 100000) :
    Ca Tryz.prog 24 [.pointer (some ⟨b, 0, none⟩), .int .i64 most] w fun v w' => ∃ y : Value × List (Value × List Int), (v = y.1 ∧ (1 ≤ y.2.length ∧ y.2.length ≤ most) ∧ ∀ p ∈ y.2, RowA p.2) ∧ Sat w (fun x => x = b) [un (rowsO 3 y.2), .ow y.1 29 1 y.2.length (y.2.map (·.1)), dkP bs b (K + 100)] w' :=
  aim_made most h1 h2 K hK w b 0 w0.heap.size bs (hby.keep hs.chg0) (dk_new hs) (hs.all _ (.head _))
theorem cv_bd {A : List (List Int)} (h : AimOk A) (t : Nat) : 0 ≤ cvV A t ∧ cvV A t ≤ 8000 := by
  have h1 := miss_bd h (gr_all h t).ok
  have h2 := h.n8
  unfold cvV
  omega
theorem curveG (A : List (List Int)) (n i : Nat) (h : i < (curveL A n).length) : (curveL A n)[i] = cvV A i := by simp [curveL]
end Go.Proofs.YtopdmadgkjdgcaaGreat

/- RifleWaited. Written by gen_LwF.py. -/
namespace Go.Proofs.YtopdmadgkjdgcaaGreat
set_option maxRecDepth 4000
open Go Go.Eng
theorem most_1000 {A : List (List Int)} (h : AimOk A) {W : List Nat} (hW : WOk A W) : mostV A W ≤ 1000 := by
  have h1 := helpS_spec A W A.length
  by_cases h0 : 0 < (helpS A W A.length).1
  · obtain ⟨g1, g2, g3⟩ := h1.2.2 h0
    have h2 := h.bd _ _ g1 (hW.lt _ g1)
    have h3 := h.bd _ _ g1 g2
    unfold incV at g3
    unfold mostV
    omega
  · unfold mostV
    omega
theorem ho_best {A : List (List Int)} (h : AimOk A) (t : Nat) : hoV A (wtsV A t) (mostV A (wtsV A t)) = true := by
  unfold hoV
  have h1 := most_1000 h (gr_all h t).ok
  rw [Bool.and_true, show min (mostV A (wtsV A t)) 1001 = mostV A (wtsV A t) from by omega]
  exact hoB_iff.2 (gr_holds h t)
theorem ho_eq {A : List (List Int)} (h : AimOk A) {W : List Nat} (hW : WOk A W) {p : Int} (hp : 0 ≤ p) (hh : hoV A W p = true) {S : Nat} (hS : sumW W A.length = S) : missV A W = cvV A S := by
  unfold hoV at hh
  rw [Bool.and_true] at hh
  have h1 := hoB_iff.1 hh
  have g := gr_all h S
  have h2 := holds_best h1 (by omega) g.ok (by rw [hS]; exact g.sum.2)
  have h3 := cv_best h hW (t := S) (by omega)
  unfold cvV at h3 ⊢
  omega
theorem sum_step (W : List Nat) (k : Nat) : sumW W (k + 1) = sumW W k + wtO W k := rfl
theorem sum_snoc (W : List Nat) (x : Nat) : sumW (W ++ [x]) (W.length + 1) = sumW W W.length + x := by
  rw [sum_step]
  unfold sumW wtO
  rw [getD_app2 (Nat.le_refl _), Nat.sub_self, smF_congr (g := fun i => ((W.getD i 0 : Nat) : Int)) fun i hi => by rw [getD_app hi]]
  rfl
theorem rows_sl {w : World} {t : Nat} {Y : List (Value × List Int)} (hu : (un (rowsO t Y)).p w) : ∀ p ∈ Y, ∃ a c, p.1 = .slice a p.2.length c := fun p hp => by
  obtain ⟨a, c, e, _⟩ := RdI.outI (own_rdI (hu.1 (.ow p.1 t 1 p.2.length (ints p.2)) (List.mem_map.2 ⟨p, hp, rfl⟩)) rfl)
  exact ⟨a, c, e⟩
set_option maxHeartbeats 8000000 in
set_option maxRecDepth 20000 in
theorem rifleWaited_ca (w : World) (a : Option Addr) (nb cb : Nat) (at0 : Option Addr) (nt ct : Nat) (a2 : Int) (ha2 : 0 ≤ a2 ∧ a2 < 256) (hbyb1 : DkB w 0 w.heap.size (.slice a nb cb)) (hbyb2 : DkB w 0 w.heap.size (.slice at0 nt ct)) :
    Ca Tryz.prog 11 [.slice a nb cb, .slice at0 nt ct, .int .u8 a2] w fun r w' => r = .bool true ∧ Chg [] w w' := by
  refine q_of (Sat.nil w M0) Tryz.func11 rfl (by simp [Tryz.ntmps11]) ?_
  (refine q_seq (q_region (ql_pure tabOk rfl rfl (q_nil (q_seq (q_region (ql_pure tabOk rfl rfl ?_)))))))
  refine ql_call (β := Nat) tabOk [] _ M0 rfl rfl rfl rfl (Sp.refl _) (fun _ h => h.elim) (fun w' hs => of_ca w' a nb cb) ?_
  rintro b1 _ rfl
  dsimp only [List.cons_append, List.nil_append]
  refine ql_call (β := Value × List (Value × List Int)) (ψ := fun y v => v = y.1 ∧ (1 ≤ y.2.length ∧ y.2.length ≤ 8) ∧ ∀ p ∈ y.2, RowA p.2) (L' := fun y => [un (rowsO 3 y.2), .ow y.1 29 1 y.2.length (y.2.map (·.1)), dkP (.slice a nb cb) b1 (0 + 100)]) tabOk [dkP (.slice a nb cb) b1 0] _ (fun x => x = b1) rfl rfl rfl rfl (Sp.cons (by repeat constructor) (Sp.refl _)) (fun x hx => ⟨_, .head _, hx⟩) (fun w' hs => aim0 (most := 8) hbyb1 hs (by omega) (by omega) (by omega)) ?_
  rintro ⟨_, X⟩ va ⟨rfl, hXn, hXr⟩
  dsimp only [List.cons_append, List.nil_append] at hXn hXr ⊢
  refine ql_fact (fun w hs => rows_sl (hs.mem (c := un (rowsO 3 X)) (by repeat constructor))) fun hXs => ?_
  refine ql_fact (fun w hs => hs.ownSome (v := va) (by repeat constructor) (by omega)) ?_
  rintro ⟨v0, vc, rfl⟩
  obtain ⟨A, hA⟩ : ∃ A, A = X.map (fun p : Value × List Int => p.2) := ⟨_, rfl⟩
  have hAn : A.length = X.length := by rw [hA, List.length_map]
  have hAr : ∀ l ∈ A, RowA l := fun l hl => by rw [hA] at hl; obtain ⟨p, hp, rfl⟩ := List.mem_map.1 hl; exact hXr p hp
  have oA : AimOk A := aimOk_of (by omega) (by omega) hAr
  have hmA := many_le oA
  have hnA := many_nn oA
  have eA : (manyN A : Int) = manyV A + 1 := by unfold manyN; omega
  (refine ql_pure tabOk rfl rfl (q_nil (q_seq (q_region (ql_pure tabOk rfl rfl ?_)))))
  refine ql_call (β := Nat) tabOk [] _ M0 rfl rfl rfl rfl (Sp.refl _) (fun _ h => h.elim) (fun w' hs => of_ca w' at0 nt ct) ?_
  rintro b2 _ rfl
  dsimp only [List.cons_append, List.nil_append]
  have em : IntKind.i64.wrap a2 = a2 := w64 (by omega) (by omega)
  (refine ql_pure tabOk rfl rfl (q_nil (q_seq (q_region (ql_pure tabOk rfl rfl (ql_pure tabOk rfl rfl (ql_remN rfl rfl rfl (by omega) (by omega) (ql_pure tabOk rfl rfl (q_nil (q_seq (q_region (ql_pure tabOk rfl rfl ?_))))))))))); refine ql_pure tabOk rfl rfl ?_)
  obtain ⟨T, hT⟩ := Int.eq_ofNat_of_zero_le (show 0 ≤ IntKind.i64.wrap a2 % 40 by omega)
  rw [hT]
  have hT2 : T < 40 := by omega
  clear hT em
  have hg := gr_all oA T
  have hc0 := cv_bd oA T
  have hm0 := most_nn A (wtsV A T)
  have hsum := hg.sum
  skip
  refine ql_call (β := Nat) tabOk [] _ M0 rfl rfl rfl rfl (Sp.refl _) (fun _ h => h.elim) (fun w' hs => abest_ok w' 0 w'.heap.size _ A T (by rw [hA]; exact rowsO_rd (hs.mem (c := un (rowsO 3 X)) (by repeat constructor)) (hs.mem (c := .ow (.slice (some ⟨v0, 0, none⟩) X.length vc) 29 1 X.length (X.map (fun p : Value × List Int => p.1))) (by repeat constructor))) oA (by omega)) ?_
  rintro b3 _ rfl
  dsimp only [List.cons_append, List.nil_append]
  (refine ql_pure tabOk rfl rfl ?_; (iterate 3 refine ql_ext tabOk rfl rfl rfl ?_); (iterate 3 refine ql_pure tabOk rfl rfl ?_); refine q_nil (q_seq (q_region (ql_pure tabOk rfl rfl (ql_pure tabOk rfl rfl ?_)))))
  refine ql_callv (val := .tuple #[.int .i64 (cvV A T), .int .i64 0]) tabOk rfl rfl rfl rfl (fun w hs => ?_) ?_; exact amiss_ok w 0 w.heap.size _ _ _ _ A (wtsV A T) (by rw [hA]; exact rowsO_rd (hs.mem (c := un (rowsO 3 X)) (by repeat constructor)) (hs.mem (c := .ow (.slice (some ⟨v0, 0, none⟩) X.length vc) 29 1 X.length (X.map (fun p : Value × List Int => p.1))) (by repeat constructor))) (by have h9 := Blk.rdI (c := A.length) (hs.blk (b := b3) (cs := ints (nI (wtsV A T))) (by repeat constructor)); rw [nI_len, hg.ok.len] at h9; exact h9) oA hg.ok
  (refine ql_pure tabOk rfl rfl (ql_ext tabOk rfl rfl rfl (ql_ext tabOk rfl rfl rfl (ql_pure tabOk rfl rfl (ql_pure tabOk rfl rfl (q_nil (q_seq (q_region (ql_pure tabOk rfl rfl (ql_pure tabOk rfl rfl ?_))))))))))
  refine ql_callv (val := .tuple #[.int .i64 (mostV A (wtsV A T)), .int .i64 0]) tabOk rfl rfl rfl rfl (fun w hs => ?_) ?_; exact aprice_ok w 0 w.heap.size _ A T (by rw [hA]; exact rowsO_rd (hs.mem (c := un (rowsO 3 X)) (by repeat constructor)) (hs.mem (c := .ow (.slice (some ⟨v0, 0, none⟩) X.length vc) 29 1 X.length (X.map (fun p : Value × List Int => p.1))) (by repeat constructor))) oA (by omega)
  (refine ql_pure tabOk rfl rfl (ql_ext tabOk rfl rfl rfl (ql_ext tabOk rfl rfl rfl (ql_pure tabOk rfl rfl (ql_pure tabOk rfl rfl (q_nil (q_seq (q_region (ql_pure tabOk rfl rfl ?_)))))))))
  refine ql_call (β := Value) tabOk [] _ M0 rfl rfl rfl rfl (Sp.refl _) (fun _ h => h.elim) (fun w' hs => acurve_ok w' 0 w'.heap.size _ A (by rw [hA]; exact rowsO_rd (hs.mem (c := un (rowsO 3 X)) (by repeat constructor)) (hs.mem (c := .ow (.slice (some ⟨v0, 0, none⟩) X.length vc) 29 1 X.length (X.map (fun p : Value × List Int => p.1))) (by repeat constructor))) oA) ?_
  rintro vx _ rfl
  dsimp only [List.cons_append, List.nil_append]
  refine ql_fact (fun w hs => hs.ownSome (v := vx) (by repeat constructor) (by omega)) ?_
  rintro ⟨x1, x2, rfl⟩
  (refine ql_pure tabOk rfl rfl (ql_ext tabOk rfl rfl rfl (ql_ext tabOk rfl rfl rfl (ql_pure tabOk rfl rfl (ql_pure tabOk rfl rfl (q_nil (q_seq (q_seq (q_region (ql_pure tabOk rfl rfl (ql_neqF tabOk rfl rfl rfl (by omega) (ql_pure tabOk rfl rfl ?_))))))))))); refine ql_gyes rfl (ql_pure tabOk rfl rfl (ql_gyes rfl (ql_neqF tabOk rfl rfl rfl (by omega) (ql_pure tabOk rfl rfl (ql_pure tabOk rfl rfl (ql_gyes rfl (ql_pure tabOk rfl rfl (ql_gyes rfl (ql_neqF tabOk rfl rfl rfl (by omega) (ql_pure tabOk rfl rfl (ql_pure tabOk rfl rfl ?_))))))))))); refine ql_gyes rfl (ql_pure tabOk rfl rfl (ql_gyes rfl (ql_neqF tabOk rfl rfl rfl (by omega) (ql_pure tabOk rfl rfl (ql_pure tabOk rfl rfl (ql_gyes rfl (ql_pure tabOk rfl rfl (ql_gyes rfl (ql_pure tabOk rfl rfl (ql_gyes rfl (ql_neqF tabOk rfl rfl rfl (by omega) ?_))))))))))); refine ql_pure tabOk rfl rfl (ql_pure tabOk rfl rfl (ql_gyes rfl (ql_pure tabOk rfl rfl (ql_gyes rfl (ql_lssF tabOk rfl rfl rfl (by omega) (ql_pure tabOk rfl rfl (ql_pure tabOk rfl rfl (ql_gyes rfl (ql_pure tabOk rfl rfl (ql_gyes rfl (ql_pure tabOk rfl rfl ?_))))))))))); refine ql_gyes rfl (ql_eqlF tabOk rfl rfl rfl (by omega) (ql_pure tabOk rfl rfl (ql_pure tabOk rfl rfl (ql_gyes rfl (ql_pure tabOk rfl rfl (ql_gyes rfl (ql_pure tabOk rfl rfl (ql_gyes rfl (ql_pure tabOk rfl rfl (ql_gyes rfl (ql_pure tabOk rfl rfl ?_))))))))))); refine ql_gyes rfl (ql_pure tabOk rfl rfl (ql_gyes rfl (ql_ar tabOk rfl rfl rfl rfl (by omega) (by omega) (ql_gyes rfl (ql_pure tabOk rfl rfl (ql_gyes rfl ?_)))))))
  refine ql_index tabOk rfl rfl rfl rfl rfl (by omega) (by omega) ?_
  (refine ql_gyes rfl ?_)
  refine ql_load1 (v := .int .i64 (cvV A T)) tabOk rfl rfl rfl (fun w hs => by
    have := RdI.at (hs.rdI (v := (.slice (some ⟨x1, 0, none⟩) (manyN A) x2)) (l := curveL A (manyN A)) (t := 3) (n := manyN A) (by repeat constructor) (by rw [curveL_len])) (min T (manyN A - 1)) (by rw [curveL_len]; omega)
    rw [curveG] at this
    rw [show cvV A T = cvV A (min T (manyN A - 1)) from by
      by_cases c : T ≤ manyN A - 1
      · rw [Nat.min_eq_left c]
      · rw [Nat.min_eq_right (by omega), show manyN A - 1 = (manyV A).toNat from by omega]
        exact cv_many oA (by omega), show (min (T : Int) ((manyN A : Int) - 1)).toNat = min T (manyN A - 1) from by omega]
    exact this) ?_
  (refine ql_gyes rfl (ql_neqF tabOk rfl rfl rfl (by omega) (ql_pure tabOk rfl rfl (q_nil (q_cond_false rfl (q_skip (q_seq (q_region (ql_pure tabOk rfl rfl (q_nil (q_seq (q_seq ?_))))))))))); refine q_region ?_; (iterate 3 refine ql_pure tabOk rfl rfl ?_); refine q_nil (q_block ?_))
  refine q_loop (σ := Nat) (fun k => k ≤ A.length) (fun k => A.length - k) (fun k => [(7, (.slice (some ⟨v0, 0, none⟩) X.length vc)), (8, .pointer (some ⟨b2, 0, none⟩)), (9, .int .i64 (T : Nat)), (10, .slice (some ⟨b3, 0, none⟩) A.length A.length), (11, .int .i64 (cvV A T)), (15, .int .i64 (mostV A (wtsV A T))), (17, (.slice (some ⟨x1, 0, none⟩) (manyN A) x2)), (19, .int .i64 (sumW (wtsV A T) k)), (104, .slice (some ⟨b3, 0, none⟩) A.length A.length), (105, .int .i64 A.length), (106, .int .i64 k)]) (fun _ => [.ow (.slice (some ⟨x1, 0, none⟩) (manyN A) x2) 3 1 (manyN A) (ints (curveL A (manyN A))), .pt b3 (ints (nI (wtsV A T))) 3, un (rowsO 3 X), .ow (.slice (some ⟨v0, 0, none⟩) X.length vc) 29 1 X.length (X.map (fun p : Value × List Int => p.1)), dkP (.slice at0 nt ct) b2 0]) 0 (by omega) ⟨rfl, rfl, rfl, rfl, rfl, rfl, rfl, rfl, rfl, rfl, rfl, trivial⟩ (by repeat constructor) ?_
  rintro k hk K1 hK1
  have hsn := sum_nn (wtsV A T) k
  (refine q_seq (q_region (ql_pure tabOk rfl rfl (q_nil (q_seq ?_)))))
  refine q_if rfl (fun hc => ?_) (fun hc => ?_)
  · have hk2 : k < A.length := by omega
    clear hc
    have hlt := hg.ok.lt k hk2
    have hrw := oA.row k hk2
    have hsk : sumW (wtsV A T) k ≤ sumW (wtsV A T) A.length := by
      obtain ⟨d, hd⟩ : ∃ d, A.length = k + d := ⟨A.length - k, by omega⟩
      rw [hd]
      unfold sumW
      rw [smF_part]
      have := smF_nn (f := fun i => ((wtO (wtsV A T) (k + i) : Nat) : Int)) (n := d) fun i _ => by omega
      omega
    (refine q_skip (q_seq (q_block (q_seq (q_region ?_)))))
    refine ql_index tabOk rfl rfl rfl rfl rfl (by omega) (by omega) ?_
    skip
    refine ql_load1 (v := .int .i64 (wtO (wtsV A T) k : Nat)) tabOk rfl rfl rfl (fun w hs => by
      have := RdI.at (by have h9 := Blk.rdI (c := A.length) (hs.blk (b := b3) (cs := ints (nI (wtsV A T))) (by repeat constructor)); rw [nI_len, hg.ok.len] at h9; exact h9) k (by rw [nI_len, hg.ok.len]; exact hk2)
      rw [nI_get (by rw [hg.ok.len]; exact hk2)] at this
      exact this) ?_
    (refine ql_pure tabOk rfl rfl (q_nil (q_region (ql_pure tabOk rfl rfl (ql_pure tabOk rfl rfl (ql_ar tabOk rfl rfl rfl rfl (by omega) (by omega) (ql_pure tabOk rfl rfl (q_nil (q_blk (q_region (ql_ar tabOk rfl rfl rfl rfl (by omega) (by omega) (ql_pure tabOk rfl rfl ?_))))))))))); refine q_nil ?_)
    exact hK1 (k + 1) _ _ (by omega) (by omega) ⟨rfl, rfl, rfl, rfl, rfl, rfl, rfl, rfl, rfl, rfl, rfl, trivial⟩ (by repeat constructor)
  · obtain rfl : k = A.length := by omega
    clear hc hK1
    (refine q_exit _ rfl (q_seq (q_region ?_)); (iterate 3 refine ql_pure tabOk rfl rfl ?_))
    refine ql_callv (val := .tuple #[.bool true, .int .i64 0]) tabOk rfl rfl rfl rfl (fun w hs => ?_) ?_; exact by have := aholds_ok w 0 w.heap.size _ _ _ _ A (wtsV A T) (mostV A (wtsV A T)) (by rw [hA]; exact rowsO_rd (hs.mem (c := un (rowsO 3 X)) (by repeat constructor)) (hs.mem (c := .ow (.slice (some ⟨v0, 0, none⟩) X.length vc) 29 1 X.length (X.map (fun p : Value × List Int => p.1))) (by repeat constructor))) (by have h9 := Blk.rdI (c := A.length) (hs.blk (b := b3) (cs := ints (nI (wtsV A T))) (by repeat constructor)); rw [nI_len, hg.ok.len] at h9; exact h9) oA hg.ok hm0; rw [ho_best oA T] at this; exact this
    have hall := hg.all
    by_cases hlt : sumW (wtsV A T) A.length < T
    · have hz := hall hlt
      (refine ql_pure tabOk rfl rfl (ql_ext tabOk rfl rfl rfl (ql_ext tabOk rfl rfl rfl (ql_pure tabOk rfl rfl (ql_pure tabOk rfl rfl (q_nil (q_seq (q_seq (q_region (ql_pure tabOk rfl rfl (ql_neqF tabOk rfl rfl rfl (by omega) (ql_pure tabOk rfl rfl ?_))))))))))); refine ql_gyes rfl (ql_pure tabOk rfl rfl (ql_gyes rfl (ql_pure tabOk rfl rfl (ql_gyes rfl (ql_gtrF tabOk rfl rfl rfl (by omega) (ql_pure tabOk rfl rfl (ql_pure tabOk rfl rfl (ql_gyes rfl (ql_pure tabOk rfl rfl (ql_gyes rfl ?_)))))))))); (iterate 3 refine ql_pure tabOk rfl rfl ?_); refine ql_gyes rfl (ql_pure tabOk rfl rfl (ql_gyes rfl (ql_pure tabOk rfl rfl (ql_gyes rfl (ql_lssT tabOk rfl rfl rfl (by omega) (ql_gyes rfl (ql_pure tabOk rfl rfl (ql_gyes rfl (ql_pure tabOk rfl rfl (ql_gyes rfl (ql_gtrF tabOk rfl rfl rfl (by omega) ?_))))))))))); refine ql_gyes rfl (ql_pure tabOk rfl rfl (ql_pure tabOk rfl rfl (q_nil (q_cond_false rfl (q_skip (q_seq (q_seq (q_region (ql_pure tabOk rfl rfl (q_nil (q_block ?_))))))))))))
      refine q_loop (σ := Nat) (fun j => j ≤ 6) (fun j => 6 - j) (fun j => [(7, (.slice (some ⟨v0, 0, none⟩) X.length vc)), (8, .pointer (some ⟨b2, 0, none⟩)), (9, .int .i64 (T : Nat)), (11, .int .i64 (cvV A T)), (17, (.slice (some ⟨x1, 0, none⟩) (manyN A) x2)), (141, .int .i64 j)]) (fun j => [.ow (.slice (some ⟨x1, 0, none⟩) (manyN A) x2) 3 1 (manyN A) (ints (curveL A (manyN A))), un (rowsO 3 X), .ow (.slice (some ⟨v0, 0, none⟩) X.length vc) 29 1 X.length (X.map (fun p : Value × List Int => p.1)), dkP (.slice at0 nt ct) b2 (10 * j)]) 0 (by omega) ⟨rfl, rfl, rfl, rfl, rfl, rfl, trivial⟩ (by repeat constructor) ?_
      rintro j hj K1 hK1
      (refine q_seq (q_region (ql_pure tabOk rfl rfl (q_nil (q_seq ?_)))))
      refine q_if rfl (fun hc => ?_) (fun hc => ?_)
      · have hj2 : j < 6 := by omega
        clear hc
        (refine q_skip (q_seq (q_block (q_seq (q_region (ql_pure tabOk rfl rfl (q_nil (q_seq (q_region (ql_pure tabOk rfl rfl (q_nil (q_seq ?_))))))))))); refine q_seq (q_region ?_); (iterate 3 refine ql_pure tabOk rfl rfl ?_); refine q_nil (q_block ?_))
        refine q_conv (H' := [.ow (.slice none 0 0) 3 1 0 (ints (nI [])), .ow (.slice (some ⟨x1, 0, none⟩) (manyN A) x2) 3 1 (manyN A) (ints (curveL A (manyN A))), un (rowsO 3 X), .ow (.slice (some ⟨v0, 0, none⟩) X.length vc) 29 1 X.length (X.map (fun p : Value × List Int => p.1)), dkP (.slice at0 nt ct) b2 (10 * j + 0)]) (fun w' hs => (Sat.ownil hs 3 1).sp (by repeat constructor)) ?_
        refine q_loop (σ := Value × List Nat) (fun s => s.2.length ≤ A.length ∧ ∀ i, i < s.2.length → wtO s.2 i < amW A i) (fun s => A.length - s.2.length) (fun s => [(7, (.slice (some ⟨v0, 0, none⟩) X.length vc)), (8, .pointer (some ⟨b2, 0, none⟩)), (9, .int .i64 (T : Nat)), (11, .int .i64 (cvV A T)), (17, (.slice (some ⟨x1, 0, none⟩) (manyN A) x2)), (141, .int .i64 j), (23, s.1), (24, .int .i64 (sumW s.2 s.2.length)), (143, (.slice (some ⟨v0, 0, none⟩) X.length vc)), (144, .int .i64 X.length), (145, .int .i64 s.2.length)]) (fun s => [.ow s.1 3 1 s.2.length (ints (nI s.2)), .ow (.slice (some ⟨x1, 0, none⟩) (manyN A) x2) 3 1 (manyN A) (ints (curveL A (manyN A))), un (rowsO 3 X), .ow (.slice (some ⟨v0, 0, none⟩) X.length vc) 29 1 X.length (X.map (fun p : Value × List Int => p.1)), dkP (.slice at0 nt ct) b2 (10 * j + s.2.length)]) (.slice none 0 0, []) ⟨by simp, by simp⟩ ⟨rfl, rfl, rfl, rfl, rfl, rfl, rfl, rfl, rfl, rfl, rfl, trivial⟩ (by repeat constructor) ?_
        rintro ⟨u, W⟩ ⟨hWl, hW⟩ K2 hK2
        dsimp only at hWl hW ⊢
        have hsn := sum_nn W W.length
        have hsb : sumW W W.length ≤ 21 * W.length := by
          have h1 : ∀ n, n ≤ W.length → sumW W n ≤ 21 * n := fun n => by
            induction n with
            | zero => intro _; exact Int.le_refl _
            | succ n ih =>
              intro hn
              have := ih (by omega)
              have h2 := hW n (by omega)
              have h3 := oA.row n (by omega)
              rw [sum_step]
              omega
          exact h1 _ (Nat.le_refl _)
        (refine q_seq (q_region (ql_pure tabOk rfl rfl (q_nil (q_seq ?_)))))
        refine q_if rfl (fun hc => ?_) (fun hc => ?_)
        · have hi : W.length < X.length := by omega
          clear hc
          obtain ⟨i, hin⟩ : ∃ i, i = W.length := ⟨_, rfl⟩
          rw [← hin] at hi hsn hsb ⊢
          obtain ⟨ra, rc, er⟩ := hXs _ (List.getElem_mem hi)
          have ea : X[i].2.length = amW A i := by unfold amW; rw [getA (by omega)]; simp [hA]
          have hrw := oA.row i (by omega)
          (refine q_skip (q_seq (q_block (q_seq (q_region ?_)))))
          refine ql_index tabOk rfl rfl rfl rfl rfl (by omega) (by omega) ?_
          skip
          refine ql_load1 (v := .slice ra (amW A i) rc) tabOk rfl rfl rfl (fun w hs => by
            have := own_cell (hs.mem (c := .ow (.slice (some ⟨v0, 0, none⟩) X.length vc) 29 1 X.length (X.map (fun p : Value × List Int => p.1))) (by repeat constructor)) i (by rw [List.length_map]; exact hi)
            rw [List.getElem_map, er, ea] at this
            rw [show (0 + (i : Int).toNat * 1) = i from by omega]
            exact this) ?_
          (refine ql_pure tabOk rfl rfl (q_nil (q_seq (q_region ?_))); (iterate 3 refine ql_pure tabOk rfl rfl ?_))
          refine ql_call (β := Int) (ψ := fun zq v => v = .int .i64 zq ∧ 0 ≤ zq ∧ zq ≤ (amW A i : Int) - 1) (L' := fun _ => [dkP (.slice at0 nt ct) b2 (10 * j + i + 1)]) tabOk [dkP (.slice at0 nt ct) b2 (10 * j + i)] _ (fun x => x = b2) rfl rfl rfl rfl (Sp.cons (by repeat constructor) (Sp.refl _)) (fun x hx => ⟨_, .head _, hx⟩) (fun w' hs => drw0 hbyb2 hs (by omega) (by omega)) ?_; rintro z _ ⟨rfl, hz⟩
          obtain ⟨z, rfl⟩ := Int.eq_ofNat_of_zero_le hz.1
          (refine ql_pure tabOk rfl rfl (q_nil (q_region (ql_pure tabOk rfl rfl (ql_pure tabOk rfl rfl ?_)))))
          refine ql_mkS 3 [.int .i64 (z : Nat)] rfl (by kernel_rfl) rfl (fun bn => ?_)
          skip
          refine ql_append (q := 1) (news := [.int .i64 (z : Nat)]) slI rfl rfl rfl (fun v' => by repeat constructor) (fun w' hs => ⟨_, _, Blk.rdN (hs.blk (b := bn) (by repeat constructor)) rfl⟩) (by simp [oneV]) (by omega) (by omega) (fun u' => ?_)
          (refine ql_pure tabOk rfl rfl (ql_pure tabOk rfl rfl (ql_ar tabOk rfl rfl rfl rfl (by omega) (by omega) (ql_pure tabOk rfl rfl (ql_pure tabOk rfl rfl (q_nil (q_blk (q_region (ql_ar tabOk rfl rfl rfl rfl (by omega) (by omega) (ql_pure tabOk rfl rfl (q_nil ?_)))))))))))
          have e1 := nI_snoc W z
          have el : (W ++ [z]).length = i + 1 := by simp [hin]
          exact hK2 (u', W ++ [z]) _ _ ⟨by simp only [el]; omega, fun m hm => by
            simp only [el] at hm
            unfold wtO
            by_cases c : m < W.length
            · rw [getD_app c]; exact hW m c
            · obtain rfl : m = W.length := by omega
              rw [getD_app2 (Nat.le_refl _), Nat.sub_self, ← hin]
              show z < amW A i
              omega⟩ (by simp only [el]; omega) ⟨rfl, rfl, rfl, rfl, rfl, rfl, rfl, lookI rfl (by simp only [el]; rw [hin, sum_snoc]), rfl, rfl, lookI rfl (by simp only [el]; omega), trivial⟩ (by simp only [el, e1]; rw [show 10 * j + (i + 1) = 10 * j + i + 1 from by omega]; repeat constructor)
        · have hWA : W.length = A.length := by omega
          clear hc hK2
          rw [hWA] at hW hsn hsb ⊢
          have hok : WOk A W := ⟨hWA, hW⟩
          obtain ⟨S, hS⟩ := Int.eq_ofNat_of_zero_le hsn
          rw [hS]
          have hsm := sum_many hok
          rw [hS] at hsm
          have hmb := miss_bd oA hok
          have hcs := cv_bd oA S
          have hb1 := cv_best oA hok (t := S) (by omega)
          (refine q_exit _ rfl (q_seq (q_region (ql_pure tabOk rfl rfl (ql_pure tabOk rfl rfl ?_)))))
          refine ql_callv (val := .tuple #[.int .i64 (missV A W), .int .i64 0]) tabOk rfl rfl rfl rfl (fun w hs => ?_) ?_; exact amiss_ok w 0 w.heap.size _ _ _ _ A W (by rw [hA]; exact rowsO_rd (hs.mem (c := un (rowsO 3 X)) (by repeat constructor)) (hs.mem (c := .ow (.slice (some ⟨v0, 0, none⟩) X.length vc) 29 1 X.length (X.map (fun p : Value × List Int => p.1))) (by repeat constructor))) (hs.rdI (v := u) (l := nI W) (t := 3) (n := A.length) (by repeat constructor) (by rw [nI_len, hWA])) oA hok
          (refine ql_pure tabOk rfl rfl (ql_ext tabOk rfl rfl rfl (ql_ext tabOk rfl rfl rfl (ql_pure tabOk rfl rfl (ql_pure tabOk rfl rfl (q_nil (q_seq (q_region ?_))))))); (iterate 3 refine ql_pure tabOk rfl rfl ?_))
          refine ql_call (β := Int) (ψ := fun zq v => v = .int .i64 zq ∧ 0 ≤ zq ∧ zq ≤ 100 - 1) (L' := fun _ => [dkP (.slice at0 nt ct) b2 (10 * j + A.length + 1)]) tabOk [dkP (.slice at0 nt ct) b2 (10 * j + A.length)] _ (fun x => x = b2) rfl rfl rfl rfl (Sp.cons (by repeat constructor) (Sp.refl _)) (fun x hx => ⟨_, .head _, hx⟩) (fun w' hs => drw0 hbyb2 hs (by omega) (by omega)) ?_; rintro p _ ⟨rfl, hp⟩
          skip
          refine ql_callv (val := .tuple #[.bool (hoV A W p), .int .i64 0]) tabOk rfl rfl rfl rfl (fun w hs => ?_) ?_; exact aholds_ok w 0 w.heap.size _ _ _ _ A W p (by rw [hA]; exact rowsO_rd (hs.mem (c := un (rowsO 3 X)) (by repeat constructor)) (hs.mem (c := .ow (.slice (some ⟨v0, 0, none⟩) X.length vc) 29 1 X.length (X.map (fun p : Value × List Int => p.1))) (by repeat constructor))) (hs.rdI (v := u) (l := nI W) (t := 3) (n := A.length) (by repeat constructor) (by rw [nI_len, hWA])) oA hok hp.1
          by_cases hST : S ≤ T
          · have hb2 := cv_best oA hok (t := T) (by omega)
            cases hh : hoV A W p with
            | true =>
              have he := ho_eq oA hok hp.1 hh hS
              (refine ql_pure tabOk rfl rfl (ql_ext tabOk rfl rfl rfl (ql_ext tabOk rfl rfl rfl (ql_pure tabOk rfl rfl (ql_pure tabOk rfl rfl (q_nil (q_seq (q_region (ql_pure tabOk rfl rfl (ql_neqF tabOk rfl rfl rfl (by omega) (ql_pure tabOk rfl rfl (ql_gyes rfl ?_))))))))))); refine ql_pure tabOk rfl rfl (ql_gyes rfl (ql_neqF tabOk rfl rfl rfl (by omega) (ql_pure tabOk rfl rfl (ql_pure tabOk rfl rfl (ql_gyes rfl (ql_pure tabOk rfl rfl (ql_gyes rfl (ql_pure tabOk rfl rfl (ql_gyes rfl (ql_pure tabOk rfl rfl (ql_gyes rfl ?_))))))))))); refine ql_geqF tabOk rfl rfl rfl (by omega) (ql_pure tabOk rfl rfl (ql_pure tabOk rfl rfl (ql_gyes rfl (ql_pure tabOk rfl rfl (ql_gyes rfl (ql_pure tabOk rfl rfl (ql_gyes rfl (ql_pure tabOk rfl rfl (ql_gyes rfl ?_))))))))))
              refine ql_index tabOk rfl rfl rfl rfl rfl (by omega) (by omega) ?_
              (refine ql_gyes rfl ?_)
              refine ql_load1 (v := .int .i64 (cvV A S)) tabOk rfl rfl rfl (fun w hs => by have := RdI.at (hs.rdI (v := (.slice (some ⟨x1, 0, none⟩) (manyN A) x2)) (l := curveL A (manyN A)) (t := 3) (n := manyN A) (by repeat constructor) (by rw [curveL_len])) S (by rw [curveL_len]; omega); rw [curveG] at this; exact this) ?_
              (refine ql_gyes rfl (ql_lssF tabOk rfl rfl rfl (by omega) (ql_pure tabOk rfl rfl (ql_pure tabOk rfl rfl (ql_gyes rfl (ql_pure tabOk rfl rfl (ql_gyes rfl (ql_pure tabOk rfl rfl (ql_gyes rfl (ql_leqT tabOk rfl rfl rfl (by omega) (ql_gyes rfl (ql_pure tabOk rfl rfl ?_))))))))))); refine ql_gyes rfl (ql_pure tabOk rfl rfl (ql_gyes rfl (ql_pure tabOk rfl rfl (ql_gyes rfl (ql_lssF tabOk rfl rfl rfl (by omega) (ql_gyes rfl ?_)))))); (iterate 3 refine ql_pure tabOk rfl rfl ?_); refine ql_gyes rfl (ql_pure tabOk rfl rfl (ql_gyes rfl (ql_pure tabOk rfl rfl (ql_gyes rfl (ql_pure tabOk rfl rfl (ql_gyes rfl (ql_pure tabOk rfl rfl (ql_gyes rfl (ql_pure tabOk rfl rfl (ql_gyes rfl ?_)))))))))))
              refine ql_index tabOk rfl rfl rfl rfl rfl (by omega) (by omega) ?_
              (refine ql_gyes rfl ?_)
              refine ql_load1 (v := .int .i64 (cvV A S)) tabOk rfl rfl rfl (fun w hs => by have := RdI.at (hs.rdI (v := (.slice (some ⟨x1, 0, none⟩) (manyN A) x2)) (l := curveL A (manyN A)) (t := 3) (n := manyN A) (by repeat constructor) (by rw [curveL_len])) S (by rw [curveL_len]; omega); rw [curveG] at this; exact this) ?_
              (refine ql_gyes rfl (ql_neqF tabOk rfl rfl rfl (by omega) (ql_gyes rfl (ql_pure tabOk rfl rfl (ql_pure tabOk rfl rfl (q_nil (q_cond_false rfl (q_skip (q_blk (q_region (ql_ar tabOk rfl rfl rfl rfl (by omega) (by omega) (ql_pure tabOk rfl rfl ?_))))))))))); refine q_nil ?_)
              refine q_conv (H' := [.ow (.slice (some ⟨x1, 0, none⟩) (manyN A) x2) 3 1 (manyN A) (ints (curveL A (manyN A))), un (rowsO 3 X), .ow (.slice (some ⟨v0, 0, none⟩) X.length vc) 29 1 X.length (X.map (fun p : Value × List Int => p.1)), dkP (.slice at0 nt ct) b2 (10 * (j + 1))]) (fun w' hs => (Sat.dk (K' := 10 * (j + 1)) (hs.sp (H' := [dkP (.slice at0 nt ct) b2 (10 * j + A.length + 1), .ow (.slice (some ⟨x1, 0, none⟩) (manyN A) x2) 3 1 (manyN A) (ints (curveL A (manyN A))), un (rowsO 3 X), .ow (.slice (some ⟨v0, 0, none⟩) X.length vc) 29 1 X.length (X.map (fun p : Value × List Int => p.1))]) (by repeat constructor)) (by omega)).sp (by repeat constructor)) ?_
              exact hK1 (j + 1) _ _ (by omega) (by omega) ⟨rfl, rfl, rfl, rfl, rfl, rfl, trivial⟩ (by repeat constructor)
            | false =>
              (refine ql_pure tabOk rfl rfl (ql_ext tabOk rfl rfl rfl (ql_ext tabOk rfl rfl rfl (ql_pure tabOk rfl rfl (ql_pure tabOk rfl rfl (q_nil (q_seq (q_region (ql_pure tabOk rfl rfl (ql_neqF tabOk rfl rfl rfl (by omega) (ql_pure tabOk rfl rfl (ql_gyes rfl ?_))))))))))); refine ql_pure tabOk rfl rfl (ql_gyes rfl (ql_neqF tabOk rfl rfl rfl (by omega) (ql_pure tabOk rfl rfl (ql_pure tabOk rfl rfl (ql_gyes rfl (ql_pure tabOk rfl rfl (ql_gyes rfl (ql_pure tabOk rfl rfl (ql_gyes rfl (ql_pure tabOk rfl rfl (ql_gyes rfl ?_))))))))))); refine ql_geqF tabOk rfl rfl rfl (by omega) (ql_pure tabOk rfl rfl (ql_pure tabOk rfl rfl (ql_gyes rfl (ql_pure tabOk rfl rfl (ql_gyes rfl (ql_pure tabOk rfl rfl (ql_gyes rfl (ql_pure tabOk rfl rfl (ql_gyes rfl ?_))))))))))
              refine ql_index tabOk rfl rfl rfl rfl rfl (by omega) (by omega) ?_
              (refine ql_gyes rfl ?_)
              refine ql_load1 (v := .int .i64 (cvV A S)) tabOk rfl rfl rfl (fun w hs => by have := RdI.at (hs.rdI (v := (.slice (some ⟨x1, 0, none⟩) (manyN A) x2)) (l := curveL A (manyN A)) (t := 3) (n := manyN A) (by repeat constructor) (by rw [curveL_len])) S (by rw [curveL_len]; omega); rw [curveG] at this; exact this) ?_
              (refine ql_gyes rfl (ql_lssF tabOk rfl rfl rfl (by omega) (ql_pure tabOk rfl rfl (ql_pure tabOk rfl rfl (ql_gyes rfl (ql_pure tabOk rfl rfl (ql_gyes rfl (ql_pure tabOk rfl rfl (ql_gyes rfl (ql_leqT tabOk rfl rfl rfl (by omega) (ql_gyes rfl (ql_pure tabOk rfl rfl ?_))))))))))); refine ql_gyes rfl (ql_pure tabOk rfl rfl (ql_gyes rfl (ql_pure tabOk rfl rfl (ql_gyes rfl (ql_lssF tabOk rfl rfl rfl (by omega) (ql_gyes rfl ?_)))))); (iterate 3 refine ql_pure tabOk rfl rfl ?_); refine ql_gyes rfl (ql_pure tabOk rfl rfl (ql_gyes rfl (ql_pure tabOk rfl rfl ?_))); (iterate 6 refine ql_gno rfl rfl rfl ?_); refine ql_gyes rfl (ql_pure tabOk rfl rfl (ql_pure tabOk rfl rfl (q_nil (q_cond_false rfl (q_skip (q_blk (q_region (ql_ar tabOk rfl rfl rfl rfl (by omega) (by omega) (ql_pure tabOk rfl rfl (q_nil ?_)))))))))))
              refine q_conv (H' := [.ow (.slice (some ⟨x1, 0, none⟩) (manyN A) x2) 3 1 (manyN A) (ints (curveL A (manyN A))), un (rowsO 3 X), .ow (.slice (some ⟨v0, 0, none⟩) X.length vc) 29 1 X.length (X.map (fun p : Value × List Int => p.1)), dkP (.slice at0 nt ct) b2 (10 * (j + 1))]) (fun w' hs => (Sat.dk (K' := 10 * (j + 1)) (hs.sp (H' := [dkP (.slice at0 nt ct) b2 (10 * j + A.length + 1), .ow (.slice (some ⟨x1, 0, none⟩) (manyN A) x2) 3 1 (manyN A) (ints (curveL A (manyN A))), un (rowsO 3 X), .ow (.slice (some ⟨v0, 0, none⟩) X.length vc) 29 1 X.length (X.map (fun p : Value × List Int => p.1))]) (by repeat constructor)) (by omega)).sp (by repeat constructor)) ?_
              exact hK1 (j + 1) _ _ (by omega) (by omega) ⟨rfl, rfl, rfl, rfl, rfl, rfl, trivial⟩ (by repeat constructor)
          · cases hh : hoV A W p with
            | true =>
              have he := ho_eq oA hok hp.1 hh hS
              (refine ql_pure tabOk rfl rfl (ql_ext tabOk rfl rfl rfl (ql_ext tabOk rfl rfl rfl (ql_pure tabOk rfl rfl (ql_pure tabOk rfl rfl (q_nil (q_seq (q_region (ql_pure tabOk rfl rfl (ql_neqF tabOk rfl rfl rfl (by omega) (ql_pure tabOk rfl rfl (ql_gyes rfl ?_))))))))))); refine ql_pure tabOk rfl rfl (ql_gyes rfl (ql_neqF tabOk rfl rfl rfl (by omega) (ql_pure tabOk rfl rfl (ql_pure tabOk rfl rfl (ql_gyes rfl (ql_pure tabOk rfl rfl (ql_gyes rfl (ql_pure tabOk rfl rfl (ql_gyes rfl (ql_pure tabOk rfl rfl (ql_gyes rfl ?_))))))))))); refine ql_geqF tabOk rfl rfl rfl (by omega) (ql_pure tabOk rfl rfl (ql_pure tabOk rfl rfl (ql_gyes rfl (ql_pure tabOk rfl rfl (ql_gyes rfl (ql_pure tabOk rfl rfl (ql_gyes rfl (ql_pure tabOk rfl rfl (ql_gyes rfl ?_))))))))))
              refine ql_index tabOk rfl rfl rfl rfl rfl (by omega) (by omega) ?_
              (refine ql_gyes rfl ?_)
              refine ql_load1 (v := .int .i64 (cvV A S)) tabOk rfl rfl rfl (fun w hs => by have := RdI.at (hs.rdI (v := (.slice (some ⟨x1, 0, none⟩) (manyN A) x2)) (l := curveL A (manyN A)) (t := 3) (n := manyN A) (by repeat constructor) (by rw [curveL_len])) S (by rw [curveL_len]; omega); rw [curveG] at this; exact this) ?_
              (refine ql_gyes rfl (ql_lssF tabOk rfl rfl rfl (by omega) (ql_pure tabOk rfl rfl (ql_pure tabOk rfl rfl (ql_gyes rfl (ql_pure tabOk rfl rfl (ql_gyes rfl (ql_pure tabOk rfl rfl (ql_gyes rfl (ql_leqF tabOk rfl rfl rfl (by omega) (ql_gyes rfl (ql_pure tabOk rfl rfl ?_))))))))))); (iterate 3 refine ql_gno rfl rfl rfl ?_); refine ql_gyes rfl ?_; (iterate 3 refine ql_pure tabOk rfl rfl ?_); refine ql_gyes rfl (ql_pure tabOk rfl rfl (ql_gyes rfl (ql_pure tabOk rfl rfl (ql_gyes rfl (ql_pure tabOk rfl rfl (ql_gyes rfl (ql_pure tabOk rfl rfl (ql_gyes rfl (ql_pure tabOk rfl rfl (ql_gyes rfl ?_)))))))))))
              refine ql_index tabOk rfl rfl rfl rfl rfl (by omega) (by omega) ?_
              (refine ql_gyes rfl ?_)
              refine ql_load1 (v := .int .i64 (cvV A S)) tabOk rfl rfl rfl (fun w hs => by have := RdI.at (hs.rdI (v := (.slice (some ⟨x1, 0, none⟩) (manyN A) x2)) (l := curveL A (manyN A)) (t := 3) (n := manyN A) (by repeat constructor) (by rw [curveL_len])) S (by rw [curveL_len]; omega); rw [curveG] at this; exact this) ?_
              (refine ql_gyes rfl (ql_neqF tabOk rfl rfl rfl (by omega) (ql_gyes rfl (ql_pure tabOk rfl rfl (ql_pure tabOk rfl rfl (q_nil (q_cond_false rfl (q_skip (q_blk (q_region (ql_ar tabOk rfl rfl rfl rfl (by omega) (by omega) (ql_pure tabOk rfl rfl ?_))))))))))); refine q_nil ?_)
              refine q_conv (H' := [.ow (.slice (some ⟨x1, 0, none⟩) (manyN A) x2) 3 1 (manyN A) (ints (curveL A (manyN A))), un (rowsO 3 X), .ow (.slice (some ⟨v0, 0, none⟩) X.length vc) 29 1 X.length (X.map (fun p : Value × List Int => p.1)), dkP (.slice at0 nt ct) b2 (10 * (j + 1))]) (fun w' hs => (Sat.dk (K' := 10 * (j + 1)) (hs.sp (H' := [dkP (.slice at0 nt ct) b2 (10 * j + A.length + 1), .ow (.slice (some ⟨x1, 0, none⟩) (manyN A) x2) 3 1 (manyN A) (ints (curveL A (manyN A))), un (rowsO 3 X), .ow (.slice (some ⟨v0, 0, none⟩) X.length vc) 29 1 X.length (X.map (fun p : Value × List Int => p.1))]) (by repeat constructor)) (by omega)).sp (by repeat constructor)) ?_
              exact hK1 (j + 1) _ _ (by omega) (by omega) ⟨rfl, rfl, rfl, rfl, rfl, rfl, trivial⟩ (by repeat constructor)
            | false =>
              (refine ql_pure tabOk rfl rfl (ql_ext tabOk rfl rfl rfl (ql_ext tabOk rfl rfl rfl (ql_pure tabOk rfl rfl (ql_pure tabOk rfl rfl (q_nil (q_seq (q_region (ql_pure tabOk rfl rfl (ql_neqF tabOk rfl rfl rfl (by omega) (ql_pure tabOk rfl rfl (ql_gyes rfl ?_))))))))))); refine ql_pure tabOk rfl rfl (ql_gyes rfl (ql_neqF tabOk rfl rfl rfl (by omega) (ql_pure tabOk rfl rfl (ql_pure tabOk rfl rfl (ql_gyes rfl (ql_pure tabOk rfl rfl (ql_gyes rfl (ql_pure tabOk rfl rfl (ql_gyes rfl (ql_pure tabOk rfl rfl (ql_gyes rfl ?_))))))))))); refine ql_geqF tabOk rfl rfl rfl (by omega) (ql_pure tabOk rfl rfl (ql_pure tabOk rfl rfl (ql_gyes rfl (ql_pure tabOk rfl rfl (ql_gyes rfl (ql_pure tabOk rfl rfl (ql_gyes rfl (ql_pure tabOk rfl rfl (ql_gyes rfl ?_))))))))))
              refine ql_index tabOk rfl rfl rfl rfl rfl (by omega) (by omega) ?_
              (refine ql_gyes rfl ?_)
              refine ql_load1 (v := .int .i64 (cvV A S)) tabOk rfl rfl rfl (fun w hs => by have := RdI.at (hs.rdI (v := (.slice (some ⟨x1, 0, none⟩) (manyN A) x2)) (l := curveL A (manyN A)) (t := 3) (n := manyN A) (by repeat constructor) (by rw [curveL_len])) S (by rw [curveL_len]; omega); rw [curveG] at this; exact this) ?_
              (refine ql_gyes rfl (ql_lssF tabOk rfl rfl rfl (by omega) (ql_pure tabOk rfl rfl (ql_pure tabOk rfl rfl (ql_gyes rfl (ql_pure tabOk rfl rfl (ql_gyes rfl (ql_pure tabOk rfl rfl (ql_gyes rfl (ql_leqF tabOk rfl rfl rfl (by omega) (ql_gyes rfl (ql_pure tabOk rfl rfl ?_))))))))))); (iterate 3 refine ql_gno rfl rfl rfl ?_); refine ql_gyes rfl ?_; (iterate 3 refine ql_pure tabOk rfl rfl ?_); refine ql_gyes rfl (ql_pure tabOk rfl rfl (ql_gyes rfl (ql_pure tabOk rfl rfl ?_))); (iterate 6 refine ql_gno rfl rfl rfl ?_); refine ql_gyes rfl (ql_pure tabOk rfl rfl (ql_pure tabOk rfl rfl (q_nil (q_cond_false rfl (q_skip (q_blk (q_region (ql_ar tabOk rfl rfl rfl rfl (by omega) (by omega) (ql_pure tabOk rfl rfl (q_nil ?_)))))))))))
              refine q_conv (H' := [.ow (.slice (some ⟨x1, 0, none⟩) (manyN A) x2) 3 1 (manyN A) (ints (curveL A (manyN A))), un (rowsO 3 X), .ow (.slice (some ⟨v0, 0, none⟩) X.length vc) 29 1 X.length (X.map (fun p : Value × List Int => p.1)), dkP (.slice at0 nt ct) b2 (10 * (j + 1))]) (fun w' hs => (Sat.dk (K' := 10 * (j + 1)) (hs.sp (H' := [dkP (.slice at0 nt ct) b2 (10 * j + A.length + 1), .ow (.slice (some ⟨x1, 0, none⟩) (manyN A) x2) 3 1 (manyN A) (ints (curveL A (manyN A))), un (rowsO 3 X), .ow (.slice (some ⟨v0, 0, none⟩) X.length vc) 29 1 X.length (X.map (fun p : Value × List Int => p.1))]) (by repeat constructor)) (by omega)).sp (by repeat constructor)) ?_
              exact hK1 (j + 1) _ _ (by omega) (by omega) ⟨rfl, rfl, rfl, rfl, rfl, rfl, trivial⟩ (by repeat constructor)
      · obtain rfl : j = 6 := by omega
        (refine q_exit _ rfl (q_seq (q_region ?_)))
        refine ql_callv (val := .bool true) tabOk rfl rfl rfl rfl (fun w hs => ?_) ?_; exact rawake_ca w
        (refine ql_pure tabOk rfl rfl (q_nil (q_ret ?_)))
        refine q_fin tabOk rfl (by repeat constructor) fun w hs => ?_
        exact ⟨rfl, hs.chg0⟩
    · (refine ql_pure tabOk rfl rfl (ql_ext tabOk rfl rfl rfl (ql_ext tabOk rfl rfl rfl (ql_pure tabOk rfl rfl (ql_pure tabOk rfl rfl (q_nil (q_seq (q_seq (q_region (ql_pure tabOk rfl rfl (ql_neqF tabOk rfl rfl rfl (by omega) (ql_pure tabOk rfl rfl ?_))))))))))); refine ql_gyes rfl (ql_pure tabOk rfl rfl (ql_gyes rfl (ql_pure tabOk rfl rfl (ql_gyes rfl (ql_gtrF tabOk rfl rfl rfl (by omega) (ql_pure tabOk rfl rfl (ql_pure tabOk rfl rfl (ql_gyes rfl (ql_pure tabOk rfl rfl (ql_gyes rfl ?_)))))))))); (iterate 3 refine ql_pure tabOk rfl rfl ?_); refine ql_gyes rfl (ql_pure tabOk rfl rfl (ql_gyes rfl (ql_pure tabOk rfl rfl (ql_gyes rfl (ql_lssF tabOk rfl rfl rfl (by omega) (ql_gyes rfl (ql_pure tabOk rfl rfl (ql_gno rfl rfl rfl (ql_gno rfl rfl rfl (ql_gyes rfl (ql_pure tabOk rfl rfl ?_))))))))))); refine ql_pure tabOk rfl rfl (q_nil (q_cond_false rfl (q_skip (q_seq (q_seq (q_region (ql_pure tabOk rfl rfl (q_nil (q_block ?_))))))))))
      refine q_loop (σ := Nat) (fun j => j ≤ 6) (fun j => 6 - j) (fun j => [(7, (.slice (some ⟨v0, 0, none⟩) X.length vc)), (8, .pointer (some ⟨b2, 0, none⟩)), (9, .int .i64 (T : Nat)), (11, .int .i64 (cvV A T)), (17, (.slice (some ⟨x1, 0, none⟩) (manyN A) x2)), (141, .int .i64 j)]) (fun j => [.ow (.slice (some ⟨x1, 0, none⟩) (manyN A) x2) 3 1 (manyN A) (ints (curveL A (manyN A))), un (rowsO 3 X), .ow (.slice (some ⟨v0, 0, none⟩) X.length vc) 29 1 X.length (X.map (fun p : Value × List Int => p.1)), dkP (.slice at0 nt ct) b2 (10 * j)]) 0 (by omega) ⟨rfl, rfl, rfl, rfl, rfl, rfl, trivial⟩ (by repeat constructor) ?_
      rintro j hj K1 hK1
      (refine q_seq (q_region (ql_pure tabOk rfl rfl (q_nil (q_seq ?_)))))
      refine q_if rfl (fun hc => ?_) (fun hc => ?_)
      · have hj2 : j < 6 := by omega
        clear hc
        (refine q_skip (q_seq (q_block (q_seq (q_region (ql_pure tabOk rfl rfl (q_nil (q_seq (q_region (ql_pure tabOk rfl rfl (q_nil (q_seq ?_))))))))))); refine q_seq (q_region ?_); (iterate 3 refine ql_pure tabOk rfl rfl ?_); refine q_nil (q_block ?_))
        refine q_conv (H' := [.ow (.slice none 0 0) 3 1 0 (ints (nI [])), .ow (.slice (some ⟨x1, 0, none⟩) (manyN A) x2) 3 1 (manyN A) (ints (curveL A (manyN A))), un (rowsO 3 X), .ow (.slice (some ⟨v0, 0, none⟩) X.length vc) 29 1 X.length (X.map (fun p : Value × List Int => p.1)), dkP (.slice at0 nt ct) b2 (10 * j + 0)]) (fun w' hs => (Sat.ownil hs 3 1).sp (by repeat constructor)) ?_
        refine q_loop (σ := Value × List Nat) (fun s => s.2.length ≤ A.length ∧ ∀ i, i < s.2.length → wtO s.2 i < amW A i) (fun s => A.length - s.2.length) (fun s => [(7, (.slice (some ⟨v0, 0, none⟩) X.length vc)), (8, .pointer (some ⟨b2, 0, none⟩)), (9, .int .i64 (T : Nat)), (11, .int .i64 (cvV A T)), (17, (.slice (some ⟨x1, 0, none⟩) (manyN A) x2)), (141, .int .i64 j), (23, s.1), (24, .int .i64 (sumW s.2 s.2.length)), (143, (.slice (some ⟨v0, 0, none⟩) X.length vc)), (144, .int .i64 X.length), (145, .int .i64 s.2.length)]) (fun s => [.ow s.1 3 1 s.2.length (ints (nI s.2)), .ow (.slice (some ⟨x1, 0, none⟩) (manyN A) x2) 3 1 (manyN A) (ints (curveL A (manyN A))), un (rowsO 3 X), .ow (.slice (some ⟨v0, 0, none⟩) X.length vc) 29 1 X.length (X.map (fun p : Value × List Int => p.1)), dkP (.slice at0 nt ct) b2 (10 * j + s.2.length)]) (.slice none 0 0, []) ⟨by simp, by simp⟩ ⟨rfl, rfl, rfl, rfl, rfl, rfl, rfl, rfl, rfl, rfl, rfl, trivial⟩ (by repeat constructor) ?_
        rintro ⟨u, W⟩ ⟨hWl, hW⟩ K2 hK2
        dsimp only at hWl hW ⊢
        have hsn := sum_nn W W.length
        have hsb : sumW W W.length ≤ 21 * W.length := by
          have h1 : ∀ n, n ≤ W.length → sumW W n ≤ 21 * n := fun n => by
            induction n with
            | zero => intro _; exact Int.le_refl _
            | succ n ih =>
              intro hn
              have := ih (by omega)
              have h2 := hW n (by omega)
              have h3 := oA.row n (by omega)
              rw [sum_step]
              omega
          exact h1 _ (Nat.le_refl _)
        (refine q_seq (q_region (ql_pure tabOk rfl rfl (q_nil (q_seq ?_)))))
        refine q_if rfl (fun hc => ?_) (fun hc => ?_)
        · have hi : W.length < X.length := by omega
          clear hc
          obtain ⟨i, hin⟩ : ∃ i, i = W.length := ⟨_, rfl⟩
          rw [← hin] at hi hsn hsb ⊢
          obtain ⟨ra, rc, er⟩ := hXs _ (List.getElem_mem hi)
          have ea : X[i].2.length = amW A i := by unfold amW; rw [getA (by omega)]; simp [hA]
          have hrw := oA.row i (by omega)
          (refine q_skip (q_seq (q_block (q_seq (q_region ?_)))))
          refine ql_index tabOk rfl rfl rfl rfl rfl (by omega) (by omega) ?_
          skip
          refine ql_load1 (v := .slice ra (amW A i) rc) tabOk rfl rfl rfl (fun w hs => by
            have := own_cell (hs.mem (c := .ow (.slice (some ⟨v0, 0, none⟩) X.length vc) 29 1 X.length (X.map (fun p : Value × List Int => p.1))) (by repeat constructor)) i (by rw [List.length_map]; exact hi)
            rw [List.getElem_map, er, ea] at this
            rw [show (0 + (i : Int).toNat * 1) = i from by omega]
            exact this) ?_
          (refine ql_pure tabOk rfl rfl (q_nil (q_seq (q_region ?_))); (iterate 3 refine ql_pure tabOk rfl rfl ?_))
          refine ql_call (β := Int) (ψ := fun zq v => v = .int .i64 zq ∧ 0 ≤ zq ∧ zq ≤ (amW A i : Int) - 1) (L' := fun _ => [dkP (.slice at0 nt ct) b2 (10 * j + i + 1)]) tabOk [dkP (.slice at0 nt ct) b2 (10 * j + i)] _ (fun x => x = b2) rfl rfl rfl rfl (Sp.cons (by repeat constructor) (Sp.refl _)) (fun x hx => ⟨_, .head _, hx⟩) (fun w' hs => drw0 hbyb2 hs (by omega) (by omega)) ?_; rintro z _ ⟨rfl, hz⟩
          obtain ⟨z, rfl⟩ := Int.eq_ofNat_of_zero_le hz.1
          (refine ql_pure tabOk rfl rfl (q_nil (q_region (ql_pure tabOk rfl rfl (ql_pure tabOk rfl rfl ?_)))))
          refine ql_mkS 3 [.int .i64 (z : Nat)] rfl (by kernel_rfl) rfl (fun bn => ?_)
          skip
          refine ql_append (q := 1) (news := [.int .i64 (z : Nat)]) slI rfl rfl rfl (fun v' => by repeat constructor) (fun w' hs => ⟨_, _, Blk.rdN (hs.blk (b := bn) (by repeat constructor)) rfl⟩) (by simp [oneV]) (by omega) (by omega) (fun u' => ?_)
          (refine ql_pure tabOk rfl rfl (ql_pure tabOk rfl rfl (ql_ar tabOk rfl rfl rfl rfl (by omega) (by omega) (ql_pure tabOk rfl rfl (ql_pure tabOk rfl rfl (q_nil (q_blk (q_region (ql_ar tabOk rfl rfl rfl rfl (by omega) (by omega) (ql_pure tabOk rfl rfl (q_nil ?_)))))))))))
          have e1 := nI_snoc W z
          have el : (W ++ [z]).length = i + 1 := by simp [hin]
          exact hK2 (u', W ++ [z]) _ _ ⟨by simp only [el]; omega, fun m hm => by
            simp only [el] at hm
            unfold wtO
            by_cases c : m < W.length
            · rw [getD_app c]; exact hW m c
            · obtain rfl : m = W.length := by omega
              rw [getD_app2 (Nat.le_refl _), Nat.sub_self, ← hin]
              show z < amW A i
              omega⟩ (by simp only [el]; omega) ⟨rfl, rfl, rfl, rfl, rfl, rfl, rfl, lookI rfl (by simp only [el]; rw [hin, sum_snoc]), rfl, rfl, lookI rfl (by simp only [el]; omega), trivial⟩ (by simp only [el, e1]; rw [show 10 * j + (i + 1) = 10 * j + i + 1 from by omega]; repeat constructor)
        · have hWA : W.length = A.length := by omega
          clear hc hK2
          rw [hWA] at hW hsn hsb ⊢
          have hok : WOk A W := ⟨hWA, hW⟩
          obtain ⟨S, hS⟩ := Int.eq_ofNat_of_zero_le hsn
          rw [hS]
          have hsm := sum_many hok
          rw [hS] at hsm
          have hmb := miss_bd oA hok
          have hcs := cv_bd oA S
          have hb1 := cv_best oA hok (t := S) (by omega)
          (refine q_exit _ rfl (q_seq (q_region (ql_pure tabOk rfl rfl (ql_pure tabOk rfl rfl ?_)))))
          refine ql_callv (val := .tuple #[.int .i64 (missV A W), .int .i64 0]) tabOk rfl rfl rfl rfl (fun w hs => ?_) ?_; exact amiss_ok w 0 w.heap.size _ _ _ _ A W (by rw [hA]; exact rowsO_rd (hs.mem (c := un (rowsO 3 X)) (by repeat constructor)) (hs.mem (c := .ow (.slice (some ⟨v0, 0, none⟩) X.length vc) 29 1 X.length (X.map (fun p : Value × List Int => p.1))) (by repeat constructor))) (hs.rdI (v := u) (l := nI W) (t := 3) (n := A.length) (by repeat constructor) (by rw [nI_len, hWA])) oA hok
          (refine ql_pure tabOk rfl rfl (ql_ext tabOk rfl rfl rfl (ql_ext tabOk rfl rfl rfl (ql_pure tabOk rfl rfl (ql_pure tabOk rfl rfl (q_nil (q_seq (q_region ?_))))))); (iterate 3 refine ql_pure tabOk rfl rfl ?_))
          refine ql_call (β := Int) (ψ := fun zq v => v = .int .i64 zq ∧ 0 ≤ zq ∧ zq ≤ 100 - 1) (L' := fun _ => [dkP (.slice at0 nt ct) b2 (10 * j + A.length + 1)]) tabOk [dkP (.slice at0 nt ct) b2 (10 * j + A.length)] _ (fun x => x = b2) rfl rfl rfl rfl (Sp.cons (by repeat constructor) (Sp.refl _)) (fun x hx => ⟨_, .head _, hx⟩) (fun w' hs => drw0 hbyb2 hs (by omega) (by omega)) ?_; rintro p _ ⟨rfl, hp⟩
          skip
          refine ql_callv (val := .tuple #[.bool (hoV A W p), .int .i64 0]) tabOk rfl rfl rfl rfl (fun w hs => ?_) ?_; exact aholds_ok w 0 w.heap.size _ _ _ _ A W p (by rw [hA]; exact rowsO_rd (hs.mem (c := un (rowsO 3 X)) (by repeat constructor)) (hs.mem (c := .ow (.slice (some ⟨v0, 0, none⟩) X.length vc) 29 1 X.length (X.map (fun p : Value × List Int => p.1))) (by repeat constructor))) (hs.rdI (v := u) (l := nI W) (t := 3) (n := A.length) (by repeat constructor) (by rw [nI_len, hWA])) oA hok hp.1
          by_cases hST : S ≤ T
          · have hb2 := cv_best oA hok (t := T) (by omega)
            cases hh : hoV A W p with
            | true =>
              have he := ho_eq oA hok hp.1 hh hS
              (refine ql_pure tabOk rfl rfl (ql_ext tabOk rfl rfl rfl (ql_ext tabOk rfl rfl rfl (ql_pure tabOk rfl rfl (ql_pure tabOk rfl rfl (q_nil (q_seq (q_region (ql_pure tabOk rfl rfl (ql_neqF tabOk rfl rfl rfl (by omega) (ql_pure tabOk rfl rfl (ql_gyes rfl ?_))))))))))); refine ql_pure tabOk rfl rfl (ql_gyes rfl (ql_neqF tabOk rfl rfl rfl (by omega) (ql_pure tabOk rfl rfl (ql_pure tabOk rfl rfl (ql_gyes rfl (ql_pure tabOk rfl rfl (ql_gyes rfl (ql_pure tabOk rfl rfl (ql_gyes rfl (ql_pure tabOk rfl rfl (ql_gyes rfl ?_))))))))))); refine ql_geqF tabOk rfl rfl rfl (by omega) (ql_pure tabOk rfl rfl (ql_pure tabOk rfl rfl (ql_gyes rfl (ql_pure tabOk rfl rfl (ql_gyes rfl (ql_pure tabOk rfl rfl (ql_gyes rfl (ql_pure tabOk rfl rfl (ql_gyes rfl ?_))))))))))
              refine ql_index tabOk rfl rfl rfl rfl rfl (by omega) (by omega) ?_
              (refine ql_gyes rfl ?_)
              refine ql_load1 (v := .int .i64 (cvV A S)) tabOk rfl rfl rfl (fun w hs => by have := RdI.at (hs.rdI (v := (.slice (some ⟨x1, 0, none⟩) (manyN A) x2)) (l := curveL A (manyN A)) (t := 3) (n := manyN A) (by repeat constructor) (by rw [curveL_len])) S (by rw [curveL_len]; omega); rw [curveG] at this; exact this) ?_
              (refine ql_gyes rfl (ql_lssF tabOk rfl rfl rfl (by omega) (ql_pure tabOk rfl rfl (ql_pure tabOk rfl rfl (ql_gyes rfl (ql_pure tabOk rfl rfl (ql_gyes rfl (ql_pure tabOk rfl rfl (ql_gyes rfl (ql_leqT tabOk rfl rfl rfl (by omega) (ql_gyes rfl (ql_pure tabOk rfl rfl ?_))))))))))); refine ql_gyes rfl (ql_pure tabOk rfl rfl (ql_gyes rfl (ql_pure tabOk rfl rfl (ql_gyes rfl (ql_lssF tabOk rfl rfl rfl (by omega) (ql_gyes rfl ?_)))))); (iterate 3 refine ql_pure tabOk rfl rfl ?_); refine ql_gyes rfl (ql_pure tabOk rfl rfl (ql_gyes rfl (ql_pure tabOk rfl rfl (ql_gyes rfl (ql_pure tabOk rfl rfl (ql_gyes rfl (ql_pure tabOk rfl rfl (ql_gyes rfl (ql_pure tabOk rfl rfl (ql_gyes rfl ?_)))))))))))
              refine ql_index tabOk rfl rfl rfl rfl rfl (by omega) (by omega) ?_
              (refine ql_gyes rfl ?_)
              refine ql_load1 (v := .int .i64 (cvV A S)) tabOk rfl rfl rfl (fun w hs => by have := RdI.at (hs.rdI (v := (.slice (some ⟨x1, 0, none⟩) (manyN A) x2)) (l := curveL A (manyN A)) (t := 3) (n := manyN A) (by repeat constructor) (by rw [curveL_len])) S (by rw [curveL_len]; omega); rw [curveG] at this; exact this) ?_
              (refine ql_gyes rfl (ql_neqF tabOk rfl rfl rfl (by omega) (ql_gyes rfl (ql_pure tabOk rfl rfl (ql_pure tabOk rfl rfl (q_nil (q_cond_false rfl (q_skip (q_blk (q_region (ql_ar tabOk rfl rfl rfl rfl (by omega) (by omega) (ql_pure tabOk rfl rfl ?_))))))))))); refine q_nil ?_)
              refine q_conv (H' := [.ow (.slice (some ⟨x1, 0, none⟩) (manyN A) x2) 3 1 (manyN A) (ints (curveL A (manyN A))), un (rowsO 3 X), .ow (.slice (some ⟨v0, 0, none⟩) X.length vc) 29 1 X.length (X.map (fun p : Value × List Int => p.1)), dkP (.slice at0 nt ct) b2 (10 * (j + 1))]) (fun w' hs => (Sat.dk (K' := 10 * (j + 1)) (hs.sp (H' := [dkP (.slice at0 nt ct) b2 (10 * j + A.length + 1), .ow (.slice (some ⟨x1, 0, none⟩) (manyN A) x2) 3 1 (manyN A) (ints (curveL A (manyN A))), un (rowsO 3 X), .ow (.slice (some ⟨v0, 0, none⟩) X.length vc) 29 1 X.length (X.map (fun p : Value × List Int => p.1))]) (by repeat constructor)) (by omega)).sp (by repeat constructor)) ?_
              exact hK1 (j + 1) _ _ (by omega) (by omega) ⟨rfl, rfl, rfl, rfl, rfl, rfl, trivial⟩ (by repeat constructor)
            | false =>
              (refine ql_pure tabOk rfl rfl (ql_ext tabOk rfl rfl rfl (ql_ext tabOk rfl rfl rfl (ql_pure tabOk rfl rfl (ql_pure tabOk rfl rfl (q_nil (q_seq (q_region (ql_pure tabOk rfl rfl (ql_neqF tabOk rfl rfl rfl (by omega) (ql_pure tabOk rfl rfl (ql_gyes rfl ?_))))))))))); refine ql_pure tabOk rfl rfl (ql_gyes rfl (ql_neqF tabOk rfl rfl rfl (by omega) (ql_pure tabOk rfl rfl (ql_pure tabOk rfl rfl (ql_gyes rfl (ql_pure tabOk rfl rfl (ql_gyes rfl (ql_pure tabOk rfl rfl (ql_gyes rfl (ql_pure tabOk rfl rfl (ql_gyes rfl ?_))))))))))); refine ql_geqF tabOk rfl rfl rfl (by omega) (ql_pure tabOk rfl rfl (ql_pure tabOk rfl rfl (ql_gyes rfl (ql_pure tabOk rfl rfl (ql_gyes rfl (ql_pure tabOk rfl rfl (ql_gyes rfl (ql_pure tabOk rfl rfl (ql_gyes rfl ?_))))))))))
              refine ql_index tabOk rfl rfl rfl rfl rfl (by omega) (by omega) ?_
              (refine ql_gyes rfl ?_)
              refine ql_load1 (v := .int .i64 (cvV A S)) tabOk rfl rfl rfl (fun w hs => by have := RdI.at (hs.rdI (v := (.slice (some ⟨x1, 0, none⟩) (manyN A) x2)) (l := curveL A (manyN A)) (t := 3) (n := manyN A) (by repeat constructor) (by rw [curveL_len])) S (by rw [curveL_len]; omega); rw [curveG] at this; exact this) ?_
              (refine ql_gyes rfl (ql_lssF tabOk rfl rfl rfl (by omega) (ql_pure tabOk rfl rfl (ql_pure tabOk rfl rfl (ql_gyes rfl (ql_pure tabOk rfl rfl (ql_gyes rfl (ql_pure tabOk rfl rfl (ql_gyes rfl (ql_leqT tabOk rfl rfl rfl (by omega) (ql_gyes rfl (ql_pure tabOk rfl rfl ?_))))))))))); refine ql_gyes rfl (ql_pure tabOk rfl rfl (ql_gyes rfl (ql_pure tabOk rfl rfl (ql_gyes rfl (ql_lssF tabOk rfl rfl rfl (by omega) (ql_gyes rfl ?_)))))); (iterate 3 refine ql_pure tabOk rfl rfl ?_); refine ql_gyes rfl (ql_pure tabOk rfl rfl (ql_gyes rfl (ql_pure tabOk rfl rfl ?_))); (iterate 6 refine ql_gno rfl rfl rfl ?_); refine ql_gyes rfl (ql_pure tabOk rfl rfl (ql_pure tabOk rfl rfl (q_nil (q_cond_false rfl (q_skip (q_blk (q_region (ql_ar tabOk rfl rfl rfl rfl (by omega) (by omega) (ql_pure tabOk rfl rfl (q_nil ?_)))))))))))
              refine q_conv (H' := [.ow (.slice (some ⟨x1, 0, none⟩) (manyN A) x2) 3 1 (manyN A) (ints (curveL A (manyN A))), un (rowsO 3 X), .ow (.slice (some ⟨v0, 0, none⟩) X.length vc) 29 1 X.length (X.map (fun p : Value × List Int => p.1)), dkP (.slice at0 nt ct) b2 (10 * (j + 1))]) (fun w' hs => (Sat.dk (K' := 10 * (j + 1)) (hs.sp (H' := [dkP (.slice at0 nt ct) b2 (10 * j + A.length + 1), .ow (.slice (some ⟨x1, 0, none⟩) (manyN A) x2) 3 1 (manyN A) (ints (curveL A (manyN A))), un (rowsO 3 X), .ow (.slice (some ⟨v0, 0, none⟩) X.length vc) 29 1 X.length (X.map (fun p : Value × List Int => p.1))]) (by repeat constructor)) (by omega)).sp (by repeat constructor)) ?_
              exact hK1 (j + 1) _ _ (by omega) (by omega) ⟨rfl, rfl, rfl, rfl, rfl, rfl, trivial⟩ (by repeat constructor)
          · cases hh : hoV A W p with
            | true =>
              have he := ho_eq oA hok hp.1 hh hS
              (refine ql_pure tabOk rfl rfl (ql_ext tabOk rfl rfl rfl (ql_ext tabOk rfl rfl rfl (ql_pure tabOk rfl rfl (ql_pure tabOk rfl rfl (q_nil (q_seq (q_region (ql_pure tabOk rfl rfl (ql_neqF tabOk rfl rfl rfl (by omega) (ql_pure tabOk rfl rfl (ql_gyes rfl ?_))))))))))); refine ql_pure tabOk rfl rfl (ql_gyes rfl (ql_neqF tabOk rfl rfl rfl (by omega) (ql_pure tabOk rfl rfl (ql_pure tabOk rfl rfl (ql_gyes rfl (ql_pure tabOk rfl rfl (ql_gyes rfl (ql_pure tabOk rfl rfl (ql_gyes rfl (ql_pure tabOk rfl rfl (ql_gyes rfl ?_))))))))))); refine ql_geqF tabOk rfl rfl rfl (by omega) (ql_pure tabOk rfl rfl (ql_pure tabOk rfl rfl (ql_gyes rfl (ql_pure tabOk rfl rfl (ql_gyes rfl (ql_pure tabOk rfl rfl (ql_gyes rfl (ql_pure tabOk rfl rfl (ql_gyes rfl ?_))))))))))
              refine ql_index tabOk rfl rfl rfl rfl rfl (by omega) (by omega) ?_
              (refine ql_gyes rfl ?_)
              refine ql_load1 (v := .int .i64 (cvV A S)) tabOk rfl rfl rfl (fun w hs => by have := RdI.at (hs.rdI (v := (.slice (some ⟨x1, 0, none⟩) (manyN A) x2)) (l := curveL A (manyN A)) (t := 3) (n := manyN A) (by repeat constructor) (by rw [curveL_len])) S (by rw [curveL_len]; omega); rw [curveG] at this; exact this) ?_
              (refine ql_gyes rfl (ql_lssF tabOk rfl rfl rfl (by omega) (ql_pure tabOk rfl rfl (ql_pure tabOk rfl rfl (ql_gyes rfl (ql_pure tabOk rfl rfl (ql_gyes rfl (ql_pure tabOk rfl rfl (ql_gyes rfl (ql_leqF tabOk rfl rfl rfl (by omega) (ql_gyes rfl (ql_pure tabOk rfl rfl ?_))))))))))); (iterate 3 refine ql_gno rfl rfl rfl ?_); refine ql_gyes rfl ?_; (iterate 3 refine ql_pure tabOk rfl rfl ?_); refine ql_gyes rfl (ql_pure tabOk rfl rfl (ql_gyes rfl (ql_pure tabOk rfl rfl (ql_gyes rfl (ql_pure tabOk rfl rfl (ql_gyes rfl (ql_pure tabOk rfl rfl (ql_gyes rfl (ql_pure tabOk rfl rfl (ql_gyes rfl ?_)))))))))))
              refine ql_index tabOk rfl rfl rfl rfl rfl (by omega) (by omega) ?_
              (refine ql_gyes rfl ?_)
              refine ql_load1 (v := .int .i64 (cvV A S)) tabOk rfl rfl rfl (fun w hs => by have := RdI.at (hs.rdI (v := (.slice (some ⟨x1, 0, none⟩) (manyN A) x2)) (l := curveL A (manyN A)) (t := 3) (n := manyN A) (by repeat constructor) (by rw [curveL_len])) S (by rw [curveL_len]; omega); rw [curveG] at this; exact this) ?_
              (refine ql_gyes rfl (ql_neqF tabOk rfl rfl rfl (by omega) (ql_gyes rfl (ql_pure tabOk rfl rfl (ql_pure tabOk rfl rfl (q_nil (q_cond_false rfl (q_skip (q_blk (q_region (ql_ar tabOk rfl rfl rfl rfl (by omega) (by omega) (ql_pure tabOk rfl rfl ?_))))))))))); refine q_nil ?_)
              refine q_conv (H' := [.ow (.slice (some ⟨x1, 0, none⟩) (manyN A) x2) 3 1 (manyN A) (ints (curveL A (manyN A))), un (rowsO 3 X), .ow (.slice (some ⟨v0, 0, none⟩) X.length vc) 29 1 X.length (X.map (fun p : Value × List Int => p.1)), dkP (.slice at0 nt ct) b2 (10 * (j + 1))]) (fun w' hs => (Sat.dk (K' := 10 * (j + 1)) (hs.sp (H' := [dkP (.slice at0 nt ct) b2 (10 * j + A.length + 1), .ow (.slice (some ⟨x1, 0, none⟩) (manyN A) x2) 3 1 (manyN A) (ints (curveL A (manyN A))), un (rowsO 3 X), .ow (.slice (some ⟨v0, 0, none⟩) X.length vc) 29 1 X.length (X.map (fun p : Value × List Int => p.1))]) (by repeat constructor)) (by omega)).sp (by repeat constructor)) ?_
              exact hK1 (j + 1) _ _ (by omega) (by omega) ⟨rfl, rfl, rfl, rfl, rfl, rfl, trivial⟩ (by repeat constructor)
            | false =>
              (refine ql_pure tabOk rfl rfl (ql_ext tabOk rfl rfl rfl (ql_ext tabOk rfl rfl rfl (ql_pure tabOk rfl rfl (ql_pure tabOk rfl rfl (q_nil (q_seq (q_region (ql_pure tabOk rfl rfl (ql_neqF tabOk rfl rfl rfl (by omega) (ql_pure tabOk rfl rfl (ql_gyes rfl ?_))))))))))); refine ql_pure tabOk rfl rfl (ql_gyes rfl (ql_neqF tabOk rfl rfl rfl (by omega) (ql_pure tabOk rfl rfl (ql_pure tabOk rfl rfl (ql_gyes rfl (ql_pure tabOk rfl rfl (ql_gyes rfl (ql_pure tabOk rfl rfl (ql_gyes rfl (ql_pure tabOk rfl rfl (ql_gyes rfl ?_))))))))))); refine ql_geqF tabOk rfl rfl rfl (by omega) (ql_pure tabOk rfl rfl (ql_pure tabOk rfl rfl (ql_gyes rfl (ql_pure tabOk rfl rfl (ql_gyes rfl (ql_pure tabOk rfl rfl (ql_gyes rfl (ql_pure tabOk rfl rfl (ql_gyes rfl ?_))))))))))
              refine ql_index tabOk rfl rfl rfl rfl rfl (by omega) (by omega) ?_
              (refine ql_gyes rfl ?_)
              refine ql_load1 (v := .int .i64 (cvV A S)) tabOk rfl rfl rfl (fun w hs => by have := RdI.at (hs.rdI (v := (.slice (some ⟨x1, 0, none⟩) (manyN A) x2)) (l := curveL A (manyN A)) (t := 3) (n := manyN A) (by repeat constructor) (by rw [curveL_len])) S (by rw [curveL_len]; omega); rw [curveG] at this; exact this) ?_
              (refine ql_gyes rfl (ql_lssF tabOk rfl rfl rfl (by omega) (ql_pure tabOk rfl rfl (ql_pure tabOk rfl rfl (ql_gyes rfl (ql_pure tabOk rfl rfl (ql_gyes rfl (ql_pure tabOk rfl rfl (ql_gyes rfl (ql_leqF tabOk rfl rfl rfl (by omega) (ql_gyes rfl (ql_pure tabOk rfl rfl ?_))))))))))); (iterate 3 refine ql_gno rfl rfl rfl ?_); refine ql_gyes rfl ?_; (iterate 3 refine ql_pure tabOk rfl rfl ?_); refine ql_gyes rfl (ql_pure tabOk rfl rfl (ql_gyes rfl (ql_pure tabOk rfl rfl ?_))); (iterate 6 refine ql_gno rfl rfl rfl ?_); refine ql_gyes rfl (ql_pure tabOk rfl rfl (ql_pure tabOk rfl rfl (q_nil (q_cond_false rfl (q_skip (q_blk (q_region (ql_ar tabOk rfl rfl rfl rfl (by omega) (by omega) (ql_pure tabOk rfl rfl (q_nil ?_)))))))))))
              refine q_conv (H' := [.ow (.slice (some ⟨x1, 0, none⟩) (manyN A) x2) 3 1 (manyN A) (ints (curveL A (manyN A))), un (rowsO 3 X), .ow (.slice (some ⟨v0, 0, none⟩) X.length vc) 29 1 X.length (X.map (fun p : Value × List Int => p.1)), dkP (.slice at0 nt ct) b2 (10 * (j + 1))]) (fun w' hs => (Sat.dk (K' := 10 * (j + 1)) (hs.sp (H' := [dkP (.slice at0 nt ct) b2 (10 * j + A.length + 1), .ow (.slice (some ⟨x1, 0, none⟩) (manyN A) x2) 3 1 (manyN A) (ints (curveL A (manyN A))), un (rowsO 3 X), .ow (.slice (some ⟨v0, 0, none⟩) X.length vc) 29 1 X.length (X.map (fun p : Value × List Int => p.1))]) (by repeat constructor)) (by omega)).sp (by repeat constructor)) ?_
              exact hK1 (j + 1) _ _ (by omega) (by omega) ⟨rfl, rfl, rfl, rfl, rfl, rfl, trivial⟩ (by repeat constructor)
      · obtain rfl : j = 6 := by omega
        (refine q_exit _ rfl (q_seq (q_region ?_)))
        refine ql_callv (val := .bool true) tabOk rfl rfl rfl rfl (fun w hs => ?_) ?_; exact rawake_ca w
        (refine ql_pure tabOk rfl rfl (q_nil (q_ret ?_)))
        refine q_fin tabOk rfl (by repeat constructor) fun w hs => ?_
        exact ⟨rfl, hs.chg0⟩
end Go.Proofs.YtopdmadgkjdgcaaGreat
